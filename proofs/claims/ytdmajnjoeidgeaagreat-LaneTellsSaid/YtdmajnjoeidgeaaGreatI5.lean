/-
  Texts of the logic and of the layer,in one module (part 5).
-/
import Derived.Test.YtdmajnjoeidgeaaGreatI4
import Derived.WalkKit
set_option linter.unusedVariables false
set_option linter.unusedSimpArgs false
namespace Go.Proofs.YtdmajnjoeidgeaaGreat
open Go Go.Ab Go.Fl Go.Shelf Go.Proofs Go.MapKept
attribute [local irreducible] VC AW bR bQ fT mH BC nK
set_option maxHeartbeats 4000000
abbrev zM1 (f : jD) (m : Mk) (b : AB) : Hp := [.cells (zT6 f m 6 7 8 9),.mapO (m.cl.map kI) (nX m.shs.length),.mapO (m.rc.map kI) (xM m.rbs.length),.mapO (m.zk.map kI) (xM m.zk.length),.mapO m.nm (nX m.zs.length),.mapO [] [],.arr (nC m.zs) 5,.arr (pR m.aps) 2,.arr (pH m.shs) 2,.arr (kD m.rbs) 2,b]
theorem KD (f : jD) : bQ Tryz.prog 54 [.agg (jM f)] [] (.ptr 0 0) [.cells (jM f ++ [.nils,.nils,.nils,.nils,.mp 1,.mp 2,.mp 3,.mp 4,.mp 5,.nils,.nils]),.mapO [] [],.mapO [] [],.mapO [] [],.mapO [] [],.mapO [] []] := by
  refine dD T Tryz.func54 rfl rfl rfl rfl ?_
  (repeat' (first|refine wS ?_|refine wR ?_|(refine rg 0 (bH (bN rfl rfl) rfl (aV ?_)))|(refine rg 1 (lW T rfl (vV (by exact gG T rfl rfl rfl rfl) ?_));refine bH (by exact lR) rfl ?_;refine bH (by exact lR) rfl ?_;refine bH (by exact lR) rfl ?_;refine bH (by exact lR) rfl ?_;refine bH (by exact lR) rfl ?_;refine vV (by exact gG T rfl rfl rfl rfl) ?_;refine bH (bN rfl rfl) rfl (aV ?_))|refine nZ ?_));all_goals exact ⟨.inl rfl,[6,1,2,3,4,5],_,rfl,rfl,rfl,⟨.inr rfl,.inr rfl,.inr rfl,.inr rfl,.inr rfl,.inr rfl,trivial⟩,by decide,gL⟩
theorem TP (l : List UInt8) : V7 (.s l) (kS l) := V7.v _
theorem FD (l : List UInt8) : IsKey .string (kS l) := by simp [IsKey]
theorem zD4 : mU Tryz.prog 9 (IsKey .string) := mU.plain (by kernel_rfl)
theorem TH : Tryz.prog.underlying 146 = some (.map 9 3) := by kernel_rfl
theorem EV (m : Mk) : ∀ q,q ∈ m.nm → IsKey .string q := by
  intro q hq;unfold Mk.nm at hq;obtain ⟨n,_,rfl⟩ := aQ.1 hq;exact FD _
theorem zL8 {m : Mk} {k : Value} (h : k ∈ m.nm) : ∃ i : Nat,i < m.zs.length ∧ m.nm[i]? = some k := by
  obtain ⟨i,hi⟩ := cU.1 h;refine ⟨i,?_,hi⟩;have := (aA.1 hi).1;unfold Mk.nm at this;simpa using this
theorem OI (l : List IY) (z : IY) : ((nC l).drop 0).take l.length ++ [BR z] = nC (l ++ [z]) := by
  rw [fJ,bC (by simp)]
  simp
theorem XZ (m : Mk) (z : IY) : m.nm ++ [kS z.1] = { m with zs := m.zs ++ [z] }.nm := by unfold Mk.nm;simp
theorem QY (f : jD) (m : Mk) (z : IY) (hnm : m.nm.Nodup) (hzk : m.zk.Nodup) (hzl : z.2.1.length ≤ 9223372036854775807) :
    fT Tryz.prog 59 [.ptr 0 0,.agg (BR z)] (YC f m) (fun r o => ∃ e,r = .i e ∧ ((e ≠ 0 ∧ o = YC f m) ∨ (e = 0 ∧ kS z.1 ∉ m.nm ∧ ∃ zk,zk.Nodup ∧ o = zM0 f { m with zs := m.zs ++ [z],zk := zk } 10 7 8 9 .gone (.arr (pR m.aps) 2) (.arr (pH m.shs) 2) (.arr (kD m.rbs) 2) ++ [.arr (nC (m.zs ++ [z])) 5]))) := by
  obtain ⟨nme,cs,sp,kp,sh⟩ := z;dsimp only at *;have hlen : (aI cs).length = cs.length := aR _;have hln : m.zs.length + 1 = (m.zs ++ [(nme,cs,sp,kp,sh)]).length := by simp
  refine mM T Tryz.func59 rfl rfl rfl rfl ?_;by_cases hn : kS nme ∈ m.nm
  · obtain ⟨i,hi,hi2⟩ := zL8 hn;have hv := EP hi
    (repeat' (first|refine wS ?_|refine wR ?_|refine wT ?_|(refine rg 0 (bH (bN rfl rfl) rfl (aV ?_)))|(refine aN (id := 1) 93 zV0 [14,15,16,17,18,19,20,13,21,22,5] zV6 bM rfl (by decide +kernel) (dN rfl (dV rfl (by exact cK rfl rfl) ?_));refine dP T rfl (dO T rfl (dP T rfl (dO T rfl (dV rfl (by exact uE TH zD4 rfl rfl (TP _) rfl (EV _) (FD _) hnm hi2 hv) ?_))));refine dN rfl (dV rfl (by exact eB rfl rfl) ?_);refine dV rfl (by exact eB rfl rfl) ?_;refine dV rfl (eM rfl) (dE ?_);refine aV ?_)|(refine rg 2 (mV ?_))|(refine rg 3 (aV ?_))|refine nZ ?_));all_goals first | (exfalso;omega) | exact ⟨_,_,⟨_,rfl,.inl ⟨by decide,rfl⟩⟩,.inl rfl,[0,1,2,3,4,5,6,7,8,9],_,rfl,rfl,rfl,⟨.inr rfl,.inr (aD rfl rfl rfl (bT _)),.inr (aD rfl rfl rfl (bS _)),.inr (aD rfl rfl rfl (bS _)),.inr (aD rfl rfl rfl (bT _)),.inr rfl,.inr (aC rfl rfl (eC _)),.inr (aC rfl rfl (eV _)),.inr (aC rfl rfl (eT _)),.inr (aC rfl rfl (eD _)),trivial⟩,by decide,I9⟩
  · (repeat' (first|refine wS ?_|refine wB ?_|refine wK ?_|refine wR ?_|refine iB rfl ?_|(refine wC rfl (fun hb => ?_) (fun hb => ?_) <;> (((try simp only [nm] at hb);try (exfalso;omega))))|(refine rg 0 (bH (bN rfl rfl) rfl (aV ?_)))|(refine aN (id := 1) 93 zV0 [14,15,16,17,18,19,20,13,21,22,5] zV6 bM rfl (by decide +kernel) (dN rfl (dV rfl (by exact cK rfl rfl) ?_));refine dP T rfl (dO T rfl (dP T rfl (dL T ?_)));refine dV rfl (by exact sD (zA := .i 0) TH zD4 T4 (fun _ _ _ => iI _) rfl rfl (TP _) rfl (EV _) (FD _) hn) ?_;refine dN rfl (dV rfl (by exact eB rfl rfl) ?_);refine dV rfl (by exact eB rfl rfl) ?_;refine dV rfl (eM rfl) (dE ?_);refine aV ?_)|(refine rg 2 (mV ?_))|(refine rg 4 (mW rfl (nV ?_));refine fW T rfl (eK T rfl (qW T rfl (vV (gS rfl rfl) ?_))))|(refine rg 5 (aV ?_))|(refine rg 6 (eK T rfl (qW T rfl (mV ?_))))|(refine nZ ?_)));all_goals first | (exfalso;omega) | exact ⟨_,_,⟨_,rfl,.inl ⟨by decide,rfl⟩⟩,.inl rfl,[0,1,2,3,4,5,6,7,8,9],_,rfl,rfl,rfl,⟨.inr rfl,.inr (aD rfl rfl rfl (bT _)),.inr (aD rfl rfl rfl (bS _)),.inr (aD rfl rfl rfl (bS _)),.inr (aD rfl rfl rfl (bT _)),.inr rfl,.inr (aC rfl rfl (eC _)),.inr (aC rfl rfl (eV _)),.inr (aC rfl rfl (eT _)),.inr (aC rfl rfl (eD _)),trivial⟩,by decide,I9⟩ | skip
    all_goals
      refine bV (X := {k : Nat // k ≤ cs.length}) (fun k => [(0,.ptr 0 0),(3,.ptr 10 0),(32,.rowE (aI cs) 1),(33,.i (aI cs).length),(34,.i k.1)]) (fun _ => zM1 f m (.cells (BR (nme,cs,sp,kp,sh)))) (fun k => cs.length - k.1) ⟨0,by omega⟩ ⟨[0,1,2,3,4,5,6,7,8,9,10],rfl,(by repeat first|exact trivial|refine ⟨rfl,?_⟩),⟨.inr rfl,.inr (aD rfl rfl rfl (bT _)),.inr (aD rfl rfl rfl (bS _)),.inr (aD rfl rfl rfl (bS _)),.inr (aD rfl rfl rfl (bT _)),.inr rfl,.inr (aC rfl rfl (eC _)),.inr (aC rfl rfl (eV _)),.inr (aC rfl rfl (eT _)),.inr (aC rfl rfl (eD _)),.inr rfl,trivial⟩,by decide,I8 10⟩ ?_
      rintro ⟨k,hk⟩;dsimp only;by_cases hlt : k < cs.length
      · have q1 := eY (l := cs) (j := (k : Int)) 0 hlt rfl;have hk2 := J1 f (zL9 m) (cs.getD k 0);have hzo := WH (xZ f (cs.getD k 0));generalize cs.getD k 0 = c at *;generalize xZ f c = x at *;generalize Z6 f c = y at *;by_cases hm : c ∈ m.zk
        · obtain ⟨i,hi,hi2⟩ := vU hm;have hv := JM hi
          (repeat' (first|refine wS ?_|refine wB ?_|refine wK ?_|refine wR ?_|refine wT ?_|(refine rg 7 (vV (aL rfl rfl (by omega)) ?_))|(refine rg 8 (vV (ix T rfl (by omega) (aE _) q1) (lW T rfl (aV ?_))))|(refine rg 9 (eX rfl (vV (by exact gB rfl rfl hk2 (.cons (rG rfl) (.cons (.v _) .nil)) rfl rfl) ?_));refine mW rfl (xW rfl (xW rfl (iZ ?_))))|(refine rg 10 (mW rfl (gI rfl rfl (hzo) (.cons (.v _) .nil) (by rintro _ ⟨_,rfl⟩;rfl) rfl ?_));rintro _ ⟨b,rfl⟩;dsimp only [gJ];refine vV (bB rfl) (mV ?_);refine aO rfl rfl ?_ ?_<;>(intro hb;rw [hb];(try simp only [nm] at hb);try (exfalso;omega));(all_goals first|(refine gT (mW rfl (gT (nV ?_)));refine gT (fW T rfl (gT (lW T rfl (gT (mW rfl (gT (vV (by exact gR zC jL rfl rfl (gC _) rfl (iK _) (eR _) (tW hzk) hi2 hv) ?_))))))))|(iterate 6 refine gF ?_));(all_goals (refine pV ?_)))|(refine rg 11 (aV ?_))|refine nZ ?_));all_goals first | (exfalso;omega) | exact ⟨_,_,⟨_,rfl,.inl ⟨by decide,rfl⟩⟩,.inl rfl,[0,1,2,3,4,5,6,7,8,9],_,rfl,rfl,rfl,⟨.inr rfl,.inr (aD rfl rfl rfl (bT _)),.inr (aD rfl rfl rfl (bS _)),.inr (aD rfl rfl rfl (bS _)),.inr (aD rfl rfl rfl (bT _)),.inr rfl,.inr (aC rfl rfl (eC _)),.inr (aC rfl rfl (eV _)),.inr (aC rfl rfl (eT _)),.inr (aC rfl rfl (eD _)),trivial⟩,by decide,I9⟩
        · (repeat' (first|refine wS ?_|refine wB ?_|refine wK ?_|refine wR ?_|refine iY rfl ?_|refine iB rfl ?_|(refine rg 7 (vV (aL rfl rfl (by omega)) ?_))|(refine rg 8 (vV (ix T rfl (by omega) (aE _) q1) (lW T rfl (aV ?_))))|(refine rg 9 (eX rfl (vV (by exact gB rfl rfl hk2 (.cons (rG rfl) (.cons (.v _) .nil)) rfl rfl) ?_));refine mW rfl (xW rfl (xW rfl (iZ ?_))))|(refine rg 10 (mW rfl (gI rfl rfl (hzo) (.cons (.v _) .nil) (by rintro _ ⟨_,rfl⟩;rfl) rfl ?_));rintro _ ⟨b,rfl⟩;dsimp only [gJ];refine vV (bB rfl) (mV ?_);refine aO rfl rfl (fun hb => ?_) (fun hb => ?_) <;> ((rw [hb];(try simp only [nm] at hb);try ((exfalso;omega);done)));(all_goals first|(refine gT (mW rfl (gT (nV ?_)));refine gT (fW T rfl (gT (lW T rfl (gT (mW rfl (gT ?_))))));refine vV (by exact nI (zA := .b false) zC jL LS (fun _ _ _ => iI _) rfl rfl (gC _) rfl (iK _) (eR _) (fun e => hm (nP.1 e))) ?_)|(iterate 6 refine gF ?_));(all_goals (refine pV ?_)))|(refine rg 11 (aV ?_))|(refine rg 12 (vV (bP rfl rfl (by omega) (by omega)) (mV ?_)))|(refine nZ ?_)));all_goals first | (exfalso;omega) | exact ⟨_,_,⟨_,rfl,.inl ⟨by decide,rfl⟩⟩,.inl rfl,[0,1,2,3,4,5,6,7,8,9],_,rfl,rfl,rfl,⟨.inr rfl,.inr (aD rfl rfl rfl (bT _)),.inr (aD rfl rfl rfl (bS _)),.inr (aD rfl rfl rfl (bS _)),.inr (aD rfl rfl rfl (bT _)),.inr rfl,.inr (aC rfl rfl (eC _)),.inr (aC rfl rfl (eV _)),.inr (aC rfl rfl (eT _)),.inr (aC rfl rfl (eD _)),trivial⟩,by decide,I9⟩ | exact ⟨⟨k + 1,by omega⟩,by dsimp only;omega,⟨[0,1,2,3,4,5,6,7,8,9,10],rfl,(by repeat first|exact trivial|refine ⟨rfl,?_⟩),⟨.inr rfl,.inr (aD rfl rfl rfl (bT _)),.inr (aD rfl rfl rfl (bS _)),.inr (aD rfl rfl rfl (bS _)),.inr (aD rfl rfl rfl (bT _)),.inr rfl,.inr (aC rfl rfl (eC _)),.inr (aC rfl rfl (eV _)),.inr (aC rfl rfl (eT _)),.inr (aC rfl rfl (eD _)),.inr rfl,trivial⟩,by decide,I8 10⟩⟩
      · (repeat' (first|refine wS ?_|refine wB ?_|refine wE ?_|refine iB rfl ?_|(refine rg 7 (vV (bG rfl rfl (by omega)) ?_))|(refine rg 13 (eK T rfl (qW T rfl (mV ?_))))|(refine nZ ?_)));all_goals try (exfalso;omega)
        refine bV (X := {p : Nat × List Int // p.1 ≤ cs.length ∧ p.2.Nodup}) (fun p => [(0,.ptr 0 0),(3,.ptr 10 0),(57,.rowE (aI cs) 1),(58,.i (aI cs).length),(59,.i p.1.1)]) (fun p => zM1 f { m with zk := p.1.2 } (.cells (BR (nme,cs,sp,kp,sh)))) (fun p => cs.length - p.1.1) ⟨(0,m.zk),by dsimp only;omega,hzk⟩ ⟨[0,1,2,3,4,5,6,7,8,9,10],rfl,(by repeat first|exact trivial|refine ⟨rfl,?_⟩),⟨.inr rfl,.inr (aD rfl rfl rfl (bT _)),.inr (aD rfl rfl rfl (bS _)),.inr (aD rfl rfl rfl (bS _)),.inr (aD rfl rfl rfl (bT _)),.inr rfl,.inr (aC rfl rfl (eC _)),.inr (aC rfl rfl (eV _)),.inr (aC rfl rfl (eT _)),.inr (aC rfl rfl (eD _)),.inr rfl,trivial⟩,by decide,I8 10⟩ ?_
        rintro ⟨⟨k,zk⟩,hk,hzk2⟩;dsimp only at *;by_cases hlt : k < cs.length
        · have q1 := eY (l := cs) (j := (k : Int)) 0 hlt rfl;generalize cs.getD k 0 = c at *;by_cases hm : c ∈ zk
          · obtain ⟨i,hi,hi2⟩ := vU hm
            (repeat' (first|refine wS ?_|refine wB ?_|refine wK ?_|refine wT ?_|(refine rg 14 (vV (aL rfl rfl (by omega)) ?_))|(refine rg 15 (vV (ix T rfl (by omega) (aE _) q1) (lW T rfl (aV ?_))))|(refine rg 16 (mW rfl (nV ?_));refine eK T rfl (mW rfl (M8 zC jL rfl rfl (gC _) rfl rfl (iK _) (eR _) (tW hzk2) hi2 ?_)))|(refine rg 17 (vV (bP rfl rfl (by omega) (by omega)) (mV ?_)))|refine nZ ?_));all_goals first | (exfalso;omega) | exact ⟨⟨(k + 1,zk),by dsimp only;omega,hzk2⟩,by dsimp only;omega,⟨[0,1,2,3,4,5,6,7,8,9,10],rfl,(by repeat first|exact trivial|refine ⟨rfl,?_⟩),⟨.inr rfl,.inr (aD rfl rfl rfl (bT _)),.inr (aD rfl rfl rfl (bS _)),.inr (aD rfl rfl (LW _ _) (bS _)),.inr (aD rfl rfl rfl (bT _)),.inr rfl,.inr (aC rfl rfl (eC _)),.inr (aC rfl rfl (eV _)),.inr (aC rfl rfl (eT _)),.inr (aC rfl rfl (eD _)),.inr rfl,trivial⟩,by decide,I8 10⟩⟩
          · have hk3 : zk.map kI ++ [kI c] = (zk ++ [c]).map kI := by simp
            have hv3 : xM zk.length ++ [.b true] = xM (zk ++ [c]).length := by rw [G8];simp
            have hnd3 : (zk ++ [c]).Nodup := by
              rw [fI];exact ⟨hzk2,by simp,fun a ha b hb e => hm (by simp at hb;subst hb;subst e;exact ha)⟩
            (repeat' (first|refine wS ?_|refine wB ?_|refine wK ?_|refine wT ?_|(refine rg 14 (vV (aL rfl rfl (by omega)) ?_))|(refine rg 15 (vV (ix T rfl (by omega) (aE _) q1) (lW T rfl (aV ?_))))|(refine rg 16 (mW rfl (nV ?_));refine eK T rfl (mV ?_);refine lQ zC jL rfl rfl (gC _) rfl rfl (iK _) (eR _) (fun e=>hm (nP.1 e)) ?_)|(refine rg 17 (vV (bP rfl rfl (by omega) (by omega)) (mV ?_)))|refine nZ ?_));all_goals first | (exfalso;omega) | exact ⟨⟨(k + 1,zk ++ [c]),by dsimp only;omega,hnd3⟩,by dsimp only;omega,⟨[0,1,2,3,4,5,6,7,8,9,10],rfl,(by repeat first|exact trivial|refine ⟨rfl,?_⟩),⟨.inr rfl,.inr (aD rfl rfl rfl (bT _)),.inr (aD rfl rfl rfl (bS _)),.inr (aD rfl hk3 hv3 (bS _)),.inr (aD rfl rfl rfl (bT _)),.inr rfl,.inr (aC rfl rfl (eC _)),.inr (aC rfl rfl (eV _)),.inr (aC rfl rfl (eT _)),.inr (aC rfl rfl (eD _)),.inr rfl,trivial⟩,by decide,I8 10⟩⟩
        · have hrn : nX m.zs.length ++ [.i (m.zs.length : Int)] = nX (m.zs ++ [(nme,cs,sp,kp,sh)]).length := by rw [GZ,hln]
          (repeat' (first|refine wS ?_|refine wR ?_|refine wE ?_|refine wU ?_|(refine rg 14 (vV (bG rfl rfl (by omega)) ?_))|(refine aN (id := 18) 93 zV2 (rM 69 12) [[],[],[],[],rM 69 4,rM 69 4,rM 69 6,rM 69 6,rM 69 6,rM 69 6,rM 69 6,rM 69 6] bM rfl (by decide +kernel) (dN rfl (dV rfl (by exact cK rfl rfl) ?_));refine dP T rfl (dO T rfl (dP T rfl (dO T rfl (dN rfl (dV rfl (by exact cK rfl rfl) ?_)))));refine dP T rfl (dP T rfl (dO T rfl (dV rfl (C2 T rfl rfl) (dE ?_))));refine lQ TH zD4 rfl rfl (TP _) rfl rfl (EV _) (FD _) hn ?_)|(refine sF (id := 19) 93 zV3 (rM 81 12) [[],[81],[81],[81],[81],[81],rM 81 6,rM 81 6,[81],[],[],[],[]] [(8,6),(12,0)] bM rfl (by decide +kernel) (gA rfl rfl rfl rfl (by exact jA rfl) ?_);refine gA rfl rfl rfl rfl (by exact jA rfl) ?_;refine gA rfl rfl rfl rfl (by exact cK rfl rfl) ?_;refine gA rfl rfl rfl rfl (by exact eJ T rfl rfl rfl) ?_;refine gA rfl rfl rfl rfl (by exact eJ T rfl rfl rfl) ?_;refine gA rfl rfl rfl rfl (by exact cJ T rfl rfl rfl rfl) ?_;refine gA rfl rfl rfl rfl (by exact cJ T rfl rfl rfl rfl) ?_;refine AL rfl rfl rfl rfl (by exact aS T rfl rfl (by decide) (by decide) rfl rfl rfl) rfl ?_;refine F6 rfl rfl rfl rfl (bE rfl) (by exact sG T rfl rfl rfl rfl rfl rfl (by simp) (iU.whole rfl rfl) rfl (by simp;omega) (by simp;omega)) ?_;refine gA rfl rfl rfl rfl (by exact cK rfl rfl) ?_;refine gA rfl rfl rfl rfl (by exact eJ T rfl rfl rfl) ?_;refine gA rfl rfl rfl rfl (by exact eJ T rfl rfl rfl) ?_;refine FL rfl rfl rfl rfl (bE rfl) T rfl rfl rfl rfl rfl rfl (by decide) rfl ?_;refine yI rfl rfl rfl (by exact rfl) ?_)|(refine rg 20 (aV ?_))|refine nZ ?_));all_goals try (exfalso;omega)
          refine ⟨_,_,⟨0,rfl,.inr ⟨rfl,hn,zk,hzk2,rfl⟩⟩,.inl rfl,[0,1,2,3,4,5,6,7,8,9,12],_,rfl,rfl,rfl,⟨.inr ?_,.inr (aD rfl rfl rfl (bT _)),.inr (aD rfl rfl rfl (bS _)),.inr (aD rfl rfl rfl (bS _)),.inr (aD rfl (XZ m (nme,cs,sp,kp,sh)) hrn (bT _)),.inr rfl,.inl rfl,.inr (aC rfl rfl (eV _)),.inr (aC rfl rfl (eT _)),.inr (aC rfl rfl (eD _)),.inr (aC rfl (OI m.zs (nme,cs,sp,kp,sh)) (eC _)),trivial⟩,by decide,I8 12⟩
          exact congrArg (fun n : Nat => some (AB.cells (jM f ++ [.sl 12 0 n 5,.sl 7 0 m.aps.length 2,.sl 8 0 m.shs.length 2,.sl 9 0 m.rbs.length 2,.mp 1,.mp 2,.mp 3,.mp 4,.mp 5,.nils,.nils]))) hln
end Go.Proofs.YtdmajnjoeidgeaaGreat
namespace Go.Proofs.YtdmajnjoeidgeaaGreat
open Go Go.Ab Go.Fl Go.Shelf Go.Proofs Go.MapKept
attribute [local irreducible] VC AW bR bQ fT mH BC nK
set_option maxHeartbeats 8000000
set_option maxRecDepth 10000
structure FZ (s : lN) (n m : Nat) : Prop where
  kl : s.fl.k.length ≤ n
  ol : s.fl.o.length ≤ n
  zl : s.zn.length ≤ m
  al : s.ap.length ≤ m
  sl : s.sh.length ≤ m
  rl : s.rb.length ≤ m
  z : ∀ z,z ∈ s.zn → z.2.1.length ≤ n ∧ z.2.2.2.2.length ≤ 20 ∧ z.1.length ≤ 40
  a : ∀ x,x ∈ s.ap → x.1.length ≤ 40 ∧ x.2.length ≤ 40
  s : ∀ x,x ∈ s.sh → x.2.length ≤ 40
structure zJ1 (s : lN) : Prop where
  fl : Q3 s.fl
  nd : (s.sh.map (·.1)).Nodup
  st : ∀ x,x ∈ s.sh → Z6 s.fl x.1 = true ∧ xN (xZ s.fl x.1) = true
  rn : (s.rb.map (·.1)).Nodup
  rr : ∀ x,x ∈ s.rb → Z6 s.fl x.1 = true ∧ jS x.2 0 1000000 = true ∧ xZ s.fl x.1 ≠ 0
abbrev zU0 (f : jD) (m : Mk) : List AV := jM f ++ [.sl 7 0 m.zs.length 5,.sl 8 0 m.aps.length 2,.sl 9 0 m.shs.length 2,.sl 10 0 m.rbs.length 2,.mp 2,.mp 3,.mp 4,.mp 5,.mp 6,.nils,.nils]
abbrev zJ8 (s : lN) (m : Mk) : Hp := [.cells (fS s),.cells (zU0 s.fl m),.mapO (m.cl.map kI) (nX m.shs.length),.mapO (m.rc.map kI) (xM m.rbs.length),.mapO (m.zk.map kI) (xM m.zk.length),.mapO m.nm (nX m.zs.length),.mapO [] [],.arr (nC m.zs) 5,.arr (pR m.aps) 2,.arr (pH m.shs) 2,.arr (kD m.rbs) 2]
theorem U5 {h : Hp} {s : lN} {m : Mk} {rest : Hp} (hh : h = zJ8 s m ++ rest) : qD h (.ptr 1 0) (.pr (jM s.fl ++ zL9 m) 0) := by
  subst hh;refine .ptr rfl (.cons (.v _) (.cons (.v _) (.cons (.v _) (.cons (.row _ _ _) (.cons (.row _ _ _) (.cons ?_ (.cons ?_ (.cons ?_ (.cons ?_ (.cons ?_ (.cons ?_ (.cons ?_ (.cons ?_ (.cons ?_ (.cons (.v _) (.cons (.v _) .nil))))))))))))))))
  · exact oV rfl (by simp) (pN (fun _ => rfl) _)
  · exact oV rfl (by simp) (pN (fun _ => rfl) _)
  · exact oV rfl (by simp) (pN (fun _ => rfl) _)
  · exact oV rfl (by simp) (pN (fun _ => rfl) _)
  · exact .mp rfl (lE _ (by unfold nX;induction (List.range m.shs.length) with | nil => rfl | cons a l ih => exact ih))
  · exact .mp rfl (lE _ (by unfold xM;induction m.rbs.length with | zero => rfl | succ n ih => rw [uC];exact ih))
  · exact .mp rfl (lE _ (by unfold xM;induction m.zk.length with | zero => rfl | succ n ih => rw [uC];exact ih))
  · exact .mp rfl (lE _ (by unfold nX;induction (List.range m.zs.length) with | nil => rfl | cons a l ih => exact ih))
  · exact .mp rfl .nil
abbrev zF4 (F : Prop) : AV → Hp → Prop := fun r o => o = [] ∧ ∃ b,r = .b b ∧ (b = true → F)
theorem RM (s : lN) (h : FZ s 300 1000) : fT Tryz.prog 24 [.agg (fS s)] [] (zF4 (zJ1 s)) := by
  have hr := XD s.fl;have hzl : (nC s.zn).length = s.zn.length := by simp
  have hal : (pR s.ap).length = s.ap.length := by simp
  have hsl : (pH s.sh).length = s.sh.length := by simp
  have hrl : (kD s.rb).length = s.rb.length := by simp
  have b1 := h.zl;have b2 := h.al;have b3 := h.sl;have b4 := h.rl;refine mM T Tryz.func24 rfl rfl rfl rfl ?_;by_cases hri : Q3 s.fl
  · rw [HB hri] at hr
    (repeat' (first|refine wS ?_|refine wB ?_|refine wK ?_|refine wU ?_|(refine rg 0 (bH (bN rfl rfl) rfl (aV ?_)))|(refine rg 1 (eK T rfl (vV (kC (hr)) (vV (bB rfl) ?_))))|(refine rg 3 (eK T rfl (bH (by exact lX rfl rfl (KD s.fl) (.inr ⟨rfl,rfl,by simp⟩)) rfl ?_));refine aV ?_)|(refine rg 4 (eK T rfl (qW T rfl (mV ?_))))|refine nZ ?_));refine tZ 1 5 5 rfl rfl (by decide) ?_
    refine tZ 1 6 2 rfl rfl (by decide) ?_
    refine tZ 1 7 2 rfl rfl (by decide) ?_
    refine tZ 1 8 2 rfl rfl (by decide) ?_
    refine bV (X := {p : Nat × List IY × List Int // p.1 ≤ s.zn.length ∧ p.2.1 = s.zn.take p.1 ∧ (Mk.mk p.2.1 [] [] [] p.2.2).nm.Nodup ∧ p.2.2.Nodup ∧ ∀ z,z ∈ p.2.1 → (∀ c,c ∈ z.2.1 → 0 ≤ c ∧ c < s.fl.k.length)}) (fun p => [(1,.ptr 0 0),(3,.ptr 1 0),(20,.rowE (nC s.zn) 5),(21,.i s.zn.length),(22,.i p.1.1)]) (fun p => zJ8 s ⟨p.1.2.1,[],[],[],p.1.2.2⟩) (fun p => s.zn.length - p.1.1) ⟨(0,[],[]),by dsimp only;omega,rfl,dK,dK,fun _ h => nomatch h⟩ ⟨[0,1,2,3,4,5,6,7,8,9,10],rfl,⟨rfl,rfl,rfl,congrArg (fun n : Nat => some (AV.i n)) hzl,rfl,trivial⟩,⟨.inr rfl,.inr rfl,.inr rfl,.inr rfl,.inr rfl,.inr rfl,.inr rfl,.inr rfl,.inr rfl,.inr rfl,.inr rfl,trivial⟩,by decide,zD _⟩ ?_
    rintro ⟨⟨k,zs,zk⟩,hk,hzs,hnm,hzk,hzc⟩;dsimp only;change k ≤ s.zn.length at hk;change zs = s.zn.take k at hzs;change (Mk.mk zs [] [] [] zk).nm.Nodup at hnm;change zk.Nodup at hzk;change ∀ z,z ∈ zs → (∀ c,c ∈ z.2.1 → 0 ≤ c ∧ c < s.fl.k.length) at hzc;by_cases hlt : k < s.zn.length
    · have q1 := V8 hlt;obtain ⟨z1,z2,z3⟩ := h.z _ (dB hlt);have hnx : zs ++ [s.zn[k]] = s.zn.take (k + 1) := by rw [hzs,aJ hlt]
      generalize s.zn[k] = z at *;have cN := EW z.1 (by omega)
      have cW := CI z.2.2.1 1 100;have cS := zE0 z.2.2.2.2 (by omega)
      have cC := TG s.fl (zL9 ⟨zs,[],[],[],zk⟩) z.2.1 (by omega)
      have cZ := QY s.fl ⟨zs,[],[],[],zk⟩ z hnm hzk (by omega)
      generalize jS z.2.2.1 1 100 = w at *
      (repeat' (first|refine wS ?_|refine wB ?_|refine wK ?_|refine wR ?_|refine wT ?_|refine wU ?_|(refine rg 5 (vV (aL rfl rfl (by omega)) ?_))|(refine rg 6 (vV (ix T rfl (by omega) (zN _) q1) (lW T rfl (bH (cX T rfl) rfl (bJ T rfl rfl rfl rfl rfl rfl (by decide) rfl ?_)))))|(refine rg 7 (eK T rfl (gI rfl rfl (cN) (.cons (.v _) .nil) (by rintro _ ⟨_,rfl⟩;rfl) rfl ?_));rintro _ ⟨b1,rfl⟩;dsimp only [gJ];cases b1;(all_goals (refine vV (bB rfl) (mV ?_)));(all_goals first|(refine gT (fW T rfl (gT (lW T rfl (gT (vV (kC (cW)) (gT (vV (bB rfl) ?_))))))))|(iterate 4 refine gF ?_));(all_goals (refine pW rfl (mV ?_)));(all_goals first|(refine gK ?_)|(refine aO rfl rfl ?_ ?_<;>(intro hb;rw [hb];(try simp only [nm] at hb);try (exfalso;omega))));(all_goals first|(refine gT (fW T rfl (gT (lW T rfl (gT (vV (bX rfl rfl) ?_))))))|(iterate 3 refine gF ?_));(all_goals (refine pW rfl (mV ?_)));(all_goals first|(refine gK ?_)|(refine aO rfl rfl ?_ ?_<;>(intro hb;rw [hb];(try simp only [nm] at hb);try (exfalso;omega))));(all_goals first|(refine gT (fW T rfl (gT (lW T rfl (gT (gI rfl rfl (cS) (.cons (.row _ _ _) .nil) (by rintro _ ⟨_,rfl⟩;rfl) rfl ?_)))));rintro _ ⟨b2,rfl⟩;dsimp only [gJ];cases b2)|(iterate 3 refine gF ?_));(all_goals first|(refine gT (vV (bB rfl) ?_))|(refine gF ?_));(all_goals (refine pW rfl (mV ?_)));(all_goals first|(refine gT (mW rfl (gT (fW T rfl (gT (lW T rfl (gT (gI rfl rfl (cC) (.cons (U5 rfl) (.cons (.row _ _ _) .nil)) (by rintro _ ⟨_,rfl,_⟩;rfl) rfl ?_)))))));rintro _ ⟨b3,rfl,hcf⟩;dsimp only [gJ];cases b3)|(iterate 4 refine gF ?_));(all_goals first|(refine gT (vV (bB rfl) ?_))|(refine gF ?_));(all_goals (refine pW rfl (mV ?_)));(all_goals first|(refine gT (mW rfl (gT (lW T rfl (gT ?_))));(refine mG [1,2,3,4,5,6,7,8,9,10] rfl rfl (cZ) rfl rfl (by decide) ⟨.inr rfl,.inr (aD rfl rfl rfl (bT _)),.inr (aD rfl rfl rfl (bS _)),.inr (aD rfl rfl rfl (bS _)),.inr (aD rfl rfl rfl (bT _)),.inr rfl,.inr (aC rfl rfl (eC _)),.inr (aC rfl rfl (eV _)),.inr (aC rfl rfl (eT _)),.inr (aC rfl rfl (eD _)),trivial⟩ (by simp) rfl ?_;rintro _ _ ⟨e,rfl,ho⟩;rcases ho with ⟨he,rfl⟩|⟨rfl,hnn,zk2,hzk2,rfl⟩))|(iterate 3 refine gF ?_));(all_goals first|(refine gT (vV (by first|exact lC rfl rfl he|exact gE rfl rfl rfl) ?_))|(refine gF ?_));(all_goals (refine pV ?_)))|(refine rg 8 (aV ?_))|(refine rg 9 (vV (bP rfl rfl (by omega) (by omega)) (mV ?_)))|refine nZ ?_));all_goals first | (exfalso;omega) | exact ⟨.b false,[],⟨rfl,false,rfl,fun h => Bool.noConfusion h⟩,rQ⟩ | skip
      all_goals
        have hnm2 : (Mk.mk (zs ++ [z]) [] [] [] zk2).nm.Nodup := by
          have e : (Mk.mk (zs ++ [z]) [] [] [] zk2).nm = (Mk.mk zs [] [] [] zk).nm ++ [kS z.1] := by unfold Mk.nm;simp
          rw [e,fI];exact ⟨hnm,by simp,fun a ha b hb e => hnn (by simp at hb;subst hb;subst e;exact ha)⟩
        have hzc2 : ∀ y,y ∈ zs ++ [z] → (∀ c,c ∈ y.2.1 → 0 ≤ c ∧ c < s.fl.k.length) := by
          intro y hy;rcases bI.1 hy with hy|hy
          · exact hzc y hy
          · rw [bY.1 hy];exact hcf rfl
        exact ⟨⟨(k + 1,zs ++ [z],zk2),hlt,hnx,hnm2,hzk2,hzc2⟩,by dsimp only;omega,⟨[0,1,2,3,4,5,6,12,8,9,10],rfl,(by repeat first|exact trivial|refine ⟨rfl,?_⟩),⟨.inr rfl,.inr rfl,.inr (by first|exact aD rfl rfl rfl (bT _)|exact aD rfl rfl (dZ _ _ (bT _)) (bT _)),.inr (by first|exact aD rfl rfl rfl (bS _)|exact aD rfl rfl (dZ _ _ (bS _)) (bS _)),.inr (by first|exact aD rfl rfl rfl (bS _)|exact aD rfl rfl (dZ _ _ (bS _)) (bS _)),.inr (by first|exact aD rfl rfl rfl (bT _)|exact aD rfl rfl (dZ _ _ (bT _)) (bT _)),.inr rfl,.inr (by first|exact aC rfl rfl (eC _)|exact aC rfl (eU _ (eC _)) (eC _)),.inr (by first|exact aC rfl rfl (eV _)|exact aC rfl (eU _ (eV _)) (eV _)),.inr (by first|exact aC rfl rfl (eT _)|exact aC rfl (eU _ (eT _)) (eT _)),.inr (by first|exact aC rfl rfl (eD _)|exact aC rfl (eU _ (eD _)) (eD _)),trivial⟩,by decide,zD _⟩⟩
    · obtain rfl : k = s.zn.length := by omega
      rw [dU] at hzs;clear hk hlt hnm
      (repeat' (first|refine wS ?_|refine wB ?_|refine wE ?_|refine wU ?_|(refine rg 5 (vV (bG rfl rfl (by omega)) ?_))|(refine rg 10 (eK T rfl (qW T rfl (mV ?_))))|refine nZ ?_));all_goals try (exfalso;omega)
      refine bV (X := {p : Nat × List (List UInt8 × List UInt8) // p.1 ≤ s.ap.length ∧ p.2 = s.ap.take p.1}) (fun p => [(1,.ptr 0 0),(3,.ptr 1 0),(62,.rowE (pR s.ap) 2),(63,.i s.ap.length),(64,.i p.1.1)]) (fun p => zJ8 s ⟨zs,p.1.2,[],[],zk⟩) (fun p => s.ap.length - p.1.1) ⟨(0,[]),by dsimp only;omega,rfl⟩ ⟨[0,1,2,3,4,5,6,7,8,9,10],rfl,⟨rfl,rfl,rfl,congrArg (fun n : Nat => some (AV.i n)) hal,rfl,trivial⟩,⟨.inr rfl,.inr rfl,.inr (by first|exact aD rfl rfl rfl (bT _)|exact aD rfl rfl (dZ _ _ (bT _)) (bT _)),.inr (by first|exact aD rfl rfl rfl (bS _)|exact aD rfl rfl (dZ _ _ (bS _)) (bS _)),.inr (by first|exact aD rfl rfl rfl (bS _)|exact aD rfl rfl (dZ _ _ (bS _)) (bS _)),.inr (by first|exact aD rfl rfl rfl (bT _)|exact aD rfl rfl (dZ _ _ (bT _)) (bT _)),.inr rfl,.inr (by first|exact aC rfl rfl (eC _)|exact aC rfl (eU _ (eC _)) (eC _)),.inr (by first|exact aC rfl rfl (eV _)|exact aC rfl (eU _ (eV _)) (eV _)),.inr (by first|exact aC rfl rfl (eT _)|exact aC rfl (eU _ (eT _)) (eT _)),.inr (by first|exact aC rfl rfl (eD _)|exact aC rfl (eU _ (eD _)) (eD _)),trivial⟩,by decide,zD _⟩ ?_
      rintro ⟨⟨k,aps⟩,hk,haps⟩;dsimp only;change k ≤ s.ap.length at hk;change aps = s.ap.take k at haps;by_cases hlt : k < s.ap.length
      · have q1 := FT hlt;obtain ⟨a1,a2⟩ := h.a _ (dB hlt);have hnx : aps ++ [s.ap[k]] = s.ap.take (k + 1) := by rw [haps,aJ hlt]
        have hal3 : aps.length ≤ 1000 := by rw [haps,dQ];omega
        generalize s.ap[k] = z at *;obtain ⟨za,zb⟩ := z;change za.length ≤ 40 at a1;change zb.length ≤ 40 at a2;have cZ := KZ s.fl ⟨zs,aps,[],[],zk⟩ za zb (by omega) (by omega) (by dsimp only;omega)
        (repeat' (first|refine wS ?_|refine wB ?_|refine wK ?_|refine wR ?_|refine wT ?_|refine wU ?_|(refine rg 11 (vV (aL rfl rfl (by omega)) ?_))|(refine rg 12 (vV (ix T rfl (by omega) (V5 _) q1) (lW T rfl (bH (cX T rfl) rfl (bJ T rfl rfl rfl rfl rfl rfl (by decide) rfl ?_)))))|(refine rg 13 (mW rfl (lV T ?_));(refine mG [1,2,3,4,5,6,7,8,9,10] rfl rfl (cZ) rfl rfl (by decide) ⟨.inr rfl,.inr (aD rfl rfl rfl (bT _)),.inr (aD rfl rfl rfl (bS _)),.inr (aD rfl rfl rfl (bS _)),.inr (aD rfl rfl rfl (bT _)),.inr rfl,.inr (aC rfl rfl (eC _)),.inr (aC rfl rfl (eV _)),.inr (aC rfl rfl (eT _)),.inr (aC rfl rfl (eD _)),trivial⟩ (by simp) rfl ?_;rintro _ _ ⟨e,rfl,ho⟩;rcases ho with ⟨he,rfl⟩|⟨rfl,rfl⟩);(all_goals (refine vV (by first|exact lC rfl rfl he|exact gE rfl rfl rfl) ?_)))|(refine rg 14 (aV ?_))|(refine rg 15 (vV (bP rfl rfl (by omega) (by omega)) (mV ?_)))|refine nZ ?_));all_goals first | (exfalso;omega) | exact ⟨.b false,[],⟨rfl,false,rfl,fun h => Bool.noConfusion h⟩,rQ⟩ | exact ⟨⟨(k + 1,aps ++ [(za,zb)]),hlt,hnx⟩,by dsimp only;omega,⟨[0,1,2,3,4,5,6,7,12,9,10],rfl,(by repeat first|exact trivial|refine ⟨rfl,?_⟩),⟨.inr rfl,.inr rfl,.inr (by first|exact aD rfl rfl rfl (bT _)|exact aD rfl rfl (dZ _ _ (bT _)) (bT _)),.inr (by first|exact aD rfl rfl rfl (bS _)|exact aD rfl rfl (dZ _ _ (bS _)) (bS _)),.inr (by first|exact aD rfl rfl rfl (bS _)|exact aD rfl rfl (dZ _ _ (bS _)) (bS _)),.inr (by first|exact aD rfl rfl rfl (bT _)|exact aD rfl rfl (dZ _ _ (bT _)) (bT _)),.inr rfl,.inr (by first|exact aC rfl rfl (eC _)|exact aC rfl (eU _ (eC _)) (eC _)),.inr (by first|exact aC rfl rfl (eV _)|exact aC rfl (eU _ (eV _)) (eV _)),.inr (by first|exact aC rfl rfl (eT _)|exact aC rfl (eU _ (eT _)) (eT _)),.inr (by first|exact aC rfl rfl (eD _)|exact aC rfl (eU _ (eD _)) (eD _)),trivial⟩,by decide,zD _⟩⟩
      · obtain rfl : k = s.ap.length := by omega
        clear hk hlt;have hal3 : aps.length ≤ 1000 := by rw [haps,dQ];omega
        (repeat' (first|refine wS ?_|refine wB ?_|refine wE ?_|refine wU ?_|(refine rg 11 (vV (bG rfl rfl (by omega)) ?_))|(refine rg 16 (eK T rfl (qW T rfl (mV ?_))))|refine nZ ?_));all_goals try (exfalso;omega)
        refine bV (X := {p : Nat × List (Int × List UInt8) // p.1 ≤ s.sh.length ∧ p.2 = s.sh.take p.1 ∧ (p.2.map (·.1)).Nodup ∧ ∀ x,x ∈ p.2 → Z6 s.fl x.1 = true ∧ xN (xZ s.fl x.1) = true}) (fun p => [(1,.ptr 0 0),(3,.ptr 1 0),(74,.rowE (pH s.sh) 2),(75,.i s.sh.length),(76,.i p.1.1)]) (fun p => zJ8 s ⟨zs,aps,p.1.2,[],zk⟩) (fun p => s.sh.length - p.1.1) ⟨(0,[]),by dsimp only;omega,rfl,dK,fun _ h => nomatch h⟩ ⟨[0,1,2,3,4,5,6,7,8,9,10],rfl,⟨rfl,rfl,rfl,congrArg (fun n : Nat => some (AV.i n)) hsl,rfl,trivial⟩,⟨.inr rfl,.inr rfl,.inr (by first|exact aD rfl rfl rfl (bT _)|exact aD rfl rfl (dZ _ _ (bT _)) (bT _)),.inr (by first|exact aD rfl rfl rfl (bS _)|exact aD rfl rfl (dZ _ _ (bS _)) (bS _)),.inr (by first|exact aD rfl rfl rfl (bS _)|exact aD rfl rfl (dZ _ _ (bS _)) (bS _)),.inr (by first|exact aD rfl rfl rfl (bT _)|exact aD rfl rfl (dZ _ _ (bT _)) (bT _)),.inr rfl,.inr (by first|exact aC rfl rfl (eC _)|exact aC rfl (eU _ (eC _)) (eC _)),.inr (by first|exact aC rfl rfl (eV _)|exact aC rfl (eU _ (eV _)) (eV _)),.inr (by first|exact aC rfl rfl (eT _)|exact aC rfl (eU _ (eT _)) (eT _)),.inr (by first|exact aC rfl rfl (eD _)|exact aC rfl (eU _ (eD _)) (eD _)),trivial⟩,by decide,zD _⟩ ?_
        rintro ⟨⟨k,shs⟩,hk,hshs,hnd,hst⟩;dsimp only;change k ≤ s.sh.length at hk;change shs = s.sh.take k at hshs;change (shs.map (·.1)).Nodup at hnd;change ∀ x,x ∈ shs → Z6 s.fl x.1 = true ∧ xN (xZ s.fl x.1) = true at hst;by_cases hlt : k < s.sh.length
        · have q1 := EM hlt;have a1 := h.s _ (dB hlt);have hnx : shs ++ [s.sh[k]] = s.sh.take (k + 1) := by rw [hshs,aJ hlt]
          generalize s.sh[k] = z at *;obtain ⟨za,zb⟩ := z;change zb.length ≤ 40 at a1;have cZ := KX s.fl ⟨zs,aps,shs,[],zk⟩ za zb (by omega) hnd
          (repeat' (first|refine wS ?_|refine wB ?_|refine wK ?_|refine wR ?_|refine wT ?_|refine wU ?_|(refine rg 17 (vV (aL rfl rfl (by omega)) ?_))|(refine rg 18 (vV (ix T rfl (by omega) (U3 _) q1) (lW T rfl (bH (cX T rfl) rfl (bJ T rfl rfl rfl rfl rfl rfl (by decide) rfl ?_)))))|(refine rg 19 (mW rfl (lV T ?_));(refine mG [1,2,3,4,5,6,7,8,9,10] rfl rfl (cZ) rfl rfl (by decide) ⟨.inr rfl,.inr (aD rfl rfl rfl (bT _)),.inr (aD rfl rfl rfl (bS _)),.inr (aD rfl rfl rfl (bS _)),.inr (aD rfl rfl rfl (bT _)),.inr rfl,.inr (aC rfl rfl (eC _)),.inr (aC rfl rfl (eV _)),.inr (aC rfl rfl (eT _)),.inr (aC rfl rfl (eD _)),trivial⟩ (by simp) rfl ?_;rintro _ _ ⟨e,rfl,ho⟩;rcases ho with ⟨he,rfl⟩|⟨rfl,hi1,hi2,hi3,rfl⟩);(all_goals (refine vV (by first|exact lC rfl rfl he|exact gE rfl rfl rfl) ?_)))|(refine rg 20 (aV ?_))|(refine rg 21 (vV (bP rfl rfl (by omega) (by omega)) (mV ?_)))|refine nZ ?_));all_goals first | (exfalso;omega) | exact ⟨.b false,[],⟨rfl,false,rfl,fun h => Bool.noConfusion h⟩,rQ⟩ | skip
          all_goals
            have hnd2 : ((shs ++ [(za,zb)]).map (·.1)).Nodup := by
              rw [cV,fI];exact ⟨hnd,by simp,fun a ha b hb e => hi3 (by simp at hb;subst hb;subst e;exact ha)⟩
            have hst2 : ∀ x,x ∈ shs ++ [(za,zb)] → Z6 s.fl x.1 = true ∧ xN (xZ s.fl x.1) = true := by
              intro y hy;rcases bI.1 hy with hy|hy
              · exact hst y hy
              · rw [bY.1 hy];exact ⟨hi1,hi2⟩
            exact ⟨⟨(k + 1,shs ++ [(za,zb)]),hlt,hnx,hnd2,hst2⟩,by dsimp only;omega,⟨[0,1,2,3,4,5,6,7,8,12,10],rfl,(by repeat first|exact trivial|refine ⟨rfl,?_⟩),⟨.inr rfl,.inr rfl,.inr (by first|exact aD rfl rfl rfl (bT _)|exact aD rfl rfl (dZ _ _ (bT _)) (bT _)),.inr (by first|exact aD rfl rfl rfl (bS _)|exact aD rfl rfl (dZ _ _ (bS _)) (bS _)),.inr (by first|exact aD rfl rfl rfl (bS _)|exact aD rfl rfl (dZ _ _ (bS _)) (bS _)),.inr (by first|exact aD rfl rfl rfl (bT _)|exact aD rfl rfl (dZ _ _ (bT _)) (bT _)),.inr rfl,.inr (by first|exact aC rfl rfl (eC _)|exact aC rfl (eU _ (eC _)) (eC _)),.inr (by first|exact aC rfl rfl (eV _)|exact aC rfl (eU _ (eV _)) (eV _)),.inr (by first|exact aC rfl rfl (eT _)|exact aC rfl (eU _ (eT _)) (eT _)),.inr (by first|exact aC rfl rfl (eD _)|exact aC rfl (eU _ (eD _)) (eD _)),trivial⟩,by decide,zD _⟩⟩
        · obtain rfl : k = s.sh.length := by omega
          rw [dU] at hshs;clear hk hlt
          (repeat' (first|refine wS ?_|refine wB ?_|refine wE ?_|refine wU ?_|(refine rg 17 (vV (bG rfl rfl (by omega)) ?_))|(refine rg 22 (eK T rfl (qW T rfl (mV ?_))))|refine nZ ?_));all_goals try (exfalso;omega)
          refine bV (X := {p : Nat × List (Int × Int) // p.1 ≤ s.rb.length ∧ p.2 = s.rb.take p.1 ∧ (p.2.map (·.1)).Nodup ∧ ∀ x,x ∈ p.2 → Z6 s.fl x.1 = true ∧ jS x.2 0 1000000 = true ∧ xZ s.fl x.1 ≠ 0}) (fun p => [(1,.ptr 0 0),(3,.ptr 1 0),(86,.rowE (kD s.rb) 2),(87,.i s.rb.length),(88,.i p.1.1)]) (fun p => zJ8 s ⟨zs,aps,shs,p.1.2,zk⟩) (fun p => s.rb.length - p.1.1) ⟨(0,[]),by dsimp only;omega,rfl,dK,fun _ h => nomatch h⟩ ⟨[0,1,2,3,4,5,6,7,8,9,10],rfl,⟨rfl,rfl,rfl,congrArg (fun n : Nat => some (AV.i n)) hrl,rfl,trivial⟩,⟨.inr rfl,.inr rfl,.inr (by first|exact aD rfl rfl rfl (bT _)|exact aD rfl rfl (dZ _ _ (bT _)) (bT _)),.inr (by first|exact aD rfl rfl rfl (bS _)|exact aD rfl rfl (dZ _ _ (bS _)) (bS _)),.inr (by first|exact aD rfl rfl rfl (bS _)|exact aD rfl rfl (dZ _ _ (bS _)) (bS _)),.inr (by first|exact aD rfl rfl rfl (bT _)|exact aD rfl rfl (dZ _ _ (bT _)) (bT _)),.inr rfl,.inr (by first|exact aC rfl rfl (eC _)|exact aC rfl (eU _ (eC _)) (eC _)),.inr (by first|exact aC rfl rfl (eV _)|exact aC rfl (eU _ (eV _)) (eV _)),.inr (by first|exact aC rfl rfl (eT _)|exact aC rfl (eU _ (eT _)) (eT _)),.inr (by first|exact aC rfl rfl (eD _)|exact aC rfl (eU _ (eD _)) (eD _)),trivial⟩,by decide,zD _⟩ ?_
          rintro ⟨⟨k,rbs⟩,hk,hrbs,hnr,hrr⟩;dsimp only;change k ≤ s.rb.length at hk;change rbs = s.rb.take k at hrbs;change (rbs.map (·.1)).Nodup at hnr;change ∀ x,x ∈ rbs → Z6 s.fl x.1 = true ∧ jS x.2 0 1000000 = true ∧ xZ s.fl x.1 ≠ 0 at hrr;by_cases hlt : k < s.rb.length
          · have q1 := GH hlt;have hnx : rbs ++ [s.rb[k]] = s.rb.take (k + 1) := by rw [hrbs,aJ hlt]
            generalize s.rb[k] = z at *;obtain ⟨za,zb⟩ := z;have cZ := KY s.fl ⟨zs,aps,shs,rbs,zk⟩ za zb hnr
            (repeat' (first|refine wS ?_|refine wB ?_|refine wK ?_|refine wR ?_|refine wT ?_|refine wU ?_|(refine rg 23 (vV (aL rfl rfl (by omega)) ?_))|(refine rg 24 (vV (ix T rfl (by omega) (rC _) q1) (lW T rfl (bH (cX T rfl) rfl (bJ T rfl rfl rfl rfl rfl rfl (by decide) rfl ?_)))))|(refine rg 25 (mW rfl (lV T ?_));(refine mG [1,2,3,4,5,6,7,8,9,10] rfl rfl (cZ) rfl rfl (by decide) ⟨.inr rfl,.inr (aD rfl rfl rfl (bT _)),.inr (aD rfl rfl rfl (bS _)),.inr (aD rfl rfl rfl (bS _)),.inr (aD rfl rfl rfl (bT _)),.inr rfl,.inr (aC rfl rfl (eC _)),.inr (aC rfl rfl (eV _)),.inr (aC rfl rfl (eT _)),.inr (aC rfl rfl (eD _)),trivial⟩ (by simp) rfl ?_;rintro _ _ ⟨e,rfl,ho⟩;rcases ho with ⟨he,rfl⟩|⟨rfl,hi1,hi2,hi4,hi3,rfl⟩);(all_goals (refine vV (by first|exact lC rfl rfl he|exact gE rfl rfl rfl) ?_)))|(refine rg 26 (aV ?_))|(refine rg 27 (vV (bP rfl rfl (by omega) (by omega)) (mV ?_)))|refine nZ ?_));all_goals first | (exfalso;omega) | exact ⟨.b false,[],⟨rfl,false,rfl,fun h => Bool.noConfusion h⟩,rQ⟩ | skip
            all_goals
              have hnr2 : ((rbs ++ [(za,zb)]).map (·.1)).Nodup := by
                rw [cV,fI];exact ⟨hnr,by simp,fun a ha b hb e => hi3 (by simp at hb;subst hb;subst e;exact ha)⟩
              have hrr2 : ∀ x,x ∈ rbs ++ [(za,zb)] → Z6 s.fl x.1 = true ∧ jS x.2 0 1000000 = true ∧ xZ s.fl x.1 ≠ 0 := by
                intro y hy;rcases bI.1 hy with hy|hy
                · exact hrr y hy
                · rw [bY.1 hy];exact ⟨hi1,hi2,hi4⟩
              exact ⟨⟨(k + 1,rbs ++ [(za,zb)]),hlt,hnx,hnr2,hrr2⟩,by dsimp only;omega,⟨[0,1,2,3,4,5,6,7,8,9,12],rfl,(by repeat first|exact trivial|refine ⟨rfl,?_⟩),⟨.inr rfl,.inr rfl,.inr (by first|exact aD rfl rfl rfl (bT _)|exact aD rfl rfl (dZ _ _ (bT _)) (bT _)),.inr (by first|exact aD rfl rfl rfl (bS _)|exact aD rfl rfl (dZ _ _ (bS _)) (bS _)),.inr (by first|exact aD rfl rfl rfl (bS _)|exact aD rfl rfl (dZ _ _ (bS _)) (bS _)),.inr (by first|exact aD rfl rfl rfl (bT _)|exact aD rfl rfl (dZ _ _ (bT _)) (bT _)),.inr rfl,.inr (by first|exact aC rfl rfl (eC _)|exact aC rfl (eU _ (eC _)) (eC _)),.inr (by first|exact aC rfl rfl (eV _)|exact aC rfl (eU _ (eV _)) (eV _)),.inr (by first|exact aC rfl rfl (eT _)|exact aC rfl (eU _ (eT _)) (eT _)),.inr (by first|exact aC rfl rfl (eD _)|exact aC rfl (eU _ (eD _)) (eD _)),trivial⟩,by decide,zD _⟩⟩
          · obtain rfl : k = s.rb.length := by omega
            rw [dU] at hrbs;have hOk : zJ1 s := ⟨hri,hshs ▸ hnd,hshs ▸ hst,hrbs ▸ hnr,hrbs ▸ hrr⟩;clear hk hlt;have hsl3 : shs.length ≤ 1000 := by rw [hshs];omega
            have hzl3 : zs.length ≤ 1000 := by rw [hzs];omega
            have hcl : (Mk.mk zs aps shs rbs zk).cl.length = shs.length := by unfold Mk.cl;simp
            have cB := QS s.fl (X7 hri h.kl) aps shs (by omega) (by omega) hnd (.rowE (nC zs) 5) (.rowE (kD rbs) 2) [.mrow ((Mk.mk zs aps shs rbs zk).rc.map kI) (xM rbs.length),.mrow (zk.map kI) (xM zk.length),.mrow (Mk.mk zs aps shs rbs zk).nm (nX zs.length),.mrow [] [],.nils,.nils]
            have cW := QG s.fl zs (fun z hz => ⟨hzc z hz,by have := (h.z z (hzs ▸ hz)).1;omega⟩) (by omega) (.rowE (pR aps) 2) (.rowE (pH shs) 2) (.rowE (kD rbs) 2) (Mk.mk zs aps shs rbs zk).cl hnd [.mrow ((Mk.mk zs aps shs rbs zk).rc.map kI) (xM rbs.length),.mrow (zk.map kI) (xM zk.length),.mrow (Mk.mk zs aps shs rbs zk).nm (nX zs.length),.mrow [] [],.nils,.nils]
            rw [hcl] at cW;have cG := QK s.fl (zL9 ⟨zs,aps,shs,rbs,zk⟩) (by have := h.kl;omega)
            (repeat' (first|refine wS ?_|refine wR ?_|refine wE ?_|refine wU ?_|(refine rg 23 (vV (bG rfl rfl (by omega)) ?_))|(refine rg 28 (mW rfl (gI rfl rfl (cB) (.cons (U5 (m := ⟨zs,aps,shs,rbs,zk⟩) rfl) .nil) (by rintro _ ⟨_,rfl⟩;rfl) rfl ?_));rintro _ ⟨n1,rfl⟩;dsimp only [gJ];refine vV (bX rfl rfl) (mV ?_);refine aO rfl rfl ?_ ?_<;>(intro hb;rw [hb];(try simp only [nm] at hb);try (exfalso;omega));(all_goals first|(refine gT (mW rfl (gT (gI rfl rfl (cW) (.cons (U5 (m := ⟨zs,aps,shs,rbs,zk⟩) rfl) .nil) (by rintro _ ⟨_,rfl⟩;rfl) rfl ?_)));rintro _ ⟨n2,rfl⟩;dsimp only [gJ])|(iterate 2 refine gF ?_));(all_goals first|(refine gT (vV (bX rfl rfl) ?_))|(refine gF ?_));(all_goals (refine pW rfl (mV ?_)));(all_goals first|(refine gK ?_)|(refine aO rfl rfl ?_ ?_<;>(intro hb;rw [hb];(try simp only [nm] at hb);try (exfalso;omega))));(all_goals first|(refine gT (mW rfl (gT (gI rfl rfl (cG) (.cons (U5 (m := ⟨zs,aps,shs,rbs,zk⟩) rfl) .nil) (by rintro _ ⟨_,rfl⟩;rfl) rfl ?_)));rintro _ ⟨b3,rfl⟩;dsimp only [gJ];cases b3)|(iterate 2 refine gF ?_));(all_goals (refine pW rfl (aV ?_))))|refine nZ ?_));all_goals first | (exfalso;omega) | exact ⟨_,_,⟨rfl,_,rfl,fun _ => hOk⟩,rQ⟩
  · rw [H8 hri] at hr
    (repeat' (first|refine wS ?_|refine wR ?_|refine wT ?_|(refine rg 0 (bH (bN rfl rfl) rfl (aV ?_)))|(refine rg 1 (eK T rfl (vV (kC (hr)) (vV (bB rfl) ?_))))|(refine rg 2 (aV ?_))|refine nZ ?_));all_goals exact ⟨.b false,[],⟨rfl,false,rfl,fun h => Bool.noConfusion h⟩,rQ⟩
end Go.Proofs.YtdmajnjoeidgeaaGreat
namespace Go.Ln
abbrev Node := Int × Bool
abbrev Edge := Int × Int
structure wV where
  sp : Int → List Int
  ex : Int → Bool
  st : Int
def O8 (T : List Edge) (c : Int) : Nat := T.countP fun e => decide (e.2 = c)
def I1 (T : List Edge) (c : Int) : Nat := T.countP fun e => decide (e.1 = c)
structure mF (g : wV) (k : Nat) (T : List Edge) : Prop where
  nd : T.Nodup
  val : ∀ e,e ∈ T → e.2 ∈ g.sp e.1 ∧ e.2 ≠ g.st ∧ g.ex e.1 = false
  le1 : ∀ c,O8 T c ≤ 1
  bal : ∀ c,c ≠ g.st → g.ex c = false → I1 T c = O8 T c
  sto : I1 T g.st = k
def zK1 (g : wV) (T : List Edge) (b n : Node) : Prop :=
  (b.2 = true ∧ n.2 = false ∧ b.1 ≠ n.1 ∧ n.1 ∈ g.sp b.1 ∧ n.1 ≠ g.st ∧ g.ex b.1 = false ∧ (b.1,n.1) ∉ T) ∨
  (b.2 = true ∧ n.2 = false ∧ b.1 = n.1 ∧ b.1 ≠ g.st ∧ g.ex b.1 = false ∧ O8 T b.1 = 1) ∨
  (b.2 = false ∧ n.2 = true ∧ b.1 = n.1 ∧ b.1 ≠ g.st ∧ g.ex b.1 = false ∧ O8 T b.1 = 0) ∨
  (b.2 = false ∧ n.2 = true ∧ b.1 ≠ n.1 ∧ n.1 ≠ g.st ∧ (n.1,b.1) ∈ T)
theorem vW {T : List Edge} {c : Int} : 0 < O8 T c ↔ ∃ p,(p,c) ∈ T := by
  unfold O8;rw [uD];constructor
  · rintro ⟨⟨a,b⟩,h,e⟩;simp at e;subst e;exact ⟨a,h⟩
  · rintro ⟨p,h⟩;exact ⟨_,h,by simp⟩
theorem I0 {T : List Edge} {c : Int} : 0 < I1 T c ↔ ∃ x,(c,x) ∈ T := by
  unfold I1;rw [uD];constructor
  · rintro ⟨⟨a,b⟩,h,e⟩;simp at e;subst e;exact ⟨b,h⟩
  · rintro ⟨p,h⟩;exact ⟨_,h,by simp⟩
theorem P6 {T : List Edge} {p : Edge → Bool} (hn : T.Nodup) {x y : Edge} (hx : x ∈ T) (hy : y ∈ T) (px : p x = true) (py : p y = true) (h : x ≠ y) : 2 ≤ T.countP p := by
  rw [rT];have hx' : x ∈ T.filter p := fZ.2 ⟨hx,px⟩;have hy' : y ∈ T.filter p := fZ.2 ⟨hy,py⟩
  match he : T.filter p,hx',hy' with
  | [],hx',_ => cases hx'
  | [z],hx',hy' => simp at hx' hy';exact absurd (hx'.trans hy'.symm) h
  | _ :: _ :: _,_,_ => simp
theorem A5 {T : List Edge} (hn : T.Nodup) {a b c : Int} (h : O8 T c ≤ 1) (ha : (a,c) ∈ T) (hb : (b,c) ∈ T) : a = b := by
  by_cases e : a = b
  · exact e
  · have := P6 (p := fun e => decide (e.2 = c)) hn ha hb (by simp) (by simp) (fun q => e (Prod.mk.inj q).1)
    unfold O8 at h;omega
theorem N8 {T : List Edge} (hn : T.Nodup) {a b c : Int} (h : I1 T c ≤ 1) (ha : (c,a) ∈ T) (hb : (c,b) ∈ T) : a = b := by
  by_cases e : a = b
  · exact e
  · have := P6 (p := fun e => decide (e.1 = c)) hn ha hb (by simp) (by simp) (fun q => e (Prod.mk.inj q).2)
    unfold I1 at h;omega
theorem sT {α β : Type} {f : α → β} : ∀ {l : List α}, l.Nodup → (∀ x y, x ∈ l → y ∈ l → f x = f y → x = y) → (l.map f).Nodup
  | [],_,_ => by simp
  | a :: l,hn,hi => by
    rw [cP] at hn;rw [List.map_cons,cP];refine ⟨fun h => ?_,sT hn.2 fun x y hx hy e => hi x y (.tail _ hx) (.tail _ hy) e⟩;obtain ⟨x,hx,e⟩ := aQ.1 h;have := hi x a (.tail _ hx) (.head _) e;subst this;exact hn.1 hx
theorem kA {α : Type} [DecidableEq α] : ∀ {l m : List α}, l.Nodup → (∀ x, x ∈ l → x ∈ m) → l.length ≤ m.length
  | [],_,_,_ => by simp
  | a :: l,m,hn,hs => by
    have ha := hs a (.head _);rw [cP] at hn;have := kA (m := m.erase a) hn.2 fun x hx => (A8 (fun e => by subst e;exact hn.1 hx)).2 (hs x (.tail _ hx))
    rw [vD ha] at this;have := List.length_pos_of_mem ha;simp only [List.length_cons];omega
theorem mF.bij {g : wV} {k : Nat} {T : List Edge} (h : mF g k T) (P : Int → Bool) :
    T.countP (fun e => decide (e.1 ≠ g.st) && P e.1) = T.countP (fun e => !g.ex e.2 && P e.2) := by
  rw [rT,rT];have key : ((T.filter (fun e => decide (e.1 ≠ g.st) && P e.1)).map (·.1)).Perm ((T.filter (fun e => !g.ex e.2 && P e.2)).map (·.2)) := by
    refine (L7 ?_ ?_).2 fun c => ?_
    · refine sT (h.nd.filter _) fun x y hx hy e => ?_
      obtain ⟨hx,qx⟩ := fZ.1 hx;obtain ⟨hy,qy⟩ := fZ.1 hy;obtain ⟨a,b⟩ := x;obtain ⟨a',b'⟩ := y;simp only at e qx;subst e;simp at qx;have hb := h.bal a qx.1 (h.val _ hx).2.2;have := h.le1 a;have := N8 h.nd (by omega) hx hy
      subst this;rfl
    · refine sT (h.nd.filter _) fun x y hx hy e => ?_
      obtain ⟨hx,qx⟩ := fZ.1 hx;obtain ⟨hy,qy⟩ := fZ.1 hy;obtain ⟨a,b⟩ := x;obtain ⟨a',b'⟩ := y;simp only at e;subst e;have := A5 h.nd (h.le1 b) hx hy;subst this;rfl
    · simp only [aQ,fZ,aT,decide_eq_true_eq,S8];constructor
      · rintro ⟨⟨a,b⟩,⟨he,h1,h2⟩,rfl⟩;simp only at h1 h2;have hx := (h.val _ he).2.2;have h0 : 0 < O8 T a := by rw [← h.bal a h1 hx];exact I0.2 ⟨b,he⟩
        obtain ⟨p,hp⟩ := vW.1 h0;exact ⟨(p,a),⟨hp,hx,h2⟩,rfl⟩
      · rintro ⟨⟨a,b⟩,⟨he,h1,h2⟩,rfl⟩;simp only at h1 h2;have hst := (h.val _ he).2.1;have h0 : 0 < I1 T b := by rw [h.bal b hst h1];exact vW.2 ⟨a,he⟩
        obtain ⟨p,hp⟩ := I0.1 h0;exact ⟨(b,p),⟨hp,hst,h2⟩,rfl⟩
  simpa using key.length_eq
theorem tY {α : Type} (l : List α) (p q : α → Bool) : l.countP p = l.countP (fun x => q x && p x) + l.countP (fun x => !q x && p x) := by
  induction l with
  | nil => rfl
  | cons a l ih =>
    simp only [BK];cases p a <;> cases q a <;> simp <;> omega
theorem mF.ends {g : wV} {k : Nat} {T : List Edge} (h : mF g k T) : T.countP (fun e => g.ex e.2) = k := by
  have h1 := h.bij fun _ => true
  have h2 := tY T (fun _ => true) (fun e => g.ex e.2);have h3 := tY T (fun _ => true) (fun e => decide (e.1 = g.st));have h4 := h.sto;unfold I1 at h4;simp at h1 h2 h3;omega
structure zJ7 (g : wV) (k : Nat) (T : List Edge) (X : Int → Nat) (n : Node) : Prop where
  nd : T.Nodup
  val : ∀ e,e ∈ T → e.2 ∈ g.sp e.1 ∧ e.2 ≠ g.st ∧ g.ex e.1 = false
  inn : ∀ c,O8 T c + (if n = (c,false) then 1 else 0) = X c
  out : ∀ c,c ≠ g.st → g.ex c = false → I1 T c = X c + (if n = (c,true) then 1 else 0)
  sto : I1 T g.st = k + (if n = (g.st,true) then 1 else 0)
  le1 : ∀ c,X c ≤ 1
def Tk (T : List Edge) (b n : Node) (T' : List Edge) : Prop :=
  if b.2 = true ∧ n.2 = false ∧ b.1 ≠ n.1 then T'.Perm ((b.1,n.1) :: T)
  else if b.2 = false ∧ n.2 = true ∧ b.1 ≠ n.1 then T.Perm ((n.1,b.1) :: T')
  else T' = T
theorem HR {T T' : List Edge} {a b : Int} (h : T'.Perm ((a,b) :: T)) (c : Int) : O8 T' c = O8 T c + if b = c then 1 else 0 := by
  unfold O8;rw [h.countP_eq,BK];simp
theorem B6 {T T' : List Edge} {a b : Int} (h : T'.Perm ((a,b) :: T)) (c : Int) : I1 T' c = I1 T c + if a = c then 1 else 0 := by
  unfold I1;rw [h.countP_eq,BK];simp
structure zP9 (g : wV) (T0 T : List Edge) (X : Int → Nat) (l : List Node) : Prop where
  ed : ∀ a c,(a,true) ∈ l → (c,false) ∈ l → ((a,c) ∈ T ↔ (a,c) ∈ T0)
  ce : ∀ c,g.ex c = false → (c,true) ∈ l → (c,false) ∈ l → X c = O8 T0 c
theorem zJ7.step {g : wV} {k : Nat} {T0 T T' : List Edge} {X : Int → Nat} {b n : Node} {l : List Node} (h : zJ7 g k T X n) (hr : zK1 g T0 b n) (hT : Tk T b n T') (hm : zP9 g T0 T X (n :: b :: l)) (hnd : (n :: b :: l).Nodup)
    (hns : n ≠ (g.st,true)) : ∃ X',zJ7 g k T' X' b ∧ zP9 g T0 T' X' (b :: l) := by
  obtain ⟨bc,bo⟩ := b;obtain ⟨nc,no⟩ := n;have hnl : (nc,no) ∉ (bc,bo) :: l := (cP.1 hnd).1;rcases hr with ⟨h1,h2,h3,h4,h5,h6,h7⟩ | ⟨h1,h2,h3,h4,h5,h6⟩ | ⟨h1,h2,h3,h4,h5,h6⟩ | ⟨h1,h2,h3,h4,h5⟩ <;> simp only at h1 h2 h3 <;> subst h1 <;> subst h2
  · simp only at h4 h5 h6 h7;have hT' : T'.Perm ((bc,nc) :: T) := by unfold Tk at hT;rw [if_pos ⟨rfl,rfl,h3⟩] at hT;exact hT
    have hnT : (bc,nc) ∉ T := fun q => h7 ((hm.ed bc nc (by simp) (by simp)).1 q)
    refine ⟨X,⟨hT'.nodup_iff.2 (cP.2 ⟨hnT,h.nd⟩),fun e he => ?_,fun c => ?_,fun c hc hx => ?_,?_,h.le1⟩,⟨fun a c ha hc => ?_,fun c hx ha hc => hm.ce c hx (.tail _ ha) (.tail _ hc)⟩⟩
    · rcases bL.1 (hT'.mem_iff.1 he) with rfl | he
      · exact ⟨h4,h5,h6⟩
      · exact h.val e he
    · have := h.inn c;rw [HR hT',if_neg (fun q : (bc,true) = (c,false) => by cases q)]
      by_cases e : nc = c
      · subst e;simp at this ⊢;omega
      · rw [if_neg e];rw [if_neg (fun q => e (Prod.mk.inj q).1)] at this;exact this
    · have := h.out c hc hx;rw [B6 hT',this,if_neg (fun q : (nc,false) = (c,true) => by cases q)]
      by_cases e : bc = c
      · subst e;simp
      · rw [if_neg e,if_neg (fun q => e (Prod.mk.inj q).1)]
    · have := h.sto;rw [B6 hT',this,if_neg (fun q : (nc,false) = (g.st,true) => by cases q)]
      by_cases e : bc = g.st
      · subst e;simp
      · rw [if_neg e,if_neg (fun q => e (Prod.mk.inj q).1)]
    · rw [hT'.mem_iff,bL];rw [← hm.ed a c (.tail _ ha) (.tail _ hc)];constructor
      · rintro (q | q)
        · obtain ⟨rfl,rfl⟩ := Prod.mk.inj q;exact absurd hc hnl
        · exact q
      · exact .inr
  · subst h3;have hT' : T' = T := by unfold Tk at hT;rw [if_neg (by simp),if_neg (by simp)] at hT;exact hT
    subst hT';simp only at h4 h5 h6;have hX := hm.ce bc h5 (by simp) (by simp)
    refine ⟨fun c => if c = bc then X c - 1 else X c,⟨h.nd,h.val,fun c => ?_,fun c hc hx => ?_,?_,fun c => ?_⟩,⟨fun a c ha hc => hm.ed a c (.tail _ ha) (.tail _ hc),fun c hx ha hc => ?_⟩⟩
    · have := h.inn c;rw [if_neg (fun q : (bc,true) = (c,false) => by cases q)]
      by_cases e : c = bc
      · subst e;simp at this ⊢;omega
      · rw [if_neg e];rw [if_neg (fun q => e (Prod.mk.inj q).1.symm)] at this;exact this
    · have := h.out c hc hx;rw [if_neg (fun q : (bc,false) = (c,true) => by cases q)] at this
      by_cases e : c = bc
      · subst e;simp;omega
      · rw [if_neg e,if_neg (fun q => e (Prod.mk.inj q).1.symm)];exact this
    · have := h.sto;rw [if_neg (fun q : (bc,false) = (g.st,true) => by cases q)] at this
      rw [if_neg (fun q => h4 (Prod.mk.inj q).1)];exact this
    · have := h.le1 c;split <;> omega
    · skip;by_cases e : c = bc
      · subst e;exact absurd hc hnl
      · rw [if_neg e];exact hm.ce c hx (.tail _ ha) (.tail _ hc)
  · subst h3;have hT' : T' = T := by unfold Tk at hT;rw [if_neg (by simp),if_neg (by simp)] at hT;exact hT
    subst hT';simp only at h4 h5 h6;have hX := hm.ce bc h5 (by simp) (by simp)
    refine ⟨fun c => if c = bc then X c + 1 else X c,⟨h.nd,h.val,fun c => ?_,fun c hc hx => ?_,?_,fun c => ?_⟩,⟨fun a c ha hc => hm.ed a c (.tail _ ha) (.tail _ hc),fun c hx ha hc => ?_⟩⟩
    · have := h.inn c;rw [if_neg (fun q : (bc,true) = (c,false) => by cases q)] at this
      by_cases e : c = bc
      · subst e;simp at this ⊢;omega
      · rw [if_neg e,if_neg (fun q => e (Prod.mk.inj q).1.symm)];exact this
    · have := h.out c hc hx;rw [if_neg (fun q : (bc,false) = (c,true) => by cases q)]
      by_cases e : c = bc
      · subst e;simp at this ⊢;omega
      · rw [if_neg e];rw [if_neg (fun q => e (Prod.mk.inj q).1.symm)] at this;exact this
    · have := h.sto;rw [if_neg (fun q => h4 (Prod.mk.inj q).1)] at this;rw [if_neg (fun q : (bc,false) = (g.st,true) => by cases q)];exact this
    · have := h.le1 c;split
      · rename_i e;subst e;omega
      · exact this
    · skip;by_cases e : c = bc
      · subst e;exact absurd ha hnl
      · rw [if_neg e];exact hm.ce c hx (.tail _ ha) (.tail _ hc)
  · simp only at h4 h5;have hT' : T.Perm ((nc,bc) :: T') := by unfold Tk at hT;rw [if_neg (by simp),if_pos ⟨rfl,rfl,h3⟩] at hT;exact hT
    have hnd' := cP.1 (hT'.nodup_iff.1 h.nd);have hsub : ∀ e,e ∈ T' → e ∈ T := fun e he => hT'.mem_iff.2 (.tail _ he);refine ⟨X,⟨hnd'.2,fun e he => h.val e (hsub e he),fun c => ?_,fun c hc hx => ?_,?_,h.le1⟩,⟨fun a c ha hc => ?_,fun c hx ha hc => hm.ce c hx (.tail _ ha) (.tail _ hc)⟩⟩
    · have := h.inn c;rw [HR hT',if_neg (fun q : (nc,true) = (c,false) => by cases q)] at this
      by_cases e : bc = c
      · subst e;simp at this ⊢;omega
      · rw [if_neg e] at this;rw [if_neg (fun q => e (Prod.mk.inj q).1)];exact this
    · have := h.out c hc hx;rw [B6 hT'] at this;rw [if_neg (fun q : (bc,false) = (c,true) => by cases q)]
      by_cases e : nc = c
      · subst e;simp at this ⊢;omega
      · rw [if_neg e,if_neg (fun q => e (Prod.mk.inj q).1)] at this;exact this
    · have := h.sto;rw [B6 hT',if_neg h4,if_neg (fun q => h4 (Prod.mk.inj q).1)] at this;rw [if_neg (fun q : (bc,false) = (g.st,true) => by cases q)];exact this
    · rw [← hm.ed a c (.tail _ ha) (.tail _ hc),hT'.mem_iff,bL];constructor
      · exact .inr
      · rintro (q | q)
        · obtain ⟨rfl,rfl⟩ := Prod.mk.inj q;exact absurd ha hnl
        · exact q
theorem mF.start {g : wV} {k : Nat} {T : List Edge} (h : mF g k T) (hst : g.ex g.st = false) {e : Int} (he : g.ex e = true) (hu : O8 T e = 0) (l : List Node) : ∃ X,zJ7 g k T X (e,false) ∧ zP9 g T T X l := by
  refine ⟨fun c => if c = e then 1 else O8 T c,⟨h.nd,h.val,fun c => ?_,fun c hc hx => ?_,?_,fun c => ?_⟩,⟨fun a c _ _ => Iff.rfl,fun c hx _ _ => ?_⟩⟩
  · skip;by_cases q : c = e
    · subst q;simp [hu]
    · rw [if_neg (fun w => q (Prod.mk.inj w).1.symm),if_neg q];rfl
  · skip;rw [if_neg (fun w : (e,false) = (c,true) => by cases w),if_neg (fun q => by subst q;rw [he] at hx;cases hx)]
    exact h.bal c hc hx
  · rw [if_neg (fun w : (e,false) = (g.st,true) => by cases w)];exact h.sto
  · have := h.le1 c;split <;> omega
  · rw [if_neg (fun q => by subst q;rw [he] at hx;cases hx)]
theorem zJ7.done {g : wV} {k : Nat} {T : List Edge} {X : Int → Nat} (h : zJ7 g k T X (g.st,true)) : mF g (k + 1) T := by
  have hi : ∀ c,O8 T c = X c := fun c => by
    have := h.inn c;rw [if_neg (fun w : (g.st,true) = (c,false) => by cases w)] at this
    exact this
  refine ⟨h.nd,h.val,fun c => by rw [hi];exact h.le1 c,fun c hc hx => ?_,by simpa using h.sto⟩
  rw [hi,h.out c hc hx,if_neg (fun q => hc (Prod.mk.inj q).1.symm)];rfl
structure L2 (g : wV) (T : List Edge) (R : Node → Bool) : Prop where
  st : R (g.st,true) = true
  cl : ∀ b n,R b = true → zK1 g T b n → R n = true
  ex : ∀ c,R (c,false) = true → g.ex c = true → O8 T c ≠ 0
def M3 (g : wV) (R : Node → Bool) (e : Edge) : Bool := (R (e.1,true) && !R (e.2,false)) || (R (e.2,false) && (g.ex e.2 || !R (e.2,true)))
theorem L2.count {g : wV} {k : Nat} {T : List Edge} {R : Node → Bool} (h : mF g k T) (hs : L2 g T R) (hst : g.ex g.st = false) (hne : ∀ a,a ∉ g.sp a) : T.countP (M3 g R) = k := by
  have hb := h.bij fun c => R (c,true);have b1 : ∀ e,e ∈ T → R (e.2,false) = true → R (e.1,true) = true := fun e he hR => by
    by_cases q : e.1 = g.st
    · rw [q];exact hs.st
    · refine hs.cl _ _ hR (.inr (.inr (.inr ⟨rfl,rfl,fun w => ?_,q,he⟩)));simp only at w;have := (h.val e he).1;rw [w] at this;exact hne _ this
  have b2 : ∀ e,e ∈ T → g.ex e.2 = false → R (e.2,true) = true → R (e.2,false) = true := fun e he hx hR => by
    refine hs.cl _ _ hR (.inr (.inl ⟨rfl,rfl,rfl,(h.val e he).2.1,hx,?_⟩));have := h.le1 e.2;have : 0 < O8 T e.2 := vW.2 ⟨e.1,he⟩;show O8 T e.2 = 1;omega
  have h3 := tY T (fun e => R (e.1,true)) (fun e => decide (e.1 = g.st));have h4 : T.countP (fun e => decide (e.1 = g.st) && R (e.1,true)) = k := by
    rw [← h.sto];unfold I1;refine WA fun e he => ?_
    by_cases q : e.1 = g.st
    · simp [q,hs.st]
    · simp [q]
  have h5 : T.countP (fun e => !decide (e.1 = g.st) && R (e.1,true)) = T.countP (fun e => decide (e.1 ≠ g.st) && R (e.1,true)) := by
    congr 1;funext e;by_cases q : e.1 = g.st <;> simp [q]
  have h6 := tY T (fun e => R (e.1,true)) (fun e => !g.ex e.2 && R (e.2,true));have h7 : T.countP (fun e => (!g.ex e.2 && R (e.2,true)) && R (e.1,true)) = T.countP (fun e => !g.ex e.2 && R (e.2,true)) := by
    refine WA fun e he => ?_
    cases hx : g.ex e.2 <;> simp
    intro hR;exact b1 e he (b2 e he hx hR)
  have h8 : T.countP (fun e => !(!g.ex e.2 && R (e.2,true)) && R (e.1,true)) = T.countP (M3 g R) := by
    refine WA fun e he => ?_
    unfold M3;have c1 := b1 e he;have c2 := b2 e he;revert c1 c2;cases g.ex e.2 <;> cases R (e.2,true) <;> cases R (e.2,false) <;> cases R (e.1,true) <;> simp
  omega
def Way (g : wV) : Int → List Int → Prop
  | c,[] => g.ex c = true
  | c,x :: l => g.ex c = false ∧ x ∈ g.sp c ∧ Way g x l
theorem L2.way {g : wV} {k : Nat} {T : List Edge} {R : Node → Bool} (h : mF g k T) (hs : L2 g T R) (hst : g.ex g.st = false) (hne : ∀ a, a ∉ g.sp a) : ∀ (l : List Int) (c : Int), R (c, true) = true → g.ex c = false → Way g c l → ∃ e, e ∈ T ∧ M3 g R e = true ∧ e.2 ∈ l
  | [],c,hR,hx,hw => by unfold Way at hw;rw [hx] at hw;cases hw
  | x :: l,c,hR,hx,hw => by
    unfold Way at hw;obtain ⟨_,h1,h2⟩ := hw;by_cases e1 : x = g.st
    · subst e1;obtain ⟨e,he,hc,hm⟩ := L2.way h hs hst hne l g.st hs.st hst h2;exact ⟨e,he,hc,.tail _ hm⟩
    · by_cases e2 : R (x,false) = true
      · have use : O8 T x ≠ 0 → (g.ex x = true ∨ R (x,true) = false) → ∃ e,e ∈ T ∧ M3 g R e = true ∧ e.2 ∈ x :: l := fun hu hq => by
          obtain ⟨p,hp⟩ := vW.1 (Nat.pos_of_ne_zero hu);refine ⟨_,hp,?_,dC⟩;unfold M3;rcases hq with hq | hq <;> simp [e2,hq]
        cases hxx : g.ex x with
        | true => exact use (hs.ex x e2 hxx) (.inl hxx)
        | false =>
          by_cases e3 : R (x,true) = true
          · obtain ⟨e,he,hc,hm⟩ := L2.way h hs hst hne l x e3 hxx h2;exact ⟨e,he,hc,.tail _ hm⟩
          · refine use (fun h0 => e3 (hs.cl _ _ e2 (.inr (.inr (.inl ⟨rfl,rfl,rfl,e1,hxx,h0⟩))))) (.inr (by simpa using e3))
      · refine ⟨(c,x),?_,by unfold M3;simp [hR,e2],dC⟩
        by_cases hT : (c,x) ∈ T
        · exact hT
        · exact absurd (hs.cl _ _ hR (.inl ⟨rfl,rfl,fun q => by simp only at q;subst q;exact hne _ h1,h1,e1,hx,hT⟩)) e2
theorem L2.none {g : wV} {T : List Edge} {R : Node → Bool} (h : mF g 0 T) (hs : L2 g T R) (hst : g.ex g.st = false) (hne : ∀ a,a ∉ g.sp a) {l : List Int} (hw : Way g g.st l) : False := by
  obtain ⟨e,he,hc,_⟩ := hs.way h hst hne l g.st hs.st hst hw;have := hs.count h hst hne;have h2 : 0 < T.countP (M3 g R) := uD.2 ⟨e,he,hc⟩;omega
theorem L2.one {g : wV} {T : List Edge} {R : Node → Bool} (h : mF g 1 T) (hs : L2 g T R) (hst : g.ex g.st = false) (hne : ∀ a,a ∉ g.sp a) : ∃ p x,(p,x) ∈ T ∧ x ≠ g.st ∧ ∀ l,Way g g.st l → x ∈ l := by
  have hc := hs.count h hst hne;have h2 : 0 < T.countP (M3 g R) := by omega
  obtain ⟨⟨p,x⟩,he,hx⟩ := uD.1 h2;refine ⟨p,x,he,(h.val _ he).2.1,fun l hw => ?_⟩
  obtain ⟨e',he',hx',hm⟩ := hs.way h hst hne l g.st hs.st hst hw;by_cases q : (p,x) = e'
  · rw [← q] at hm;exact hm
  · have := P6 h.nd he he' hx hx' q;omega
def qF (T : List Edge) (U : Int → Option Int) : Prop := ∀ c p,U c = some p ↔ (p,c) ∈ T
def oB (g : wV) (T : List Edge) (U : Int → Option Int) (n : Node) : List Node :=
  if n.2 = true then (g.sp n.1).filterMap (fun c => if c ≠ g.st ∧ (n.1,c) ∉ T then some (c,false) else none) ++ (if (U n.1).isSome = true then [(n.1,false)] else [])
  else match U n.1 with
    | none => [(n.1,true)]
    | some b => if b ≠ g.st then [(b,true)] else []
def vC (g : wV) (n : Node) : Prop := if n.2 = true then g.ex n.1 = false else n.1 ≠ g.st
section
variable {g : wV} {k : Nat} {T : List Edge} {U : Int → Option Int}
theorem qF.used (hU : qF T U) {c : Int} : (U c).isSome = true ↔ 0 < O8 T c := by
  rw [vW];constructor
  · intro h;obtain ⟨p,hp⟩ := Option.isSome_iff_exists.1 h;exact ⟨p,(hU c p).1 hp⟩
  · rintro ⟨p,hp⟩;rw [(hU c p).2 hp];rfl
theorem qF.free (hU : qF T U) {c : Int} : U c = none ↔ O8 T c = 0 := by
  have := hU.used (c := c);cases h : U c with
  | none => rw [h] at this;simp at this;simp;exact this
  | some p => rw [h] at this;simp at this;simp;omega
theorem SY (h : mF g k T) (hU : qF T U) (hst : g.ex g.st = false) (hne : ∀ a,a ∉ g.sp a) {n x : Node} (hn : vC g n) (hx : ¬ (n.2 = false ∧ U n.1 = none ∧ g.ex n.1 = true)) (hm : x ∈ oB g T U n) : zK1 g T n x ∧ vC g x := by
  obtain ⟨c,o⟩ := n;unfold oB at hm;cases o with
  | true =>
    unfold vC at hn;simp only [if_true] at hm hn;rcases bI.1 hm with hm | hm
    · obtain ⟨y,hy,hq⟩ := fX.1 hm;split at hq
      · rename_i hc;cases hq;refine ⟨.inl ⟨rfl,rfl,fun e => ?_,hy,hc.1,hn,hc.2⟩,by unfold vC;simp [hc.1]⟩
        simp only at e;subst e;exact hne _ hy
      · cases hq
    · split at hm
      · rename_i hu;simp only [bY] at hm;subst hm;have h0 := hU.used.1 hu;have h1 := h.le1 c;have hcs : c ≠ g.st := by
          obtain ⟨p,hp⟩ := vW.1 h0;exact (h.val _ hp).2.1
        exact ⟨.inr (.inl ⟨rfl,rfl,rfl,hcs,hn,by show O8 T c = 1;omega⟩),by unfold vC;simpa using hcs⟩
      · cases hm
  | false =>
    unfold vC at hn;simp only [mA,if_false] at hm hn;split at hm
    · rename_i hu;simp only [bY] at hm;subst hm;have hxx : g.ex c = false := by
        cases he : g.ex c with
        | false => rfl
        | true => exact absurd ⟨rfl,hu,he⟩ hx
      exact ⟨.inr (.inr (.inl ⟨rfl,rfl,rfl,hn,hxx,hU.free.1 hu⟩)),by unfold vC;simpa using hxx⟩
    · rename_i b hu;split at hm
      · rename_i hb;simp only [bY] at hm;subst hm;have he := (hU c b).1 hu;have hv := h.val _ he;refine ⟨.inr (.inr (.inr ⟨rfl,rfl,fun e => ?_,hb,he⟩)),by unfold vC;simpa using hv.2.2⟩
        simp only at e;subst e;exact hne _ hv.1
      · cases hm
theorem SE (h : mF g k T) (hU : qF T U) {n x : Node} (hr : zK1 g T n x) : x ∈ oB g T U n := by
  obtain ⟨c,o⟩ := n;obtain ⟨y,p⟩ := x;unfold oB;rcases hr with ⟨h1,h2,h3,h4,h5,h6,h7⟩ | ⟨h1,h2,h3,h4,h5,h6⟩ | ⟨h1,h2,h3,h4,h5,h6⟩ | ⟨h1,h2,h3,h4,h5⟩ <;> simp only at h1 h2 h3 h4 h5 <;> subst h1 <;> subst h2 <;> simp only [if_true,mA,if_false]
  · exact iT _ (fX.2 ⟨y,h4,by rw [if_pos ⟨h5,h7⟩]⟩)
  · subst h3;refine zH _ ?_;rw [if_pos (hU.used.2 (by simp only at h6;omega))];simp
  · subst h3;simp only at h6;rw [hU.free.2 h6];simp
  · rw [(hU c y).2 h5];simp only;rw [if_pos h4];simp
inductive Tree (g : wV) (T : List Edge) : List (Node × Node) → Prop
  | one : Tree g T [((g.st,true),(g.st,true))]
  | more {F : List (Node × Node)} {x n : Node} : Tree g T F → n ∈ F.map (·.1) → x ∉ F.map (·.1) → zK1 g T n x → vC g x → Tree g T (F ++ [(x,n)])
theorem Tree.nodup {F : List (Node × Node)} (h : Tree g T F) : (F.map (·.1)).Nodup := by
  induction h with
  | one => simp
  | more _ _ hx _ _ ih =>
    rw [cV,fI];refine ⟨ih,by simp,fun a ha b hb => ?_⟩
    simp at hb;subst hb;rintro rfl;exact hx ha
theorem Tree.first {F : List (Node × Node)} (h : Tree g T F) : (g.st,true) ∈ F.map (·.1) := by
  induction h with
  | one => simp
  | more _ _ _ _ _ ih => simp only [cV,bI];exact .inl ih
theorem Tree.ok {F : List (Node × Node)} (h : Tree g T F) (hst : g.ex g.st = false) : ∀ n,n ∈ F.map (·.1) → vC g n := by
  induction h with
  | one => intro n hn;simp at hn;subst hn;unfold vC;simpa using hst
  | more _ _ _ _ ho ih =>
    intro n hn;simp only [cV,bI,List.map_cons,List.map_nil,bY] at hn;rcases hn with hn | rfl
    · exact ih n hn
    · exact ho
def LN (g : wV) (T : List Edge) (F : List (Node × Node)) : List Node → Prop
  | [] => False
  | [a] => a = (g.st,true)
  | a :: b :: l => a ≠ (g.st,true) ∧ (a,b) ∈ F ∧ zK1 g T b a ∧ LN g T F (b :: l)
theorem LN.more {F : List (Node × Node)} {y : Node × Node} : ∀ {l : List Node}, LN g T F l → LN g T (F ++ [y]) l
  | [],h => h
  | [a],h => h
  | a :: b :: l,h => ⟨h.1,iT _ h.2.1,h.2.2.1,LN.more h.2.2.2⟩
theorem Tree.path {F : List (Node × Node)} (h : Tree g T F) : ∀ x,x ∈ F.map (·.1) → ∃ l,LN g T F (x :: l) ∧ (x :: l).Nodup ∧ ∀ y,y ∈ x :: l → y ∈ F.map (·.1) := by
  induction h with
  | one => intro x hx;simp at hx;subst hx;exact ⟨[],rfl,by simp,by simp⟩
  | @more F z n hF hn hz hr ho ih =>
    intro x hx;simp only [cV,bI,List.map_cons,List.map_nil,bY] at hx;by_cases hxF : x ∈ F.map (·.1)
    · obtain ⟨l,h1,h2,h3⟩ := ih x hxF;exact ⟨l,h1.more,h2,fun y hy => by rw [cV];exact iT _ (h3 y hy)⟩
    · rcases hx with hx | rfl
      · exact absurd hx hxF
      · obtain ⟨l,h1,h2,h3⟩ := ih n hn;refine ⟨n :: l,⟨fun e => hz (by rw [e];exact hF.first),zH _ (by simp),hr,h1.more⟩,cP.2 ⟨fun q => hz (h3 _ q),h2⟩,fun y hy => ?_⟩
        rw [cV];rcases bL.1 hy with rfl | hy
        · exact zH _ (by simp)
        · exact iT _ (h3 y hy)
structure Grow (g : wV) (T : List Edge) (U : Int → Option Int) (F : List (Node × Node)) (Q D : List Node) : Prop where
  tree : Tree g T F
  all : F.map (·.1) = D ++ Q
  far : ∀ n,n ∈ D → ∀ x,x ∈ oB g T U n → x ∈ F.map (·.1)
  ex : ∀ c,(c,false) ∈ D → ¬ (U c = none ∧ g.ex c = true)
theorem Grow.start : Grow g T U [((g.st,true),(g.st,true))] [(g.st,true)] [] := ⟨.one,rfl,by simp,by simp⟩
theorem Grow.shut (h : mF g k T) (hU : qF T U) {F : List (Node × Node)} {D : List Node} (hg : Grow g T U F [] D) : L2 g T (fun n => decide (n ∈ F.map (·.1))) := by
  have ha : F.map (·.1) = D := by rw [hg.all,List.append_nil]
  refine ⟨decide_eq_true hg.tree.first,fun b n hb hr => ?_,fun c hc hx h0 => ?_⟩
  · have hb := of_decide_eq_true hb;rw [ha] at hb;exact decide_eq_true (hg.far b hb n (SE h hU hr))
  · have hc := of_decide_eq_true hc;rw [ha] at hc;exact hg.ex c hc ⟨hU.free.2 h0,hx⟩
structure CF (g : wV) (T : List Edge) (U : Int → Option Int) (n : Node) (F : List (Node × Node)) (Q D : List Node) (dn r : List Node) : Prop where
  tree : Tree g T F
  all : F.map (·.1) = (D ++ [n]) ++ Q
  far : ∀ n,n ∈ D → ∀ x,x ∈ oB g T U n → x ∈ F.map (·.1)
  ex : ∀ c,(c,false) ∈ D ++ [n] → ¬ (U c = none ∧ g.ex c = true)
  spl : oB g T U n = dn ++ r
  dn : ∀ x,x ∈ dn → x ∈ F.map (·.1)
theorem Grow.open {F : List (Node × Node)} {Q D : List Node} {n : Node} (hg : Grow g T U F (n :: Q) D) (hn : ¬ (n.2 = false ∧ U n.1 = none ∧ g.ex n.1 = true)) : CF g T U n F Q D [] (oB g T U n) := by
  refine ⟨hg.tree,by rw [hg.all];simp,hg.far,fun c hc => ?_,rfl,by simp⟩
  rcases bI.1 hc with hc | hc
  · exact hg.ex c hc
  · simp at hc;subst hc;exact fun q => hn ⟨rfl,q.1,q.2⟩
theorem CF.shut {F : List (Node × Node)} {Q D dn : List Node} {n : Node} (hg : CF g T U n F Q D dn []) : Grow g T U F Q (D ++ [n]) := by
  refine ⟨hg.tree,hg.all,fun m hm x hx => ?_,hg.ex⟩
  rcases bI.1 hm with hm | hm
  · exact hg.far m hm x hx
  · simp at hm;subst hm;rw [hg.spl,List.append_nil] at hx;exact hg.dn x hx
theorem CF.old {F : List (Node × Node)} {Q D dn r : List Node} {n x : Node} (hg : CF g T U n F Q D dn (x :: r)) (hx : x ∈ F.map (·.1)) : CF g T U n F Q D (dn ++ [x]) r :=
  ⟨hg.tree,hg.all,hg.far,hg.ex,by rw [hg.spl];simp,fun y hy => by
    rcases bI.1 hy with hy | hy
    · exact hg.dn y hy
    · simp at hy;subst hy;exact hx⟩
theorem CF.new (h : mF g k T) (hU : qF T U) (hst : g.ex g.st = false) (hne : ∀ a,a ∉ g.sp a) {F : List (Node × Node)} {Q D dn r : List Node} {n x : Node} (hg : CF g T U n F Q D dn (x :: r)) (hx : x ∉ F.map (·.1)) :
    CF g T U n (F ++ [(x,n)]) (Q ++ [x]) D (dn ++ [x]) r := by
  have hnF : n ∈ F.map (·.1) := by rw [hg.all];simp
  have hr := SY h hU hst hne (hg.tree.ok hst n hnF) (fun q => hg.ex n.1 (by obtain ⟨c,o⟩ := n;simp only at q;obtain ⟨rfl,_⟩ := q;simp) q.2) (x := x) (by rw [hg.spl];simp)
  have sub : ∀ y,y ∈ F.map (·.1) → y ∈ (F ++ [(x,n)]).map (·.1) := fun y hy => by rw [cV];exact iT _ hy
  refine ⟨.more hg.tree hnF hx hr.1 hr.2,by rw [cV,hg.all];simp,fun m hm y hy => sub y (hg.far m hm y hy),hg.ex,by rw [hg.spl];simp,fun y hy => ?_⟩
  rcases bI.1 hy with hy | hy
  · exact sub y (hg.dn y hy)
  · simp at hy;subst hy;rw [cV];exact zH _ (by simp)
structure T9 (g : wV) (k : Nat) (T0 : List Edge) (F : List (Node × Node)) (T : List Edge) (l : List Node) : Prop where
  path : LN g T0 F l
  nd : l.Nodup
  bal : ∃ X n r,l = n :: r ∧ zJ7 g k T X n ∧ zP9 g T0 T X l
theorem T9.start (h : mF g k T) (hst : g.ex g.st = false) {F : List (Node × Node)} (hF : Tree g T F) {e : Int} (he : g.ex e = true) (hu : O8 T e = 0) (hm : (e,false) ∈ F.map (·.1)) : ∃ l,T9 g k T F T ((e,false) :: l) := by
  obtain ⟨l,h1,h2,_⟩ := hF.path _ hm;obtain ⟨X,h3,h4⟩ := h.start hst he hu ((e,false) :: l);exact ⟨l,h1,h2,X,_,_,rfl,h3,h4⟩
theorem T9.done {T0 : List Edge} {F : List (Node × Node)} {l : List Node} (h : T9 g k T0 F T ((g.st,true) :: l)) : mF g (k + 1) T := by
  obtain ⟨X,n,r,e,h3,_⟩ := h.bal;cases e;exact h3.done
theorem T9.more {T0 : List Edge} {F : List (Node × Node)} {n : Node} {l : List Node} (h : T9 g k T0 F T (n :: l)) (hn : n ≠ (g.st,true)) : ∃ b r,l = b :: r ∧ (n,b) ∈ F ∧ (∀ T',Tk T b n T' → T9 g k T0 F T' (b :: r)) ∧
    (b.2 = true ∧ n.2 = false ∧ b.1 ≠ n.1 → (b.1,n.1) ∉ T) ∧ (b.2 = false ∧ n.2 = true ∧ b.1 ≠ n.1 → (n.1,b.1) ∈ T) := by
  obtain ⟨X,n',r,e,h3,h4⟩ := h.bal;cases e
  match l,h.path,h.nd,h4 with
  | [],h1,_,_ => exact absurd h1 hn
  | b :: r,h1,h2,h4 =>
    obtain ⟨p1,p2,p3,p4⟩ := h1;refine ⟨b,r,rfl,p2,fun T' hT => ?_,fun q hT => ?_,fun q => ?_⟩
    · obtain ⟨X',b1,b2⟩ := h3.step p3 hT h4 h2 hn;exact ⟨p4,(cP.1 h2).2,X',b,r,rfl,b1,b2⟩
    · obtain ⟨bc,bo⟩ := b;obtain ⟨nc,no⟩ := n;simp only at q hT;obtain ⟨rfl,rfl,q⟩ := q;have := (h4.ed bc nc (by simp) (by simp)).1 hT
      rcases p3 with w | w | w | w
      · exact w.2.2.2.2.2.2 this
      · exact q w.2.2.1
      · cases w.1
      · cases w.1
    · obtain ⟨bc,bo⟩ := b;obtain ⟨nc,no⟩ := n;simp only at q ⊢;obtain ⟨rfl,rfl,q⟩ := q;rcases p3 with w | w | w | w
      · cases w.1
      · cases w.1
      · exact absurd w.2.2.1 q
      · exact (h4.ed nc bc (by simp) (by simp)).2 w.2.2.2.2
theorem T9.nodupT {T0 : List Edge} {F : List (Node × Node)} {l : List Node} (h : T9 g k T0 F T l) : T.Nodup := by
  obtain ⟨X,n,r,_,h3,_⟩ := h.bal;exact h3.nd
def yW (g : wV) (T : List Edge) : Int → List Int → Prop
  | c,[] => c = g.st
  | c,p :: l => c ≠ g.st ∧ (p,c) ∈ T ∧ yW g T p l
def zK2 (T : List Edge) : Int → List Int → Prop
  | _,[] => True
  | c,x :: l => (c,x) ∈ T ∧ zK2 T x l
theorem zK2.out {e : Int} : ∀ {l : List Int} {c x : Int}, zK2 T c l → x ∈ c :: l → (c :: l).getLast? = some e → x ≠ e → ∃ y, y ∈ l ∧ (x, y) ∈ T
  | [],c,x,_,hx,he,hn => by simp at hx he;exact absurd (hx.trans he) hn
  | y :: l,c,x,h,hx,he,hn => by
    rcases bL.1 hx with rfl | hx
    · exact ⟨y,dC,h.1⟩
    · rw [List.getLast?_cons_cons] at he;obtain ⟨z,hz,hT⟩ := zK2.out h.2 hx he hn;exact ⟨z,.tail _ hz,hT⟩
theorem mF.lst (h : mF g k T) (hne : ∀ a, a ∉ g.sp a) {e : Int} (hx : g.ex e = true) : ∀ (m : Nat) (c : Int) (l : List Int), T.length + 1 ≤ m + (c :: l).length → (c :: l).Nodup → zK2 T c l → (c :: l).getLast? = some e → (∃ p, (p, e) ∈ T) → (∀ x, x ∈ l → x ≠ g.st) → ∃ b, yW g T c b
  | m,c,l,hm,hn,hf,he,hp,hs => by
    by_cases hc : c = g.st
    · exact ⟨[],hc⟩
    · have h0 : ∃ p,(p,c) ∈ T := by
        by_cases q : c = e
        · subst q;exact hp
        · obtain ⟨y,_,hy⟩ := hf.out (dC) he q;have hxx := (h.val _ hy).2.2;exact vW.1 (by rw [← h.bal c hc hxx];exact I0.2 ⟨y,hy⟩)
      obtain ⟨p,hpc⟩ := h0;have hpn : p ∉ c :: l := fun q => by
        have hpe : p ≠ e := fun w => by subst w;have := (h.val _ hpc).2.2;simp only at this;rw [hx] at this;cases this
        have hpx := (h.val _ hpc).2.2;have hps : p ≠ g.st := by
          rcases bL.1 q with rfl | q
          · exact hc
          · exact hs p q
        obtain ⟨y,hy,hT⟩ := hf.out q he hpe;have hb := h.bal p hps hpx;have hl := h.le1 p;have := N8 h.nd (by omega) hT hpc
        subst this;exact (cP.1 hn).1 hy
      match m with
      | 0 =>
        exfalso
        -- all cells of the list but the last one have an edge of their own
        have hlen : (c :: l).length ≤ T.length := by
          have key : ∀ x,x ∈ c :: l → x ∈ T.map (·.2) := fun x hxl => by
            by_cases q : x = c
            · subst q;exact aQ.2 ⟨_,hpc,rfl⟩
            · have : ∀ (l : List Int) (c x : Int),zK2 T c l → x ∈ l → x ∈ T.map (·.2) := by
                intro l
                induction l with
                | nil => intro c x _ hx;cases hx
                | cons y l ih =>
                  intro c x hf hx;rcases bL.1 hx with rfl | hx
                  · exact aQ.2 ⟨_,hf.1,rfl⟩
                  · exact ih y x hf.2 hx
              rcases bL.1 hxl with rfl | hxl
              · exact absurd rfl q
              · exact this l c x hf hxl
          have := kA hn key;simpa using this
        simp only [List.length_cons] at hm hlen;omega
      | m + 1 =>
        obtain ⟨b,hb⟩ := h.lst hne hx m p (c :: l) (by simp only [List.length_cons] at hm ⊢;omega) (cP.2 ⟨hpn,hn⟩) ⟨hpc,hf⟩ (by rw [List.getLast?_cons_cons];exact he) hp (fun x hx => by
          rcases bL.1 hx with rfl | hx
          · exact hc
          · exact hs x hx)
        exact ⟨p :: b,hc,hpc,hb⟩
theorem mF.back (h : mF g k T) (hne : ∀ a,a ∉ g.sp a) {p e : Int} (hx : g.ex e = true) (hp : (p,e) ∈ T) : ∃ b,yW g T e b :=
  h.lst hne hx T.length e [] (by simp) (by simp) trivial (by simp) ⟨p,hp⟩ (by simp)
theorem yW.uniq (h : mF g k T) : ∀ {l l' : List Int} {c : Int}, yW g T c l → yW g T c l' → l = l'
  | [],[],_,_,_ => rfl
  | [],_ :: _,_,h1,h2 => absurd h1 h2.1
  | _ :: _,[],_,h1,h2 => absurd h2 h1.1
  | p :: l,q :: l',c,h1,h2 => by
    have := A5 h.nd (h.le1 c) h1.2.1 h2.2.1;subst this;rw [yW.uniq h h1.2.2 h2.2.2]
theorem yW.suf : ∀ {l : List Int} {c x : Int}, yW g T c l → x ∈ l → ∃ l', yW g T x l' ∧ l'.length < l.length
  | p :: l,c,x,h,hx => by
    rcases bL.1 hx with rfl | hx
    · exact ⟨l,h.2.2,by simp⟩
    · obtain ⟨l',h1,h2⟩ := yW.suf h.2.2 hx;exact ⟨l',h1,by simp;omega⟩
theorem yW.nodup (h : mF g k T) : ∀ {l : List Int} {c : Int}, yW g T c l → (c :: l).Nodup
  | [],_,_ => by simp
  | p :: l,c,h1 => by
    refine cP.2 ⟨fun hx => ?_,yW.nodup h h1.2.2⟩
    obtain ⟨l',a,b⟩ := h1.suf hx;rw [yW.uniq h a h1] at b;omega
theorem yW.out : ∀ {l : List Int} {c x : Int}, yW g T c l → x ∈ l → ∃ y, y ∈ c :: l ∧ (x, y) ∈ T
  | p :: l,c,x,h,hx => by
    rcases bL.1 hx with rfl | hx
    · exact ⟨c,dC,h.2.1⟩
    · obtain ⟨y,a,b⟩ := yW.out h.2.2 hx;exact ⟨y,.tail _ a,b⟩
theorem yW.meet (h : mF g k T) {e : Int} {b : List Int} (he : g.ex e = true) (hb : yW g T e b) : ∀ {l : List Int} {c x : Int}, yW g T c l → x ∈ c :: l → x ≠ g.st → x ∈ e :: b → c ∈ e :: b
  | [],c,x,_,hx,_,hm => by simp at hx;subst hx;exact hm
  | p :: l,c,x,h1,hx,hs,hm => by
    rcases bL.1 hx with rfl | hx
    · exact hm
    · have hp := yW.meet h he hb h1.2.2 hx hs hm;have hpx := (h.val _ h1.2.1).2.2;have hps : p ≠ g.st := fun q => by
        subst q
        match l,h1.2.2,hx with
        | [],_,hx => simp at hx;exact hs hx
        | _ :: _,w,_ => exact w.1 rfl
      rcases bL.1 hp with q | hp
      · subst q;simp only at hpx;rw [he] at hpx;cases hpx
      · obtain ⟨y,hy,hT⟩ := hb.out hp;have hbb := h.bal p hps hpx;have := h.le1 p;have := N8 h.nd (by omega) hT h1.2.1
        subst this;exact hy
theorem yW.apart (h : mF g k T) {e e' : Int} {b b' : List Int} (he : g.ex e = true) (he' : g.ex e' = true) (hb : yW g T e b) (hb' : yW g T e' b') (hn : e ≠ e') {x : Int} (hx : x ∈ e :: b) (hx' : x ∈ e' :: b') : x = g.st := by
  by_cases q : x = g.st
  · exact q
  · have := yW.meet h he' hb' hb hx q hx';rcases bL.1 this with w | w
    · exact absurd w hn
    · obtain ⟨y,_,hT⟩ := hb'.out w;have := (h.val _ hT).2.2;simp only at this;rw [he] at this;cases this
theorem yW.way (h : mF g k T) : ∀ {l : List Int} {c : Int} {t : List Int}, yW g T c l → Way g c t → ∃ r, (c :: l).reverse ++ t = g.st :: r ∧ Way g g.st r
  | [],c,t,h1,h2 => by
    have : c = g.st := h1;subst this;exact ⟨t,rfl,h2⟩
  | p :: l,c,t,h1,h2 => by
    have hv := h.val _ h1.2.1;obtain ⟨r,a,b⟩ := yW.way h h1.2.2 (t := c :: t) ⟨hv.2.2,hv.1,h2⟩;exact ⟨r,by rw [← a];simp,b⟩
def oU (g : wV) (l : List Int) : Prop := l.Nodup ∧ ∃ r,l = g.st :: r ∧ Way g g.st r
theorem yW.lane (h : mF g k T) {e : Int} {b : List Int} (he : g.ex e = true) (hb : yW g T e b) : oU g (e :: b).reverse := by
  obtain ⟨r,h1,h2⟩ := hb.way h (t := []) he;rw [List.append_nil] at h1;exact ⟨(List.reverse_perm _).nodup_iff.2 (hb.nodup h),r,h1,h2⟩
end
end Go.Ln
namespace Go.Fl
abbrev MV := Nat → Nat → Option Nat
structure St where
  op : List Bool
  out : List Int
  q : List Nat
def pI (c : Nat) (n : Int) (s : St) : St := if s.op.getD c false = true then ⟨s.op.set c false,s.out.set c n,s.q ++ [c]⟩ else s
def uJ (mv : MV) (c : Nat) (s : St) (d : Nat) : St := match mv c d with
  | some n => pI n (s.out.getD c (-1) + 1) s
  | none => s
def wO (mv : MV) (c : Nat) (s : St) : St := (List.range 6).foldl (uJ mv c) s
def QP (mv : MV) : Nat → St → St
  | 0,s => s
  | k + 1, s => match s.q with
    | [] => s
    | c :: r => QP mv k (wO mv c ⟨s.op,s.out,r⟩)
def kR : List Nat → St → St
  | [],s => s
  | c :: r,s => kR r (pI c 0 s)
theorem nQ {α : Type} {l : List α} {i j : Nat} {v d : α} : (l.set i v).getD j d = if i = j ∧ i < l.length then v else l.getD j d := by
  simp only [aH,eZ];by_cases h : i = j
  · subst h;by_cases h2 : i < l.length
    · simp [h2]
    · simp [h2]
  · simp [h]
structure zC4 (N : Nat) (mv : MV) (ok : Nat → Bool) (src : Nat → Prop) (s : St) : Prop where
  lo : s.op.length = N
  lu : s.out.length = N
  qn : ∀ c,c ∈ s.q → c < N ∧ 0 ≤ s.out.getD c (-1)
  opn : ∀ c,c < N → (s.op.getD c false = true ↔ ok c = true ∧ s.out.getD c (-1) < 0)
  ge : ∀ c,c < N → -1 ≤ s.out.getD c (-1)
  nok : ∀ c,c < N → ok c = false → s.out.getD c (-1) = -1
  zero : ∀ c,c < N → s.out.getD c (-1) = 0 → src c
  pos : ∀ c,c < N → 0 < s.out.getD c (-1) → ∃ p d,p < N ∧ d < 6 ∧ mv p d = some c ∧ s.out.getD p (-1) = s.out.getD c (-1) - 1
section
variable {N : Nat} {mv : MV} {ok : Nat → Bool} {src : Nat → Prop}
theorem zC4.reach {s : St} (h : zC4 N mv ok src s) {n : Nat} {v : Int} (hn : n < N) (hop : s.op.getD n false = true) (hv : 0 ≤ v) (h0 : v = 0 → src n) (hp : 0 < v → ∃ p d,p < N ∧ d < 6 ∧ mv p d = some n ∧ s.out.getD p (-1) = v - 1) :
    zC4 N mv ok src ⟨s.op.set n false,s.out.set n v,s.q ++ [n]⟩ ∧ ok n = true ∧ s.out.getD n (-1) = -1 := by
  obtain ⟨h1,h2⟩ := (h.opn n hn).1 hop;have hm : s.out.getD n (-1) = -1 := by have := h.ge n hn;omega
  have go : ∀ c,(s.out.set n v).getD c (-1) = if n = c then v else s.out.getD c (-1) := fun c => by
    rw [nQ];by_cases e : n = c
    · rw [if_pos ⟨e,by rw [h.lu];exact hn⟩,if_pos e]
    · rw [if_neg (fun q => e q.1),if_neg e]
  refine ⟨⟨by simpa using h.lo,by simpa using h.lu,fun c hc => ?_,fun c hc => ?_,fun c hc => ?_,fun c hc hk => ?_,fun c hc h0' => ?_,fun c hc hp' => ?_⟩,h1,hm⟩
  · simp only at hc ⊢;rw [go];rcases bI.1 hc with hc | hc
    · refine ⟨(h.qn c hc).1,?_⟩;split
      · exact hv
      · exact (h.qn c hc).2
    · simp at hc;subst hc;rw [if_pos rfl];exact ⟨hn,hv⟩
  · simp only;rw [go,nQ];by_cases e : n = c
    · subst e;rw [if_pos ⟨rfl,by rw [h.lo];exact hn⟩,if_pos rfl]
      constructor
      · intro h;cases h
      · rintro ⟨_,h⟩;omega
    · rw [if_neg (fun q => e q.1),if_neg e];exact h.opn c hc
  · simp only;rw [go];split
    · omega
    · exact h.ge c hc
  · simp only;rw [go];split
    · rename_i e;subst e;rw [h1] at hk;cases hk
    · exact h.nok c hc hk
  · simp only at h0';rw [go] at h0';split at h0'
    · rename_i e;subst e;exact h0 h0'
    · exact h.zero c hc h0'
  · simp only at hp' ⊢;rw [go] at hp';have key : (∃ p d,p < N ∧ d < 6 ∧ mv p d = some c ∧ s.out.getD p (-1) = (if n = c then v else s.out.getD c (-1)) - 1) := by
      split at hp'
      · rename_i e;subst e;rw [if_pos rfl];exact hp hp'
      · rename_i e;rw [if_neg e];exact h.pos c hc hp'
    obtain ⟨p,d,k1,k2,k3,k4⟩ := key;refine ⟨p,d,k1,k2,k3,?_⟩;rw [go,go];by_cases e : n = p
    · subst e;rw [hm] at k4;split at k4 <;> rename_i e2
      · rw [if_pos e2] at hp';omega
      · rw [if_neg e2] at hp';omega
    · rw [if_neg e];exact k4
structure OE (N : Nat) (mv : MV) (ok : Nat → Bool) (src : Nat → Prop) (c k : Nat) (s : St) : Prop where
  inv : zC4 N mv ok src s
  hc : c < N
  h0 : 0 ≤ s.out.getD c (-1)
  qs : ∀ x,x ∈ s.q → s.out.getD c (-1) ≤ s.out.getD x (-1)
  so : s.q.Pairwise fun a b => s.out.getD a (-1) ≤ s.out.getD b (-1)
  top : ∀ x,x < N → s.out.getD x (-1) ≤ s.out.getD c (-1) + 1
  old : ∀ x,x < N → 0 ≤ s.out.getD x (-1) → x ∉ s.q → x ≠ c → ∀ d n,d < 6 → mv x d = some n → ok n = true → 0 ≤ s.out.getD n (-1) ∧ s.out.getD n (-1) ≤ s.out.getD x (-1) + 1
  cur : ∀ d n,d < k → mv c d = some n → ok n = true → 0 ≤ s.out.getD n (-1)
  all : ∀ x,x < N → ok x = true → src x → s.out.getD x (-1) = 0
theorem OE.next (hmv : ∀ c d n,c < N → mv c d = some n → n < N) {c k : Nat} {s : St} (h : OE N mv ok src c k s) (hk : k < 6) : OE N mv ok src c (k + 1) (uJ mv c s k) := by
  unfold uJ;have cur' : ∀ {s : St},(∀ d n,d < k → mv c d = some n → ok n = true → 0 ≤ s.out.getD n (-1)) → (∀ n,mv c k = some n → ok n = true → 0 ≤ s.out.getD n (-1)) → ∀ d n,d < k + 1 → mv c d = some n → ok n = true → 0 ≤ s.out.getD n (-1) := fun h1 h2 d n hd hm ho => by
    by_cases e : d = k
    · subst e;exact h2 n hm ho
    · exact h1 d n (by omega) hm ho
  cases hm : mv c k with
  | none => exact { h with cur := cur' h.cur (fun n hn => by rw [hm] at hn;cases hn) }
  | some n =>
    have hn := hmv c k n h.hc hm;simp only;unfold pI;by_cases hop : s.op.getD n false = true
    · rw [if_pos hop];obtain ⟨hi,h1,h2⟩ := h.inv.reach (v := s.out.getD c (-1) + 1) hn hop (by have := h.h0;omega) (fun e => by have := h.h0;omega) (fun _ => ⟨c,k,h.hc,hk,hm,by omega⟩)
      have hnc : n ≠ c := fun e => by rw [e] at h2;have := h.h0;omega
      have go : ∀ x,(s.out.set n (s.out.getD c (-1) + 1)).getD x (-1) = if n = x then s.out.getD c (-1) + 1 else s.out.getD x (-1) := fun x => by
        rw [nQ];by_cases e : n = x
        · rw [if_pos ⟨e,by rw [h.inv.lu];exact hn⟩,if_pos e]
        · rw [if_neg (fun q => e q.1),if_neg e]
      have goc := go c;rw [if_neg hnc] at goc;have hqn : ∀ x,x ∈ s.q → n ≠ x := fun x hx e => by subst e;have := (h.inv.qn _ hx).2;omega
      refine ⟨hi,h.hc,by simp only;rw [goc];exact h.h0,fun x hx => ?_,?_,fun x hx => ?_,fun x hx h0 hq hxc d n' hd hm' ho => ?_,cur' ?_ ?_,fun x hx ho hs => ?_⟩
      · simp only at hx ⊢;rw [goc,go];split
        · omega
        · rename_i e;rcases bI.1 hx with hx | hx
          · exact h.qs x hx
          · simp at hx;exact absurd hx.symm e
      · simp only;rw [JD];refine ⟨h.so.imp_of_mem fun {a b} ha hb hab => ?_,by simp,fun a ha b hb => ?_⟩
        · rw [go,go,if_neg (hqn _ ha),if_neg (hqn _ hb)];exact hab
        · simp at hb;subst hb;rw [go,go,if_neg (hqn _ ha),if_pos rfl];exact h.top a (h.inv.qn a ha).1
      · simp only;rw [go,goc];split
        · omega
        · exact h.top x hx
      · simp only at h0 hq ⊢;simp only [bI,bY,not_or] at hq;rw [go,if_neg (fun e => hq.2 e.symm)] at h0;have := h.old x hx h0 hq.1 hxc d n' hd hm' ho;rw [go,go,if_neg (fun e : n = x => hq.2 e.symm)];split
        · rename_i e;subst e;omega
        · exact this
      · intro d n' hd hm' ho;have := h.cur d n' hd hm' ho;simp only;rw [go];split
        · have := h.h0;omega
        · exact this
      · intro n' hm' ho;rw [hm] at hm';cases hm';simp only;rw [go,if_pos rfl];have := h.h0;omega
      · have := h.all x hx ho hs;simp only;rw [go];split
        · rename_i e;subst e;omega
        · exact this
    · rw [if_neg hop];refine { h with cur := cur' h.cur (fun n' hn' ho => ?_) };rw [hm] at hn';cases hn';rcases G3 (s.out.getD n (-1)) 0 with h3 | h3
      · exact absurd ((h.inv.opn n hn).2 ⟨ho,h3⟩) hop
      · exact h3
structure G1 (N : Nat) (mv : MV) (ok : Nat → Bool) (src : Nat → Prop) (s : St) : Prop where
  inv : zC4 N mv ok src s
  so : s.q.Pairwise fun a b => s.out.getD a (-1) ≤ s.out.getD b (-1)
  top : ∀ c r,s.q = c :: r → ∀ x,x < N → s.out.getD x (-1) ≤ s.out.getD c (-1) + 1
  old : ∀ x,x < N → 0 ≤ s.out.getD x (-1) → x ∉ s.q → ∀ d n,d < 6 → mv x d = some n → ok n = true → 0 ≤ s.out.getD n (-1) ∧ s.out.getD n (-1) ≤ s.out.getD x (-1) + 1
  all : ∀ x,x < N → ok x = true → src x → s.out.getD x (-1) = 0
theorem OE.end {c : Nat} {s : St} (h : OE N mv ok src c 6 s) : G1 N mv ok src s := by
  refine ⟨h.inv,h.so,fun c' r hq x hx => ?_,fun x hx h0 hq d n hd hm ho => ?_,h.all⟩
  · have := h.top x hx;have := h.qs c' (by rw [hq];exact dC)
    omega
  · by_cases e : x = c
    · subst e;refine ⟨h.cur d n hd hm ho,?_⟩;by_cases hn : n < N
      · exact h.top n hn
      · rw [aH,dX (by rw [h.inv.lu];omega)]
        simp only [Option.getD_none];omega
    · exact h.old x hx h0 hq e d n hd hm ho
theorem G1.pop {s : St} {c : Nat} {r : List Nat} (h : G1 N mv ok src s) (hq : s.q = c :: r) : OE N mv ok src c 0 ⟨s.op,s.out,r⟩ := by
  have hc := h.inv.qn c (by rw [hq];exact dC)
  have hso := h.so;rw [hq,kU] at hso;refine ⟨⟨h.inv.lo,h.inv.lu,fun x hx => h.inv.qn x (by rw [hq];exact dI _ hx),h.inv.opn,h.inv.ge,h.inv.nok,h.inv.zero,h.inv.pos⟩,hc.1,hc.2,hso.1,hso.2,h.top c r hq,fun x hx h0 hr hxc => h.old x hx h0 (by rw [hq,bL];exact fun e => e.elim hxc hr),fun d n hd => absurd hd (dJ _),h.all⟩
theorem G1.step (hmv : ∀ c d n,c < N → mv c d = some n → n < N) {s : St} {c : Nat} {r : List Nat} (h : G1 N mv ok src s) (hq : s.q = c :: r) : G1 N mv ok src (wO mv c ⟨s.op,s.out,r⟩) :=
  ((((((h.pop hq).next hmv (by omega)).next hmv (by omega)).next hmv (by omega)).next hmv (by omega)).next hmv (by omega)).next hmv (by omega) |>.end
def kJ (s : St) : Nat := s.q.length + s.op.countP (· = true)
theorem X4 {c : Nat} {n : Int} {s : St} : kJ (pI c n s) = kJ s := by
  unfold pI;split
  · rename_i h;have hlt : c < s.op.length := by
      rcases qX c s.op.length with h1 | h1
      · exact h1
      · rw [aH,dX h1] at h;cases h
    have hx : s.op[c] = true := by rwa [aH,aB hlt] at h
    have h1 := List.countP_set (p := fun b : Bool => decide (b = true)) (l := s.op) (i := c) (a := false) hlt;have h2 : 0 < s.op.countP (fun b : Bool => decide (b = true)) := uD.2 ⟨true,by rw [← hx];exact dB hlt,by simp⟩
    have h3 : (decide (s.op[c] = true)) = true := by rw [hx];rfl
    have h4 : (decide (false = true)) = false := rfl;rw [h3,h4] at h1;simp only [if_true,mA,if_false] at h1;unfold kJ;simp only [aF,dW];omega
  · rfl
theorem X3 {mv : MV} {c : Nat} {s : St} {d : Nat} : kJ (uJ mv c s d) = kJ s := by
  unfold uJ;split
  · exact X4
  · rfl
theorem X5 {mv : MV} {c : Nat} : ∀ (l : List Nat) (s : St), kJ (l.foldl (uJ mv c) s) = kJ s
  | [],_ => rfl
  | d :: l,s => by rw [kQ,X5 l,X3]
theorem GY {mv : MV} {c : Nat} {s : St} : kJ (wO mv c s) = kJ s := X5 _ _
theorem IP (hmv : ∀ c d n, c < N → mv c d = some n → n < N) : ∀ (k : Nat) (s : St), G1 N mv ok src s → kJ s ≤ k → G1 N mv ok src (QP mv k s) ∧ (QP mv k s).q = []
  | 0,s,h,hr => ⟨h,by
      have : s.q.length = 0 := by unfold kJ at hr;omega
      exact bW this⟩
  | k + 1,s,h,hr => by
    unfold QP;split
    · rename_i e;exact ⟨h,e⟩
    · rename_i c r e;refine IP hmv k _ (h.step hmv e) ?_;rw [GY];unfold kJ at hr ⊢;rw [e] at hr;simp at hr ⊢;omega
structure zK3 (N : Nat) (mv : MV) (ok : Nat → Bool) (src : Nat → Prop) (f : Nat → Int) : Prop where
  ge : ∀ c,c < N → -1 ≤ f c
  nok : ∀ c,c < N → ok c = false → f c = -1
  zero : ∀ c,c < N → (f c = 0 ↔ ok c = true ∧ src c)
  near : ∀ x,x < N → 0 ≤ f x → ∀ d n,d < 6 → mv x d = some n → ok n = true → 0 ≤ f n ∧ f n ≤ f x + 1
  pos : ∀ c,c < N → 0 < f c → ∃ p d,p < N ∧ d < 6 ∧ mv p d = some c ∧ f p = f c - 1
theorem P1 : ∀ (l : List Nat) (s : St),(∀ c,c ∈ l → c < N) → zC4 N mv ok src s → (∀ c,c ∈ l → src c) → (∀ x,x < N → 0 ≤ s.out.getD x (-1) → s.out.getD x (-1) = 0 ∧ x ∈ s.q) →
    zC4 N mv ok src (kR l s) ∧ (∀ x,x < N → 0 ≤ (kR l s).out.getD x (-1) → (kR l s).out.getD x (-1) = 0 ∧ x ∈ (kR l s).q) ∧ (∀ x,x < N → ok x = true → x ∈ l ∨ 0 ≤ s.out.getD x (-1) → 0 ≤ (kR l s).out.getD x (-1))
  | [],s,_,hi,_,h0 => ⟨hi,h0,fun x _ _ h => h.elim (fun h => by cases h) id⟩
  | c :: l,s,hl,hi,hs,h0 => by
    have hcN := hl c dC;unfold kR;have hl' : ∀ c,c ∈ l → c < N := fun x hx => hl x (dI _ hx);have hs' : ∀ c,c ∈ l → src c := fun x hx => hs x (dI _ hx);by_cases hop : s.op.getD c false = true
    · obtain ⟨h1,h2,h3⟩ := hi.reach (v := 0) hcN hop (qS _) (fun _ => hs c dC) (fun h => by omega)
      have e : pI c 0 s = ⟨s.op.set c false,s.out.set c 0,s.q ++ [c]⟩ := by unfold pI;rw [if_pos hop]
      rw [e];have go : ∀ x,(s.out.set c 0).getD x (-1) = if c = x then 0 else s.out.getD x (-1) := fun x => by
        rw [nQ];by_cases e : c = x
        · rw [if_pos ⟨e,by rw [hi.lu];exact hcN⟩,if_pos e]
        · rw [if_neg (fun q => e q.1),if_neg e]
      obtain ⟨g1,g2,g3⟩ := P1 l _ hl' h1 hs' (fun x hx hx0 => by
        simp only at hx0 ⊢;rw [go] at hx0 ⊢;split
        · rename_i e;exact ⟨rfl,by simp [e]⟩
        · rename_i e;rw [if_neg e] at hx0;have := h0 x hx hx0
          exact ⟨this.1,by simp [this.2]⟩)
      refine ⟨g1,g2,fun x hx ho h => g3 x hx ho ?_⟩
      simp only;rw [go];by_cases e : c = x
      · rw [if_pos e];exact .inr (qS _)
      · rw [if_neg e];rcases h with h | h
        · rcases bL.1 h with h | h
          · exact absurd h.symm e
          · exact .inl h
        · exact .inr h
    · have e : pI c 0 s = s := by unfold pI;rw [if_neg hop]
      rw [e];obtain ⟨g1,g2,g3⟩ := P1 l s hl' hi hs' h0;refine ⟨g1,g2,fun x hx ho h => g3 x hx ho ?_⟩
      rcases h with h | h
      · rcases bL.1 h with h | h
        · subst h;right;rcases G3 (s.out.getD x (-1)) 0 with h5 | h5
          · exact absurd ((hi.opn x hx).2 ⟨ho,h5⟩) hop
          · exact h5
        · exact .inl h
      · exact .inr h
def iX (N : Nat) (ok : Nat → Bool) : St := ⟨(List.range N).map ok,List.replicate N (-1),[]⟩
def tR (N : Nat) (mv : MV) (ok : Nat → Bool) (l : List Nat) : St := QP mv N (kR l (iX N ok))
theorem CO : ∀ (l : List Nat) (s : St), kJ (kR l s) = kJ s
  | [],_ => rfl
  | c :: l,s => by unfold kR;rw [CO l,X4]
theorem oI (l : List Nat) (hl : ∀ c,c ∈ l → c < N) : G1 N mv ok (· ∈ l) (kR l (iX N ok)) ∧ kJ (kR l (iX N ok)) ≤ N ∧ ∀ x,x < N → (kR l (iX N ok)).out.getD x (-1) ≤ 0 := by
  have hrep : ∀ c,(List.replicate N (-1 : Int)).getD c (-1) = -1 := fun c => by
    rw [aH,kY];split <;> rfl
  have h0 : zC4 N mv ok (· ∈ l) (iX N ok) := by
    refine ⟨by simp [iX],by simp [iX],fun c hc => by simp [iX] at hc,fun c hc => ?_,fun c _ => ?_,fun c _ _ => hrep c,fun c _ h => ?_,fun c _ h => ?_⟩
    · simp only [iX];rw [hrep,aH];simp [hc]
    · simp only [iX];rw [hrep];omega
    · simp only [iX] at h;rw [hrep] at h;omega
    · simp only [iX] at h;rw [hrep] at h;omega
  obtain ⟨h1,h2,h3⟩ := P1 l (iX N ok) hl h0 (fun c hc => hc) (fun x _ h => by simp only [iX] at h;rw [hrep] at h;omega)
  have hs : G1 N mv ok (· ∈ l) (kR l (iX N ok)) := by
    refine ⟨h1,?_,fun c r hq x hx => ?_,fun x hx hx0 hq => absurd (h2 x hx hx0).2 hq,fun x hx ho hs => (h2 x hx (h3 x hx ho (.inl hs))).1⟩
    · rw [List.pairwise_iff_forall_sublist];intro a b hab;have ha := h1.qn a (hab.subset (by simp))
      have hb := h1.qn b (hab.subset (by simp))
      rw [(h2 a ha.1 ha.2).1,(h2 b hb.1 hb.2).1];exact qS _
    · have hc := h1.qn c (by rw [hq];exact dC)
      rw [(h2 c hc.1 hc.2).1];rcases G3 ((kR l (iX N ok)).out.getD x (-1)) 0 with h5 | h5
      · omega
      · rw [(h2 x hx h5).1];omega
  have hr : kJ (kR l (iX N ok)) ≤ N := by
    rw [CO];unfold kJ iX;have := List.countP_le_length (p := fun b : Bool => decide (b = true)) (l := (List.range N).map ok);simp at this ⊢;exact this
  refine ⟨hs,hr,fun x hx => ?_⟩
  rcases G3 ((kR l (iX N ok)).out.getD x (-1)) 0 with h5 | h5
  · omega
  · rw [(h2 x hx h5).1];exact qS _
theorem JP (hmv : ∀ c d n,c < N → mv c d = some n → n < N) (l : List Nat) (hl : ∀ c,c ∈ l → c < N) : zK3 N mv ok (· ∈ l) (fun c => (tR N mv ok l).out.getD c (-1)) ∧ (tR N mv ok l).out.length = N := by
  obtain ⟨hs,hr,_⟩ := oI (mv := mv) (ok := ok) l hl;obtain ⟨g1,g2⟩ := IP hmv N _ hs hr;refine ⟨⟨g1.inv.ge,g1.inv.nok,fun c hc => ⟨fun h => ⟨?_,g1.inv.zero c hc h⟩,fun h => ?_⟩,fun x hx h0 => g1.old x hx h0 (by rw [g2];simp),g1.inv.pos⟩,g1.inv.lu⟩
  · cases ho : ok c with
    | true => rfl
    | false =>
      have := g1.inv.nok c hc ho;have h : (QP mv N (kR l (iX N ok))).out.getD c (-1) = 0 := h;omega
  · exact g1.all c hc h.1 h.2
theorem DN (c : Nat) : ∀ (l : List Nat) (s : St), kR (l ++ [c]) s = pI c 0 (kR l s)
  | [],_ => rfl
  | x :: l,s => by simp only [List.cons_append,kR];exact DN c l _
theorem OE.bound (hmv : ∀ c d n,c < N → mv c d = some n → n < N) {c k : Nat} {s : St} {B : Int} (h : OE N mv ok src c k s) (h1 : ∀ x,x < N → s.out.getD x (-1) ≤ B) (h2 : s.out.getD c (-1) + 1 ≤ B) :
    (∀ x,x < N → (uJ mv c s k).out.getD x (-1) ≤ B) ∧ (uJ mv c s k).out.getD c (-1) = s.out.getD c (-1) := by
  unfold uJ;split
  · rename_i n hm;unfold pI;split
    · rename_i hop;have hn := hmv c k n h.hc hm;have h3 := ((h.inv.opn n hn).1 hop).2;have hnc : n ≠ c := fun e => by rw [e] at h3;have := h.h0;omega
      refine ⟨fun x hx => ?_,?_⟩
      · simp only;rw [nQ];split
        · exact h2
        · exact h1 x hx
      · simp only;rw [nQ,if_neg (fun q => hnc q.1)]
    · exact ⟨h1,rfl⟩
  · exact ⟨h1,rfl⟩
theorem FJ (hmv : ∀ c d n,c < N → mv c d = some n → n < N) {s : St} {c : Nat} {r : List Nat} {B : Int} (h : G1 N mv ok src s) (hq : s.q = c :: r) (hb : ∀ x,x < N → s.out.getD x (-1) ≤ B) : ∀ x,x < N → (wO mv c ⟨s.op,s.out,r⟩).out.getD x (-1) ≤ B + 1 := by
  have m0 := h.pop hq;have b0 : ∀ x,x < N → (⟨s.op,s.out,r⟩ : St).out.getD x (-1) ≤ B + 1 := fun x hx => by have := hb x hx;simp only;omega
  have c0 : (⟨s.op,s.out,r⟩ : St).out.getD c (-1) + 1 ≤ B + 1 := by have := hb c m0.hc;simp only;omega
  have m1 := m0.next hmv (by omega)
  obtain ⟨b1,c1⟩ := m0.bound hmv b0 c0;rw [← c1] at c0;have m2 := m1.next hmv (by omega)
  obtain ⟨b2,c2⟩ := m1.bound hmv b1 c0;rw [← c2] at c0;have m3 := m2.next hmv (by omega)
  obtain ⟨b3,c3⟩ := m2.bound hmv b2 c0;rw [← c3] at c0;have m4 := m3.next hmv (by omega)
  obtain ⟨b4,c4⟩ := m3.bound hmv b3 c0;rw [← c4] at c0;have m5 := m4.next hmv (by omega)
  obtain ⟨b5,c5⟩ := m4.bound hmv b4 c0;rw [← c5] at c0;exact (m5.bound hmv b5 c0).1
theorem DX (hmv : ∀ c d n, c < N → mv c d = some n → n < N) : ∀ (k : Nat) (s : St), G1 N mv ok src s → (∀ x, x < N → s.out.getD x (-1) + k ≤ N) → ∀ x, x < N → (QP mv k s).out.getD x (-1) ≤ N
  | 0,s,_,hb => fun x hx => by have := hb x hx;unfold QP;omega
  | k + 1,s,h,hb => by
    unfold QP;split
    · exact fun x hx => by have := hb x hx;omega
    · rename_i c r e;refine DX hmv k _ (h.step hmv e) fun x hx => ?_
      have := FJ hmv h e (B := N - (k + 1)) (fun x hx => by have := hb x hx;omega) x hx
      omega
theorem OR (hmv : ∀ c d n,c < N → mv c d = some n → n < N) (l : List Nat) (hl : ∀ c,c ∈ l → c < N) : ∀ x,x < N → (tR N mv ok l).out.getD x (-1) ≤ N := by
  obtain ⟨hs,hr,h0⟩ := oI (mv := mv) (ok := ok) l hl;exact DX hmv N _ hs fun x hx => by have := h0 x hx;omega
inductive Way (N : Nat) (mv : MV) (ok : Nat → Bool) (s : Nat) : Nat → Nat → Prop
  | here : s < N → ok s = true → Way N mv ok s 0 s
  | on {k x d n : Nat} : Way N mv ok s k x → d < 6 → mv x d = some n → n < N → ok n = true → Way N mv ok s (k + 1) n
theorem zK3.way {f : Nat → Int} {s : Nat} (h : zK3 N mv ok (· = s) f) : ∀ (k c : Nat), c < N → f c = k → Way N mv ok s k c
  | 0,c,hc,hf => by
    obtain ⟨h1,h2⟩ := (h.zero c hc).1 hf;subst h2;exact .here hc h1
  | k + 1,c,hc,hf => by
    obtain ⟨p,d,h1,h2,h3,h4⟩ := h.pos c hc (by omega)
    have hok : ok c = true := by
      cases ho : ok c with
      | true => rfl
      | false => have := h.nok c hc ho;omega
    exact .on (h.way k p h1 (by omega)) h2 h3 hc hok
theorem Way.le {f : Nat → Int} {s k c : Nat} (w : Way N mv ok s k c) (h : zK3 N mv ok (· = s) f) : c < N ∧ 0 ≤ f c ∧ f c ≤ k := by
  induction w with
  | here h1 h2 =>
    have := (h.zero s h1).2 ⟨h2,rfl⟩;exact ⟨h1,by omega,by omega⟩
  | on _ hd hm hn ho ih =>
    obtain ⟨h1,h2,h3⟩ := ih;have := h.near _ h1 h2 _ _ hd hm ho;exact ⟨hn,this.1,by omega⟩
theorem Way.ok_end {s k c : Nat} (w : Way N mv ok s k c) : c < N ∧ ok c = true := by
  cases w with
  | here h1 h2 => exact ⟨h1,h2⟩
  | on _ _ _ h1 h2 => exact ⟨h1,h2⟩
theorem Way.first {mv' : MV} (hb : ∀ c d n,c < N → n < N → d < 6 → mv c d = some n → mv' n d = some c) {s k c : Nat} (w : Way N mv ok s k c) : Way N mv' ok c k s := by
  have key : ∀ {a k b n : Nat},Way N mv' ok a k b → ∀ d,d < 6 → n < N → ok n = true → mv' n d = some a → Way N mv' ok n (k + 1) b := by
    intro a k b n w
    induction w with
    | here h1 h2 => exact fun d hd hn ho hm => .on (.here hn ho) hd hm h1 h2
    | on _ hd' hm' hn' ho' ih => exact fun d hd hn ho hm => .on (ih d hd hn ho hm) hd' hm' hn' ho'
  induction w with
  | here h1 h2 => exact .here h1 h2
  | on w' hd hm hn ho ih => exact key ih _ hd hn ho (hb _ _ _ w'.ok_end.1 hn hd hm)
end
end Go.Fl
namespace Go.Re
abbrev vK (l : List Int) : Prop := l.Pairwise (· < ·)
def T6 : List Int → List Int → (Int × Bool × Bool) × List Int × List Int
  | [],[] => ((0,false,false),[],[])
  | x :: a,[] => ((x,true,false),a,[])
  | [],y :: b => ((y,false,true),[],b)
  | x :: a,y :: b => if x < y then ((x,true,false),a,y :: b) else if y < x then ((y,false,true),x :: a,b) else ((x,true,true),a,b)
def Y7 : Nat → List Int → List Int → List (Int × Bool × Bool)
  | 0,_,_ => []
  | k + 1,a,b => if a.length + b.length = 0 then [] else (T6 a b).1 :: Y7 k (T6 a b).2.1 (T6 a b).2.2
def xJ (a b : List Int) : List (Int × Bool × Bool) := Y7 (a.length + b.length) a b
theorem EX (a b : List Int) (h : a.length + b.length ≠ 0) : (T6 a b).2.1.length + (T6 a b).2.2.length < a.length + b.length := by
  match a,b with
  | [],[] => simp at h
  | x :: a,[] => simp [T6]
  | [],y :: b => simp [T6]
  | x :: a,y :: b =>
    simp only [T6];split
    · simp only [List.length_cons];omega
    · split <;> simp only [List.length_cons] <;> omega
theorem PK : ∀ (k k' : Nat) (a b : List Int),a.length + b.length ≤ k → a.length + b.length ≤ k' → Y7 k a b = Y7 k' a b := by
  intro k
  induction k with
  | zero =>
    intro k' a b h _;cases k' with
    | zero => rfl
    | succ k' => rw [Y7,Y7,if_pos (by omega)]
  | succ k ih =>
    intro k' a b h h';cases k' with
    | zero => rw [Y7,Y7,if_pos (by omega)]
    | succ k' =>
      rw [Y7,Y7];split
      · rfl
      · rename_i h0;have := EX a b h0;rw [ih k' _ _ (by omega) (by omega)]
theorem I5 {a b : List Int} (h : a.length + b.length = 0) : xJ a b = [] := by unfold xJ;rw [h];rfl
theorem uQ {a b : List Int} (h : a.length + b.length ≠ 0) : xJ a b = (T6 a b).1 :: xJ (T6 a b).2.1 (T6 a b).2.2 := by
  have hlt := EX a b h;unfold xJ;obtain ⟨k,hk⟩ : ∃ k,a.length + b.length = k + 1 := ⟨a.length + b.length - 1,by omega⟩
  rw [hk,Y7,if_neg h];congr 1;exact PK _ _ _ _ (by omega) (by omega)
theorem MS : ∀ (k : Nat) (a b : List Int),a.length + b.length ≤ k → (xJ a b).length ≤ a.length + b.length := by
  intro k
  induction k with
  | zero => intro a b h;rw [I5 (by omega)];simp
  | succ k ih =>
    intro a b h;by_cases h0 : a.length + b.length = 0
    · rw [I5 h0];simp
    · have hlt := EX a b h0;rw [uQ h0];have := ih _ _ (show (T6 a b).2.1.length + (T6 a b).2.2.length ≤ k by omega)
      simp only [List.length_cons];omega
theorem I4 : ∀ (k : Nat) (a b : List Int),a.length + b.length ≤ k → vK a → vK b → vK ((xJ a b).map (·.1)) ∧ (∀ t,t ∈ xJ a b → (t.2.1 = true ↔ t.1 ∈ a) ∧ (t.2.2 = true ↔ t.1 ∈ b)) ∧ (∀ c,c ∈ (xJ a b).map (·.1) ↔ c ∈ a ∨ c ∈ b) := by
  intro k
  induction k with
  | zero =>
    intro a b h _ _;have ha : a = [] := bW (by omega)
    have hb : b = [] := bW (by omega)
    subst ha hb;rw [I5 rfl];simp
  | succ k ih =>
    intro a b h ha hb;by_cases h0 : a.length + b.length = 0
    · have ha : a = [] := bW (by omega)
      have hb : b = [] := bW (by omega)
      subst ha hb;rw [I5 rfl];simp
    have hlt := EX a b h0
    -- one step
    have key : ∀ (c : Int) (p q : Bool) (a' b' : List Int),T6 a b = ((c,p,q),a',b') → vK a' → vK b' → (∀ z,z ∈ a' → c < z) → (∀ z,z ∈ b' → c < z) → (p = true ↔ c ∈ a) → (q = true ↔ c ∈ b) → (∀ z,z ∈ a ↔ z ∈ a' ∨ (p = true ∧ z = c)) → (∀ z,z ∈ b ↔ z ∈ b' ∨ (q = true ∧ z = c)) → (p = true ∨ q = true) →
        vK ((xJ a b).map (·.1)) ∧ (∀ t,t ∈ xJ a b → (t.2.1 = true ↔ t.1 ∈ a) ∧ (t.2.2 = true ↔ t.1 ∈ b)) ∧ (∀ c,c ∈ (xJ a b).map (·.1) ↔ c ∈ a ∨ c ∈ b) := by
      intro c p q a' b' e ha' hb' g1 g2 g3 g4 g5 g6 g7;rw [uQ h0,e];rw [e] at hlt;obtain ⟨i1,i2,i3⟩ := ih a' b' (by simp only at hlt;omega) ha' hb'
      refine ⟨?_,?_,?_⟩
      · simp only [List.map_cons];rw [vK,kU];refine ⟨fun z hz => ?_,i1⟩
        rcases (i3 z).1 hz with h | h
        · exact g1 z h
        · exact g2 z h
      · intro t ht;rcases bL.1 ht with rfl | ht
        · exact ⟨g3,g4⟩
        · have hm := (i3 t.1).1 (aQ.2 ⟨t,ht,rfl⟩);have hne : t.1 ≠ c := fun e => by
            rcases hm with h | h
            · have := g1 _ h;omega
            · have := g2 _ h;omega
          obtain ⟨j1,j2⟩ := i2 t ht;rw [j1,j2,g5,g6];simp [hne]
      · intro z;simp only [List.map_cons,bL];rw [i3,g5,g6];constructor
        · rintro (rfl | h | h)
          · rcases g7 with h | h
            · exact .inl (.inr ⟨h,rfl⟩)
            · exact .inr (.inr ⟨h,rfl⟩)
          · exact .inl (.inl h)
          · exact .inr (.inl h)
        · rintro ((h | ⟨_,h⟩) | (h | ⟨_,h⟩))
          · exact .inr (.inl h)
          · exact .inl h
          · exact .inr (.inr h)
          · exact .inl h
    cases a with
    | nil =>
     cases b with
     | nil => exact absurd rfl h0
     | cons y b =>
      rw [vK,kU] at hb;exact key y false true [] b rfl ha hb.2 (by simp) hb.1 (by simp) (by simp) (by simp) (fun z => by simp [or_comm]) (.inr rfl)
    | cons x a =>
     cases b with
     | nil =>
      rw [vK,kU] at ha;exact key x true false a [] rfl ha.2 hb ha.1 (by simp) (by simp) (by simp) (fun z => by simp [or_comm]) (by simp) (.inl rfl)
     | cons y b =>
      have ha' := ha;have hb' := hb;rw [vK,kU] at ha hb;by_cases h1 : x < y
      · have hny : x ∉ y :: b := fun hm => by
          rcases bL.1 hm with e | hm
          · omega
          · have := hb.1 x hm;omega
        refine key x true false a (y :: b) (by simp only [T6,if_pos h1]) ha.2 hb' ha.1 (fun z hz => ?_) (by simp) (by simp only [mA,false_iff];exact hny) (fun z => by simp [or_comm]) (fun z => by simp) (.inl rfl)
        rcases bL.1 hz with e | hz
        · omega
        · have := hb.1 z hz;omega
      · by_cases h2 : y < x
        · have hnx : y ∉ x :: a := fun hm => by
            rcases bL.1 hm with e | hm
            · omega
            · have := ha.1 y hm;omega
          refine key y false true (x :: a) b (by simp only [T6,if_neg h1,if_pos h2]) ha' hb.2 (fun z hz => ?_) hb.1 (by simp only [mA,false_iff];exact hnx) (by simp) (fun z => by simp) (fun z => by simp [or_comm]) (.inr rfl)
          rcases bL.1 hz with e | hz
          · omega
          · have := ha.1 z hz;omega
        · have e : x = y := by omega
          subst e;exact key x true true a b (by simp only [T6,if_neg h1]) ha.2 hb.2 ha.1 hb.1 (by simp) (by simp) (fun z => by simp [or_comm]) (fun z => by simp [or_comm]) (.inl rfl)
def W3 (a b : List Int) : List Int := (xJ a b).map (·.1)
def rJ (a b : List Int) : List Int := ((xJ a b).filter fun t => t.2.1 && t.2.2).map (·.1)
section
variable {a b : List Int}
theorem OO (ha : vK a) (hb : vK b) : vK (W3 a b) := (I4 _ a b (aY _) ha hb).1
theorem PL (ha : vK a) (hb : vK b) {c : Int} : c ∈ W3 a b ↔ c ∈ a ∨ c ∈ b := (I4 _ a b (aY _) ha hb).2.2 c
theorem KP (ha : vK a) (hb : vK b) (p : Int × Bool × Bool → Bool) : vK (((xJ a b).filter p).map (·.1)) :=
  List.Pairwise.sublist ((List.filter_sublist).map _) (I4 _ a b (aY _) ha hb).1
theorem PS (ha : vK a) (hb : vK b) : vK (rJ a b) := KP ha hb _
theorem mem_filter (ha : vK a) (hb : vK b) (p : Int × Bool × Bool → Bool) (P : Int → Prop) (hp : ∀ t : Int × Bool × Bool,(t.2.1 = true ↔ t.1 ∈ a) → (t.2.2 = true ↔ t.1 ∈ b) → (p t = true ↔ P t.1)) {c : Int} : c ∈ ((xJ a b).filter p).map (·.1) ↔ (c ∈ a ∨ c ∈ b) ∧ P c := by
  obtain ⟨_,h2,h3⟩ := I4 _ a b (aY _) ha hb;rw [← h3];simp only [aQ,fZ];constructor
  · rintro ⟨t,⟨ht,hpt⟩,rfl⟩;exact ⟨⟨t,ht,rfl⟩,(hp t (h2 t ht).1 (h2 t ht).2).1 hpt⟩
  · rintro ⟨⟨t,ht,rfl⟩,hP⟩;exact ⟨t,⟨ht,(hp t (h2 t ht).1 (h2 t ht).2).2 hP⟩,rfl⟩
theorem PN (ha : vK a) (hb : vK b) {c : Int} : c ∈ rJ a b ↔ c ∈ a ∧ c ∈ b := by
  unfold rJ;rw [mem_filter ha hb _ (fun c => c ∈ a ∧ c ∈ b) (fun t h1 h2 => by rw [aT,h1,h2])]
  exact ⟨fun h => h.2,fun h => ⟨.inl h.1,h⟩⟩
end
def zS8 (r : List Int) : Prop := vK r ∧ ∀ c,c ∈ r → 0 ≤ c ∧ c < 4096
end Go.Re
namespace Go.Re
open Go.Fl
abbrev SH := St × List Nat
def xO (c : Nat) (n : Int) (x : SH) : SH := if x.1.op.getD c false = true then (⟨x.1.op.set c false,x.1.out.set c n,x.1.q ++ [c]⟩,x.2 ++ [c]) else x
def zR (mv : MV) (c : Nat) (x : SH) (d : Nat) : SH := match mv c d with
  | some n => xO n (x.1.out.getD c (-1) + 1) x
  | none => x
def sH (mv : MV) (c : Nat) (x : SH) : SH := (List.range 6).foldl (zR mv c) x
def FR (mv : MV) : Nat → SH → SH
  | 0,x => x
  | k + 1, x => match x.1.q with
    | [] => x
    | c :: r => FR mv k (sH mv c (⟨x.1.op,x.1.out,r⟩,x.2))
def pD : List Nat → SH → SH
  | [],x => x
  | c :: r,x => pD r (xO c 0 x)
theorem HC {c : Nat} {n : Int} {x : SH} : (xO c n x).1 = pI c n x.1 := by
  unfold xO pI;split <;> rfl
theorem JL {mv : MV} {c d : Nat} {x : SH} : (zR mv c x d).1 = uJ mv c x.1 d := by
  unfold zR uJ;cases mv c d with
  | none => rfl
  | some n => exact HC
theorem NK {mv : MV} {c : Nat} : ∀ (l : List Nat) (x : SH), (l.foldl (zR mv c) x).1 = l.foldl (uJ mv c) x.1
  | [],_ => rfl
  | d :: l,x => by rw [kQ,kQ,NK l,JL]
theorem UZ {mv : MV} : ∀ (k : Nat) (x : SH), (FR mv k x).1 = QP mv k x.1
  | 0,_ => rfl
  | k + 1,x => by
    unfold FR QP;cases hq : x.1.q with
    | nil => rfl
    | cons c r => simp only;rw [UZ k];unfold sH wO;rw [NK]
theorem yC : ∀ (l : List Nat) (x : SH), (pD l x).1 = kR l x.1
  | [],_ => rfl
  | c :: r,x => by unfold pD kR;rw [yC r,HC]
theorem F5 (c : Nat) : ∀ (l : List Nat) (x : SH), pD (l ++ [c]) x = xO c 0 (pD l x)
  | [],_ => rfl
  | d :: l,x => by simp only [List.cons_append,pD];exact F5 c l _
def pG (N : Nat) (ok : Nat → Bool) : SH := (iX N ok,[])
def vP (N : Nat) (mv : MV) (ok : Nat → Bool) (l : List Nat) : SH := FR mv N (pD l (pG N ok))
theorem OS (N : Nat) (mv : MV) (ok : Nat → Bool) (l : List Nat) : (vP N mv ok l).1 = tR N mv ok l := by
  unfold vP tR;rw [UZ,yC];rfl
structure L9 (N : Nat) (x : SH) : Prop where
  nd : x.2.Nodup
  lt : ∀ c,c ∈ x.2 → c < N
  mem : ∀ c,c < N → (c ∈ x.2 ↔ 0 ≤ x.1.out.getD c (-1))
theorem L9.reach {N : Nat} {x : SH} {c : Nat} {n : Int} (h : L9 N x) (hc : c < N) (hl : x.1.out.length = N) (hn : 0 ≤ n) (hop : x.1.op.getD c false = true → x.1.out.getD c (-1) < 0) : L9 N (xO c n x) := by
  unfold xO;split
  · rename_i hp;have hlt := hop hp;have hni : c ∉ x.2 := fun hm => by have := (h.mem c hc).1 hm;omega
    refine ⟨?_,fun y hy => ?_,fun y hy => ?_⟩
    · rw [fI];exact ⟨h.nd,cP.2 ⟨by simp,dK⟩,fun a ha b hb e => hni (by rw [← bY.1 hb,← e];exact ha)⟩
    · rcases bI.1 hy with hy | hy
      · exact h.lt y hy
      · rw [bY.1 hy];exact hc
    · simp only;rw [bI,bY,nQ];by_cases e : c = y
      · subst e;rw [if_pos ⟨rfl,by omega⟩]
        simp [hn]
      · rw [if_neg (fun q => e q.1),h.mem y hy];constructor
        · rintro (h1 | h1)
          · exact h1
          · exact absurd h1.symm e
        · exact .inl
  · exact h
end Go.Re
namespace Go.Proofs.YtdmajnjoeidgeaaGreat
open Go Go.Ab Go.Fl Go.Re
attribute [local irreducible] VC AW bR bQ AY VY T3
set_option maxHeartbeats 4000000
section
variable {f : jD}
theorem zL7 (d : Int) : bQ Tryz.prog 115 [.i d] [] (.i (oJ d)) [] := by
  by_cases hd : d < 0 ∨ 6 ≤ d
  · rw [MJ hd];refine dD T Tryz.func115 rfl rfl rfl rfl ?_
    (repeat' (first|refine wS ?_|refine wR ?_|refine wT ?_|(refine wC rfl ?_ ?_<;>(intro hb;(try simp only [nm] at hb);try (exfalso;omega)))|(refine rg 0 (aV ?_))|(refine rg 1 (mW rfl (vV (bX rfl rfl) (mV ?_)));refine aO rfl rfl ?_ ?_<;>(intro hb;rw [hb];(try simp only [nm] at hb);try (exfalso;omega));(all_goals first|(refine gT (mW rfl (gT (vV (gS rfl rfl) ?_))))|(iterate 2 refine gF ?_));(all_goals (refine pV ?_)))|(refine rg 2 (aV ?_))|refine nZ ?_));all_goals first | (exfalso;omega) | exact rQ
  · have h : d = 0 ∨ d = 1 ∨ d = 2 ∨ d = 3 ∨ d = 4 ∨ d = 5 := by omega
    refine dD T Tryz.func115 rfl rfl rfl rfl ?_;rcases h with rfl | rfl | rfl | rfl | rfl | rfl
    all_goals
      repeat' (first|refine wS ?_|refine wK ?_|refine wR ?_|refine wU ?_|(refine rg 0 (aV ?_))|(refine rg 1 (mW rfl (vV (bX rfl rfl) (mW rfl (yN rfl (yV (gS rfl rfl) (pV ?_)))))))|(refine rg 3 (vV (by exact oQ T rfl rfl rfl rfl rfl) ?_);refine mW rfl (vV (by exact DK T rfl rfl rfl rfl (by decide) (by decide) rfl) ?_);refine aV ?_)|refine nZ ?_)
    all_goals first | (exfalso;omega) | exact rQ
theorem zH9 (g : iL f) (c d : Int) : bQ Tryz.prog 80 [lU f,.i c,.i d] [] (PA (qQ f c d)) [] := by
  have ho := zL7 d;have hbs := IR g c (oJ d);have hnx := KC g (dS f c (oJ d)) d;by_cases hn : dS f c (oJ d) < 0
  · have e : qQ f c d = none := by unfold qQ;rw [if_neg (by omega)]
    rw [e];generalize dS f c (oJ d) = n at *;refine dD T Tryz.func80 rfl rfl rfl rfl ?_
    (repeat' (first|refine wS ?_|refine wR ?_|(refine wC rfl ?_ ?_<;>(intro hb;(try simp only [nm] at hb);try (exfalso;omega)))|(refine rg 0 (bH (bN rfl rfl) rfl (iZ ?_)))|(refine aN (id := 1) 28 zV7 (rM 11 5) zV8 bM rfl (by decide +kernel) (dO T rfl (dN rfl (dN rfl (dV rfl (kC (ho)) (dV rfl (kC (hbs)) (dE ?_))))));refine aV ?_)|(refine rg 2 (mW rfl (vV (bX rfl rfl) ?_)))|(refine rg 3 (iZ ?_))|refine nZ ?_));all_goals first | (exfalso;omega) | exact rQ
  · have e : qQ f c d = if (kK f (dS f c (oJ d)) d).isSome = true then some (dS f c (oJ d)) else none := by
      unfold qQ;by_cases h : (kK f (dS f c (oJ d)) d).isSome = true
      · rw [if_pos h,if_pos ⟨by omega,h⟩]
      · rw [if_neg h,if_neg (fun q => h q.2)]
    rw [e];generalize dS f c (oJ d) = n at *;generalize kK f n d = x at *;cases x
    all_goals
      refine dD T Tryz.func80 rfl rfl rfl rfl ?_
      repeat' (first|refine wS ?_|refine wK ?_|refine wR ?_|refine wT ?_|refine wU ?_|(refine wC rfl ?_ ?_<;>(intro hb;(try simp only [nm] at hb);try (exfalso;omega)))|(refine rg 0 (bH (bN rfl rfl) rfl (iZ ?_)))|(refine aN (id := 1) 28 zV7 (rM 11 5) zV8 bM rfl (by decide +kernel) (dO T rfl (dN rfl (dN rfl (dV rfl (kC (ho)) (dV rfl (kC (hbs)) (dE ?_))))));refine aV ?_)|(refine rg 2 (mW rfl (vV (bX rfl rfl) ?_)))|(refine rg 4 (lW T rfl (eX rfl (vV (kC (hnx)) (mW rfl (xW rfl (xW rfl (iZ ?_))))))))|(refine rg 5 (mW rfl (vV (bB rfl) ?_)))|(refine rg 6 (iZ ?_))|(refine rg 7 (mW rfl (iZ ?_)))|refine nZ ?_)
    all_goals first | (exfalso;omega) | exact rQ
end
abbrev zK (l : List Nat) : List (List AV) := l.map fun n : Nat => [AV.i (n : Int)]
theorem aM (l : List Int) : ∀ e,e ∈ aI l → AV.idfL e = true := by intro e he;obtain ⟨i,_,rfl⟩ := aQ.1 he;rfl
theorem jF (l : List Nat) : ∀ e,e ∈ zK l → AV.idfL e = true := by intro e he;obtain ⟨i,_,rfl⟩ := aQ.1 he;rfl
theorem kP : ∀ {es : List (List AV)}, (∀ e, e ∈ es → AV.idfL e = true) → AV.idfL es.flatten = true
  | [],_ => rfl
  | e :: es,h => by
    have h1 := h e dC;have h2 := kP (es := es) fun q hq => h q (dI _ hq);have app : ∀ (a b : List AV),AV.idfL a = true → AV.idfL b = true → AV.idfL (a ++ b) = true := by
      intro a
      induction a with
      | nil => exact fun b _ hb => hb
      | cons x a ih =>
        intro b ha hb;simp only [List.cons_append,AV.idfL,aT] at ha ⊢;exact ⟨ha.1,ih b ha.2 hb⟩
    exact app _ _ h1 h2
def JH (f : jD) : MV := fun c d => (kK f c d).map Int.toNat
def pK (f : jD) : MV := fun c d => (qQ f c d).map Int.toNat
section
variable {f : jD}
theorem H5 (g : iL f) : f.size = f.k.length := by have := g.kl;unfold jD.size;omega
theorem I3 (g : iL f) {c d n : Nat} : JH f c d = some n ↔ kK f c d = some (n : Int) := by
  unfold JH;constructor
  · intro h;obtain ⟨x,h1,h2⟩ := cQ.1 h;have := (lB g h1).2.2.1;rw [h1,← h2,hO this.1]
  · intro h;rw [h];simp
theorem K9 (g : iL f) {c d n : Nat} : pK f c d = some n ↔ qQ f c d = some (n : Int) := by
  unfold pK;constructor
  · intro h;obtain ⟨x,h1,h2⟩ := cQ.1 h;have := (lB g ((uH g).1 h1)).1;rw [h1,← h2,hO this.1]
  · intro h;rw [h];simp
theorem zB0 (g : iL f) {c d n : Nat} : JH f c d = some n ↔ pK f n d = some c := by rw [I3 g,K9 g,uH g]
theorem TD (g : iL f) : ∀ c d n,c < f.k.length → JH f c d = some n → n < f.k.length := fun c d n _ h => by
  have := (lB g ((I3 g).1 h)).2.2.1;have := (H5 g);omega
theorem A6 (g : iL f) : ∀ c d n,c < f.k.length → pK f c d = some n → n < f.k.length := fun c d n _ h => by
  have := (lB g ((uH g).1 ((K9 g).1 h))).1;have := (H5 g);omega
theorem zF8 (g : iL f) (c d : Nat) : bQ Tryz.prog 116 [lU f,.i (c : Int),.i (d : Int)] [] (PA ((JH f c d).map Int.ofNat)) [] := by
  have := KC g c d;have e : (JH f c d).map Int.ofNat = kK f c d := by
    cases h : kK f c d with
    | none => unfold JH;rw [h];rfl
    | some n =>
      have h1 := (lB g h).2.2.1;unfold JH;rw [h];simp only [vG,Int.ofNat_eq_natCast,hO h1.1]
  rw [e];exact this
theorem zH8 (g : iL f) (c d : Nat) : bQ Tryz.prog 80 [lU f,.i (c : Int),.i (d : Int)] [] (PA ((pK f c d).map Int.ofNat)) [] := by
  have := zH9 g c d;have e : (pK f c d).map Int.ofNat = qQ f c d := by
    cases h : qQ f c d with
    | none => unfold pK;rw [h];rfl
    | some n =>
      have h1 := (lB g ((uH g).1 h)).1;unfold pK;rw [h];simp only [vG,Int.ofNat_eq_natCast,hO h1.1]
  rw [e];exact this
end
theorem TQ (c : Int) : bQ Tryz.prog 89 [.i c] [] (.b (decide (0 ≤ c ∧ c < 4096))) [] := by
  refine dD T Tryz.func89 rfl rfl rfl rfl ?_
  (repeat' (first|refine wS ?_|refine wR ?_|(refine rg 0 (aV ?_))|(refine rg 1 (mW rfl (vV (gS rfl rfl) (mV ?_)));refine aO rfl rfl ?_ ?_<;>(intro hb;rw [hb];(try simp only [nm] at hb);try (exfalso;omega));(all_goals first|(refine gT (mW rfl (gT (vV (bX rfl rfl) ?_))))|(iterate 2 refine gF ?_));(all_goals (refine pW rfl (aV ?_))))|refine nZ ?_));all_goals
    refine gV (.inl rfl) rfl (xF ?_);rw [EF];simp only [decide_eq_true_eq,mA,false_iff];omega
theorem zH4 (x : Int) : bQ Tryz.prog 141 [.i x] [] (.b false) [] := by
  refine dD T Tryz.func141 rfl rfl rfl rfl ?_
  (repeat' (first|refine wS ?_|refine wR ?_|(refine rg 0 (aV ?_))|(refine rg 1 (eX rfl (vV (gW rfl rfl) (aV ?_))))|refine nZ ?_));exact gV (.inl rfl) rfl (xF (by simp))
theorem zD6 (x : Int) : bQ Tryz.prog 118 [.i x] [] (.b false) [] := by
  refine dD T Tryz.func118 rfl rfl rfl rfl ?_
  (repeat' (first|refine wS ?_|refine wR ?_|(refine rg 0 (aV ?_))|(refine rg 1 (eX rfl (vV (gW rfl rfl) (aV ?_))))|refine nZ ?_));exact gV (.inl rfl) rfl (xF (by simp))
theorem zG1 (x y : Int) : bQ Tryz.prog 117 [.i x,.i y] [] (.b (decide (x < y))) [] := by
  have h1 := zH4 x;refine dD T Tryz.func117 rfl rfl rfl rfl ?_
  (repeat' (first|refine wS ?_|refine wR ?_|(refine rg 0 (aV ?_))|(refine rg 1 (mW rfl (vV (kC (h1)) (mV ?_)));(iterate 3 refine gF ?_);refine pW rfl (mW rfl (yN rfl (yN rfl (yV (bX rfl rfl) (pW rfl (aV ?_)))))))|refine nZ ?_));all_goals exact rQ
theorem UY {r : List Int} (ha : vK r) {c : Int} {i : Nat} (hi : i ≤ r.length) (hlo : ∀ j (h : j < r.length),j < i → r[j] < c) (hhi : ∀ j (h : j < r.length),i ≤ j → c ≤ r[j]) : c ∈ r ↔ ∃ h : i < r.length,r[i] = c := by
  constructor
  · intro hm;obtain ⟨j,hj,e⟩ := eE.1 hm;have h1 : ¬ j < i := fun h => by have := hlo j hj h;omega
    have h2 : i < r.length := by omega
    refine ⟨h2,?_⟩;have h3 := hhi i h2 (aY _);by_cases e2 : i = j
    · subst e2;exact e
    · have := iV.1 ha i j h2 hj (by omega)
      omega
  · rintro ⟨h,e⟩;rw [← e];exact dB h
theorem YN : LQ Tryz.prog 3 .i64 := by unfold LQ;kernel_rfl
theorem LV : LQ Tryz.prog 144 .u64 := by unfold LQ;kernel_rfl
attribute [local irreducible] LQ
theorem QN (r : List Int) (c : Int) (ha : vK r) (hl : r.length ≤ 1000000) : ∃ k : Int,bQ Tryz.prog 82 [.rowE (aI r) 1,.i c] [] (.tup [.i k,.b (decide (c ∈ r))]) [] := by
  have hlen : (aI r).length = r.length := by simp
  have hex : ∃ k : Nat,k ≤ r.length ∧ (∀ j (h : j < r.length),j < k → r[j] < c) ∧ (∀ j (h : j < r.length),k ≤ j → c ≤ r[j]) := by
    refine ⟨r.countP (fun x => decide (x < c)),List.countP_le_length,?_⟩;clear hl hlen
    induction r with
    | nil => exact ⟨fun j h => absurd h (dJ _),fun j h => absurd h (dJ _)⟩
    | cons x r ih =>
      rw [vK,kU] at ha;obtain ⟨h1,h2⟩ := ih ha.2;rw [BK];by_cases hx : x < c
      · rw [if_pos (by simpa using hx)]
        refine ⟨fun j h hj => ?_,fun j h hj => ?_⟩
        · cases j with
          | zero => exact hx
          | succ j => exact h1 j (by simpa using h) (by omega)
        · cases j with
          | zero => omega
          | succ j => exact h2 j (by simpa using h) (by omega)
      · rw [if_neg (by simpa using hx)]
        have hz : r.countP (fun x => decide (x < c)) = 0 := by
          rw [List.countP_eq_zero];intro y hy;have := ha.1 y hy;simp;omega
        rw [hz] at h2 ⊢;refine ⟨fun j h hj => by omega,fun j h hj => ?_⟩
        cases j with
        | zero => show c ≤ x;omega
        | succ j => exact h2 j (by simpa using h) (by omega)
  obtain ⟨k,hk,hlo,hhi⟩ := hex;refine ⟨k,?_⟩;have hfd := UY ha hk hlo hhi;refine dD T Tryz.func82 rfl rfl rfl rfl ?_
  (repeat' (first|refine wS ?_|refine wB ?_|(refine rg 0 (iZ ?_))|(refine rg 1 (mW rfl (qW T rfl (aV ?_))))|(refine rg 2 (mW rfl (iZ ?_)))|refine nZ ?_));refine bV (X := {x : Nat × Nat // x.1 ≤ k ∧ k ≤ x.2 ∧ x.2 ≤ r.length}) (fun x => [(0,.rowE (aI r) 1),(1,.i c),(6,.i (aI r).length),(7,.i x.1.1),(8,.i x.1.2)]) (fun _ => []) (fun x => x.1.2 - x.1.1) ⟨(0,(aI r).length),by dsimp only;omega⟩ (eI []) ?_
  rintro ⟨⟨i,j⟩,hx⟩;dsimp only at hx ⊢;by_cases hlt : i < j
  · have hm : (i + j) / 2 < r.length := by omega
    have hP : ((i : Int) + j) / 2 ^ (1 : Int).toNat = (((i + j) / 2 : Nat) : Int) := by rw [show (2 : Int) ^ (1 : Int).toNat = 2 from rfl];omega
    have hw1 : IntKind.u64.wrap ((i : Int) + j) = (i : Int) + j := zK6 (by omega) (by omega)
    have hw2 : IntKind.i64.wrap (((i + j) / 2 : Nat) : Int) = (((i + j) / 2 : Nat) : Int) := IntWalk.i64_in _ (by omega)
    have hcl := zG1 r[(i + j) / 2] c;by_cases hb2 : r[(i + j) / 2] < c
    · rw [decide_eq_true hb2] at hcl;have : (i + j) / 2 < k := Classical.byContradiction fun h => by have := hhi _ hm (by omega);omega
      (repeat' (first|refine wS ?_|refine wB ?_|refine wK ?_|refine wT ?_|(refine wC rfl ?_ ?_<;>(intro hb;(try simp only [nm] at hb);try (exfalso;omega)))|(refine rg 3 (eX rfl (vV (bX rfl rfl) ?_)))|(refine rg 4 (eX rfl (vV (bP rfl rfl (by omega) (by omega)) (vV (K0 YN LV rfl hw1) (vV (by exact hP ▸ V0 rfl rfl (by decide) (by decide)) ?_))));refine vV (K0 LV YN rfl hw2) (aV ?_))|(refine rg 5 (eX rfl (vV (ix T rfl (by omega) (aE r) (iF hm)) (lW T rfl (mW rfl (vV (kC (hcl)) ?_))))))|(refine iA 6 rfl rfl rfl (by omega) (by omega) ?_)|refine nZ ?_));all_goals first | (exfalso;omega) | skip
      exact ⟨⟨((i + j) / 2 + 1,j),by dsimp only;omega⟩,by dsimp only;omega,[],rfl,⟨rfl,rfl,rfl,rfl,rfl,trivial⟩,trivial,dK,fun _ h => absurd h (dJ _)⟩
    · rw [decide_eq_false hb2] at hcl;have : k ≤ (i + j) / 2 := Classical.byContradiction fun h => by have := hlo _ hm (by omega);omega
      (repeat' (first|refine wS ?_|refine wB ?_|refine wK ?_|refine wU ?_|(refine wC rfl ?_ ?_<;>(intro hb;(try simp only [nm] at hb);try (exfalso;omega)))|(refine rg 3 (eX rfl (vV (bX rfl rfl) ?_)))|(refine rg 4 (eX rfl (vV (bP rfl rfl (by omega) (by omega)) (vV (K0 YN LV rfl hw1) (vV (by exact hP ▸ V0 rfl rfl (by decide) (by decide)) ?_))));refine vV (K0 LV YN rfl hw2) (aV ?_))|(refine rg 5 (eX rfl (vV (ix T rfl (by omega) (aE r) (iF hm)) (lW T rfl (mW rfl (vV (kC (hcl)) ?_))))))|(refine rg 7 (mW rfl (aV ?_)))|refine nZ ?_));all_goals first | (exfalso;omega) | skip
      exact ⟨⟨(i,(i + j) / 2),by dsimp only;omega⟩,by dsimp only;omega,[],rfl,⟨rfl,rfl,rfl,rfl,rfl,trivial⟩,trivial,dK,fun _ h => absurd h (dJ _)⟩
  · obtain rfl : i = k := by omega
    by_cases hi : i < r.length
    · have hcn := zD6 r[i];by_cases he : r[i] = c
      · rw [show decide (c ∈ r) = true from decide_eq_true (hfd.2 ⟨hi,he⟩)]
        (repeat' (first|refine wS ?_|refine wR ?_|refine wE ?_|(refine wC rfl ?_ ?_<;>(intro hb;(try simp only [nm] at hb);try (exfalso;omega)))|(refine rg 3 (eX rfl (vV (bX rfl rfl) ?_)))|(refine rg 8 (eX rfl (mW rfl (vV (bX rfl rfl) (mV ?_))));refine aO rfl rfl ?_ ?_<;>(intro hb;rw [hb];(try simp only [nm] at hb);try (exfalso;omega));(all_goals (refine yN rfl (yN rfl (yV (ix T rfl (by omega) (aE r) (iF hi)) (yO T rfl (yN rfl (yV (gH rfl rfl (by omega)) (yM ?_))))));(iterate 6 refine gF ?_);(iterate 2 refine gU ?_);refine gF (gT (pW rfl (pW rfl (iZ ?_)))))))|refine nZ ?_));all_goals first | (exfalso;omega) | exact rQ
      · rw [show decide (c ∈ r) = false from decide_eq_false (fun h => he (hfd.1 h).2)]
        (repeat' (first|refine wS ?_|refine wR ?_|refine wE ?_|(refine wC rfl ?_ ?_<;>(intro hb;(try simp only [nm] at hb);try (exfalso;omega)))|(refine rg 3 (eX rfl (vV (bX rfl rfl) ?_)))|(refine rg 8 (eX rfl (mW rfl (vV (bX rfl rfl) (mV ?_))));refine aO rfl rfl ?_ ?_<;>(intro hb;rw [hb];(try simp only [nm] at hb);try (exfalso;omega));(all_goals (refine yN rfl (yN rfl (yV (ix T rfl (by omega) (aE r) (iF hi)) (yO T rfl (yN rfl (yV (eN rfl rfl (by omega)) (yN rfl (yN rfl (yN rfl (yV (ix T rfl (by omega) (aE r) (iF hi)) ?_)))))))));refine yO T rfl (yV (kC (hcn)) (yM ?_));(iterate 2 refine gF ?_);refine gT (pW rfl (gT (pW rfl (pW rfl (iZ ?_))))))))|refine nZ ?_));all_goals first | (exfalso;omega) | exact rQ
    · rw [show decide (c ∈ r) = false from decide_eq_false (fun h => hi (hfd.1 h).1)]
      (repeat' (first|refine wS ?_|refine wR ?_|refine wE ?_|(refine wC rfl ?_ ?_<;>(intro hb;(try simp only [nm] at hb);try (exfalso;omega)))|(refine rg 3 (eX rfl (vV (bX rfl rfl) ?_)))|(refine rg 8 (eX rfl (mW rfl (vV (bX rfl rfl) (mV ?_))));refine aO rfl rfl ?_ ?_<;>(intro hb;rw [hb];(try simp only [nm] at hb);try (exfalso;omega));(all_goals ((iterate 7 refine gF ?_);(iterate 6 refine gU ?_);(iterate 2 refine gU ?_);refine gU ?_;refine gF (pW rfl (iZ ?_)))))|refine nZ ?_));all_goals first | (exfalso;omega) | exact rQ
theorem X9 (r : List Int) (c : Int) (ha : vK r) (hl : r.length ≤ 1000000) : bQ Tryz.prog 38 [.rowE (aI r) 1,.i c] [] (.b (decide (c ∈ r))) [] := by
  obtain ⟨k,hc⟩ := QN r c ha hl;refine dD T Tryz.func38 rfl rfl rfl rfl ?_
  (repeat' (first|refine wS ?_|refine wR ?_|(refine rg 0 (aV ?_))|(refine rg 1 (eX rfl (vV (kC (hc)) (mW rfl (xW rfl (xW rfl (iZ ?_)))))))|(refine rg 2 (mW rfl (aV ?_)))|refine nZ ?_));exact rQ
theorem YW (a b : List Int) (ha : a.length ≤ 9223372036854775806) : bQ Tryz.prog 46 [.rowE (aI a) 1,.rowE (aI b) 1] [] (.b (decide (a = b))) [] := by
  have hal : (aI a).length = a.length := by simp
  have hbl : (aI b).length = b.length := by simp
  by_cases hl : a.length = b.length
  · refine dD T Tryz.func46 rfl rfl rfl rfl ?_
    (repeat' (first|refine wS ?_|refine wB ?_|refine wK ?_|(refine wC rfl ?_ ?_<;>(intro hb;(try simp only [nm] at hb);try (exfalso;omega)))|(refine rg 0 (aV ?_))|(refine rg 1 (mW rfl (qW T rfl (mW rfl (qW T rfl (vV (gW rfl rfl) ?_))))))|(refine rg 3 (mW rfl (qW T rfl (mV ?_))))|refine nZ ?_));all_goals try (exfalso;omega)
    refine bV (X := {i : Nat // i ≤ a.length ∧ a.take i = b.take i}) (fun i => [(0,.rowE (aI a) 1),(1,.rowE (aI b) 1),(12,.i (aI a).length),(13,.i i.1)]) (fun _ => []) (fun i => a.length - i.1) ⟨0,by omega,rfl⟩ (eI []) ?_
    rintro ⟨i,hi,hg⟩;dsimp only;by_cases hlt : i < a.length
    · have q1 := iF (l := a) (k := i) hlt;have q2 := iF (l := b) (k := i) (by omega)
      by_cases e : a[i] = b[i]
      · (repeat' (first|refine wS ?_|refine wB ?_|refine wK ?_|(refine wC rfl (fun hb => ?_) (fun hb => ?_) <;> (((try simp only [nm] at hb);try (exfalso;omega))))|(refine rg 4 (vV (bX rfl rfl) ?_))|(refine rg 5 (mW rfl (aV ?_)))|(refine aN (id := 6) 26 zV9 (rM 16 9) zW0 bM rfl (by decide +kernel) (dN rfl (dN rfl (dV rfl (ix T rfl (by omega) (aE a) q1) (dO T rfl (dN rfl (dN rfl (dV rfl (ix T rfl (by omega) (aE b) q2) (dO T rfl (dV rfl (gW rfl rfl) ?_)))))))));refine dE ?_)|(refine rg 8 (vV (bP rfl rfl (by omega) (by omega)) (mV ?_)))|(refine nZ ?_)));all_goals try (exfalso;omega)
        refine ⟨⟨i + 1,hlt,?_⟩,by dsimp only;omega,eI []⟩
        rw [aJ hlt,aJ (by omega),hg,e]
      · rw [show decide (a = b) = false from decide_eq_false (fun h => e (by subst h;rfl))]
        (repeat' (first|refine wS ?_|refine wB ?_|refine wK ?_|refine wR ?_|(refine wC rfl ?_ ?_<;>(intro hb;(try simp only [nm] at hb);try (exfalso;omega)))|(refine rg 4 (vV (bX rfl rfl) ?_))|(refine rg 5 (mW rfl (aV ?_)))|(refine aN (id := 6) 26 zV9 (rM 16 9) zW0 bM rfl (by decide +kernel) (dN rfl (dN rfl (dV rfl (ix T rfl (by omega) (aE a) q1) (dO T rfl (dN rfl (dN rfl (dV rfl (ix T rfl (by omega) (aE b) q2) (dO T rfl (dV rfl (gW rfl rfl) ?_)))))))));refine dE ?_)|(refine rg 7 (aV ?_))|refine nZ ?_));all_goals first | (exfalso;omega) | exact rQ
    · rw [bC (by omega),bC (by omega)] at hg
      rw [show decide (a = b) = true from decide_eq_true hg]
      (repeat' (first|refine wS ?_|refine wR ?_|refine wE ?_|(refine wC rfl ?_ ?_<;>(intro hb;(try simp only [nm] at hb);try (exfalso;omega)))|(refine rg 4 (vV (bX rfl rfl) ?_))|(refine rg 9 (aV ?_))|refine nZ ?_));all_goals first | (exfalso;omega) | exact rQ
  · rw [show decide (a = b) = false from decide_eq_false (fun h => hl (by rw [h]))]
    refine dD T Tryz.func46 rfl rfl rfl rfl ?_
    (repeat' (first|refine wS ?_|refine wR ?_|(refine wC rfl ?_ ?_<;>(intro hb;(try simp only [nm] at hb);try (exfalso;omega)))|(refine rg 0 (aV ?_))|(refine rg 1 (mW rfl (qW T rfl (mW rfl (qW T rfl (vV (gW rfl rfl) ?_))))))|(refine rg 2 (aV ?_))|refine nZ ?_));all_goals first | (exfalso;omega) | exact rQ
def J2 : Option (Int × Bool × Bool) → List AV
  | some t => [.i t.1,.agg [.b t.2.1,.b t.2.2]]
  | none => []
theorem PO : ∀ i : Nat,i < 2 → ([0,1] : List Nat)[i]? = some i := by decide
theorem YF {L : List (Int × Bool × Bool)} {k : Nat} (h : L.drop k = []) : L.length ≤ k := by
  rw [List.drop_eq_nil_iff] at h;exact h
theorem A1 {L r : List (Int × Bool × Bool)} {t : Int × Bool × Bool} {k : Nat} (h : L.drop k = t :: r) : k < L.length ∧ L[k]? = some t ∧ L.drop (k + 1) = r := by
  have hlt : k < L.length := by
    apply Classical.byContradiction;intro hn;rw [fK (by omega)] at h
    cases h
  rw [bK hlt] at h;simp only [List.cons.injEq] at h;exact ⟨hlt,by rw [aB hlt,h.1],h.2⟩
theorem DA (a0 b0 : List Int) (hla : a0.length ≤ 1000000) (hlb : b0.length ≤ 1000000) :
    T3 Tryz.prog 120 [] [.ptr 0 0,.ptr 1 0] [.cells [.rowE (aI a0) 1],.cells [.rowE (aI b0) 1]] (fun k => J2 ((xJ a0 b0)[k]?)) (xJ a0 b0).length := by
  refine zC0 T Tryz.func120 rfl rfl rfl rfl ?_;intro J A l hJ hy;refine sX ?_;refine NU (X := {x : Nat × List Int × List Int // x.1 ≤ (xJ a0 b0).length ∧ (xJ a0 b0).drop x.1 = xJ x.2.1 x.2.2 ∧ x.2.1.length ≤ 1000000 ∧ x.2.2.length ≤ 1000000}) (fun _ => [(0,.clo (.yield l) [] []),(1,.ptr 0 0),(2,.ptr 1 0)]) (fun x => [.cells [.rowE (aI x.1.2.1) 1],.cells [.rowE (aI x.1.2.2) 1]]) (fun x => (x.1.1,false)) (fun x => x.1.2.1.length + x.1.2.2.length) ⟨(0,a0,b0),cH _,rfl,hla,hlb⟩ rfl ⟨[0,1],rfl,⟨rfl,rfl,rfl,trivial⟩,⟨.inr rfl,.inr rfl,trivial⟩,by decide,PO⟩ ?_
  rintro ⟨⟨k,a,b⟩,hkl,hd,hal,hbl⟩;dsimp only at hkl hd hal hbl ⊢;have hla' : (aI a).length = a.length := by simp
  have hlb' : (aI b).length = b.length := by simp
  by_cases h0 : a.length + b.length = 0
  · rw [I5 h0] at hd;have := YF hd
    (repeat' (first|(first|(refine yQ ?_)|(refine NV ?_))|((refine sJ rfl (fun hb=>?_) (fun hb=>?_)<;>(((try simp only [nm] at hb);try ((exfalso;omega);done)))))|(((refine jJ hJ (fP (id := 0) ?_)));(all_goals (refine lV T ?_;(refine qV T ?_);refine lV T ?_;(refine qV T ?_);refine vV (bP rfl rfl (by omega) (by omega)) ?_;refine vV (eS rfl rfl) ?_)))|refine nZ ?_));all_goals first | (exfalso;omega) | skip
    exact ⟨.inr rfl,fun _ => by show k = _;omega,[],rfl⟩
  · cases a with
    | nil =>
      cases b with
      | nil => exact absurd rfl h0
      | cons y b =>
        have z1 : (y :: b).length = b.length + 1 := rfl;have z2 : ([] : List Int).length = 0 := rfl;have hst : T6 ([]) (y :: b) = ((y,false,true),[],b) := by rfl
        rw [uQ h0,hst] at hd;obtain ⟨hk,hget,hd2⟩ := A1 hd;have hit : J2 ((xJ a0 b0)[k]?) = [.i y,.agg [.b false,.b true]] := by rw [hget];rfl
        (repeat' (first|(first|(refine yQ ?_)|(refine sX ?_)|(refine C6 ?_)|(refine P9 ?_))|(first|(refine IS rfl ?_)|(refine IT rfl ?_)|(refine sJ rfl (fun hb=>?_) (fun hb=>?_)<;>(((try simp only [nm] at hb);try ((exfalso;omega);done)))))|(((refine jJ hJ (fP (id := 0) ?_)));(all_goals (refine lV T ?_;(refine qV T ?_);refine lV T ?_;(refine qV T ?_);refine vV (bP rfl rfl (by omega) (by omega)) ?_;refine vV (eS rfl rfl) ?_)))|(refine jJ hJ (aN (id := 1) 66 zW1 (rM 13 17) zW2 bM rfl (by decide +kernel) ?_);refine dL T ?_;refine dV rfl (eF T rfl rfl) ?_;refine dV rfl (eN rfl rfl (by omega)) ?_;refine dM ?_;refine tL T ?_;refine dT rfl (eF T rfl rfl) ?_;refine dT rfl (eS rfl rfl) ?_;refine tM ?_;refine dG ?_;refine dG ?_;refine dG ?_;refine dG ?_;refine dG ?_;refine dG ?_;refine dG ?_;refine dT rfl (cY rfl rfl) ?_;refine dV rfl (cY rfl rfl) ?_;refine oS rfl rfl (by ((dsimp only [List.nil_append,List.cons_append,List.append_nil,List.length_cons,List.length_nil,List.set_cons_zero,List.set_cons_succ,List.map_cons,List.map_nil,gQ,gJ,gO,iS,rB,jV,mL,mJ,mI,mK,jU,jX,jT,jW,Nat.zero_add,Nat.add_zero,Nat.reduceAdd,Bool.not_true,Bool.not_false];done))) ?_;refine aV ?_)|(refine jJ hJ (aN (id := 2) 66 zW1 (rM 30 17) zW3 bM rfl (by decide +kernel) ?_);refine dL T ?_;refine dV rfl (eF T rfl rfl) ?_;refine dV rfl (gH rfl rfl (by omega)) ?_;refine dM ?_;refine dG ?_;refine dG ?_;refine dG ?_;refine dG ?_;refine dH ?_;refine dH ?_;refine dH ?_;refine dH ?_;refine dH ?_;refine dH ?_;refine dH ?_;refine dG ?_;refine dV rfl (eP rfl rfl) ?_;refine oS rfl rfl (by ((dsimp only [List.nil_append,List.cons_append,List.append_nil,List.length_cons,List.length_nil,List.set_cons_zero,List.set_cons_succ,List.map_cons,List.map_nil,gQ,gJ,gO,iS,rB,jV,mL,mJ,mI,mK,jU,jX,jT,jW,Nat.zero_add,Nat.add_zero,Nat.reduceAdd,Bool.not_true,Bool.not_false];done))) ?_;refine aV ?_)|(((refine jJ hJ (fP (id := 3) ?_)));(all_goals (refine aV ?_)))|(((refine jJ hJ (fP (id := 4) ?_)));(all_goals (refine mV ?_)))|(((refine jJ hJ (fP (id := 6) ?_)));(all_goals (refine mV ?_)))|(refine jJ hJ (aN (id := 7) 66 zW4 [54,55,56,57,58,6] zW5 bM rfl (by decide +kernel) ?_);refine dL T ?_;refine dV rfl (ix T rfl (by decide) (aE _) rfl) ?_;refine dL T ?_;refine dL T ?_;refine dV rfl (by exact mX T rfl rfl rfl rfl (k := 1) rfl (by simp) (aE _)) ?_;refine dV rfl (eM rfl) ?_;refine oS rfl rfl (by ((dsimp only [List.nil_append,List.cons_append,List.append_nil,List.length_cons,List.length_nil,List.set_cons_zero,List.set_cons_succ,List.map_cons,List.map_nil,gQ,gJ,gO,iS,rB,jV,mL,mJ,mI,mK,jU,jX,jT,jW,Nat.zero_add,Nat.add_zero,Nat.reduceAdd,Bool.not_true,Bool.not_false];done))) ?_;refine bJ T rfl rfl rfl rfl rfl rfl (by decide) rfl ?_)|(((refine uI (id := 8) ?_));((refine M7 5 hJ ?_));(dsimp only [List.take,List.drop]);(all_goals (refine HL ?_;refine HL ?_;refine vV (by exact oQ T rfl rfl rfl rfl rfl) ?_;refine mD ?_;refine xA hJ hy rfl rfl rfl hk hit rfl ?_));(all_goals (intro yes));(all_goals (refine CG hJ ?_;refine vV (bB rfl) ?_;refine vO (by ((dsimp only [List.nil_append,List.cons_append,List.append_nil,List.length_cons,List.length_nil,List.set_cons_zero,List.set_cons_succ,List.map_cons,List.map_nil,gQ,gJ,gO,iS,rB,jV,mL,mJ,mI,mK,jU,jX,jT,jW,Nat.zero_add,Nat.add_zero,Nat.reduceAdd,Bool.not_true,Bool.not_false];done))) ?_)))|refine nZ ?_));all_goals first | (exfalso;omega) | skip
        · exact ⟨.inl rfl,fun h => (by first | (subst hb;cases h) | (cases h;done)),[],rfl⟩
        · obtain rfl := hb;exact ⟨⟨(k + 1,[],b),hk,hd2,by (try simp only [List.length_cons,List.length_nil] at hal ⊢);omega,by (try simp only [List.length_cons,List.length_nil] at hbl ⊢);omega⟩,by simp only [List.length_cons,List.length_nil];omega,rfl,[0,1],rfl,⟨rfl,rfl,rfl,trivial⟩,⟨.inr rfl,.inr rfl,trivial⟩,by decide,PO⟩
    | cons x a =>
      cases b with
      | nil =>
        have z1 : (x :: a).length = a.length + 1 := rfl;have z2 : ([] : List Int).length = 0 := rfl;have hst : T6 (x :: a) ([]) = ((x,true,false),a,[]) := by rfl
        rw [uQ h0,hst] at hd;obtain ⟨hk,hget,hd2⟩ := A1 hd;have hit : J2 ((xJ a0 b0)[k]?) = [.i x,.agg [.b true,.b false]] := by rw [hget];rfl
        (repeat' (first|(first|(refine yQ ?_)|(refine sX ?_)|(refine C6 ?_)|(refine P9 ?_))|(first|(refine IS rfl ?_)|(refine IT rfl ?_)|(refine sJ rfl (fun hb=>?_) (fun hb=>?_)<;>(((try simp only [nm] at hb);try ((exfalso;omega);done)))))|(((refine jJ hJ (fP (id := 0) ?_)));(all_goals (refine lV T ?_;(refine qV T ?_);refine lV T ?_;(refine qV T ?_);refine vV (bP rfl rfl (by omega) (by omega)) ?_;refine vV (eS rfl rfl) ?_)))|(refine jJ hJ (aN (id := 1) 66 zW1 (rM 13 17) zW2 bM rfl (by decide +kernel) ?_);refine dL T ?_;refine dV rfl (eF T rfl rfl) ?_;refine dV rfl (gH rfl rfl (by omega)) ?_;refine dM ?_;refine dG ?_;refine dG ?_;refine dG ?_;refine dG ?_;refine dH ?_;refine dH ?_;refine dH ?_;refine dH ?_;refine dH ?_;refine dH ?_;refine dH ?_;refine dG ?_;refine dV rfl (eP rfl rfl) ?_;refine oS rfl rfl (by ((dsimp only [List.nil_append,List.cons_append,List.append_nil,List.length_cons,List.length_nil,List.set_cons_zero,List.set_cons_succ,List.map_cons,List.map_nil,gQ,gJ,gO,iS,rB,jV,mL,mJ,mI,mK,jU,jX,jT,jW,Nat.zero_add,Nat.add_zero,Nat.reduceAdd,Bool.not_true,Bool.not_false];done))) ?_;refine aV ?_)|(refine jJ hJ (aN (id := 2) 66 zW1 (rM 30 17) zW3 bM rfl (by decide +kernel) ?_);refine dL T ?_;refine dV rfl (eF T rfl rfl) ?_;refine dV rfl (eN rfl rfl (by omega)) ?_;refine dM ?_;refine tL T ?_;refine dT rfl (eF T rfl rfl) ?_;refine dT rfl (eS rfl rfl) ?_;refine tM ?_;refine dG ?_;refine dG ?_;refine dG ?_;refine dG ?_;refine dG ?_;refine dG ?_;refine dG ?_;refine dT rfl (cY rfl rfl) ?_;refine dV rfl (cY rfl rfl) ?_;refine oS rfl rfl (by ((dsimp only [List.nil_append,List.cons_append,List.append_nil,List.length_cons,List.length_nil,List.set_cons_zero,List.set_cons_succ,List.map_cons,List.map_nil,gQ,gJ,gO,iS,rB,jV,mL,mJ,mI,mK,jU,jX,jT,jW,Nat.zero_add,Nat.add_zero,Nat.reduceAdd,Bool.not_true,Bool.not_false];done))) ?_;refine aV ?_)|(((refine jJ hJ (fP (id := 3) ?_)));(all_goals (refine aV ?_)))|(((refine jJ hJ (fP (id := 4) ?_)));(all_goals (refine mV ?_)))|(refine jJ hJ (aN (id := 5) 66 zW4 [48,49,50,51,52,6] zW6 bM rfl (by decide +kernel) ?_);refine dL T ?_;refine dV rfl (ix T rfl (by decide) (aE _) rfl) ?_;refine dL T ?_;refine dL T ?_;refine dV rfl (by exact mX T rfl rfl rfl rfl (k := 1) rfl (by simp) (aE _)) ?_;refine dV rfl (eM rfl) ?_;refine oS rfl rfl (by ((dsimp only [List.nil_append,List.cons_append,List.append_nil,List.length_cons,List.length_nil,List.set_cons_zero,List.set_cons_succ,List.map_cons,List.map_nil,gQ,gJ,gO,iS,rB,jV,mL,mJ,mI,mK,jU,jX,jT,jW,Nat.zero_add,Nat.add_zero,Nat.reduceAdd,Bool.not_true,Bool.not_false];done))) ?_;refine bJ T rfl rfl rfl rfl rfl rfl (by decide) rfl ?_)|(((refine jJ hJ (fP (id := 6) ?_)));(all_goals (refine mV ?_)))|(((refine uI (id := 8) ?_));((refine M7 5 hJ ?_));(dsimp only [List.take,List.drop]);(all_goals (refine HL ?_;refine HL ?_;refine vV (by exact oQ T rfl rfl rfl rfl rfl) ?_;refine mD ?_;refine xA hJ hy rfl rfl rfl hk hit rfl ?_));(all_goals (intro yes));(all_goals (refine CG hJ ?_;refine vV (bB rfl) ?_;refine vO (by ((dsimp only [List.nil_append,List.cons_append,List.append_nil,List.length_cons,List.length_nil,List.set_cons_zero,List.set_cons_succ,List.map_cons,List.map_nil,gQ,gJ,gO,iS,rB,jV,mL,mJ,mI,mK,jU,jX,jT,jW,Nat.zero_add,Nat.add_zero,Nat.reduceAdd,Bool.not_true,Bool.not_false];done))) ?_)))|refine nZ ?_));all_goals first | (exfalso;omega) | skip
        · exact ⟨.inl rfl,fun h => (by first | (subst hb;cases h) | (cases h;done)),[],rfl⟩
        · obtain rfl := hb;exact ⟨⟨(k + 1,a,[]),hk,hd2,by (try simp only [List.length_cons,List.length_nil] at hal ⊢);omega,by (try simp only [List.length_cons,List.length_nil] at hbl ⊢);omega⟩,by simp only [List.length_cons,List.length_nil];omega,rfl,[0,1],rfl,⟨rfl,rfl,rfl,trivial⟩,⟨.inr rfl,.inr rfl,trivial⟩,by decide,PO⟩
      | cons y b =>
        have z1 : (x :: a).length = a.length + 1 := rfl;have z2 : (y :: b).length = b.length + 1 := rfl;by_cases h1 : x < y
        · have hst : T6 (x :: a) (y :: b) = ((x,true,false),a,y :: b) := by simp only [T6,if_pos h1]
          rw [uQ h0,hst] at hd;obtain ⟨hk,hget,hd2⟩ := A1 hd;have hit : J2 ((xJ a0 b0)[k]?) = [.i x,.agg [.b (decide (x ≤ y)),.b (decide (y ≤ x))]] := by rw [hget,decide_eq_true (show x ≤ y by omega),decide_eq_false (show ¬ y ≤ x by omega)];rfl
          (repeat' (first|(first|(refine yQ ?_)|(refine sX ?_)|(refine C6 ?_)|(refine P9 ?_))|((refine sJ rfl (fun hb=>?_) (fun hb=>?_)<;>(((try simp only [nm] at hb);try ((exfalso;omega);done)))))|(((refine jJ hJ (fP (id := 0) ?_)));(all_goals (refine lV T ?_;(refine qV T ?_);refine lV T ?_;(refine qV T ?_);refine vV (bP rfl rfl (by omega) (by omega)) ?_;refine vV (eS rfl rfl) ?_)))|(refine jJ hJ (aN (id := 1) 66 zW1 (rM 13 17) zW2 bM rfl (by decide +kernel) ?_);refine dL T ?_;refine dV rfl (eF T rfl rfl) ?_;refine dV rfl (eN rfl rfl (by omega)) ?_;refine dM ?_;refine tL T ?_;refine dT rfl (eF T rfl rfl) ?_;refine dT rfl (eS rfl rfl) ?_;refine tM ?_;refine oR rfl rfl rfl rfl ?_ ?_<;>(intro hb;rw [hb];(try simp only [nm] at hb);try (exfalso;omega))<;>(refine tL T ?_);(all_goals (refine dT rfl (ix T rfl (by decide) (aE _) rfl) ?_;refine tL T ?_;refine tL T ?_;refine dT rfl (ix T rfl (by decide) (aE _) rfl) ?_;refine tL T ?_;refine dT rfl (lF rfl rfl) ?_;refine dT rfl (eP rfl rfl) ?_;refine dV rfl (cY rfl rfl) ?_;refine oS rfl rfl (by ((dsimp only [List.nil_append,List.cons_append,List.append_nil,List.length_cons,List.length_nil,List.set_cons_zero,List.set_cons_succ,List.map_cons,List.map_nil,gQ,gJ,gO,iS,rB,jV,mL,mJ,mI,mK,jU,jX,jT,jW,Nat.zero_add,Nat.add_zero,Nat.reduceAdd,Bool.not_true,Bool.not_false];done))) ?_;refine aV ?_)))|(refine jJ hJ (aN (id := 2) 66 zW1 (rM 30 17) zW3 bM rfl (by decide +kernel) ?_);refine dL T ?_;refine dV rfl (eF T rfl rfl) ?_;refine dV rfl (eN rfl rfl (by omega)) ?_;refine dM ?_;refine tL T ?_;refine dT rfl (eF T rfl rfl) ?_;refine dT rfl (eS rfl rfl) ?_;refine tM ?_;refine oR rfl rfl rfl rfl ?_ ?_<;>(intro hb;rw [hb];(try simp only [nm] at hb);try (exfalso;omega))<;>(refine tL T ?_);(all_goals (refine dT rfl (ix T rfl (by decide) (aE _) rfl) ?_;refine tL T ?_;refine tL T ?_;refine dT rfl (ix T rfl (by decide) (aE _) rfl) ?_;refine tL T ?_;refine dT rfl (lF rfl rfl) ?_;refine dT rfl (eP rfl rfl) ?_;refine dV rfl (cY rfl rfl) ?_;refine oS rfl rfl (by ((dsimp only [List.nil_append,List.cons_append,List.append_nil,List.length_cons,List.length_nil,List.set_cons_zero,List.set_cons_succ,List.map_cons,List.map_nil,gQ,gJ,gO,iS,rB,jV,mL,mJ,mI,mK,jU,jX,jT,jW,Nat.zero_add,Nat.add_zero,Nat.reduceAdd,Bool.not_true,Bool.not_false];done))) ?_;refine aV ?_)))|(((refine jJ hJ (fP (id := 3) ?_)));(all_goals (refine aV ?_)))|(((refine jJ hJ (fP (id := 4) ?_)));(all_goals (refine mV ?_)))|(refine jJ hJ (aN (id := 5) 66 zW4 [48,49,50,51,52,6] zW6 bM rfl (by decide +kernel) ?_);refine dL T ?_;refine dV rfl (ix T rfl (by decide) (aE _) rfl) ?_;refine dL T ?_;refine dL T ?_;refine dV rfl (by exact mX T rfl rfl rfl rfl (k := 1) rfl (by simp) (aE _)) ?_;refine dV rfl (eM rfl) ?_;refine oS rfl rfl (by ((dsimp only [List.nil_append,List.cons_append,List.append_nil,List.length_cons,List.length_nil,List.set_cons_zero,List.set_cons_succ,List.map_cons,List.map_nil,gQ,gJ,gO,iS,rB,jV,mL,mJ,mI,mK,jU,jX,jT,jW,Nat.zero_add,Nat.add_zero,Nat.reduceAdd,Bool.not_true,Bool.not_false];done))) ?_;refine bJ T rfl rfl rfl rfl rfl rfl (by decide) rfl ?_)|(((refine jJ hJ (fP (id := 6) ?_)));(all_goals (refine mV ?_)))|(((refine uI (id := 8) ?_));((refine M7 5 hJ ?_));(dsimp only [List.take,List.drop]);(all_goals (refine HL ?_;refine HL ?_;refine vV (by exact oQ T rfl rfl rfl rfl rfl) ?_;refine mD ?_;refine xA hJ hy rfl rfl rfl hk hit rfl ?_));(all_goals (intro yes));(all_goals (refine CG hJ ?_;refine vV (bB rfl) ?_;refine vO (by ((dsimp only [List.nil_append,List.cons_append,List.append_nil,List.length_cons,List.length_nil,List.set_cons_zero,List.set_cons_succ,List.map_cons,List.map_nil,gQ,gJ,gO,iS,rB,jV,mL,mJ,mI,mK,jU,jX,jT,jW,Nat.zero_add,Nat.add_zero,Nat.reduceAdd,Bool.not_true,Bool.not_false];done))) ?_)))|refine nZ ?_));all_goals first | (exfalso;omega) | skip
          · exact ⟨.inl rfl,fun h => (by first | (subst hb;cases h) | (cases h;done)),[],rfl⟩
          · obtain rfl := hb;exact ⟨⟨(k + 1,a,y :: b),hk,hd2,by (try simp only [List.length_cons,List.length_nil] at hal ⊢);omega,by (try simp only [List.length_cons,List.length_nil] at hbl ⊢);omega⟩,by simp only [List.length_cons,List.length_nil];omega,rfl,[0,1],rfl,⟨rfl,rfl,rfl,trivial⟩,⟨.inr rfl,.inr rfl,trivial⟩,by decide,PO⟩
        · by_cases h2 : y < x
          · have hst : T6 (x :: a) (y :: b) = ((y,false,true),x :: a,b) := by simp only [T6,if_neg h1,if_pos h2]
            rw [uQ h0,hst] at hd;obtain ⟨hk,hget,hd2⟩ := A1 hd;have hit : J2 ((xJ a0 b0)[k]?) = [.i y,.agg [.b (decide (x ≤ y)),.b (decide (y ≤ x))]] := by rw [hget,decide_eq_false (show ¬ x ≤ y by omega),decide_eq_true (show y ≤ x by omega)];rfl
            (repeat' (first|(first|(refine yQ ?_)|(refine sX ?_)|(refine C6 ?_)|(refine P9 ?_))|((refine sJ rfl (fun hb=>?_) (fun hb=>?_)<;>(((try simp only [nm] at hb);try ((exfalso;omega);done)))))|(((refine jJ hJ (fP (id := 0) ?_)));(all_goals (refine lV T ?_;(refine qV T ?_);refine lV T ?_;(refine qV T ?_);refine vV (bP rfl rfl (by omega) (by omega)) ?_;refine vV (eS rfl rfl) ?_)))|(refine jJ hJ (aN (id := 1) 66 zW1 (rM 13 17) zW2 bM rfl (by decide +kernel) ?_);refine dL T ?_;refine dV rfl (eF T rfl rfl) ?_;refine dV rfl (eN rfl rfl (by omega)) ?_;refine dM ?_;refine tL T ?_;refine dT rfl (eF T rfl rfl) ?_;refine dT rfl (eS rfl rfl) ?_;refine tM ?_;refine oR rfl rfl rfl rfl ?_ ?_<;>(intro hb;rw [hb];(try simp only [nm] at hb);try (exfalso;omega))<;>(refine tL T ?_);(all_goals (refine dT rfl (ix T rfl (by decide) (aE _) rfl) ?_;refine tL T ?_;refine tL T ?_;refine dT rfl (ix T rfl (by decide) (aE _) rfl) ?_;refine tL T ?_;refine dT rfl (lF rfl rfl) ?_;refine dT rfl (eP rfl rfl) ?_;refine dV rfl (cY rfl rfl) ?_;refine oS rfl rfl (by ((dsimp only [List.nil_append,List.cons_append,List.append_nil,List.length_cons,List.length_nil,List.set_cons_zero,List.set_cons_succ,List.map_cons,List.map_nil,gQ,gJ,gO,iS,rB,jV,mL,mJ,mI,mK,jU,jX,jT,jW,Nat.zero_add,Nat.add_zero,Nat.reduceAdd,Bool.not_true,Bool.not_false];done))) ?_;refine aV ?_)))|(refine jJ hJ (aN (id := 2) 66 zW1 (rM 30 17) zW3 bM rfl (by decide +kernel) ?_);refine dL T ?_;refine dV rfl (eF T rfl rfl) ?_;refine dV rfl (eN rfl rfl (by omega)) ?_;refine dM ?_;refine tL T ?_;refine dT rfl (eF T rfl rfl) ?_;refine dT rfl (eS rfl rfl) ?_;refine tM ?_;refine oR rfl rfl rfl rfl ?_ ?_<;>(intro hb;rw [hb];(try simp only [nm] at hb);try (exfalso;omega))<;>(refine tL T ?_);(all_goals (refine dT rfl (ix T rfl (by decide) (aE _) rfl) ?_;refine tL T ?_;refine tL T ?_;refine dT rfl (ix T rfl (by decide) (aE _) rfl) ?_;refine tL T ?_;refine dT rfl (lF rfl rfl) ?_;refine dT rfl (eP rfl rfl) ?_;refine dV rfl (cY rfl rfl) ?_;refine oS rfl rfl (by ((dsimp only [List.nil_append,List.cons_append,List.append_nil,List.length_cons,List.length_nil,List.set_cons_zero,List.set_cons_succ,List.map_cons,List.map_nil,gQ,gJ,gO,iS,rB,jV,mL,mJ,mI,mK,jU,jX,jT,jW,Nat.zero_add,Nat.add_zero,Nat.reduceAdd,Bool.not_true,Bool.not_false];done))) ?_;refine aV ?_)))|(((refine jJ hJ (fP (id := 3) ?_)));(all_goals (refine aV ?_)))|(((refine jJ hJ (fP (id := 4) ?_)));(all_goals (refine mV ?_)))|(((refine jJ hJ (fP (id := 6) ?_)));(all_goals (refine mV ?_)))|(refine jJ hJ (aN (id := 7) 66 zW4 [54,55,56,57,58,6] zW5 bM rfl (by decide +kernel) ?_);refine dL T ?_;refine dV rfl (ix T rfl (by decide) (aE _) rfl) ?_;refine dL T ?_;refine dL T ?_;refine dV rfl (by exact mX T rfl rfl rfl rfl (k := 1) rfl (by simp) (aE _)) ?_;refine dV rfl (eM rfl) ?_;refine oS rfl rfl (by ((dsimp only [List.nil_append,List.cons_append,List.append_nil,List.length_cons,List.length_nil,List.set_cons_zero,List.set_cons_succ,List.map_cons,List.map_nil,gQ,gJ,gO,iS,rB,jV,mL,mJ,mI,mK,jU,jX,jT,jW,Nat.zero_add,Nat.add_zero,Nat.reduceAdd,Bool.not_true,Bool.not_false];done))) ?_;refine bJ T rfl rfl rfl rfl rfl rfl (by decide) rfl ?_)|(((refine uI (id := 8) ?_));((refine M7 5 hJ ?_));(dsimp only [List.take,List.drop]);(all_goals (refine HL ?_;refine HL ?_;refine vV (by exact oQ T rfl rfl rfl rfl rfl) ?_;refine mD ?_;refine xA hJ hy rfl rfl rfl hk hit rfl ?_));(all_goals (intro yes));(all_goals (refine CG hJ ?_;refine vV (bB rfl) ?_;refine vO (by ((dsimp only [List.nil_append,List.cons_append,List.append_nil,List.length_cons,List.length_nil,List.set_cons_zero,List.set_cons_succ,List.map_cons,List.map_nil,gQ,gJ,gO,iS,rB,jV,mL,mJ,mI,mK,jU,jX,jT,jW,Nat.zero_add,Nat.add_zero,Nat.reduceAdd,Bool.not_true,Bool.not_false];done))) ?_)))|refine nZ ?_));all_goals first | (exfalso;omega) | skip
            · exact ⟨.inl rfl,fun h => (by first | (subst hb;cases h) | (cases h;done)),[],rfl⟩
            · obtain rfl := hb;exact ⟨⟨(k + 1,x :: a,b),hk,hd2,by (try simp only [List.length_cons,List.length_nil] at hal ⊢);omega,by (try simp only [List.length_cons,List.length_nil] at hbl ⊢);omega⟩,by simp only [List.length_cons,List.length_nil];omega,rfl,[0,1],rfl,⟨rfl,rfl,rfl,trivial⟩,⟨.inr rfl,.inr rfl,trivial⟩,by decide,PO⟩
          · have e : x = y := by omega
            subst e;have hst : T6 (x :: a) (x :: b) = ((x,true,true),a,b) := by simp only [T6,if_neg h1]
            rw [uQ h0,hst] at hd;obtain ⟨hk,hget,hd2⟩ := A1 hd;have hit : J2 ((xJ a0 b0)[k]?) = [.i x,.agg [.b (decide (x ≤ x)),.b (decide (x ≤ x))]] := by rw [hget,decide_eq_true (show x ≤ x by omega)];rfl
            (repeat' (first|(first|(refine yQ ?_)|(refine sX ?_)|(refine C6 ?_)|(refine P9 ?_))|((refine sJ rfl (fun hb=>?_) (fun hb=>?_)<;>(((try simp only [nm] at hb);try ((exfalso;omega);done)))))|(((refine jJ hJ (fP (id := 0) ?_)));(all_goals (refine lV T ?_;(refine qV T ?_);refine lV T ?_;(refine qV T ?_);refine vV (bP rfl rfl (by omega) (by omega)) ?_;refine vV (eS rfl rfl) ?_)))|(refine jJ hJ (aN (id := 1) 66 zW1 (rM 13 17) zW2 bM rfl (by decide +kernel) ?_);refine dL T ?_;refine dV rfl (eF T rfl rfl) ?_;refine dV rfl (eN rfl rfl (by omega)) ?_;refine dM ?_;refine tL T ?_;refine dT rfl (eF T rfl rfl) ?_;refine dT rfl (eS rfl rfl) ?_;refine tM ?_;refine oR rfl rfl rfl rfl ?_ ?_<;>(intro hb;rw [hb];(try simp only [nm] at hb);try (exfalso;omega))<;>(refine tL T ?_);(all_goals (refine dT rfl (ix T rfl (by decide) (aE _) rfl) ?_;refine tL T ?_;refine tL T ?_;refine dT rfl (ix T rfl (by decide) (aE _) rfl) ?_;refine tL T ?_;refine dT rfl (lF rfl rfl) ?_;refine dT rfl (eP rfl rfl) ?_;refine dV rfl (cY rfl rfl) ?_;refine oS rfl rfl (by ((dsimp only [List.nil_append,List.cons_append,List.append_nil,List.length_cons,List.length_nil,List.set_cons_zero,List.set_cons_succ,List.map_cons,List.map_nil,gQ,gJ,gO,iS,rB,jV,mL,mJ,mI,mK,jU,jX,jT,jW,Nat.zero_add,Nat.add_zero,Nat.reduceAdd,Bool.not_true,Bool.not_false];done))) ?_;refine aV ?_)))|(refine jJ hJ (aN (id := 2) 66 zW1 (rM 30 17) zW3 bM rfl (by decide +kernel) ?_);refine dL T ?_;refine dV rfl (eF T rfl rfl) ?_;refine dV rfl (eN rfl rfl (by omega)) ?_;refine dM ?_;refine tL T ?_;refine dT rfl (eF T rfl rfl) ?_;refine dT rfl (eS rfl rfl) ?_;refine tM ?_;refine oR rfl rfl rfl rfl ?_ ?_<;>(intro hb;rw [hb];(try simp only [nm] at hb);try (exfalso;omega))<;>(refine tL T ?_);(all_goals (refine dT rfl (ix T rfl (by decide) (aE _) rfl) ?_;refine tL T ?_;refine tL T ?_;refine dT rfl (ix T rfl (by decide) (aE _) rfl) ?_;refine tL T ?_;refine dT rfl (lF rfl rfl) ?_;refine dT rfl (eP rfl rfl) ?_;refine dV rfl (cY rfl rfl) ?_;refine oS rfl rfl (by ((dsimp only [List.nil_append,List.cons_append,List.append_nil,List.length_cons,List.length_nil,List.set_cons_zero,List.set_cons_succ,List.map_cons,List.map_nil,gQ,gJ,gO,iS,rB,jV,mL,mJ,mI,mK,jU,jX,jT,jW,Nat.zero_add,Nat.add_zero,Nat.reduceAdd,Bool.not_true,Bool.not_false];done))) ?_;refine aV ?_)))|(((refine jJ hJ (fP (id := 3) ?_)));(all_goals (refine aV ?_)))|(((refine jJ hJ (fP (id := 4) ?_)));(all_goals (refine mV ?_)))|(refine jJ hJ (aN (id := 5) 66 zW4 [48,49,50,51,52,6] zW6 bM rfl (by decide +kernel) ?_);refine dL T ?_;refine dV rfl (ix T rfl (by decide) (aE _) rfl) ?_;refine dL T ?_;refine dL T ?_;refine dV rfl (by exact mX T rfl rfl rfl rfl (k := 1) rfl (by simp) (aE _)) ?_;refine dV rfl (eM rfl) ?_;refine oS rfl rfl (by ((dsimp only [List.nil_append,List.cons_append,List.append_nil,List.length_cons,List.length_nil,List.set_cons_zero,List.set_cons_succ,List.map_cons,List.map_nil,gQ,gJ,gO,iS,rB,jV,mL,mJ,mI,mK,jU,jX,jT,jW,Nat.zero_add,Nat.add_zero,Nat.reduceAdd,Bool.not_true,Bool.not_false];done))) ?_;refine bJ T rfl rfl rfl rfl rfl rfl (by decide) rfl ?_)|(((refine jJ hJ (fP (id := 6) ?_)));(all_goals (refine mV ?_)))|(refine jJ hJ (aN (id := 7) 66 zW4 [54,55,56,57,58,6] zW5 bM rfl (by decide +kernel) ?_);refine dL T ?_;refine dV rfl (ix T rfl (by decide) (aE _) rfl) ?_;refine dL T ?_;refine dL T ?_;refine dV rfl (by exact mX T rfl rfl rfl rfl (k := 1) rfl (by simp) (aE _)) ?_;refine dV rfl (eM rfl) ?_;refine oS rfl rfl (by ((dsimp only [List.nil_append,List.cons_append,List.append_nil,List.length_cons,List.length_nil,List.set_cons_zero,List.set_cons_succ,List.map_cons,List.map_nil,gQ,gJ,gO,iS,rB,jV,mL,mJ,mI,mK,jU,jX,jT,jW,Nat.zero_add,Nat.add_zero,Nat.reduceAdd,Bool.not_true,Bool.not_false];done))) ?_;refine bJ T rfl rfl rfl rfl rfl rfl (by decide) rfl ?_)|(((refine uI (id := 8) ?_));((refine M7 5 hJ ?_));(dsimp only [List.take,List.drop]);(all_goals (refine HL ?_;refine HL ?_;refine vV (by exact oQ T rfl rfl rfl rfl rfl) ?_;refine mD ?_;refine xA hJ hy rfl rfl rfl hk hit rfl ?_));(all_goals (intro yes));(all_goals (refine CG hJ ?_;refine vV (bB rfl) ?_;refine vO (by ((dsimp only [List.nil_append,List.cons_append,List.append_nil,List.length_cons,List.length_nil,List.set_cons_zero,List.set_cons_succ,List.map_cons,List.map_nil,gQ,gJ,gO,iS,rB,jV,mL,mJ,mI,mK,jU,jX,jT,jW,Nat.zero_add,Nat.add_zero,Nat.reduceAdd,Bool.not_true,Bool.not_false];done))) ?_)))|refine nZ ?_));all_goals first | (exfalso;omega) | skip
            · exact ⟨.inl rfl,fun h => (by first | (subst hb;cases h) | (cases h;done)),[],rfl⟩
            · obtain rfl := hb;exact ⟨⟨(k + 1,a,b),hk,hd2,by (try simp only [List.length_cons,List.length_nil] at hal ⊢);omega,by (try simp only [List.length_cons,List.length_nil] at hbl ⊢);omega⟩,by simp only [List.length_cons,List.length_nil];omega,rfl,[0,1],rfl,⟨rfl,rfl,rfl,trivial⟩,⟨.inr rfl,.inr rfl,trivial⟩,by decide,PO⟩
theorem HM (a b : List Int) : bQ Tryz.prog 85 [.rowE (aI a) 1,.rowE (aI b) 1] [] (.clo (.func 120) [] [.ptr 0 0,.ptr 1 0]) [.cells [.rowE (aI a) 1],.cells [.rowE (aI b) 1]] := by
  refine dD T Tryz.func85 rfl rfl rfl rfl ?_
  (repeat' (first|refine wS ?_|refine wR ?_|(refine rg 0 (bH (bN rfl rfl) rfl (bH (bN rfl rfl) rfl (aV ?_))))|(refine rg 1 (vV (by exact qN rfl rfl) ?_);refine aV ?_)|refine nZ ?_));exact ⟨.inl rfl,[0,1],_,rfl,rfl,rfl,⟨.inr rfl,.inr rfl,trivial⟩,by decide,gL⟩
theorem FA {L : List (Int × Bool × Bool)} {k : Nat} (h : k < L.length) : J2 (L[k]?) = [.i L[k].1,.agg [.b L[k].2.1,.b L[k].2.2]] := by rw [aB h];rfl
theorem MY (L : List (Int × Bool × Bool)) : ∀ k,k < L.length → (J2 (L[k]?)).length = ([10,11] : List Nat).length ∧ AV.idfL (J2 (L[k]?)) = true := fun k hk => by
  rw [FA hk];exact ⟨rfl,rfl⟩
abbrev zO5 (l : List Int) : Hp := [.cells [.sl 1 0 l.length 1],.arr (aI l) 1]
def qK (p : Int × Bool × Bool → Bool) (L : List (Int × Bool × Bool)) (k : Nat) : List Int := ((L.take k).filter p).map (·.1)
theorem DF {p : Int × Bool × Bool → Bool} {L : List (Int × Bool × Bool)} {k : Nat} (h : k < L.length) : qK p L (k + 1) = if p L[k] then qK p L k ++ [L[k].1] else qK p L k := by
  unfold qK;rw [aJ h,qZ,cV];split
  · rename_i e;simp [e]
  · rename_i e;simp [e]
theorem HP {p : Int × Bool × Bool → Bool} {L : List (Int × Bool × Bool)} {k : Nat} : (qK p L k).length ≤ L.length := by
  unfold qK;rw [dY];exact bU (jB _ _) (List.length_take_le' _ _)
theorem HQ {p : Int × Bool × Bool → Bool} {L : List (Int × Bool × Bool)} : qK p L L.length = (L.filter p).map (·.1) := by
  unfold qK;rw [dU]
theorem zS0 : ∀ i : Nat,i < 1 → ([0,1] : List Nat)[i]? = some i := by decide
theorem zQ5 : ∀ i : Nat,i < 1 → ([0,3] : List Nat)[i]? = some i := by decide
theorem WQ (a b : List Int) (hla : a.length ≤ 1000000) (hlb : b.length ≤ 1000000) : bQ Tryz.prog 74 [.rowE (aI a) 1,.rowE (aI b) 1] [] (.rowE (aI (W3 a b)) 1) [] := by
  have hm := HM a b;have hml := MS _ a b (aY _);have hit := DA a b hla hlb;have he : W3 a b = qK (fun _ => true) (xJ a b) (xJ a b).length := by rw [HQ,LP.2 (fun _ _ => rfl)];rfl
  rw [he];refine qR (by simp : (qK (fun _ => true) (xJ a b) (xJ a b).length).length = (aI (qK (fun _ => true) (xJ a b) (xJ a b).length)).length) (kP (aM _)) ?_
  generalize hL : xJ a b = L at hml hit;refine dD T Tryz.func74 rfl rfl rfl rfl ?_
  (repeat' (first|refine wS ?_|refine wB ?_|(refine rg 0 (aV ?_))|(refine rg 1 (bH (cX T rfl) rfl ?_))|(refine rg 2 (eX rfl (bH (by exact lX rfl rfl hm (.inr ⟨rfl,rfl,by simp⟩)) rfl ?_)))|refine nZ ?_));refine tZ 0 0 1 rfl rfl (by decide) ?_
  refine AR [1,2] [0,3] [(5,.ptr 0 0)] (fun k => zO5 (qK (fun _ => true) L k)) 1 rfl hit rfl rfl rfl ⟨.inr rfl,.inr rfl,trivial⟩ (by decide) rfl ⟨rfl,trivial⟩ ⟨.inr rfl,.inr rfl,trivial⟩ (by decide) (gL) (by decide) (cH _) (bE rfl) rfl (by decide) (MY L) ?_ ?_
  · intro k hk;rw [FA hk];have hks := DF (p := fun _ => true) hk;rw [if_pos rfl] at hks;have hkl := HP (p := fun _ => true) (L := L) (k := k);generalize hK : qK (fun _ => true) L k = K at hks hkl ⊢;refine fP (id := 3) ?_;refine vV (by exact eM rfl) ?_
    refine mD ?_;refine ⟨rfl,?_⟩
    repeat' (first|refine wB ?_|(refine rg 4 (lW T rfl (mW rfl (bH (by exact aS T rfl rfl (by decide) (by decide) rfl rfl rfl) rfl ?_)));refine eL T rfl rfl rfl rfl rfl rfl (by simp) (iU.whole rfl rfl) rfl (by simp;omega) (by simp;omega) rfl ?_;refine bJ T rfl rfl rfl rfl rfl rfl (by decide) rfl ?_)|refine nZ ?_)
    show EA _ _ _ _ (zO5 (qK (fun _ => true) L (k + 1)));rw [hks];exact ⟨[0,3],rfl,trivial,⟨.inr (by simp;rfl),.inr (aC rfl (by simp;exact bC (by simp)) (aM _)),trivial⟩,by decide,zQ5⟩
  · (repeat' (first|refine wS ?_|refine wR ?_|(refine rg 5 (lW T rfl (aV ?_)))|(refine nZ ?_)));exact ⟨.inl rfl,[1],_,rfl,rfl,rfl,⟨.inr (aC rfl rfl (aM _)),trivial⟩,by decide,gL⟩
theorem zR8 : ∀ i : Nat,i < 1 → ([0,4] : List Nat)[i]? = some i := by decide
theorem YM (a b : List Int) (hla : a.length ≤ 1000000) (hlb : b.length ≤ 1000000) : bQ Tryz.prog 44 [.rowE (aI a) 1,.rowE (aI b) 1] [] (.rowE (aI (rJ a b)) 1) [] := by
  have hm := HM a b;have hml := MS _ a b (aY _);have hit := DA a b hla hlb;have he : rJ a b = qK (fun t => t.2.1 && t.2.2) (xJ a b) (xJ a b).length := by rw [HQ];rfl
  rw [he];refine qR (by simp : (qK (fun t => t.2.1 && t.2.2) (xJ a b) (xJ a b).length).length = (aI (qK (fun t => t.2.1 && t.2.2) (xJ a b) (xJ a b).length)).length) (kP (aM _)) ?_
  generalize hL : xJ a b = L at hml hit;refine dD T Tryz.func44 rfl rfl rfl rfl ?_
  (repeat' (first|refine wS ?_|refine wB ?_|(refine rg 0 (aV ?_))|(refine rg 1 (bH (cX T rfl) rfl ?_))|(refine rg 2 (eX rfl (bH (by exact lX rfl rfl hm (.inr ⟨rfl,rfl,by simp⟩)) rfl ?_)))|refine nZ ?_));refine tZ 0 0 1 rfl rfl (by decide) ?_
  refine AR [1,2] [0,3] [(5,.ptr 0 0)] (fun k => zO5 (qK (fun t => t.2.1 && t.2.2) L k)) 1 rfl hit rfl rfl rfl ⟨.inr rfl,.inr rfl,trivial⟩ (by decide) rfl ⟨rfl,trivial⟩ ⟨.inr rfl,.inr rfl,trivial⟩ (by decide) (gL) (by decide) (cH _) (bE rfl) rfl (by decide) (MY L) ?_ ?_
  · intro k hk;rw [FA hk];have hks := DF (p := fun t => t.2.1 && t.2.2) hk;have hkl := HP (p := fun t => t.2.1 && t.2.2) (L := L) (k := k);generalize hK : qK (fun t => t.2.1 && t.2.2) L k = K at hks hkl ⊢;generalize L[k] = t at hks ⊢;obtain ⟨c,t1,t2⟩ := t
    (repeat' (first|refine wS ?_|(refine rg 3 (aV ?_))|(refine rg 4 (bH (cX T rfl) rfl (bJ T rfl rfl rfl rfl rfl rfl (by decide) rfl ?_)))|refine nZ ?_));all_goals refine ⟨rfl,?_⟩
    cases t1 <;> cases t2
    all_goals repeat' (first|refine wS ?_|refine wB ?_|refine wK ?_|refine iY rfl ?_|refine iB rfl ?_|(refine rg 5 (vV (by exact R9 T rfl rfl rfl rfl (by decide) (by decide) rfl) ?_);refine lW T rfl (mV ?_);(all_goals first|(refine gT (vV (by exact R9 T rfl rfl rfl rfl (by decide) (by decide) rfl) ?_);refine gT (lV T ?_))|(iterate 2 refine gF ?_));(all_goals (refine pV ?_)))|(refine rg 6 (lW T rfl (mW rfl (bH (by exact aS T rfl rfl (by decide) (by decide) rfl rfl rfl) rfl ?_)));refine eL T rfl rfl rfl rfl rfl rfl (by simp) (iU.whole rfl rfl) rfl (by simp;omega) (by simp;omega) rfl ?_;refine bJ T rfl rfl rfl rfl rfl rfl (by decide) rfl ?_)|(refine nZ ?_))
    all_goals show EA _ _ _ _ (zO5 (qK (fun t => t.2.1 && t.2.2) L (k + 1)))
    all_goals first
      | (rw [if_neg (by simp;done)] at hks;rw [hks];exact ⟨[0,1],rfl,trivial,⟨.inr rfl,.inr (aC rfl rfl (aM _)),trivial⟩,by decide,zS0⟩)
      | skip
    all_goals (rw [hks.trans (if_pos rfl)];exact ⟨[0,4],rfl,trivial,⟨.inr (by simp;rfl),.inr (aC rfl (by simp;exact bC (by simp)) (aM _)),trivial⟩,by decide,zR8⟩)
  · (repeat' (first|refine wS ?_|refine wR ?_|(refine rg 7 (lW T rfl (aV ?_)))|(refine nZ ?_)));exact ⟨.inl rfl,[1],_,rfl,rfl,rfl,⟨.inr (aC rfl rfl (aM _)),trivial⟩,by decide,gL⟩
end Go.Proofs.YtdmajnjoeidgeaaGreat
namespace Go.Proofs.YtdmajnjoeidgeaaGreat
open Go Go.Ab Go.Fl Go.Re Go.Ln
attribute [local irreducible] VC AW bR bQ fT
set_option maxHeartbeats 4000000
theorem oL {l : List Int} {x : Int} : List.take l.length (List.drop 0 (aI l)) ++ [[AV.i x]] = aI (l ++ [x]) := by
  rw [fJ,bC (by simp)];simp
def BW (l : List Int) (k : Int) (n : Nat) : List Int := ((List.range n).filter fun i => decide (l.getD i 0 = k)).map fun i : Nat => (i : Int)
theorem HJ (l : List Int) (k : Int) (n : Nat) : BW l k (n + 1) = if l.getD n 0 = k then BW l k n ++ [(n : Int)] else BW l k n := by
  unfold BW;rw [lO,qZ,cV];by_cases h : l.getD n 0 = k
  · rw [if_pos h,kZ,if_pos (decide_eq_true h)];rfl
  · rw [if_neg h,kZ,if_neg (by simpa using h)];simp
theorem B8 (l : List Int) (k : Int) (n : Nat) : (BW l k n).length ≤ n := by
  unfold BW;rw [dY];exact bU (jB _ _) (by simp)
theorem vR {l : List Int} {k x : Int} {n : Nat} : x ∈ BW l k n ↔ 0 ≤ x ∧ x < n ∧ l.getD x.toNat 0 = k := by
  unfold BW;rw [aQ];constructor
  · rintro ⟨i,hi,rfl⟩;rw [fZ,fC,decide_eq_true_eq] at hi;exact ⟨by omega,by omega,by simpa using hi.2⟩
  · rintro ⟨h0,h1,h2⟩;exact ⟨x.toNat,fZ.2 ⟨fC.2 (by omega),by simpa using h2⟩,by omega⟩
theorem tT (l : List Int) (k : Int) (n : Nat) : vK (BW l k n) :=
  List.Pairwise.map _ (fun a b h => by omega) (List.Pairwise.sublist List.filter_sublist (List.pairwise_lt_range))
abbrev kL (f : jD) (k : Int) : List Int := BW f.k k f.k.length
def bO (f : jD) : List Int := W3 (kL f 4) (kL f 5)
theorem I2 (s : lN) (k : Int) (hl : s.fl.k.length ≤ 1000000) : bQ Tryz.prog 34 [.agg (fS s),.i k] [] (.rowE (aI (kL s.fl k)) 1) [] := by
  refine qR (by simp : (kL s.fl k).length = (aI (kL s.fl k)).length) (kP (aM _)) ?_
  have hkl : (aI s.fl.k).length = s.fl.k.length := aR _;refine dD T Tryz.func34 rfl rfl rfl rfl ?_
  (repeat' (first|refine wS ?_|refine wB ?_|(refine rg 0 (bH (bN rfl rfl) rfl (aV ?_)))|(refine rg 1 (aV ?_))|(refine rg 2 (fW T rfl (eK T rfl (qW T rfl (mV ?_)))))|refine nZ ?_));refine rR 5 1 rfl (by decide) ?_
  refine bV (X := {j : Nat // j ≤ s.fl.k.length}) (fun j => [(1,.i k),(5,.sl 0 0 (BW s.fl.k k j.1).length 1),(10,.rowE (aI s.fl.k) 1),(11,.i s.fl.k.length),(12,.i (j.1 : Int))]) (fun j => [.arr (aI (BW s.fl.k k j.1)) 1]) (fun j => s.fl.k.length - j.1) ⟨0,cH _⟩ ⟨[1],rfl,⟨rfl,rfl,rfl,congrArg (fun n : Nat => some (AV.i n)) hkl,rfl,trivial⟩,⟨.inr rfl,trivial⟩,by decide,gL⟩ ?_
  rintro ⟨j,hj⟩;dsimp only;by_cases hlt : j < s.fl.k.length
  · have hs := HJ s.fl.k k j;have hn := B8 s.fl.k k j;have q1 : (aI s.fl.k)[(j : Int).toNat]? = some [AV.i (s.fl.k.getD j 0)] := eY (l := s.fl.k) (j := (j : Int)) 0 hlt rfl;generalize hT : BW s.fl.k k (j + 1) = T1 at *;generalize BW s.fl.k k j = T0 at *;generalize s.fl.k.getD j 0 = y at *;by_cases hy : y = k
    · subst hy;rw [if_pos rfl] at hs
      (repeat' (first|refine wS ?_|refine wB ?_|refine wK ?_|refine wT ?_|(refine wC rfl ?_ ?_<;>(intro hb;(try simp only [nm] at hb);try (exfalso;omega)))|(refine rg 3 (vV (aL rfl rfl (by omega)) ?_))|(refine rg 4 (mW rfl (vV (ix T rfl (by omega) (aE _) q1) (lW T rfl (iZ ?_)))))|(refine rg 5 (eX rfl (vV (gD rfl rfl) ?_)))|(refine rg 6 (eX rfl (bH (by exact aS T rfl rfl (by decide) (by decide) rfl rfl rfl) rfl ?_));refine eL T rfl rfl rfl rfl rfl rfl (by simp) (iU.whole rfl rfl) rfl (by simp;omega) (by simp;omega) rfl ?_;refine aV ?_)|(refine rg 7 (vV (bP rfl rfl (by omega) (by omega)) (mV ?_)))|refine nZ ?_));all_goals first | (exfalso;omega) | exact absurd trivial hb | skip
      all_goals exact ⟨⟨j + 1,hlt⟩,by dsimp only;omega,[2],rfl,⟨rfl,by dsimp only;rw [hT,hs,aF];rfl,rfl,rfl,rfl,trivial⟩,⟨.inr (aC rfl (by dsimp only;rw [hT,hs];exact oL) (aM _)),trivial⟩,by decide,gL⟩
    · rw [if_neg hy] at hs
      (repeat' (first|refine wS ?_|refine wB ?_|refine wK ?_|refine wT ?_|(refine wC rfl ?_ ?_<;>(intro hb;(try simp only [nm] at hb);try (exfalso;omega)))|(refine rg 3 (vV (aL rfl rfl (by omega)) ?_))|(refine rg 4 (mW rfl (vV (ix T rfl (by omega) (aE _) q1) (lW T rfl (iZ ?_)))))|(refine rg 5 (eX rfl (vV (gD rfl rfl) ?_)))|(refine rg 7 (vV (bP rfl rfl (by omega) (by omega)) (mV ?_)))|refine nZ ?_));all_goals first | (exfalso;omega) | skip
      all_goals exact ⟨⟨j + 1,hlt⟩,by dsimp only;omega,[0],rfl,⟨rfl,by dsimp only;rw [hT,hs];rfl,rfl,rfl,rfl,trivial⟩,⟨.inr (aC rfl (by dsimp only;rw [hT,hs]) (aM _)),trivial⟩,by decide,gL⟩
  · obtain rfl : j = s.fl.k.length := by omega
    (repeat' (first|refine wS ?_|refine wR ?_|refine wE ?_|refine wU ?_|(refine rg 3 (vV (bG rfl rfl (by omega)) ?_))|(refine rg 8 (mW rfl (aV ?_)))|refine nZ ?_));all_goals first | (exfalso;omega) | exact ⟨.inl rfl,[0],_,rfl,rfl,rfl,⟨.inr (aC rfl rfl (aM _)),trivial⟩,by decide,gL⟩
def CJ (f : jD) (W : List Int) (c : Int) (d : Nat) : Option Int := match kK f c d with
  | some x => if x ∈ W then some x else none
  | none => none
def yX (f : jD) (W : List Int) (c : Int) (d : Nat) : List Int := (List.range d).filterMap (CJ f W c)
abbrev lS (f : jD) (W : List Int) (c : Int) : List Int := yX f W c 6
theorem JN (f : jD) (W : List Int) (c : Int) (d : Nat) : yX f W c (d + 1) = match CJ f W c d with
    | some x => yX f W c d ++ [x]
    | none => yX f W c d := by
  unfold yX;rw [lO,jC];cases h : CJ f W c d <;> simp [kB,h]
theorem B3 (f : jD) (W : List Int) (c : Int) (d : Nat) : (yX f W c d).length ≤ d := by
  unfold yX;exact bU (oZ _ _) (by simp)
theorem nT {f : jD} {W : List Int} {c x : Int} : x ∈ lS f W c ↔ x ∈ W ∧ ∃ d : Nat,d < 6 ∧ kK f c d = some x := by
  unfold lS yX;rw [fX];constructor
  · rintro ⟨d,hd,h⟩;unfold CJ at h;split at h
    · rename_i y hy;split at h
      · rename_i hW;cases h;exact ⟨hW,d,fC.1 hd,hy⟩
      · cases h
    · cases h
  · rintro ⟨hW,d,hd,h⟩;exact ⟨d,fC.2 hd,by unfold CJ;rw [h];simp only;rw [if_pos hW]⟩
theorem G6 (s : lN) (hl : s.fl.k.length ≤ 1000000) : bQ Tryz.prog 33 [.agg (fS s)] [] (.rowE (aI (bO s.fl)) 1) [] := by
  have c4 := I2 s 4 hl;have c5 := I2 s 5 hl;have l4 := B8 s.fl.k 4 s.fl.k.length;have l5 := B8 s.fl.k 5 s.fl.k.length;have cu := WQ (kL s.fl 4) (kL s.fl 5) (bU l4 hl) (bU l5 hl);refine dD T Tryz.func33 rfl rfl rfl rfl ?_
  (repeat' (first|refine wS ?_|refine wR ?_|(refine rg 0 (bH (bN rfl rfl) rfl (aV ?_)))|(refine aN (id := 1) 8 [[],[0],[],[0,1,2],rN 4] (rM 3 5) [[],[],[3,4],[],[]] bM rfl (by decide +kernel) (dO T rfl (dV rfl (kC (c4)) (dO T rfl (dV rfl (kC (c5)) (dV rfl (kC (cu)) (dE ?_))))));refine aV ?_)|refine nZ ?_));all_goals first | (exfalso;omega) | exact rQ
def sW (f : jD) (c : Int) : Bool := decide (f.k.getD c.toNat 0 = 5)
theorem Z4 (s : lN) (c : Int) (h0 : 0 ≤ c) (h1 : c < s.fl.k.length) : bQ Tryz.prog 75 [.agg (fS s),.i c] [] (.b (sW s.fl c)) [] := by
  have q1 := eY (l := s.fl.k) (j := c) (i := c.toNat) 0 (by omega) (by omega)
  have hkl : (aI s.fl.k).length = s.fl.k.length := aR _;unfold sW;generalize s.fl.k.getD c.toNat 0 = y at *;refine dD T Tryz.func75 rfl rfl rfl rfl ?_
  (repeat' (first|refine wS ?_|refine wR ?_|(refine rg 0 (bH (bN rfl rfl) rfl (aV ?_)))|(refine rg 1 (fW T rfl (eK T rfl (mW rfl (vV (ix T rfl (by omega) (aE _) q1) (lW T rfl (vV (gD rfl rfl) (aV ?_))))))))|refine nZ ?_));all_goals first | (exfalso;omega) | exact rQ
theorem GJ (s : lN) (g : iL s.fl) (W : List Int) (hW : vK W) (hWl : W.length ≤ 1000000) (c : Int) : bQ Tryz.prog 84 [.agg (fS s),.rowE (aI W) 1,.i c] [] (.rowE (aI (lS s.fl W c)) 1) [] := by
  refine qR (by simp : (lS s.fl W c).length = (aI (lS s.fl W c)).length) (kP (aM _)) ?_
  refine dD T Tryz.func84 rfl rfl rfl rfl ?_
  (repeat' (first|refine wS ?_|refine wB ?_|(refine rg 0 (bH (bN rfl rfl) rfl (aV ?_)))|(refine rg 1 (aV ?_))|(refine rg 2 (mV ?_))|refine nZ ?_));refine rR 7 1 rfl (by decide) ?_
  refine bV (X := {j : Nat // j ≤ 6}) (fun j => [(1,.rowE (aI W) 1),(2,.i c),(3,.ptr 0 0),(7,.sl 1 0 (yX s.fl W c j.1).length 1),(11,.i (j.1 : Int))]) (fun j => [.cells (fS s),.arr (aI (yX s.fl W c j.1)) 1]) (fun j => 6 - j.1) ⟨0,by omega⟩ ⟨[0,1],rfl,⟨rfl,rfl,rfl,rfl,rfl,trivial⟩,⟨.inr rfl,.inr rfl,trivial⟩,by decide,gL⟩ ?_
  rintro ⟨j,hj⟩;dsimp only;by_cases hlt : j < 6
  · have hs := JN s.fl W c j;have hn := B3 s.fl W c j;have cn := KC g c j;unfold CJ at hs;generalize hT : yX s.fl W c (j + 1) = T1 at *;generalize yX s.fl W c j = T0 at *;cases hx : kK s.fl c j with
    | none =>
      rw [hx] at hs cn;simp only at hs
      (repeat' (first|refine wS ?_|refine wB ?_|refine wK ?_|refine wT ?_|refine wU ?_|(refine rg 3 (vV (aL rfl rfl (by omega)) ?_))|(refine rg 4 (mW rfl (aV ?_)))|(refine rg 5 (eK T rfl (eX rfl (vV (kC (cn)) (mW rfl (xW rfl (xW rfl (iZ ?_))))))))|(refine rg 6 (HL ?_);(iterate 3 refine gF ?_);refine pV ?_)|(refine rg 8 (vV (bP rfl rfl (by omega) (by omega)) (mV ?_)))|refine nZ ?_));all_goals first | (exfalso;omega) | skip
      all_goals exact ⟨⟨j + 1,hlt⟩,by dsimp only;omega,[0,1],rfl,⟨rfl,rfl,rfl,by dsimp only;rw [hT,hs];rfl,rfl,trivial⟩,⟨.inr rfl,.inr (aC rfl (by dsimp only;rw [hT,hs]) (aM _)),trivial⟩,by decide,gL⟩
    | some x =>
      have ch := X9 W x hW hWl;rw [hx] at hs cn;simp only at hs;by_cases hm : x ∈ W
      · rw [if_pos hm] at hs;rw [decide_eq_true hm] at ch;simp only at hs
        (repeat' (first|refine wS ?_|refine wB ?_|refine wK ?_|refine wT ?_|(refine rg 3 (vV (aL rfl rfl (by omega)) ?_))|(refine rg 4 (mW rfl (aV ?_)))|(refine rg 5 (eK T rfl (eX rfl (vV (kC (cn)) (mW rfl (xW rfl (xW rfl (iZ ?_))))))))|(refine rg 6 (eX rfl (yN rfl (yN rfl (yV (kC (ch)) (pV ?_))))))|(refine rg 7 (eX rfl (bH (by exact aS T rfl rfl (by decide) (by decide) rfl rfl rfl) rfl ?_));refine eL T rfl rfl rfl rfl rfl rfl (by simp) (iU.whole rfl rfl) rfl (by simp;omega) (by simp;omega) rfl ?_;refine aV ?_)|(refine rg 8 (vV (bP rfl rfl (by omega) (by omega)) (mV ?_)))|refine nZ ?_));all_goals first | (exfalso;omega) | skip
        all_goals exact ⟨⟨j + 1,hlt⟩,by dsimp only;omega,[0,3],rfl,⟨rfl,rfl,rfl,by dsimp only;rw [hT,hs,aF];rfl,rfl,trivial⟩,⟨.inr rfl,.inr (aC rfl (by dsimp only;rw [hT,hs];exact oL) (aM _)),trivial⟩,by decide,gL⟩
      · rw [if_neg hm] at hs;rw [decide_eq_false hm] at ch;simp only at hs
        (repeat' (first|refine wS ?_|refine wB ?_|refine wK ?_|refine wT ?_|refine wU ?_|(refine rg 3 (vV (aL rfl rfl (by omega)) ?_))|(refine rg 4 (mW rfl (aV ?_)))|(refine rg 5 (eK T rfl (eX rfl (vV (kC (cn)) (mW rfl (xW rfl (xW rfl (iZ ?_))))))))|(refine rg 6 (eX rfl (yN rfl (yN rfl (yV (kC (ch)) (pV ?_))))))|(refine rg 8 (vV (bP rfl rfl (by omega) (by omega)) (mV ?_)))|refine nZ ?_));all_goals first | (exfalso;omega) | skip
        all_goals exact ⟨⟨j + 1,hlt⟩,by dsimp only;omega,[0,1],rfl,⟨rfl,rfl,rfl,by dsimp only;rw [hT,hs];rfl,rfl,trivial⟩,⟨.inr rfl,.inr (aC rfl (by dsimp only;rw [hT,hs]) (aM _)),trivial⟩,by decide,gL⟩
  · obtain rfl : j = 6 := by omega
    (repeat' (first|refine wS ?_|refine wR ?_|refine wE ?_|refine wU ?_|(refine rg 3 (vV (bG rfl rfl (by omega)) ?_))|(refine rg 9 (mW rfl (aV ?_)))|refine nZ ?_));all_goals first | (exfalso;omega) | exact ⟨.inl rfl,[1],_,rfl,rfl,rfl,⟨.inr (aC rfl rfl (aM _)),trivial⟩,by decide,gL⟩
end Go.Proofs.YtdmajnjoeidgeaaGreat
