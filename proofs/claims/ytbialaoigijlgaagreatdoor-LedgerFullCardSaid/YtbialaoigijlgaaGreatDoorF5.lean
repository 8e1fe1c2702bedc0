/-
  Texts of the logic and of the layer,in one module (part 5).
-/
import Derived.Test.YtbialaoigijlgaaGreatDoorF4
import Derived.Lib.SlicesDelete
import Derived.Deep.RegionLaw
import Derived.Sort.EncStr
import Derived.Shelf.RegionOpenPlain
import Derived.Deep.LoopGhost
import Derived.Lib.Walk
import Derived.Sort.WalkB12
import Derived.Shelf.Slices.Delete
import Derived.Ground.Names2Prog
import Derived.Shelf.Spec.SlicesGrow
import Derived.Ground.Names8Prog
set_option linter.unusedVariables false
set_option linter.unusedSimpArgs false
set_option linter.unnecessarySimpa false
namespace Go.Ld
open Go.Ab Go.Proofs.YtbialaoigijlgaaGreatDoor
abbrev w0 : W := ([],0,[])
def vS (l : List W) : Nat → List W
  | 0 => []
  | m + 1 => if 0 < m ∧ xI (l.getD m w0) (l.getD (m - 1) w0) = true then vS l m else vS l m ++ [l.getD m w0]
theorem GD {l : List W} {m : Nat} (h : 0 < m) (e : xI (l.getD m w0) (l.getD (m - 1) w0) = true) : vS l (m + 1) = vS l m := by
  rw [vS,if_pos ⟨h,e⟩]
theorem GC {l : List W} {m : Nat} (e : xI (l.getD m w0) (l.getD (m - 1) w0) = false) : vS l (m + 1) = vS l m ++ [l.getD m w0] := by
  rw [vS,if_neg (fun q => by rw [e] at q;cases q.2)]
theorem GB (l : List W) : vS l 1 = [l.getD 0 w0] := by
  rw [vS,if_neg (fun q => Nat.lt_irrefl _ q.1)];rfl
theorem U7 (y : W) : ∀ (A : List W) (p : W), jB xI p (A ++ [y]) = jB xI p A ++ (if xI y ((p :: A).getLastD w0) = true then [] else [y])
  | [],p => by
    show (if xI y p = true then [] else [y]) = _
    simp [jB]
  | x :: A,p => by
    rw [List.cons_append,jB,jB,U7 y A x];have e : ((p :: x :: A).getLastD w0) = ((x :: A).getLastD w0) := by simp [List.getLastD]
    rw [e];split <;> simp
theorem PU (y : W) (A : List W) (h : A ≠ []) : vR xI (A ++ [y]) = vR xI A ++ (if xI y (A.getLastD w0) = true then [] else [y]) := by
  cases A with
  | nil => exact absurd rfl h
  | cons x A => rw [List.cons_append];show x :: jB xI x (A ++ [y]) = _;rw [U7];rfl
theorem mY {l : List W} {m : Nat} (h : m < l.length) : l.getD m w0 = l[m] := by rw [aC,aB h];rfl
theorem IH (l : List W) : ∀ m, m ≤ l.length → vS l m = vR xI (l.take m)
  | 0,_ => by rw [lF];rfl
  | m + 1,h => by
    have e : l.take (m + 1) = l.take m ++ [l.getD m w0] := by rw [mY (by omega),aO (by omega)]
    rcases zW m with rfl | h0
    · rw [GB,e];rfl
    · have hne : l.take m ≠ [] := fun q => by have := congrArg List.length q;rw [aU,List.length_nil] at this;omega
      rw [e,PU _ _ hne,← IH l m (by omega)]
      have hl : (l.take m).getLastD w0 = l.getD (m - 1) w0 := by
        rw [List.getLastD_eq_getLast?,List.getLast?_eq_getElem?,aU,xD (by omega),List.getElem?_take_of_lt (by omega),aC]
      rw [hl];cases hq : xI (l.getD m w0) (l.getD (m - 1) w0) with
      | true => rw [GD h0 hq,if_pos rfl,List.append_nil]
      | false => rw [GC hq,if_neg (by simp)]
theorem XZ (l : List W) : vS l l.length = vR xI l := by rw [IH l _ (aX _),cO]
theorem zG5 {l : List W} {m i : Nat} (hm : m < l.length) (hi : i = m) : (eW l)[i]? = some (wA (l.getD m w0)) := by
  subst hi;simp [hm]
theorem GK {G l : List W} {m : Nat} {i : Nat} (hg : G.length ≤ m) (hm : m < l.length) (hi : i = m) : (eW (G ++ l.drop G.length))[i]? = some (wA (l.getD m w0)) := by
  subst hi;rw [bJ,aE hg,eA,show G.length + (i - G.length) = i by omega,aB hm,mY hm];rfl
theorem WN {G l : List W} {x : W} {j : Int} (h : G.length < l.length) (hj : j = G.length) : (eW (G ++ l.drop G.length)).set (0 + j.toNat) (wA x) = eW ((G ++ [x]) ++ l.drop (G ++ [x]).length) := by
  rw [sX (i := G.length) hj,aT h,mC _ _ _ _ rfl];simp
theorem JY {G l : List W} (h : G.length ≤ l.length) : (eW (G ++ l.drop G.length)).length = l.length := by simp;omega
theorem MH {G : List W} {l : List W} : (eW (G ++ l.drop G.length)).take (0 + (G.length : Int).toNat) = eW G := by
  rw [Nat.zero_add,bR,← jU,sT]
end Go.Ld
namespace Go.Proofs.YtbialaoigijlgaaGreatDoor
open Go Go.Ab Go.Ld
attribute [local irreducible] VC AW bT aQ
set_option maxHeartbeats 4000000
abbrev zE4 : AV := .clo (.func 89) [] []
theorem FZ (l : List W) (hl : l.length ≤ 1000000) (hw : ∀ w,w ∈ l → zU w) : aQ Tryz.prog 88 [.sl 0 0 l.length 3,zE4] [.arr (eW l) 3] (.sl 0 0 (vR xI l).length 3) [.arr (eW (vR xI l)) 3] := by
  rw [← XZ];have hll : (eW l).length = l.length := eB l;refine bK T Tryz.func88 rfl rfl rfl rfl ?_;by_cases h2 : l.length < 2
  · have hk : vS l l.length = l := by
      match l,h2 with
      | [],_ => rfl
      | [a],_ => exact GB _
      | _ :: _ :: _,h => exact absurd h (by simp)
    rw [hk]
    (repeat' (first|refine wS ?_|refine wR ?_|(refine wC rfl ?_ ?_<;>(intro hb;(try simp only [nm] at hb);try (exfalso;omega)))|(refine rg 0 (aV ?_))|(refine rg 1 (mW rfl (qW T rfl (vV (aN rfl rfl) ?_))))|(refine rg 2 (mW rfl (aV ?_)))|refine nZ ?_));all_goals first | (exfalso;omega) | exact ⟨.inl rfl,[0],_,rfl,rfl,rfl,⟨.inr (aG rfl rfl (bD _)),trivial⟩,by decide,kI⟩
  · (repeat' (first|refine wS ?_|refine wB ?_|refine wK ?_|(refine wC rfl (fun hb => ?_) (fun hb => ?_) <;> (((try simp only [nm] at hb);try (exfalso;omega))))|(refine rg 0 (aV ?_))|(refine rg 1 (mW rfl (qW T rfl (vV (aN rfl rfl) ?_))))|(refine rg 3 (aV ?_))|(refine nZ ?_)));all_goals try (exfalso;omega)
    refine cT (X := {k : Nat // 1 ≤ k ∧ k ≤ l.length ∧ vS l k = l.take k}) (fun k => [(0,.sl 0 0 l.length 3),(1,zE4),(5,.i k.1)]) (fun _ => [.arr (eW l) 3]) (fun k => l.length - k.1) ⟨1,by omega,by omega,by rw [GB,mY (by omega),aO (by omega)];rfl⟩ ⟨[0],rfl,by (repeat (first | exact trivial | refine ⟨rfl,?_⟩)),⟨.inr (aG rfl rfl (bD _)),trivial⟩,by decide,kI⟩ ?_
    rintro ⟨k,hk1,hk,hkc⟩;dsimp only;by_cases hlt : k < l.length
    · have e1 := zG5 (i := 0 + (k : Int).toNat) hlt (by omega)
      have e2 := zG5 (l := l) (m := k - 1) (i := 0 + ((k : Int) - 1).toNat) (by omega) (by omega)
      have hc := L6 (l.getD k w0) (l.getD (k - 1) w0) (hw _ (by rw [mY hlt];exact aK _)) (hw _ (by rw [mY (by omega)];exact aK _))
      cases hd : xI (l.getD k w0) (l.getD (k - 1) w0) with
      | true =>
        have hc1 := GD (l := l) hk1 hd;rw [hkc] at hc1;rw [hd] at hc;clear hd;generalize l.getD k w0 = a at *;generalize l.getD (k - 1) w0 = b at *
        (repeat' (first|refine wS ?_|refine wB ?_|refine wK ?_|refine wT ?_|(refine wC rfl ?_ ?_<;>(intro hb;(try simp only [nm] at hb);try (exfalso;omega)))|(refine rg 4 (eG rfl (qW T rfl (vV (aN rfl rfl) ?_))))|(refine lE (id := 6) 10 66 zJ9 zK0 (rM 18 10) zK1 cM rfl (by decide +kernel) (by decide +kernel) ?_;(dsimp only [List.take,List.drop]);refine dN rfl (dN rfl (dN rfl (dV rfl (by exact aL T rfl rfl rfl rfl rfl (by omega) (by omega)) ?_)));refine dV rfl (by exact aS T rfl rfl (bI rfl e1) rfl) ?_;refine dN rfl (dN rfl (dV rfl (cJ rfl rfl (by omega) (by omega)) (dV rfl (by exact aL T rfl rfl rfl rfl rfl (by omega) (by omega)) ?_)));refine dV rfl (by exact aS T rfl rfl (bI rfl e2) rfl) ?_;refine dE ?_;refine fT ?_;refine vV (kC (hc)) ?_)|(refine rg 7 (eG rfl (vV (by exact jH T rfl rfl rfl rfl rfl rfl (by omega) (by omega) (by omega)) ?_));refine aV ?_)|(refine rg 8 (aV ?_))|refine nZ ?_));all_goals try (exfalso;omega)
        have hl1 : (vS l (k + 1)).length = k := by rw [hc1];simp;omega
        refine cT (X := {j : Nat // 1 ≤ j ∧ k + j ≤ l.length ∧ (vS l (k + j)).length + 1 ≤ k + j}) (fun j => [(0,.sl 0 0 l.length 3),(1,zE4),(5,.i (vS l (k + j.1)).length),(6,.sl 0 (0 + (k : Int).toNat) ((l.length : Int) - (k : Int)).toNat 3),(7,.i j.1)]) (fun j => [.arr (eW (vS l (k + j.1) ++ l.drop (vS l (k + j.1)).length)) 3]) (fun j => l.length - (k + j.1)) ⟨1,by omega,by omega,by omega⟩ ⟨[0],rfl,⟨rfl,rfl,by dsimp only;rw [hl1];rfl,rfl,rfl,trivial⟩,⟨.inr (aG rfl (by dsimp only;rw [hl1,hc1,bG]) (bD _)),trivial⟩,by decide,kI⟩ ?_
        clear e1 e2 hl1 hc1 hc a b;rintro ⟨j,hj1,hj,hjc⟩;dsimp only;by_cases hjl : k + j < l.length
        · have e1 := GK (G := vS l (k + j)) (l := l) (m := k + j) (i := 0 + (k : Int).toNat + (j : Int).toNat) (by omega) hjl (by omega)
          have e2 := GK (G := vS l (k + j)) (l := l) (m := k + j - 1) (i := 0 + (k : Int).toNat + ((j : Int) - 1).toNat) (by omega) (by omega) (by omega)
          have e3 := GK (G := vS l (k + j)) (l := l) (m := (vS l (k + j)).length) (i := 0 + (((vS l (k + j)).length : Nat) : Int).toNat) (aX _) (by omega) (by omega)
          have hset := WN (G := vS l (k + j)) (l := l) (x := l.getD (k + j) w0) (j := (((vS l (k + j)).length : Nat) : Int)) (by omega) rfl
          have hal := JY (G := vS l (k + j)) (l := l) (by omega)
          have hdup := GD (l := l) (m := k + j) (by omega)
          have hnew := GC (l := l) (m := k + j);have hc := L6 (l.getD (k + j) w0) (l.getD (k + j - 1) w0) (hw _ (by rw [mY hjl];exact aK _)) (hw _ (by rw [mY (by omega)];exact aK _))
          have hnl : ∀ G : List W,(G ++ [l.getD (k + j) w0]).length = G.length + 1 := fun G => by simp
          rw [show k + j + 1 = k + (j + 1) by omega] at hdup hnew
          generalize l.getD (k + j) w0 = a at *;generalize l.getD (k + j - 1) w0 = b at *;generalize l.getD (vS l (k + j)).length w0 = y at *;generalize vS l (k + j) = G at *;cases hd : xI a b with
          | true =>
            have hdup := hdup hd;rw [hd] at hc;generalize hA : eW (G ++ l.drop G.length) = A at *
            (repeat' (first|refine wS ?_|refine wB ?_|refine wK ?_|refine wU ?_|(refine wC rfl ?_ ?_<;>(intro hb;(try simp only [nm] at hb);try (exfalso;omega)))|(refine rg 9 (eG rfl (qW T rfl (vV (aN rfl rfl) ?_))))|(refine cK (id := 11) 66 zK2 (rM 38 12) zK3 cM rfl (by decide +kernel) (dN rfl (dN rfl (dN rfl (dV rfl (by exact aL T rfl rfl rfl rfl rfl (by omega) (by omega)) ?_))));refine dV rfl (by exact aS T rfl rfl (bI rfl e1) rfl) ?_;refine dN rfl (dN rfl (dV rfl (cJ rfl rfl (by omega) (by omega)) (dV rfl (by exact aL T rfl rfl rfl rfl rfl (by omega) (by omega)) ?_)));refine dV rfl (by exact aS T rfl rfl (bI rfl e2) rfl) ?_;refine dV rfl (kC (hc)) (dV rfl (fB rfl) (dE ?_)))|(refine iA 10 rfl rfl rfl (by omega) (by omega) ?_)|refine nZ ?_));all_goals try (exfalso;omega)
            all_goals exact ⟨⟨j + 1,by omega,by omega,by rw [hdup];omega⟩,by dsimp only;omega,[0],rfl,⟨rfl,rfl,by dsimp only;rw [hdup];rfl,rfl,rfl,trivial⟩,⟨.inr (aG rfl (by dsimp only;rw [hdup];exact hA.symm) (bD _)),trivial⟩,by decide,kI⟩
          | false =>
            have hnew := hnew hd;have hgl := hnl G;rw [hd] at hc;generalize hA : eW (G ++ l.drop G.length) = A at *
            (repeat' (first|refine wS ?_|refine wB ?_|refine wK ?_|refine wT ?_|(refine wC rfl ?_ ?_<;>(intro hb;(try simp only [nm] at hb);try (exfalso;omega)))|(refine rg 9 (eG rfl (qW T rfl (vV (aN rfl rfl) ?_))))|(refine cK (id := 11) 66 zK2 (rM 38 12) zK3 cM rfl (by decide +kernel) (dN rfl (dN rfl (dN rfl (dV rfl (by exact aL T rfl rfl rfl rfl rfl (by omega) (by omega)) ?_))));refine dV rfl (by exact aS T rfl rfl (bI rfl e1) rfl) ?_;refine dN rfl (dN rfl (dV rfl (cJ rfl rfl (by omega) (by omega)) (dV rfl (by exact aL T rfl rfl rfl rfl rfl (by omega) (by omega)) ?_)));refine dV rfl (by exact aS T rfl rfl (bI rfl e2) rfl) ?_;refine dV rfl (kC (hc)) (dV rfl (fB rfl) (dE ?_)))|(refine rg 12 (eG rfl (eG rfl (vV (by exact aL T rfl rfl rfl rfl rfl (by omega) (by omega)) ?_)));refine vV (by exact aS T rfl rfl (bI rfl e1) rfl) ?_;refine vV (by exact aL T rfl rfl rfl rfl rfl (by omega) (by omega)) ?_;refine aR T rfl rfl rfl rfl rfl rfl (by decide) (lJ rfl e3 rfl) ?_)|(refine iA 13 rfl rfl rfl (by omega) (by omega) ?_)|(refine iA 10 rfl rfl rfl (by omega) (by omega) ?_)|refine nZ ?_));all_goals try (exfalso;omega)
            all_goals exact ⟨⟨j + 1,by omega,by omega,by rw [hnew];omega⟩,by dsimp only;omega,[0],rfl,⟨rfl,rfl,by dsimp only;rw [hnew,hgl];rfl,rfl,rfl,trivial⟩,⟨.inr (aG rfl (by dsimp only;rw [hnew];exact hset) (bD _)),trivial⟩,by decide,kI⟩
        · have hkj : k + j = l.length := by omega
          have hcm : vS l l.length = vS l (k + j) := by rw [hkj]
          have hal := JY (G := vS l (k + j)) (l := l) (by omega)
          have htk := MH (G := vS l (k + j)) (l := l);rw [hcm];generalize vS l (k + j) = G at *
          (repeat' (first|refine wS ?_|refine wR ?_|refine wE ?_|(refine wC rfl ?_ ?_<;>(intro hb;(try simp only [nm] at hb);try (exfalso;omega)))|(refine rg 9 (eG rfl (qW T rfl (vV (aN rfl rfl) ?_))))|(refine rg 14 (eG rfl (vV (by exact jH T rfl rfl rfl rfl rfl rfl (by omega) (by omega) (by omega)) ?_));refine A4 T rfl rfl rfl ⟨rfl,rfl,by decide⟩ rfl (by rw [hal];omega) ?_)|(refine rg 15 (eG rfl (vV (by exact jH T rfl rfl rfl rfl rfl rfl (by omega) (by omega) (by omega)) ?_));refine aV ?_)|refine nZ ?_));all_goals try (exfalso;omega)
          all_goals exact ⟨.inl rfl,[0],_,rfl,(by show AV.sl 0 0 ((G.length : Int) - 0).toNat 3 = AV.sl 0 0 G.length 3;rw [show ((G.length : Int) - 0).toNat = G.length by omega]),rfl,⟨.inr (aG rfl htk (bD _)),trivial⟩,by decide,kI⟩
      | false =>
        have hnew := GC (l := l) hd;rw [hkc,mY hlt,← aO hlt] at hnew;rw [hd] at hc;clear hd;generalize l.getD k w0 = a at *;generalize l.getD (k - 1) w0 = b at *
        (repeat' (first|refine wS ?_|refine wB ?_|refine wK ?_|refine wU ?_|(refine wC rfl ?_ ?_<;>(intro hb;(try simp only [nm] at hb);try (exfalso;omega)))|(refine rg 4 (eG rfl (qW T rfl (vV (aN rfl rfl) ?_))))|(refine lE (id := 6) 10 66 zJ9 zK0 (rM 18 10) zK1 cM rfl (by decide +kernel) (by decide +kernel) ?_;(dsimp only [List.take,List.drop]);refine dN rfl (dN rfl (dN rfl (dV rfl (by exact aL T rfl rfl rfl rfl rfl (by omega) (by omega)) ?_)));refine dV rfl (by exact aS T rfl rfl (bI rfl e1) rfl) ?_;refine dN rfl (dN rfl (dV rfl (cJ rfl rfl (by omega) (by omega)) (dV rfl (by exact aL T rfl rfl rfl rfl rfl (by omega) (by omega)) ?_)));refine dV rfl (by exact aS T rfl rfl (bI rfl e2) rfl) ?_;refine dE ?_;refine fT ?_;refine vV (kC (hc)) ?_)|(refine iA 5 rfl rfl rfl (by omega) (by omega) ?_)|refine nZ ?_));all_goals try (exfalso;omega)
        all_goals exact ⟨⟨k + 1,by omega,hlt,hnew⟩,by dsimp only;omega,[0],rfl,by (repeat (first | exact trivial | refine ⟨rfl,?_⟩)),⟨.inr (aG rfl rfl (bD _)),trivial⟩,by decide,kI⟩
    · obtain rfl : k = l.length := by omega
      have hcm : vS l l.length = l := by rw [hkc,cO]
      rw [hcm]
      (repeat' (first|refine wS ?_|refine wR ?_|refine wE ?_|(refine wC rfl ?_ ?_<;>(intro hb;(try simp only [nm] at hb);try (exfalso;omega)))|(refine rg 4 (eG rfl (qW T rfl (vV (aN rfl rfl) ?_))))|(refine rg 16 (mW rfl (aV ?_)))|refine nZ ?_));all_goals first | (exfalso;omega) | exact ⟨.inl rfl,[0],_,rfl,rfl,rfl,⟨.inr (aG rfl rfl (bD _)),trivial⟩,by decide,kI⟩
theorem DT (l : List W) (hl : l.length ≤ 1000000) : aQ Tryz.prog 82 [.rowE (eW l) 3] [] (.sl 0 0 l.length 3) [.arr (eW l) 3] := by
  have hll : (eW l).length = l.length := eB l;refine bK T Tryz.func82 rfl rfl rfl rfl ?_
  repeat' (first|refine wS ?_|refine wK ?_|refine wT ?_|refine wU ?_|(refine rg 0 (aV ?_))|(refine rg 1 (mV ?_);refine qE T rfl rfl rfl rfl fun b hb=>?_;cases b)|refine nZ ?_)
  · (repeat' (first|refine wR ?_|(refine rg 3 (bS (by exact bC T rfl rfl (by decide) (by decide) rfl rfl rfl) rfl ?_);refine mW rfl (fY T rfl rfl rfl rfl rfl rfl (by decide) (.row (jE l)) (WF l) (by simp;omega) (by simp;omega) rfl ?_);refine aV ?_)|(refine nZ ?_)));exact ⟨.inl rfl,[1],_,rfl,(by show AV.sl 1 0 (0 + (eW l).length) 3 = AV.sl 1 0 l.length 3;simp),rfl,⟨.inr (aG rfl rfl (bD _)),trivial⟩,by decide,H3⟩
  · have hl0 : l = [] := fG.1 (Classical.byContradiction fun h => by have := hb (by omega);cases this)
    subst hl0
    (repeat' (first|refine wR ?_|(refine rg 2 (vV (fA rfl) (pH 2 3 rfl (by decide) ?_)))|refine nZ ?_));exact ⟨.inl rfl,[0],_,rfl,rfl,rfl,⟨.inr (aG rfl rfl (bD _)),trivial⟩,by decide,H3⟩
theorem gI : ∀ {es : List (List AV)}, (∀ e, e ∈ es → AV.idfL e = true) → AV.idfL es.flatten = true
  | [],_ => rfl
  | e :: es,h => by
    have h1 := h e bB;have h2 := gI (es := es) fun q hq => h q (aY _ hq);rw [dU];generalize es.flatten = F at *;clear h
    induction e with
    | nil => exact h2
    | cons x e ih =>
      simp only [List.cons_append,AV.idfL,aP] at h1 ⊢;exact ⟨h1.1,ih h1.2⟩
theorem T0 (l : List W) (hl : l.length ≤ 100000) (hw : ∀ w,w ∈ l → zU w) : aQ Tryz.prog 41 [.rowE (eW l) 3] [] (.rowE (eW (iB l)) 3) [] := by
  refine nT (by simp : (iB l).length = (eW (iB l)).length) (gI (bD _)) ?_
  have h1 := DT l (by omega)
  have h2 := SO l rfl hl hw;have h3 := FZ (dK eE l) (by rw [gX];omega) (fun w h => hw w ((dJ _ _).mem_iff.1 h))
  rw [gX] at h3;show aQ _ _ _ _ (.sl 0 0 (vR xI (dK eE l)).length 3) [.arr (eW (vR xI (dK eE l))) 3];generalize vR xI (dK eE l) = R at *;refine bK T Tryz.func41 rfl rfl rfl rfl ?_
  (repeat' (first|refine wS ?_|refine wR ?_|(refine rg 0 (aV ?_))|(refine rg 1 (mW rfl (bS (by exact fM rfl rfl h1 (.inr ⟨rfl,rfl,by simp⟩)) rfl ?_));refine aV ?_)|(refine rg 2 (mW rfl (dW [0] rfl rfl (h2) rfl rfl (by decide) ⟨.inr (aG rfl (cC _ (bD _)) (bD _)),trivial⟩ (by simp) rfl ?_)))|(refine rg 3 (mW rfl (dW [0] rfl rfl (h3) rfl rfl (by decide) ⟨.inr (aG rfl (cC _ (bD _)) (bD _)),trivial⟩ (by simp) rfl ?_));refine aV ?_)|refine nZ ?_));all_goals exact ⟨.inl rfl,[0],_,rfl,rfl,rfl,⟨.inr (aG rfl (cC _ (bD _)) (bD _)),trivial⟩,by decide,fun i h => absurd h (dD _)⟩
end Go.Proofs.YtbialaoigijlgaaGreatDoor
namespace Go.Ab
open Go
mutual
def AV.pln : AV → Bool
  | .v _ => true
  | .any => true
  | .row .. => true
  | .mrow .. => true
  | .pr .. => true
  | .agg cs => AV.plnL cs
  | _ => false
def AV.plnL : List AV → Bool
  | [] => true
  | x :: l => AV.pln x && AV.plnL l
end
mutual
theorem IX {h : Hp} : ∀ (x : AV), x.pln = true → mN h x x
  | .v x,_ => .v x
  | .any,_ => .any
  | .row cs l s,_ => .row cs l s
  | .mrow ks vs,_ => .mrow ks vs
  | .pr cs o,_ => .pr cs o
  | .agg cs,e => .agg (eR cs (by simpa [AV.pln] using e))
  | .ptr ..,e | .ep ..,e | .sl ..,e | .mp ..,e | .tup ..,e | .clo ..,e | .cond ..,e | .ifc ..,e => by simp [AV.pln] at e
theorem eR {h : Hp} : ∀ (xs : List AV), AV.plnL xs = true → kS h xs xs
  | [],_ => .nil
  | x :: l,e => by
    simp only [AV.plnL,aP] at e;exact .cons (IX x e.1) (eR l e.2)
end
theorem E1 : ∀ (a b : List AV), AV.plnL (a ++ b) = (AV.plnL a && AV.plnL b)
  | [],b => by simp [AV.plnL]
  | x :: a,b => by simp [AV.plnL,E1 a b,Bool.and_assoc]
theorem sE {α : Type} {g : α → List AV} (hg : ∀ a, AV.plnL (g a) = true) : ∀ l : List α, AV.plnL (l.map g).flatten = true
  | [] => rfl
  | a :: l => by rw [List.map_cons,dU,E1,hg a,sE hg l];rfl
theorem rW {h : Hp} {k n sz : Nat} {es : List (List AV)} (hk : h[k]? = some (.arr es sz)) (hn : n = es.length) (hp : AV.plnL es.flatten = true) : mN h (.sl k 0 n sz) (.rowE es sz) := by
  subst hn;refine mN.sl hk (by omega) ?_
  rw [nC,cO];exact eR _ hp
end Go.Ab
namespace Go.Ld
open Go.Ab Go.Proofs.YtbialaoigijlgaaGreatDoor
theorem fU (l : List SP) : (eO l).length = l.length := bN _
theorem eY (l : List SP) : ∀ e,e ∈ eO l → AV.idfL e = true := by intro e he;obtain ⟨i,_,rfl⟩ := bL.1 he;rfl
theorem R6 (l : List SP) : (eO l).flatten.all AV.one = true := by
  induction l with
  | nil => rfl
  | cons x l ih => exact ih
theorem oT {l : List SP} {j : Int} {i : Nat} (h : i < l.length) (e : j = i) : (eO l)[j.toNat]? = some [AV.i (l.getD i (0,0)).1,AV.i (l.getD i (0,0)).2] := by
  subst e;rw [bR,bJ,aB h,aC,aB h];rfl
theorem yR {l : List SP} {j : Int} {i : Nat} (h : i < l.length) (e : j = i) : (eO l)[0 + j.toNat]? = some [AV.i (l.getD i (0,0)).1,AV.i (l.getD i (0,0)).2] := by
  rw [Nat.zero_add];exact oT h e
theorem J7 {l : List SP} {j : Int} {i : Nat} {r : SP} (e : j = i) : (eO l).set (0 + j.toNat) [AV.i r.1,AV.i r.2] = eO (l.set i r) := by
  subst e;rw [Nat.zero_add,bR];show _ = List.map (fun p : SP => [AV.i p.1,AV.i p.2]) (l.set i r);rw [Q9]
end Go.Ld
namespace Go.Proofs.YtbialaoigijlgaaGreatDoor
open Go Go.Ab Go.Ld
attribute [local irreducible] VC AW bT aQ
set_option maxHeartbeats 4000000
theorem jJ (l : List Nat) : ∀ i : Nat,i < 0 → l[i]? = some i := fun i h => absurd h (dD _)
theorem PV (l : List SP) (hl : l.length ≤ 1000000) : aQ Tryz.prog 97 [.rowE (eO l) 2] [] (.sl 0 0 l.length 2) [.arr (eO l) 2] := by
  have hll : (eO l).length = l.length := fU l;refine bK T Tryz.func97 rfl rfl rfl rfl ?_
  repeat' (first|refine wS ?_|refine wK ?_|refine wT ?_|refine wU ?_|(refine rg 0 (aV ?_))|(refine rg 1 (mV ?_);refine qE T rfl rfl rfl rfl fun b hb=>?_;cases b)|refine nZ ?_)
  · (repeat' (first|refine wR ?_|(refine rg 3 (bS (by exact bC T rfl rfl (by decide) (by decide) rfl rfl rfl) rfl ?_);refine mW rfl (fY T rfl rfl rfl rfl rfl rfl (by decide) (.row (gW l)) (R6 l) (by simp;omega) (by simp;omega) rfl ?_);refine aV ?_)|(refine nZ ?_)));exact ⟨.inl rfl,[1],_,rfl,(by show AV.sl 1 0 (0 + (eO l).length) 2 = AV.sl 1 0 l.length 2;simp),rfl,⟨.inr (aG rfl rfl (eY _)),trivial⟩,by decide,jJ _⟩
  · have hl0 : l = [] := fG.1 (Classical.byContradiction fun h => by have := hb (by omega);cases this)
    subst hl0
    (repeat' (first|refine wR ?_|(refine rg 2 (vV (fA rfl) (pH 2 2 rfl (by decide) ?_)))|refine nZ ?_));exact ⟨.inl rfl,[0],_,rfl,rfl,rfl,⟨.inr (aG rfl rfl (eY _)),trivial⟩,by decide,jJ _⟩
theorem I8 (w : W) (hw : zU w) : aQ Tryz.prog 47 [P7 w] [] (.agg [.sl 0 0 w.1.length 1,.i w.2.1,.sl 1 0 w.2.2.length 2]) [.arr (ints w.1) 1,.arr (eO w.2.2) 2] := by
  obtain ⟨p,m,c⟩ := w;have h1 := AE p (by have := hw.1;dsimp only at this;omega)
  have h2 := PV c hw.2;dsimp only;refine bK T Tryz.func47 rfl rfl rfl rfl ?_
  (repeat' (first|refine wS ?_|refine wR ?_|(refine rg 0 (bS (cW rfl rfl) rfl (bS (bH T rfl) rfl ?_)))|(refine cK (id := 1) 12 [[],[0],[0,1],[],[3],[],[5],[0,1,2,5,6],rN 8] (rM 3 9) [[],[],[],[3,4,5],[3,4,5],rM 3 5,rM 3 5,[6,7],[]] cM rfl (by decide +kernel) (dP T rfl (dO T rfl (xU rfl rfl rfl (by exact fM rfl rfl h1 (.inr ⟨rfl,rfl,by simp⟩)) rfl ?_)));refine dP T rfl (dO T rfl (dP T rfl (dO T rfl (xU rfl rfl rfl (by exact fM rfl rfl h2 (.inr ⟨rfl,rfl,by simp⟩)) rfl ?_))));refine dV rfl (by exact eH T rfl rfl rfl rfl) ?_;refine dE ?_;refine aR T rfl rfl rfl rfl rfl rfl (by decide) rfl ?_)|refine nZ ?_));all_goals exact ⟨.inl rfl,[2,3],_,rfl,rfl,rfl,⟨.inr (aG rfl (cC _ (bO p)) (bO p)),.inr (aG rfl (cC _ (eY c)) (eY c)),trivial⟩,by decide,jJ _⟩
theorem xM {h : Hp} {k n : Nat} {l : List SP} (hk : h[k]? = some (.arr (eO l) 2)) (hn : n = l.length) : mN h (.sl k 0 n 2) (.rowE (eO l) 2) := rW hk (by rw [hn,fU]) (sE (fun _ => rfl) _)
theorem II (w : W) (hw : zU w) : aQ Tryz.prog 47 [P7 w] [] (P7 w) [] :=
  uB (I8 w hw) (.agg (.cons (wH rfl rfl) (.cons (.v _) (.cons (xM rfl rfl) .nil))))
theorem XP (w : W) {i k : Nat} (hw : zU w) (hi : i < w.1.length) (hk : k < w.1.length) (hc : w.2.2.length = w.1.length) :
    aQ Tryz.prog 40 [P7 w,.i i,.i k] [] (.agg [.sl 0 0 w.1.length 1,.i w.2.1,.sl 1 0 w.2.2.length 2]) [.arr (ints (C6 w i k).1) 1,.arr (eO (C6 w i k).2.2) 2] := by
  have hcl := I8 w hw;obtain ⟨p,m,c⟩ := w;have hw1 := hw.1;have hw2 := hw.2;dsimp only at hi hk hc hcl hw1 hw2;have p1 := zE (l := p) (j := (i : Int)) (i := i) 0 hi rfl;have p2 := zE (l := p) (j := (k : Int)) (i := k) 0 hk rfl;have ps := HT (l := p) (j := (i : Int)) (i := i) (x := p.getD k 0) rfl;have p3 := zE (l := p.set i (p.getD k 0)) (j := (k : Int)) (i := k) 0 (by simpa using hk) rfl
  have pt := HT (l := p.set i (p.getD k 0)) (j := (k : Int)) (i := k) (x := p.getD i 0) rfl;have c1 := yR (l := c) (j := (i : Int)) (i := i) (by omega) rfl
  have c2 := yR (l := c) (j := (k : Int)) (i := k) (by omega) rfl
  have cs := J7 (l := c) (j := (i : Int)) (i := i) (r := c.getD k (0,0)) rfl;have c3 := yR (l := c.set i (c.getD k (0,0))) (j := (k : Int)) (i := k) (by rw [fR];omega) rfl
  have ct := J7 (l := c.set i (c.getD k (0,0))) (j := (k : Int)) (i := k) (r := c.getD i (0,0)) rfl;show aQ _ _ _ _ _ [.arr (ints ((p.set i (p.getD k 0)).set k (p.getD i 0))) 1,.arr (eO ((c.set i (c.getD k (0,0))).set k (c.getD i (0,0)))) 2];have hlp : (ints p).length = p.length := cY _;have hlc : (eO c).length = c.length := fU _;dsimp only;refine bK T Tryz.func40 rfl rfl rfl rfl ?_
  (repeat' (first|refine wS ?_|(refine rg 0 (bS (cW rfl rfl) rfl (bS (bH T rfl) rfl ?_)))|(refine rg 1 (lW T rfl (bS (by exact fM rfl rfl hcl (.inr ⟨rfl,rfl,by simp⟩)) rfl ?_));refine aR T rfl rfl rfl rfl rfl rfl (by decide) rfl ?_)|refine nZ ?_));refine eM [(1,.i i),(2,.i k),(3,.ptr 0 0),(6,.ptr 1 0)] [.cells [.sl 2 0 p.length 1,.i m,.sl 3 0 c.length 2],.cells [.nils,.i 0,.nils],.arr (ints p) 1,.arr (eO c) 2] ⟨[0,1,2,3],rfl,(by repeat first|exact trivial|refine ⟨rfl,?_⟩),⟨.inr rfl,.inr rfl,.inr (aG rfl (cC _ (bO p)) (bO p)),.inr (aG rfl (cC _ (eY c)) (eY c)),trivial⟩,by decide,jJ _⟩ ?_
  rw [← ps] at p3 pt;rw [← cs] at c3 ct;generalize p.getD k 0 = x at *;generalize p.getD i 0 = y at *;generalize c.getD k (0,0) = r at *;generalize c.getD i (0,0) = q at *
  (repeat' (first|refine wS ?_|refine wR ?_|(refine mH (id := 2) 46 zK4 (rM 9 17) [[],[],[9,10],[9,10,11],[9,10,11],rM 9 5,rM 9 6,rM 9 6,rM 9 8,rM 9 6,rM 9 6,rM 9 11,rM 9 11,rM 9 13,rM 9 11,rM 9 11,[12,13,14],[12,13,14]] [(17,2)] cM rfl (by decide +kernel) (cE rfl rfl rfl rfl (by exact bV T rfl rfl rfl) ?_);refine cE rfl rfl rfl rfl (by exact aS T rfl rfl rfl rfl) ?_;refine cE rfl rfl rfl rfl (by exact bU rfl) ?_;refine cE rfl rfl rfl rfl (by exact bV T rfl rfl rfl) ?_;refine cE rfl rfl rfl rfl (by exact aS T rfl rfl rfl rfl) ?_;refine cE rfl rfl rfl rfl (by exact bU rfl) ?_;refine cE rfl rfl rfl rfl (by exact bV T rfl rfl rfl) ?_;refine cE rfl rfl rfl rfl (by exact aS T rfl rfl rfl rfl) ?_;refine cE rfl rfl rfl rfl (by exact bU rfl) ?_;refine cE rfl rfl rfl rfl (by exact aL T rfl rfl rfl rfl rfl (by omega) (by omega)) ?_;refine cE rfl rfl rfl rfl (by exact aS T rfl rfl (bI rfl p2) rfl) ?_;refine cE rfl rfl rfl rfl (by exact bV T rfl rfl rfl) ?_;refine cE rfl rfl rfl rfl (by exact aS T rfl rfl rfl rfl) ?_;refine cE rfl rfl rfl rfl (by exact bU rfl) ?_;refine cE rfl rfl rfl rfl (by exact aL T rfl rfl rfl rfl rfl (by omega) (by omega)) ?_;refine cE rfl rfl rfl rfl (by exact aS T rfl rfl (bI rfl p1) rfl) ?_;refine cE rfl rfl rfl rfl (by exact aL T rfl rfl rfl rfl rfl (by omega) (by omega)) ?_;refine tU rfl rfl rfl rfl (aM rfl) T rfl rfl rfl rfl rfl rfl (by decide) (tA rfl p1 rfl) ?_;refine pS rfl rfl rfl (by exact rfl) ?_;refine vV (by exact aL T rfl rfl rfl rfl rfl (by omega) (by omega)) ?_;refine aR T rfl rfl rfl rfl rfl rfl (by decide) (lJ rfl p3 rfl) ?_)|(refine mH (id := 3) 46 zK4 (rM 27 17) [[],[],[27,28],[27,28,29],[27,28,29],rM 27 5,rM 27 6,rM 27 6,rM 27 8,rM 27 6,rM 27 6,rM 27 11,rM 27 11,rM 27 13,rM 27 11,rM 27 11,[30,31,32],[30,31,32]] [(17,3)] cM rfl (by decide +kernel) (cE rfl rfl rfl rfl (by exact bV T rfl rfl rfl) ?_);refine cE rfl rfl rfl rfl (by exact aS T rfl rfl rfl rfl) ?_;refine cE rfl rfl rfl rfl (by exact bU rfl) ?_;refine cE rfl rfl rfl rfl (by exact bV T rfl rfl rfl) ?_;refine cE rfl rfl rfl rfl (by exact aS T rfl rfl rfl rfl) ?_;refine cE rfl rfl rfl rfl (by exact bU rfl) ?_;refine cE rfl rfl rfl rfl (by exact bV T rfl rfl rfl) ?_;refine cE rfl rfl rfl rfl (by exact aS T rfl rfl rfl rfl) ?_;refine cE rfl rfl rfl rfl (by exact bU rfl) ?_;refine cE rfl rfl rfl rfl (by exact aL T rfl rfl rfl rfl rfl (by omega) (by omega)) ?_;refine cE rfl rfl rfl rfl (by exact aS T rfl rfl (bI rfl c2) rfl) ?_;refine cE rfl rfl rfl rfl (by exact bV T rfl rfl rfl) ?_;refine cE rfl rfl rfl rfl (by exact aS T rfl rfl rfl rfl) ?_;refine cE rfl rfl rfl rfl (by exact bU rfl) ?_;refine cE rfl rfl rfl rfl (by exact aL T rfl rfl rfl rfl rfl (by omega) (by omega)) ?_;refine cE rfl rfl rfl rfl (by exact aS T rfl rfl (bI rfl c1) rfl) ?_;refine cE rfl rfl rfl rfl (by exact aL T rfl rfl rfl rfl rfl (by omega) (by omega)) ?_;refine tU rfl rfl rfl rfl (aM rfl) T rfl rfl rfl rfl rfl rfl (by decide) (tA rfl c1 rfl) ?_;refine pS rfl rfl rfl (by exact rfl) ?_;refine vV (by exact aL T rfl rfl rfl rfl rfl (by omega) (by omega)) ?_;refine aR T rfl rfl rfl rfl rfl rfl (by decide) (lJ rfl c3 rfl) ?_)|(refine rg 4 (vV (aS T rfl rfl rfl rfl) (aR T rfl rfl rfl rfl rfl rfl (by decide) rfl ?_)))|refine nZ ?_));all_goals exact ⟨.inl rfl,[2,3],_,rfl,rfl,rfl,⟨.inr (aG rfl pt (bO _)),.inr (aG rfl ct (eY _)),trivial⟩,by decide,jJ _⟩
theorem XQ (w : W) {i k : Nat} (hw : zU w) (hi : i < w.1.length) (hk : k < w.1.length) (hc : w.2.2.length = w.1.length) : aQ Tryz.prog 40 [P7 w,.i i,.i k] [] (P7 (C6 w i k)) [] :=
  uB (XP w hw hi hk hc) (.agg (.cons (wH rfl (by simp [C6])) (.cons (.v _) (.cons (xM rfl (by simp [C6])) .nil))))
theorem OJ (a b : W) : aQ Tryz.prog 119 [P7 a,P7 b] [] (.i (cI a.2.1 b.2.1)) [] := by
  have h := U6 a.2.1 b.2.1;refine bK T Tryz.func119 rfl rfl rfl rfl ?_
  (repeat' (first|refine wS ?_|refine wR ?_|(refine rg 0 (bS (cW rfl rfl) rfl (bS (cW rfl rfl) rfl (aV ?_))))|(refine rg 1 (iX T rfl (iX T rfl (vV (kC (h)) (aV ?_)))))|refine nZ ?_));all_goals first | (exfalso;omega) | exact rQ
end Go.Proofs.YtbialaoigijlgaaGreatDoor
namespace Go.Ld
open Go.Ab Go.Proofs.YtbialaoigijlgaaGreatDoor
def qK {α : Type} (p : α → Bool) : List α → Nat → Int
  | [],_ => -1
  | x :: l,k => if p x = true then k else qK p l (k + 1)
theorem Y7 {α : Type} {p : α → Bool} {l : List α} {k : Nat} (h : k < l.length) : qK p (l.drop k) k = if p l[k] = true then (k : Int) else qK p (l.drop (k + 1)) (k + 1) := by
  rw [aT h];rfl
theorem M5 {α : Type} {p : α → Bool} {l : List α} {k : Nat} (h : l.length ≤ k) : qK p (l.drop k) k = -1 := by
  rw [cQ h];rfl
theorem zF {α : Type} (p : α → Bool) : ∀ (l : List α) (k : Nat), decide (qK p l k ≥ 0) = l.any p
  | [],k => by simp [qK]
  | x :: l,k => by
    unfold qK;split
    · rename_i h;simp [h]
    · rename_i h;rw [zF p l (k + 1)];simp [h]
theorem T9 {α : Type} (p : α → Bool) : ∀ (l : List α) (k : Nat), qK p l k = match l.findIdx? p with
    | some i => ((k + i : Nat) : Int)
    | none => -1
  | [],k => by simp [qK]
  | x :: l,k => by
    unfold qK;rw [List.findIdx?_cons];by_cases h : p x = true
    · rw [if_pos h,if_pos h];simp
    · rw [if_neg h,if_neg h,T9 p l (k + 1)];cases l.findIdx? p with
      | none => rfl
      | some i => show ((k + 1 + i : Nat) : Int) = ((k + (i + 1) : Nat) : Int);omega
theorem lL (l : List G) : ∀ e,e ∈ gZ l → e.length = 2 := by intro e he;obtain ⟨n,_,rfl⟩ := bL.1 he;rfl
theorem gY (l : List G) : (gZ l).length = l.length := bN _
theorem OZ (l : List G) : (gZ l).flatten.all AV.one = true := by
  induction l with
  | nil => rfl
  | cons x l ih => exact ih
theorem dX (l : List G) : ∀ e,e ∈ gZ l → AV.idfL e = true := by intro e he;obtain ⟨x,_,rfl⟩ := bL.1 he;rfl
end Go.Ld
namespace Go.Proofs.YtbialaoigijlgaaGreatDoor
open Go Go.Ab Go.Ld
attribute [local irreducible] VC AW bT aQ
set_option maxHeartbeats 4000000
abbrev KQ (g : G) : AV := .agg (gA g)
theorem nE {l : List W} {k : Nat} (h : k < l.length) : (eW l)[(k : Int).toNat]? = some (wA l[k]) := by simp [h]
theorem zH {l : List G} {k : Nat} (h : k < l.length) : (gZ l)[(k : Int).toNat]? = some (gA l[k]) := by simp [h]
theorem HR {l : List Int} {k : Nat} (h : k < l.length) : (ints l)[(k : Int).toNat]? = some [AV.i l[k]] := by simp [h]
theorem OM {l : List W} {F : FuncId} {caps : List AV} {p : W → Bool} (hl : l.length ≤ 1000000) (hi : AV.idfL caps = true) (hF : ∀ x,x ∈ l → aQ Tryz.prog F (.agg (wA x) :: caps) [] (.b (p x)) []) :
    aQ Tryz.prog 120 [.rowE (eW l) 3,.clo (.func F) [] caps] [] (.i (qK p l 0)) [] := by
  have hlen : (eW l).length = l.length := bN _;refine bK T Tryz.func120 rfl rfl rfl rfl ?_
  (repeat' (first|refine wS ?_|refine wB ?_|(refine rg 0 (aV ?_))|(refine rg 1 (mW rfl (qW T rfl (mV ?_))))|refine nZ ?_));refine cT (X := {k : Nat // k ≤ l.length ∧ qK p l 0 = qK p (l.drop k) k}) (fun k => [(0,.rowE (eW l) 3),(1,.clo (.func F) [] caps),(7,.i (eW l).length),(8,.i k.1)]) (fun _ => []) (fun k => l.length - k.1) ⟨0,by simp,rfl⟩ ⟨[],rfl,⟨rfl,by rw [kZ hi];rfl,rfl,rfl,trivial⟩,trivial,dA,fun _ h => absurd h (dD _)⟩ ?_
  rintro ⟨k,hk,he⟩;dsimp only;by_cases hlt : k < l.length
  · have hc := hF l[k] (aK hlt);have hg := nE (l := l) hlt;rw [Y7 hlt] at he;generalize l[k] = y at *;cases hp : p y with
    | true =>
      rw [hp] at hc;rw [hp,if_pos rfl] at he
      (repeat' (first|refine wS ?_|refine wB ?_|refine wK ?_|refine wR ?_|refine wT ?_|(refine wC rfl ?_ ?_<;>(intro hb;(try simp only [nm] at hb);try (exfalso;omega)))|(refine rg 2 (vV (aN rfl rfl) ?_))|(refine rg 3 (mW rfl (aV ?_)))|(refine rg 4 (eG rfl (mW rfl (vV (ix T rfl (by omega) (jE l) hg) (lW T rfl (vV (by exact eS rfl rfl hc rfl (by simp [AV.idfL,AV.idf,hi]) rfl) ?_))))))|(refine rg 5 (mW rfl (aV ?_)))|refine nZ ?_));all_goals first | (exfalso;omega) | exact eC (.inl rfl) rfl (by rw [he];rfl)
    | false =>
      rw [hp] at hc;rw [hp,if_neg (by simp)] at he
      (repeat' (first|refine wS ?_|refine wB ?_|refine wK ?_|refine wU ?_|(refine wC rfl ?_ ?_<;>(intro hb;(try simp only [nm] at hb);try (exfalso;omega)))|(refine rg 2 (vV (aN rfl rfl) ?_))|(refine rg 3 (mW rfl (aV ?_)))|(refine rg 4 (eG rfl (mW rfl (vV (ix T rfl (by omega) (jE l) hg) (lW T rfl (vV (by exact eS rfl rfl hc rfl (by simp [AV.idfL,AV.idf,hi]) rfl) ?_))))))|(refine rg 6 (vV (bF rfl rfl (by omega) (by omega)) (mV ?_)))|refine nZ ?_));all_goals first | (exfalso;omega) | exact ⟨⟨k + 1,hlt,he⟩,by dsimp only;omega,⟨[],rfl,⟨rfl,by rw [kZ hi];rfl,rfl,rfl,trivial⟩,trivial,dA,fun _ h => absurd h (dD _)⟩⟩
  · rw [M5 (by omega)] at he
    (repeat' (first|refine wS ?_|refine wR ?_|refine wE ?_|(refine wC rfl ?_ ?_<;>(intro hb;(try simp only [nm] at hb);try (exfalso;omega)))|(refine rg 2 (vV (aN rfl rfl) ?_))|(refine rg 7 (aV ?_))|refine nZ ?_));all_goals first | (exfalso;omega) | exact eC (.inl rfl) rfl (by rw [he];rfl)
theorem XC {l : List W} {F : FuncId} {caps : List AV} {p : W → Bool} (hl : l.length ≤ 1000000) (hi : AV.idfL caps = true) (hF : ∀ x,x ∈ l → aQ Tryz.prog F (.agg (wA x) :: caps) [] (.b (p x)) []) :
    aQ Tryz.prog 121 [.rowE (eW l) 3,.clo (.func F) [] caps] [] (.b (l.any p)) [] := by
  have hc := OM hl hi hF;rw [← zF p l 0];refine bK T Tryz.func121 rfl rfl rfl rfl ?_
  (repeat' (first|refine wS ?_|refine wR ?_|(refine rg 0 (aV ?_))|(refine rg 1 (eG rfl (vV (by exact eS rfl rfl hc rfl (by simp [AV.idfL,AV.idf,hi]) rfl) ?_));refine vV (kR rfl rfl) (aV ?_))|refine nZ ?_));all_goals first | (exfalso;omega) | exact rQ
theorem VV {l : List G} {F : FuncId} {caps : List AV} {p : G → Bool} (hl : l.length ≤ 1000000) (hi : AV.idfL caps = true) (hF : ∀ x,x ∈ l → aQ Tryz.prog F (.agg (gA x) :: caps) [] (.b (p x)) []) :
    aQ Tryz.prog 75 [.rowE (gZ l) 2,.clo (.func F) [] caps] [] (.i (qK p l 0)) [] := by
  have hlen : (gZ l).length = l.length := bN _;refine bK T Tryz.func75 rfl rfl rfl rfl ?_
  (repeat' (first|refine wS ?_|refine wB ?_|(refine rg 0 (aV ?_))|(refine rg 1 (mW rfl (qW T rfl (mV ?_))))|refine nZ ?_));refine cT (X := {k : Nat // k ≤ l.length ∧ qK p l 0 = qK p (l.drop k) k}) (fun k => [(0,.rowE (gZ l) 2),(1,.clo (.func F) [] caps),(7,.i (gZ l).length),(8,.i k.1)]) (fun _ => []) (fun k => l.length - k.1) ⟨0,by simp,rfl⟩ ⟨[],rfl,⟨rfl,by rw [kZ hi];rfl,rfl,rfl,trivial⟩,trivial,dA,fun _ h => absurd h (dD _)⟩ ?_
  rintro ⟨k,hk,he⟩;dsimp only;by_cases hlt : k < l.length
  · have hc := hF l[k] (aK hlt);have hg := zH (l := l) hlt;rw [Y7 hlt] at he;generalize l[k] = y at *;cases hp : p y with
    | true =>
      rw [hp] at hc;rw [hp,if_pos rfl] at he
      (repeat' (first|refine wS ?_|refine wB ?_|refine wK ?_|refine wR ?_|refine wT ?_|(refine wC rfl ?_ ?_<;>(intro hb;(try simp only [nm] at hb);try (exfalso;omega)))|(refine rg 2 (vV (aN rfl rfl) ?_))|(refine rg 3 (mW rfl (aV ?_)))|(refine rg 4 (eG rfl (mW rfl (vV (ix T rfl (by omega) (lL l) hg) (lW T rfl (vV (by exact eS rfl rfl hc rfl (by simp [AV.idfL,AV.idf,hi]) rfl) ?_))))))|(refine rg 5 (mW rfl (aV ?_)))|refine nZ ?_));all_goals first | (exfalso;omega) | exact eC (.inl rfl) rfl (by rw [he];rfl)
    | false =>
      rw [hp] at hc;rw [hp,if_neg (by simp)] at he
      (repeat' (first|refine wS ?_|refine wB ?_|refine wK ?_|refine wU ?_|(refine wC rfl ?_ ?_<;>(intro hb;(try simp only [nm] at hb);try (exfalso;omega)))|(refine rg 2 (vV (aN rfl rfl) ?_))|(refine rg 3 (mW rfl (aV ?_)))|(refine rg 4 (eG rfl (mW rfl (vV (ix T rfl (by omega) (lL l) hg) (lW T rfl (vV (by exact eS rfl rfl hc rfl (by simp [AV.idfL,AV.idf,hi]) rfl) ?_))))))|(refine rg 6 (vV (bF rfl rfl (by omega) (by omega)) (mV ?_)))|refine nZ ?_));all_goals first | (exfalso;omega) | exact ⟨⟨k + 1,hlt,he⟩,by dsimp only;omega,⟨[],rfl,⟨rfl,by rw [kZ hi];rfl,rfl,rfl,trivial⟩,trivial,dA,fun _ h => absurd h (dD _)⟩⟩
  · rw [M5 (by omega)] at he
    (repeat' (first|refine wS ?_|refine wR ?_|refine wE ?_|(refine wC rfl ?_ ?_<;>(intro hb;(try simp only [nm] at hb);try (exfalso;omega)))|(refine rg 2 (vV (aN rfl rfl) ?_))|(refine rg 7 (aV ?_))|refine nZ ?_));all_goals first | (exfalso;omega) | exact eC (.inl rfl) rfl (by rw [he];rfl)
theorem XF {l : List G} {F : FuncId} {caps : List AV} {p : G → Bool} (hl : l.length ≤ 1000000) (hi : AV.idfL caps = true) (hF : ∀ x,x ∈ l → aQ Tryz.prog F (.agg (gA x) :: caps) [] (.b (p x)) []) :
    aQ Tryz.prog 43 [.rowE (gZ l) 2,.clo (.func F) [] caps] [] (.b (l.any p)) [] := by
  have hc := VV hl hi hF;rw [← zF p l 0];refine bK T Tryz.func43 rfl rfl rfl rfl ?_
  (repeat' (first|refine wS ?_|refine wR ?_|(refine rg 0 (aV ?_))|(refine rg 1 (eG rfl (vV (by exact eS rfl rfl hc rfl (by simp [AV.idfL,AV.idf,hi]) rfl) ?_));refine vV (kR rfl rfl) (aV ?_))|refine nZ ?_));all_goals first | (exfalso;omega) | exact rQ
theorem ZX {l : List Int} {F : FuncId} {caps : List AV} {p : Int → Bool} (hl : l.length ≤ 1000000) (hi : AV.idfL caps = true) (hF : ∀ x,x ∈ l → aQ Tryz.prog F (.i x :: caps) [] (.b (p x)) []) :
    aQ Tryz.prog 100 [.rowE (ints l) 1,.clo (.func F) [] caps] [] (.i (qK p l 0)) [] := by
  have hlen : (ints l).length = l.length := bN _;refine bK T Tryz.func100 rfl rfl rfl rfl ?_
  (repeat' (first|refine wS ?_|refine wB ?_|(refine rg 0 (aV ?_))|(refine rg 1 (mW rfl (qW T rfl (mV ?_))))|refine nZ ?_));refine cT (X := {k : Nat // k ≤ l.length ∧ qK p l 0 = qK p (l.drop k) k}) (fun k => [(0,.rowE (ints l) 1),(1,.clo (.func F) [] caps),(7,.i (ints l).length),(8,.i k.1)]) (fun _ => []) (fun k => l.length - k.1) ⟨0,by simp,rfl⟩ ⟨[],rfl,⟨rfl,by rw [kZ hi];rfl,rfl,rfl,trivial⟩,trivial,dA,fun _ h => absurd h (dD _)⟩ ?_
  rintro ⟨k,hk,he⟩;dsimp only;by_cases hlt : k < l.length
  · have hc := hF l[k] (aK hlt);have hg := HR (l := l) hlt;rw [Y7 hlt] at he;generalize l[k] = y at *;cases hp : p y with
    | true =>
      rw [hp] at hc;rw [hp,if_pos rfl] at he
      (repeat' (first|refine wS ?_|refine wB ?_|refine wK ?_|refine wR ?_|refine wT ?_|(refine wC rfl ?_ ?_<;>(intro hb;(try simp only [nm] at hb);try (exfalso;omega)))|(refine rg 2 (vV (aN rfl rfl) ?_))|(refine rg 3 (mW rfl (aV ?_)))|(refine rg 4 (eG rfl (mW rfl (vV (ix T rfl (by omega) (cP l) hg) (lW T rfl (vV (by exact eS rfl rfl hc rfl (by simp [AV.idfL,AV.idf,hi]) rfl) ?_))))))|(refine rg 5 (mW rfl (aV ?_)))|refine nZ ?_));all_goals first | (exfalso;omega) | exact eC (.inl rfl) rfl (by rw [he];rfl)
    | false =>
      rw [hp] at hc;rw [hp,if_neg (by simp)] at he
      (repeat' (first|refine wS ?_|refine wB ?_|refine wK ?_|refine wU ?_|(refine wC rfl ?_ ?_<;>(intro hb;(try simp only [nm] at hb);try (exfalso;omega)))|(refine rg 2 (vV (aN rfl rfl) ?_))|(refine rg 3 (mW rfl (aV ?_)))|(refine rg 4 (eG rfl (mW rfl (vV (ix T rfl (by omega) (cP l) hg) (lW T rfl (vV (by exact eS rfl rfl hc rfl (by simp [AV.idfL,AV.idf,hi]) rfl) ?_))))))|(refine rg 6 (vV (bF rfl rfl (by omega) (by omega)) (mV ?_)))|refine nZ ?_));all_goals first | (exfalso;omega) | exact ⟨⟨k + 1,hlt,he⟩,by dsimp only;omega,⟨[],rfl,⟨rfl,by rw [kZ hi];rfl,rfl,rfl,trivial⟩,trivial,dA,fun _ h => absurd h (dD _)⟩⟩
  · rw [M5 (by omega)] at he
    (repeat' (first|refine wS ?_|refine wR ?_|refine wE ?_|(refine wC rfl ?_ ?_<;>(intro hb;(try simp only [nm] at hb);try (exfalso;omega)))|(refine rg 2 (vV (aN rfl rfl) ?_))|(refine rg 7 (aV ?_))|refine nZ ?_));all_goals first | (exfalso;omega) | exact eC (.inl rfl) rfl (by rw [he];rfl)
theorem OY {l : List Int} {F : FuncId} {caps : List AV} {p : Int → Bool} (hl : l.length ≤ 1000000) (hi : AV.idfL caps = true) (hF : ∀ x,x ∈ l → aQ Tryz.prog F (.i x :: caps) [] (.b (p x)) []) :
    aQ Tryz.prog 53 [.rowE (ints l) 1,.clo (.func F) [] caps] [] (.b (l.any p)) [] := by
  have hc := ZX hl hi hF;rw [← zF p l 0];refine bK T Tryz.func53 rfl rfl rfl rfl ?_
  (repeat' (first|refine wS ?_|refine wR ?_|(refine rg 0 (aV ?_))|(refine rg 1 (eG rfl (vV (by exact eS rfl rfl hc rfl (by simp [AV.idfL,AV.idf,hi]) rfl) ?_));refine vV (kR rfl rfl) (aV ?_))|refine nZ ?_));all_goals first | (exfalso;omega) | exact rQ
end Go.Proofs.YtbialaoigijlgaaGreatDoor
namespace Go.Ab
open Go
def nS (L : List Nat) (pos k : Nat) : Nat := match L[k]? with
  | some j => j
  | none => pos
theorem HS.callP {c : mR} {ρ ρ' : Pl} {S S' : Nat → Prop} {H hin hout : Hp} {w w' : World} {L : List Nat} {pos : Nat} {b1 : AB} (s : HS c ρ S H w) (hL : L.length = hin.length) (hnd : L.Nodup) (hh : qU (th L H.length) H 0 hin) (hng : ∀ b, b ∈ hin → b ≠ .gone)
    (hlen : hout.length = hin.length) (hp0 : ρ pos = Option.none) (hp1 : H[pos]? = some .gone) (hpm : c.m ≤ pos)
    (hs : HS (mG w (fun k => ρ (th L H.length k)) S hin) ρ' S' (hout ++ [b1]) w') :
    ∃ ρ3 : Pl,HS c ρ3 S' ((vC H L (hout.map (AB.map (nS L pos)))).set pos (b1.map (nS L pos))) w' ∧ gM ρ ρ3 S S' w w' ∧ (∀ {x : AV} {y : Value},R S' w' x ρ' y → R S' w' (x.map (nS L pos)) ρ3 y) ∧ ∀ j,j ≠ pos → ρ3 j = ρ j := by
  have hin_at : ∀ {i : Nat} {b : AB},hin[i]? = some b → ∃ j,L[i]? = some j ∧ j < H.length ∧ H[j]? = some (b.map (th L H.length)) ∧ b.map (th L H.length) ≠ .gone := fun {i b} hb => by
    have hne := hng b (aJ hb);have hlt : i < L.length := by rw [hL];exact (aA.1 hb).1
    have hj := aB hlt;have hth : th L H.length i = L[i] := by simp [th,hj]
    rcases hh.get i b hb with hg | hg
    · exact absurd hg hne
    · rw [Nat.zero_add,hth] at hg;exact ⟨L[i],hj,(aA.1 hg).1,hg,by cases b <;> simp [AB.map] at * ⟩
  have thL : ∀ {i j : Nat},L[i]? = some j → th L H.length i = j := fun hi => by simp [th,hi]
  have keep : ∀ {i j : Nat},i < hin.length → L[i]? = some j → ρ' i = ρ j := fun {i j} hi hj => by
    have := hs.keep i hi;simp only [mG] at this;rw [this,thL hj]
  have hM : ∀ b,(mG w (fun k => ρ (th L H.length k)) S hin).M b → w.heap.size ≤ b ∨ ∃ (i j : Nat) (o : Nat) (x : AB),hin[i]? = some x ∧ L[i]? = some j ∧ ρ j = some (b,o) := fun b hb => by
    rcases hb with hb | ⟨k,x,o,hb,_,hp⟩
    · exact .inl hb
    · obtain ⟨j,h3,_⟩ := hin_at hb;exact .inr ⟨k,j,o,x,hb,h3,by rw [← thL h3];exact hp⟩
  have hcM : ∀ b,(mG w (fun k => ρ (th L H.length k)) S hin).M b → c.M b := fun b hb => by
    rcases hM b hb with hb | ⟨i,j,o,x,h3,h4,h5⟩
    · exact c.new b (bX s.ext.size hb)
    · obtain ⟨j',h6,_,h7,h8⟩ := hin_at h3;rw [h4] at h6;cases h6;exact (s.live j _ _ h7 h8 h5).1
  have hlow : ∀ b,b < w.heap.size → (mG w (fun k => ρ (th L H.length k)) S hin).M b → ∃ (i j : Nat) (o : Nat) (x : AB),hin[i]? = some x ∧ L[i]? = some j ∧ ρ j = some (b,o) := fun b hlt hb => by
    rcases hM b hb with hb | hb
    · omega
    · exact hb
  have other : ∀ {k : Nat} {b : AB} {q : Nat × Nat},H[k]? = some b → b ≠ .gone → k ∉ L → ρ k = some q → ¬ (mG w (fun k => ρ (th L H.length k)) S hin).M q.1 := fun {k b q} hb hg hkL hq hm => by
    obtain ⟨i,j,o,x,h3,h4,h5⟩ := hlow q.1 (s.rng k q hq) hm;obtain ⟨j',h6,_,h7,h8⟩ := hin_at h3;rw [h4] at h6;cases h6;have := s.inj k j _ _ q _ hb h7 hg h8 hq h5 rfl;subst this;exact hkL (aJ h4)
  have stM : ∀ b,S b → ¬ (mG w (fun k => ρ (th L H.length k)) S hin).M b := fun b hb hm => by
    obtain ⟨i,j,o,x,h3,h4,h5⟩ := hlow b (s.stab b hb) hm;obtain ⟨j',h6,_,h7,h8⟩ := hin_at h3;rw [h4] at h6;cases h6;exact (s.live j _ _ h7 h8 h5).2 hb
  have same : ∀ b,b < w.heap.size → ¬ (mG w (fun k => ρ (th L H.length k)) S hin).M b → w'.heap[b]? = w.heap[b]? := fun b hb hm => hs.ext.same b hb hm
  have hposL : pos ∉ L := fun hm => by
    obtain ⟨i,hi⟩ := BA.1 hm;have hlt : i < hin.length := by rw [← hL];exact (aA.1 hi).1
    obtain ⟨j,h3,_,h4,h5⟩ := hin_at (aB hlt);rw [hi] at h3;cases h3;rw [hp1] at h4;exact h5 (Option.some.inj h4).symm
  have hposH : pos < H.length := (aA.1 hp1).1
  let ρ3 : Pl := fun j => if j = pos then ρ' hin.length else ρ j
  have r3p : ρ3 pos = ρ' hin.length := if_pos rfl;have r3o : ∀ j,j ≠ pos → ρ3 j = ρ j := fun j hj => if_neg hj
  have l : gM ρ ρ3 S S' w w' := by
    refine ⟨fun k q hq => ?_,hs.st0,fun b hb => same b (s.stab b hb) (stM b hb),fun _ _ _ _ _ hr => hs.ext.room hr⟩
    rw [r3o k (fun e => by rw [e,hp0] at hq;cases hq)];exact hq
  have pl : ∀ k q,ρ' k = some q → ρ3 (nS L pos k) = some q := fun k q hq => by
    by_cases hk : k < hin.length
    · obtain ⟨j,h3,_,_⟩ := hin_at (aB hk);have hbk : nS L pos k = j := by simp [nS,h3]
      have hjp : j ≠ pos := fun e => hposL (e ▸ aJ h3);rw [hbk,r3o j hjp,← keep hk h3];exact hq
    · by_cases hk2 : k = hin.length
      · have hbk : nS L pos k = pos := by unfold nS;rw [cD (by omega)]
        rw [hbk,r3p,← hk2];exact hq
      · have := hs.dom k (by rw [aD,hlen,List.length_singleton];omega)
        rw [this] at hq;cases hq
  have shift : ∀ {x : AV} {y : Value},R S' w' x ρ' y → R S' w' (x.map (nS L pos)) ρ3 y := fun {x y} hx => D0 _ _ x y (lO (fun _ h => h) (fun _ _ => rfl) x ρ' _ y pl (fun _ _ _ _ _ h => h) hx);have shiftB : ∀ {b : AB} {pp},RB S' w' ρ' pp b → RB S' w' ρ3 pp (b.map (nS L pos)) := fun {b pp} hb => AZ _ _ (RB.later (ρ := ρ') (S := S') ⟨pl,fun _ h => h,fun _ _ => rfl,fun _ _ _ _ _ h => h⟩ (fun _ _ _ => rfl) hb);have get : ∀ {k : Nat} {b : AB},((vC H L (hout.map (AB.map (nS L pos)))).set pos (b1.map (nS L pos)))[k]? = some b →
      (k ≠ pos ∧ k ∉ L ∧ H[k]? = some b) ∨ (∃ (i : Nat) (b' : AB),(hout ++ [b1])[i]? = some b' ∧ b = b'.map (nS L pos) ∧ nS L pos i = k ∧ ρ3 k = ρ' i) := fun {k b} hb => by
    rw [gH] at hb;by_cases hk : pos = k
    · rw [if_pos hk,if_pos (by rw [jG];exact hposH)] at hb
      cases hb;refine .inr ⟨hin.length,b1,by rw [← hlen];simp,rfl,?_,by rw [← hk];exact r3p⟩
      unfold nS;rw [cD (by omega)]
      exact hk
    · rw [if_neg hk] at hb;by_cases hkL : k ∈ L
      · obtain ⟨i,hi⟩ := BA.1 hkL;have hiL : i < hin.length := by rw [← hL];exact (aA.1 hi).1
        have hb' := aB (l := hout) (i := i) (by omega)
        have hkl : k < H.length := by
          have := (aA.1 hb).1
          rwa [jG] at this
        rw [W8 (b := (hout[i]'(by omega)).map (nS L pos)) hnd hi (by simp [hb']) hkl] at hb
        simp only [Option.some.injEq] at hb;exact .inr ⟨i,_,by rw [aF (by omega)];exact hb',hb.symm,by simp [nS,hi],by rw [r3o k (fun e => hk e.symm)];exact (keep hiL hi).symm⟩
      · rw [tC _ _ _ hkL] at hb;exact .inl ⟨fun e => hk e.symm,hkL,hb⟩
  have mapg : ∀ {θ : Nat → Nat} {b : AB},b.map θ ≠ .gone → b ≠ .gone := fun hb e => hb (by rw [e];rfl)
  refine ⟨ρ3,⟨fun k hk => ?_,fun k q hq => ?_,fun k b hb => ?_,fun k b q hb hg hq => ?_,fun k k' b b' q q' hb hb' hg hg' hq hq' e => ?_,hs.stab,s.ext.trans hs.ext (fun b hb hlt => hcM b hb),fun b hb => hs.st0 b (s.st0 b hb),fun b hb => ?_,?_,fun k hk => ?_,hs.glob⟩,l,shift,r3o⟩
  · rw [fR,jG] at hk;rw [r3o k (by omega)]
    exact s.dom k hk
  · by_cases hk : k = pos
    · rw [hk,r3p] at hq;exact hs.rng _ q hq
    · rw [r3o k hk] at hq;exact dC (s.rng k q hq) hs.ext.size
  · rcases get hb with ⟨h3,h4,h5⟩ | ⟨i,b',h3,rfl,h4,h5⟩
    · rw [r3o k h3];by_cases hg : b = .gone
      · subst hg;trivial
      · exact RB.later l (fun b1 o1 hp => same b1 (s.rng k _ hp) (other h5 hg h4 hp)) (s.blk k b h5)
    · rw [h5];exact shiftB (hs.blk i b' h3)
  · rcases get hb with ⟨h3,h4,h5⟩ | ⟨i,b',h3,rfl,h4,h5⟩
    · rw [r3o k h3] at hq;obtain ⟨h7,h8⟩ := s.live k b q h5 hg hq;refine ⟨h7,fun hs' => ?_⟩
      rcases hs.st1 _ hs' with h9 | h9
      · exact h8 h9
      · exact other h5 hg h4 hq h9
    · rw [h5] at hq;obtain ⟨h7,h8⟩ := hs.live i b' q h3 (mapg hg) hq;exact ⟨hcM _ h7,h8⟩
  · rcases get hb with ⟨h3,h4,h5⟩ | ⟨i,b1,h3,rfl,h4,h5⟩ <;> rcases get hb' with ⟨h3',h4',h5'⟩ | ⟨i',b1',h3',rfl,h4',h5'⟩
    · rw [r3o k h3] at hq;rw [r3o k' h3'] at hq';exact s.inj k k' b b' q q' h5 h5' hg hg' hq hq' e
    · rw [r3o k h3] at hq;rw [h5'] at hq';have hl := (hs.live i' b1' q' h3' (mapg hg') hq').1;rw [← e] at hl;exact absurd hl (other h5 hg h4 hq)
    · rw [r3o k' h3'] at hq';rw [h5] at hq;have hl := (hs.live i b1 q h3 (mapg hg) hq).1;rw [e] at hl;exact absurd hl (other h5' hg' h4' hq')
    · rw [h5] at hq;rw [h5'] at hq';have := hs.inj i i' b1 b1' q q' h3 h3' (mapg hg) (mapg hg') hq hq' e;subst this;rw [← h4,← h4']
  · rcases hs.st1 b hb with hb' | hb'
    · exact s.st1 b hb'
    · exact .inr (hcM b hb')
  · rw [fR,jG];exact s.mle
  · rw [r3o k (by omega)]
    exact s.keep k hk
theorem qU.up {θ : Nat → Nat} {h H : Hp} (hb : ∀ (j : Nat) b, h[j]? = some b → b ≠ .gone → H[j]? = some b) : ∀ {hin : Hp} {i : Nat}, (∀ b, b ∈ hin → b ≠ .gone) → qU θ h i hin → qU θ H i hin
  | [],_,_,_ => trivial
  | b :: r,i,hng,hs => by
    refine ⟨?_,qU.up hb (fun x hx => hng x (aY _ hx)) hs.2⟩;rcases hs.1 with h1 | h1
    · exact .inl h1
    · refine .inr (hb _ _ h1 ?_);have := hng b bB;cases b <;> simp [AB.map] at *
section
variable {P : Program} {env : dI} {h : Hp} {d : Option Nat} {ty : TypeId} {pos : String} {af : Array Edge}
theorem EF (L : List Nat) {pp k : Nat} {nb b1 u1 : AB} {uu : AV} {dd : Nat} {x : Operand} {f : FuncId} {fs cs us xs : List AV} {args : List Operand} {ats : Array TypeId} {res : AV} {hin hout : Hp} (hx : evu env x = some (.clo (.func f) fs cs)) (ha : yG env args = some us)
    (hc : aQ P f xs hin res (hout ++ [b1])) (hxs : ∀ N,fs ++ us ++ cs = AV.mapL (th L N) xs) (hL : L.length = hin.length) (hnd : L.Nodup) (hh : ∀ N,qU (th L N) h 0 hin) (hng : ∀ b,b ∈ hin → b ≠ .gone) (hlen : hout.length = hin.length)
    (hput : ∀ H : Hp,(∀ (j : Nat) b,h[j]? = some b → b ≠ .gone → H[j]? = some b) → vC H L (hout.map (AB.map (nS L pp))) = H.set k nb) (hu : res.map (nS L pp) = uu) (hb1 : b1.map (nS L pp) = u1) :
    jI P ⟨some dd,.call { callee := .value x,args := args.toArray,argTypes := ats },ty,pos,af,none⟩ env h pp k nb uu [u1] := by
  intro c ρ S a w H g p hbel hpp K' Q hK';obtain ⟨hr0,hH0,hm0⟩ : ρ pp = none ∧ H[pp]? = some .gone ∧ c.m ≤ pp := by
    rcases hpp with h0 | h0
    · cases h0
    · exact h0
  have hxv := p.evu hx;simp only [R] at hxv;obtain ⟨ys,zs,e1,h1,h2⟩ := hxv;have hall : RL S w (fs ++ us ++ cs) ρ (ys.toList ++ args.map a.eval ++ zs.toList) := hC (hC h1 (rF p ha)) h2;rw [hxs H.length] at hall;have hargs := nO (th L H.length) ρ _ _ hall;obtain ⟨hf,hc⟩ := hc;have hsub := qU.up hbel hng (hh H.length);have hs0 := g.hand hL hnd hsub;have hcall := hc _ S w _ hs0 hargs;unfold Oper.wp;have hrun : (execOp a.eval ⟨some dd,.call { callee := .value x,args := args.toArray,argTypes := ats },ty,pos,af,none⟩).run P w = .ok (.enter f (ys.toList ++ args.map a.eval ++ zs.toList).toArray) w := by
    have e2 : (ys ++ (args.toArray.map a.eval) ++ zs) = (ys.toList ++ args.map a.eval ++ zs.toList).toArray := by
      apply Array.ext';simp
    simp only [execOp,resolve,e1,Deferred.ofValue,Sem.run_bind,Sem.run_pure,Result.andThen_ok,invoke];rw [e2];exact uY hf
  rw [hrun];simp only [Oper.upon];refine hcall.mono ?_;rintro e w' ⟨y,ρ',S',rfl,hs,hy⟩;simp only;obtain ⟨ρ3,g1,g2,g3,g4⟩ := g.callP hL hnd hsub hng hlen hr0 hH0 hm0 hs;rw [hput H hbel,hb1] at g1;exact hK' _ ρ3 S' w' g1 g2 (hu ▸ g3 hy) (fun j hj => g4 j (hj (by simp)))
end
theorem nU.freezeP {n : Nat × Nat} {c : mR} {ρ : Pl} {S : Nat → Prop} {env : dI} {h : Hp} {a : Act} {w : World} {t k off : Nat} {cs : List AV} (s : nU n c ρ S env h a w) (ht : look env t = some (.ptr k off)) (hk : h[k]? = some (.cells cs)) (hi : AV.idfL cs = true) :
    nU n c ρ (fun b => S b ∨ ∃ o,ρ k = some (b,o)) ((t,.pr cs off) :: env) (h.set k .gone) a w := by
  refine ⟨s.size,s.defers.st (fun _ h => .inl h),fun t' x hx => ?_,s.hs.freezeC hk (by simp),s.cm⟩
  rw [gE] at hx;split at hx
  · rename_i e;subst e;cases hx;exact DI hi (s.hs.blk k _ hk) (s.env t _ ht)
  · exact RG (fun _ h => .inl h) (s.env t' x hx)
theorem AU {S S' : Nat → Prop} {w : World} {ρ : Pl} {x x' : AV} (hS : ∀ b, S b → S' b) (hx : ∀ y, R S w x ρ y → R S' w x' ρ y) : ∀ {cs : List AV} {f : Nat}, cs[f]? = some x → ∀ {ys : List Value}, RL S w cs ρ ys → RL S' w (cs.set f x') ρ ys
  | [],f,hf,ys,h => by simp at hf
  | c :: cs,0,hf,ys,h => by
    simp only [dQ,Option.some.injEq] at hf;subst hf;simp only [RL,List.set_cons_zero] at h ⊢;obtain ⟨y,zs,e,h1,h2⟩ := h;exact ⟨y,zs,e,hx y h1,RI hS h2⟩
  | c :: cs,f + 1,hf,ys,h => by
    simp only [iV] at hf;simp only [RL,List.set_cons_succ] at h ⊢;obtain ⟨y,zs,e,h1,h2⟩ := h;exact ⟨y,zs,e,RG hS h1,AU hS hx hf h2⟩
theorem nU.freezeIn {n : Nat × Nat} {c : mR} {ρ : Pl} {S : Nat → Prop} {env : dI} {h : Hp} {a : Act} {w : World} {j f k len sz : Nat} {cs : List AV} {es : List (List AV)} (s : nU n c ρ S env h a w) (hj : h[j]? = some (.cells cs)) (hf : cs[f]? = some (.sl k 0 len sz)) (hk : h[k]? = some (.arr es sz)) (hn : len = es.length) (hi : AV.idfL es.flatten = true) :
    nU n c ρ (fun b => S b ∨ ∃ o,ρ k = some (b,o)) env ((h.set k .gone).set j (.cells (cs.set f (.rowE es sz)))) a w := by
  have hne : j ≠ k := by rintro rfl;rw [hj] at hk;cases hk
  have h1 := s.hs.freeze hk;have hj' : (h.set k .gone)[j]? = some (.cells cs) := by rw [iU (Ne.symm hne)];exact hj
  refine ⟨s.size,s.defers.st (fun _ h => .inl h),fun t' x hx => RG (fun _ h => .inl h) (s.env t' x hx),h1.alter hj' (fun _ => ?_) (by simp),s.cm⟩
  have hb := s.hs.blk j _ hj;simp only [RB] at hb ⊢;obtain ⟨b,o,ys,e1,e2,e3⟩ := hb;refine ⟨b,o,ys,e1,e2,AU (fun _ h => .inl h) (fun y hy => ?_) hf e3⟩;rw [hn] at hy;exact zN hi (s.hs.blk k _ hk) hy
section
variable {P : Program} {n : Nat × Nat} {ops : Array Oper} {env : dI} {h : Hp} {K : dI → Hp → Prop} {rest : List Oper} {Q : Exit → dI → Hp → Prop} {code : Code}
theorem fJ (t : Nat) {k off : Nat} {cs : List AV} (ht : look env t = some (.ptr k off)) (hk : h[k]? = some (.cells cs)) (hi : AV.idfL cs = true) (hv : AW P n code ((t,.pr cs off) :: env) (h.set k .gone) Q) : AW P n code env h Q :=
  fun c ρ S a w QQ s hQ => hv c ρ _ a w QQ (s.freezeP ht hk hi) hQ
theorem lX (j f : Nat) {k len sz : Nat} {cs : List AV} {es : List (List AV)} (hj : h[j]? = some (.cells cs)) (hf : cs[f]? = some (.sl k 0 len sz)) (hk : h[k]? = some (.arr es sz)) (hn : len = es.length) (hi : AV.idfL es.flatten = true) (hv : AW P n code env ((h.set k .gone).set j (.cells (cs.set f (.rowE es sz)))) Q) : AW P n code env h Q :=
  fun c ρ S a w QQ s hQ => hv c ρ _ a w QQ (s.freezeIn hj hf hk hn hi) hQ
end
theorem HS.snocG {c : mR} {ρ : Pl} {S : Nat → Prop} {H : Hp} {w : World} (s : HS c ρ S H w) : HS c ρ S (H ++ [.gone]) w := by
  have get : ∀ {k : Nat} {b : AB},(H ++ [AB.gone])[k]? = some b → b ≠ .gone → H[k]? = some b := fun {k b} hb hg => by
    by_cases hk : k < H.length
    · rwa [aF hk] at hb
    · rw [aE (by omega)] at hb
      by_cases e : k - H.length = 0
      · rw [e] at hb;simp at hb;exact absurd hb.symm hg
      · rw [cD (by simp;omega)] at hb;cases hb
  refine ⟨fun k hk => s.dom k (by simp at hk;omega),s.rng,fun k b hb => ?_,fun k b q hb hg hq => s.live k b q (get hb hg) hg hq,fun k k' b b' q q' hb hb' hg hg' hq hq' e => s.inj k k' b b' q q' (get hb hg) (get hb' hg') hg hg' hq hq' e,s.stab,s.ext,s.st0,s.st1,by rw [aD];have := s.mle;omega,s.keep,s.glob⟩
  by_cases hg : b = .gone
  · subst hg;trivial
  · exact s.blk k b (get hb hg)
theorem O6 {P : Program} {f : FuncId} {args : List AV} {res : AV} {hin hout : Hp} (h : aQ P f args hin res hout) : aQ P f args hin res (hout ++ [.gone]) := by
  refine ⟨h.1,fun ρ S w vs hs ha => (h.2 ρ S w vs hs ha).mono ?_⟩;rintro e w' ⟨y,ρ',S',rfl,h2,h3⟩;exact ⟨y,ρ',S',rfl,h2.snocG,h3⟩
end Go.Ab
namespace Go.Ab
open Go
set_option maxHeartbeats 1000000
theorem S6 {w : World} {n b off : Nat} {d : List Value} {os : Array Obj} {c : Array Value} {e : TypeId} (hc : w.heap[b]? = some (.cells c e (0,0))) (hb : b < w.heap.size) :
    (Sort.grow (Sort.putRow id (Sort.ahead w n) b off d.toArray) os).heap[b]? = some (.cells (Sort.putCells id off d.toArray c) e (0,0)) := by
  rw [Sort.heap_grow_old _ _ (by rw [Sort.size_putRow];exact hb)]
  unfold Sort.putRow Sort.mapBlock;show (w.heap.modify b _)[b]? = _;rw [lH,if_pos rfl,hc];rfl
theorem CJ {w : World} {n b off : Nat} {d : List Value} {os : Array Obj} {c : Array Value} {e : TypeId} (hc : w.heap[b]? = some (.cells c e (0,0))) (hb : b < w.heap.size) :
    kY (fun x => x = b) w (Sort.grow (Sort.putRow id (Sort.ahead w n) b off d.toArray) os) := by
  have other : ∀ x,x < w.heap.size → x ≠ b → (Sort.grow (Sort.putRow id (Sort.ahead w n) b off d.toArray) os).heap[x]? = w.heap[x]? := fun x hx hne => by
    rw [Sort.heap_grow_old _ _ (by rw [Sort.size_putRow];exact hx)]
    unfold Sort.putRow Sort.mapBlock;show (w.heap.modify b _)[x]? = _;rw [lH,if_neg (Ne.symm hne)]
  refine ⟨rfl,rfl,rfl,by rw [Sort.size_grow,Sort.size_putRow];exact gD _ _,fun x hx hne => other x hx hne,fun x cc ee fz hcc => ?_⟩
  by_cases hx : x = b
  · subst hx;rw [hc] at hcc;cases hcc;exact ⟨_,_,S6 hc hb,by simp [Sort.putCells]⟩
  · exact ⟨cc,fz,by rw [other x (aH.1 hcc).1 hx];exact hcc,rfl⟩
theorem SY {c : mR} {ρ : Pl} {S : Nat → Prop} {es es' : List (List AV)} {sz : Nat} {w w' : World} {b o n : Nat} {ys ys' Z : List Value} (s : HS c ρ S [.arr es sz] w) (hp : ρ 0 = some (b, o)) (hne : es ≠ [])
    (hys : E9 w b o ys) (hl : (ys' ++ Z).length = ys.length) (he : ∀ e,e ∈ es' → e.length = sz) (hr : ∀ S' w',gM ρ ρ S S' w w' → RL S' w' es'.flatten ρ ys')
    (hw : w' = Sort.putRow id (Sort.ahead w n) b o (ys' ++ Z).toArray) : HS c ρ S [.arr es' sz] w' := by
  obtain ⟨_,h0,h3⟩ := s.blk 0 _ rfl;obtain ⟨c,ty,hc,hg⟩ := hys;have hb := (aH.1 hc).1;have hw2 : w' = Sort.grow (Sort.putRow id (Sort.ahead w n) b o (ys' ++ Z).toArray) #[] := by rw [hw,zI]
  have hh : w'.heap[b]? = some (.cells (Sort.putCells id o (ys' ++ Z).toArray c) ty (0,0)) := by rw [hw2];exact S6 hc hb
  obtain ⟨s',_⟩ := s.upd (k := 0) (b0 := .arr es sz) (nb := .arr es' sz) (w' := w') rfl (by simp) hp (by rw [hw2];exact CJ hc hb) (fun l => by
    refine ⟨he,h0,.inr ⟨b,o,ys',rfl,⟨_,ty,hh,fun j y hj => ?_⟩,hr _ _ l⟩⟩
    obtain ⟨hjl,hz⟩ := aA.1 hj;rw [aD] at hl;have hold := hg j (ys[j]'(by omega)) (aB (by omega))
    unfold Sort.putCells;rw [BD,hold];show some (if o ≤ o + j ∧ o + j < o + (ys' ++ Z).toArray.size then _ else _) = _
    have hsz : (ys' ++ Z).toArray.size = ys'.length + Z.length := by simp
    rw [if_pos ⟨by omega,by omega⟩]
    congr 1;rw [show o + j - o = j by omega,getElem!_pos _ j (by omega)]
    show (ys' ++ Z).toArray[j]'_ = y
    rw [wG,List.getElem_append_left hjl];exact hz)
  exact s'
theorem KV {es : List (List AV)} {sz : Nat} (h : ∀ e,e ∈ es → e.length = sz) (m : Nat) : (es.drop m).flatten = es.flatten.drop (m * sz) := by
  induction es generalizing m with
  | nil => simp
  | cons a l ih =>
    have ha := h a bB;cases m with
    | zero => simp
    | succ m =>
      rw [List.drop_succ_cons,dU,ih (fun e he => h e (aY _ he)),List.drop_append];rw [cQ (l := a) (by rw [ha,eL];omega),ha,eL,EO,LO,List.nil_append]
theorem RJ {S : Nat → Prop} {w : World} {ρ : Pl} : ∀ {xs as_ : List AV} {ys bs : List Value}, RL S w xs ρ ys → RL S w as_ ρ bs → RL S w (xs ++ as_) ρ (ys ++ bs)
  | [],as_,ys,bs,h,h' => by simp only [RL] at h;subst h;exact h'
  | x :: xs,as_,ys,bs,h,h' => by
    simp only [RL] at h;obtain ⟨y,zs,rfl,h1,h2⟩ := h;exact ⟨y,zs ++ bs,rfl,h1,RJ h2 h'⟩
theorem IR {S : Nat → Prop} {w : World} {ρ : Pl} : ∀ {xs : List AV} {ys : List Value}, RL S w xs ρ ys → xs.all AV.one = true → ∀ u, u ∈ ys → u.oneCell' = true
  | [],ys,h,_,u,hu => by simp only [RL] at h;subst h;cases hu
  | x :: xs,ys,h,h1,u,hu => by
    simp only [RL] at h;obtain ⟨y,zs,rfl,h2,h3⟩ := h;simp only [qS,aP] at h1;rcases bY.1 hu with rfl | hu
    · exact X7 h2 h1.1
    · exact IR h3 h1.2 u hu
theorem xJ {P : Program} {f : FuncId} {sz : Nat} (hfn : ∃ fn, P.funcs[f]? = some fn ∧ (fn.name == "runtime.NumGoroutine") = false ∧ fn.body.isNone = false)
    (hs : ∀ (blk off cap len i j : Nat) (cs : List Value) (w : World),cs.length = len * sz → Sort.Holds id w blk off cs.toArray → (∀ u,u ∈ cs → u.oneCell' = true) → len ≤ cap → cap ≤ 9223372036854775807 → i ≤ j → j ≤ len →
      Calls P f #[.slice (some ⟨blk,off,none⟩) len cap,.int .i64 i,.int .i64 j] w fun e w' => e = .returned (.slice (some ⟨blk,off,none⟩) (len - (j - i)) cap) ∧ ∃ (q : Nat) (Z : List Value),Z.length = (j - i) * sz ∧ w' = Sort.putRow id (Sort.ahead w q) blk off (cs.take (i * sz) ++ cs.drop (j * sz) ++ Z).toArray)
    (es : List (List AV)) (hes : ∀ e,e ∈ es → e.length = sz) (h1 : es.flatten.all AV.one = true) (i j : Nat) (hij : i ≤ j) (hj : j ≤ es.length) (hne : es ≠ []) :
    aQ P f [.sl 0 0 es.length sz,.i (i : Int),.i (j : Int)] [.arr es sz] (.sl 0 0 (es.length - (j - i)) sz) [.arr (es.take i ++ es.drop j) sz] := by
  refine ⟨hfn,fun ρ S w vs s hv => ?_⟩
  simp only [RL] at hv;obtain ⟨y,_,rfl,hy,y2,_,rfl,hy2,y3,_,rfl,hy3,rfl⟩ := hv;simp only [R] at hy hy2 hy3;subst hy2 hy3;obtain ⟨a,cap,rfl,hcap,hy⟩ := hy;have hl0 : 0 < es.length := dZ.2 hne;rcases hy with ⟨h0,_⟩ | ⟨b,o,hp,ha,hcl,hrm⟩
  · omega
  · obtain ⟨_,hs0,hB⟩ := s.blk 0 _ rfl;rcases hB with hB | ⟨b',o',ys,h4,h5,h6⟩
    · exact absurd hB.1 hne
    · rw [hp] at h4;cases h4;rw [Q8,Nat.add_zero] at ha;subst ha;have hmax : maxLen ≤ 9223372036854775807 := by decide
      have hyl : ys.length = es.length * sz := by rw [fH h6,eZ hes]
      obtain ⟨cc,ct,hcc,hcg⟩ := h5;have hH : Sort.Holds id w b o ys.toArray := fun t ht => by
        have ht' : t < ys.length := by simpa using ht
        have h7 := hcg t ys[t] (aB ht');refine ⟨?_,?_⟩
        · show w.cell? ⟨b,o + t,none⟩ = some (ys.toArray[t]!);rw [getElem!_pos _ t ht];simp only [World.cell?,hcc];rw [wG];exact h7
        · simp [World.frozen?,hcc]
      refine (hs b o cap es.length i j ys w hyl hH (IR h6 h1) hcl (by omega) hij hj).mono fun e w' ⟨he,q,Z,hZ,hw⟩ => ?_
      subst he;have hil : i * sz ≤ j * sz := gL _ hij;have hjl : j * sz ≤ es.length * sz := gL _ hj;have hsub : (j - i) * sz = j * sz - i * sz := Nat.sub_mul _ _ _;have s' := SY (es' := es.take i ++ es.drop j) (ys := ys) (ys' := ys.take (i * sz) ++ ys.drop (j * sz)) (Z := Z) (n := q) s hp hne ⟨cc, ct, hcc, hcg⟩ (by simp only [aD, aU, dB, hZ]; omega)
        (fun e he => by rcases bQ.1 he with he | he;exact hes e (eD he);exact hes e (eV he))
        (fun S' w' l => by
          rw [fO,mF hes,KV hes]
          exact RJ (oR (h6.later l) _) (uD (h6.later l) _)) hw
      have hsz0 := hs0;refine ⟨_,ρ,S,rfl,s',?_⟩;simp only [R];refine ⟨_,cap,rfl,hcap,.inr ⟨b,o,hp,by simp,by omega,?_⟩⟩
      rw [hw];have hb := (aH.1 hcc).1;have hw2 : Sort.putRow id (Sort.ahead w q) b o (ys.take (i * sz) ++ ys.drop (j * sz) ++ Z).toArray = Sort.grow (Sort.putRow id (Sort.ahead w q) b o (ys.take (i * sz) ++ ys.drop (j * sz) ++ Z).toArray) #[] := by rw [zI]
      rw [hw2];exact (CJ hcc hb).room hrm
theorem K5 {P : Program} (w : World) (t e ty : TypeId) (z : Value) (ht : P.underlying t = some (.slice e)) (hv : ∀ w, (zeroValue e).run P w = .ok z w) (hz : z.cells.toList ≠ []) (h1 : ∀ u, u ∈ z.cells.toList → u.oneCell' = true) (b o n c : Nat) (hn : 0 < n)
    (hc : ∀ j,j < n * z.cells.toList.length → (w.cell? ⟨b,o + j,none⟩).isSome = true) (hf : ∀ j,j < n * z.cells.toList.length → w.frozen? ⟨b,o + j,none⟩ = false) :
    (Builtin.clear_ #[t] ty #[.slice (some ⟨b,o,none⟩) n c]).run P w = .ok (.tuple #[]) (w.setCells b o (Builtin.zeroCells z.cells n).toList) := by
  obtain ⟨hm,hl⟩ := nY (z := z.cells) rfl hz n;have hst := run_storeCells_cells (P := P) b o (Builtin.zeroCells z.cells n).toList 0 w (fun j hj => by simpa using hc j (by omega)) (fun j hj => by simpa using hf j (by omega)) (fun v hv' => h1 v (hm v hv'))
  simp only [Nat.add_zero] at hst;obtain ⟨m,rfl⟩ : ∃ m,n = m + 1 := ⟨n - 1,by omega⟩
  simp [Builtin.clear_,run_underlying ht,hv,hst]
end Go.Ab
namespace Go.Proofs.YtbialaoigijlgaaGreatDoor
open Go Go.Ab Go.Ld Go.Lib Go.Sort Go.RowKit Go.Shelf
theorem F5 (d : List Value) (i j : Nat) (Z : List Value) (hij : i ≤ j) (hj : j ≤ d.length) (hZ : Z.length = j - i) :
    lay (lay d.toArray i (d.drop j)) (i + (d.length - j)) Z = (d.take i ++ d.drop j ++ Z).toArray := by
  apply Array.ext_getElem?;intro t;have l1 : (d.take i).length = i := by simp;omega
  have l2 : (d.drop j).length = d.length - j := by simp
  rw [lay_get? _ _ _ _ (by rw [lay_size];simp;omega),lay_get? _ _ _ _ (by rw [l2];simp;omega),show (d.take i ++ d.drop j ++ Z).toArray[t]? = (d.take i ++ d.drop j ++ Z)[t]? from fZ]
  simp only [hZ,l2];by_cases c1 : t < i
  · rw [if_neg (by omega),if_neg (by omega),aF (by simp;omega),aF (by omega),bM,if_pos c1,fZ]
  · by_cases c2 : t < i + (d.length - j)
    · rw [if_neg (by omega),if_pos (by omega),aF (by simp;omega),aE (by omega),l1]
    · rw [aE (by simp;omega)]
      simp only [aD,l1,l2];by_cases c3 : t < d.length
      · rw [if_pos (by omega)]
      · rw [if_neg (by omega),if_neg (by omega),Array.getElem?_eq_none (by simp;omega),cD (by omega)]
set_option maxHeartbeats 4000000 in
set_option maxRecDepth 1000000 in
theorem UR (blk off cap len i j : Nat) (cs : List Value) (w : World) (hcl0 : cs.length = len * 2) (hH : Holds id w blk off cs.toArray) (h1 : ∀ u,u ∈ cs → u.oneCell' = true) (hcap : len ≤ cap) (hm : cap ≤ 9223372036854775807) (hij : i ≤ j) (hj : j ≤ len) :
    Calls Tryz.prog 124 #[.slice (some ⟨blk,off,none⟩) len cap,.int .i64 i,.int .i64 j] w fun e w' => e = .returned (.slice (some ⟨blk,off,none⟩) (len - (j - i)) cap) ∧ ∃ (q : Nat) (Z : List Value),Z.length = (j - i) * 2 ∧ w' = putRow id (Sort.ahead w q) blk off (cs.take (i * 2) ++ cs.drop (j * 2) ++ Z).toArray := by
  by_cases heq : i = j
  · subst heq;have h0 : Calls Tryz.prog 124 #[.slice (some ⟨blk,off,none⟩) len cap,.int .i64 i,.int .i64 i] w fun e w' => e = .returned (.slice (some ⟨blk,off,none⟩) len cap) ∧ w' = w := by
      clear hH h1
      go_enter Tryz.func124,Tryz.ntmps124
      go_wp2
      all_goals (go_ret;exact ⟨rfl,rfl⟩)
    refine h0.mono ?_;rintro e w' ⟨rfl,rfl⟩;refine ⟨by rw [eX,RM],0,[],by simp,?_⟩
    rw [List.append_nil,bG];exact (putRow_self id (Sort.ahead w' 0) blk off cs.toArray hH).symm
  · have hlt : i < j := by omega
    obtain ⟨inf,z,t1,t2,t3,t4,t5,t6,t7⟩ := T.tiOk 56 _ rfl;have t22 : Tryz.prog.underlying 71 = some (.slice 56) := T.elemOk _ _ rfl;have hzv : ∀ w,(zeroValue 56).run Tryz.prog w = .ok z w := fun w => by simp [zeroValue,typeInfo,t1,t4]
    have hz2 : z.cells.toList.length = 2 := by rw [t5];rfl
    have hz1 : ∀ u,u ∈ z.cells.toList → u.oneCell' = true := by rw [t5];exact bA.1 rfl
    obtain ⟨_,hZl⟩ := nY (z := z.cells) rfl (by intro h;rw [h] at hz2;cases hz2) (j - i)
    rw [hz2] at hZl;have hji : len - (i + (len - j)) = j - i := by omega
    obtain ⟨Z,hZe⟩ : ∃ Z,Z = (Builtin.zeroCells z.cells (j - i)).toList := ⟨_,rfl⟩;rw [← hZe] at hZl;obtain ⟨news,hnews⟩ : ∃ news,news = cs.drop (j * 2) := ⟨_,rfl⟩;have hlen : news.length = (len - j) * 2 := by rw [hnews,dB];omega
    have hget : ∀ t,t < (len - j) * 2 → news[t]? = some (cs.toArray[j * 2 + t]!) := by
      intro t ht;rw [hnews,eA,getElem!_pos cs.toArray (j * 2 + t) (by simp;omega),wG,aB]
    obtain ⟨A,hA,hsrc⟩ : ∃ A : Addr,(if cap = j then some (⟨blk,off,none⟩ : Addr) else some ⟨blk,off + j * 2,none⟩) = some A ∧ Hid (∀ t u,news[t]? = some u → w.drew.cell? (A.add t) = some u) := by
      by_cases h : cap = j
      · refine ⟨⟨blk,off,none⟩,by simp [h],fun t u hu => ?_⟩
        have h0 : news.length = 0 := by rw [hlen];omega
        rw [fG.1 h0] at hu;simp at hu
      · refine ⟨⟨blk,off + j * 2,none⟩,by simp [h],fun t u hu => ?_⟩
        have ht : t < (len - j) * 2 := by
          have := (aA.1 hu).1
          rwa [hlen] at this
        rw [hget t ht] at hu;rw [Addr.add_lit,show off + j * 2 + t = off + (j * 2 + t) by omega]
        exact (hH (j * 2 + t) (by simp;omega)).1.trans hu
    have s1 : Hid (news.length = (len - j) * 2) := hlen;have s2 : Hid (∀ u ∈ news,u.oneCell' = true) := by
      intro u hu;rw [hnews] at hu;exact h1 u (eV hu)
    have s3 : Hid (∀ t,t < news.length → (w.drew.cell? ⟨blk,off + i * 2 + t,none⟩).isSome = true ∧ w.drew.frozen? ⟨blk,off + i * 2 + t,none⟩ = false) := by
      intro t ht;rw [hlen] at ht;rw [dH];exact ⟨by show (w.cell? _).isSome = true;rw [(hH (i * 2 + t) (by simp;omega)).1];rfl,(hH (i * 2 + t) (by simp;omega)).2⟩
    obtain ⟨W1,hW1⟩ : ∃ W1,W1 = w.drew.setCells blk (off + i * 2) news := ⟨_,rfl⟩;have hW1' : W1 = putRow id (Sort.ahead w 1) blk off (lay cs.toArray (i * 2) (cs.drop (j * 2))) := by
      have h := putRow_setCells id (Sort.ahead w 1) blk off (cs.drop (j * 2)) cs.toArray (i * 2) (by simp;omega)
      rw [G5,putRow_self id (Sort.ahead w 1) blk off cs.toArray (holds_ahead id w 1 blk off cs.toArray hH)] at h;rw [hW1,hnews];exact h
    have hH1 : Holds id W1 blk off (lay cs.toArray (i * 2) (cs.drop (j * 2))) := by rw [hW1'];exact holds_putRow id _ blk off cs.toArray _ (holds_ahead id w 1 blk off cs.toArray hH) (lay_size _ _ _)
    have hcl : ∀ ty,(Builtin.clear_ #[71] ty #[.slice (some ⟨blk,off + (i + (len - j)) * 2,none⟩) (len - (i + (len - j))) (cap - (i + (len - j)))]).run Tryz.prog W1 = .ok (.tuple #[]) (W1.setCells blk (off + (i + (len - j)) * 2) Z) :=
      fun ty => by
       rw [hZe,← hji];exact K5 W1 _ _ ty z t22 hzv (by intro h; rw [h] at hz2; cases hz2) hz1 blk _ _ _ (by omega)
        (fun t ht => by rw [hz2] at ht;rw [dH,(hH1 _ (by rw [lay_size];simp;omega)).1];rfl) (fun t ht => by rw [hz2] at ht;rw [dH];exact (hH1 _ (by rw [lay_size];simp;omega)).2)
    have X : Aside (W1 = putRow id (Sort.ahead w 1) blk off (lay cs.toArray (i * 2) (cs.drop (j * 2)))) := hW1';have hW : Hid (W1 = w.drew.setCells blk (off + i * 2) news) := hW1;have mixed := cM;have hic : i ≤ cap := by omega
    have hjc : j ≤ cap := by omega
    clear hW1 hW1' hH1 hH hget hnews hlen hji hZe
    go_enter Tryz.func124,Tryz.ntmps124
    go_wp2_with fail
    go_region_law_o (refine step_append_room rfl (.tmp 22) (.tmp 25) 71 rfl 56 inf 2 t22 t1 t2 blk off i cap (by simp [Act.eval,Act.put]) A (len - j) (cap - j) news (by simp [Act.eval,Act.put]) s1.out hsrc.out s2.out (by omega) s3.out ?_;rw [← hW.out])
    go_wp2
    go_ret
    refine ⟨by rw [show len - (j - i) = i + (len - j) by omega];rfl,1,Z,hZl,?_⟩
    rw [X.out,← G5 Z,show off + (i + (len - j)) * 2 = off + (i * 2 + (cs.length - j * 2)) by omega,putRow_setCells id _ blk off _ _ _ (by rw [lay_size,kG];omega),G5,
      F5 cs (i * 2) (j * 2) _ (by omega) (by omega) (by omega)]
theorem XX (l : List SP) (i j : Nat) (hij : i ≤ j) (hj : j ≤ l.length) (hne : l ≠ []) :
    aQ Tryz.prog 124 [.sl 0 0 l.length 2,.i (i : Int),.i (j : Int)] [.arr (eO l) 2] (.sl 0 0 (l.length - (j - i)) 2) [.arr (eO (l.take i ++ l.drop j)) 2] := by
  have h := xJ (sz := 2) ⟨_,Tryz.func124,by kernel_rfl,by kernel_rfl⟩ UR (eO l) (gW l) (R6 l) i j hij (by rw [bN];exact hj) (fun h => hne (kU.1 h))
  rw [bN,← jU,← List.map_drop,← cN] at h;exact h
set_option maxHeartbeats 4000000 in
set_option maxRecDepth 1000000 in
theorem US (blk off cap len i j : Nat) (cs : List Value) (w : World) (hcl0 : cs.length = len * 2) (hH : Holds id w blk off cs.toArray) (h1 : ∀ u,u ∈ cs → u.oneCell' = true) (hcap : len ≤ cap) (hm : cap ≤ 9223372036854775807) (hij : i ≤ j) (hj : j ≤ len) :
    Calls Tryz.prog 74 #[.slice (some ⟨blk,off,none⟩) len cap,.int .i64 i,.int .i64 j] w fun e w' => e = .returned (.slice (some ⟨blk,off,none⟩) (len - (j - i)) cap) ∧ ∃ (q : Nat) (Z : List Value),Z.length = (j - i) * 2 ∧ w' = putRow id (Sort.ahead w q) blk off (cs.take (i * 2) ++ cs.drop (j * 2) ++ Z).toArray := by
  by_cases heq : i = j
  · subst heq;have h0 : Calls Tryz.prog 74 #[.slice (some ⟨blk,off,none⟩) len cap,.int .i64 i,.int .i64 i] w fun e w' => e = .returned (.slice (some ⟨blk,off,none⟩) len cap) ∧ w' = w := by
      clear hH h1
      go_enter Tryz.func74,Tryz.ntmps74
      go_wp2
      all_goals (go_ret;exact ⟨rfl,rfl⟩)
    refine h0.mono ?_;rintro e w' ⟨rfl,rfl⟩;refine ⟨by rw [eX,RM],0,[],by simp,?_⟩
    rw [List.append_nil,bG];exact (putRow_self id (Sort.ahead w' 0) blk off cs.toArray hH).symm
  · have hlt : i < j := by omega
    obtain ⟨inf,z,t1,t2,t3,t4,t5,t6,t7⟩ := T.tiOk 75 _ rfl;have t22 : Tryz.prog.underlying 68 = some (.slice 75) := T.elemOk _ _ rfl;have hzv : ∀ w,(zeroValue 75).run Tryz.prog w = .ok z w := fun w => by simp [zeroValue,typeInfo,t1,t4]
    have hz2 : z.cells.toList.length = 2 := by rw [t5];rfl
    have hz1 : ∀ u,u ∈ z.cells.toList → u.oneCell' = true := by rw [t5];exact bA.1 rfl
    obtain ⟨_,hZl⟩ := nY (z := z.cells) rfl (by intro h;rw [h] at hz2;cases hz2) (j - i)
    rw [hz2] at hZl;have hji : len - (i + (len - j)) = j - i := by omega
    obtain ⟨Z,hZe⟩ : ∃ Z,Z = (Builtin.zeroCells z.cells (j - i)).toList := ⟨_,rfl⟩;rw [← hZe] at hZl;obtain ⟨news,hnews⟩ : ∃ news,news = cs.drop (j * 2) := ⟨_,rfl⟩;have hlen : news.length = (len - j) * 2 := by rw [hnews,dB];omega
    have hget : ∀ t,t < (len - j) * 2 → news[t]? = some (cs.toArray[j * 2 + t]!) := by
      intro t ht;rw [hnews,eA,getElem!_pos cs.toArray (j * 2 + t) (by simp;omega),wG,aB]
    obtain ⟨A,hA,hsrc⟩ : ∃ A : Addr,(if cap = j then some (⟨blk,off,none⟩ : Addr) else some ⟨blk,off + j * 2,none⟩) = some A ∧ Hid (∀ t u,news[t]? = some u → w.drew.cell? (A.add t) = some u) := by
      by_cases h : cap = j
      · refine ⟨⟨blk,off,none⟩,by simp [h],fun t u hu => ?_⟩
        have h0 : news.length = 0 := by rw [hlen];omega
        rw [fG.1 h0] at hu;simp at hu
      · refine ⟨⟨blk,off + j * 2,none⟩,by simp [h],fun t u hu => ?_⟩
        have ht : t < (len - j) * 2 := by
          have := (aA.1 hu).1
          rwa [hlen] at this
        rw [hget t ht] at hu;rw [Addr.add_lit,show off + j * 2 + t = off + (j * 2 + t) by omega]
        exact (hH (j * 2 + t) (by simp;omega)).1.trans hu
    have s1 : Hid (news.length = (len - j) * 2) := hlen;have s2 : Hid (∀ u ∈ news,u.oneCell' = true) := by
      intro u hu;rw [hnews] at hu;exact h1 u (eV hu)
    have s3 : Hid (∀ t,t < news.length → (w.drew.cell? ⟨blk,off + i * 2 + t,none⟩).isSome = true ∧ w.drew.frozen? ⟨blk,off + i * 2 + t,none⟩ = false) := by
      intro t ht;rw [hlen] at ht;rw [dH];exact ⟨by show (w.cell? _).isSome = true;rw [(hH (i * 2 + t) (by simp;omega)).1];rfl,(hH (i * 2 + t) (by simp;omega)).2⟩
    obtain ⟨W1,hW1⟩ : ∃ W1,W1 = w.drew.setCells blk (off + i * 2) news := ⟨_,rfl⟩;have hW1' : W1 = putRow id (Sort.ahead w 1) blk off (lay cs.toArray (i * 2) (cs.drop (j * 2))) := by
      have h := putRow_setCells id (Sort.ahead w 1) blk off (cs.drop (j * 2)) cs.toArray (i * 2) (by simp;omega)
      rw [G5,putRow_self id (Sort.ahead w 1) blk off cs.toArray (holds_ahead id w 1 blk off cs.toArray hH)] at h;rw [hW1,hnews];exact h
    have hH1 : Holds id W1 blk off (lay cs.toArray (i * 2) (cs.drop (j * 2))) := by rw [hW1'];exact holds_putRow id _ blk off cs.toArray _ (holds_ahead id w 1 blk off cs.toArray hH) (lay_size _ _ _)
    have hcl : ∀ ty,(Builtin.clear_ #[68] ty #[.slice (some ⟨blk,off + (i + (len - j)) * 2,none⟩) (len - (i + (len - j))) (cap - (i + (len - j)))]).run Tryz.prog W1 = .ok (.tuple #[]) (W1.setCells blk (off + (i + (len - j)) * 2) Z) :=
      fun ty => by
       rw [hZe,← hji];exact K5 W1 _ _ ty z t22 hzv (by intro h; rw [h] at hz2; cases hz2) hz1 blk _ _ _ (by omega)
        (fun t ht => by rw [hz2] at ht;rw [dH,(hH1 _ (by rw [lay_size];simp;omega)).1];rfl) (fun t ht => by rw [hz2] at ht;rw [dH];exact (hH1 _ (by rw [lay_size];simp;omega)).2)
    have X : Aside (W1 = putRow id (Sort.ahead w 1) blk off (lay cs.toArray (i * 2) (cs.drop (j * 2)))) := hW1';have hW : Hid (W1 = w.drew.setCells blk (off + i * 2) news) := hW1;have mixed := cM;have hic : i ≤ cap := by omega
    have hjc : j ≤ cap := by omega
    clear hW1 hW1' hH1 hH hget hnews hlen hji hZe
    go_enter Tryz.func74,Tryz.ntmps74
    go_wp2_with fail
    go_region_law_o (refine step_append_room rfl (.tmp 22) (.tmp 25) 68 rfl 75 inf 2 t22 t1 t2 blk off i cap (by simp [Act.eval,Act.put]) A (len - j) (cap - j) news (by simp [Act.eval,Act.put]) s1.out hsrc.out s2.out (by omega) s3.out ?_;rw [← hW.out])
    go_wp2
    go_ret
    refine ⟨by rw [show len - (j - i) = i + (len - j) by omega];rfl,1,Z,hZl,?_⟩
    rw [X.out,← G5 Z,show off + (i + (len - j)) * 2 = off + (i * 2 + (cs.length - j * 2)) by omega,putRow_setCells id _ blk off _ _ _ (by rw [lay_size,kG];omega),G5,
      F5 cs (i * 2) (j * 2) _ (by omega) (by omega) (by omega)]
theorem XY (l : List G) (i j : Nat) (hij : i ≤ j) (hj : j ≤ l.length) (hne : l ≠ []) :
    aQ Tryz.prog 74 [.sl 0 0 l.length 2,.i (i : Int),.i (j : Int)] [.arr (gZ l) 2] (.sl 0 0 (l.length - (j - i)) 2) [.arr (gZ (l.take i ++ l.drop j)) 2] := by
  have h := xJ (sz := 2) ⟨_,Tryz.func74,by kernel_rfl,by kernel_rfl⟩ US (gZ l) (lL l) (OZ l) i j hij (by rw [bN];exact hj) (fun h => hne (kU.1 h))
  rw [bN,← jU,← List.map_drop,← cN] at h;exact h
end Go.Proofs.YtbialaoigijlgaaGreatDoor
namespace Go.Proofs.YtbialaoigijlgaaGreatDoor
open Go Go.Ab Go.Shelf Go.Proofs
shelf_lay Lays2.n23 Nm2 23 at Tryz as laysDelete
theorem PR (l : List Int) (i j : Nat) (hij : i ≤ j) (hj : j ≤ l.length) (hne : l ≠ []) :
    aQ Tryz.prog 123 [.sl 0 0 l.length 1,.i (i : Int),.i (j : Int)] [.arr (ints l) 1] (.sl 0 0 (l.length - (j - i)) 1) [.arr (ints (l.take i ++ l.drop j)) 1] :=
  AQ ⟨_,Tryz.func123,by kernel_rfl,by kernel_rfl⟩ (fun blk off cap i j zs w h1 h2 h3 h4 h5 => Any.slices_Delete_int laysDelete blk off cap i j zs w h1 h2 h3 h4 h5) l i j hij hj hne
end Go.Proofs.YtbialaoigijlgaaGreatDoor
namespace Go.Ld
open Go.Ab Go.Proofs.YtbialaoigijlgaaGreatDoor
abbrev fN (q : W → Bool) (l : List W) : List W := l.filter fun x => !q x
theorem tH {q : W → Bool} {l : List W} {k : Nat} (h : k < l.length) : fN q (l.take (k + 1)) = if q l[k] then fN q (l.take k) else fN q (l.take k) ++ [l[k]] := by
  unfold fN;rw [aO h,List.filter_append];cases e : q l[k] <;> simp [e]
theorem CX (q : W → Bool) (l : List W) (k : Nat) : (fN q (l.take k)).length ≤ k := bX (BB _ _) (by simp;omega)
theorem C4 {α : Type} (p : α → Bool) : ∀ (l : List α) (k : Nat), (qK p l k = -1 ∧ ∀ x, x ∈ l → p x = false) ∨ ∃ (j : Nat) (hj : j < l.length), qK p l k = ((k + j : Nat) : Int) ∧ p l[j] = true ∧ ∀ x, x ∈ l.take j → p x = false
  | [],k => .inl ⟨rfl,fun x hx => by cases hx⟩
  | y :: l,k => by
    unfold qK;cases hp : p y with
    | true => exact .inr ⟨0,by simp,by rw [if_pos rfl];rfl,by simpa using hp,fun x hx => by simp at hx⟩
    | false =>
      rw [if_neg (by simp)]
      rcases C4 p l (k + 1) with ⟨h1,h2⟩ | ⟨j,hj,h1,h2,h3⟩
      · refine .inl ⟨h1,fun x hx => ?_⟩
        rcases bY.1 hx with rfl | hx
        · exact hp
        · exact h2 x hx
      · refine .inr ⟨j + 1,by simp;omega,by rw [h1];omega,by simpa using h2,fun x hx => ?_⟩
        rw [mQ] at hx;rcases bY.1 hx with rfl | hx
        · exact hp
        · exact h3 x hx
def B5 (m x : W) : W := if x.2.1 < m.2.1 then x else m
theorem CU : ∀ (l : List W) (f : W), (l.foldl B5 f).2.1 = l.foldl (fun m x => if x.2.1 < m then x.2.1 else m) f.2.1
  | [],_ => rfl
  | x :: l,f => by
    rw [V3,V3,CU l];congr 1;unfold B5;split <;> rfl
theorem KU {l : List W} {f : W} {k : Nat} (h : k < l.length) : (l.take (k + 1)).foldl B5 f = B5 ((l.take k).foldl B5 f) l[k] := by
  rw [aO h,RU];rfl
end Go.Ld
namespace Go.Proofs.YtbialaoigijlgaaGreatDoor
open Go Go.Ab Go.Ld
attribute [local irreducible] VC AW bT aQ
set_option maxHeartbeats 4000000
theorem YV {F : FuncId} {caps : List AV} {q : W → Bool} (l : List W) (hl : l.length ≤ 1000000) (hi : AV.idfL caps = true) (hp : AV.plnL caps = true) (hF : ∀ x,x ∈ l → aQ Tryz.prog F (.agg (wA x) :: caps) [] (.b (q x)) []) :
    aQ Tryz.prog 91 [.sl 0 0 l.length 3,.clo (.func F) [] caps] [.arr (eW l) 3] (.sl 0 0 (fN q l).length 3) [.arr (eW (fN q l)) 3] := by
  have hll : (eW l).length = l.length := eB l;have hix := OM hl hi hF;have hvw : mN [.arr (eW l) 3] (.sl 0 0 l.length 3) (.rowE (eW l) 3) := rW rfl hll.symm (sE (fun _ => rfl) _);refine bK T Tryz.func91 rfl rfl rfl rfl ?_;rcases C4 q l 0 with ⟨h1,h2⟩ | ⟨j,hj,h1,h2,h3⟩
  · rw [h1] at hix;have hk : fN q l = l := xK.2 fun x hx => by rw [h2 x hx];rfl
    rw [hk]
    (repeat' (first|refine wS ?_|refine wR ?_|refine wT ?_|(refine rg 0 (aV ?_))|(refine rg 1 (eG rfl (vV (by exact eI rfl rfl hix (.cons hvw (.cons (.clo .nil (eR _ hp)) .nil)) rfl rfl) ?_));refine aV ?_)|(refine rg 2 (mW rfl (vV (fC rfl rfl) ?_)))|(refine rg 3 (mW rfl (aV ?_)))|refine nZ ?_));all_goals first | (exfalso;omega) | exact ⟨.inl rfl,[0],_,rfl,rfl,rfl,⟨.inr (aG rfl rfl (bD _)),trivial⟩,by decide,kI⟩
  · rw [h1,Nat.zero_add] at hix;have hk0 : fN q (l.take (j + 1)) = l.take j := by
      rw [tH hj,if_pos h2];exact xK.2 fun x hx => by rw [h3 x hx];rfl
    have hkl : (fN q (l.take (j + 1))).length = j := by rw [hk0];simp;omega
    have hka : fN q (l.take (j + 1)) ++ l.drop (fN q (l.take (j + 1))).length = l := by rw [hkl,hk0,bG]
    have hkf : fN q l = fN q (l.take l.length) := by rw [cO]
    rw [hkf]
    (repeat' (first|refine wS ?_|refine wB ?_|refine wK ?_|refine wU ?_|(refine rg 0 (aV ?_))|(refine rg 1 (eG rfl (vV (by exact eI rfl rfl hix (.cons hvw (.cons (.clo .nil (eR _ hp)) .nil)) rfl rfl) ?_));refine aV ?_)|(refine rg 2 (mW rfl (vV (fC rfl rfl) ?_)))|(refine iA 4 rfl rfl rfl (by omega) (by omega) ?_)|refine nZ ?_));all_goals try (exfalso;omega)
    refine cT (X := {m : Nat // m ≤ l.length}) (fun m => [(0,.sl 0 0 l.length 3),(1,.clo (.func F) [] caps),(5,.i (fN q (l.take m.1)).length),(6,.i m.1)]) (fun m => [.arr (eW (fN q (l.take m.1) ++ l.drop (fN q (l.take m.1)).length)) 3]) (fun m => l.length - m.1) ⟨j + 1,hj⟩ ⟨[0],rfl,⟨rfl,by rw [kZ hi];rfl,by dsimp only;rw [hkl];rfl,rfl,trivial⟩,⟨.inr (aG rfl (by dsimp only;rw [hka]) (bD _)),trivial⟩,by decide,kI⟩ ?_
    rintro ⟨m,hm⟩;dsimp only;have hle := CX q l m;by_cases hlt : m < l.length
    · have hs := tH (q := q) hlt;have hget := GK (G := fN q (l.take m)) (l := l) (m := m) (i := 0 + (m : Int).toNat) hle hlt (by omega)
      have hg2 := GK (G := fN q (l.take m)) (l := l) (m := (fN q (l.take m)).length) (i := 0 + (((fN q (l.take m)).length : Nat) : Int).toNat) (aX _) (by omega) (by omega)
      rw [mY hlt] at hget;have hset := WN (G := fN q (l.take m)) (l := l) (x := l[m]) (j := (((fN q (l.take m)).length : Nat) : Int)) (by omega) rfl
      have hc := hF l[m] (aK hlt);have hal := JY (G := fN q (l.take m)) (l := l) (by omega)
      generalize l[m] = x at *;generalize l.getD (fN q (l.take m)).length w0 = y at *;generalize hG : fN q (l.take m) = G at *;generalize hA : eW (G ++ l.drop G.length) = A at *;cases e : q x
      · rw [e] at hc hs;rw [if_neg (by simp)] at hs
        (repeat' (first|refine wS ?_|refine wB ?_|refine wK ?_|refine wT ?_|(refine wC rfl ?_ ?_<;>(intro hb;(try simp only [nm] at hb);try (exfalso;omega)))|(refine rg 5 (eG rfl (qW T rfl (vV (aN rfl rfl) ?_))))|(refine rg 7 (eG rfl (vV (by exact aL T rfl rfl rfl rfl rfl (by omega) (by omega)) ?_));refine vV (by exact aS T rfl rfl (bI rfl hget) rfl) ?_;refine bS (bH T rfl) rfl (aR T rfl rfl rfl rfl rfl rfl (by decide) rfl ?_))|(refine rg 8 (mW rfl (vV (aS T rfl rfl rfl rfl) (vV (by exact eS rfl rfl hc rfl (by simp [AV.idfL,AV.idf,hi]) rfl) ?_)));refine vV (fB rfl) ?_)|(refine rg 9 (eG rfl (vV (aS T rfl rfl rfl rfl) (vV (by exact aL T rfl rfl rfl rfl rfl (by omega) (by omega)) ?_)));refine aR T rfl rfl rfl rfl rfl rfl (by decide) (lJ rfl hg2 rfl) ?_)|(refine iA 10 rfl rfl rfl (by omega) (by omega) ?_)|(refine iA 6 rfl rfl rfl (by omega) (by omega) ?_)|refine nZ ?_));all_goals try (exfalso;omega)
        all_goals exact ⟨⟨m + 1,hlt⟩,by dsimp only;omega,[0],rfl,⟨rfl,by rw [kZ hi];rfl,by rw [hs];simp only [aD];rfl,rfl,trivial⟩,⟨.inr (aG rfl (by rw [hs];exact hset) (bD _)),trivial⟩,by decide,kI⟩
      · rw [e] at hc hs;rw [if_pos rfl] at hs
        (repeat' (first|refine wS ?_|refine wB ?_|refine wK ?_|refine wU ?_|(refine wC rfl ?_ ?_<;>(intro hb;(try simp only [nm] at hb);try (exfalso;omega)))|(refine rg 5 (eG rfl (qW T rfl (vV (aN rfl rfl) ?_))))|(refine rg 7 (eG rfl (vV (by exact aL T rfl rfl rfl rfl rfl (by omega) (by omega)) ?_));refine vV (by exact aS T rfl rfl (bI rfl hget) rfl) ?_;refine bS (bH T rfl) rfl (aR T rfl rfl rfl rfl rfl rfl (by decide) rfl ?_))|(refine rg 8 (mW rfl (vV (aS T rfl rfl rfl rfl) (vV (by exact eS rfl rfl hc rfl (by simp [AV.idfL,AV.idf,hi]) rfl) ?_)));refine vV (fB rfl) ?_)|(refine iA 6 rfl rfl rfl (by omega) (by omega) ?_)|refine nZ ?_));all_goals try (exfalso;omega)
        all_goals exact ⟨⟨m + 1,hlt⟩,by dsimp only;omega,[0],rfl,⟨rfl,by rw [kZ hi];rfl,by rw [hs];rfl,rfl,trivial⟩,⟨.inr (aG rfl (by rw [hs];exact hA.symm) (bD _)),trivial⟩,by decide,kI⟩
    · obtain rfl : m = l.length := by omega
      have hal := JY (G := fN q (l.take l.length)) (l := l) (by omega)
      have htk := MH (G := fN q (l.take l.length)) (l := l);generalize fN q (l.take l.length) = G at *
      (repeat' (first|refine wS ?_|refine wR ?_|refine wE ?_|(refine wC rfl ?_ ?_<;>(intro hb;(try simp only [nm] at hb);try (exfalso;omega)))|(refine rg 5 (eG rfl (qW T rfl (vV (aN rfl rfl) ?_))))|(refine rg 11 (eG rfl (vV (by exact jH T rfl rfl rfl rfl rfl rfl (by omega) (by omega) (by omega)) ?_));refine A4 T rfl rfl rfl ⟨rfl,rfl,by decide⟩ rfl (by rw [hal];omega) ?_)|(refine rg 12 (eG rfl (vV (by exact jH T rfl rfl rfl rfl rfl rfl (by omega) (by omega) (by omega)) ?_));refine aV ?_)|refine nZ ?_));all_goals try (exfalso;omega)
      all_goals exact ⟨.inl rfl,[0],_,rfl,(by show AV.sl 0 0 ((G.length : Int) - 0).toNat 3 = AV.sl 0 0 G.length 3;rw [show ((G.length : Int) - 0).toNat = G.length by omega]),rfl,⟨.inr (aG rfl htk (bD _)),trivial⟩,by decide,kI⟩
abbrev ZR : AV := .clo (.func 119) [] []
theorem LV {f : W} {l : List W} {k : Nat} (h : k < l.length) : (eW (f :: l))[((k : Int) + 1).toNat]? = some (wA l[k]) := by
  rw [show ((k : Int) + 1).toNat = k + 1 by omega];simp [h]
theorem ZQ (f : W) (l : List W) (hl : l.length ≤ 1000000) : aQ Tryz.prog 118 [.rowE (eW (f :: l)) 3,ZR] [] (P7 (l.foldl B5 f)) [] := by
  have hll : (eW (f :: l)).length = l.length + 1 := by simp
  have hg0 : (eW (f :: l))[(0 : Int).toNat]? = some (wA f) := rfl;refine bK T Tryz.func118 rfl rfl rfl rfl ?_
  (repeat' (first|refine wS ?_|refine wB ?_|refine wK ?_|refine wU ?_|(refine rg 0 (bS (bH T rfl) rfl ?_))|(refine rg 1 (mW rfl (qW T rfl (vV (aN rfl rfl) ?_))))|(refine rg 3 (mW rfl (vV (ix T rfl (by omega) (jE _) hg0) (lW T rfl (bS (bH T rfl) rfl (aR T rfl rfl rfl rfl rfl rfl (by decide) rfl ?_))))))|(refine rg 4 (aV ?_))|refine nZ ?_));all_goals try (exfalso;omega)
  refine cT (X := {k : Nat // k ≤ l.length}) (fun k => [(0,.rowE (eW (f :: l)) 3),(1,ZR),(4,.ptr 0 0),(5,.ptr 1 0),(6,.i ((k.1 : Int) + 1))]) (fun k => [.cells [.nils,.i 0,.nils],.cells (wA ((l.take k.1).foldl B5 f))]) (fun k => l.length - k.1) ⟨0,bW _⟩ ⟨[0,1],rfl,by (repeat (first | exact trivial | refine ⟨rfl,?_⟩)),⟨.inr rfl,.inr rfl,trivial⟩,by decide,jJ _⟩ ?_
  rintro ⟨k,hk⟩;dsimp only;by_cases hlt : k < l.length
  · have hs := KU (f := f) hlt;have hg := LV (f := f) hlt;have hc := OJ l[k] ((l.take k).foldl B5 f);generalize l[k] = x at *;generalize (l.take k).foldl B5 f = m at *;by_cases h0 : x.2.1 < m.2.1
    · have hv : cI x.2.1 m.2.1 = -1 := by unfold cI;rw [if_pos h0]
      rw [hv] at hc;rw [B5,if_pos h0] at hs
      (repeat' (first|refine wS ?_|refine wB ?_|refine wK ?_|refine wT ?_|(refine wC rfl ?_ ?_<;>(intro hb;(try simp only [nm] at hb);try (exfalso;omega)))|(refine rg 5 (eG rfl (qW T rfl (vV (aN rfl rfl) ?_))))|(refine cK (id := 7) 33 [[],[],[],[1,2],[1,2,3],[],rN 6,rN 7] (rM 20 8) [[],[20],[20,21],[20],[20],rM 20 5,[],[]] cM rfl (by decide +kernel) (dN rfl (dN rfl (dN rfl (dV rfl (ix T rfl (by omega) (jE _) hg) (dO T rfl (dO T rfl (dV rfl (kC (hc)) (dV rfl (aN rfl rfl) (dE ?_))))))))))|(refine rg 8 (eG rfl (vV (ix T rfl (by omega) (jE _) hg) (lW T rfl (aR T rfl rfl rfl rfl rfl rfl (by decide) rfl ?_)))))|(refine iA 6 rfl rfl rfl (by omega) (by omega) ?_)|refine nZ ?_));all_goals try (exfalso;omega)
      all_goals exact ⟨⟨k + 1,hlt⟩,by dsimp only;omega,[0,1],rfl,by (repeat (first | exact trivial | refine ⟨rfl,?_⟩)),⟨.inr rfl,.inr (by dsimp only;rw [hs];rfl),trivial⟩,by decide,jJ _⟩
    · have hv : 0 ≤ cI x.2.1 m.2.1 := by unfold cI;rw [if_neg h0];split <;> omega
      rw [B5,if_neg h0] at hs;generalize cI x.2.1 m.2.1 = v at *
      (repeat' (first|refine wS ?_|refine wB ?_|refine wK ?_|(refine wC rfl ?_ ?_<;>(intro hb;(try simp only [nm] at hb);try (exfalso;omega)))|(refine rg 5 (eG rfl (qW T rfl (vV (aN rfl rfl) ?_))))|(refine cK (id := 7) 33 [[],[],[],[1,2],[1,2,3],[],rN 6,rN 7] (rM 20 8) [[],[20],[20,21],[20],[20],rM 20 5,[],[]] cM rfl (by decide +kernel) (dN rfl (dN rfl (dN rfl (dV rfl (ix T rfl (by omega) (jE _) hg) (dO T rfl (dO T rfl (dV rfl (kC (hc)) (dV rfl (aN rfl rfl) (dE ?_))))))))))|(refine iA 6 rfl rfl rfl (by omega) (by omega) ?_)|refine nZ ?_));all_goals try (exfalso;omega)
      all_goals exact ⟨⟨k + 1,hlt⟩,by dsimp only;omega,[0,1],rfl,by (repeat (first | exact trivial | refine ⟨rfl,?_⟩)),⟨.inr rfl,.inr (by dsimp only;rw [hs];rfl),trivial⟩,by decide,jJ _⟩
  · obtain rfl : k = l.length := by omega
    rw [cO];generalize l.foldl B5 f = m at *
    (repeat' (first|refine wS ?_|refine wR ?_|refine wE ?_|(refine wC rfl ?_ ?_<;>(intro hb;(try simp only [nm] at hb);try (exfalso;omega)))|(refine rg 5 (eG rfl (qW T rfl (vV (aN rfl rfl) ?_))))|(refine rg 9 (lW T rfl (aR T rfl rfl rfl rfl rfl rfl (by decide) rfl ?_)))|refine nZ ?_));all_goals first | (exfalso;omega) | exact ⟨.inl rfl,[],_,rfl,rfl,rfl,trivial,by decide,jJ _⟩
theorem zG7 : Z6 Tryz.prog 73 1 = some (3,1) := by kernel_rfl
theorem HQ (g : G) (hne : g.2 ≠ []) (hl : g.2.length ≤ 1000000) : aQ Tryz.prog 90 [KQ g] [] (.i (jL g)) [] := by
  obtain ⟨b,ws⟩ := g;cases ws with
  | nil => exact absurd rfl hne
  | cons f l =>
    have hc := ZQ f l (by simp at hl;omega)
    show aQ _ _ _ _ (.i (l.foldl (fun m x => if x.2.1 < m then x.2.1 else m) f.2.1)) []
    rw [← CU];generalize l.foldl B5 f = m at *;refine bK T Tryz.func90 rfl rfl rfl rfl ?_
    (repeat' (first|refine wS ?_|refine wR ?_|(refine rg 0 (bS (cW rfl rfl) rfl (aV ?_)))|(refine rg 1 (iX T rfl (vV (kC (hc)) (vV (by exact U1 T rfl zG7 rfl rfl) ?_)));refine aV ?_)|refine nZ ?_));all_goals first | (exfalso;omega) | exact rQ
end Go.Proofs.YtbialaoigijlgaaGreatDoor
namespace Go.Ld
open Go.Ab Go.Proofs.YtbialaoigijlgaaGreatDoor
def vT (g : G) : Int := match gQ g with
  | some k => (k : Int)
  | none => -1
theorem DY {g : G} (h : g.1.length < 2 ∨ g.2 = []) : vT g = -1 := by unfold vT gQ;rw [if_pos h]
theorem PZ {g : G} {k : Nat} (h : ¬ (g.1.length < 2 ∨ g.2 = [])) (hk : k < g.1.length) (h1 : ∀ j,j < k → uW g j = false) (h2 : uW g k = true) : vT g = k := by
  unfold vT gQ;rw [if_neg h,List.find?_range_eq_some.2 ⟨h2,by simpa using hk,fun j hj => by simp [h1 j hj]⟩]
theorem LG {g : G} (h : ¬ (g.1.length < 2 ∨ g.2 = [])) (h1 : ∀ j,j < g.1.length → uW g j = false) : vT g = -1 := by
  unfold vT gQ;rw [if_neg h,List.find?_range_eq_none.2 (fun j hj => by simp [h1 j hj])]
def U4 (f : W) (i : Nat) (w : W) : Bool := !decide (gP w i = gP f i ∧ gC w i = gC f i)
theorem FF {bs : List Int} {f : W} {l : List W} {i : Nat} : uW (bs,f :: l) i = !(f :: l).any (U4 f i) := by
  show (f :: l).all (fun w => decide (gP w i = gP f i ∧ gC w i = gC f i)) = _;rw [List.not_any_eq_all_not];congr 1;funext w;simp [U4]
end Go.Ld
namespace Go.Proofs.YtbialaoigijlgaaGreatDoor
open Go Go.Ab Go.Ld
attribute [local irreducible] VC AW bT aQ qB
set_option maxHeartbeats 4000000
theorem VR : qB Tryz.prog 56 2 := by unfold qB;kernel_rfl
theorem GG (w f : W) {i : Nat} (h1 : i < w.1.length) (h2 : i < w.2.2.length) (h3 : i < f.1.length) (h4 : i < f.2.2.length) (hs : zU w) (hf : zU f) :
    aQ Tryz.prog 122 [P7 w,.pr [.i i] 0,.pr (wA f) 0] [] (.b (U4 f i w)) [] := by
  obtain ⟨p,m,c⟩ := w;obtain ⟨p',m',c'⟩ := f;dsimp only at h1 h2 h3 h4;unfold zU at hs hf;dsimp only at hs hf;have hlp : (ints p).length = p.length := cY _;have hlp' : (ints p').length = p'.length := cY _;have hlc : (eO c).length = c.length := fU _;have hlc' : (eO c').length = c'.length := fU _;have q1 := mE (l := p) (j := (i : Int)) (i := i) 0 h1 rfl;have q2 := mE (l := p') (j := (i : Int)) (i := i) 0 h3 rfl;have q3 := oT (l := c) (j := (i : Int)) (i := i) h2 rfl;have q4 := oT (l := c') (j := (i : Int)) (i := i) h4 rfl;have hd : U4 (p',m',c') i (p,m,c) = !decide (p.getD i 0 = p'.getD i 0 ∧ c.getD i (0,0) = c'.getD i (0,0)) := rfl;rw [hd];generalize p.getD i 0 = x at *;generalize p'.getD i 0 = y at *;generalize hr : c.getD i (0,0) = r at *;generalize hr' : c'.getD i (0,0) = r' at *;obtain ⟨a,b⟩ := r;obtain ⟨a',b'⟩ := r';dsimp only at q3 q4;by_cases h : x = y
  · rw [show (!decide (x = y ∧ (a,b) = (a',b'))) = !decide (a = a' ∧ b = b') by simp [h]]
    refine bK T Tryz.func122 rfl rfl rfl rfl ?_
    (repeat' (first|refine wS ?_|refine wR ?_|(refine rg 0 (bS (cW rfl rfl) rfl (aV ?_)))|(refine cK (id := 1) 29 zK5 (rM 5 24) zK6 cM rfl (by decide +kernel) (dP T rfl (dO T rfl (dO T rfl (dV rfl (ix T rfl (by omega) (cP p) q1) (dO T rfl (dP T rfl (dO T rfl (dO T rfl (dV rfl (ix T rfl (by omega) (cP p') q2) ?_)))))))));refine dO T rfl (dV rfl (jY rfl rfl h) (dN rfl (tP T rfl (tO T rfl (tO T rfl (dT rfl (ix T rfl (by omega) (gW c) q3) (tO T rfl (tP T rfl (tL T ?_)))))))));refine tO T rfl (dT rfl (ix T rfl (by omega) (gW c') q4) (tO T rfl (dT rfl (UB VR rfl rfl) (dV rfl (jA rfl rfl) (dE ?_)))));refine aV ?_)|refine nZ ?_));all_goals first | (exfalso;omega) | exact rQ
  · rw [show (!decide (x = y ∧ (a,b) = (a',b'))) = true by simp [h]]
    refine bK T Tryz.func122 rfl rfl rfl rfl ?_
    (repeat' (first|refine wS ?_|refine wR ?_|(refine rg 0 (bS (cW rfl rfl) rfl (aV ?_)))|(refine cK (id := 1) 29 zK5 (rM 5 24) zK6 cM rfl (by decide +kernel) (dP T rfl (dO T rfl (dO T rfl (dV rfl (ix T rfl (by omega) (cP p) q1) (dO T rfl (dP T rfl (dO T rfl (dO T rfl (dV rfl (ix T rfl (by omega) (cP p') q2) ?_)))))))));refine dO T rfl (dV rfl (tJ rfl rfl h) (dN rfl (tG rfl (tG rfl (tG rfl (tG rfl (tG rfl (tG rfl (dG ?_)))))))));refine tG rfl (tG rfl (tG rfl (tG rfl (dV rfl (jM rfl rfl) (dE ?_)))));refine aV ?_)|refine nZ ?_));all_goals first | (exfalso;omega) | exact rQ
structure YO (g : G) : Prop where
  b : g.1.length ≤ 1000
  w : g.2.length ≤ 1000000
  p : ∀ w,w ∈ g.2 → w.1.length = g.1.length
  c : ∀ w,w ∈ g.2 → w.2.2.length = g.1.length
theorem YO.sm {g : G} (h : YO g) {w : W} (hw : w ∈ g.2) : zU w := ⟨by have := h.p w hw;have := h.b;omega,by have := h.c w hw;have := h.b;omega⟩
theorem LF (g : G) (hs : YO g) : aQ Tryz.prog 93 [KQ g] [] (.i (vT g)) [] := by
  have hsz := hs;obtain ⟨bs,ws⟩ := g;obtain ⟨hb,hw,hp,hc⟩ := hs;dsimp only at hb hw hp hc;have hlb : (ints bs).length = bs.length := cY _;have hlw : (eW ws).length = ws.length := eB _;by_cases h0 : bs.length < 2
  · rw [DY (.inl h0)];refine bK T Tryz.func93 rfl rfl rfl rfl ?_
    (repeat' (first|refine wS ?_|refine wR ?_|refine wT ?_|(refine rg 0 (bS (cW rfl rfl) rfl (aV ?_)))|(refine rg 1 (iX T rfl (qW T rfl (vV (aN rfl rfl) (mV ?_))));refine eN rfl rfl ?_ ?_<;>(intro hb;rw [hb];(try simp only [nm] at hb);try (exfalso;omega));(all_goals ((iterate 4 refine gF ?_);refine pV ?_)))|(refine rg 2 (aV ?_))|refine nZ ?_));all_goals first | (exfalso;omega) | exact rQ
  · cases ws with
    | nil =>
      rw [DY (.inr rfl)];refine bK T Tryz.func93 rfl rfl rfl rfl ?_
      (repeat' (first|refine wS ?_|refine wR ?_|refine wT ?_|(refine rg 0 (bS (cW rfl rfl) rfl (aV ?_)))|(refine rg 1 (iX T rfl (qW T rfl (vV (aN rfl rfl) (mV ?_))));refine eN rfl rfl ?_ ?_<;>(intro hb;rw [hb];(try simp only [nm] at hb);try (exfalso;omega));(all_goals (refine yP T rfl (yO T rfl (gT (qW T rfl (yV (fC rfl rfl) (pV ?_))))))))|(refine rg 2 (aV ?_))|refine nZ ?_));all_goals first | (exfalso;omega) | exact rQ
    | cons f l =>
      have hn : ¬ (bs.length < 2 ∨ f :: l = []) := by rintro (h | h);exact h0 h;cases h
      have hg0 : (eW (f :: l))[(0 : Int).toNat]? = some (wA f) := rfl;have hl1 : (eW (f :: l)).length = l.length + 1 := by simp
      refine bK T Tryz.func93 rfl rfl rfl rfl ?_
      (repeat' (first|refine wS ?_|refine wB ?_|refine wK ?_|refine wU ?_|(refine rg 0 (bS (cW rfl rfl) rfl (aV ?_)))|(refine rg 1 (iX T rfl (qW T rfl (vV (aN rfl rfl) (mV ?_))));refine eN rfl rfl ?_ ?_<;>(intro hb;rw [hb];(try simp only [nm] at hb);try (exfalso;omega));(all_goals (refine yP T rfl (yO T rfl (gT (qW T rfl (yV (fC rfl rfl) (pV ?_))))))))|(refine rg 3 (iX T rfl (qW T rfl (mV ?_))))|refine nZ ?_));all_goals try (exfalso;omega)
      all_goals refine cT (X := {k : Nat // k ≤ bs.length ∧ ∀ j,j < k → uW (bs,f :: l) j = false}) (fun k => [(1,.ptr 0 0),(17,.i (ints bs).length),(18,.i k.1)]) (fun _ => [.cells [.rowE (ints bs) 1,.rowE (eW (f :: l)) 3]]) (fun k => bs.length - k.1) ⟨0,bW _,fun j hj => absurd hj (dD _)⟩ (gO [0]) ?_
      all_goals rintro ⟨k,hk,hj⟩
      all_goals dsimp only
      all_goals by_cases hlt : k < bs.length
      · have hlf : k < f.1.length := by rw [hp f bB];exact hlt
        have hlf2 : k < f.2.2.length := by rw [hc f bB];exact hlt
        have hcc := XC (caps := [.pr [.i k] 0,.pr (wA f) 0]) (p := U4 f k) (l := f :: l) hw rfl (fun x hx => GG x f (by rw [hp x hx];exact hlt) (by rw [hc x hx];exact hlt) hlf hlf2 (hsz.sm hx) (hsz.sm bB))
        have hsa := FF (bs := bs) (f := f) (l := l) (i := k);cases hany : (f :: l).any (U4 f k) with
        | false =>
          rw [hany] at hcc hsa;have hci := PZ hn hlt hj hsa;rw [hci]
          (repeat' (first|refine wS ?_|refine wB ?_|refine wK ?_|refine wR ?_|refine wT ?_|(refine wC rfl ?_ ?_<;>(intro hb;(try simp only [nm] at hb);try (exfalso;omega)))|(refine rg 4 (vV (aN rfl rfl) ?_))|(refine rg 5 (mW rfl (bS (bH T rfl) rfl (aR T rfl rfl rfl rfl rfl rfl (by decide) rfl ?_))))|(refine rg 6 (iX T rfl (vV (ix T rfl (by omega) (jE _) hg0) (lW T rfl (bS (bH T rfl) rfl (aR T rfl rfl rfl rfl rfl rfl (by decide) rfl ?_))))))|(refine rg 7 (iX T rfl (vV (by exact iS rfl rfl) ?_));refine vV (by exact eI rfl rfl hcc (.cons (.row _ _ _) (.cons (.clo .nil (.cons (.ptr rfl (.cons (.v _) .nil)) (.cons (.ptr rfl (.cons (.row _ _ _) (.cons (.v _) (.cons (.row _ _ _) .nil)))) .nil))) .nil)) rfl rfl) ?_;refine vV (fB rfl) ?_)|(refine rg 8 (lW T rfl (aV ?_)))|refine nZ ?_));all_goals first | (exfalso;omega) | exact rQ
        | true =>
          rw [hany] at hcc hsa
          (repeat' (first|refine wS ?_|refine wB ?_|refine wK ?_|refine wU ?_|(refine wC rfl ?_ ?_<;>(intro hb;(try simp only [nm] at hb);try (exfalso;omega)))|(refine rg 4 (vV (aN rfl rfl) ?_))|(refine rg 5 (mW rfl (bS (bH T rfl) rfl (aR T rfl rfl rfl rfl rfl rfl (by decide) rfl ?_))))|(refine rg 6 (iX T rfl (vV (ix T rfl (by omega) (jE _) hg0) (lW T rfl (bS (bH T rfl) rfl (aR T rfl rfl rfl rfl rfl rfl (by decide) rfl ?_))))))|(refine rg 7 (iX T rfl (vV (by exact iS rfl rfl) ?_));refine vV (by exact eI rfl rfl hcc (.cons (.row _ _ _) (.cons (.clo .nil (.cons (.ptr rfl (.cons (.v _) .nil)) (.cons (.ptr rfl (.cons (.row _ _ _) (.cons (.v _) (.cons (.row _ _ _) .nil)))) .nil))) .nil)) rfl rfl) ?_;refine vV (fB rfl) ?_)|(refine rg 9 (vV (bF rfl rfl (by omega) (by omega)) (mV ?_)))|refine nZ ?_));all_goals first | (exfalso;omega) | skip
          all_goals exact ⟨⟨k + 1,by omega,fun j hjk => (gS j k).elim (hj j) (fun h => by obtain rfl : j = k := (by omega);exact hsa)⟩,by dsimp only;omega,gO [0]⟩
      · rw [LG hn (fun j hjl => hj j (by dsimp only at hjl;omega))]
        (repeat' (first|refine wS ?_|refine wR ?_|refine wE ?_|(refine wC rfl ?_ ?_<;>(intro hb;(try simp only [nm] at hb);try (exfalso;omega)))|(refine rg 4 (vV (aN rfl rfl) ?_))|(refine rg 10 (aV ?_))|refine nZ ?_));all_goals first | (exfalso;omega) | exact rQ
end Go.Proofs.YtbialaoigijlgaaGreatDoor
namespace Go.Ld
open Go.Ab Go.Proofs.YtbialaoigijlgaaGreatDoor
theorem zO {α : Type} (l : List α) (k : Nat) : l.take k ++ l.drop (k + 1) = l.eraseIdx k := (List.eraseIdx_eq_take_drop_succ l k).symm
end Go.Ld
namespace Go.Proofs.YtbialaoigijlgaaGreatDoor
open Go Go.Ab Go.Ld
attribute [local irreducible] VC AW bT aQ qB jI
set_option maxHeartbeats 4000000
theorem SN (g : G) {k : Nat} (hs : YO g) (hk : k < g.1.length) (h2 : 2 ≤ g.1.length) (hne : g.2 ≠ []) (hsm : g.2.length ≤ 100000) :
    aQ Tryz.prog 94 [KQ g,.i k] [] (.tup [KQ (mM g k),KQ (jK g k)]) [] := by
  have hsz := hs;obtain ⟨bs,ws⟩ := g;obtain ⟨hb,hw,hp,hc⟩ := hs;dsimp only at hb hw hp hc hk h2 hsm;cases ws with
  | nil => exact absurd rfl hne
  | cons f l =>
  have hlb : (ints bs).length = bs.length := cY _;have hf1 := hp f bB;have hf2 := hc f bB;have hlp : (ints f.1).length = f.1.length := cY _;have hlc : (eO f.2.2).length = f.2.2.length := fU _;have hg0 : (eW (f :: l))[(0 : Int).toNat]? = some (wA f) := rfl;have hl1 : (eW (f :: l)).length = l.length + 1 := by simp
  have q1 := mE (l := bs) (j := (k : Int)) (i := k) 0 hk rfl;have q2 := mE (l := f.1) (j := (k : Int)) (i := k) 0 (by omega) rfl
  have q3 := oT (l := f.2.2) (j := (k : Int)) (i := k) (by omega) rfl
  have cl := AE bs (by omega)
  have dl := PR bs k (k + 1) (by omega) (by omega) (by intro h;rw [h] at hk;simp at hk)
  rw [zO,show bs.length - (k + 1 - k) = bs.length - 1 by omega,show ((k + 1 : Nat) : Int) = (k : Int) + 1 by omega] at dl
  have hel : (bs.eraseIdx k).length = bs.length - 1 := by rw [fK,if_pos hk]
  obtain ⟨L,hL⟩ : ∃ L,f :: l = L := ⟨_,rfl⟩;have hp' : ∀ w,w ∈ L → w.1.length = bs.length := by rw [← hL];exact hp
  have hc' : ∀ w,w ∈ L → w.2.2.length = bs.length := by rw [← hL];exact hc
  have hsm' : L.length ≤ 100000 := by rw [← hL];exact hsm
  have hsz' : ∀ w,w ∈ L → zU w := by rw [← hL];exact fun w h => hsz.sm h
  obtain ⟨R,hR⟩ : ∃ R,R = L.map (YU k) := ⟨_,rfl⟩;have hor : jK (bs,f :: l) k = (bs.eraseIdx k,iB R) := by rw [hR,← hL];rfl
  rw [hor]
  have ho := T0 R (by rw [hR,bN];exact hsm') (fun w hw' => by
    rw [hR] at hw';obtain ⟨v,hv,rfl⟩ := bL.1 hw';have h1 := hp' v hv;have h2 := hc' v hv;unfold zU YU;dsimp only;rw [fK,fK]
    constructor <;> split <;> omega)
  refine uB (res := .tup [.agg [.sl 0 0 1 1,.sl 3 0 1 3],.agg [.rowE (ints (bs.eraseIdx k)) 1,.rowE (eW (iB R)) 3]]) (hout := [.arr (ints [bs.getD k 0]) 1,.arr (ints [f.1.getD k 0]) 1,.arr (eO [f.2.2.getD k (0,0)]) 2,.arr [[.sl 1 0 1 1,.i 0,.sl 2 0 1 2]] 3]) ?_ (.tup (.cons (.agg (.cons (wH rfl rfl) (.cons (.sl rfl (by decide) (.cons (wH rfl rfl) (.cons (.v _) (.cons (xM rfl rfl) .nil)))) .nil))) (.cons (.agg (.cons (.row _ _ _) (.cons (.row _ _ _) .nil))) .nil)))
  generalize bs.getD k 0 = x1 at *;generalize f.1.getD k 0 = x2 at *;generalize hr : f.2.2.getD k (0,0) = r at *;obtain ⟨a1,a2⟩ := r;dsimp only at q3;refine bK T Tryz.func94 rfl rfl rfl rfl ?_
  (repeat' (first|refine wS ?_|(refine rg 0 (bS (cW rfl rfl) rfl (bS (bH T rfl) rfl (bS (bH T rfl) rfl ?_))))|(refine rg 1 (iX T rfl (vV (ix T rfl (by omega) (jE _) hg0) (lW T rfl (bS (bH T rfl) rfl (aR T rfl rfl rfl rfl rfl rfl (by decide) rfl ?_))))))|(refine cK (id := 2) 78 [[],[0],[],[0,1,2],rN 4,rN 5,[],[6],[],[6,7,8],rM 6 4,rM 6 5,[],[12],[],[12,13,14],rM 12 4,rM 12 5,rM 6 12,rM 6 13,rN 20] (rM 13 21) [[],[],[13,14],[],[],[],rM 13 6,rM 13 6,rM 13 8,rM 13 6,rM 13 6,rM 13 6,rM 13 12,rM 13 12,rM 13 14,rM 13 12,rM 13 12,rM 13 12,rM 13 6,rM 13 6,[]] cM rfl (by decide +kernel) (dP T rfl (dO T rfl (dN rfl (dV rfl (ix T rfl (by omega) (cP bs) q1) (dO T rfl (xU rfl rfl rfl (by exact bC T rfl rfl (by decide) (by decide) rfl rfl rfl) rfl ?_))))));refine dP T rfl (dO T rfl (dN rfl (dV rfl (ix T rfl (by omega) (cP f.1) q2) (dO T rfl (xU rfl rfl rfl (by exact bC T rfl rfl (by decide) (by decide) rfl rfl rfl) rfl ?_)))));refine dP T rfl (dO T rfl (dN rfl (dV rfl (ix T rfl (by omega) (gW f.2.2) q3) (dO T rfl (xU rfl rfl rfl (by exact bC T rfl rfl (by decide) (by decide) rfl rfl rfl) rfl ?_)))));refine dV rfl (by exact eH T rfl rfl rfl rfl) ?_;refine xU rfl rfl rfl (by exact bC T rfl rfl (by decide) (by decide) rfl rfl rfl) rfl ?_;refine dV rfl (by exact eH T rfl rfl rfl rfl) ?_;refine dE ?_;refine aR T rfl rfl rfl rfl rfl rfl (by decide) rfl ?_)|(refine rg 3 (iX T rfl (bS (by exact fM rfl rfl cl (.inr ⟨rfl,rfl,by simp⟩)) rfl ?_));refine eG rfl (vV (bF rfl rfl (by omega) (by omega)) (dW [8] rfl rfl (dl) rfl rfl (by decide) ⟨.inr (aG rfl (cC _ (bO _)) (bO _)),trivial⟩ (by simp) rfl ?_));refine fW T rfl (aR T rfl rfl rfl rfl rfl rfl (by decide) rfl ?_))|refine nZ ?_));refine eM [(1, .i k), (2, .ptr 0 0), (4, .ptr 1 0), (5, .ptr 2 0)] [.cells [.rowE (ints bs) 1, .rowE (eW (f :: l)) 3], .cells [.sl 3 0 1 1, .sl 6 0 1 3], .cells [.sl 7 0 (bs.length - 1) 1, .nils], .arr (ints [x1]) 1, .arr (ints [x2]) 1, .arr (eO [(a1, a2)]) 2, .arr [[.sl 4 0 1 1, .i 0, .sl 5 0 1 2]] 3, .arr (ints (bs.eraseIdx k)) 1]
    ⟨[0,1,2,4,5,6,7,8],rfl,(by repeat first|exact trivial|refine ⟨rfl,?_⟩),⟨.inr rfl,.inr rfl,.inr rfl,.inr rfl,.inr rfl,.inr rfl,.inr rfl,.inr (aG rfl (cC _ (bO _)) (bO _)),trivial⟩,by decide,jJ _⟩ ?_
  refine lX 2 0 rfl rfl rfl (by rw [cY,hel]) (gI (bO _)) ?_
  refine tZ 2 1 3 rfl rfl (by decide) ?_
  rw [hL]
  (repeat' (first|refine wB ?_|(refine rg 4 (iX T rfl (qW T rfl (mV ?_))))|refine nZ ?_));refine cT (X := {i : Nat // i ≤ L.length}) (fun i => [(1, .i k), (4, .ptr 0 0), (5, .ptr 1 0), (43, .rowE (eW L) 3), (44, .i (eW L).length), (45, .i i.1)]) (fun i => [.cells [.sl 2 0 1 1, .sl 5 0 1 3], .cells [.rowE (ints (bs.eraseIdx k)) 1, .sl 6 0 i.1 3], .arr (ints [x1]) 1, .arr (ints [x2]) 1, .arr (eO [(a1, a2)]) 2, .arr [[.sl 3 0 1 1, .i 0, .sl 4 0 1 2]] 3, .arr (eW (R.take i.1)) 3]) (fun i => L.length - i.1) ⟨0, bW _⟩
    ⟨[1,2,3,4,5,6,8],rfl,(by repeat first|exact trivial|refine ⟨rfl,?_⟩),⟨.inr rfl,.inr rfl,.inr rfl,.inr rfl,.inr rfl,.inr rfl,.inr rfl,trivial⟩,by decide,jJ _⟩ ?_
  rintro ⟨i,hi⟩;dsimp only;have hLl : (eW L).length = L.length := eB _;have hRl : R.length = L.length := by rw [hR,bN]
  by_cases hlt : i < L.length
  · have hg := nE hlt;have hv1 := hp' L[i] (aK hlt);have hv2 := hc' L[i] (aK hlt);have hRs : R.take (i + 1) = R.take i ++ [YU k L[i]] := by rw [aO (by omega)];simp [hR]
    have hwm := hsz' _ (aK hlt);generalize L[i] = v at *;have hcw := I8 v hwm;obtain ⟨p,m,c⟩ := v;dsimp only at hv1 hv2 hcw hRs;have e1 := O6 (PR p k (k + 1) (by omega) (by omega) (by intro h;rw [h] at hv1;simp at hv1;omega))
    have e2 := O6 (XX c k (k + 1) (by omega) (by omega) (by intro h;rw [h] at hv2;simp at hv2;omega))
    rw [zO,show p.length - (k + 1 - k) = p.length - 1 by omega,show ((k + 1 : Nat) : Int) = (k : Int) + 1 by omega] at e1
    rw [zO,show c.length - (k + 1 - k) = c.length - 1 by omega,show ((k + 1 : Nat) : Int) = (k : Int) + 1 by omega] at e2
    (repeat' (first|refine wS ?_|refine wB ?_|refine wK ?_|(refine wC rfl ?_ ?_<;>(intro hb;(try simp only [nm] at hb);try (exfalso;omega)))|(refine rg 5 (vV (aN rfl rfl) ?_))|(refine rg 6 (vV (ix T rfl (by omega) (jE _) hg) (lW T rfl (bS (bH T rfl) rfl (aR T rfl rfl rfl rfl rfl rfl (by decide) rfl ?_)))))|(refine rg 7 (lW T rfl (bS (by exact fM rfl rfl hcw (.inr ⟨rfl,rfl,by simp⟩)) rfl ?_));refine aR T rfl rfl rfl rfl rfl rfl (by decide) rfl ?_)|refine nZ ?_));all_goals try (exfalso;omega)
    refine eM [(1, .i k), (4, .ptr 0 0), (5, .ptr 1 0), (8, .ptr 7 0), (43, .rowE (eW L) 3), (44, .i (eW L).length), (45, .i i)] [.cells [.sl 2 0 1 1, .sl 5 0 1 3], .cells [.rowE (ints (bs.eraseIdx k)) 1, .sl 6 0 i 3], .arr (ints [x1]) 1, .arr (ints [x2]) 1, .arr (eO [(a1, a2)]) 2, .arr [[.sl 3 0 1 1, .i 0, .sl 4 0 1 2]] 3, .arr (eW (R.take i)) 3, .cells [.sl 8 0 p.length 1, .i m, .sl 9 0 c.length 2], .arr (ints p) 1, .arr (eO c) 2]
      ⟨[0,1,2,3,4,5,6,7,8,9],rfl,(by repeat first|exact trivial|refine ⟨rfl,?_⟩),⟨.inr rfl,.inr rfl,.inr rfl,.inr rfl,.inr rfl,.inr rfl,.inr (aG rfl rfl (bD _)),.inr rfl,.inr (aG rfl (cC _ (bO _)) (bO _)),.inr (aG rfl (cC _ (eY _)) (eY _)),trivial⟩,by decide,jJ _⟩ ?_
    repeat' (first|(refine pZ (id := 8) 78 [[],[0],[],[],[3],rN 5,[],[6],[],[],[9],rN 11,rN 8,rN 13] (rM 51 13) [[],[],[51,52],[51,52,53],[51,52,53],[],rM 51 6,rM 51 6,rM 51 8,rM 51 9,rM 51 9,[],rM 59 4,[]] [(5,8),(11,9),(13,7)] cM rfl (by decide +kernel) (eT rfl rfl rfl rfl (by exact bV T rfl rfl rfl) ?_);refine eT rfl rfl rfl rfl (by exact aS T rfl rfl rfl rfl) ?_;refine eT rfl rfl rfl rfl (by exact bU rfl) ?_;refine eT rfl rfl rfl rfl (by exact bU rfl) ?_;refine eT rfl rfl rfl rfl (by exact bF rfl rfl (by omega) (by omega)) ?_;refine vP rfl rfl rfl rfl (aM rfl) (by exact EF [8] rfl rfl (e1) (fun _=>rfl) rfl (by decide) (fun _=>⟨.inr (aG rfl rfl (bO _)),trivial⟩) (by simp) rfl (fun _ _=>rfl) rfl rfl) ?_;refine eT rfl rfl rfl rfl (by exact bV T rfl rfl rfl) ?_;refine eT rfl rfl rfl rfl (by exact aS T rfl rfl rfl rfl) ?_;refine eT rfl rfl rfl rfl (by exact bU rfl) ?_;refine eT rfl rfl rfl rfl (by exact bU rfl) ?_;refine eT rfl rfl rfl rfl (by exact bF rfl rfl (by omega) (by omega)) ?_;refine vP rfl rfl rfl rfl (aM rfl) (by exact EF [9] rfl rfl (e2) (fun _=>rfl) rfl (by decide) (fun _=>⟨.inr (aG rfl rfl (eY _)),trivial⟩) (by simp) rfl (fun _ _=>rfl) rfl rfl) ?_;refine eT rfl rfl rfl rfl (by exact bV T rfl rfl rfl) ?_;refine Z9 rfl rfl rfl rfl (aM rfl) T rfl rfl rfl rfl rfl rfl (by decide) rfl ?_;refine wV rfl rfl rfl (by exact rfl) ?_;refine fW T rfl (aR T rfl rfl rfl rfl rfl rfl (by decide) rfl ?_))|refine nZ ?_)
    show AW _ _ _ _ _ _;have l1 : (p.eraseIdx k).length = p.length - 1 := by rw [fK,if_pos (by omega)]
    have l2 : (c.eraseIdx k).length = c.length - 1 := by rw [fK,if_pos (by omega)]
    refine eM [(1, .i k), (4, .ptr 0 0), (5, .ptr 1 0), (8, .ptr 7 0), (43, .rowE (eW L) 3), (44, .i (eW L).length), (45, .i i)] [.cells [.sl 2 0 1 1, .sl 5 0 1 3], .cells [.rowE (ints (bs.eraseIdx k)) 1, .sl 6 0 i 3], .arr (ints [x1]) 1, .arr (ints [x2]) 1, .arr (eO [(a1, a2)]) 2, .arr [[.sl 3 0 1 1, .i 0, .sl 4 0 1 2]] 3, .arr (eW (R.take i)) 3, .cells [.sl 8 0 (p.length - 1) 1, .i m, .sl 9 0 (c.length - 1) 2], .arr (ints (p.eraseIdx k)) 1, .arr (eO (c.eraseIdx k)) 2]
      ⟨[0,1,2,3,4,5,6,7,8,9],rfl,(by repeat first|exact trivial|refine ⟨rfl,?_⟩),⟨.inr rfl,.inr rfl,.inr rfl,.inr rfl,.inr rfl,.inr rfl,.inr (aG rfl rfl (bD _)),.inr rfl,.inr (aG rfl (cC _ (bO _)) (bO _)),.inr (aG rfl (cC _ (eY _)) (eY _)),trivial⟩,by decide,jJ _⟩ ?_
    refine lX 7 0 rfl rfl rfl (by rw [cY,l1]) (gI (bO _)) ?_
    refine lX 7 2 rfl rfl rfl (by rw [fU,l2]) (gI (eY _)) ?_
    have hW : eW (R.take (i + 1)) = eW (R.take i) ++ [[.rowE (ints (p.eraseIdx k)) 1,.i m,.rowE (eO (c.eraseIdx k)) 2]] := by rw [hRs,eW,cN];rfl
    have hTl : (eW (R.take i)).length = i := by rw [eB,aU];omega
    generalize eW (R.take i) = Q at *
    (repeat' (first|(refine rg 9 (iX T rfl (lW T rfl (bS (by exact bC T rfl rfl (by decide) (by decide) rfl rfl rfl) rfl ?_)));refine fY T rfl rfl rfl rfl rfl rfl (by omega) (kE.whole rfl rfl) rfl (by simp;omega) (by simp;omega) rfl ?_;refine fW T rfl (aR T rfl rfl rfl rfl rfl rfl (by decide) rfl ?_))|(refine rg 10 (vV (bF rfl rfl (by omega) (by omega)) (mV ?_)))|refine nZ ?_));all_goals try (exfalso;omega)
    exact ⟨⟨i + 1,hlt⟩,by dsimp only;omega,⟨[0,1,2,3,4,5,11],rfl,(by repeat first|exact trivial|refine ⟨rfl,?_⟩),⟨.inr rfl,.inr rfl,.inr rfl,.inr rfl,.inr rfl,.inr rfl,.inr (aG rfl (by dsimp only;rw [hW];exact kJ hTl.symm) (bD _)),trivial⟩,by decide,jJ _⟩⟩
  · obtain rfl : i = L.length := by omega
    rw [show R.take L.length = R by rw [← hRl,cO]]
    show AW _ _ _ _ _ _;refine lX 1 1 rfl rfl rfl (by rw [eB,hRl]) (gI (bD _)) ?_
    generalize iB R = R' at *
    (repeat' (first|refine wS ?_|refine wR ?_|refine wE ?_|(refine wC rfl ?_ ?_<;>(intro hb;(try simp only [nm] at hb);try (exfalso;omega)))|(refine rg 5 (vV (aN rfl rfl) ?_))|(refine rg 11 (iX T rfl (vV (kC (ho)) (fW T rfl (aR T rfl rfl rfl rfl rfl rfl (by decide) rfl ?_)))))|(refine mH (id := 12) 78 [[],[],[0]] [76,77] [[],[76],[77]] [(2,0)] cM rfl (by decide +kernel) (cE rfl rfl rfl rfl (by exact aS T rfl rfl rfl rfl) ?_);refine cE rfl rfl rfl rfl (by exact aS T rfl rfl rfl rfl) ?_;refine tU rfl rfl rfl rfl (aM rfl) T rfl rfl rfl rfl rfl rfl (by decide) rfl ?_;refine pS rfl rfl rfl (by exact rfl) ?_;refine aR T rfl rfl rfl rfl rfl rfl (by decide) rfl ?_)|refine nZ ?_));all_goals first | (exfalso;omega) | exact ⟨.inl rfl,[2,3,4,5],_,rfl,rfl,rfl,⟨.inr rfl,.inr rfl,.inr rfl,.inr rfl,trivial⟩,by decide,jJ _⟩
end Go.Proofs.YtbialaoigijlgaaGreatDoor
namespace Go.Ld
open Go.Ab Go.Proofs.YtbialaoigijlgaaGreatDoor
theorem vJ {L : List G} {j : Int} {i : Nat} {x : G} (h : L[i]? = some x) (e : j = i) : (gZ L)[0 + j.toNat]? = some (gA x) := by
  subst e;simp [h]
theorem zG {L : List G} {j : Int} {i : Nat} {x : G} (e : j = i) : (gZ L).set (0 + j.toNat) (gA x) = gZ (L.set i x) := by
  subst e;simp [gZ,Q9]
abbrev EI (l : List G) : Prop := l.Pairwise (fun a b => cG a b ≤ 0)
def H6 (l : List G) : Prop := ∀ a b,a ∈ l → b ∈ l → cG a b = 0 → a = b
theorem YC {a : G} : cG a a = 0 := oD.rfl' _
theorem GH (a b : G) : cG a b = - cG b a := oD.neg _ _
theorem IJ {a b d : G} (h1 : cG a b ≤ 0) (h2 : cG b d ≤ 0) : cG a d ≤ 0 := oD.le_tr (a := a.1.headD 0) (b := b.1.headD 0) (d := d.1.headD 0) h1 h2
theorem DA (w : G) : ∀ {l : List G}, EI l → EI (Q4 cG w l)
  | [],_ => kH _ _
  | x :: l,hl => by
    have hl' := eQ.1 hl;unfold Q4;split
    · rename_i hw;refine eQ.2 ⟨fun y hy => ?_,hl⟩
      rcases bY.1 hy with rfl | hy
      · exact hw
      · exact IJ hw (hl'.1 y hy)
    · rename_i hw;refine eQ.2 ⟨fun y hy => ?_,DA w hl'.2⟩
      rcases bY.1 ((wO cG w l).mem_iff.1 hy) with rfl | hy
      · have := GH x y;omega
      · exact hl'.1 y hy
theorem pX : ∀ l : List G, EI (dK cG l)
  | [] => .nil
  | x :: l => DA x (pX l)
theorem BW {l m : List G} (hd : H6 l) (hp : m.Perm l) (h : EI m) : dK cG l = m := by
  refine (List.Perm.eq_of_pairwise (le := fun a b => cG a b ≤ 0) (fun a b ha hb h1 h2 => hd a b (hp.mem_iff.1 ha) ((dJ cG l).mem_iff.1 hb) (by have := GH a b;omega)) h (pX l) (hp.trans (dJ cG l).symm)).symm
theorem H6.sub {l m : List G} (h : H6 l) (hs : ∀ x,x ∈ m → x ∈ l) : H6 m := fun a b ha hb e => h a b (hs a ha) (hs b hb) e
theorem H6.perm {l m : List G} (h : H6 l) (hp : m.Perm l) : H6 m := h.sub fun x hx => hp.mem_iff.1 hx
theorem GF {a b : G} (h : cG a b < 0) : cG a b ≤ 0 := by omega
theorem SA {S1 S2 : List G} {x : G} (h : EI (S1 ++ S2)) (h1 : ∀ y,y ∈ S1 → cG y x ≤ 0) (h2 : ∀ y,y ∈ S2 → cG x y ≤ 0) : EI (S1 ++ x :: S2) := by
  obtain ⟨a,b,c⟩ := eU.1 h;refine eU.2 ⟨a,eQ.2 ⟨h2,b⟩,fun p hp q hq => ?_⟩
  rcases bY.1 hq with rfl | hq
  · exact h1 p hp
  · exact c p hp q hq
theorem MA {A : List G} {y : G} (h : EI (A ++ [y])) : ∀ z,z ∈ A ++ [y] → cG z y ≤ 0 := by
  intro z hz;obtain ⟨a,b,c⟩ := eU.1 h;rcases bQ.1 hz with hz | hz
  · exact c z hz y (by simp)
  · rw [dS.1 hz,YC];exact iI _
theorem zD8 {a b : G} (h : ¬ cG a b < 0) : cG b a ≤ 0 := by have := GH a b;omega
def G8 (l : List G) (a b : Nat) : List G := l.take a ++ (dK cG ((l.drop a).take (b - a)) ++ l.drop b)
theorem K1 {l : List G} : (dK cG l).length = l.length := (dJ cG l).length_eq
theorem JC {l : List G} {a : Nat} (h : a ≤ l.length) : G8 l a a = l := by unfold G8;simp [dK]
theorem MQ {l : List G} {a : Nat} (h : a < l.length) : G8 l a (a + 1) = l := by
  unfold G8;rw [show a + 1 - a = 1 by omega,aT h]
  simp only [mQ,lF,dK,Q4];rw [List.singleton_append,← aT h,bG]
structure ER (l : List G) (a i : Nat) (x : G) (q : List G × List G) : Prop where
  eq : q.1 ++ q.2 = dK cG ((l.drop a).take (i - a))
  gt : ∀ y,y ∈ q.2 → cG x y < 0
def nR (l : List G) (a i : Nat) (x : G) (q : List G × List G) : List G := (l.take a ++ q.1) ++ x :: (q.2 ++ l.drop (i + 1))
theorem FP {l : List G} {a i : Nat} {x : G} (h1 : a < i) (h2 : i < l.length) (hx : l[i]? = some x) : ER l a i x (dK cG ((l.drop a).take (i - a)),[]) ∧ G8 l a i = nR l a i x (dK cG ((l.drop a).take (i - a)),[]) := by
  refine ⟨⟨by simp,fun y hy => by cases hy⟩,?_⟩
  unfold G8 nR;have : l.drop i = x :: l.drop (i + 1) := by
    rw [aB h2] at hx;rw [aT h2];cases hx;rfl
  simp [this]
theorem CZ {l : List G} {a i : Nat} {x : G} {q : List G × List G} (h : ER l a i x q) (h1 : a < i) (h2 : i < l.length) : q.1.length + q.2.length = i - a := by
  have := congrArg List.length h.eq;simp only [aD,K1,aU,dB] at this;omega
theorem KJ {l : List G} {a i : Nat} {x : G} {q : List G × List G} (h : ER l a i x q) (h1 : a < i) (h2 : i < l.length) : (nR l a i x q).length = l.length := by
  have := CZ h h1 h2;unfold nR;simp only [aD,List.length_cons,aU,dB];omega
theorem HV {l : List G} (hdl : H6 l) {a i : Nat} {x : G} {q : List G × List G} (h : ER l a i x q) (h1 : a < i) (h2 : i < l.length) (hx : l[i]? = some x) (hs : ∀ y,y ∈ q.1 → cG y x ≤ 0) : nR l a i x q = G8 l a (i + 1) := by
  unfold nR G8;have e : (l.drop a).take (i + 1 - a) = (l.drop a).take (i - a) ++ [x] := by
    rw [show i + 1 - a = (i - a) + 1 by omega,RP]
    rw [eA,show a + (i - a) = i by omega,hx];rfl
  rw [e];have hp : (q.1 ++ x :: q.2).Perm ((l.drop a).take (i - a) ++ [x]) := by
    refine List.perm_middle.trans ?_;rw [h.eq];exact ((dJ cG _).cons x).trans (zX _ _).symm
  have hu : EI (q.1 ++ x :: q.2) := SA (by rw [h.eq];exact pX _) hs (fun y hy => GF (h.gt y hy))
  rw [BW (hdl.sub fun y hy => by rw [← e] at hy;exact eV (eD hy)) hp hu]
  simp
theorem OQ {l : List G} {a i : Nat} {x y : G} {S : List G} {q : List G × List G} (h : ER l a i x q) (e : q.1 = S ++ [y]) (hc : ¬ cG x y < 0) : ∀ z,z ∈ q.1 → cG z x ≤ 0 := by
  have hu : EI (q.1 ++ q.2) := by rw [h.eq];exact pX _
  have hu1 : EI q.1 := (eU.1 hu).1;rw [e] at hu1;intro z hz;rw [e] at hz;exact IJ (MA hu1 z hz) (zD8 hc)
theorem KI {l : List G} {a i : Nat} {x y : G} {S : List G} {q : List G × List G} (h : ER l a i x q) (e : q.1 = S ++ [y]) (hc : cG x y < 0) : ER l a i x (S,y :: q.2) := by
  refine ⟨?_,fun z hz => ?_⟩
  · rw [← h.eq,e];simp
  · rcases bY.1 hz with rfl | hz
    · exact hc
    · exact h.gt z hz
end Go.Ld
namespace Go.Proofs.YtbialaoigijlgaaGreatDoor
open Go Go.Ab Go.Ld
attribute [local irreducible] VC AW bT aQ
set_option maxHeartbeats 4000000
abbrev GA : AV := .clo (.func 96) [] []
def YP (g : G) : Prop := 0 < g.1.length ∧ g.1.length ≤ 1000000
theorem SG (a b : G) (ha : YP a) (hb : YP b) : aQ Tryz.prog 96 [KQ a,KQ b] [] (.i (cG a b)) [] := by
  obtain ⟨p,ws⟩ := a;obtain ⟨q,vs⟩ := b;cases p with
  | nil => exact absurd ha.1 (by simp)
  | cons x p =>
    cases q with
    | nil => exact absurd hb.1 (by simp)
    | cons y q =>
      have hc := U6 x y;have h1 : (ints (x :: p)).length = p.length + 1 := by simp
      have h2 : (ints (y :: q)).length = q.length + 1 := by simp
      have g1 : (ints (x :: p))[(0 : Int).toNat]? = some [AV.i x] := rfl;have g2 : (ints (y :: q))[(0 : Int).toNat]? = some [AV.i y] := rfl;refine bK T Tryz.func96 rfl rfl rfl rfl ?_
      (repeat' (first|refine wS ?_|refine wR ?_|(refine rg 0 (bS (cW rfl rfl) rfl (bS (cW rfl rfl) rfl (aV ?_))))|(refine cK (id := 1) 14 [[],[0],[0,1],[0,1,2],[],[4],[4,5],[4,5,6],rN 8] (rM 5 9) [[],[],[],[],rM 5 4,rM 5 4,rM 5 4,rM 5 4,[]] cM rfl (by decide +kernel) (dP T rfl (dO T rfl (dV rfl (ix T rfl (by omega) (cP _) g1) (dO T rfl (dP T rfl (dO T rfl (dV rfl (ix T rfl (by omega) (cP _) g2) (dO T rfl (dV rfl (kC (hc)) ?_)))))))));refine dE ?_;refine aV ?_)|refine nZ ?_));all_goals first | (exfalso;omega) | exact rQ
theorem KG (l : List G) (a b : Nat) (hab : a ≤ b) (hb : b ≤ l.length) (hdl : H6 l) (hl : l.length ≤ 100000) (hw : ∀ w,w ∈ l → YP w) :
    aQ Tryz.prog 141 [.sl 0 0 l.length 2,.i a,.i b,GA] [.arr (gZ l) 2] (.tup []) [.arr (gZ (G8 l a b)) 2] := by
  rcases gS a b with hlt | hge
  · refine bK T Tryz.func141 rfl rfl rfl rfl ?_
    (repeat' (first|refine wS ?_|refine wB ?_|(refine iA 0 rfl rfl rfl (by omega) (by omega) ?_)|refine nZ ?_));refine cT (X := {i : Nat // a + 1 ≤ i ∧ i ≤ b}) (fun i => [(0,.sl 0 0 l.length 2),(1,.i a),(2,.i b),(3,GA),(8,.i i.1)]) (fun i => [.arr (gZ (G8 l a i.1)) 2]) (fun i => b - i.1) ⟨a + 1,by omega,by omega⟩ ⟨[0],rfl,by (repeat (first | exact trivial | refine ⟨rfl,?_⟩)),⟨.inr (aG rfl (by dsimp only;rw [MQ (by omega)]) (dX _)),trivial⟩,by decide,kI⟩ ?_
    rintro ⟨i,h1,h2⟩;dsimp only;by_cases hi : i < b
    · (repeat' (first|refine wS ?_|refine wB ?_|refine wK ?_|(refine wC rfl (fun hb => ?_) (fun hb => ?_) <;> (((try simp only [nm] at hb);try (exfalso;omega))))|(refine rg 1 (eG rfl (vV (aN rfl rfl) ?_)))|(refine rg 3 (mW rfl (aV ?_)))|(refine nZ ?_)));all_goals try (exfalso;omega)
      have hil : i < l.length := by omega
      obtain ⟨x,hx⟩ : ∃ x,l[i]? = some x := ⟨_,aB hil⟩;obtain ⟨s1,s2⟩ := FP (a := a) (by omega) hil hx
      refine cT (X := {q : List G × List G // ER l a i x q}) (fun q => [(0,.sl 0 0 l.length 2),(1,.i a),(2,.i b),(3,GA),(8,.i i),(9,.i ((a + q.1.1.length : Nat) : Int))]) (fun q => [.arr (gZ (nR l a i x q.1)) 2]) (fun q => q.1.1.length) ⟨_,s1⟩ ⟨[0],rfl,⟨rfl,rfl,rfl,rfl,rfl,by dsimp only;rw [K1,aU,dB,show a + min (i - a) (l.length - a) = i by omega];rfl,trivial⟩,⟨.inr (aG rfl (by dsimp only;rw [s2]) (dX _)),trivial⟩,by decide,kI⟩ ?_
      rintro ⟨⟨S1,S2⟩,hq⟩;dsimp only;have hln := CZ hq (by omega) hil
      dsimp only at hln;have hwx : YP x := hw x (aJ hx);have hal : (l.take a).length = a := by rw [aU];omega
      rcases List.eq_nil_or_concat S1 with rfl | ⟨S,y,rfl⟩
      · have ee := HV hdl hq (by omega) hil hx (fun y hy => by cases hy)
        have hJ : ((a + ([] : List G).length : Nat) : Int) = a := by simp
        generalize ((a + ([] : List G).length : Nat) : Int) = J at *;generalize nR l a i x ([],S2) = L at *
        (repeat' (first|refine wS ?_|refine wE ?_|refine wU ?_|(refine cK (id := 4) 53 zI9 (rM 18 17) zJ0 cM rfl (by decide +kernel) (dN rfl (dN rfl (dV rfl (Z2 rfl rfl (by omega)) (dN rfl (tG rfl (tG rfl (tG rfl (tG rfl (dG ?_)))))))));refine tG rfl (tG rfl (tG rfl (tG rfl (tG rfl (tG rfl (tG rfl (dV rfl (jA rfl rfl) (dE ?_)))))))))|(refine iA 2 rfl rfl rfl (by omega) (by omega) ?_)|refine nZ ?_));all_goals first | (exfalso;omega) | exact ⟨⟨i + 1,by omega,by omega⟩,by dsimp only;omega,⟨[0],rfl,by (repeat (first | exact trivial | refine ⟨rfl,?_⟩)),⟨.inr (aG rfl (by dsimp only;rw [ee]) (dX _)),trivial⟩,by decide,kI⟩⟩
      · rw [List.concat_eq_append] at *;have hy : y ∈ l := by
          have h3 : y ∈ dK cG ((l.drop a).take (i - a)) := by rw [← hq.eq];simp
          exact eV (eD ((dJ _ _).mem_iff.1 h3))
        have hc := SG x y hwx (hw y hy);have hL : nR l a i x (S ++ [y],S2) = (l.take a ++ S) ++ y :: x :: (S2 ++ l.drop (i + 1)) := by unfold nR;simp
        have hJ : ((a + (S ++ [y]).length : Nat) : Int) = ((a + S.length + 1 : Nat) : Int) := by simp;omega
        have hAl : a + S.length = (l.take a ++ S).length := by rw [aD,hal]
        have hlen := KJ hq (by omega) hil
        by_cases h0 : cG x y < 0
        · have ee := KI hq rfl h0;have q1 := vJ (L := nR l a i x (S ++ [y],S2)) (j := ((a + (S ++ [y]).length : Nat) : Int)) (i := a + S.length + 1) (x := x) (by rw [hL,show (l.take a ++ S) ++ y :: x :: (S2 ++ l.drop (i + 1)) = ((l.take a ++ S) ++ [y]) ++ x :: (S2 ++ l.drop (i + 1)) by simp];exact lY _ _ _ (by simp;omega)) hJ
          have q2 := vJ (L := nR l a i x (S ++ [y],S2)) (j := ((a + (S ++ [y]).length : Nat) : Int) - 1) (i := a + S.length) (x := y) (by rw [hL];exact lY _ _ _ hAl) (by omega)
          have t1 := zG (L := nR l a i x (S ++ [y],S2)) (j := ((a + (S ++ [y]).length : Nat) : Int)) (i := a + S.length + 1) (x := y) hJ;have e1 : (nR l a i x (S ++ [y],S2)).set (a + S.length + 1) y = (l.take a ++ S) ++ y :: y :: (S2 ++ l.drop (i + 1)) := by
            rw [hL,show (l.take a ++ S) ++ y :: x :: (S2 ++ l.drop (i + 1)) = ((l.take a ++ S) ++ [y]) ++ x :: (S2 ++ l.drop (i + 1)) by simp,mC _ _ _ _ (by simp;omega)];simp
          rw [e1] at t1;have q3 := vJ (L := (l.take a ++ S) ++ y :: y :: (S2 ++ l.drop (i + 1))) (j := ((a + (S ++ [y]).length : Nat) : Int) - 1) (i := a + S.length) (x := y) (lY _ _ _ hAl) (by omega)
          have t2 := zG (L := (l.take a ++ S) ++ y :: y :: (S2 ++ l.drop (i + 1))) (j := ((a + (S ++ [y]).length : Nat) : Int) - 1) (i := a + S.length) (x := x) (by omega)
          rw [mC _ _ _ _ hAl,show (l.take a ++ S) ++ x :: y :: (S2 ++ l.drop (i + 1)) = nR l a i x (S,y :: S2) by unfold nR;simp,← t1] at t2
          rw [← t1] at q3;have hJ2 : ((a + (S ++ [y]).length : Nat) : Int) - 1 = ((a + S.length : Nat) : Int) := by omega
          have hJ3 : ((a + (S ++ [y]).length : Nat) : Int) < l.length := by omega
          have hJ4 : (a : Int) < ((a + (S ++ [y]).length : Nat) : Int) := by omega
          clear hJ hL;generalize ((a + (S ++ [y]).length : Nat) : Int) = J at *;generalize cG x y = z at *;generalize nR l a i x (S ++ [y],S2) = L at *
          (repeat' (first|refine wS ?_|refine wB ?_|refine wK ?_|(refine wC rfl ?_ ?_<;>(intro hb;(try simp only [nm] at hb);try (exfalso;omega)))|(refine cK (id := 4) 53 zI9 (rM 18 17) zJ0 cM rfl (by decide +kernel) (dN rfl (dN rfl (dV rfl (gN rfl rfl) (dM ?_))));refine qN rfl rfl rfl rfl ?_ ?_<;>(intro hb;rw [hb];(try simp only [nm] at hb);try (exfalso;omega))<;>(refine tM ?_);(all_goals (refine tN rfl (tN rfl (dT rfl (by exact aL T rfl rfl rfl rfl rfl (by omega) (by omega)) ?_));refine dT rfl (by exact aS T rfl rfl (bI rfl q1) rfl) ?_;refine tN rfl (tN rfl (dT rfl (cJ rfl rfl (by omega) (by omega)) (dT rfl (by exact aL T rfl rfl rfl rfl rfl (by omega) (by omega)) ?_)));refine dT rfl (by exact aS T rfl rfl (bI rfl q2) rfl) ?_;refine dT rfl (kC (hc)) (dT rfl (aN rfl rfl) (dV rfl (jM rfl rfl) (dE ?_))))))|(refine mH (id := 6) 53 zJ1 (rM 37 15) zJ2 [(15,0)] cM rfl (by decide +kernel) (cE rfl rfl rfl rfl (by exact bU rfl) ?_);refine cE rfl rfl rfl rfl (by exact bU rfl) ?_;refine cE rfl rfl rfl rfl (by exact bU rfl) ?_;refine cE rfl rfl rfl rfl (by exact bU rfl) ?_;refine cE rfl rfl rfl rfl (by exact cJ rfl rfl (by omega) (by omega)) ?_;refine cE rfl rfl rfl rfl (by exact bU rfl) ?_;refine cE rfl rfl rfl rfl (by exact bU rfl) ?_;refine cE rfl rfl rfl rfl (by exact cJ rfl rfl (by omega) (by omega)) ?_;refine cE rfl rfl rfl rfl (by exact aL T rfl rfl rfl rfl rfl (by omega) (by omega)) ?_;refine cE rfl rfl rfl rfl (by exact aS T rfl rfl (bI rfl q2) rfl) ?_;refine cE rfl rfl rfl rfl (by exact bU rfl) ?_;refine cE rfl rfl rfl rfl (by exact bU rfl) ?_;refine cE rfl rfl rfl rfl (by exact aL T rfl rfl rfl rfl rfl (by omega) (by omega)) ?_;refine cE rfl rfl rfl rfl (by exact aS T rfl rfl (bI rfl q1) rfl) ?_;refine cE rfl rfl rfl rfl (by exact aL T rfl rfl rfl rfl rfl (by omega) (by omega)) ?_;refine tU rfl rfl rfl rfl (aM rfl) T rfl rfl rfl rfl rfl rfl (by decide) (tA rfl q1 rfl) ?_;refine pS rfl rfl rfl (by exact rfl) ?_;refine vV (by exact aL T rfl rfl rfl rfl rfl (by omega) (by omega)) ?_;refine aR T rfl rfl rfl rfl rfl rfl (by decide) (lJ rfl q3 rfl) ?_)|(refine rg 5 (mW rfl (vV (cJ rfl rfl (by omega) (by omega)) (aV ?_))))|refine nZ ?_));all_goals first | (exfalso;omega) | exact ⟨⟨_,ee⟩,by dsimp only;simp,⟨[0],rfl,⟨rfl,rfl,rfl,rfl,rfl,by dsimp only;rw [← hJ2];try rfl,trivial⟩,⟨.inr (aG rfl (by dsimp only;rw [← t2];try rfl) (dX _)),trivial⟩,by decide,kI⟩⟩
        · have ee := HV hdl hq (by omega) hil hx (OQ hq rfl h0)
          have q1 := vJ (L := nR l a i x (S ++ [y],S2)) (j := ((a + (S ++ [y]).length : Nat) : Int)) (i := a + S.length + 1) (x := x) (by rw [hL,show (l.take a ++ S) ++ y :: x :: (S2 ++ l.drop (i + 1)) = ((l.take a ++ S) ++ [y]) ++ x :: (S2 ++ l.drop (i + 1)) by simp];exact lY _ _ _ (by simp;omega)) hJ
          have q2 := vJ (L := nR l a i x (S ++ [y],S2)) (j := ((a + (S ++ [y]).length : Nat) : Int) - 1) (i := a + S.length) (x := y) (by rw [hL];exact lY _ _ _ hAl) (by omega)
          have hJ3 : ((a + (S ++ [y]).length : Nat) : Int) < l.length := by omega
          have hJ4 : (a : Int) < ((a + (S ++ [y]).length : Nat) : Int) := by omega
          clear hJ hL;generalize ((a + (S ++ [y]).length : Nat) : Int) = J at *;generalize cG x y = z at *;generalize nR l a i x (S ++ [y],S2) = L at *
          (repeat' (first|refine wS ?_|refine wE ?_|(refine wC rfl ?_ ?_<;>(intro hb;(try simp only [nm] at hb);try (exfalso;omega)))|(refine cK (id := 4) 53 zI9 (rM 18 17) zJ0 cM rfl (by decide +kernel) (dN rfl (dN rfl (dV rfl (gN rfl rfl) (dM ?_))));refine qN rfl rfl rfl rfl ?_ ?_<;>(intro hb;rw [hb];(try simp only [nm] at hb);try (exfalso;omega))<;>(refine tM ?_);(all_goals (refine tN rfl (tN rfl (dT rfl (by exact aL T rfl rfl rfl rfl rfl (by omega) (by omega)) ?_));refine dT rfl (by exact aS T rfl rfl (bI rfl q1) rfl) ?_;refine tN rfl (tN rfl (dT rfl (cJ rfl rfl (by omega) (by omega)) (dT rfl (by exact aL T rfl rfl rfl rfl rfl (by omega) (by omega)) ?_)));refine dT rfl (by exact aS T rfl rfl (bI rfl q2) rfl) ?_;refine dT rfl (kC (hc)) (dT rfl (aN rfl rfl) (dV rfl (jM rfl rfl) (dE ?_))))))|(refine iA 2 rfl rfl rfl (by omega) (by omega) ?_)|refine nZ ?_));all_goals first | (exfalso;omega) | exact ⟨⟨i + 1,by omega,by omega⟩,by dsimp only;omega,⟨[0],rfl,by (repeat (first | exact trivial | refine ⟨rfl,?_⟩)),⟨.inr (aG rfl (by dsimp only;rw [ee]) (dX _)),trivial⟩,by decide,kI⟩⟩
    · obtain rfl : i = b := by omega
      (repeat' (first|refine wS ?_|refine wE ?_|(refine wC rfl ?_ ?_<;>(intro hb;(try simp only [nm] at hb);try (exfalso;omega)))|(refine rg 1 (eG rfl (vV (aN rfl rfl) ?_)))|refine nZ ?_));all_goals first | (exfalso;omega) | exact ⟨.inl rfl,[0],_,rfl,rfl,rfl,⟨.inr (aG rfl rfl (dX _)),trivial⟩,by decide,kI⟩ | exact ⟨.inr rfl,[0],_,rfl,rfl,rfl,⟨.inr (aG rfl rfl (dX _)),trivial⟩,by decide,kI⟩
  · obtain rfl : a = b := by omega
    rw [JC hb];refine bK T Tryz.func141 rfl rfl rfl rfl ?_
    (repeat' (first|refine wS ?_|refine wB ?_|(refine iA 0 rfl rfl rfl (by omega) (by omega) ?_)|refine nZ ?_));refine cT (X := Unit) (fun _ => [(0,.sl 0 0 l.length 2),(1,.i a),(2,.i a),(3,GA),(8,.i ((a : Int) + 1))]) (fun _ => [.arr (gZ l) 2]) (fun _ => 0) () ⟨[0],rfl,by (repeat (first | exact trivial | refine ⟨rfl,?_⟩)),⟨.inr (aG rfl rfl (dX _)),trivial⟩,by decide,kI⟩ ?_
    intro _;dsimp only
    (repeat' (first|refine wS ?_|refine wE ?_|(refine wC rfl ?_ ?_<;>(intro hb;(try simp only [nm] at hb);try (exfalso;omega)))|(refine rg 1 (eG rfl (vV (aN rfl rfl) ?_)))|refine nZ ?_));all_goals first | (exfalso;omega) | exact ⟨.inl rfl,[0],_,rfl,rfl,rfl,⟨.inr (aG rfl rfl (dX _)),trivial⟩,by decide,kI⟩ | exact ⟨.inr rfl,[0],_,rfl,rfl,rfl,⟨.inr (aG rfl rfl (dX _)),trivial⟩,by decide,kI⟩
end Go.Proofs.YtbialaoigijlgaaGreatDoor
namespace Go.Ld
open Go.Ab Go.Proofs.YtbialaoigijlgaaGreatDoor
def TH (n : Nat) : Int := [0,1,2,2,3,3,3,3,4,4,4,4,4].getD n 0
end Go.Ld
namespace Go.Proofs.YtbialaoigijlgaaGreatDoor
open Go Go.Ab Go.Ld
attribute [local irreducible] VC AW bT aQ D3 GR
set_option maxHeartbeats 4000000
theorem zD0 : D3 Tryz.prog 179 .u64 := by unfold D3;kernel_rfl
theorem zF5 : D3 Tryz.prog 5 .u8 := by unfold D3;kernel_rfl
theorem zD1 : GR Tryz.prog 9 := by unfold GR;kernel_rfl
theorem TJ (n : Nat) (h : n ≤ 12) : aQ Tryz.prog 136 [.v (.int .u64 n)] [] (.i (TH n)) [] := by
  rcases (by omega : n = 0 ∨ n = 1 ∨ n = 2 ∨ n = 3 ∨ n = 4 ∨ n = 5 ∨ n = 6 ∨ n = 7 ∨ n = 8 ∨ n = 9 ∨ n = 10 ∨ n = 11 ∨ n = 12) with rfl | rfl | rfl | rfl | rfl | rfl | rfl | rfl | rfl | rfl | rfl | rfl | rfl
  all_goals
    refine bK T Tryz.func136 rfl rfl rfl rfl ?_
    (repeat' (first|refine wS ?_|refine wK ?_|refine wR ?_|refine wU ?_|(refine rg 0 (aV ?_))|(refine rg 1 (mW rfl (vV (kR rfl rfl) ?_)))|(refine rg 4 (mW rfl (vV (kR rfl rfl) ?_)))|(refine rg 7 (mW rfl (vV (kR rfl rfl) ?_)))|(refine rg 10 (eG rfl (vV (iC zD0 zF5 rfl rfl) (vV (by exact KR zD1 rfl rfl (by decide) rfl) ?_)));refine vV (iC zF5 uN rfl rfl) (vV (PE rfl rfl) (aV ?_)))|refine nZ ?_));all_goals first | (exfalso;omega) | exact rQ
theorem WY (n : Nat) (h : n ≤ 12) : aQ Tryz.prog 99 [.v (.int .u64 n)] [] (.i (TH n)) [] := by
  have hc := TJ n h;refine bK T Tryz.func99 rfl rfl rfl rfl ?_
  (repeat' (first|refine wS ?_|refine wK ?_|refine wR ?_|refine wU ?_|(refine rg 0 (aV ?_))|(refine rg 2 (mW rfl (vV (kC (hc)) (aV ?_))))|refine nZ ?_));all_goals first | (exfalso;omega) | exact rQ
theorem ZK (l : List G) (hdl : H6 l) (hl : l.length ≤ 12) (hw : ∀ g,g ∈ l → YP g) (lim : Int) : aQ Tryz.prog 125 [.sl 0 0 l.length 2,.i 0,.i l.length,.i lim,GA] [.arr (gZ l) 2] (.tup []) [.arr (gZ (dK cG l)) 2] := by
  have hc := KG l 0 l.length (bW _) (aX _) hdl (by omega) hw
  rw [show G8 l 0 l.length = dK cG l by unfold G8;simp] at hc
  refine bK T Tryz.func125 rfl rfl rfl rfl ?_
  (repeat' (first|refine wS ?_|refine wB ?_|(refine rg 0 (aV ?_))|(refine rg 1 (aV ?_))|refine nZ ?_));refine cT (X := Unit) (fun _ => [(0,.sl 0 0 l.length 2),(1,.i 0),(2,.i l.length),(3,.i lim),(4,GA)]) (fun _ => [.arr (gZ l) 2]) (fun _ => 0) () ⟨[0],rfl,by (repeat (first | exact trivial | refine ⟨rfl,?_⟩)),⟨.inr (aG rfl rfl (dX _)),trivial⟩,by decide,kI⟩ ?_
  intro _;dsimp only
  (repeat' (first|refine wS ?_|refine wB ?_|refine wR ?_|(refine wC rfl ?_ ?_<;>(intro hb;(try simp only [nm] at hb);try (exfalso;omega)))|(refine rg 2 (eG rfl (vV (cJ rfl rfl (by omega) (by omega)) (aV ?_))))|(refine rg 3 (mW rfl (vV (oC rfl rfl) ?_)))|(refine rg 4 (eG rfl (eG rfl (dW [0] rfl rfl (hc) rfl rfl (by decide) ⟨.inr (aG rfl rfl (dX _)),trivial⟩ (by simp) rfl ?_))))|refine nZ ?_));all_goals first | (exfalso;omega) | exact ⟨.inl rfl,[0],_,rfl,rfl,rfl,⟨.inr (aG rfl (cC _ (dX _)) (dX _)),trivial⟩,by decide,kI⟩
theorem SQ (l : List G) (hdl : H6 l) (hl : l.length ≤ 12) (hw : ∀ g,g ∈ l → YP g) : aQ Tryz.prog 95 [.sl 0 0 l.length 2,GA] [.arr (gZ l) 2] (.tup []) [.arr (gZ (dK cG l)) 2] := by
  have h1 := WY l.length hl;have h2 := ZK l hdl hl hw (TH l.length);have hw1 : IntKind.u64.wrap (l.length : Int) = (l.length : Int) := BH (by omega) (by omega)
  generalize TH l.length = q at *;refine bK T Tryz.func95 rfl rfl rfl rfl ?_
  (repeat' (first|refine wS ?_|(refine rg 0 (mW rfl (qW T rfl (aV ?_))))|(refine rg 1 (eG rfl (mW rfl (vV (iC uN oS rfl hw1) (vV (by exact eS rfl rfl h1 rfl rfl rfl) ?_))));refine mW rfl (dW [0] rfl rfl (h2) rfl rfl (by decide) ⟨.inr (aG rfl rfl (dX _)),trivial⟩ (by simp) rfl ?_))|refine nZ ?_));all_goals first | (exfalso;omega) | exact ⟨.inl rfl,[0],_,rfl,rfl,rfl,⟨.inr (aG rfl (cC _ (dX _)) (dX _)),trivial⟩,by decide,kI⟩ | exact ⟨.inr rfl,[0],_,rfl,rfl,rfl,⟨.inr (aG rfl (cC _ (dX _)) (dX _)),trivial⟩,by decide,kI⟩
end Go.Proofs.YtbialaoigijlgaaGreatDoor
namespace Go.Ld
open Go.Ab Go.Proofs.YtbialaoigijlgaaGreatDoor
def sF (g : G) : List G := mD g.1.length g
theorem FK {g : G} {k : Nat} (h : gQ g = some k) : sF g = mM g k :: sF (jK g k) := by
  obtain ⟨h1,_,h3,_⟩ := jF h;have e : (jK g k).1.length = g.1.length - 1 := by show (g.1.eraseIdx k).length = _;rw [fK,if_pos h3]
  unfold sF;rw [e];obtain ⟨m,hm⟩ : ∃ m,g.1.length = m + 1 := ⟨g.1.length - 1,by omega⟩
  rw [hm,LO,mD,h]
theorem L3 {g : G} (h : gQ g = none) : sF g = [g] := by
  unfold sF;cases hl : g.1.length with
  | zero => rfl
  | succ m => rw [mD,h]
theorem DX (g : G) (k : Nat) : gQ (mM g k) = none := by unfold gQ;rw [if_pos (.inl (by show 1 < 2;omega))]
theorem JM (g : G) (k : Nat) : sF (mM g k) = [mM g k] := L3 (DX g k)
structure mA (n : Nat) (o : List G) : Prop where
  ok : ∀ g,g ∈ o → G6 n g
  nd : (o.flatMap (·.1)).Nodup
  ln : (o.flatMap (·.1)).length ≤ 12
  ws : ∀ g,g ∈ o → g.2.length ≤ 2000
theorem vO {o : List G} {g : G} {b : Int} (h : g ∈ o) (hb : b ∈ g.1) : b ∈ o.flatMap (·.1) := nA.2 ⟨g,h,hb⟩
theorem I3 : ∀ {o : List G}, (o.flatMap (·.1)).Nodup → ∀ {a b : G} {x : Int}, a ∈ o → b ∈ o → x ∈ a.1 → x ∈ b.1 → a = b
  | [],_,a,b,x,ha,_,_,_ => by cases ha
  | g :: o,h,a,b,x,ha,hb,hxa,hxb => by
    rw [bZ] at h;obtain ⟨h1,h2,h3⟩ := gG.1 h;rcases bY.1 ha with e1 | ha' <;> rcases bY.1 hb with e2 | hb'
    · rw [e1,e2]
    · exact absurd rfl (h3 x (e1 ▸ hxa) x (vO hb' hxb))
    · exact absurd rfl (h3 x (e2 ▸ hxb) x (vO ha' hxa))
    · exact I3 h2 ha' hb' hxa hxb
theorem mA.dist {n : Nat} {o : List G} (h : mA n o) : H6 o := by
  intro a b ha hb e;have e' : a.1.headD 0 = b.1.headD 0 := (oD.eq _ _).1 e;have hm : ∀ g : G,g.1 ≠ [] → g.1.headD 0 ∈ g.1 := fun g hg => by
    cases hq : g.1 with
    | nil => exact absurd hq hg
    | cons x l => simp
  exact I3 h.nd ha hb (hm a (h.ok a ha).ne) (e' ▸ hm b (h.ok b hb).ne)
theorem mA.len {n : Nat} {o : List G} (h : mA n o) : o.length ≤ (o.flatMap (·.1)).length := by
  have : ∀ o : List G,(∀ g,g ∈ o → g.1 ≠ []) → o.length ≤ (o.flatMap (·.1)).length := by
    intro o
    induction o with
    | nil => intro _;simp
    | cons g o ih =>
      intro hg;rw [bZ,aD,List.length_cons];have := ih fun g h => hg g (aY _ h);have : 0 < g.1.length := dZ.2 (hg g bB);omega
  exact this o fun g hg => (h.ok g hg).ne
theorem mA.hd {n : Nat} {o : List G} (h : mA n o) : ∀ g,g ∈ o → YP g := fun g hg => ⟨dZ.2 (h.ok g hg).ne,by have := (h.ok g hg).ln;omega⟩
theorem mA.perm {n : Nat} {o p : List G} (h : mA n o) (hp : p.Perm o) : mA n p where
  ok g hg := h.ok g (hp.mem_iff.1 hg)
  nd := (hp.flatMap_right _).nodup_iff.2 h.nd
  ln := by rw [(hp.flatMap_right _).length_eq];exact h.ln
  ws g hg := h.ws g (hp.mem_iff.1 hg)
theorem G6.sz {n : Nat} {g : G} (h : G6 n g) (hw : g.2.length ≤ 2000) : YO g := ⟨by have := h.ln;omega,by omega,fun w hw => (h.ws w hw).pl,fun w hw => (h.ws w hw).cl⟩
theorem rY {α : Type} {o : List α} {i : Nat} {x y : α} (h : o[i]? = some x) : ∃ A B,o = A ++ x :: B ∧ o.set i y = A ++ y :: B := by
  obtain ⟨hi,e⟩ := aA.1 h;refine ⟨o.take i,o.drop (i + 1),?_,?_⟩
  · rw [← e,← aT hi,bG]
  · rw [List.set_eq_take_append_cons_drop,if_pos hi]
def T1 (o : List G) (i k : Nat) (g : G) : List G := dK cG (o.set i (jK g k) ++ [mM g k])
theorem CS {o : List G} {i k : Nat} {g : G} (h : o[i]? = some g) (hk : k < g.1.length) : ((o.set i (jK g k) ++ [mM g k]).flatMap (·.1)).Perm (o.flatMap (·.1)) := by
  obtain ⟨A,B,e1,e2⟩ := rY (y := jK g k) h;rw [e2,e1];simp only [fP,bZ,VK,List.append_nil,bE];refine List.Perm.append_left _ ?_;have h1 : (g.1.getD k 0 :: g.1.eraseIdx k).Perm g.1 := iN g.1 k 0 hk;have h2 : ((jK g k).1 ++ (B.flatMap (·.1) ++ (mM g k).1)).Perm ((mM g k).1 ++ ((jK g k).1 ++ B.flatMap (·.1))) := by
    rw [← bE];exact uL
  refine h2.trans ?_;rw [← bE];exact List.Perm.append_right _ h1
theorem HO {n : Nat} {o : List G} {i k : Nat} {g : G} (ok : mA n o) (h : o[i]? = some g) (hc : gQ g = some k) : mA n (o.set i (jK g k) ++ [mM g k]) := by
  have hg := aJ h;have hk := (jF hc).2.2.1;have hb := CS h hk;have hm : ∀ x,x ∈ o.set i (jK g k) ++ [mM g k] → x ∈ o ∨ x = jK g k ∨ x = mM g k := fun x hx => by
    rcases bQ.1 hx with hx | hx
    · rcases iG hx with hx | hx
      · exact .inl hx
      · exact .inr (.inl hx)
    · exact .inr (.inr (dS.1 hx))
  refine ⟨fun x hx => ?_,hb.nodup_iff.2 ok.nd,by rw [hb.length_eq];exact ok.ln,fun x hx => ?_⟩
  · rcases hm x hx with hx | rfl | rfl
    · exact ok.ok x hx
    · exact (ok.ok g hg).rest hc
    · exact (ok.ok g hg).one hc
  · rcases hm x hx with hx | rfl | rfl
    · exact ok.ws x hx
    · have := vG (g.2.map fun w => (w.1.eraseIdx k,w.2.1,w.2.2.eraseIdx k));rw [bN] at this;exact bX this (ok.ws g hg)
    · show 1 ≤ 2000;omega
theorem JP {o : List G} {i k : Nat} {g : G} (h : o[i]? = some g) (hc : gQ g = some k) : ((o.set i (jK g k) ++ [mM g k]).flatMap sF).Perm (o.flatMap sF) := by
  obtain ⟨A,B,e1,e2⟩ := rY (y := jK g k) h;rw [e2,e1];simp only [fP,bZ,VK,List.append_nil,bE,FK hc,JM];refine List.Perm.append_left _ ?_;rw [← bE];exact uL
def VM (o : List G) : Nat := (o.map fun g => g.1.length - 1).sum
theorem LW {o p : List G} (h : p.Perm o) : VM p = VM o := (h.map _).sum_nat
theorem OB {o : List G} {i k : Nat} {g : G} (h : o[i]? = some g) (hc : gQ g = some k) : VM (o.set i (jK g k) ++ [mM g k]) + 1 = VM o := by
  obtain ⟨A,B,e1,e2⟩ := rY (y := jK g k) h;obtain ⟨h1,_,h3,_⟩ := jF hc;have e : (jK g k).1.length = g.1.length - 1 := by show (g.1.eraseIdx k).length = _;rw [fK,if_pos h3]
  rw [e2,e1];unfold VM;simp only [cN,List.map_cons,List.map_nil,YL,List.sum_cons,List.sum_nil,e];have : (mM g k).1.length = 1 := rfl;omega
structure nG (n : Nat) (L o : List G) (i : Nat) : Prop where
  ok : mA n o
  up : EI o
  fl : (o.flatMap sF).Perm (L.flatMap sF)
  hi : i ≤ o.length
  no : ∀ (j : Nat) (g : G),j < i → o[j]? = some g → gQ g = none
theorem nG.start {n : Nat} {L : List G} (ok : mA n L) (up : EI L) : nG n L L 0 := ⟨ok,up,.refl _,bW _,fun j g h => absurd h (dD _)⟩
theorem nG.keep {n : Nat} {L o : List G} {i : Nat} {g : G} (p : nG n L o i) (h : o[i]? = some g) (hc : gQ g = none) : nG n L o (i + 1) where
  ok := p.ok
  up := p.up
  fl := p.fl
  hi := (aA.1 h).1
  no j x hj hx := by
    rcases gS j i with h' | h'
    · exact p.no j x h' hx
    · obtain rfl : j = i := by omega
      rw [h] at hx;cases hx;exact hc
theorem nG.next {n : Nat} {L o : List G} {i k : Nat} {g : G} (p : nG n L o i) (h : o[i]? = some g) (hc : gQ g = some k) : nG n L (T1 o i k g) 0 where
  ok := (HO p.ok h hc).perm (dJ _ _)
  up := pX _
  fl := ((dJ cG _).flatMap_right _).trans ((JP h hc).trans p.fl)
  hi := bW _
  no j g h := absurd h (dD _)
theorem nG.fin {n : Nat} {L o : List G} {i : Nat} (p : nG n L o i) (hi : o.length ≤ i) : xH L = o := by
  have e : o.flatMap sF = o := by
    have : ∀ g,g ∈ o → sF g = [g] := fun g hg => by
      obtain ⟨j,hj,e⟩ := pD.1 hg;exact L3 (p.no j g (by omega) (by rw [aB hj,e]))
    clear p hi
    induction o with
    | nil => rfl
    | cons g o ih => rw [bZ,this g bB,ih fun g h => this g (aY _ h)];rfl
  have hp := p.fl;rw [e] at hp;show dK cG (L.flatMap sF) = o;exact BW (p.ok.dist.perm hp.symm) hp p.up
theorem MJ {l : List G} {k : Nat} (h : k < l.length) : tB (l.take (k + 1)) = tB (l.take k) + jL l[k] := by
  unfold tB;rw [aO h,cN,YL];simp
theorem W2 : ∀ {l : List G}, (∀ g, g ∈ l → 0 ≤ jL g ∧ jL g ≤ 4000000) → 0 ≤ tB l ∧ tB l ≤ 4000000 * l.length
  | [],_ => by simp [tB]
  | g :: l,h => by
    have h1 := h g bB;have h2 := W2 (l := l) fun g hg => h g (aY _ hg);have e : tB (g :: l) = jL g + tB l := by simp [tB]
    rw [e,List.length_cons];omega
abbrev fQ (c : Cx) (gs : List G) : List AV := [.i c.m,.i c.st,.i c.er,.i c.sl,.rowE (lS c.ks) 2,.rowE (qI c.ls) 3,.rowE (gJ c.bs) 3,.rowE (gZ gs) 2]
theorem KA (c : Cx) (r : Int) (l : List W) : fN (fun w => decide (w.2.1 + r > c.m)) l = l.filter fun w => decide (w.2.1 + r ≤ c.m) := by
  unfold fN;congr 1;funext w;show (!decide (w.2.1 + r > c.m)) = decide (w.2.1 + r ≤ c.m);by_cases h : w.2.1 + r ≤ c.m
  · rw [decide_eq_true h,decide_eq_false (by omega)];rfl
  · rw [decide_eq_false h,decide_eq_true (by omega)];rfl
theorem JO {c : Cx} {all : List G} {k : Nat} (h : k < all.length) : (paid c all).take (k + 1) = (paid c all).take k ++ [(all[k].1,fN (fun w => decide (w.2.1 + (tB all - jL all[k]) > c.m)) all[k].2)] := by
  rw [KA];unfold paid;rw [← jU,← jU,aO h,cN];rfl
theorem NW (c : Cx) (all : List G) : (paid c all).length = all.length := by unfold paid;rw [bN]
theorem B2 (c : Cx) (all : List G) : (paid c all).flatMap (·.1) = all.flatMap (·.1) := by
  unfold paid;rw [P3]
theorem G6.sub {n : Nat} {g : G} (h : G6 n g) {ws : List W} (hs : ∀ w,w ∈ ws → w ∈ g.2) : G6 n (g.1,ws) := ⟨h.ne,h.up,h.rg,h.ln,fun w hw => h.ws w (hs w hw),fun w v hw hv => h.same w v (hs w hw) (hs v hv)⟩
theorem mA.paid {n : Nat} {all : List G} (h : mA n all) (c : Cx) : mA n (paid c all) where
  ok g hg := by
    obtain ⟨x,hx,rfl⟩ := bL.1 hg;exact (h.ok x hx).sub fun w hw => (YM.1 hw).1
  nd := by rw [B2];exact h.nd
  ln := by rw [B2];exact h.ln
  ws g hg := by
    obtain ⟨x,hx,rfl⟩ := bL.1 hg;exact bX (BB _ _) (h.ws x hx)
theorem GV {c : Cx} {all : List G} (h : EI all) : EI (paid c all) := by
  unfold paid;refine RQ.2 (h.imp fun h => h)
theorem T7 {n : Nat} {g : G} (h : G6 n g) (hne : g.2 ≠ []) : 0 ≤ jL g ∧ jL g ≤ 4000000 := by
  obtain ⟨w,hw,e⟩ := JZ hne;have := h.ws w hw;rw [← e];exact ⟨this.m0,this.m1⟩
end Go.Ld
namespace Go.Proofs.YtbialaoigijlgaaGreatDoor
open Go Go.Ab Go.Ld
attribute [local irreducible] VC AW bT aQ
set_option maxHeartbeats 4000000
theorem SH (c : Cx) (gs : List G) (w : W) (r : Int) (h1 : 0 ≤ w.2.1 ∧ w.2.1 ≤ 4000000) (h2 : -100000000 ≤ r ∧ r ≤ 100000000) : aQ Tryz.prog 92 [P7 w,.pr [.i r] 0,.pr [.pr (fQ c gs) 0] 0] [] (.b (decide (w.2.1 + r > c.m))) [] := by
  refine bK T Tryz.func92 rfl rfl rfl rfl ?_
  (repeat' (first|refine wS ?_|refine wR ?_|(refine rg 0 (bS (cW rfl rfl) rfl (aV ?_)))|(refine cK (id := 1) 15 [[],[0],[],[0,1,2],[],[4],[4,5],[4,5,6],rM 4 4,rN 9] (rM 5 10) [[],[],[5,6],[],rM 5 4,rM 5 4,rM 5 4,rM 5 4,rM 5 4,[]] cM rfl (by decide +kernel) (dP T rfl (dO T rfl (dO T rfl (dV rfl (bF rfl rfl (by omega) (by omega)) (dO T rfl (dV rfl (by exact dR rfl rfl) ?_))))));refine dP T rfl (dP T rfl (dO T rfl (dV rfl (gN rfl rfl) (dE ?_))));refine aV ?_)|refine nZ ?_));all_goals first | (exfalso;omega) | exact rQ
end Go.Proofs.YtbialaoigijlgaaGreatDoor
namespace Go.Ab
open Go
theorem GM {P : Program} {f : FuncId} {n : Nat} (hfn : ∃ fn, P.funcs[f]? = some fn ∧ (fn.name == "runtime.NumGoroutine") = false ∧ fn.body.isNone = false)
    (hs : ∀ w : World,Calls P f #[.slice none 0 0,.int .i64 n] w fun e w' => ∃ (g : Nat) (cs : Array Value) (t : TypeId),e = .returned (.slice (some ⟨w.heap.size,0,none⟩) 0 g) ∧ g ≤ maxLen ∧ g ≤ cs.size ∧ w' = w.drew.alloc (.cells cs t)) :
    aQ P f [.nils,.i n] [] (.sl 0 0 0 1) [.arr [] 1] := by
  refine ⟨hfn,fun ρ S w vs s ha => ?_⟩
  simp only [RL,R] at ha;obtain ⟨y,_,rfl,rfl,y2,_,rfl,rfl,rfl⟩ := ha;refine (hs w).mono fun e w' ⟨g,cs,t,he,hg,hgc,hw⟩ => ?_
  subst hw;have hnew : (w.drew.alloc (.cells cs t)).heap[w.heap.size]? = some (.cells cs t (0,0)) := (MapKept.heap_alloc w.drew _).1;obtain ⟨ρ', g1, g2, _⟩ := s.made (x := .sl 0 0 0 1) (b := .arr [] 1) (y := .slice (some ⟨w.heap.size, 0, none⟩) 0 g) (q := some (w.heap.size, 0)) ((kY.drew1 w).trans (lG w.drew (.cells cs t) (fun _ => False)) (fun _ h => h.elim)) (fun p hp => by cases hp; exact ⟨aX _, by rw [World.size_alloc]; exact Nat.lt_succ_self _⟩)
    (fun ρ' e1 e2 l' => ⟨by simp only [R];exact ⟨_,_,rfl,hg,.inr ⟨_,_,e1,rfl,bW _,⟨cs,t,(0,0),hnew,by omega⟩⟩⟩,⟨(fun e he => nomatch he),WD,.inl ⟨rfl,fun b o hbo => by cases hbo;exact ⟨cs,t,hnew⟩⟩⟩⟩)
  exact ⟨_,ρ',S,he,g1,g2⟩
end Go.Ab
namespace Go.Proofs.YtbialaoigijlgaaGreatDoor
open Go Go.Ab Go.Ld Go.Shelf Go.Proofs
attribute [local irreducible] VC AW bT aQ
set_option maxHeartbeats 4000000
shelf_lay_g Lays8.n4 Nm8 4 at Tryz 108 as laysGrow
theorem XK (n : Nat) (h0 : 0 < n) (h1 : n ≤ 1000000) : aQ Tryz.prog 108 [.nils,.i n] [] (.sl 0 0 0 1) [.arr [] 1] := by
  obtain ⟨inf,z,t1,t2,t3,t4,t5,t6,t7⟩ := T.tiOk 3 _ rfl;have hz : z.cells.size = 1 := by have := congrArg List.length t5;simpa using this
  refine GM ⟨_,Tryz.func108,by kernel_rfl,by kernel_rfl⟩ (fun w => ?_)
  refine (Any8.slices_Grow_grow laysGrow inf z t1 t4 (by rw [t2];decide) none 0 0 n [] w (aX _) (by omega) (by rw [t3];simp;omega) (by omega) (by simp) (fun _ => rfl) (fun a h => by cases h)).mono ?_
  rintro e w' ⟨rfl,rfl⟩;have hge := grownCap_ge w (0 + n) 0 3;refine ⟨_,_,_,rfl,grownCap_le_maxLen w _ _ _ (by unfold maxLen;omega),?_,rfl⟩
  simp only [RX,Builtin.zeroCells,Array.size_map,Array.size_range,hz,kG,List.length_nil];omega
theorem PT (p q : List Int) (hp : 0 < p.length ∧ p.length ≤ 1000) (hq : 0 < q.length ∧ q.length ≤ 1000) : aQ Tryz.prog 72 [.rowE [[.rowE (ints p) 1],[.rowE (ints q) 1]] 1] [] (.rowE (ints (p ++ q)) 1) [] := by
  have hgr := XK (p.length + q.length) (by omega) (by omega)
  rw [show ((p.length + q.length : Nat) : Int) = (p.length : Int) + q.length by omega] at hgr
  have hlp : (ints p).length = p.length := cY _;have hlq : (ints q).length = q.length := cY _;have hpq : ints (p ++ q) = ints p ++ ints q := cN;have hle : ∀ e,e ∈ [[AV.rowE (ints p) 1],[AV.rowE (ints q) 1]] → e.length = 1 := by intro e he;simp at he;rcases he with rfl | rfl <;> rfl
  have g0 : [[AV.rowE (ints p) 1],[AV.rowE (ints q) 1]][((0 : Nat) : Int).toNat]? = some [AV.rowE (ints p) 1] := rfl;have g1 : [[AV.rowE (ints p) 1],[AV.rowE (ints q) 1]][((1 : Nat) : Int).toNat]? = some [AV.rowE (ints q) 1] := rfl;refine nT (by rw [cY] : (p ++ q).length = (ints (p ++ q)).length) (gI (bO _)) ?_
  rw [hpq,aD];have o1 := zD p;have o2 := zD q;have n1 := cP p;have n2 := cP q;have i1 := bO p;have i2 := bO q;generalize ints p = P' at *;generalize ints q = Q' at *;obtain ⟨sz,s0,s1,s2⟩ : ∃ sz : Nat → Int,sz 0 = 0 ∧ sz 1 = P'.length ∧ sz 2 = P'.length + Q'.length := ⟨fun k => if k = 0 then 0 else if k = 1 then (P'.length : Int) else P'.length + Q'.length,by simp,by simp,by simp⟩
  obtain ⟨cc,c0,c1,c2⟩ : ∃ cc : Nat → List (List AV),cc 0 = [] ∧ cc 1 = P' ∧ cc 2 = P' ++ Q' := ⟨fun k => if k = 0 then [] else if k = 1 then P' else P' ++ Q',by simp,by simp,by simp⟩
  refine bK T Tryz.func72 rfl rfl rfl rfl ?_
  (repeat' (first|refine wS ?_|refine wB ?_|(refine rg 0 (aV ?_))|(refine rg 1 (aV ?_))|(refine rg 2 (mW rfl (qW T rfl (mV ?_))))|refine nZ ?_));refine cT (X := {k : Nat // k ≤ 2}) (fun k => [(0,.rowE [[.rowE P' 1],[.rowE Q' 1]] 1),(3,.i (sz k.1)),(9,.rowE [[.rowE P' 1],[.rowE Q' 1]] 1),(10,.i 2),(11,.i k.1)]) (fun _ => []) (fun k => 2 - k.1) ⟨0,by omega⟩ ⟨[],rfl,⟨rfl,by rw [s0];rfl,rfl,rfl,rfl,trivial⟩,trivial,dA,jJ _⟩ ?_
  rintro ⟨k,hk⟩;dsimp only;rcases (by omega : k = 0 ∨ k = 1 ∨ k = 2) with rfl | rfl | rfl
  · (repeat' (first|refine wS ?_|refine wB ?_|refine wK ?_|refine O2 rfl ?_|(refine wC rfl (fun hb => ?_) (fun hb => ?_) <;> (((try simp only [nm] at hb);try (exfalso;omega))))|(refine rg 3 (vV (aN rfl rfl) ?_))|(refine rg 4 (vV (ix T rfl (by omega) hle g0) (lW T rfl (aV ?_))))|(refine rg 5 (eG rfl (qW T rfl (vV (bF rfl rfl (by omega) (by omega)) (aV ?_)))))|(refine rg 6 (mW rfl (vV (aN rfl rfl) ?_)))|(refine rg 8 (vV (bF rfl rfl (by omega) (by omega)) (mV ?_)))|(refine nZ ?_)));all_goals first | (exfalso;omega) | exact ⟨⟨1,by omega⟩,by dsimp only;omega,[],rfl,⟨rfl,by dsimp only;rw [show sz 1 = sz 0 + P'.length by omega];rfl,rfl,rfl,rfl,trivial⟩,trivial,dA,jJ _⟩
  · (repeat' (first|refine wS ?_|refine wB ?_|refine wK ?_|refine O2 rfl ?_|(refine wC rfl (fun hb => ?_) (fun hb => ?_) <;> (((try simp only [nm] at hb);try (exfalso;omega))))|(refine rg 3 (vV (aN rfl rfl) ?_))|(refine rg 4 (vV (ix T rfl (by omega) hle g1) (lW T rfl (aV ?_))))|(refine rg 5 (eG rfl (qW T rfl (vV (bF rfl rfl (by omega) (by omega)) (aV ?_)))))|(refine rg 6 (mW rfl (vV (aN rfl rfl) ?_)))|(refine rg 8 (vV (bF rfl rfl (by omega) (by omega)) (mV ?_)))|(refine nZ ?_)));all_goals first | (exfalso;omega) | exact ⟨⟨2,by omega⟩,by dsimp only;omega,[],rfl,⟨rfl,by dsimp only;rw [show sz 2 = sz 1 + Q'.length by omega];rfl,rfl,rfl,rfl,trivial⟩,trivial,dA,jJ _⟩
  · rw [← hlp,← hlq,← s2] at hgr
    (repeat' (first|refine wS ?_|refine wB ?_|refine wE ?_|refine wU ?_|(refine rg 3 (vV (aN rfl rfl) ?_))|(refine rg 9 (mW rfl (bS (by exact fM rfl rfl hgr (.inr ⟨rfl,rfl,by simp⟩)) rfl ?_));refine aV ?_)|(refine rg 10 (mW rfl (qW T rfl (mV ?_))))|refine nZ ?_));all_goals try (exfalso;omega)
    refine cT (X := {k : Nat // k ≤ 2}) (fun k => [(6,.sl 0 0 (cc k.1).length 1),(25,.rowE [[.rowE P' 1],[.rowE Q' 1]] 1),(26,.i 2),(27,.i k.1)]) (fun k => [.arr (cc k.1) 1]) (fun k => 2 - k.1) ⟨0,by omega⟩ ⟨[0],rfl,⟨by dsimp only;rw [c0];rfl,rfl,rfl,rfl,trivial⟩,⟨.inr (aG rfl (by dsimp only;rw [c0];rfl) (by rw [c0];intro e he;cases he)),trivial⟩,by decide,jJ _⟩ ?_
    clear hk;rintro ⟨k,hk⟩;dsimp only;rcases (by omega : k = 0 ∨ k = 1 ∨ k = 2) with rfl | rfl | rfl
    · rw [c0]
      (repeat' (first|refine wS ?_|refine wB ?_|refine wK ?_|refine wT ?_|(refine rg 11 (vV (aN rfl rfl) ?_))|(refine rg 12 (vV (ix T rfl (by omega) hle g0) (lW T rfl (aV ?_))))|(refine rg 13 (eG rfl (fY T rfl rfl rfl rfl rfl rfl (by simp) (.row n1) o1 (by simp;omega) (by simp;omega) rfl ?_));refine aV ?_)|(refine rg 14 (vV (bF rfl rfl (by omega) (by omega)) (mV ?_)))|refine nZ ?_));all_goals first | (exfalso;omega) | skip
      exact ⟨⟨1,by omega⟩,by dsimp only;omega,⟨[1],rfl,⟨by dsimp only;rw [c1];show some (AV.sl 1 0 (0 + P'.length) 1) = some (AV.sl 1 0 P'.length 1);rw [Nat.zero_add],rfl,rfl,rfl,trivial⟩,⟨.inr (aG rfl (by dsimp only;rw [c1];rfl) (by rw [c1];exact i1)),trivial⟩,by decide,jJ _⟩⟩
    · rw [c1]
      (repeat' (first|refine wS ?_|refine wB ?_|refine wK ?_|refine wT ?_|(refine rg 11 (vV (aN rfl rfl) ?_))|(refine rg 12 (vV (ix T rfl (by omega) hle g1) (lW T rfl (aV ?_))))|(refine rg 13 (eG rfl (fY T rfl rfl rfl rfl rfl rfl (by omega) (.row n2) o2 (by (simp;omega)) (by omega) rfl ?_));refine aV ?_)|(refine rg 14 (vV (bF rfl rfl (by omega) (by omega)) (mV ?_)))|refine nZ ?_));all_goals first | (exfalso;omega) | skip
      exact ⟨⟨2,by omega⟩,by dsimp only;omega,⟨[1],rfl,⟨by dsimp only;rw [c2,aD];rfl,rfl,rfl,rfl,trivial⟩,⟨.inr (aG rfl (by dsimp only;rw [c2,nC,cO]) (by rw [c2];intro e he;rcases bQ.1 he with he | he;exact i1 e he;exact i2 e he)),trivial⟩,by decide,jJ _⟩⟩
    · rw [c2,aD]
      (repeat' (first|refine wS ?_|refine wR ?_|refine wE ?_|refine wU ?_|(refine rg 11 (vV (aN rfl rfl) ?_))|(refine rg 15 (mW rfl (aV ?_)))|refine nZ ?_));all_goals first | (exfalso;omega) | exact ⟨.inl rfl,[0],_,rfl,by rw [hlp,hlq];rfl,rfl,⟨.inr (aG rfl rfl (by intro e he;rcases bQ.1 he with he | he;exact i1 e he;exact i2 e he)),trivial⟩,by decide,jJ _⟩
theorem DU (l : List G) (hl : l.length ≤ 1000000) : aQ Tryz.prog 35 [.rowE (gZ l) 2] [] (.sl 0 0 l.length 2) [.arr (gZ l) 2] := by
  have hll : (gZ l).length = l.length := gY l;refine bK T Tryz.func35 rfl rfl rfl rfl ?_
  repeat' (first|refine wS ?_|refine wK ?_|refine wT ?_|refine wU ?_|(refine rg 0 (aV ?_))|(refine rg 1 (mV ?_);refine qE T rfl rfl rfl rfl fun b hb=>?_;cases b)|refine nZ ?_)
  · (repeat' (first|refine wR ?_|(refine rg 3 (bS (by exact bC T rfl rfl (by decide) (by decide) rfl rfl rfl) rfl ?_);refine mW rfl (fY T rfl rfl rfl rfl rfl rfl (by decide) (.row (lL l)) (OZ l) (by simp;omega) (by simp;omega) rfl ?_);refine aV ?_)|(refine nZ ?_)));exact ⟨.inl rfl,[1],_,rfl,(by show AV.sl 1 0 (0 + (gZ l).length) 2 = AV.sl 1 0 l.length 2;simp),rfl,⟨.inr (aG rfl rfl (dX _)),trivial⟩,by decide,H3⟩
  · have hl0 : l = [] := fG.1 (Classical.byContradiction fun h => by have := hb (by omega);cases this)
    subst hl0
    (repeat' (first|refine wR ?_|(refine rg 2 (vV (fA rfl) (pH 2 2 rfl (by decide) ?_)))|refine nZ ?_));exact ⟨.inl rfl,[0],_,rfl,rfl,rfl,⟨.inr (aG rfl rfl (dX _)),trivial⟩,by decide,H3⟩
theorem UN (g : G) (b : Int) (h : g.1.length ≤ 1000000) : aQ Tryz.prog 76 [KQ g,.pr [.i b] 0] [] (.b (decide (b ∈ g.1))) [] := by
  have hc := N4 g.1 b (by omega)
  refine bK T Tryz.func76 rfl rfl rfl rfl ?_
  (repeat' (first|refine wS ?_|refine wR ?_|(refine rg 0 (bS (cW rfl rfl) rfl (aV ?_)))|(refine rg 1 (iX T rfl (lW T rfl (vV (kC (hc)) (aV ?_)))))|refine nZ ?_));all_goals first | (exfalso;omega) | exact rQ
theorem tT (l : List G) (b : Int) (hl : l.length ≤ 1000000) (hg : ∀ g,g ∈ l → g.1.length ≤ 1000000) : aQ Tryz.prog 37 [.rowE (gZ l) 2,.i b] [] (.i (mZ l b)) [] := by
  have hc := VV (caps := [.pr [.i b] 0]) (p := fun g => decide (b ∈ g.1)) hl rfl (fun x hx => UN x b (hg x hx));have e : qK (fun g : G => decide (b ∈ g.1)) l 0 = mZ l b := by
    rw [T9];unfold mZ;cases l.findIdx? fun g => decide (b ∈ g.1) with
    | none => rfl
    | some i => simp
  rw [e] at hc;generalize mZ l b = v at *;refine bK T Tryz.func37 rfl rfl rfl rfl ?_
  (repeat' (first|refine wS ?_|refine wR ?_|(refine rg 0 (bS (cW rfl rfl) rfl (aV ?_)))|(refine rg 1 (mW rfl (vV (by exact iS rfl rfl) ?_));refine vV (by exact eI rfl rfl hc (.cons (.row _ _ _) (.cons (.clo .nil (.cons (.ptr rfl (.cons (.v _) .nil)) .nil)) .nil)) rfl rfl) ?_;refine aV ?_)|refine nZ ?_));all_goals first | (exfalso;omega) | exact rQ
end Go.Proofs.YtbialaoigijlgaaGreatDoor
