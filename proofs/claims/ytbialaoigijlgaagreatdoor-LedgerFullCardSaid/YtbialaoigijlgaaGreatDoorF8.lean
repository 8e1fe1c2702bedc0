/-
  Texts of the logic and of the layer,in one module (part 8).
-/
import Derived.Test.YtbialaoigijlgaaGreatDoorF7
import Derived.Test.YtbialaoigijlgaaGreatDoorRows
import Derived.Deep.DeepHandedRow
import Derived.Lib.LaidTab
set_option linter.unusedVariables false
set_option linter.unusedSimpArgs false
set_option linter.unnecessarySimpa false
namespace Go.Proofs.YtbialaoigijlgaaGreatDoor
open Go Go.Ab Go.Ld
attribute [local irreducible] VC AW bT aQ jI
set_option maxHeartbeats 4000000
theorem TX (n : Int) (h : n < 2 ∨ 8 < n) : aQ Tryz.prog 3 [.i n] [] (.b true) [] := by
  have hsm := R8;refine bK T Tryz.func3 rfl rfl rfl rfl ?_
  (repeat' (first|refine wS ?_|refine wR ?_|refine wT ?_|(refine wC rfl ?_ ?_<;>(intro hb;(try simp only [nm] at hb);try (exfalso;omega)))|(refine rg 0 (aV ?_))|(refine rg 1 (vV (kC (hsm)) (aV ?_)))|(refine rg 2 (mW rfl (vV (aN rfl rfl) (mV ?_)));refine eN rfl rfl ?_ ?_<;>(intro hb;rw [hb];(try simp only [nm] at hb);try (exfalso;omega));(all_goals first|(refine gT (mW rfl (gT (vV (gN rfl rfl) ?_))))|(iterate 2 refine gF ?_));(all_goals (refine pV ?_)))|(refine rg 3 (mW rfl (aV ?_)))|refine nZ ?_));all_goals try (exfalso;omega)
  all_goals exact rQ
theorem PC (n : Nat) (h2 : 2 ≤ n) (h8 : n ≤ 8) : aQ Tryz.prog 3 [.i (n : Int)] [] (.b true) [] := by
  have hsm := R8;have hc := PS h2 h8;have hbl := AC n;have hn0 := OF (pT n) hc;have hn : aQ Tryz.prog 6 [.agg [.i 0,.i 0,.i 0,.i 0],.nils,.nils,.rowE (gJ (pT n).bs) 3] [] (.tup [.ptr 0 0,.i 0]) [.cells (fQ (pT n) (rL (pT n)))] :=
    wZ hn0 fun S w ρ ys => gB (fun _ h => h) fun ys => gB (fun _ h => yB h) fun ys => gB (fun _ h => yB h) fun _ h => h
  have hgk := IA h2 h8;have hst := fun k => SL (n := n) (k := k) h2 h8;have hen := XR h2 h8;have hll : (gJ (pT n).bs).length = n := (bN _).trans hbl;refine bK T Tryz.func3 rfl rfl rfl rfl ?_
  (repeat' (first|refine wS ?_|refine wK ?_|(refine wC rfl ?_ ?_<;>(intro hb;(try simp only [nm] at hb);try (exfalso;omega)))|(refine rg 0 (aV ?_))|(refine rg 1 (vV (kC (hsm)) (aV ?_)))|(refine rg 2 (mW rfl (vV (aN rfl rfl) (mV ?_)));refine eN rfl rfl ?_ ?_<;>(intro hb;rw [hb];(try simp only [nm] at hb);try (exfalso;omega));(all_goals (refine yN rfl (yV (gN rfl rfl) (pV ?_)))))|refine nZ ?_));all_goals try (exfalso;omega)
  (repeat' (first|refine wS ?_|refine wB ?_|(refine rg 4 (vV (fA rfl) (pH 4 3 rfl (by decide) ?_)))|(refine rg 5 (aV ?_))|refine nZ ?_));refine cT (X := {i : Nat // i ≤ n}) (fun i => [(0,.i (n : Int)),(3,.b true),(4,.sl 0 0 i.1 3),(5,.i (i.1 : Int))]) (fun i => [.arr (gJ ((pT n).bs.take i.1)) 3]) (fun i => n - i.1) ⟨0,bW _⟩ ⟨[0],rfl,(by repeat first|exact trivial|refine ⟨rfl,?_⟩),⟨.inr rfl,trivial⟩,by decide,jJ _⟩ ?_
  rintro ⟨i,hi⟩;dsimp only;by_cases hit : i < n
  · have q5 : gJ ((pT n).bs.take (i + 1)) = gJ ((pT n).bs.take i) ++ [[.i (-1),.i 0,.i (i : Int)]] := by
      rw [aO (by omega),gJ,cN]
      have e : (pT n).bs[i]'(by omega) = (-1,0,(i : Int)) := by
        show ((List.range n).map fun i : Nat => ((-1,0,(i : Int)) : BX))[i]'(by simpa using hit) = _
        rw [pK,List.getElem_range]
      rw [e];rfl
    have q4 : (gJ ((pT n).bs.take i)).length = i := by rw [gJ,bN,aU];omega
    have q6 : ∀ e,e ∈ gJ ((pT n).bs.take (i + 1)) → AV.idfL e = true := by intro e he;obtain ⟨x,_,rfl⟩ := bL.1 he;rfl
    generalize gJ ((pT n).bs.take i) = A at *
    (repeat' (first|refine wS ?_|refine wB ?_|refine wK ?_|(refine wC rfl ?_ ?_<;>(intro hb;(try simp only [nm] at hb);try (exfalso;omega)))|(refine rg 6 (eG rfl (vV (aN rfl rfl) ?_)))|(refine rg 8 (eG rfl (vV (by exact eH T rfl rfl rfl rfl) ?_));refine bS (by exact bC T rfl rfl (by decide) (by decide) rfl rfl rfl) rfl ?_;refine fY T rfl rfl rfl rfl rfl rfl (by omega) (kE.whole rfl rfl) rfl (by simp;omega) (by simp;omega) rfl ?_;refine aV ?_)|(refine iA 7 rfl rfl rfl (by omega) (by omega) ?_)|refine nZ ?_));all_goals try (exfalso;omega)
    exact ⟨⟨i + 1,hit⟩,by dsimp only;omega,⟨[2],rfl,(by repeat first|exact trivial|refine ⟨rfl,?_⟩),⟨.inr (aG rfl (by dsimp only;rw [q5];exact kJ q4.symm) q6),trivial⟩,by decide,jJ _⟩⟩
  · obtain rfl : i = n := by omega
    rw [show (pT i).bs.take i = (pT i).bs from cF (by omega)]
    (repeat' (first|refine wS ?_|refine wE ?_|(refine wC rfl ?_ ?_<;>(intro hb;(try simp only [nm] at hb);try (exfalso;omega)))|(refine rg 6 (eG rfl (vV (aN rfl rfl) ?_)))|refine nZ ?_));all_goals try (exfalso;omega)
    refine xY 4 (es := gJ (pT i).bs) rfl rfl (by omega) (gI (by intro e he;obtain ⟨x,_,rfl⟩ := bL.1 he;rfl)) ?_
    (repeat' (first|refine wS ?_|refine wB ?_|refine wK ?_|refine wU ?_|(refine rg 9 (vV (by exact eH T rfl rfl rfl rfl) ?_);refine mW rfl (bS (by exact fM rfl rfl hn (.inr ⟨rfl,rfl,by simp⟩)) rfl ?_);refine mW rfl (xW rfl (xW rfl (pG ?_))))|(refine rg 10 (mW rfl (vV (by exact xT ZJ rfl rfl rfl) ?_));refine mW rfl (yN rfl (yV (fL rfl rfl) (pV ?_))))|(refine rg 12 (aV ?_))|(refine rg 13 (aV ?_))|refine nZ ?_));all_goals try (exfalso;omega)
    refine cT (X := {x : Nat × Nat // x.1 + 1 ≤ i ∧ x.2 = 2 ^ min x.1 5}) (fun x => [(0,.i (i : Int)),(3,.b true),(6,.ptr 0 0),(8,.i (x.1.2 : Int)),(9,.i (x.1.1 : Int))]) (fun x => [.cells (fQ (pT i) (kQ i x.1.1))]) (fun x => i - x.1.1) ⟨(0,1),by dsimp only;omega,rfl⟩ (gO [1]) ?_
    rintro ⟨⟨k,M⟩,hk,hM⟩;dsimp only at hk hM ⊢;have hM32 : M ≤ 32 := by rw [hM];exact Nat.pow_le_pow_right (by decide) (Nat.min_le_right _ _)
    by_cases hkt : k + 1 < i
    · have hs := hst k hkt;have g0 := hgk k;have g1 := hgk (k + 1);have hse0 := CB (pT i) (kQ i k) (VZ k) hc g0 (by show (0 : Nat) ≤ _;omega)
      have hse : aQ Tryz.prog 8 [.ptr 0 0,.agg [.i 4,.i (k : Int),.i ((k : Int) + 1),.i 0,.nils]] [.cells (fQ (pT i) (kQ i k))] (.i (qG (pT i) (kQ i k) (VZ k)).1) [.cells (fQ (pT i) (qG (pT i) (kQ i k) (VZ k)).2)] :=
        wZ hse0 fun S w ρ ys => gB (fun _ h => h) fun ys => gB (fun _ h => O7 h) fun _ h => h
      have hsame := MV (c := pT i) (gs := kQ i k) (s := VZ k);have hgl : ∀ gs',oQ (pT i) gs' → 0 < gs'.length := fun gs' h => by
        obtain ⟨g,hg,_⟩ := h.mid.find (b := 0) ⟨by omega,by omega⟩
        exact List.length_pos_of_mem hg
      have b1 := EA (pT i) (kQ i k) g0 (hgl _ g0);have e1 : kQ i (k + 1) = (qG (pT i) (kQ i k) (VZ k)).2 := rfl;rw [← e1] at hse hsame;have b2 := EA (pT i) (kQ i (k + 1)) g1 (hgl _ g1);obtain ⟨g,gi,hgr⟩ := XJ g1 (by omega)
      have q1 := zJ (pT i) (kQ i (k + 1)) 0 g1 hgr;have q2 := IU (pT i) (kQ i (k + 1)) 0 g1 hgr;unfold MN at hs;dsimp only at hs;rw [← e1] at hs;have hsz : MT (kQ i (k + 1)) = (g.1.length,g.2.length) := by unfold MT;rw [hgr]
      rw [hsz] at hs;have hrf : ((AV.sl 0 0 g.1.length 1).rf && [AB.arr (ints g.1) 1].all AB.rf) = true := by rw [qS,W7];rfl
      generalize (qG (pT i) (kQ i k) (VZ k)).1 = r at *;clear e1 hse0;generalize hF1 : kQ i (k + 1) = F1 at *;generalize kQ i k = F0 at *;obtain ⟨gb,gw⟩ := g;dsimp only at *;by_cases c1 : k + 2 ≤ 6
      · rw [if_pos c1,aP,decide_eq_true_eq,decide_eq_true_eq,Prod.mk.injEq] at hs;obtain ⟨rfl,s1,s2⟩ := hs;have hm1 : 2 ^ (k + 1) = M * 2 := by rw [hM,xD (by omega),Nat.pow_succ]
        rw [hm1] at s2;have hM' : M * 2 = 2 ^ min (k + 1) 5 := by rw [xD (by omega),hm1]
        (repeat' (first|refine wS ?_|refine wB ?_|refine wK ?_|refine wT ?_|(refine rg 14 (mW rfl (vV (bF rfl rfl (by omega) (by omega)) (mW rfl (vV (pO rfl rfl (by omega)) ?_)))))|(refine rg 16 (mW rfl (vV (by exact eI rfl rfl b1 (.cons (.ptr rfl (eR _ rfl)) .nil) rfl rfl) ?_));refine aV ?_)|(refine rg 17 (eG rfl (mW rfl (vV (bF rfl rfl (by omega) (by omega)) (vV (by exact eH T rfl rfl rfl rfl) ?_))));refine dW [0] rfl rfl (hse) rfl rfl (by decide) ⟨.inr rfl,trivial⟩ (by simp) rfl ?_;refine aV ?_)|(refine rg 18 (mW rfl (vV (bF rfl rfl (by omega) (by omega)) (vV (UC rfl rfl (by omega)) ?_))))|(refine rg 19 (mW rfl (vV (tK rfl rfl (by omega) (by omega)) (aV ?_))))|refine nZ ?_));all_goals try (exfalso;omega)
        (repeat' (first|refine wK ?_|refine wU ?_|(refine rg 20 (mW rfl (vV (jY rfl rfl (by omega)) (mW rfl (yN rfl (gT (bS (by exact fM rfl rfl q1 (.inl ⟨.cons (.ptr rfl (eR _ rfl)) (.cons (.v _) .nil),hrf⟩)) rfl ?_))))));refine gT (qW T rfl (yN rfl (yV (bF rfl rfl (by omega) (by omega)) (yV (jY rfl rfl (by omega)) (pW rfl (mW rfl (yN rfl (gT (dW [0] rfl rfl (q2) rfl rfl (by decide) ⟨.inr rfl,trivial⟩ (by simp) rfl ?_)))))))));refine gT (qW T rfl (yN rfl (yV (jY rfl rfl (by omega)) (pV ?_)))))|(refine iA 15 rfl rfl rfl (by omega) (by omega) ?_)|refine nZ ?_));all_goals try (exfalso;omega)
        subst hF1
        all_goals exact ⟨⟨(k + 1,M * 2),by dsimp only;omega,hM'⟩,by dsimp only;omega,⟨[0],rfl,(by repeat first|exact trivial|refine ⟨rfl,?_⟩),⟨.inr rfl,trivial⟩,by decide,jJ _⟩⟩
      · rw [if_neg c1] at hs;have hM' : M = 2 ^ min (k + 1) 5 := by rw [hM,Nat.min_eq_right (by omega),Nat.min_eq_right (by omega)]
        by_cases c2 : k + 1 = 6
        · rw [if_pos c2,decide_eq_true_eq] at hs;subst hs;obtain rfl := hsame (by decide)
          (repeat' (first|refine wS ?_|refine wB ?_|refine wK ?_|refine wT ?_|refine wU ?_|(refine rg 14 (mW rfl (vV (bF rfl rfl (by omega) (by omega)) (mW rfl (vV (pO rfl rfl (by omega)) ?_)))))|(refine rg 16 (mW rfl (vV (by exact eI rfl rfl b1 (.cons (.ptr rfl (eR _ rfl)) .nil) rfl rfl) ?_));refine aV ?_)|(refine rg 17 (eG rfl (mW rfl (vV (bF rfl rfl (by omega) (by omega)) (vV (by exact eH T rfl rfl rfl rfl) ?_))));refine dW [0] rfl rfl (hse) rfl rfl (by decide) ⟨.inr rfl,trivial⟩ (by simp) rfl ?_;refine aV ?_)|(refine rg 18 (mW rfl (vV (bF rfl rfl (by omega) (by omega)) (vV (IB rfl rfl (by omega)) ?_))))|(refine rg 22 (mW rfl (vV (bF rfl rfl (by omega) (by omega)) (vV (jZ rfl rfl (by omega)) ?_))))|(refine rg 23 (mW rfl (vV (jY rfl rfl rfl) (mW rfl (yN rfl (yV (by exact eI rfl rfl b1 (.cons (.ptr rfl (eR _ rfl)) .nil) rfl rfl) ?_)))));refine yN rfl (yV (FU rfl rfl) (pV ?_)))|(refine iA 15 rfl rfl rfl (by omega) (by omega) ?_)|refine nZ ?_));all_goals try (exfalso;omega)
          all_goals exact ⟨⟨(k + 1,M),by dsimp only;omega,hM'⟩,by dsimp only;omega,⟨[0],rfl,(by repeat first|exact trivial|refine ⟨rfl,?_⟩),⟨.inr (by rw [hF1];rfl),trivial⟩,by decide,jJ _⟩⟩
        · rw [if_neg c2,decide_eq_true_eq] at hs;subst hs
          (repeat' (first|refine wS ?_|refine wB ?_|refine wK ?_|refine wT ?_|refine wU ?_|(refine rg 14 (mW rfl (vV (bF rfl rfl (by omega) (by omega)) (mW rfl (vV (pO rfl rfl (by omega)) ?_)))))|(refine rg 16 (mW rfl (vV (by exact eI rfl rfl b1 (.cons (.ptr rfl (eR _ rfl)) .nil) rfl rfl) ?_));refine aV ?_)|(refine rg 17 (eG rfl (mW rfl (vV (bF rfl rfl (by omega) (by omega)) (vV (by exact eH T rfl rfl rfl rfl) ?_))));refine dW [0] rfl rfl (hse) rfl rfl (by decide) ⟨.inr rfl,trivial⟩ (by simp) rfl ?_;refine aV ?_)|(refine rg 18 (mW rfl (vV (bF rfl rfl (by omega) (by omega)) (vV (IB rfl rfl (by omega)) ?_))))|(refine rg 22 (mW rfl (vV (bF rfl rfl (by omega) (by omega)) (vV (fX rfl rfl (by omega)) ?_))))|(refine rg 25 (mW rfl (vV (jY rfl rfl rfl) ?_)))|(refine iA 15 rfl rfl rfl (by omega) (by omega) ?_)|refine nZ ?_));all_goals try (exfalso;omega)
          subst hF1
          all_goals exact ⟨⟨(k + 1,M),by dsimp only;omega,hM'⟩,by dsimp only;omega,⟨[0],rfl,(by repeat first|exact trivial|refine ⟨rfl,?_⟩),⟨.inr rfl,trivial⟩,by decide,jJ _⟩⟩
    · obtain rfl : i = k + 1 := by omega
      have g0 := hgk k;unfold XS at hen;rw [show k + 1 - 1 = k from rfl] at hen
      simp only [aP,decide_eq_true_eq] at hen;obtain ⟨⟨z1,z2⟩,z3⟩ := hen;obtain ⟨g,gi,hgr⟩ := XJ g0 (by omega)
      have p1 := W9 (pT (k + 1)) (kQ (k + 1) k) 0 g0 hgr;have e1 : NL (kQ (k + 1) k) = lN g gi := by unfold NL;rw [hgr,CK]
      rw [e1] at z1;have hse0 := CB (pT (k + 1)) (kQ (k + 1) k) zA0 hc g0 (by show (0 : Nat) ≤ _;omega)
      rw [z2] at hse0;have hse : aQ Tryz.prog 8 [.ptr 0 0,.agg [.i 5,.i 0,.i 0,.i 0,.nils]] [.cells (fQ (pT (k + 1)) (kQ (k + 1) k))] (.i 0) [.cells (fQ (pT (k + 1)) (qG (pT (k + 1)) (kQ (k + 1) k) zA0).2)] :=
        wZ hse0 fun S w ρ ys => gB (fun _ h => h) fun ys => gB (fun _ h => O7 h) fun _ h => h
      have g2 := K2 (s := zA0) g0 (iI 0) (by show (0 : Int) ≤ 1048576;omega)
      obtain ⟨g',gi',hgr'⟩ := XJ g2 (by omega)
      have i1 := xP (pT (k + 1)) _ 0 g2 hgr';have q1 := zJ (pT (k + 1)) _ 0 g2 hgr';unfold ZN at z3;rw [hgr'] at z3;dsimp only at z3;rw [aP,decide_eq_true_eq,decide_eq_true_eq,← CK] at z3;rw [z3.1] at i1;rw [z3.2] at q1;have t2 := FD [0] [0] (by decide)
      rw [show decide (([0] : List Int) = [0]) = true from rfl] at t2
      have hrf : ((AV.sl 0 0 (lN g gi).length 1).rf && [AB.arr (ints (lN g gi)) 1].all AB.rf) = true := by rw [qS,W7];rfl
      generalize (qG (pT (k + 1)) (kQ (k + 1) k) zA0).2 = F2 at *;generalize kQ (k + 1) k = F0 at *;generalize lN g gi = P at *
      (repeat' (first|refine wS ?_|refine wE ?_|refine wU ?_|(refine rg 14 (mW rfl (vV (bF rfl rfl (by omega) (by omega)) (mW rfl (vV (zL rfl rfl (by omega)) ?_)))))|(refine rg 27 (mW rfl (bS (by exact fM rfl rfl p1 (.inl ⟨.cons (.ptr rfl (eR _ rfl)) (.cons (.v _) .nil),hrf⟩)) rfl ?_));refine aV ?_)|refine nZ ?_));all_goals try (exfalso;omega)
      (repeat' (first|refine wS ?_|refine wK ?_|refine wU ?_|(refine rg 28 (mW rfl (qW T rfl (mW rfl (vV (M7 rfl rfl) (vV (jY rfl rfl (by omega)) (mW rfl (yN rfl (yV (by exact eH T rfl rfl rfl rfl) ?_))))))));refine gT (dW [0] rfl rfl (hse) rfl rfl (by decide) ⟨.inr rfl,trivial⟩ (by simp) rfl ?_);refine yV (jY rfl rfl (by omega)) (pV ?_))|refine nZ ?_));all_goals try (exfalso;omega)
      refine eM [(3,.b true),(6,.ptr 0 0)] [.cells (fQ (pT (k + 1)) F2)] ⟨[0],rfl,(by repeat first|exact trivial|refine ⟨rfl,?_⟩),⟨.inr rfl,trivial⟩,by decide,jJ _⟩ ?_
      (repeat' (first|refine wS ?_|refine wR ?_|(refine rg 30 (mW rfl (vV (by exact eI rfl rfl i1 (.cons (.ptr rfl (eR _ rfl)) (.cons (.v _) .nil)) rfl rfl) ?_));refine mW rfl (xW rfl (xW rfl (pG ?_))))|(refine rg 31 (eG rfl (yN rfl (pW rfl (mW rfl (yN rfl (yV (fC rfl rfl) (pW rfl (mW rfl (yM ?_)))))))));refine gT (bS (by exact fM rfl rfl q1 (.inl ⟨.cons (.ptr rfl (eR _ rfl)) (.cons (.v _) .nil),rfl⟩)) rfl ?_);refine kM 122 rfl rfl rfl rfl ?_;refine gT (bS (by exact bC T rfl rfl (by decide) (by decide) rfl rfl rfl) rfl ?_);refine kM 123 rfl rfl rfl rfl ?_;refine yV (kC (t2)) (pW rfl (aV ?_)))|refine nZ ?_));all_goals try (exfalso;omega)
      all_goals exact rQ
end Go.Proofs.YtbialaoigijlgaaGreatDoor
namespace Go.Ab
open Go
end Go.Ab
namespace Go.Proofs.YtbialaoigijlgaaGreatDoor
open Go Go.Ab Go.Ld
attribute [local irreducible] VC AW bT aQ
def VU (n : Int) : Prop := (Lit.int .i64 n).wf = true
theorem ZM : pC Tryz.prog 3 VU (fun n => [AV.i n]) := pC.int Tryz.underlying3 (by kernel_rfl)
theorem zB {P : Program} {W : World} {name : String} {d : DataW Unit} : ∀ {l : List (String × DataW Unit)} {ps : List MemPlace},DataW.LaidVars P W l ps → (name,d) ∈ l →
    ∃ g t cs fuel p,P.globalNamed name = some g ∧ (P.globals[g]?).map (·.type) = some t ∧ W.var? P name = some cs ∧ DataW.trod (fun _ => ()) P W 0 (fun _ => true) false fuel t cs.toList = some (d,p)
  | [],_,_,h => by cases h
  | (n,d') :: r,ps,h,hm => by
    obtain ⟨g,t,cs,fuel,p,q,h1,h2,h3,h4,h5,_⟩ := h;rcases bY.1 hm with e | hm
    · cases e;exact ⟨g,t,cs,fuel,p,h1,h2,h3,h4⟩
    · exact zB h5 hm
def FH : List Int := (List.range 20).map fun i => ((10 ^ i : Nat) : Int)
theorem ZZ : Tryz.prog.globalNamed "internal/strconv.uint64pow10" = some 0 := by kernel_rfl
theorem PB : (Tryz.prog.globals[0]?).map (·.type) = some 206 := by kernel_rfl
theorem zC9 : Tryz.prog.underlying 179 = some (.int .u64) := by kernel_rfl
theorem zE9 : Tryz.prog.underlying 206 = some (.array 20 179) := by kernel_rfl
theorem YA : Tryz.prog.cellsOf 179 = 1 := by kernel_rfl
theorem YB : Tryz.prog.cellsOf 206 = 20 := by kernel_rfl
theorem TA : (Rows.laid_internal_strconv_uint64pow10 : DataW Unit) = Lib.tabData .u64 FH := by kernel_rfl
theorem KP {W : World} {l : List (String × DataW Unit)} (hm : ("internal/strconv.uint64pow10", (Rows.laid_internal_strconv_uint64pow10 : DataW Unit)) ∈ l) (h : laidMet Tryz.prog l W) : mO (fun b => b < W.heap.size) W := by
  obtain ⟨ps,hv,_⟩ := h;obtain ⟨g,t,cs,fuel,p,h1,h2,h3,h4⟩ := zB hv hm;obtain rfl := Option.some.inj (ZZ.symm.trans h1);obtain rfl := Option.some.inj (PB.symm.trans h2);rw [TA] at h4;have e := Lib.cells_of_tab zE9 zC9 YA YB h4;unfold World.var? at h3;rw [ZZ] at h3;simp only [Option.bind_some] at h3;intro g cs' hg;have hg' : g = 0 ∧ cs' = (FH.map fun z => Value.int .u64 z).map .v := by
    simp only [zK,dS,Prod.mk.injEq] at hg;refine ⟨hg.1,hg.2.trans ?_⟩;simp [FH,yC,Function.comp_def]
  obtain ⟨rfl,rfl⟩ := hg';split at h3
  · rename_i c ty fz hh;cases h3;refine ⟨(aH.1 hh).1,cs,ty,fz,hh,?_⟩;rw [e];exact EL _
  · cases h3
noncomputable def B7 (os : Os) : World :=
  { World.holding Tryz.prog os ⟨#[], #[], []⟩ with heap := ((((World.holding Tryz.prog os ⟨#[], #[], []⟩).heap.modify 0 fun
      | .cells _ t frozen => .cells #[.int .u64 1,.int .u64 10,.int .u64 100,.int .u64 1000,.int .u64 10000,.int .u64 100000,.int .u64 1000000,.int .u64 10000000,.int .u64 100000000,.int .u64 1000000000,.int .u64 10000000000,.int .u64 100000000000,.int .u64 1000000000000,.int .u64 10000000000000,.int .u64 100000000000000,.int .u64 1000000000000000,.int .u64 10000000000000000,.int .u64 100000000000000000,.int .u64 1000000000000000000,.int .u64 10000000000000000000] t frozen
      | o => o).modify 1 fun
      | .cells _ t frozen => .cells #[.int .u8 0,.int .u8 1,.int .u8 28,.int .u8 2,.int .u8 29,.int .u8 14,.int .u8 24,.int .u8 3,.int .u8 30,.int .u8 22,.int .u8 20,.int .u8 15,.int .u8 25,.int .u8 17,.int .u8 4,.int .u8 8,.int .u8 31,.int .u8 27,.int .u8 13,.int .u8 23,.int .u8 21,.int .u8 19,.int .u8 16,.int .u8 7,.int .u8 26,.int .u8 12,.int .u8 18,.int .u8 6,.int .u8 11,.int .u8 5,.int .u8 10,.int .u8 9] t frozen
      | o => o).modify 2 fun
      | .cells _ t frozen => .cells #[.int .u8 0,.int .u8 1,.int .u8 56,.int .u8 2,.int .u8 57,.int .u8 49,.int .u8 28,.int .u8 3,.int .u8 61,.int .u8 58,.int .u8 42,.int .u8 50,.int .u8 38,.int .u8 29,.int .u8 17,.int .u8 4,.int .u8 62,.int .u8 47,.int .u8 59,.int .u8 36,.int .u8 45,.int .u8 43,.int .u8 51,.int .u8 22,.int .u8 53,.int .u8 39,.int .u8 33,.int .u8 30,.int .u8 24,.int .u8 18,.int .u8 12,.int .u8 5,.int .u8 63,.int .u8 55,.int .u8 48,.int .u8 27,.int .u8 60,.int .u8 41,.int .u8 37,.int .u8 16,.int .u8 46,.int .u8 35,.int .u8 44,.int .u8 21,.int .u8 52,.int .u8 32,.int .u8 23,.int .u8 11,.int .u8 54,.int .u8 26,.int .u8 40,.int .u8 15,.int .u8 34,.int .u8 20,.int .u8 31,.int .u8 10,.int .u8 25,.int .u8 14,.int .u8 19,.int .u8 9,.int .u8 13,.int .u8 8,.int .u8 7,.int .u8 6] t frozen
      | o => o) }
theorem PD (n : Int) (_ : VU n) : aQ Tryz.prog 3 [.i n] [] (.b true) [] := by
  by_cases h : n < 2 ∨ 8 < n
  · exact TX n h
  · have := PC n.toNat (by omega) (by omega)
    rwa [show ((n.toNat : Nat) : Int) = n by omega] at this
end Go.Proofs.YtbialaoigijlgaaGreatDoor
