/-
  Texts of the logic and of the layer,in one module (part 4).
-/
import Derived.Test.YtmmkhmilpeodnaaGreatJ3
set_option linter.unusedVariables false
set_option linter.unusedSimpArgs false
set_option linter.unnecessarySimpa false
namespace Go.Proofs.YtmmkhmilpeodnaaGreat
open Go Go.Ab
attribute [local irreducible] VC AW bX aT
set_option maxHeartbeats 4000000
theorem CW {l : List Int} {n : Int} {i : Nat} (h : i < l.length) (hn : ¬ L0 l n i) : CX l n = false := by
  unfold CX;simp only [decide_eq_false_iff_not];exact fun hh => hn (hh i h)
theorem U2 {l : List Int} {n : Int} (h : ∀ i,i < l.length → L0 l n i) : CX l n = true := by
  unfold CX;simp only [decide_eq_true_eq];exact h
theorem KW {l : List Int} {k : Nat} (h : k < l.length) : l.getD k 0 = l[k] := by simp [List.getD,h]
theorem AO (l : List Int) (n : Int) (hl : l.length ≤ 9223372036854775807) (hn : 0 ≤ n ∧ n ≤ 1000) : aT Tryz.prog 70 [.rowE (ints l) 1,.i n] [] (.b (CX l n)) [] := by
  have hlen : (ints l).length = l.length := by simp
  refine bT T Tryz.func70 rfl rfl rfl rfl ?_
  (repeat' (first|refine wS ?_|refine wB ?_|(refine rg 0 (aV ?_))|(refine rg 1 (mW rfl (qW T rfl (mV ?_))))|refine nZ ?_));refine dB (X := {k : Nat // k ≤ l.length ∧ ∀ i,i < k → L0 l n i}) (fun k => [(0,.rowE (ints l) 1),(1,.i n),(7,.rowE (ints l) 1),(8,.i (ints l).length),(9,.i k.1)]) (fun _ => []) (fun k => l.length - k.1) ⟨0,by omega,fun i hi => by omega⟩ (eL []) ?_
  rintro ⟨k,hk,hq⟩;dsimp only;by_cases hlt : k < l.length
  · have hg := KW hlt;cases hw : iF l[k] 0 (n - 1)
    · have c := hw ▸ qL l[k] 0 (n - 1);have hno : ¬ L0 l n k := fun h => by
        unfold L0 at h;rw [hg] at h;rw [show iF l[k] 0 (n - 1) = true by simp [iF];omega] at hw
        cases hw
      (repeat' (first|refine wS ?_|refine wB ?_|refine wK ?_|refine wR ?_|refine wT ?_|(refine wC rfl ?_ ?_<;>(intro hb;(try simp only [nm] at hb);try (exfalso;omega)))|(refine rg 2 (vV (aO rfl rfl) ?_))|(refine rg 3 (mW rfl (vV (ix T rfl (by omega) (cN l) (lU (k := k) hlt)) (lW T rfl (rZ ?_)))))|(refine rg 4 (dS rfl (vV (cQ rfl rfl (by omega) (by omega)) (vV (kC (c)) (vV (eD rfl) (mV ?_)))));(iterate 3 refine gF ?_);(iterate 7 refine gU ?_);refine gF (pV ?_))|(refine rg 5 (aV ?_))|refine nZ ?_));exact cY (.inl rfl) rfl (mD (CW hlt hno).symm)
    · have c := hw ▸ qL l[k] 0 (n - 1);simp only [iF,aJ,decide_eq_true_eq] at hw;by_cases hk0 : 0 < k
      · have hlt' : k - 1 < l.length := by omega
        have hg' := KW hlt';have hc' : (ints l)[((k : Int) - 1).toNat]? = some [AV.i l[k - 1]] := by rw [show ((k : Int) - 1).toNat = k - 1 by omega];exact lU hlt'
        (repeat' (first|refine wS ?_|refine wB ?_|refine wK ?_|refine wR ?_|(refine wC rfl ?_ ?_<;>(intro hb;(try simp only [nm] at hb);try (exfalso;omega)))|(refine rg 2 (vV (aO rfl rfl) ?_))|(refine rg 3 (mW rfl (vV (ix T rfl (by omega) (cN l) (lU (k := k) hlt)) (lW T rfl (rZ ?_)))))|(refine rg 4 (dS rfl (vV (cQ rfl rfl (by omega) (by omega)) (vV (kC (c)) (vV (eD rfl) (mW rfl (yN rfl (yV (fP rfl rfl) (yM ?_))))))));refine cE rfl rfl ?_ ?_<;>(intro hb;rw [hb];(try simp only [nm] at hb);try (exfalso;omega));(all_goals (refine yN rfl (yN rfl (yN rfl (yV (cQ rfl rfl (by omega) (by omega)) (yV (ix T rfl (by omega) (cN l) hc') (yO T rfl (yV (iX rfl rfl) (gT (pW rfl (pV ?_))))))))))))|(refine rg 5 (aV ?_))|(refine rg 6 (vV (bU rfl rfl (by omega) (by omega)) (mV ?_)))|refine nZ ?_));all_goals first
          | (exfalso;omega)
          | (refine cY (.inl rfl) rfl (mD (CW hlt (fun h => ?_)).symm);unfold L0 at h;rw [hg,hg'] at h;omega)
          | (refine ⟨⟨k + 1, by omega, fun i hi => ?_⟩, by dsimp only; omega, eL []⟩
             by_cases e : i = k
             · subst e;unfold L0;rw [hg,hg'];omega
             · exact hq i (by omega))
      · obtain rfl : k = 0 := by omega
        (repeat' (first|refine wS ?_|refine wB ?_|refine wK ?_|refine wU ?_|(refine wC rfl ?_ ?_<;>(intro hb;(try simp only [nm] at hb);try (exfalso;omega)))|(refine rg 2 (vV (aO rfl rfl) ?_))|(refine rg 3 (mW rfl (vV (ix T rfl (by omega) (cN l) (lU (k := 0) hlt)) (lW T rfl (rZ ?_)))))|(refine rg 4 (dS rfl (vV (cQ rfl rfl (by omega) (by omega)) (vV (kC (c)) (vV (eD rfl) (mW rfl (yN rfl (yV (fP rfl rfl) (yM ?_))))))));(iterate 7 refine gF ?_);refine gT (pW rfl (pV ?_)))|(refine rg 6 (vV (bU rfl rfl (by omega) (by omega)) (mV ?_)))|refine nZ ?_));all_goals first
          | (exfalso;omega)
          | (refine ⟨⟨1, by omega, fun i hi => ?_⟩, by dsimp only; omega, eL []⟩
             obtain rfl : i = 0 := by omega
             unfold L0;rw [hg];omega)
  · (repeat' (first|refine wS ?_|refine wR ?_|refine wE ?_|(refine wC rfl (fun hb => ?_) (fun hb => ?_) <;> (((try simp only [nm] at hb);try (exfalso;omega))))|(refine rg 2 (vV (aO rfl rfl) ?_))|(refine rg 7 (aV ?_))|(refine nZ ?_)));exact cY (.inl rfl) rfl (mD (U2 fun i hi => hq i (by omega)).symm)
section
variable {P : Program} {env : dQ} {h : Hp} {d : Option Nat} {ty : TypeId} {pos : String} {af : Array Edge} {g : Option (Nat × Bool)}
end
section
variable {ks : List KD} {ls : List LT} {ps : List Int} {bs : List BX} {m st er sl k a b n id lot ct ta done : Int} {ids : List Int} {M : Int}
end
end Go.Proofs.YtmmkhmilpeodnaaGreat
namespace Go.Ab
open Go
section
variable {P : Program}
end
end Go.Ab
namespace Go.Proofs.YtmmkhmilpeodnaaGreat
open Go Go.Ab
attribute [local irreducible] VC AW bX aT
set_option maxHeartbeats 4000000
theorem lH {θ : Nat → Nat} {f : Fn} {caps : List AV} (hi : AV.idfL caps = true) : (AV.clo f [] caps).map θ = .clo f [] caps := by
  show AV.clo f (AV.mapL θ []) (AV.mapL θ caps) = _;rw [nL θ caps hi];rfl
theorem SA {w : List KD} {F : FuncId} {caps : List AV} (hl : w.length ≤ 1000) (hi : AV.idfL caps = true) (hF : ∀ x,x ∈ w → aT Tryz.prog F (.agg [AV.v (.string x.1),AV.i x.2] :: caps) [] (.b false) []) :
    aT Tryz.prog 123 [.rowE (iI w) 2,.clo (.func F) [] caps] [] (.i (-1)) [] := by
  have hlen : (iI w).length = w.length := by simp
  refine bT T Tryz.func123 rfl rfl rfl rfl ?_
  (repeat' (first|refine wS ?_|refine wB ?_|(refine rg 0 (aV ?_))|(refine rg 1 (mW rfl (qW T rfl (mV ?_))))|refine nZ ?_));refine dB (X := {k : Nat // k ≤ w.length}) (fun k => [(0,.rowE (iI w) 2),(1,.clo (.func F) [] caps),(7,.i (iI w).length),(8,.i k.1)]) (fun _ => []) (fun k => w.length - k.1) ⟨0,by simp⟩ ⟨[],rfl,⟨rfl,by rw [lH hi];rfl,rfl,rfl,trivial⟩,trivial,cX,fun _ h => absurd h (dW _)⟩ ?_
  rintro ⟨k,hk⟩;dsimp only;by_cases hlt : k < w.length
  · have hc := hF w[k] (aH hlt);have hg := xJ (l := w) hlt;generalize w[k] = y at *
    (repeat' (first|refine wS ?_|refine wB ?_|refine wK ?_|refine wU ?_|(refine wC rfl ?_ ?_<;>(intro hb;(try simp only [nm] at hb);try (exfalso;omega)))|(refine rg 2 (vV (aO rfl rfl) ?_))|(refine rg 3 (mW rfl (aV ?_)))|(refine rg 4 (dS rfl (mW rfl (vV (ix T rfl (by omega) (tB w) hg) (lW T rfl (vV (by exact eV rfl rfl hc rfl (by simp [AV.idfL,AV.idf,hi]) rfl) ?_))))))|(refine rg 6 (vV (bU rfl rfl (by omega) (by omega)) (mV ?_)))|refine nZ ?_));all_goals first | (exfalso;omega) | exact ⟨⟨k + 1,hlt⟩,by dsimp only;omega,⟨[],rfl,⟨rfl,by rw [lH hi];rfl,rfl,rfl,trivial⟩,trivial,cX,fun _ h => absurd h (dW _)⟩⟩
  · (repeat' (first|refine wS ?_|refine wR ?_|refine wE ?_|(refine wC rfl (fun hb => ?_) (fun hb => ?_) <;> (((try simp only [nm] at hb);try (exfalso;omega))))|(refine rg 2 (vV (aO rfl rfl) ?_))|(refine rg 7 (aV ?_))|(refine nZ ?_)));all_goals first | (exfalso;omega) | exact rQ
theorem zC5 {w : List KD} {F : FuncId} {caps : List AV} (hl : w.length ≤ 1000) (hi : AV.idfL caps = true) (hF : ∀ x,x ∈ w → aT Tryz.prog F (.agg [AV.v (.string x.1),AV.i x.2] :: caps) [] (.b false) []) :
    aT Tryz.prog 80 [.rowE (iI w) 2,.clo (.func F) [] caps] [] (.b false) [] := by
  have hc := SA hl hi hF;refine bT T Tryz.func80 rfl rfl rfl rfl ?_
  (repeat' (first|refine wS ?_|refine wR ?_|(refine rg 0 (aV ?_))|(refine rg 1 (dS rfl (vV (by exact eV rfl rfl hc rfl (by simp [AV.idfL,AV.idf,hi]) rfl) ?_));refine vV (jE rfl rfl) (aV ?_))|refine nZ ?_));all_goals first | (exfalso;omega) | exact rQ
theorem RZ {w : List LT} {F : FuncId} {caps : List AV} (hl : w.length ≤ 1000) (hi : AV.idfL caps = true) (hF : ∀ x,x ∈ w → aT Tryz.prog F (.agg [AV.i x.1,AV.i x.2.1,AV.b x.2.2] :: caps) [] (.b false) []) :
    aT Tryz.prog 124 [.rowE (kX w) 3,.clo (.func F) [] caps] [] (.i (-1)) [] := by
  have hlen : (kX w).length = w.length := by simp
  refine bT T Tryz.func124 rfl rfl rfl rfl ?_
  (repeat' (first|refine wS ?_|refine wB ?_|(refine rg 0 (aV ?_))|(refine rg 1 (mW rfl (qW T rfl (mV ?_))))|refine nZ ?_));refine dB (X := {k : Nat // k ≤ w.length}) (fun k => [(0,.rowE (kX w) 3),(1,.clo (.func F) [] caps),(7,.i (kX w).length),(8,.i k.1)]) (fun _ => []) (fun k => w.length - k.1) ⟨0,by simp⟩ ⟨[],rfl,⟨rfl,by rw [lH hi];rfl,rfl,rfl,trivial⟩,trivial,cX,fun _ h => absurd h (dW _)⟩ ?_
  rintro ⟨k,hk⟩;dsimp only;by_cases hlt : k < w.length
  · have hc := hF w[k] (aH hlt);have hg := B4 (l := w) hlt;generalize w[k] = y at *
    (repeat' (first|refine wS ?_|refine wB ?_|refine wK ?_|refine wU ?_|(refine wC rfl ?_ ?_<;>(intro hb;(try simp only [nm] at hb);try (exfalso;omega)))|(refine rg 2 (vV (aO rfl rfl) ?_))|(refine rg 3 (mW rfl (aV ?_)))|(refine rg 4 (dS rfl (mW rfl (vV (ix T rfl (by omega) (wD w) hg) (lW T rfl (vV (by exact eV rfl rfl hc rfl (by simp [AV.idfL,AV.idf,hi]) rfl) ?_))))))|(refine rg 6 (vV (bU rfl rfl (by omega) (by omega)) (mV ?_)))|refine nZ ?_));all_goals first | (exfalso;omega) | exact ⟨⟨k + 1,hlt⟩,by dsimp only;omega,⟨[],rfl,⟨rfl,by rw [lH hi];rfl,rfl,rfl,trivial⟩,trivial,cX,fun _ h => absurd h (dW _)⟩⟩
  · (repeat' (first|refine wS ?_|refine wR ?_|refine wE ?_|(refine wC rfl (fun hb => ?_) (fun hb => ?_) <;> (((try simp only [nm] at hb);try (exfalso;omega))))|(refine rg 2 (vV (aO rfl rfl) ?_))|(refine rg 7 (aV ?_))|(refine nZ ?_)));all_goals first | (exfalso;omega) | exact rQ
theorem zC4 {w : List LT} {F : FuncId} {caps : List AV} (hl : w.length ≤ 1000) (hi : AV.idfL caps = true) (hF : ∀ x,x ∈ w → aT Tryz.prog F (.agg [AV.i x.1,AV.i x.2.1,AV.b x.2.2] :: caps) [] (.b false) []) :
    aT Tryz.prog 82 [.rowE (kX w) 3,.clo (.func F) [] caps] [] (.b false) [] := by
  have hc := RZ hl hi hF;refine bT T Tryz.func82 rfl rfl rfl rfl ?_
  (repeat' (first|refine wS ?_|refine wR ?_|(refine rg 0 (aV ?_))|(refine rg 1 (dS rfl (vV (by exact eV rfl rfl hc rfl (by simp [AV.idfL,AV.idf,hi]) rfl) ?_));refine vV (jE rfl rfl) (aV ?_))|refine nZ ?_));all_goals first | (exfalso;omega) | exact rQ
theorem SB {w : List BX} {F : FuncId} {caps : List AV} (hl : w.length ≤ 1000) (hi : AV.idfL caps = true) (hF : ∀ x,x ∈ w → aT Tryz.prog F (.agg [AV.i x.1,AV.i x.2.1,AV.i x.2.2] :: caps) [] (.b false) []) :
    aT Tryz.prog 125 [.rowE (fS w) 3,.clo (.func F) [] caps] [] (.i (-1)) [] := by
  have hlen : (fS w).length = w.length := by simp
  refine bT T Tryz.func125 rfl rfl rfl rfl ?_
  (repeat' (first|refine wS ?_|refine wB ?_|(refine rg 0 (aV ?_))|(refine rg 1 (mW rfl (qW T rfl (mV ?_))))|refine nZ ?_));refine dB (X := {k : Nat // k ≤ w.length}) (fun k => [(0,.rowE (fS w) 3),(1,.clo (.func F) [] caps),(7,.i (fS w).length),(8,.i k.1)]) (fun _ => []) (fun k => w.length - k.1) ⟨0,by simp⟩ ⟨[],rfl,⟨rfl,by rw [lH hi];rfl,rfl,rfl,trivial⟩,trivial,cX,fun _ h => absurd h (dW _)⟩ ?_
  rintro ⟨k,hk⟩;dsimp only;by_cases hlt : k < w.length
  · have hc := hF w[k] (aH hlt);have hg := H5 (l := w) hlt;generalize w[k] = y at *
    (repeat' (first|refine wS ?_|refine wB ?_|refine wK ?_|refine wU ?_|(refine wC rfl ?_ ?_<;>(intro hb;(try simp only [nm] at hb);try (exfalso;omega)))|(refine rg 2 (vV (aO rfl rfl) ?_))|(refine rg 3 (mW rfl (aV ?_)))|(refine rg 4 (dS rfl (mW rfl (vV (ix T rfl (by omega) (oL w) hg) (lW T rfl (vV (by exact eV rfl rfl hc rfl (by simp [AV.idfL,AV.idf,hi]) rfl) ?_))))))|(refine rg 6 (vV (bU rfl rfl (by omega) (by omega)) (mV ?_)))|refine nZ ?_));all_goals first | (exfalso;omega) | exact ⟨⟨k + 1,hlt⟩,by dsimp only;omega,⟨[],rfl,⟨rfl,by rw [lH hi];rfl,rfl,rfl,trivial⟩,trivial,cX,fun _ h => absurd h (dW _)⟩⟩
  · (repeat' (first|refine wS ?_|refine wR ?_|refine wE ?_|(refine wC rfl (fun hb => ?_) (fun hb => ?_) <;> (((try simp only [nm] at hb);try (exfalso;omega))))|(refine rg 2 (vV (aO rfl rfl) ?_))|(refine rg 7 (aV ?_))|(refine nZ ?_)));all_goals first | (exfalso;omega) | exact rQ
theorem zC7 {w : List BX} {F : FuncId} {caps : List AV} (hl : w.length ≤ 1000) (hi : AV.idfL caps = true) (hF : ∀ x,x ∈ w → aT Tryz.prog F (.agg [AV.i x.1,AV.i x.2.1,AV.i x.2.2] :: caps) [] (.b false) []) :
    aT Tryz.prog 84 [.rowE (fS w) 3,.clo (.func F) [] caps] [] (.b false) [] := by
  have hc := SB hl hi hF;refine bT T Tryz.func84 rfl rfl rfl rfl ?_
  (repeat' (first|refine wS ?_|refine wR ?_|(refine rg 0 (aV ?_))|(refine rg 1 (dS rfl (vV (by exact eV rfl rfl hc rfl (by simp [AV.idfL,AV.idf,hi]) rfl) ?_));refine vV (jE rfl rfl) (aV ?_))|refine nZ ?_));all_goals first | (exfalso;omega) | exact rQ
theorem OT (x : KD) (h : 0 ≤ x.2 ∧ x.2 ≤ 1048576) : aT Tryz.prog 81 [.agg [AV.v (.string x.1),AV.i x.2]] [] (.b false) [] := by
  have hw := vM (n := x.2) (f := 0) (t := 1048576) h;refine bT T Tryz.func81 rfl rfl rfl rfl ?_
  (repeat' (first|refine wS ?_|refine wR ?_|(refine rg 0 (bV (cO rfl rfl) rfl (aV ?_)))|(refine rg 1 (iP T rfl (vV (kC (hw)) (vV (eD rfl) (aV ?_)))))|refine nZ ?_));all_goals first | (exfalso;omega) | exact rQ
theorem OS (ks : List KD) (x : LT) (h : 0 ≤ x.1 ∧ x.1 < ks.length) (hk : ks.length ≤ 1000) : aT Tryz.prog 83 [.agg [AV.i x.1,AV.i x.2.1,AV.b x.2.2],.pr [.rowE (iI ks) 2] 0] [] (.b false) [] := by
  have e1 : (iI ks).length = ks.length := by simp
  have hw := vM (n := x.1) (f := 0) (t := ((iI ks).length : Int) - 1) (by omega)
  refine bT T Tryz.func83 rfl rfl rfl rfl ?_
  (repeat' (first|refine wS ?_|refine wR ?_|(refine rg 0 (bV (cO rfl rfl) rfl (aV ?_)))|(refine rg 1 (iP T rfl (lW T rfl (qW T rfl (vV (cQ rfl rfl (by omega) (by omega)) (vV (kC (hw)) (vV (eD rfl) (aV ?_))))))))|refine nZ ?_));all_goals first | (exfalso;omega) | exact rQ
theorem OU (ls : List LT) (x : BX) (h : -1 ≤ x.1 ∧ x.1 < ls.length ∧ 0 ≤ x.2.1 ∧ x.2.1 ≤ 20000 ∧ (x.1 = -1 → x.2.1 = 0) ∧ 0 ≤ x.2.2 ∧ x.2.2 ≤ 1073741824) (hk : ls.length ≤ 1000) : aT Tryz.prog 85 [.agg [AV.i x.1,AV.i x.2.1,AV.i x.2.2],.pr [.rowE (kX ls) 3] 0] [] (.b false) [] := by
  have e1 : (kX ls).length = ls.length := by simp
  obtain ⟨lot,ct,ta⟩ := x;dsimp only at h ⊢;have h1 := vM (n := lot) (f := -1) (t := ((kX ls).length : Int) - 1) (by omega)
  have h2 := vM (n := ct) (f := 0) (t := 20000) (by omega)
  have h3 := vM (n := ta) (f := 0) (t := 1073741824) (by omega)
  refine bT T Tryz.func85 rfl rfl rfl rfl ?_
  (repeat' (first|refine wS ?_|refine wR ?_|(refine rg 0 (bV (cO rfl rfl) rfl (aV ?_)))|(refine rg 1 (iP T rfl (lW T rfl (qW T rfl (vV (cQ rfl rfl (by omega) (by omega)) (vV (kC (h1)) (vV (eD rfl) (mW rfl (yP T rfl (yL T ?_)))))))));refine yV (kC (h2)) (yV (eD rfl) (pW rfl (mW rfl (yP T rfl (yO T rfl (yV (aO rfl rfl) (yM ?_)))))));refine cE rfl rfl ?_ ?_<;>(intro hb;rw [hb];(try simp only [nm] at hb);try (exfalso;omega));(all_goals first|(refine gT (fW T rfl (gT (lW T rfl (gT (vV (fP rfl rfl) ?_))))))|(iterate 3 refine gF ?_));(all_goals (refine gT (pW rfl (pW rfl (mV ?_)))));(all_goals first|(refine gK ?_)|(refine cE rfl rfl ?_ ?_<;>(intro hb;rw [hb];(try simp only [nm] at hb);try (exfalso;omega))));(all_goals (refine yP T rfl (yO T rfl (yV (kC (h3)) (yV (eD rfl) (pW rfl (aV ?_))))))))|refine nZ ?_));all_goals first | (exfalso;omega) | exact rQ
theorem Q0 : ∀ (l m : List Int), l.Nodup → (∀ x, x ∈ l → x ∈ m) → m.length ≤ l.length → l.Perm m
  | [],m,_,_,hl => by
    have : m = [] := fE.1 (by simpa using hl)
    subst this;exact List.Perm.refl _
  | x :: l,m,hn,hs,hl => by
    have hx := hs x (by simp)
    have h2 := List.perm_cons_erase hx
    have h3 := Q0 l (m.erase x) (eX.1 hn).2 (fun y hy => by
      have hyx : y ≠ x := fun e => (eX.1 hn).1 (e ▸ hy);exact (kN hyx).2 (hs y (aN _ hy))) (by
        rw [kH hx];simp only [List.length_cons] at hl
        omega)
    exact (List.Perm.cons x h3).trans h2.symm
theorem BC {n : Nat} {ps : List Int} (hl : ps.length = n) (h : ∀ i : Nat,i < n → (i : Int) ∈ ps) : iC ps = Go.Ab.nats (List.range n) := by
  have hnd : (Go.Ab.nats (List.range n)).Nodup := List.Pairwise.map _ (fun a b hab e => hab (by omega)) ZF
  have hsub : ∀ x,x ∈ Go.Ab.nats (List.range n) → x ∈ ps := fun x hx => by
    obtain ⟨i,hi,rfl⟩ := bI.1 hx;exact h i (eJ.1 hi)
  have hp : (Go.Ab.nats (List.range n)).Perm ps := Q0 (Go.Ab.nats (List.range n)) ps hnd hsub (by simp [hl])
  exact Go.Pm.sorted_eq hp.symm (Go.Pm.range_le n)
theorem MI (n : Nat) : CX (Go.Ab.nats (List.range n)) n = true := by
  refine U2 fun i hi => ?_
  have hi' : i < n := by simpa using hi
  have e : ∀ k,k < n → (Go.Ab.nats (List.range n)).getD k 0 = (k : Int) := fun k hk => by
    rw [aC];simp [hk]
  unfold L0;rw [e i hi'];refine ⟨by omega,by omega,fun h0 => ?_⟩
  rw [e (i - 1) (by omega)];omega
theorem BD {ks : List KD} {ls : List LT} {ps : List Int} {bs : List BX} (t : sA ks ls ps bs) (h1 : ks.length ≤ 1000) (h2 : ls.length ≤ 1000) (h3 : ps.length ≤ 1000) :
    aT Tryz.prog 36 [.rowE (iI ks) 2,.rowE (kX ls) 3,.rowE (ints ps) 1,.rowE (fS bs) 3] [] (.b true) [] := by
  have e3 : (ints ps).length = ps.length := by simp
  have e4 : (fS bs).length = bs.length := by simp
  have hlen := t.len;have v1 := zY ps;have v2 := O4 ps (by omega)
  rw [BC (n := ps.length) rfl t.p] at v2;have v3 := AO (Go.Ab.nats (List.range ps.length)) ps.length (by simp;omega) (by omega)
  rw [MI] at v3;rw [show (ps.length : Int) = ((fS bs).length : Int) by omega] at v3
  have c1 := zC5 (w := ks) (F := 81) (caps := []) h1 rfl (fun x hx => by
    obtain ⟨i,hi,rfl⟩ := pU.1 hx
    exact OT _ (t.k i hi))
  have c2 := zC4 (w := ls) (F := 83) (caps := [.pr [.rowE (iI ks) 2] 0]) h2 rfl (fun x hx => by
    obtain ⟨i,hi,rfl⟩ := pU.1 hx
    exact OS ks _ (t.l i hi) h1)
  have c3 := zC7 (w := bs) (F := 85) (caps := [.pr [.rowE (kX ls) 3] 0]) (by omega) rfl (fun x hx => by
    obtain ⟨i,hi,rfl⟩ := pU.1 hx
    exact OU ls _ (t.b i hi) h2)
  generalize Go.Ab.nats (List.range ps.length) = sr at *;refine bT T Tryz.func36 rfl rfl rfl rfl ?_
  (repeat' (first|refine wS ?_|refine wK ?_|refine wU ?_|(refine rg 0 (bV (cO rfl rfl) rfl (bV (cO rfl rfl) rfl (aV ?_))))|(refine rg 1 (mW rfl (vV (kC (v1)) (vV (by exact eV rfl rfl v2 rfl rfl rfl) ?_)));refine aV ?_)|(refine rg 2 (mW rfl (qW T rfl (mW rfl (qW T rfl (vV (nW rfl rfl (by omega)) (mW rfl (yN rfl (yN rfl (gT ?_)))))))));refine qW T rfl (yV (kC (v3)) (yV (eD rfl) (pV ?_))))|refine nZ ?_));all_goals try (exfalso;omega)
  (repeat' (first|refine wS ?_|refine wR ?_|(refine rg 4 (lW T rfl (vV (by exact eV rfl rfl c1 rfl rfl rfl) ?_));refine aV ?_)|(refine rg 5 (dS rfl (yO T rfl (yV (by exact jD rfl rfl) ?_)));refine yV (by exact eU rfl rfl c2 (.cons (.row _ _ _) (.cons (.clo .nil (.cons (.ptr rfl (.cons (.row _ _ _) .nil)) .nil)) .nil)) rfl rfl) ?_;refine pW rfl (aV ?_))|(refine rg 6 (mW rfl (vV (eD rfl) (mW rfl (yN rfl (yV (by exact jD rfl rfl) ?_)))));refine yV (by exact eU rfl rfl c3 (.cons (.row _ _ _) (.cons (.clo .nil (.cons (.ptr rfl (.cons (.row _ _ _) .nil)) .nil)) .nil)) rfl rfl) ?_;refine yV (eD rfl) (pW rfl (aV ?_)))|refine nZ ?_));all_goals first | (exfalso;omega) | exact rQ
end Go.Proofs.YtmmkhmilpeodnaaGreat
namespace Go.Ab
open Go
section
variable {P : Program} {env : dQ} {h : Hp} {d : Option Nat} {ty : TypeId} {pos : String} {af : Array Edge} {g : Option (Nat × Bool)}
end
end Go.Ab
namespace Go.Proofs.YtmmkhmilpeodnaaGreat
open Go Go.Ab
attribute [local irreducible] VC AW bX aT
set_option maxHeartbeats 4000000
end Go.Proofs.YtmmkhmilpeodnaaGreat
namespace Go.Proofs.YtmmkhmilpeodnaaGreat
open Go Go.Ab
attribute [local irreducible] VC AW bX aT
abbrev kE (f t : Int) : AV := .agg [.i f,.i t]
def wN (f t : Int) : Bool := decide (max f 0 < min t 20001)
def CL (f t : Int) : Int := if wN f t then max f 0 else 0
def cutT (f t : Int) : Int := if wN f t then min t 20001 else 0
theorem T3 (f t : Int) : (wN f t = true ∧ CL f t = max f 0 ∧ cutT f t = min t 20001 ∧ max f 0 < min t 20001) ∨ (wN f t = false ∧ CL f t = 0 ∧ cutT f t = 0 ∧ min t 20001 ≤ max f 0) := by
  by_cases h : max f 0 < min t 20001
  · left;simp [wN,CL,cutT,h]
  · right;simp only [wN,CL,cutT,h];simp;omega
theorem PL {a b c d : Int} {e e' : Bool} (h1 : a = c) (h2 : b = d) (h3 : e = e') : AV.tup [kE a b,.b e] = AV.tup [kE c d,.b e'] := by rw [h1,h2,h3]
theorem BF (f t : Int) : aT Tryz.prog 131 [kE f t] [] (.tup [kE (CL f t) (cutT f t),.b (wN f t)]) [] := by
  refine bT T Tryz.func131 rfl rfl rfl rfl ?_
  (repeat' (first|(first|(refine eG ?_)|(refine oD ?_)|(refine rY ?_)|(refine oW ?_))|(first|(refine vV (by first|exact fF rfl|exact bZ T rfl rfl rfl|exact aX T rfl rfl rfl rfl|exact jE rfl rfl|exact wJ rfl rfl|exact BZ rfl rfl|exact eW T rfl rfl rfl rfl) ?_)|(refine aU T rfl rfl rfl rfl rfl rfl (by decide) rfl ?_)|(refine gR ?_)|(refine bV (by first|exact bN T rfl|exact cO rfl rfl) rfl ?_))|((refine qG rfl (fun hb=>?_) (fun hb=>?_)<;>(try simp only [nm] at hb)))));all_goals
    refine cY (.inl rfl) rfl ?_;rcases T3 f t with ⟨h1,h2,h3,h4⟩ | ⟨h1,h2,h3,h4⟩
    all_goals (first | (exfalso;omega) | (rw [h1,h2,h3];refine PL ?_ ?_ ?_ <;> first | rfl | omega))
def rG (f t n : Int) : Bool := decide (f ≤ n) && decide (n < t)
theorem KB (f t n : Int) : aT Tryz.prog 65 [kE f t,.i n] [] (.b (rG f t n)) [] := by
  refine bT T Tryz.func65 rfl rfl rfl rfl ?_
  (repeat' (first|(first|(refine eG ?_)|(refine oD ?_)|(refine oW ?_))|(first|(refine vV (by first|exact bW rfl|exact fF rfl|exact bZ T rfl rfl rfl|exact aX T rfl rfl rfl rfl|exact jQ rfl rfl|exact iB rfl rfl|exact aO rfl rfl|exact iX rfl rfl) ?_)|(refine gR ?_)|(refine X4 rfl rfl ?_ rfl)|(refine X5 rfl rfl ?_ rfl)|(refine qM rfl rfl (fun hb=>?_) (fun hb=>?_) rfl<;>(rw [hb];(try simp only [nm] at hb)))|(refine bV (cO rfl rfl) rfl ?_))));all_goals
    refine cY (.inl rfl) rfl (mD ?_);simp [rG];try omega
theorem XM (a b c d : Int) : aT Tryz.prog 93 [kE a b,kE c d] [] (.tup [kE (CL (max a c) (min b d)) (cutT (max a c) (min b d)),.b (wN (max a c) (min b d))]) [] := by
  refine bT T Tryz.func93 rfl rfl rfl rfl ?_
  (repeat' (first|(first|(refine eG ?_)|(refine oD ?_)|(refine oW ?_))|(first|(refine vV (by first|exact fF rfl|exact bZ T rfl rfl rfl|exact aX T rfl rfl rfl rfl|exact iY rfl rfl|exact wJ rfl rfl|exact BZ rfl rfl|exact eW T rfl rfl rfl rfl|exact eV rfl rfl (BF _ _) rfl rfl rfl) ?_)|(refine aU T rfl rfl rfl rfl rfl rfl (by decide) rfl ?_)|(refine gR ?_)|(refine bV (by first|exact bN T rfl|exact cO rfl rfl) rfl ?_))));refine rQ
theorem zC2 (a b c d : Int) : aT Tryz.prog 59 [kE a b,kE c d] [] (kE (min a c) (max b d)) [] := by
  refine bT T Tryz.func59 rfl rfl rfl rfl ?_
  (repeat' (first|(first|(refine eG ?_)|(refine oD ?_)|(refine oW ?_))|(first|(refine vV (by first|exact bZ T rfl rfl rfl|exact aX T rfl rfl rfl rfl|exact wJ rfl rfl|exact BZ rfl rfl|exact eW T rfl rfl rfl rfl) ?_)|(refine aU T rfl rfl rfl rfl rfl rfl (by decide) rfl ?_)|(refine gR ?_)|(refine bV (by first|exact bN T rfl|exact cO rfl rfl) rfl ?_))));refine rQ
theorem WI : aT Tryz.prog 130 [] [] (kE 0 20001) [] := by
  refine bT T Tryz.func130 rfl rfl rfl rfl ?_
  (repeat' (first|(first|(refine eG ?_)|(refine oD ?_)|(refine oW ?_))|(first|(refine vV (by exact eW T rfl rfl rfl rfl) ?_)|(refine aU T rfl rfl rfl rfl rfl rfl (by decide) rfl ?_)|(refine gR ?_)|(refine bV (bN T rfl) rfl ?_))));refine rQ
def tH (l : List Int) : Bool := l.all fun n => decide (0 ≤ n) && decide (n ≤ 1099511627776)
theorem IJ (l : List Int) (k : Nat) (h : k < l.length) : tH (l.drop k) = (decide (0 ≤ l[k]) && decide (l[k] ≤ 1099511627776) && tH (l.drop (k + 1))) := by
  rw [aS h];rfl
theorem A9 (l : List Int) (hm : l.length ≤ 1000) : aT Tryz.prog 129 [.rowE (ints l) 1] [] (.b (tH l)) [] := by
  refine bT T Tryz.func129 rfl rfl rfl rfl ?_
  (repeat' (first|(first|(refine eG ?_)|(refine oD ?_)|(refine tR ?_))|(first|(refine vV (by first|exact bW rfl|exact fF rfl|exact gN T rfl rfl) ?_)|(refine gR ?_))));refine dB (X := {k : Nat // k ≤ (ints l).length ∧ tH l = tH (l.drop k)}) (fun k => [(5,.rowE (ints l) 1),(6,.i (ints l).length),(7,.i k.1)]) (fun _ => []) (fun k => (ints l).length - k.1) ⟨0,by simp,rfl⟩ (eL []) ?_
  rintro ⟨k,hk,hf⟩;dsimp only;have hlen : (ints l).length = l.length := by simp
  repeat' (first|(first|(refine eG ?_)|(refine oD ?_)|(refine tR ?_)|(refine rY ?_)|(refine oW ?_)|(refine LG ?_))|(first|(refine vV (by first|exact fF rfl|exact aO rfl rfl) ?_)|(refine gR ?_))|((refine qG rfl (fun hb=>?_) (fun hb=>?_)<;>(try simp only [nm] at hb))))
  · have hlt : k < l.length := by omega
    have hs := IJ l k hlt;refine vH (C6 T rfl rfl rfl rfl rfl (by omega) (cN l) (lU hlt)) rfl ?_
    (repeat' (first|(first|(refine eG ?_)|(refine oD ?_)|(refine rY ?_)|(refine oW ?_))|(first|(refine vV (by first|exact bW rfl|exact fF rfl|exact aX T rfl rfl rfl rfl|exact jQ rfl rfl|exact iB rfl rfl|exact bU rfl rfl (by omega) (by omega)|exact aO rfl rfl|exact fP rfl rfl) ?_)|(refine gR ?_)|(refine X4 rfl rfl ?_ rfl)|(refine X5 rfl rfl ?_ rfl)|(refine qM rfl rfl (fun hb=>?_) (fun hb=>?_) rfl<;>(rw [hb];(try simp only [nm] at hb))))|(first|(refine wT ?_)|(refine qG rfl (fun hb=>?_) (fun hb=>?_)<;>(try simp only [nm] at hb)))));all_goals first
      | (refine cY (.inl rfl) rfl (mD ?_);rw [hf,hs];simp;omega)
      | (refine ⟨⟨k + 1,by omega,?_⟩,by simp;omega,eL []⟩;rw [hf,hs];simp;omega)
  · refine cY (.inl rfl) rfl (mD ?_);rw [hf,cW (by omega)];rfl
theorem SR {a b : Int} (h : 0 ≤ a ∧ a ≤ 1099511627776 ∧ 0 ≤ b ∧ b ≤ 1099511627776) : tH [a,b] = true := by simp [tH];omega
theorem ST {a b : Int} (h : ¬ (0 ≤ a ∧ a ≤ 1099511627776 ∧ 0 ≤ b ∧ b ≤ 1099511627776)) : tH [a,b] = false := by
  rw [← eF];simp [tH];omega
theorem SQ {a b c d : Int} (h : 0 ≤ a ∧ a ≤ 1099511627776 ∧ 0 ≤ b ∧ b ≤ 1099511627776 ∧ 0 ≤ c ∧ c ≤ 1099511627776 ∧ 0 ≤ d ∧ d ≤ 1099511627776) : tH [a,b,c,d] = true := by simp [tH];omega
theorem SS {a b c d : Int} (h : ¬ (0 ≤ a ∧ a ≤ 1099511627776 ∧ 0 ≤ b ∧ b ≤ 1099511627776 ∧ 0 ≤ c ∧ c ≤ 1099511627776 ∧ 0 ≤ d ∧ d ≤ 1099511627776)) : tH [a,b,c,d] = false := by
  rw [← eF];simp [tH];omega
theorem YB {a b : Int} (h : 0 ≤ a ∧ a ≤ 1099511627776 ∧ 0 ≤ b ∧ b ≤ 1099511627776) : aT Tryz.prog 129 [.rowE (ints [a,b]) 1] [] (.b true) [] := SR h ▸ A9 [a,b] (by simp)
theorem YD {a b : Int} (h : ¬ (0 ≤ a ∧ a ≤ 1099511627776 ∧ 0 ≤ b ∧ b ≤ 1099511627776)) : aT Tryz.prog 129 [.rowE (ints [a,b]) 1] [] (.b false) [] := ST h ▸ A9 [a,b] (by simp)
theorem CD {a b c d : Int} (h : 0 ≤ a ∧ a ≤ 1099511627776 ∧ 0 ≤ b ∧ b ≤ 1099511627776 ∧ 0 ≤ c ∧ c ≤ 1099511627776 ∧ 0 ≤ d ∧ d ≤ 1099511627776) : aT Tryz.prog 129 [.rowE (ints [a,b,c,d]) 1] [] (.b true) [] := SQ h ▸ A9 [a,b,c,d] (by simp)
theorem YC {a b c d : Int} (h : ¬ (0 ≤ a ∧ a ≤ 1099511627776 ∧ 0 ≤ b ∧ b ≤ 1099511627776 ∧ 0 ≤ c ∧ c ≤ 1099511627776 ∧ 0 ≤ d ∧ d ≤ 1099511627776)) : aT Tryz.prog 129 [.rowE (ints [a,b,c,d]) 1] [] (.b false) [] := SS h ▸ A9 [a,b,c,d] (by simp)
theorem ML (f t n s : Int) (hf : 0 ≤ f ∧ f ≤ 20001 ∧ 0 ≤ t ∧ t ≤ 20001) (h : 0 ≤ n ∧ n ≤ 1099511627776 ∧ 0 ≤ s ∧ s ≤ 1099511627776) : aT Tryz.prog 94 [kE f t,.i n,.i s] [] (.tup [kE (CL (f - n - s) (t - max (n - s) 0)) (cutT (f - n - s) (t - max (n - s) 0)),.b (wN (f - n - s) (t - max (n - s) 0))]) [] := by
  refine bT T Tryz.func94 rfl rfl rfl rfl ?_
  (repeat' (first|(first|(refine eG ?_)|(refine oD ?_)|(refine rY ?_)|(refine oW ?_))|(first|(refine vV (by first|exact bW rfl|exact fF rfl|exact bZ T rfl rfl rfl|exact aX T rfl rfl rfl rfl|exact cQ rfl rfl (by omega) (by omega)|exact eD rfl|exact iY rfl rfl|exact wJ rfl rfl|exact eW T rfl rfl rfl rfl|exact eV rfl rfl (BF _ _) rfl rfl rfl|exact eU rfl rfl (YB h) (by ((repeat (first|exact .nil|exact .v _|refine .cons ?_ ?_|refine .sl rfl (by simp) ?_));done)) rfl rfl) ?_)|(refine aU T rfl rfl rfl rfl rfl rfl (by decide) rfl ?_)|(refine gR ?_)|(refine bV (by first|exact bN T rfl|exact cO rfl rfl|exact bE T rfl rfl (by decide) (by decide) rfl rfl rfl) rfl ?_))|((refine wU ?_))));exact rQ
theorem HY (f t n s : Int) (h : ¬ (0 ≤ n ∧ n ≤ 1099511627776 ∧ 0 ≤ s ∧ s ≤ 1099511627776)) : aT Tryz.prog 94 [kE f t,.i n,.i s] [] (.tup [kE 0 0,.b false]) [] := by
  refine bT T Tryz.func94 rfl rfl rfl rfl ?_
  (repeat' (first|(first|(refine eG ?_)|(refine oD ?_)|(refine oW ?_))|(first|(refine vV (by first|exact bW rfl|exact fF rfl|exact eD rfl|exact eW T rfl rfl rfl rfl|exact eU rfl rfl (YD h) (by ((repeat (first|exact .nil|exact .v _|refine .cons ?_ ?_|refine .sl rfl (by simp) ?_));done)) rfl rfl) ?_)|(refine aU T rfl rfl rfl rfl rfl rfl (by decide) rfl ?_)|(refine gR ?_)|(refine bV (by first|exact bN T rfl|exact cO rfl rfl|exact bE T rfl rfl (by decide) (by decide) rfl rfl rfl) rfl ?_))|((refine wT ?_))));exact rQ
def CE (a b c d : Int) : Prop := 0 ≤ a ∧ a ≤ 1099511627776 ∧ 0 ≤ b ∧ b ≤ 1099511627776 ∧ 0 ≤ c ∧ c ≤ 1099511627776 ∧ 0 ≤ d ∧ d ≤ 1099511627776
theorem HL (t u w e : Int) (h : ¬ CE t u w e) : aT Tryz.prog 92 [.i t,.i u,.i w,.i e] [] (.tup [kE 0 0,.b false]) [] := by
  refine bT T Tryz.func92 rfl rfl rfl rfl ?_
  (repeat' (first|(first|(refine eG ?_)|(refine oD ?_)|(refine oW ?_))|(first|(refine vV (by first|exact bW rfl|exact fF rfl|exact eD rfl|exact eW T rfl rfl rfl rfl|exact eU rfl rfl (YC h) (by ((repeat (first|exact .nil|exact .v _|refine .cons ?_ ?_|refine .sl rfl (by simp) ?_));done)) rfl rfl) ?_)|(refine aU T rfl rfl rfl rfl rfl rfl (by decide) rfl ?_)|(refine gR ?_)|(refine bV (by first|exact bN T rfl|exact bE T rfl rfl (by decide) (by decide) rfl rfl rfl) rfl ?_))|((refine wT ?_))));exact rQ
theorem DM (t u w e : Int) (h : CE t u w e) (h1 : w + e - t < 0 ∨ u = 0 ∧ 0 < w - e - t) : aT Tryz.prog 92 [.i t,.i u,.i w,.i e] [] (.tup [kE 0 0,.b false]) [] := by
  have h' := h;unfold CE at h';refine bT T Tryz.func92 rfl rfl rfl rfl ?_
  (repeat' (first|(first|(refine eG ?_)|(refine oD ?_)|(refine tR ?_)|(refine rY ?_)|(refine oW ?_))|(first|(refine vV (by first|exact bW rfl|exact fF rfl|exact jQ rfl rfl|exact iB rfl rfl|exact bU rfl rfl (by omega) (by omega)|exact cQ rfl rfl (by omega) (by omega)|exact aO rfl rfl|exact fP rfl rfl|exact eP rfl rfl|exact eD rfl|exact eW T rfl rfl rfl rfl|exact eU rfl rfl (CD h) (by ((repeat (first|exact .nil|exact .v _|refine .cons ?_ ?_|refine .sl rfl (by simp) ?_));done)) rfl rfl) ?_)|(refine aU T rfl rfl rfl rfl rfl rfl (by decide) rfl ?_)|(refine gR ?_)|(refine X4 rfl rfl ?_ rfl)|(refine X5 rfl rfl ?_ rfl)|(refine JK rfl rfl ?_ rfl)|(refine qM rfl rfl (fun hb=>?_) (fun hb=>?_) rfl<;>(rw [hb];(try simp only [nm] at hb)))|(refine bV (by first|exact bN T rfl|exact bE T rfl rfl (by decide) (by decide) rfl rfl rfl) rfl ?_))|(first|(refine wT ?_)|(refine wU ?_)|(refine qG rfl (fun hb=>?_) (fun hb=>?_)<;>(try simp only [nm] at hb)))));all_goals first | (exfalso;omega) | exact rQ | skip
theorem DN (t u w e : Int) (h : CE t u w e) (h1 : 0 ≤ w + e - t) (h2 : u = 0) (h3 : w - e - t ≤ 0) : aT Tryz.prog 92 [.i t,.i u,.i w,.i e] [] (.tup [kE 0 20001,.b true]) [] := by
  have h' := h;unfold CE at h';refine bT T Tryz.func92 rfl rfl rfl rfl ?_
  (repeat' (first|(first|(refine eG ?_)|(refine oD ?_)|(refine tR ?_)|(refine rY ?_)|(refine oW ?_))|(first|(refine vV (by first|exact bW rfl|exact fF rfl|exact jQ rfl rfl|exact iB rfl rfl|exact bU rfl rfl (by omega) (by omega)|exact cQ rfl rfl (by omega) (by omega)|exact aO rfl rfl|exact fP rfl rfl|exact eP rfl rfl|exact eD rfl|exact eW T rfl rfl rfl rfl|exact eU rfl rfl (CD h) (by ((repeat (first|exact .nil|exact .v _|refine .cons ?_ ?_|refine .sl rfl (by simp) ?_));done)) rfl rfl|exact kC (WI)) ?_)|(refine aU T rfl rfl rfl rfl rfl rfl (by decide) rfl ?_)|(refine gR ?_)|(refine X4 rfl rfl ?_ rfl)|(refine X5 rfl rfl ?_ rfl)|(refine JK rfl rfl ?_ rfl)|(refine qM rfl rfl (fun hb=>?_) (fun hb=>?_) rfl<;>(rw [hb];(try simp only [nm] at hb)))|(refine bV (by first|exact bN T rfl|exact bE T rfl rfl (by decide) (by decide) rfl rfl rfl) rfl ?_))|(first|(refine wT ?_)|(refine wU ?_)|(refine qG rfl (fun hb=>?_) (fun hb=>?_)<;>(try simp only [nm] at hb)))));all_goals first | exact rQ | (exfalso;omega)
def zG5 (t u w e : Int) : Int := (max (w - e - t) 0 + u - 1) / u
def zG4 (t u w e : Int) : Int := (w + e - t) / u + 1
set_option maxHeartbeats 1000000 in
theorem HM (t u w e : Int) (h : CE t u w e) (h1 : 0 ≤ w + e - t) (h2 : 0 < u) : aT Tryz.prog 92 [.i t,.i u,.i w,.i e] [] (.tup [kE (CL (zG5 t u w e) (zG4 t u w e)) (cutT (zG5 t u w e) (zG4 t u w e)),.b (wN (zG5 t u w e) (zG4 t u w e))]) [] := by
  have h' := h;unfold CE at h';have q1 := Int.ediv_nonneg h1 (Int.le_of_lt h2);have q2 := Int.ediv_le_self u h1;refine bT T Tryz.func92 rfl rfl rfl rfl ?_
  (repeat' (first|(first|(refine eG ?_)|(refine oD ?_)|(refine tR ?_)|(refine rY ?_)|(refine oW ?_))|(first|(refine vV (by first|exact bW rfl|exact fF rfl|exact jQ rfl rfl|exact iB rfl rfl|exact bU rfl rfl (by omega) (by omega)|exact cQ rfl rfl (by omega) (by omega)|exact aO rfl rfl|exact fP rfl rfl|exact eP rfl rfl|exact eD rfl|exact eW T rfl rfl rfl rfl|exact eU rfl rfl (CD h) (by ((repeat (first|exact .nil|exact .v _|refine .cons ?_ ?_|refine .sl rfl (by simp) ?_));done)) rfl rfl) ?_)|(refine aU T rfl rfl rfl rfl rfl rfl (by decide) rfl ?_)|(refine gR ?_)|(refine X4 rfl rfl ?_ rfl)|(refine X5 rfl rfl ?_ rfl)|(refine JK rfl rfl ?_ rfl)|(refine qM rfl rfl (fun hb=>?_) (fun hb=>?_) rfl<;>(rw [hb];(try simp only [nm] at hb)))|(refine bV (by first|exact bN T rfl|exact bE T rfl rfl (by decide) (by decide) rfl rfl rfl) rfl ?_))|(first|(refine dV rfl (by first|exact bW rfl|exact bU rfl rfl (by omega) (by omega)|exact cQ rfl rfl (by omega) (by omega)|exact XQ rfl rfl (by omega) (by omega) (by omega)|exact iY rfl rfl|exact wJ rfl rfl|exact eW T rfl rfl rfl rfl|exact eV rfl rfl (BF _ _) rfl rfl rfl) ?_)|(refine CK rfl rfl (by (dsimp only [List.nil_append,List.cons_append,lJ,List.append_nil];done)) ?_))|(refine GP (id := 8) [[],[0],[],[0,1,2],rN 4,[],rN 6,[],[],[7,8],[7,8,9],rN 11,rN 12,rN 13,rN 13] (rM 46 15) [[],[],[46,47],[],[],rM 46 5,[],rM 46 7,rM 46 8,rM 46 7,rM 46 7,[],[],[],[59]] dA (by decide +kernel) ?_)|(first|(refine wT ?_)|(refine wU ?_)|(refine qG rfl (fun hb=>?_) (fun hb=>?_)<;>(try simp only [nm] at hb)))));all_goals first | (exfalso;omega) | exact rQ
end Go.Proofs.YtmmkhmilpeodnaaGreat
namespace Go.Ld
open Go.Ab Go.Proofs.YtmmkhmilpeodnaaGreat
abbrev SP := Int × Int
abbrev W := List Int × Int × List SP
abbrev G := List Int × List W
abbrev eS (l : List SP) : List (List AV) := l.map fun p => [AV.i p.1,AV.i p.2]
abbrev wA (w : W) : List AV := [.rowE (Go.Proofs.YtmmkhmilpeodnaaGreat.ints w.1) 1,.i w.2.1,.rowE (eS w.2.2) 2]
abbrev fL (l : List W) : List (List AV) := l.map wA
abbrev gA (g : G) : List AV := [.rowE (Go.Proofs.YtmmkhmilpeodnaaGreat.ints g.1) 1,.rowE (fL g.2) 3]
abbrev iW (l : List G) : List (List AV) := l.map gA
def cI (a b : Int) : Int := if a < b then -1 else if b < a then 1 else 0
def I7 (a b : Int) : Int := if a = 0 then b else a
def cL : List Int → List Int → Int
  | [],[] => 0
  | [],_ :: _ => -1
  | _ :: _,[] => 1
  | x :: a,y :: b => I7 (cI x y) (cL a b)
def cS (x y : SP) : Int := I7 (cI x.1 y.1) (cI x.2 y.2)
def cB : List SP → List SP → Int
  | [],[] => 0
  | [],_ :: _ => -1
  | _ :: _,[] => 1
  | x :: a,y :: b => I7 (cS x y) (cB a b)
def nK (a b : W) : Int := I7 (cL a.1 b.1) (cB a.2.2 b.2.2)
def eE (a b : W) : Int := I7 (nK a b) (cI a.2.1 b.2.1)
structure AT {α : Type} (c : α → α → Int) : Prop where
  eq : ∀ a b,c a b = 0 ↔ a = b
  neg : ∀ a b,c a b = - c b a
  tr : ∀ a b d,c a b < 0 → c b d < 0 → c a d < 0
theorem AT.rfl' {α : Type} {c : α → α → Int} (h : AT c) (a : α) : c a a = 0 := (h.eq a a).2 rfl
theorem AT.le_tr {α : Type} {c : α → α → Int} (h : AT c) {a b d : α} (h1 : c a b ≤ 0) (h2 : c b d ≤ 0) : c a d ≤ 0 := by
  by_cases e : c a b = 0
  · rw [(h.eq _ _).1 e];exact h2
  · by_cases e' : c b d = 0
    · rw [← (h.eq _ _).1 e'];exact h1
    · have := h.tr a b d (by omega) (by omega);omega
theorem oV : AT cI where
  eq a b := by unfold cI;split <;> (try split) <;> omega
  neg a b := by unfold cI;split <;> split <;> (try split) <;> omega
  tr a b d := by unfold cI; repeat' split
                 all_goals omega
theorem BM {a b : Int} : I7 a b = 0 ↔ a = 0 ∧ b = 0 := by unfold I7;split <;> omega
theorem BL {a b : Int} : I7 (-a) (-b) = - I7 a b := by unfold I7;split <;> split <;> omega
theorem IC {a b : Int} : I7 a b < 0 ↔ a < 0 ∨ a = 0 ∧ b < 0 := by unfold I7;split <;> omega
theorem AT.lex {α β γ : Type} {c : α → α → Int} {d : β → β → Int} (hc : AT c) (hd : AT d) (f : γ → α) (g : γ → β) (inj : ∀ x y, f x = f y → g x = g y → x = y) : AT fun x y => I7 (c (f x) (f y)) (d (g x) (g y)) where
  eq a b := by
    rw [BM,hc.eq,hd.eq];exact ⟨fun h => inj _ _ h.1 h.2,fun h => by rw [h];exact ⟨rfl,rfl⟩⟩
  neg a b := by rw [hc.neg,hd.neg,BL]
  tr a b e h1 h2 := by
    simp only [IC] at *;rcases h1 with h1 | ⟨h1,h1'⟩
    · rcases h2 with h2 | ⟨h2,h2'⟩
      · exact .inl (hc.tr _ _ _ h1 h2)
      · rw [(hc.eq _ _).1 h2] at h1;exact .inl h1
    · rw [(hc.eq _ _).1 h1];rcases h2 with h2 | ⟨h2,h2'⟩
      · exact .inl h2
      · exact .inr ⟨h2,hd.tr _ _ _ h1' h2'⟩
theorem TL : AT cL where
  eq := fun a => by
    induction a with
    | nil => intro b;cases b <;> simp [cL]
    | cons x a ih => intro b; cases b with
      | nil => simp [cL]
      | cons y b => simp only [cL,BM,oV.eq,ih,List.cons.injEq]
  neg := fun a => by
    induction a with
    | nil => intro b;cases b <;> simp [cL]
    | cons x a ih => intro b; cases b with
      | nil => simp [cL]
      | cons y b => simp only [cL];rw [oV.neg,ih,BL]
  tr := fun a => by
    induction a with
    | nil => intro b d;cases b <;> cases d <;> simp [cL]
    | cons x a ih =>
      intro b d h1 h2;cases b with
      | nil => simp [cL] at h1
      | cons y b => cases d with
        | nil => simp [cL] at h2
        | cons z d =>
          simp only [cL,IC] at *;rcases h1 with h1 | ⟨h1,h1'⟩
          · rcases h2 with h2 | ⟨h2,h2'⟩
            · exact .inl (oV.tr _ _ _ h1 h2)
            · rw [(oV.eq _ _).1 h2] at h1;exact .inl h1
          · rw [(oV.eq _ _).1 h1];rcases h2 with h2 | ⟨h2,h2'⟩
            · exact .inl h2
            · exact .inr ⟨h2,ih _ _ h1' h2'⟩
theorem T8 : AT cS := AT.lex oV oV (·.1) (·.2) fun x y h1 h2 => Prod.ext h1 h2
theorem TM : AT cB where
  eq := fun a => by
    induction a with
    | nil => intro b;cases b <;> simp [cB]
    | cons x a ih => intro b; cases b with
      | nil => simp [cB]
      | cons y b => simp only [cB,BM,T8.eq,ih,List.cons.injEq]
  neg := fun a => by
    induction a with
    | nil => intro b;cases b <;> simp [cB]
    | cons x a ih => intro b; cases b with
      | nil => simp [cB]
      | cons y b => simp only [cB];rw [T8.neg,ih,BL]
  tr := fun a => by
    induction a with
    | nil => intro b d;cases b <;> cases d <;> simp [cB]
    | cons x a ih =>
      intro b d h1 h2;cases b with
      | nil => simp [cB] at h1
      | cons y b => cases d with
        | nil => simp [cB] at h2
        | cons z d =>
          simp only [cB,IC] at *;rcases h1 with h1 | ⟨h1,h1'⟩
          · rcases h2 with h2 | ⟨h2,h2'⟩
            · exact .inl (T8.tr _ _ _ h1 h2)
            · rw [(T8.eq _ _).1 h2] at h1;exact .inl h1
          · rw [(T8.eq _ _).1 h1];rcases h2 with h2 | ⟨h2,h2'⟩
            · exact .inl h2
            · exact .inr ⟨h2,ih _ _ h1' h2'⟩
theorem EY : AT (fun x y : List Int × List SP => I7 (cL x.1 y.1) (cB x.2 y.2)) := AT.lex TL TM (·.1) (·.2) fun x y h1 h2 => Prod.ext h1 h2
theorem iN : AT eE := AT.lex EY oV (fun w : W => (w.1,w.2.2)) (fun w => w.2.1) fun x y h1 h2 => by
  obtain ⟨a,b,c⟩ := x;obtain ⟨a',b',c'⟩ := y;simp at h1 h2;obtain ⟨h1,h3⟩ := h1;rw [h1,h2,h3]
theorem nU {a b : W} : nK a b = 0 ↔ a.1 = b.1 ∧ a.2.2 = b.2.2 := by unfold nK;rw [BM,TL.eq,TM.eq]
def V8 {α : Type} (c : α → α → Int) (w : α) : List α → List α
  | [] => [w]
  | x :: l => if c w x ≤ 0 then w :: x :: l else x :: V8 c w l
def dR {α : Type} (c : α → α → Int) : List α → List α
  | [] => []
  | x :: l => V8 c x (dR c l)
theorem xM {α : Type} (c : α → α → Int) (w : α) : ∀ l, (V8 c w l).Perm (w :: l)
  | [] => .refl _
  | x :: l => by
    unfold V8;split
    · exact .refl _
    · exact ((xM c w l).cons x).trans (.swap _ _ _)
theorem dK {α : Type} (c : α → α → Int) : ∀ l, (dR c l).Perm l
  | [] => .refl _
  | x :: l => (xM c x _).trans ((dK c l).cons x)
theorem KT {α : Type} {c : α → α → Int} (h : AT c) (w : α) : ∀ {l : List α}, l.Pairwise (fun a b => c a b ≤ 0) → (V8 c w l).Pairwise (fun a b => c a b ≤ 0)
  | [],_ => kS _ _
  | x :: l,hl => by
    rw [eK] at hl;unfold V8;split
    · rename_i hw;rw [eK,eK];refine ⟨fun y hy => ?_,hl⟩
      rcases bL.1 hy with rfl | hy
      · exact hw
      · exact h.le_tr hw (hl.1 y hy)
    · rename_i hw;rw [eK];refine ⟨fun y hy => ?_,KT h w hl.2⟩
      rcases bL.1 ((xM c w l).mem_iff.1 hy) with rfl | hy
      · have := h.neg x y;omega
      · exact hl.1 y hy
theorem kJ {α : Type} {c : α → α → Int} (h : AT c) : ∀ l, (dR c l).Pairwise (fun a b => c a b ≤ 0)
  | [] => .nil
  | x :: l => KT h x (kJ h l)
theorem zE {α : Type} {c : α → α → Int} (h : AT c) {l m : List α} (hp : m.Perm l) (hm : m.Pairwise (fun a b => c a b ≤ 0)) : m = dR c l :=
  List.Perm.eq_of_pairwise (le := fun a b => c a b ≤ 0) (fun a b _ _ h1 h2 => (h.eq a b).1 (by have := h.neg a b;omega)) hm (kJ h l) (hp.trans (dK c l).symm)
def jR {α : Type} (e : α → α → Bool) (p : α) : List α → List α
  | [] => []
  | y :: l => if e y p then jR e y l else y :: jR e y l
def wO {α : Type} (e : α → α → Bool) : List α → List α
  | [] => []
  | x :: l => x :: jR e x l
def yS (a b : W) : Bool := decide (nK a b = 0)
def fY (l : List W) : List W := wO yS (dR eE l)
structure Cx where
  m : Int
  st : Int
  er : Int
  sl : Int
  ks : List KD
  ls : List LT
  bs : List BX
structure Ev where
  k : Int
  a : Int
  b : Int
  n : Int
  ids : List Int
def gP (w : W) (i : Nat) : Int := w.1.getD i 0
def gC (w : W) (i : Nat) : SP := w.2.2.getD i (0,0)
def sC (w : W) (i : Nat) (r : SP) : W := (w.1,w.2.1,w.2.2.set i r)
def D3 (f t : Int) : SP × Bool := ((CL f t,cutT f t),wN f t)
def AH (a b c d : Int) : Bool := decide (0 ≤ a ∧ a ≤ 1099511627776 ∧ 0 ≤ b ∧ b ≤ 1099511627776 ∧ 0 ≤ c ∧ c ≤ 1099511627776 ∧ 0 ≤ d ∧ d ≤ 1099511627776)
def ON (t u w e : Int) : SP × Bool := if AH t u w e = true then (if w + e - t < 0 ∨ u = 0 ∧ 0 < w - e - t then ((0,0),false) else if u = 0 then ((0,20001),true) else D3 (zG5 t u w e) (zG4 t u w e)) else ((0,0),false)
def sE (t u w e : Int) (r : SP) : SP × Bool := let q := ON t u w e;if q.2 then D3 (max r.1 q.1.1) (min r.2 q.1.2) else q
def vW (r : SP) (n s : Int) : SP × Bool := if 0 ≤ n ∧ n ≤ 1099511627776 ∧ 0 ≤ s ∧ s ≤ 1099511627776 then D3 (r.1 - n - s) (r.2 - max (n - s) 0) else ((0,0),false)
def jG (c : Cx) (w : W) (i : Nat) (s : Ev) : W × Bool :=
  if s.k = 0 then (if gP w i ∈ s.ids then (w,decide ((s.ids.length : Int) - 1 ≤ c.st)) else ((w.1,w.2.1 + 1,w.2.2),decide ((s.ids.length : Int) ≤ c.st)))
  else if s.k = 1 then
    let b := c.bs.getD (gP w i).toNat (0,0,0)
    let q := sE b.2.2 (pA c.ks c.ls b.1) s.n c.er (gC w i)
    (sC w i q.1,q.2)
  else if s.k = 2 then let q := vW (gC w i) s.n c.sl;(sC w i q.1,q.2)
  else if s.k = 3 then (sC w i (s.n,s.n + 1),rG (gC w i).1 (gC w i).2 s.n)
  else if s.k = 5 then (w,decide (gP w i = s.n))
  else (w,true)
def nP (w : W) (i k : Nat) : W := ((w.1.set i (gP w k)).set k (gP w i),w.2.1,(w.2.2.set i (gC w k)).set k (gC w i))
def nO (l : List G) (b : Int) : Int := match l.findIdx? fun g => decide (b ∈ g.1) with
  | some i => i
  | none => -1
def yK (a b : G) (x y : W) (l : List Int) : W := (l.map (fun k => if k ∈ a.1 then gP x (a.1.idxOf k) else gP y (b.1.idxOf k)),x.2.1 + y.2.1,l.map (fun k => if k ∈ a.1 then gC x (a.1.idxOf k) else gC y (b.1.idxOf k)))
def oA (a b : G) (l : List Int) : List W := a.2.flatMap fun x => b.2.map fun y => yK a b x y l
def kO (l : List G) (i : Nat) : G := l.getD i ([],[])
def lT (x y : G) : G := let bodies := dR cI (x.1 ++ y.1);(bodies,oA x y bodies)
def join (l : List G) (a b : Int) : Option (List G) :=
  let i := nO l a;let k := nO l b
  if i = k then some l else
  let x := kO l i.toNat;let y := kO l k.toNat
  if 6 < x.1.length + y.1.length ∨ 1000 < x.2.length * y.2.length then none else
  some ((l.set (min i k).toNat (lT x y)).eraseIdx (max i k).toNat)
def iH (g : G) : Int := match g.2 with
  | [] => 0
  | w :: l => l.foldl (fun m x => if x.2.1 < m then x.2.1 else m) w.2.1
def vP (g : G) (i : Nat) : Bool := match g.2 with
  | [] => false
  | f :: l => (f :: l).all fun w => decide (gP w i = gP f i ∧ gC w i = gC f i)
def gS (g : G) : Option Nat := if g.1.length < 2 ∨ g.2 = [] then none else (List.range g.1.length).find? (vP g)
def gV (g : G) : W := g.2.headD ([],0,[])
def mG (g : G) (k : Nat) : G := ([g.1.getD k 0],[([gP (gV g) k],0,[gC (gV g) k])])
def jK (g : G) (k : Nat) : G := (g.1.eraseIdx k,fY (g.2.map fun w => (w.1.eraseIdx k,w.2.1,w.2.2.eraseIdx k)))
def mF : Nat → G → List G
  | 0,g => [g]
  | n + 1, g => match gS g with
    | none => [g]
    | some k => mG g k :: mF n (jK g k)
def cG (a b : G) : Int := cI (a.1.headD 0) (b.1.headD 0)
def uY (l : List G) : List G := dR cG (l.flatMap fun g => mF g.1.length g)
def mJ (l : List G) : Int := (l.map iH).sum
def paid (c : Cx) (all : List G) : List G := all.map fun g => (g.1,g.2.filter fun w => decide (w.2.1 + (mJ all - iH g) ≤ c.m))
def A0 (c : Cx) (all : List G) : List G := uY (paid c all)
def lR (c : Cx) (s : Ev) (g : G) : List W :=
  let i := g.1.idxOf s.a
  g.2.flatMap fun w => (if (jG c w i s).2 then [(jG c w i s).1] else []) ++ (if s.k = 4 then [nP w i (g.1.idxOf s.b)] else [])
def ZB (l : List Int) (n : Int) : Bool := (List.range l.length).all fun i => decide (0 ≤ l.getD i 0 ∧ l.getD i 0 ≤ n - 1 ∧ (0 < i → l.getD (i - 1) 0 < l.getD i 0))
def jV (n : Int) (s : Ev) : Bool := decide (0 ≤ s.a ∧ s.a ≤ n - 1) && decide (s.k = 0 ∨ s.ids.length = 0) && decide (s.k = 4 ∨ s.b = 0) &&
  (if s.k = 0 then decide (s.n = 0) && ZB s.ids n else if s.k = 1 ∨ s.k = 2 ∨ s.k = 3 then decide (0 ≤ s.n ∧ s.n ≤ 1099511627776) else if s.k = 4 then decide (s.n = 0 ∧ s.a + 1 ≤ s.b ∧ s.b ≤ n - 1) else if s.k = 5 then decide (0 ≤ s.n ∧ s.n ≤ n - 1) else false)
def vO (c : Cx) (l all : List G) (s : Ev) : Int × List G :=
  let at_ := (nO all s.a).toNat
  let g := kO all at_
  let ws := fY (lR c s g)
  if ws = [] then (26,l) else if 1000 < ws.length then (6,l) else
  let out := A0 c (all.set at_ (g.1,ws))
  if out.any (fun g => g.2.isEmpty) then (26,l) else (0,out)
def nY (c : Cx) (l : List G) (s : Ev) : Int × List G :=
  if jV c.bs.length s then
    (if s.k = 4 then (match join l s.a s.b with
      | none => (6,l)
      | some all => vO c l all s)
    else vO c l l s)
  else (1,l)
def qT (c : Cx) : List G := (List.range c.bs.length).map fun (i : Nat) => ([(i : Int)],[([(i : Int)],0,[((c.bs.getD i (0,0,0)).2.1,(c.bs.getD i (0,0,0)).2.1 + 1)])])
theorem WU {a b d : W} (h1 : nK a b < 0) (h2 : nK b d < 0) : nK a d < 0 := EY.tr (a.1,a.2.2) (b.1,b.2.2) (d.1,d.2.2) h1 h2
theorem IA {a b d : W} (h : nK b a = 0) : nK a d = nK b d := by
  obtain ⟨h1,h2⟩ := nU.1 h;unfold nK;rw [h1,h2]
theorem LB {a b : W} (h : eE a b ≤ 0) : nK a b < 0 ∨ nK a b = 0 ∧ a.2.1 ≤ b.2.1 := by
  unfold eE I7 at h;split at h
  · rename_i e;refine .inr ⟨e,?_⟩;unfold cI at h;split at h <;> (try split at h) <;> omega
  · omega
theorem uO {α : Type} (e : α → α → Bool) : ∀ (p : α) (l : List α), (jR e p l).Sublist l
  | _,[] => .slnil
  | p,y :: l => by
    unfold jR;split
    · exact (uO e y l).cons _
    · exact (uO e y l).cons_cons _
theorem AJ {α : Type} (e : α → α → Bool) : ∀ (l : List α), (wO e l).Sublist l
  | [] => .slnil
  | x :: l => (uO e x l).cons_cons _
theorem rR {l : List W} {w : W} (h : w ∈ fY l) : w ∈ l := (dK eE l).mem_iff.1 ((AJ _ _).mem h)
theorem vZ (l : List W) : (fY l).length ≤ l.length := by
  have := (AJ yS (dR eE l)).length_le;rw [(dK eE l).length_eq] at this;exact this
theorem sJ : ∀ (l : List W) (q p : W), (p :: l).Pairwise (fun a b => eE a b ≤ 0) → nK q p = 0 → q.2.1 ≤ p.2.1 → ∀ w, w ∈ p :: l → ∃ v, v ∈ q :: jR yS p l ∧ nK v w = 0 ∧ v.2.1 ≤ w.2.1
  | [],q,p,hs,h1,h2,w,hw => by
    rcases bL.1 hw with rfl | hw
    · exact ⟨q,aR,h1,h2⟩
    · cases hw
  | y :: l,q,p,hs,h1,h2,w,hw => by
    have hs' := eK.1 hs;rcases bL.1 hw with rfl | hw
    · exact ⟨q,aR,h1,h2⟩
    · unfold jR;by_cases e : yS y p = true
      · rw [if_pos e];have e' : nK y p = 0 := by unfold yS at e;simpa using e
        have hpy : nK p y = 0 := by obtain ⟨a,b⟩ := nU.1 e';exact nU.2 ⟨a.symm,b.symm⟩
        rcases LB (hs'.1 y aR) with hl | ⟨_,hl⟩
        · omega
        · refine sJ l q y hs'.2 ?_ (by omega) w hw
          obtain ⟨a,b⟩ := nU.1 h1;obtain ⟨a',b'⟩ := nU.1 hpy;exact nU.2 ⟨a.trans a',b.trans b'⟩
      · rw [if_neg e];obtain ⟨v,hv,h3,h4⟩ := sJ l y y hs'.2 (nU.2 ⟨rfl,rfl⟩) (fC _) w hw;exact ⟨v,aN _ hv,h3,h4⟩
theorem B2 {l : List W} {w : W} (h : w ∈ l) : ∃ v,v ∈ fY l ∧ v.1 = w.1 ∧ v.2.2 = w.2.2 ∧ v.2.1 ≤ w.2.1 := by
  have hs := kJ iN l;have hw := (dK eE l).mem_iff.2 h;unfold fY;generalize dR eE l = m at *;cases m with
  | nil => cases hw
  | cons x m =>
    obtain ⟨v,hv,h1,h2⟩ := sJ m x x hs (nU.2 ⟨rfl,rfl⟩) (fC _) w hw;exact ⟨v,hv,(nU.1 h1).1,(nU.1 h1).2,h2⟩
theorem K0 : ∀ (l : List W) (p : W), (p :: l).Pairwise (fun a b => eE a b ≤ 0) → (∀ z, z ∈ jR yS p l → nK p z < 0) ∧ (jR yS p l).Pairwise (fun a b => nK a b < 0)
  | [],p,_ => ⟨fun z hz => (by cases hz),.nil⟩
  | y :: l,p,hs => by
    have hs' := eK.1 hs;obtain ⟨h1,h2⟩ := K0 l y hs'.2;unfold jR;by_cases e : yS y p = true
    · rw [if_pos e];have e' : nK y p = 0 := by unfold yS at e;simpa using e
      exact ⟨fun z hz => by rw [IA e'];exact h1 z hz,h2⟩
    · rw [if_neg e];have e' : nK p y < 0 := by
        rcases LB (hs'.1 y aR) with hl | ⟨hl,_⟩
        · exact hl
        · exfalso;apply e;unfold yS;obtain ⟨a,b⟩ := nU.1 hl;simp [nU.2 ⟨a.symm,b.symm⟩]
      refine ⟨fun z hz => ?_,eK.2 ⟨h1,h2⟩⟩
      rcases bL.1 hz with rfl | hz
      · exact e'
      · exact WU e' (h1 z hz)
theorem Q4 (l : List W) : (fY l).Pairwise (fun a b => nK a b < 0) := by
  have hs := kJ iN l;unfold fY;generalize dR eE l = m at *;cases m with
  | nil => exact .nil
  | cons x m => exact eK.2 (K0 m x hs)
theorem I6 {l : List W} : fY l = [] ↔ l = [] := by
  constructor
  · intro h;cases l with
    | nil => rfl
    | cons x l => obtain ⟨v,hv,_⟩ := B2 (l := x :: l) (w := x) aR;rw [h] at hv;cases hv
  · rintro rfl;rfl
abbrev As := Int → Int × SP
def nE (bs : List Int) (w : W) (f : As) : Prop := w.1 = bs.map (fun b => (f b).1) ∧ w.2.2 = bs.map (fun b => (f b).2)
def zS (g : G) (f : As) (m : Int) : Prop := ∃ w,w ∈ g.2 ∧ nE g.1 w f ∧ w.2.1 ≤ m
def Sem : List G → As → Int → Prop
  | [],_,M => 0 ≤ M
  | g :: gs,f,M => ∃ m,zS g f m ∧ Sem gs f (M - m)
theorem zS.mono {g : G} {f : As} {m m' : Int} (h : zS g f m) (hm : m ≤ m') : zS g f m' := by
  obtain ⟨w,h1,h2,h3⟩ := h;exact ⟨w,h1,h2,by omega⟩
theorem Sem.mono : ∀ {gs : List G} {f : As} {M M' : Int}, Sem gs f M → M ≤ M' → Sem gs f M'
  | [],f,M,M',h,hm => by unfold Sem at *;omega
  | g :: gs,f,M,M',⟨m,h1,h2⟩,hm => ⟨m,h1,h2.mono (by omega)⟩
theorem JW {g : G} {f : As} {M : Int} : Sem [g] f M ↔ zS g f M := by
  constructor
  · rintro ⟨m,h1,h2⟩;unfold Sem at h2;exact h1.mono (by omega)
  · intro h;exact ⟨M,h,by unfold Sem;omega⟩
theorem BE : ∀ (a b : List G) (f : As) (M : Int), Sem (a ++ b) f M ↔ ∃ m, Sem a f m ∧ Sem b f (M - m)
  | [],b,f,M => by
    constructor
    · intro h;exact ⟨0,by unfold Sem;omega,by rw [Int.sub_zero];exact h⟩
    · rintro ⟨m,h1,h2⟩;unfold Sem at h1;exact h2.mono (by omega)
  | g :: a,b,f,M => by
    simp only [List.cons_append,Sem];constructor
    · rintro ⟨m,h1,h2⟩;obtain ⟨m',h3,h4⟩ := (BE a b f _).1 h2;exact ⟨m + m',⟨m,h1,h3.mono (by omega)⟩,h4.mono (by omega)⟩
    · rintro ⟨m,⟨m',h1,h2⟩,h3⟩;exact ⟨m',h1,(BE a b f _).2 ⟨m - m',h2,h3.mono (by omega)⟩⟩
theorem nI {a b : List G} (h : a.Perm b) : ∀ {f : As} {M : Int},Sem a f M ↔ Sem b f M := by
  induction h with
  | nil => intro f M;exact Iff.rfl
  | cons x _ ih => intro f M;simp only [Sem,ih]
  | swap x y l =>
    intro f M;simp only [Sem];constructor
    · rintro ⟨m,h1,m',h2,h3⟩;exact ⟨m',h2,m,h1,h3.mono (by omega)⟩
    · rintro ⟨m,h1,m',h2,h3⟩;exact ⟨m',h2,m,h1,h3.mono (by omega)⟩
  | trans _ _ ih1 ih2 => intro f M;rw [ih1,ih2]
theorem EG {F : G → List G} {f : As} : ∀ {gs : List G}, (∀ g, g ∈ gs → ∀ M, Sem (F g) f M ↔ zS g f M) → ∀ {M : Int}, Sem (gs.flatMap F) f M ↔ Sem gs f M
  | [],_,M => Iff.rfl
  | g :: gs,h,M => by
    rw [bF,BE];simp only [Sem,EG (fun g hg => h g (aN _ hg)),h g aR]
theorem I8 {bs : List Int} {l : List W} {f : As} {m : Int} : zS (bs,fY l) f m ↔ zS (bs,l) f m := by
  constructor
  · rintro ⟨w,h1,h2,h3⟩;exact ⟨w,rR h1,h2,h3⟩
  · rintro ⟨w,h1,h2,h3⟩;obtain ⟨v,hv,a,b,d⟩ := B2 h1;exact ⟨v,hv,⟨a.trans h2.1,b.trans h2.2⟩,W8 d h3⟩
def GX (r : SP) : Prop := 0 ≤ r.1 ∧ r.1 < r.2 ∧ r.2 ≤ 20001
structure V9 (n k : Nat) (w : W) : Prop where
  pl : w.1.length = k
  cl : w.2.2.length = k
  pr : ∀ x,x ∈ w.1 → 0 ≤ x ∧ x < n
  nd : w.1.Nodup
  m0 : 0 ≤ w.2.1
  m1 : w.2.1 ≤ 4000000
  sp : ∀ r,r ∈ w.2.2 → GX r
structure vK (n : Nat) (g : G) : Prop where
  ne : g.1 ≠ []
  up : g.1.Pairwise (· < ·)
  rg : ∀ b,b ∈ g.1 → 0 ≤ b ∧ b < n
  ln : g.1.length ≤ 6
  ws : ∀ w,w ∈ g.2 → V9 n g.1.length w
  same : ∀ w v,w ∈ g.2 → v ∈ g.2 → w.1.Perm v.1
theorem vK.nd {n : Nat} {g : G} (h : vK n g) : g.1.Nodup := h.up.imp (fun h => by omega)
theorem H2 : ∀ (l : List W) (a : Int), l.foldl (fun m x => if x.2.1 < m then x.2.1 else m) a ≤ a ∧ (∀ x, x ∈ l → l.foldl (fun m x => if x.2.1 < m then x.2.1 else m) a ≤ x.2.1) ∧ (l.foldl (fun m x => if x.2.1 < m then x.2.1 else m) a = a ∨ ∃ x, x ∈ l ∧ l.foldl (fun m x => if x.2.1 < m then x.2.1 else m) a = x.2.1)
  | [],a => ⟨fC _,fun x hx => (by cases hx),.inl rfl⟩
  | y :: l,a => by
    rw [yE];obtain ⟨h1,h2,h3⟩ := H2 l (if y.2.1 < a then y.2.1 else a)
    generalize l.foldl (fun m x => if x.2.1 < m then x.2.1 else m) (if y.2.1 < a then y.2.1 else a) = q at *
    refine ⟨by split at h1 <;> omega,fun x hx => ?_,?_⟩
    · rcases bL.1 hx with rfl | hx
      · split at h1 <;> omega
      · exact h2 x hx
    · rcases h3 with h3 | ⟨x,hx,h3⟩
      · split at h3
        · exact .inr ⟨y,aR,h3⟩
        · exact .inl h3
      · exact .inr ⟨x,aN _ hx,h3⟩
theorem R4 {g : G} {w : W} (h : w ∈ g.2) : iH g ≤ w.2.1 := by
  unfold iH;cases hg : g.2 with
  | nil => rw [hg] at h;cases h
  | cons x l =>
    rw [hg] at h;obtain ⟨h1,h2,h3⟩ := H2 l x.2.1;rcases bL.1 h with rfl | h
    · exact h1
    · exact h2 _ h
theorem Z8 {g : G} (h : g.2 ≠ []) : ∃ w,w ∈ g.2 ∧ w.2.1 = iH g := by
  unfold iH;cases hg : g.2 with
  | nil => exact absurd hg h
  | cons x l =>
    obtain ⟨h1,h2,h3⟩ := H2 l x.2.1;rcases h3 with h3 | ⟨y,hy,h3⟩
    · exact ⟨x,aR,h3.symm⟩
    · exact ⟨y,aN _ hy,h3.symm⟩
theorem MR {g : G} {f : As} {m : Int} (h : zS g f m) : iH g ≤ m := by
  obtain ⟨w,h1,_,h3⟩ := h;exact W8 (R4 h1) h3
theorem Y3 : ∀ {gs : List G} {f : As} {M : Int}, Sem gs f M → mJ gs ≤ M
  | [],f,M,h => by unfold Sem at h;simpa [mJ] using h
  | g :: gs,f,M,⟨m,h1,h2⟩ => by
    have := MR h1;have := Y3 h2;simp only [mJ,List.map_cons,zN1] at *;omega
def zH8 (c : Cx) (S : Int) (all : List G) : List G := all.map fun g => (g.1,g.2.filter fun w => decide (w.2.1 + (S - iH g) ≤ c.m))
theorem F2 {c : Cx} {S : Int} : ∀ {gs : List G} {f : As} {M : Int}, M + (S - mJ gs) ≤ c.m → (Sem (zH8 c S gs) f M ↔ Sem gs f M)
  | [],f,M,h => Iff.rfl
  | g :: gs,f,M,h => by
    have e : mJ (g :: gs) = iH g + mJ gs := by simp [mJ]
    constructor
    · rintro ⟨m,⟨w,h1,h2,h3⟩,h4⟩;have h1' := (oZ.1 h1).1;have := R4 h1';exact ⟨m,⟨w,h1',h2,h3⟩,(F2 (by omega)).1 h4⟩
    · rintro ⟨m,⟨w,h1,h2,h3⟩,h4⟩;have := R4 h1;have := Y3 h4;refine ⟨m,⟨w,?_,h2,h3⟩,(F2 (by omega)).2 h4⟩
      rw [oZ];refine ⟨h1,?_⟩;simp only [decide_eq_true_eq];omega
theorem PR {c : Cx} {gs : List G} {f : As} {M : Int} (h : M ≤ c.m) : Sem (paid c gs) f M ↔ Sem gs f M := F2 (S := mJ gs) (by omega)
theorem S4 {bs : List Int} {w : W} {f : As} (h : nE bs w f) {i : Nat} (hi : i < bs.length) : gP w i = (f bs[i]).1 := by
  unfold gP;rw [h.1];simp [List.getD,hi]
theorem S6 {bs : List Int} {w : W} {f : As} (h : nE bs w f) {i : Nat} (hi : i < bs.length) : gC w i = (f bs[i]).2 := by
  unfold gC;rw [h.2];simp [List.getD,hi]
theorem tA {α β : Type} (f : α → β) : ∀ (l : List α) (k : Nat), (l.map f).eraseIdx k = (l.eraseIdx k).map f
  | [],_ => rfl
  | x :: l,0 => rfl
  | x :: l,k + 1 => by simp [tA f l k]
def YM (k : Nat) (w : W) : W := (w.1.eraseIdx k,w.2.1,w.2.2.eraseIdx k)
theorem uK {α : Type} : ∀ {k : Nat} {a b : List α} (x : α), a.length = b.length → a.getD k x = b.getD k x → a.eraseIdx k = b.eraseIdx k → a = b
  | _,[],[],_,_,_,_ => rfl
  | _,[],_ :: _,_,h,_,_ => by simp at h
  | _,_ :: _,[],_,h,_,_ => by simp at h
  | 0,y :: a,z :: b,x,h,h1,h2 => by
    simp at h1 h2;rw [h1,h2]
  | k + 1,y :: a,z :: b,x,h,h1,h2 => by
    simp at h h1 h2;rw [h2.1,uK x h (by simpa using h1) h2.2]
theorem S9 {bs : List Int} {w : W} {f : As} {k : Nat} (hk : k < bs.length) (h1 : w.1.length = bs.length) (h2 : w.2.2.length = bs.length) :
    nE bs w f ↔ nE (bs.eraseIdx k) (YM k w) f ∧ gP w k = (f (bs.getD k 0)).1 ∧ gC w k = (f (bs.getD k 0)).2 := by
  have hb : bs.getD k 0 = bs[k] := by simp [List.getD,hk]
  constructor
  · intro h;refine ⟨⟨?_,?_⟩,?_,?_⟩
    · show w.1.eraseIdx k = _;rw [h.1,tA]
    · show w.2.2.eraseIdx k = _;rw [h.2,tA]
    · rw [hb];exact S4 h hk
    · rw [hb];exact S6 h hk
  · rintro ⟨h,h3,h4⟩;rw [hb] at h3 h4;constructor
    · refine uK (k := k) 0 (by simp [h1]) ?_ (by rw [tA];exact h.1)
      rw [show w.1.getD k 0 = gP w k from rfl,h3];simp [List.getD,hk]
    · refine uK (k := k) (0,0) (by simp [h2]) ?_ (by rw [tA];exact h.2)
      rw [show w.2.2.getD k (0,0) = gC w k from rfl,h4];simp [List.getD,hk]
theorem HU {g : G} {i : Nat} (hne : g.2 ≠ []) : vP g i = true ↔ ∀ w,w ∈ g.2 → gP w i = gP (gV g) i ∧ gC w i = gC (gV g) i := by
  unfold vP gV;cases hg : g.2 with
  | nil => exact absurd hg hne
  | cons f l => simp
theorem jA {g : G} {k : Nat} (h : gS g = some k) : 2 ≤ g.1.length ∧ g.2 ≠ [] ∧ k < g.1.length ∧ ∀ w,w ∈ g.2 → gP w k = gP (gV g) k ∧ gC w k = gC (gV g) k := by
  unfold gS at h;split at h
  · cases h
  · rename_i hc;have hne : g.2 ≠ [] := fun e => hc (.inr e)
    have h1 := List.find?_some h;have h2 := List.mem_of_find?_eq_some h;rw [eJ] at h2;exact ⟨by omega,hne,h2,(HU hne).1 h1⟩
theorem iL {g : G} (h : g.2 ≠ []) : gV g ∈ g.2 := by
  unfold gV;cases hg : g.2 with
  | nil => exact absurd hg h
  | cons f l => simp
theorem FA {g : G} {k : Nat} {f : As} {m : Int} : zS (mG g k) f m ↔ gP (gV g) k = (f (g.1.getD k 0)).1 ∧ gC (gV g) k = (f (g.1.getD k 0)).2 ∧ 0 ≤ m := by
  unfold zS mG;constructor
  · rintro ⟨w,h1,h2,h3⟩;simp at h1;subst h1;obtain ⟨h4,h5⟩ := h2;simp at h4 h5;exact ⟨h4,h5,h3⟩
  · rintro ⟨h1,h2,h3⟩;exact ⟨_,bO.2 rfl,⟨by simp [h1],by simp [h2]⟩,h3⟩
theorem MQ {n : Nat} {g : G} (ok : vK n g) {k : Nat} (hc : gS g = some k) {f : As} {M : Int} : (∃ m,zS (mG g k) f m ∧ zS (jK g k) f (M - m)) ↔ zS g f M := by
  obtain ⟨h1,hne,hk,hs⟩ := jA hc;have hr : ∀ M,zS (jK g k) f M ↔ ∃ w,w ∈ g.2 ∧ nE (g.1.eraseIdx k) (YM k w) f ∧ w.2.1 ≤ M := by
    intro M;unfold jK;rw [I8];unfold zS;constructor
    · rintro ⟨v,hv,a,b⟩;obtain ⟨w,hw,rfl⟩ := bI.1 hv;exact ⟨w,hw,a,b⟩
    · rintro ⟨w,hw,a,b⟩;exact ⟨YM k w,bI.2 ⟨w,hw,rfl⟩,a,b⟩
  constructor
  · rintro ⟨m,h2,h3⟩;obtain ⟨a,b,c⟩ := FA.1 h2;obtain ⟨w,hw,d,e⟩ := (hr _).1 h3;have := ok.ws w hw;exact ⟨w,hw,(S9 hk this.pl this.cl).2 ⟨d,by rw [(hs w hw).1];exact a,by rw [(hs w hw).2];exact b⟩,by omega⟩
  · rintro ⟨w,hw,d,e⟩;have := ok.ws w hw;obtain ⟨a,b,c⟩ := (S9 hk this.pl this.cl).1 d;refine ⟨0,FA.2 ⟨by rw [← (hs w hw).1];exact b,by rw [← (hs w hw).2];exact c,fC _⟩,(hr _).2 ⟨w,hw,a,by omega⟩⟩
theorem sG {α : Type} {l : List α} {k : Nat} {x : α} (h : x ∈ l.eraseIdx k) : x ∈ l := (DH l k).mem h
theorem V9.erase {n k : Nat} {w : W} (h : V9 n k w) {i : Nat} (hi : i < k) : V9 n (k - 1) (YM i w) where
  pl := by show (w.1.eraseIdx i).length = _;rw [fO,h.pl,if_pos hi]
  cl := by show (w.2.2.eraseIdx i).length = _;rw [fO,h.cl,if_pos hi]
  pr x hx := h.pr x (sG hx)
  nd := h.nd.sublist (DH _ _)
  m0 := h.m0
  m1 := h.m1
  sp r hr := h.sp r (sG hr)
theorem iZ {α : Type} : ∀ (l : List α) (i : Nat) (x : α), i < l.length → (l.getD i x :: l.eraseIdx i).Perm l
  | [],i,x,h => by simp at h
  | y :: l,0,x,h => by simp
  | y :: l,i + 1,x,h => by
    simp only [List.getD_cons_succ,List.eraseIdx_cons_succ];exact (List.Perm.swap _ _ _).trans ((iZ l i x (by simpa using h)).cons y)
theorem V9.at {n k : Nat} {w : W} (h : V9 n k w) {i : Nat} (hi : i < k) : 0 ≤ gP w i ∧ gP w i < n ∧ GX (gC w i) := by
  unfold gP gC;have h1 : i < w.1.length := by rw [h.pl];exact hi
  have h2 : i < w.2.2.length := by rw [h.cl];exact hi
  simp only [List.getD,aA h1,aA h2,lL];exact ⟨(h.pr _ (aH h1)).1,(h.pr _ (aH h1)).2,h.sp _ (aH h2)⟩
theorem vK.one {n : Nat} {g : G} (h : vK n g) {k : Nat} (hc : gS g = some k) : vK n (mG g k) := by
  obtain ⟨h1,hne,hk,hs⟩ := jA hc;have hf := h.ws _ (iL hne);have ha := hf.at hk;refine ⟨by simp [mG],by simp [mG],?_,by simp [mG],?_,?_⟩
  · intro b hb;simp only [mG,bO] at hb;subst hb;simp only [List.getD,aA hk,lL];exact h.rg _ (aH hk)
  · intro w hw;simp only [mG,bO] at hw;subst hw;exact ⟨rfl,rfl,by intro x hx;simp at hx;subst hx;exact ⟨ha.1,ha.2.1⟩,by simp,by simp,by simp,by intro r hr;simp at hr;subst hr;exact ha.2.2⟩
  · intro w v hw hv;simp only [mG,bO] at hw hv;subst hw;subst hv;exact .refl _
theorem vK.rest {n : Nat} {g : G} (h : vK n g) {k : Nat} (hc : gS g = some k) : vK n (jK g k) := by
  obtain ⟨h1,hne,hk,hs⟩ := jA hc;have hl : (g.1.eraseIdx k).length = g.1.length - 1 := by rw [fO,if_pos hk]
  have hm : ∀ w,w ∈ (jK g k).2 → ∃ v,v ∈ g.2 ∧ w = YM k v := by
    intro w hw;obtain ⟨v,hv,rfl⟩ := bI.1 (rR hw);exact ⟨v,hv,rfl⟩
  refine ⟨?_,h.up.sublist (DH _ _),fun b hb => h.rg b (sG hb),?_,?_,?_⟩
  · intro e;have : (g.1.eraseIdx k).length = 0 := by rw [show g.1.eraseIdx k = [] from e];rfl
    omega
  · show (g.1.eraseIdx k).length ≤ 6;have := h.ln;omega
  · intro w hw;obtain ⟨v,hv,rfl⟩ := hm w hw;show V9 n (g.1.eraseIdx k).length _;rw [hl];exact (h.ws v hv).erase hk
  · intro w v hw hv;obtain ⟨w,hw',rfl⟩ := hm w hw;obtain ⟨v,hv',rfl⟩ := hm v hv;clear hw hv;have hw := hw';have hv := hv';have h3 := h.same w v hw hv;have e1 := iZ w.1 k 0 (by rw [(h.ws w hw).pl];exact hk)
    have e2 := iZ v.1 k 0 (by rw [(h.ws v hv).pl];exact hk)
    have e3 : w.1.getD k 0 = v.1.getD k 0 := ((hs w hw).1).trans ((hs v hv).1).symm;rw [e3] at e1;exact (List.perm_cons _).1 (e1.trans (h3.trans e2.symm))
theorem BK {n : Nat} : ∀ (m : Nat) {g : G}, vK n g → ∀ x, x ∈ mF m g → vK n x
  | 0,g,h,x,hx => by simp [mF] at hx;subst hx;exact h
  | m + 1,g,h,x,hx => by
    unfold mF at hx;split at hx
    · simp at hx;subst hx;exact h
    · rename_i k hc;rcases bL.1 hx with rfl | hx
      · exact h.one hc
      · exact BK m (h.rest hc) x hx
theorem EF {n : Nat} {f : As} : ∀ (m : Nat) {g : G}, vK n g → ∀ {M : Int}, Sem (mF m g) f M ↔ zS g f M
  | 0,g,h,M => JW
  | m + 1,g,h,M => by
    unfold mF;split
    · exact JW
    · rename_i k hc;simp only [Sem,EF m (h.rest hc)];exact MQ h hc
theorem ME {n : Nat} {f : As} {l : List G} (h : ∀ g,g ∈ l → vK n g) {M : Int} : Sem (uY l) f M ↔ Sem l f M := by
  unfold uY;rw [nI (dK _ _)];exact EG fun g hg M => EF _ (h g hg)
theorem Y7 {n : Nat} : ∀ (m : Nat) {g : G}, vK n g → g.1.length ≤ m → ∀ x, x ∈ mF m g → gS x = none
  | 0,g,h,hl,x,hx => by exact absurd (fE.1 (Nat.le_zero.1 hl)) h.ne
  | m + 1,g,h,hl,x,hx => by
    unfold mF at hx;split at hx
    · rename_i hc;simp at hx;subst hx;exact hc
    · rename_i k hc;obtain ⟨h1,hne,hk,hs⟩ := jA hc;rcases bL.1 hx with rfl | hx
      · simp [gS,mG]
      · refine Y7 m (h.rest hc) ?_ x hx;show (g.1.eraseIdx k).length ≤ m;rw [fO,if_pos hk];omega
theorem vY {n : Nat} : ∀ (m : Nat) {g : G}, vK n g → ((mF m g).flatMap (·.1)).Perm g.1
  | 0,g,h => by simp [mF]
  | m + 1,g,h => by
    unfold mF;split
    · simp
    · rename_i k hc;obtain ⟨h1,hne,hk,hs⟩ := jA hc;rw [bF];exact (List.Perm.append_left _ (vY m (h.rest hc))).trans (iZ g.1 k 0 hk)
theorem WR {m : Nat} : ∀ {g : G},g.2 ≠ [] → ∀ x,x ∈ mF m g → x.2 ≠ [] := by
  induction m with
  | zero => intro g h x hx;simp [mF] at hx;subst hx;exact h
  | succ m ih =>
    intro g h x hx;unfold mF at hx;split at hx
    · simp at hx;subst hx;exact h
    · rename_i k hc;rcases bL.1 hx with rfl | hx
      · simp [mG]
      · refine ih ?_ x hx;show fY _ ≠ [];rw [Ne,I6,lA];exact h
theorem QO {g : G} (h : g.2 = []) : ∀ m, mF m g = [g]
  | 0 => rfl
  | m + 1 => by unfold mF;rw [show gS g = none by unfold gS;rw [if_pos (.inr h)]]
theorem EW {m : Nat} : ∀ {g : G} {K : Nat},1 ≤ K → g.2.length ≤ K → ∀ x,x ∈ mF m g → x.2.length ≤ K := by
  induction m with
  | zero => intro g K _ h x hx;simp [mF] at hx;subst hx;exact h
  | succ m ih =>
    intro g K h1 h x hx;unfold mF at hx;split at hx
    · simp at hx;subst hx;exact h
    · rename_i k hc;rcases bL.1 hx with rfl | hx
      · simpa [mG] using h1
      · refine ih h1 ?_ x hx;exact bY (vZ _) (by rw [bC];exact h)
def upd (f : As) (a : Int) (x : Int × SP) : As := fun b => if b = a then x else f b
def DX (f : As) (a b : Int) : As := fun x => if x = a then f b else if x = b then f a else f x
def D5 (c : Cx) (s : Ev) (x : Int × SP) : (Int × SP) × Int × Bool :=
  if s.k = 0 then (if x.1 ∈ s.ids then (x,0,decide ((s.ids.length : Int) - 1 ≤ c.st)) else (x,1,decide ((s.ids.length : Int) ≤ c.st)))
  else if s.k = 1 then
    let b := c.bs.getD x.1.toNat (0,0,0)
    let q := sE b.2.2 (pA c.ks c.ls b.1) s.n c.er x.2
    ((x.1,q.1),0,q.2)
  else if s.k = 2 then let q := vW x.2 s.n c.sl;((x.1,q.1),0,q.2)
  else if s.k = 3 then ((x.1,(s.n,s.n + 1)),0,rG x.2.1 x.2.2 s.n)
  else if s.k = 5 then (x,0,decide (x.1 = s.n))
  else (x,0,true)
theorem ED {α : Type} {l : List α} {i : Nat} (x : α) (h : i < l.length) : l.set i (l.getD i x) = l := by
  simp [List.getD,h]
theorem xU {c : Cx} {w : W} {i : Nat} {s : Ev} (h : i < w.2.2.length) :
    jG c w i s = ((w.1,w.2.1 + (D5 c s (gP w i,gC w i)).2.1,w.2.2.set i (D5 c s (gP w i,gC w i)).1.2),(D5 c s (gP w i,gC w i)).2.2) := by
  have e : w.2.2.set i (gC w i) = w.2.2 := ED _ h;unfold jG D5;split
  · split <;> simp [e]
  · split
    · simp [sC]
    · split
      · simp [sC]
      · split
        · simp [sC]
        · split <;> simp [e]
theorem CT {c : Cx} {s : Ev} {x : Int × SP} : (D5 c s x).1.1 = x.1 := by
  unfold D5
  repeat' split
  all_goals rfl
def W2 (c : Cx) (s : Ev) (f f' : As) (d : Int) : Prop :=
  ((D5 c s (f s.a)).2.2 = true ∧ f' = upd f s.a (D5 c s (f s.a)).1 ∧ d = (D5 c s (f s.a)).2.1) ∨ (s.k = 4 ∧ f' = DX f s.a s.b ∧ d = 0)
theorem rA {bs : List Int} {w : W} {f : As} (h1 : w.1.length = bs.length) (h2 : w.2.2.length = bs.length) :
    nE bs w f ↔ ∀ j (hj : j < bs.length),gP w j = (f bs[j]).1 ∧ gC w j = (f bs[j]).2 := by
  constructor
  · intro h j hj;exact ⟨S4 h hj,S6 h hj⟩
  · intro h;constructor
    · refine kB (by simp [h1]) fun j hj hj' => ?_
      have := (h j (by omega)).1
      unfold gP at this;simp only [List.getD,aA hj,lL] at this;simp [this]
    · refine kB (by simp [h2]) fun j hj hj' => ?_
      have := (h j (by omega)).2
      unfold gC at this;simp only [List.getD,aA hj,lL] at this;simp [this]
theorem uG {bs : List Int} {a : Int} (ha : a ∈ bs) : ∃ h : bs.idxOf a < bs.length,bs[bs.idxOf a] = a := by
  have h := fM ha;exact ⟨h,List.getElem_idxOf h⟩
theorem R2 {bs : List Int} (hn : bs.Nodup) {i j : Nat} (hi : i < bs.length) (hj : j < bs.length) (h : bs[i] = bs[j]) : i = j := (ZG hn).1 h
theorem fD {α : Type} {l : List α} {i j : Nat} {x d : α} (hj : i < l.length) : (l.set i x).getD j d = if j = i then x else l.getD j d := by
  by_cases e : j = i
  · subst e;simp [List.getD,hj]
  · rw [if_neg e];simp [List.getD,jH (Ne.symm e)]
theorem RF {c : Cx} {n : Nat} {g : G} (ok : vK n g) {s : Ev} (ha : s.a ∈ g.1) (hb : s.k = 4 → s.b ∈ g.1 ∧ s.a ≠ s.b) {f' : As} {M : Int} :
    zS (g.1,fY (lR c s g)) f' M ↔ ∃ f d,W2 c s f f' d ∧ zS g f (M - d) := by
  rw [I8];obtain ⟨hi,hia⟩ := uG ha;have hnd := ok.nd;constructor
  · rintro ⟨v,hv,hf,hm⟩;unfold lR at hv;obtain ⟨w,hw,hv⟩ := gJ.1 hv;have wo := ok.ws w hw;have h1 := wo.pl;have h2 := wo.cl;rcases bB.1 hv with hv | hv
    · split at hv
      · rename_i hok;simp only [bO] at hv;subst hv;rw [xU (by omega)] at hok hf hm
        simp only at hok hf hm;generalize hi' : g.1.idxOf s.a = i at *;have hf' := (rA (w := (w.1,w.2.1 + (D5 c s (gP w i,gC w i)).2.1,w.2.2.set i (D5 c s (gP w i,gC w i)).1.2)) h1 (by simp [h2])).1 hf
        have ea : upd f' s.a (gP w i,gC w i) s.a = (gP w i,gC w i) := by unfold upd;rw [if_pos rfl]
        refine ⟨upd f' s.a (gP w i,gC w i),_,.inl ⟨by rw [ea];exact hok,?_,rfl⟩,w,hw,(rA h1 h2).2 fun j hj => ?_,by rw [ea];show w.2.1 ≤ _;omega⟩
        · rw [ea];funext b;unfold upd;by_cases e : b = s.a
          · rw [if_pos e,e];obtain ⟨q1,q2⟩ := hf' i hi;rw [hia] at q1 q2;refine Prod.ext ?_ ?_
            · rw [CT,← q1];rfl
            · rw [← q2];unfold gC;rw [fD (by omega),if_pos rfl]
          · rw [if_neg e,if_neg e]
        · obtain ⟨q1,q2⟩ := hf' j hj;unfold upd;by_cases e : g.1[j] = s.a
          · rw [if_pos e];have : j = i := R2 hnd hj hi (e.trans hia.symm);subst this;exact ⟨rfl,rfl⟩
          · rw [if_neg e];refine ⟨by rw [← q1];rfl,?_⟩
            rw [← q2];unfold gC;rw [fD (by omega),if_neg]
            rintro rfl;exact e hia
      · cases hv
    · split at hv
      · rename_i hk;simp only [bO] at hv;subst hv;obtain ⟨hbm,hab⟩ := hb hk;obtain ⟨hj,hjb⟩ := uG hbm;generalize hi' : g.1.idxOf s.a = i at *;generalize hj' : g.1.idxOf s.b = k at *;have hik : i ≠ k := by rintro rfl;exact hab (hia.symm.trans hjb)
        have hf' := (rA (w := nP w i k) (by simp [nP,h1]) (by simp [nP,h2])).1 hf
        refine ⟨DX f' s.a s.b,0,.inr ⟨hk,?_,rfl⟩,w,hw,(rA h1 h2).2 fun j hj0 => ?_,by have : (nP w i k).2.1 = w.2.1 := rfl;omega⟩
        · funext x;unfold DX;by_cases e : x = s.a
          · subst e;rw [if_pos rfl,if_neg (Ne.symm hab),if_pos rfl]
          · by_cases e' : x = s.b
            · subst e';rw [if_neg e,if_pos rfl,if_pos rfl]
            · rw [if_neg e,if_neg e',if_neg e,if_neg e']
        · unfold DX;by_cases e : g.1[j] = s.a
          · rw [if_pos e];have : j = i := R2 hnd hj0 hi (e.trans hia.symm);subst this;obtain ⟨q1,q2⟩ := hf' k hj;rw [hjb] at q1 q2;rw [← q1,← q2];constructor
            · unfold gP nP;simp only;rw [fD (by simp;omega),if_pos rfl];rfl
            · unfold gC nP;simp only;rw [fD (by simp;omega),if_pos rfl];rfl
          · rw [if_neg e];by_cases e' : g.1[j] = s.b
            · rw [if_pos e'];have : j = k := R2 hnd hj0 hj (e'.trans hjb.symm);subst this;obtain ⟨q1,q2⟩ := hf' i hi;rw [hia] at q1 q2;rw [← q1,← q2];constructor
              · unfold gP nP;simp only;rw [fD (by simp;omega),if_neg hik,fD (by omega),if_pos rfl];rfl
              · unfold gC nP;simp only;rw [fD (by simp;omega),if_neg hik,fD (by omega),if_pos rfl];rfl
            · rw [if_neg e'];have n1 : j ≠ i := by rintro rfl;exact e hia
              have n2 : j ≠ k := by rintro rfl;exact e' hjb
              obtain ⟨q1,q2⟩ := hf' j hj0;rw [← q1,← q2];constructor
              · unfold gP nP;simp only;rw [fD (by simp;omega),if_neg n2,fD (by omega),if_neg n1]
              · unfold gC nP;simp only;rw [fD (by simp;omega),if_neg n2,fD (by omega),if_neg n1]
      · cases hv
  · rintro ⟨f,d,hst,w,hw,hf,hm⟩;have wo := ok.ws w hw;have h1 := wo.pl;have h2 := wo.cl;have hf' := (rA h1 h2).1 hf;have hxa : (gP w (g.1.idxOf s.a),gC w (g.1.idxOf s.a)) = f s.a := by
      obtain ⟨q1,q2⟩ := hf' _ hi;rw [hia] at q1 q2;exact Prod.ext q1 q2
    rcases hst with ⟨hok,rfl,rfl⟩ | ⟨hk,rfl,rfl⟩
    · refine ⟨(jG c w (g.1.idxOf s.a) s).1,gJ.2 ⟨w,hw,bB.2 (.inl ?_)⟩,?_,?_⟩
      · rw [if_pos (by rw [xU (by omega),hxa];exact hok)];exact bO.2 rfl
      · rw [xU (by omega),hxa]
        refine (rA (bs := g.1) (w := (w.1,w.2.1 + (D5 c s (f s.a)).2.1,w.2.2.set (g.1.idxOf s.a) (D5 c s (f s.a)).1.2)) h1 (by simp [h2])).2 fun j hj => ?_
        obtain ⟨q1,q2⟩ := hf' j hj;unfold upd;by_cases e : g.1[j] = s.a
        · rw [if_pos e];have : j = g.1.idxOf s.a := R2 hnd hj hi (e.trans hia.symm);refine ⟨?_,?_⟩
          · rw [CT];show gP w j = _;rw [q1,e]
          · unfold gC;simp only;rw [fD (by omega),if_pos this]
        · rw [if_neg e];refine ⟨q1,?_⟩;unfold gC;simp only;rw [fD (by omega),if_neg (by rintro rfl;exact e hia)]
          exact q2
      · rw [xU (by omega),hxa];show w.2.1 + _ ≤ _;omega
    · obtain ⟨hbm,hab⟩ := hb hk;obtain ⟨hj,hjb⟩ := uG hbm;have hxb : gP w (g.1.idxOf s.b) = (f s.b).1 ∧ gC w (g.1.idxOf s.b) = (f s.b).2 := by
        obtain ⟨q1,q2⟩ := hf' _ hj;rw [hjb] at q1 q2;exact ⟨q1,q2⟩
      have hxa' : gP w (g.1.idxOf s.a) = (f s.a).1 ∧ gC w (g.1.idxOf s.a) = (f s.a).2 := by rw [← hxa];exact ⟨rfl,rfl⟩
      refine ⟨nP w (g.1.idxOf s.a) (g.1.idxOf s.b),gJ.2 ⟨w,hw,bB.2 (.inr (by rw [if_pos hk];exact bO.2 rfl))⟩,?_,by show w.2.1 ≤ M;omega⟩
      generalize hi' : g.1.idxOf s.a = i at *;generalize hj' : g.1.idxOf s.b = k at *;have hik : i ≠ k := by rintro rfl;exact hab (hia.symm.trans hjb)
      refine (rA (by simp [nP,h1]) (by simp [nP,h2])).2 fun j hj0 => ?_
      unfold DX;by_cases e : g.1[j] = s.a
      · rw [if_pos e];have : j = i := R2 hnd hj0 hi (e.trans hia.symm);subst this;rw [← hxb.1,← hxb.2];constructor
        · unfold gP nP;simp only;rw [fD (by simp;omega),if_neg hik,fD (by omega),if_pos rfl];rfl
        · unfold gC nP;simp only;rw [fD (by simp;omega),if_neg hik,fD (by omega),if_pos rfl];rfl
      · rw [if_neg e];by_cases e' : g.1[j] = s.b
        · rw [if_pos e'];have : j = k := R2 hnd hj0 hj (e'.trans hjb.symm);subst this;rw [← hxa'.1,← hxa'.2];constructor
          · unfold gP nP;simp only;rw [fD (by simp;omega),if_pos rfl];rfl
          · unfold gC nP;simp only;rw [fD (by simp;omega),if_pos rfl];rfl
        · rw [if_neg e'];have n1 : j ≠ i := by rintro rfl;exact e hia
          have n2 : j ≠ k := by rintro rfl;exact e' hjb
          obtain ⟨q1,q2⟩ := hf' j hj0;rw [← q1,← q2];constructor
          · unfold gP nP;simp only;rw [fD (by simp;omega),if_neg n2,fD (by omega),if_neg n1]
          · unfold gC nP;simp only;rw [fD (by simp;omega),if_neg n2,fD (by omega),if_neg n1]
theorem F7 {g : G} {f f' : As} {M : Int} (h : ∀ b,b ∈ g.1 → f b = f' b) : zS g f M ↔ zS g f' M := by
  unfold zS nE;rw [jU (g := fun b => (f' b).1) (fun b hb => by rw [h b hb]),jU (g := fun b => (f' b).2) (fun b hb => by rw [h b hb])]
theorem qI {f f' : As} : ∀ {gs : List G} {M : Int}, (∀ g, g ∈ gs → ∀ b, b ∈ g.1 → f b = f' b) → (Sem gs f M ↔ Sem gs f' M)
  | [],M,_ => Iff.rfl
  | g :: gs,M,h => by
    simp only [Sem,F7 (h g aR),qI (fun x hx => h x (aN _ hx))]
end Go.Ld
namespace Go.Proofs.YtmmkhmilpeodnaaGreat
open Go Go.Ab
section
variable {P : Program} {env : dQ} {h : Hp} {d : Option Nat} {ty : TypeId} {pos : String} {af : Array Edge} {g : Option (Nat × Bool)}
theorem XU {t t2 : TypeId} {x y : Operand} {a b : Int} (hx : evu env x = some (.i a)) (hy : evu env y = some (.i b)) (e : b < a) : bX P ⟨d,.binOp .gtr t x y t2,ty,pos,af,g⟩ env h 0 (fun _ => .b true) (fun _ => []) := by
  have := fP (P := P) (d := d) (ty := ty) (pos := pos) (af := af) (g := g) (h := h) (t := t) (t2 := t2) hx hy;simpa [show decide (a > b) = true from decide_eq_true (by omega)] using this
theorem CA {t t2 : TypeId} {x y : Operand} {a b : Int} (hx : evu env x = some (.i a)) (hy : evu env y = some (.i b)) (e : a ≤ b) : bX P ⟨d,.binOp .gtr t x y t2,ty,pos,af,g⟩ env h 0 (fun _ => .b false) (fun _ => []) := by
  have := fP (P := P) (d := d) (ty := ty) (pos := pos) (af := af) (g := g) (h := h) (t := t) (t2 := t2) hx hy;simpa [show decide (a > b) = false from decide_eq_false (by omega)] using this
theorem xP {t t2 : TypeId} {x y : Operand} {a b : Int} (hx : evu env x = some (.i a)) (hy : evu env y = some (.i b)) (e : a < b) : bX P ⟨d,.binOp .lss t x y t2,ty,pos,af,g⟩ env h 0 (fun _ => .b true) (fun _ => []) := by
  have := aO (P := P) (d := d) (ty := ty) (pos := pos) (af := af) (g := g) (h := h) (t := t) (t2 := t2) hx hy;simpa [show decide (a < b) = true from decide_eq_true (by omega)] using this
theorem C5 {t t2 : TypeId} {x y : Operand} {a b : Int} (hx : evu env x = some (.i a)) (hy : evu env y = some (.i b)) (e : b ≤ a) : bX P ⟨d,.binOp .lss t x y t2,ty,pos,af,g⟩ env h 0 (fun _ => .b false) (fun _ => []) := by
  have := aO (P := P) (d := d) (ty := ty) (pos := pos) (af := af) (g := g) (h := h) (t := t) (t2 := t2) hx hy;simpa [show decide (a < b) = false from decide_eq_false (by omega)] using this
theorem XV {t t2 : TypeId} {x y : Operand} {a b : Int} (hx : evu env x = some (.i a)) (hy : evu env y = some (.i b)) (e : a < b) : bX P ⟨d,.binOp .geq t x y t2,ty,pos,af,g⟩ env h 0 (fun _ => .b false) (fun _ => []) := by
  have := jE (P := P) (d := d) (ty := ty) (pos := pos) (af := af) (g := g) (h := h) (t := t) (t2 := t2) hx hy;simpa [show decide (a ≥ b) = false from decide_eq_false (by omega)] using this
end
end Go.Proofs.YtmmkhmilpeodnaaGreat
namespace Go.Proofs.YtmmkhmilpeodnaaGreat
open Go Go.Ab Go.Ld
attribute [local irreducible] VC AW bX aT
set_option maxHeartbeats 4000000
theorem Z5 (x : Int) : aT Tryz.prog 136 [.i x] [] (.b false) [] := by
  refine bT T Tryz.func136 rfl rfl rfl rfl ?_
  (repeat' (first|refine wS ?_|refine wR ?_|(refine rg 0 (aV ?_))|(refine rg 1 (dS rfl (vV (fI rfl rfl) (aV ?_))))|refine nZ ?_));all_goals first | (exfalso;omega) | exact cY (.inl rfl) rfl (mD (by simp))
theorem AK (x y : Int) : aT Tryz.prog 100 [.i x,.i y] [] (.i (cI x y)) [] := by
  by_cases h1 : x < y
  · rw [show cI x y = -1 by unfold cI;rw [if_pos h1]]
    refine bT T Tryz.func100 rfl rfl rfl rfl ?_
    (repeat' (first|refine wS ?_|refine wK ?_|refine wR ?_|refine wU ?_|(refine wC rfl ?_ ?_<;>(intro hb;(try simp only [nm] at hb);try (exfalso;omega)))|(refine rg 0 (aV ?_))|(refine rg 1 (mW rfl (vV (kC (Z5 x)) (aV ?_))))|(refine rg 2 (mW rfl (vV (kC (Z5 y)) (aV ?_))))|(refine rg 3 (mV ?_))|(refine rg 7 (mV ?_))|(refine rg 9 (dS rfl (vV (aO rfl rfl) ?_)))|(refine rg 10 (aV ?_))|refine nZ ?_));all_goals first | (exfalso;omega) | exact rQ
  · by_cases h2 : y < x
    · rw [show cI x y = 1 by unfold cI;rw [if_neg h1,if_pos h2]]
      refine bT T Tryz.func100 rfl rfl rfl rfl ?_
      (repeat' (first|refine wS ?_|refine wK ?_|refine wR ?_|refine wU ?_|(refine wC rfl ?_ ?_<;>(intro hb;(try simp only [nm] at hb);try (exfalso;omega)))|(refine rg 0 (aV ?_))|(refine rg 1 (mW rfl (vV (kC (Z5 x)) (aV ?_))))|(refine rg 2 (mW rfl (vV (kC (Z5 y)) (aV ?_))))|(refine rg 3 (mV ?_))|(refine rg 7 (mV ?_))|(refine rg 9 (dS rfl (vV (aO rfl rfl) ?_)))|(refine rg 11 (dS rfl (vV (fP rfl rfl) ?_)))|(refine rg 12 (aV ?_))|refine nZ ?_));all_goals first | (exfalso;omega) | exact rQ
    · rw [show cI x y = 0 by unfold cI;rw [if_neg h1,if_neg h2]]
      refine bT T Tryz.func100 rfl rfl rfl rfl ?_
      (repeat' (first|refine wS ?_|refine wK ?_|refine wR ?_|refine wU ?_|(refine wC rfl ?_ ?_<;>(intro hb;(try simp only [nm] at hb);try (exfalso;omega)))|(refine rg 0 (aV ?_))|(refine rg 1 (mW rfl (vV (kC (Z5 x)) (aV ?_))))|(refine rg 2 (mW rfl (vV (kC (Z5 y)) (aV ?_))))|(refine rg 3 (mV ?_))|(refine rg 7 (mV ?_))|(refine rg 9 (dS rfl (vV (aO rfl rfl) ?_)))|(refine rg 11 (dS rfl (vV (fP rfl rfl) ?_)))|(refine rg 13 (aV ?_))|refine nZ ?_));all_goals first | (exfalso;omega) | exact rQ
theorem zH9 (x y : Int) : aT Tryz.prog 98 [.rowE (ints [x,y]) 1] [] (.i (I7 x y)) [] := by
  have hlen : (ints [x,y]).length = 2 := rfl;refine bT T Tryz.func98 rfl rfl rfl rfl ?_
  (repeat' (first|refine wS ?_|refine wB ?_|(refine rg 0 (aV ?_))|(refine rg 1 (aV ?_))|(refine rg 2 (mW rfl (qW T rfl (mV ?_))))|refine nZ ?_));refine dB (X := {k : Nat // k ≤ 2 ∧ (1 ≤ k → x = 0) ∧ (2 ≤ k → y = 0)}) (fun k => [(0,.rowE (ints [x,y]) 1),(3,.i 0),(6,.rowE (ints [x,y]) 1),(7,.i (ints [x,y]).length),(8,.i k.1)]) (fun _ => []) (fun k => 2 - k.1) ⟨0,by omega,by omega,by omega⟩ (eL []) ?_
  rintro ⟨k,hk,h1,h2⟩;dsimp only;by_cases hlt : k < 2
  · have hg : ∃ z,(ints [x,y])[k]? = some [AV.i z] ∧ (k = 0 → z = x) ∧ (k = 1 → z = y) := by
      rcases (by omega : k = 0 ∨ k = 1) with rfl | rfl
      · exact ⟨x,rfl,fun _ => rfl,by omega⟩
      · exact ⟨y,rfl,by omega,fun _ => rfl⟩
    obtain ⟨z,hg,hz1,hz2⟩ := hg;by_cases h0 : z = 0
    · (repeat' (first|refine wS ?_|refine wB ?_|refine wK ?_|(refine wC rfl (fun hb => ?_) (fun hb => ?_) <;> (((try simp only [nm] at hb);try (exfalso;omega))))|(refine rg 3 (vV (aO rfl rfl) ?_))|(refine rg 4 (vV (ix T rfl (by omega) (cN [x,y]) hg) (lW T rfl (aV ?_))))|(refine rg 5 (dS rfl (vV (fI rfl rfl) ?_)))|(refine rg 7 (vV (bU rfl rfl (by omega) (by omega)) (mV ?_)))|(refine nZ ?_)));all_goals first | (exfalso;omega) | exact ⟨⟨k + 1,by omega,by omega,by omega⟩,by dsimp only;omega,eL []⟩
    · (repeat' (first|refine wS ?_|refine wB ?_|refine wK ?_|refine wR ?_|(refine wC rfl (fun hb => ?_) (fun hb => ?_) <;> (((try simp only [nm] at hb);try (exfalso;omega))))|(refine rg 3 (vV (aO rfl rfl) ?_))|(refine rg 4 (vV (ix T rfl (by omega) (cN [x,y]) hg) (lW T rfl (aV ?_))))|(refine rg 5 (dS rfl (vV (fI rfl rfl) ?_)))|(refine rg 6 (mW rfl (aV ?_)))|(refine nZ ?_)));all_goals first | (exfalso;omega) | exact cY (.inl rfl) rfl (by rw [show I7 x y = z by unfold I7;split <;> omega];rfl)
  · (repeat' (first|refine wS ?_|refine wR ?_|refine wE ?_|(refine wC rfl (fun hb => ?_) (fun hb => ?_) <;> (((try simp only [nm] at hb);try (exfalso;omega))))|(refine rg 3 (vV (aO rfl rfl) ?_))|(refine rg 8 (mW rfl (aV ?_)))|(refine nZ ?_)));all_goals first | (exfalso;omega) | exact cY (.inl rfl) rfl (by rw [show I7 x y = 0 by unfold I7;split <;> omega];rfl)
theorem zJ5 {a b : List Int} {k : Nat} (h1 : k < a.length) (h2 : k < b.length) : cL (a.drop k) (b.drop k) = I7 (cI a[k] b[k]) (cL (a.drop (k + 1)) (b.drop (k + 1))) := by
  rw [aS h1,aS h2];rfl
theorem YW {a b : List Int} {k : Nat} (h1 : k < a.length) (h2 : k = b.length) : cL (a.drop k) (b.drop k) = 1 := by
  rw [aS h1,cW (l := b) (by omega)];rfl
theorem YV {a b : List Int} {k : Nat} (h1 : k = a.length) (h2 : k < b.length) : cL (a.drop k) (b.drop k) = -1 := by
  rw [cW (l := a) (by omega),aS h2];rfl
theorem YU {a b : List Int} {k : Nat} (h1 : k = a.length) (h2 : k = b.length) : cL (a.drop k) (b.drop k) = 0 := by
  rw [cW (l := a) (by omega),cW (l := b) (by omega)];rfl
theorem QZ (b : Int) : I7 0 b = b := rfl
theorem IB {a b : Int} (h : ¬ a = 0) : I7 a b = a := by unfold I7;rw [if_neg h]
theorem NU (a b : List Int) (ha : a.length ≤ 9223372036854775807) (hb : b.length ≤ 9223372036854775807) : aT Tryz.prog 133 [.rowE (ints a) 1,.rowE (ints b) 1] [] (.i (cL a b)) [] := by
  have hla : (ints a).length = a.length := by simp
  have hlb : (ints b).length = b.length := by simp
  refine bT T Tryz.func133 rfl rfl rfl rfl ?_
  (repeat' (first|refine wS ?_|refine wB ?_|(refine rg 0 (aV ?_))|(refine rg 1 (mW rfl (qW T rfl (mV ?_))))|refine nZ ?_));refine dB (X := {k : Nat // k ≤ a.length ∧ k ≤ b.length ∧ cL a b = cL (a.drop k) (b.drop k)}) (fun k => [(0,.rowE (ints a) 1),(1,.rowE (ints b) 1),(9,.rowE (ints a) 1),(10,.i (ints a).length),(11,.i k.1)]) (fun _ => []) (fun k => a.length - k.1) ⟨0,by omega,by omega,rfl⟩ (eL []) ?_
  rintro ⟨k,hk,hkb,he⟩;dsimp only;by_cases h1 : k < a.length
  · have g1 := lU h1;by_cases h2 : k < b.length
    · have g2 := lU h2;have e1 := zJ5 h1 h2;have hc := AK a[k] b[k];generalize a[k] = x at *;generalize b[k] = y at *;by_cases h0 : cI x y = 0
      · rw [h0] at hc e1;rw [QZ] at e1
        (repeat' (first|refine wS ?_|refine wB ?_|refine wK ?_|refine wU ?_|(refine wC rfl ?_ ?_<;>(intro hb;(try simp only [nm] at hb);try (exfalso;omega)))|(refine rg 2 (vV (aO rfl rfl) ?_))|(refine rg 3 (mW rfl (vV (ix T rfl (by omega) (cN a) g1) (lW T rfl (rZ ?_)))))|(refine rg 4 (dS rfl (qW T rfl (vV (jE rfl rfl) ?_))))|(refine rg 6 (dS rfl (vV (ix T rfl (by omega) (cN b) g2) (lW T rfl (aV ?_)))))|(refine rg 7 (dS rfl (vV (kC (hc)) (aV ?_))))|(refine rg 8 (mW rfl (vV (fI rfl rfl) ?_)))|(refine rg 10 (vV (bU rfl rfl (by omega) (by omega)) (mV ?_)))|refine nZ ?_));all_goals first | (exfalso;omega) | exact ⟨⟨k + 1,by omega,by omega,he.trans e1⟩,by dsimp only;omega,eL []⟩
      · rw [IB h0] at e1;generalize cI x y = q at *
        (repeat' (first|refine wS ?_|refine wB ?_|refine wK ?_|refine wR ?_|(refine wC rfl ?_ ?_<;>(intro hb;(try simp only [nm] at hb);try (exfalso;omega)))|(refine rg 2 (vV (aO rfl rfl) ?_))|(refine rg 3 (mW rfl (vV (ix T rfl (by omega) (cN a) g1) (lW T rfl (rZ ?_)))))|(refine rg 4 (dS rfl (qW T rfl (vV (jE rfl rfl) ?_))))|(refine rg 6 (dS rfl (vV (ix T rfl (by omega) (cN b) g2) (lW T rfl (aV ?_)))))|(refine rg 7 (dS rfl (vV (kC (hc)) (aV ?_))))|(refine rg 8 (mW rfl (vV (fI rfl rfl) ?_)))|(refine rg 9 (mW rfl (aV ?_)))|refine nZ ?_));all_goals first | (exfalso;omega) | exact cY (.inl rfl) rfl (by rw [he,e1];rfl)
    · have e1 := YW h1 (show k = b.length by omega)
      (repeat' (first|refine wS ?_|refine wB ?_|refine wK ?_|refine wR ?_|(refine wC rfl ?_ ?_<;>(intro hb;(try simp only [nm] at hb);try (exfalso;omega)))|(refine rg 2 (vV (aO rfl rfl) ?_))|(refine rg 3 (mW rfl (vV (ix T rfl (by omega) (cN a) g1) (lW T rfl (rZ ?_)))))|(refine rg 4 (dS rfl (qW T rfl (vV (jE rfl rfl) ?_))))|(refine rg 5 (aV ?_))|refine nZ ?_));all_goals first | (exfalso;omega) | exact cY (.inl rfl) rfl (by rw [he,e1];rfl)
  · by_cases h2 : k < b.length
    · have e1 := YV (show k = a.length by omega) h2
      (repeat' (first|refine wS ?_|refine wR ?_|refine wE ?_|(refine wC rfl ?_ ?_<;>(intro hb;(try simp only [nm] at hb);try (exfalso;omega)))|(refine rg 2 (vV (aO rfl rfl) ?_))|(refine rg 11 (mW rfl (qW T rfl (mW rfl (qW T rfl (vV (aO rfl rfl) ?_))))))|(refine rg 12 (aV ?_))|refine nZ ?_));all_goals first | (exfalso;omega) | exact cY (.inl rfl) rfl (by rw [he,e1];rfl)
    · have e1 := YU (show k = a.length by omega) (show k = b.length by omega)
      (repeat' (first|refine wS ?_|refine wK ?_|refine wR ?_|refine wE ?_|(refine wC rfl ?_ ?_<;>(intro hb;(try simp only [nm] at hb);try (exfalso;omega)))|(refine rg 2 (vV (aO rfl rfl) ?_))|(refine rg 11 (mW rfl (qW T rfl (mW rfl (qW T rfl (vV (aO rfl rfl) ?_))))))|(refine rg 13 (aV ?_))|refine nZ ?_));all_goals first | (exfalso;omega) | exact cY (.inl rfl) rfl (by rw [he,e1];rfl)
theorem iO (l : List SP) : ∀ e,e ∈ eS l → e.length = 2 := by intro e he;obtain ⟨n,_,rfl⟩ := bI.1 he;rfl
theorem X9 {l : List SP} {k : Nat} (h : k < l.length) : (eS l)[k]? = some [AV.i l[k].1,AV.i l[k].2] := by simp [h]
theorem QY (x y : SP) : aT Tryz.prog 135 [kE x.1 x.2,kE y.1 y.2] [] (.i (cS x y)) [] := by
  have h1 := AK x.1 y.1;have h2 := AK x.2 y.2;have h3 := zH9 (cI x.1 y.1) (cI x.2 y.2);refine bT T Tryz.func135 rfl rfl rfl rfl ?_
  (repeat' (first|refine wS ?_|refine wR ?_|(refine rg 0 (bV (cO rfl rfl) rfl (bV (cO rfl rfl) rfl (aV ?_))))|(refine cM (id := 1) 17 [[],[0],[],[2],rN 4,[],[5],[],[7],rN 9,rN 10,rN 11] (rM 5 12) [[],[],[5,6],[5,6],[],rM 5 5,rM 5 5,rM 5 7,rM 5 7,[],[],[]] dA rfl (by decide +kernel) (dP T rfl (dO T rfl (dP T rfl (dO T rfl (dV rfl (kC (h1)) (dP T rfl (dO T rfl (dP T rfl (dL T ?_)))))))));refine dV rfl (kC (h2)) (zM rfl rfl rfl (by exact bE T rfl rfl (by decide) (by decide) rfl rfl rfl) rfl ?_);refine dV rfl (by exact eU rfl rfl (h3) (by ((repeat (first|exact .nil|exact .v _|refine .cons ?_ ?_|refine .sl rfl (by simp) ?_));done)) rfl rfl) ?_;(all_goals (refine dE ?_;refine aV ?_)))|refine nZ ?_));all_goals first | (exfalso;omega) | exact rQ
theorem zJ6 {a b : List SP} {k : Nat} (h1 : k < a.length) (h2 : k < b.length) : cB (a.drop k) (b.drop k) = I7 (cS a[k] b[k]) (cB (a.drop (k + 1)) (b.drop (k + 1))) := by
  rw [aS h1,aS h2];rfl
theorem YZ {a b : List SP} {k : Nat} (h1 : k < a.length) (h2 : k = b.length) : cB (a.drop k) (b.drop k) = 1 := by
  rw [aS h1,cW (l := b) (by omega)];rfl
theorem YY {a b : List SP} {k : Nat} (h1 : k = a.length) (h2 : k < b.length) : cB (a.drop k) (b.drop k) = -1 := by
  rw [cW (l := a) (by omega),aS h2];rfl
theorem YX {a b : List SP} {k : Nat} (h1 : k = a.length) (h2 : k = b.length) : cB (a.drop k) (b.drop k) = 0 := by
  rw [cW (l := a) (by omega),cW (l := b) (by omega)];rfl
abbrev zI2 : AV := .clo (.func 135) [] []
theorem IM (a b : List SP) (ha : a.length ≤ 9223372036854775807) (hb : b.length ≤ 9223372036854775807) : aT Tryz.prog 134 [.rowE (eS a) 2,.rowE (eS b) 2,zI2] [] (.i (cB a b)) [] := by
  have hla : (eS a).length = a.length := by simp
  have hlb : (eS b).length = b.length := by simp
  refine bT T Tryz.func134 rfl rfl rfl rfl ?_
  (repeat' (first|refine wS ?_|refine wB ?_|(refine rg 0 (aV ?_))|(refine rg 1 (mW rfl (qW T rfl (mV ?_))))|refine nZ ?_));refine dB (X := {k : Nat // k ≤ a.length ∧ k ≤ b.length ∧ cB a b = cB (a.drop k) (b.drop k)}) (fun k => [(0,.rowE (eS a) 2),(1,.rowE (eS b) 2),(2,zI2),(11,.rowE (eS a) 2),(12,.i (eS a).length),(13,.i k.1)]) (fun _ => []) (fun k => a.length - k.1) ⟨0,by omega,by omega,rfl⟩ (eL []) ?_
  rintro ⟨k,hk,hkb,he⟩;dsimp only;by_cases h1 : k < a.length
  · have g1 := X9 h1;by_cases h2 : k < b.length
    · have g2 := X9 h2;have e1 := zJ6 h1 h2;have hc := QY a[k] b[k];generalize a[k] = x at *;generalize b[k] = y at *;by_cases h0 : cS x y = 0
      · rw [h0] at hc e1;rw [QZ] at e1
        (repeat' (first|refine wS ?_|refine wB ?_|refine wK ?_|refine wU ?_|(refine wC rfl ?_ ?_<;>(intro hb;(try simp only [nm] at hb);try (exfalso;omega)))|(refine rg 2 (vV (aO rfl rfl) ?_))|(refine rg 3 (mW rfl (vV (ix T rfl (by omega) (iO a) g1) (lW T rfl (bV (bN T rfl) rfl (aW rfl (aU T rfl rfl rfl rfl rfl rfl (by decide) rfl ?_)))))))|(refine rg 4 (dS rfl (qW T rfl (vV (jE rfl rfl) ?_))))|(refine rg 6 (dS rfl (vV (ix T rfl (by omega) (iO b) g2) (lW T rfl (bV (bN T rfl) rfl (aU T rfl rfl rfl rfl rfl rfl (by decide) rfl ?_))))))|(refine rg 7 (mW rfl (lW T rfl (lW T rfl (vV (kC (hc)) (aV ?_))))))|(refine rg 8 (mW rfl (vV (fI rfl rfl) ?_)))|(refine rg 10 (vV (bU rfl rfl (by omega) (by omega)) (mV ?_)))|refine nZ ?_));all_goals first | (exfalso;omega) | exact ⟨⟨k + 1,by omega,by omega,he.trans e1⟩,by dsimp only;omega,eL []⟩
      · rw [IB h0] at e1;generalize cS x y = q at *
        (repeat' (first|refine wS ?_|refine wB ?_|refine wK ?_|refine wR ?_|(refine wC rfl ?_ ?_<;>(intro hb;(try simp only [nm] at hb);try (exfalso;omega)))|(refine rg 2 (vV (aO rfl rfl) ?_))|(refine rg 3 (mW rfl (vV (ix T rfl (by omega) (iO a) g1) (lW T rfl (bV (bN T rfl) rfl (aW rfl (aU T rfl rfl rfl rfl rfl rfl (by decide) rfl ?_)))))))|(refine rg 4 (dS rfl (qW T rfl (vV (jE rfl rfl) ?_))))|(refine rg 6 (dS rfl (vV (ix T rfl (by omega) (iO b) g2) (lW T rfl (bV (bN T rfl) rfl (aU T rfl rfl rfl rfl rfl rfl (by decide) rfl ?_))))))|(refine rg 7 (mW rfl (lW T rfl (lW T rfl (vV (kC (hc)) (aV ?_))))))|(refine rg 8 (mW rfl (vV (fI rfl rfl) ?_)))|(refine rg 9 (mW rfl (aV ?_)))|refine nZ ?_));all_goals first | (exfalso;omega) | exact cY (.inl rfl) rfl (by rw [he,e1];rfl)
    · have e1 := YZ h1 (show k = b.length by omega)
      (repeat' (first|refine wS ?_|refine wB ?_|refine wK ?_|refine wR ?_|(refine wC rfl ?_ ?_<;>(intro hb;(try simp only [nm] at hb);try (exfalso;omega)))|(refine rg 2 (vV (aO rfl rfl) ?_))|(refine rg 3 (mW rfl (vV (ix T rfl (by omega) (iO a) g1) (lW T rfl (bV (bN T rfl) rfl (aW rfl (aU T rfl rfl rfl rfl rfl rfl (by decide) rfl ?_)))))))|(refine rg 4 (dS rfl (qW T rfl (vV (jE rfl rfl) ?_))))|(refine rg 5 (aV ?_))|refine nZ ?_));all_goals first | (exfalso;omega) | exact cY (.inl rfl) rfl (by rw [he,e1];rfl)
  · by_cases h2 : k < b.length
    · have e1 := YY (show k = a.length by omega) h2
      (repeat' (first|refine wS ?_|refine wR ?_|refine wE ?_|(refine wC rfl ?_ ?_<;>(intro hb;(try simp only [nm] at hb);try (exfalso;omega)))|(refine rg 2 (vV (aO rfl rfl) ?_))|(refine rg 11 (mW rfl (qW T rfl (mW rfl (qW T rfl (vV (aO rfl rfl) ?_))))))|(refine rg 12 (aV ?_))|refine nZ ?_));all_goals first | (exfalso;omega) | exact cY (.inl rfl) rfl (by rw [he,e1];rfl)
    · have e1 := YX (show k = a.length by omega) (show k = b.length by omega)
      (repeat' (first|refine wS ?_|refine wK ?_|refine wR ?_|refine wE ?_|(refine wC rfl ?_ ?_<;>(intro hb;(try simp only [nm] at hb);try (exfalso;omega)))|(refine rg 2 (vV (aO rfl rfl) ?_))|(refine rg 11 (mW rfl (qW T rfl (mW rfl (qW T rfl (vV (aO rfl rfl) ?_))))))|(refine rg 13 (aV ?_))|refine nZ ?_));all_goals first | (exfalso;omega) | exact cY (.inl rfl) rfl (by rw [he,e1];rfl)
abbrev HI (w : W) : AV := .agg (wA w)
def E6 (w : W) : Prop := w.1.length ≤ 1000000 ∧ w.2.2.length ≤ 1000000
theorem KG (a b : W) (ha : E6 a) (hb : E6 b) : aT Tryz.prog 99 [HI a,HI b] [] (.i (nK a b)) [] := by
  obtain ⟨p,m,c⟩ := a;obtain ⟨p',m',c'⟩ := b;unfold E6 at ha hb;dsimp only at ha hb;have h1 := NU p p' (by omega) (by omega)
  have h2 := IM c c' (by omega) (by omega)
  have e : nK (p,m,c) (p',m',c') = I7 (cL p p') (cB c c') := rfl;rw [e];generalize cL p p' = x at *;generalize cB c c' = y at *;by_cases h0 : x = 0
  · subst h0;rw [QZ];refine bT T Tryz.func99 rfl rfl rfl rfl ?_
    (repeat' (first|refine wS ?_|refine wK ?_|refine wR ?_|refine wU ?_|(refine rg 0 (bV (cO rfl rfl) rfl (bV (cO rfl rfl) rfl (aV ?_))))|(refine rg 1 (iP T rfl (iP T rfl (vV (kC (h1)) (aV ?_)))))|(refine rg 2 (mW rfl (vV (fI rfl rfl) ?_)))|(refine rg 4 (iP T rfl (iP T rfl (vV (kC (h2)) (aV ?_)))))|refine nZ ?_));all_goals first | (exfalso;omega) | exact rQ
  · rw [IB h0];refine bT T Tryz.func99 rfl rfl rfl rfl ?_
    (repeat' (first|refine wS ?_|refine wR ?_|(refine wC rfl ?_ ?_<;>(intro hb;(try simp only [nm] at hb);try (exfalso;omega)))|(refine rg 0 (bV (cO rfl rfl) rfl (bV (cO rfl rfl) rfl (aV ?_))))|(refine rg 1 (iP T rfl (iP T rfl (vV (kC (h1)) (aV ?_)))))|(refine rg 2 (mW rfl (vV (fI rfl rfl) ?_)))|(refine rg 3 (mW rfl (aV ?_)))|refine nZ ?_));all_goals first | (exfalso;omega) | exact rQ
theorem uB (a b : W) (ha : E6 a) (hb : E6 b) : aT Tryz.prog 97 [HI a,HI b] [] (.i (eE a b)) [] := by
  have h1 := KG a b ha hb;have h2 := AK a.2.1 b.2.1;have h3 := zH9 (nK a b) (cI a.2.1 b.2.1);refine bT T Tryz.func97 rfl rfl rfl rfl ?_
  (repeat' (first|refine wS ?_|refine wR ?_|(refine rg 0 (bV (cO rfl rfl) rfl (bV (cO rfl rfl) rfl (aV ?_))))|(refine cM (id := 1) 15 [[],[],[0,1],[],[3],[],[5],rN 7,rN 8,rN 9] (rM 5 10) [[],[5],[],[5,6,7],[5,6,7],rM 5 5,rM 5 5,[],[],[]] dA rfl (by decide +kernel) (dO T rfl (dO T rfl (dV rfl (kC (h1)) (dP T rfl (dO T rfl (dP T rfl (dO T rfl (dV rfl (kC (h2)) (zM rfl rfl rfl (by exact bE T rfl rfl (by decide) (by decide) rfl rfl rfl) rfl ?_)))))))));refine dV rfl (by exact eU rfl rfl (h3) (by ((repeat (first|exact .nil|exact .v _|refine .cons ?_ ?_|refine .sl rfl (by simp) ?_));done)) rfl rfl) ?_;(all_goals (refine dE ?_;refine aV ?_)))|refine nZ ?_));all_goals first | (exfalso;omega) | exact rQ
theorem Q5 (a b : W) (ha : E6 a) (hb : E6 b) : aT Tryz.prog 102 [HI a,HI b] [] (.b (yS a b)) [] := by
  have h1 := KG a b ha hb;refine bT T Tryz.func102 rfl rfl rfl rfl ?_
  (repeat' (first|refine wS ?_|refine wR ?_|(refine rg 0 (bV (cO rfl rfl) rfl (bV (cO rfl rfl) rfl (aV ?_))))|(refine rg 1 (lW T rfl (lW T rfl (vV (kC (h1)) (vV (eP rfl rfl) (aV ?_))))))|refine nZ ?_));all_goals first | (exfalso;omega) | exact rQ
end Go.Proofs.YtmmkhmilpeodnaaGreat
namespace Go.Ld
open Go.Ab Go.Proofs.YtmmkhmilpeodnaaGreat
theorem kP (l : List W) : ∀ e,e ∈ fL l → e.length = 3 := by intro e he;obtain ⟨n,_,rfl⟩ := bI.1 he;rfl
theorem eM (l : List W) : (fL l).length = l.length := bC _
theorem oG {L : List W} {j : Int} {i : Nat} {x : W} (h : L[i]? = some x) (e : j = i) : (fL L)[0 + j.toNat]? = some (wA x) := by
  subst e;simp [h]
theorem tW {L : List W} {j : Int} {i : Nat} {x : W} (e : j = i) : (fL L).set (0 + j.toNat) (wA x) = fL (L.set i x) := by
  subst e;simp [fL,zT]
theorem mM {α : Type} (A B : List α) (x : α) {n : Nat} (h : n = A.length) : (A ++ x :: B)[n]? = some x := by subst h;simp
theorem mT {α : Type} (A B : List α) (x y : α) {n : Nat} (h : n = A.length) : (A ++ x :: B).set n y = A ++ y :: B := by subst h;simp
abbrev Up (l : List W) : Prop := l.Pairwise (fun a b => eE a b ≤ 0)
theorem L8 {l : List W} (h : Up l) : dR eE l = l := (zE iN (.refl _) h).symm
theorem A6 {l m : List W} (hp : m.Perm l) (h : Up m) : dR eE l = m := (zE iN hp h).symm
theorem xT {a b : W} (h : eE a b < 0) : eE a b ≤ 0 := by omega
theorem HN {S1 S2 : List W} {x : W} (h : Up (S1 ++ S2)) (h1 : ∀ y,y ∈ S1 → eE y x ≤ 0) (h2 : ∀ y,y ∈ S2 → eE x y ≤ 0) : Up (S1 ++ x :: S2) := by
  obtain ⟨a,b,c⟩ := eN.1 h;refine eN.2 ⟨a,eK.2 ⟨h2,b⟩,fun p hp q hq => ?_⟩
  rcases bL.1 hq with rfl | hq
  · exact h1 p hp
  · exact c p hp q hq
theorem zA1 {A B : List W} (h1 : Up A) (h2 : Up B) (h3 : ∀ a b,a ∈ A → b ∈ B → eE a b ≤ 0) : Up (A ++ B) := eN.2 ⟨h1,h2,fun a ha b hb => h3 a b ha hb⟩
theorem JN {A : List W} {y : W} (h : Up (A ++ [y])) : ∀ z,z ∈ A ++ [y] → eE z y ≤ 0 := by
  intro z hz;obtain ⟨a,b,c⟩ := eN.1 h;rcases bB.1 hz with hz | hz
  · exact c z hz y (by simp)
  · rw [bO.1 hz,iN.rfl'];exact fC _
theorem VN {B : List W} {y : W} (h : Up (y :: B)) : ∀ z,z ∈ y :: B → eE y z ≤ 0 := by
  intro z hz;rcases bL.1 hz with rfl | hz
  · rw [iN.rfl'];exact fC _
  · exact (eK.1 h).1 z hz
theorem zK4 {a b : W} (h : ¬ eE a b < 0) : eE b a ≤ 0 := by have := iN.neg a b;omega
def OI (l : List W) (a b : Nat) : List W := l.take a ++ (dR eE ((l.drop a).take (b - a)) ++ l.drop b)
theorem iD {l : List W} : (dR eE l).length = l.length := (dK eE l).length_eq
theorem PJ {l : List W} {a : Nat} (h : a ≤ l.length) : OI l a a = l := by unfold OI;simp [dR]
theorem WA {l : List W} {a : Nat} (h : a < l.length) : OI l a (a + 1) = l := by
  unfold OI;rw [show a + 1 - a = 1 by omega,aS h]
  simp only [nG,lY,dR,V8];rw [List.singleton_append,← aS h,bK]
structure ZW (l : List W) (a i : Nat) (x : W) (q : List W × List W) : Prop where
  eq : q.1 ++ q.2 = dR eE ((l.drop a).take (i - a))
  gt : ∀ y,y ∈ q.2 → eE x y < 0
def tD (l : List W) (a i : Nat) (x : W) (q : List W × List W) : List W := (l.take a ++ q.1) ++ x :: (q.2 ++ l.drop (i + 1))
theorem NE {l : List W} {a i : Nat} {x : W} (h1 : a < i) (h2 : i < l.length) (hx : l[i]? = some x) : ZW l a i x (dR eE ((l.drop a).take (i - a)),[]) ∧ OI l a i = tD l a i x (dR eE ((l.drop a).take (i - a)),[]) := by
  refine ⟨⟨by simp,fun y hy => by cases hy⟩,?_⟩
  unfold OI tD;have : l.drop i = x :: l.drop (i + 1) := by
    rw [aA h2] at hx;rw [aS h2];cases hx;rfl
  simp [this]
theorem KS {l : List W} {a i : Nat} {x : W} {q : List W × List W} (h : ZW l a i x q) (h1 : a < i) (h2 : i < l.length) : q.1.length + q.2.length = i - a := by
  have := congrArg List.length h.eq;simp only [aF,iD,bD,dJ] at this;omega
theorem RY {l : List W} {a i : Nat} {x : W} {q : List W × List W} (h : ZW l a i x q) (h1 : a < i) (h2 : i < l.length) : (tD l a i x q).length = l.length := by
  have := KS h h1 h2;unfold tD;simp only [aF,List.length_cons,bD,dJ];omega
theorem RV {l : List W} {a i : Nat} {x : W} {q : List W × List W} (h : ZW l a i x q) (h1 : a < i) (h2 : i < l.length) (hx : l[i]? = some x) (hs : ∀ y,y ∈ q.1 → eE y x ≤ 0) : tD l a i x q = OI l a (i + 1) := by
  unfold tD OI;have e : (l.drop a).take (i + 1 - a) = (l.drop a).take (i - a) ++ [x] := by
    rw [show i + 1 - a = (i - a) + 1 by omega,UY]
    rw [eA,show a + (i - a) = i by omega,hx];rfl
  rw [e];have hp : (q.1 ++ x :: q.2).Perm ((l.drop a).take (i - a) ++ [x]) := by
    refine List.perm_middle.trans ?_;rw [h.eq];exact ((dK eE _).cons x).trans (E2 _ _).symm
  have hu : Up (q.1 ++ x :: q.2) := HN (by rw [h.eq];exact kJ iN _) hs (fun y hy => xT (h.gt y hy))
  rw [A6 hp hu];simp
theorem XN {l : List W} {a i : Nat} {x y : W} {S : List W} {q : List W × List W} (h : ZW l a i x q) (e : q.1 = S ++ [y]) (hc : ¬ eE x y < 0) : ∀ z,z ∈ q.1 → eE z x ≤ 0 := by
  have hu : Up (q.1 ++ q.2) := by rw [h.eq];exact kJ iN _
  have hu1 : Up q.1 := (eN.1 hu).1;rw [e] at hu1;intro z hz;rw [e] at hz;exact iN.le_tr (JN hu1 z hz) (zK4 hc)
theorem RW {l : List W} {a i : Nat} {x y : W} {S : List W} {q : List W × List W} (h : ZW l a i x q) (e : q.1 = S ++ [y]) (hc : eE x y < 0) : ZW l a i x (S,y :: q.2) := by
  refine ⟨?_,fun z hz => ?_⟩
  · rw [← h.eq,e];simp
  · rcases bL.1 hz with rfl | hz
    · exact hc
    · exact h.gt z hz
end Go.Ld
namespace Go.Proofs.YtmmkhmilpeodnaaGreat
open Go Go.Ab Go.Ld
attribute [local irreducible] VC AW bX aT
set_option maxHeartbeats 4000000
theorem ZX (l : List W) : (fL l).flatten.all AV.one = true := by
  induction l with
  | nil => rfl
  | cons x l ih => simp only [List.map_cons,eC,List.all_append,ih];rfl
theorem bG (l : List W) : ∀ e,e ∈ fL l → AV.idfL e = true := by
  intro e he;obtain ⟨x,_,rfl⟩ := bI.1 he;rfl
theorem kU : ∀ i : Nat,i < 1 → ([0] : List Nat)[i]? = some i := by decide
abbrev pS : AV := .clo (.func 97) [] []
theorem FK (l : List W) (a b : Nat) (hab : a ≤ b) (hb : b ≤ l.length) (hl : l.length ≤ 100000) (hw : ∀ w,w ∈ l → E6 w) :
    aT Tryz.prog 161 [.sl 0 0 l.length 3,.i a,.i b,pS] [.arr (fL l) 3] (.tup []) [.arr (fL (OI l a b)) 3] := by
  rcases gQ a b with hlt | hge
  · refine bT T Tryz.func161 rfl rfl rfl rfl ?_
    (repeat' (first|refine wS ?_|refine wB ?_|(refine iA 0 rfl rfl rfl (by omega) (by omega) ?_)|refine nZ ?_));refine dB (X := {i : Nat // a + 1 ≤ i ∧ i ≤ b}) (fun i => [(0,.sl 0 0 l.length 3),(1,.i a),(2,.i b),(3,pS),(8,.i i.1)]) (fun i => [.arr (fL (OI l a i.1)) 3]) (fun i => b - i.1) ⟨a + 1,by omega,by omega⟩ ⟨[0],rfl,by (repeat (first | exact trivial | refine ⟨rfl,?_⟩)),⟨.inr (aE rfl (by dsimp only;rw [WA (by omega)]) (bG _)),trivial⟩,by decide,kU⟩ ?_
    rintro ⟨i,h1,h2⟩;dsimp only;by_cases hi : i < b
    · (repeat' (first|refine wS ?_|refine wB ?_|refine wK ?_|(refine wC rfl (fun hb => ?_) (fun hb => ?_) <;> (((try simp only [nm] at hb);try (exfalso;omega))))|(refine rg 1 (dS rfl (vV (aO rfl rfl) ?_)))|(refine rg 3 (mW rfl (aV ?_)))|(refine nZ ?_)));all_goals try (exfalso;omega)
      have hil : i < l.length := by omega
      obtain ⟨x,hx⟩ : ∃ x,l[i]? = some x := ⟨_,aA hil⟩;obtain ⟨s1,s2⟩ := NE (a := a) (by omega) hil hx
      refine dB (X := {q : List W × List W // ZW l a i x q}) (fun q => [(0,.sl 0 0 l.length 3),(1,.i a),(2,.i b),(3,pS),(8,.i i),(9,.i ((a + q.1.1.length : Nat) : Int))]) (fun q => [.arr (fL (tD l a i x q.1)) 3]) (fun q => q.1.1.length) ⟨_,s1⟩ ⟨[0],rfl,⟨rfl,rfl,rfl,rfl,rfl,by dsimp only;rw [iD,bD,dJ,show a + min (i - a) (l.length - a) = i by omega];rfl,trivial⟩,⟨.inr (aE rfl (by dsimp only;rw [s2]) (bG _)),trivial⟩,by decide,kU⟩ ?_
      rintro ⟨⟨S1,S2⟩,hq⟩;dsimp only;have hln := KS hq (by omega) hil
      dsimp only at hln;have hwx : E6 x := hw x (aL hx);have hal : (l.take a).length = a := by rw [bD];omega
      rcases List.eq_nil_or_concat S1 with rfl | ⟨S,y,rfl⟩
      · have ee := RV hq (by omega) hil hx (fun y hy => by cases hy)
        have hJ : ((a + ([] : List W).length : Nat) : Int) = a := by simp
        generalize ((a + ([] : List W).length : Nat) : Int) = J at *;generalize tD l a i x ([],S2) = L at *
        (repeat' (first|refine wS ?_|refine wE ?_|refine wU ?_|(refine cM (id := 4) 53 zQ7 (rM 18 17) zQ8 dA rfl (by decide +kernel) (dN rfl (dN rfl (dV rfl (CA rfl rfl (by omega)) (dN rfl (tG rfl (tG rfl (tG rfl (tG rfl (dG ?_)))))))));refine tG rfl (tG rfl (tG rfl (tG rfl (tG rfl (tG rfl (tG rfl (dV rfl (iB rfl rfl) (dE ?_)))))))))|(refine iA 2 rfl rfl rfl (by omega) (by omega) ?_)|refine nZ ?_));all_goals first | (exfalso;omega) | exact ⟨⟨i + 1,by omega,by omega⟩,by dsimp only;omega,⟨[0],rfl,by (repeat (first | exact trivial | refine ⟨rfl,?_⟩)),⟨.inr (aE rfl (by dsimp only;rw [ee]) (bG _)),trivial⟩,by decide,kU⟩⟩
      · rw [List.concat_eq_append] at *;have hy : y ∈ l := by
          have h3 : y ∈ dR eE ((l.drop a).take (i - a)) := by rw [← hq.eq];simp
          exact eO (fB ((dK _ _).mem_iff.1 h3))
        have hc := uB x y hwx (hw y hy);have hL : tD l a i x (S ++ [y],S2) = (l.take a ++ S) ++ y :: x :: (S2 ++ l.drop (i + 1)) := by unfold tD;simp
        have hJ : ((a + (S ++ [y]).length : Nat) : Int) = ((a + S.length + 1 : Nat) : Int) := by simp;omega
        have hAl : a + S.length = (l.take a ++ S).length := by rw [aF,hal]
        have hlen := RY hq (by omega) hil
        by_cases h0 : eE x y < 0
        · have ee := RW hq rfl h0;have q1 := oG (L := tD l a i x (S ++ [y],S2)) (j := ((a + (S ++ [y]).length : Nat) : Int)) (i := a + S.length + 1) (x := x) (by rw [hL,show (l.take a ++ S) ++ y :: x :: (S2 ++ l.drop (i + 1)) = ((l.take a ++ S) ++ [y]) ++ x :: (S2 ++ l.drop (i + 1)) by simp];exact mM _ _ _ (by simp;omega)) hJ
          have q2 := oG (L := tD l a i x (S ++ [y],S2)) (j := ((a + (S ++ [y]).length : Nat) : Int) - 1) (i := a + S.length) (x := y) (by rw [hL];exact mM _ _ _ hAl) (by omega)
          have t1 := tW (L := tD l a i x (S ++ [y],S2)) (j := ((a + (S ++ [y]).length : Nat) : Int)) (i := a + S.length + 1) (x := y) hJ;have e1 : (tD l a i x (S ++ [y],S2)).set (a + S.length + 1) y = (l.take a ++ S) ++ y :: y :: (S2 ++ l.drop (i + 1)) := by
            rw [hL,show (l.take a ++ S) ++ y :: x :: (S2 ++ l.drop (i + 1)) = ((l.take a ++ S) ++ [y]) ++ x :: (S2 ++ l.drop (i + 1)) by simp,mT _ _ _ _ (by simp;omega)];simp
          rw [e1] at t1;have q3 := oG (L := (l.take a ++ S) ++ y :: y :: (S2 ++ l.drop (i + 1))) (j := ((a + (S ++ [y]).length : Nat) : Int) - 1) (i := a + S.length) (x := y) (mM _ _ _ hAl) (by omega)
          have t2 := tW (L := (l.take a ++ S) ++ y :: y :: (S2 ++ l.drop (i + 1))) (j := ((a + (S ++ [y]).length : Nat) : Int) - 1) (i := a + S.length) (x := x) (by omega)
          rw [mT _ _ _ _ hAl,show (l.take a ++ S) ++ x :: y :: (S2 ++ l.drop (i + 1)) = tD l a i x (S,y :: S2) by unfold tD;simp,← t1] at t2
          rw [← t1] at q3;have hJ2 : ((a + (S ++ [y]).length : Nat) : Int) - 1 = ((a + S.length : Nat) : Int) := by omega
          have hJ3 : ((a + (S ++ [y]).length : Nat) : Int) < l.length := by omega
          have hJ4 : (a : Int) < ((a + (S ++ [y]).length : Nat) : Int) := by omega
          clear hJ hL;generalize ((a + (S ++ [y]).length : Nat) : Int) = J at *;generalize eE x y = z at *;generalize tD l a i x (S ++ [y],S2) = L at *
          (repeat' (first|refine wS ?_|refine wB ?_|refine wK ?_|(refine wC rfl ?_ ?_<;>(intro hb;(try simp only [nm] at hb);try (exfalso;omega)))|(refine cM (id := 4) 53 zQ7 (rM 18 17) zQ8 dA rfl (by decide +kernel) (dN rfl (dN rfl (dV rfl (fP rfl rfl) (dM ?_))));refine pR rfl rfl rfl rfl ?_ ?_<;>(intro hb;rw [hb];(try simp only [nm] at hb);try (exfalso;omega))<;>(refine tM ?_);(all_goals (refine tN rfl (tN rfl (dT rfl (by exact aM T rfl rfl rfl rfl rfl (by omega) (by omega)) ?_));refine dT rfl (by exact aX T rfl rfl (bJ rfl q1) rfl) ?_;refine tN rfl (tN rfl (dT rfl (cQ rfl rfl (by omega) (by omega)) (dT rfl (by exact aM T rfl rfl rfl rfl rfl (by omega) (by omega)) ?_)));refine dT rfl (by exact aX T rfl rfl (bJ rfl q2) rfl) ?_;refine dT rfl (kC (hc)) (dT rfl (aO rfl rfl) (dV rfl (jQ rfl rfl) (dE ?_))))))|(refine mX (id := 6) 53 zQ9 (rM 37 15) zR0 [(15,0)] dA rfl (by decide +kernel) (cH rfl rfl rfl rfl (by exact bW rfl) ?_);refine cH rfl rfl rfl rfl (by exact bW rfl) ?_;refine cH rfl rfl rfl rfl (by exact bW rfl) ?_;refine cH rfl rfl rfl rfl (by exact bW rfl) ?_;refine cH rfl rfl rfl rfl (by exact cQ rfl rfl (by omega) (by omega)) ?_;refine cH rfl rfl rfl rfl (by exact bW rfl) ?_;refine cH rfl rfl rfl rfl (by exact bW rfl) ?_;refine cH rfl rfl rfl rfl (by exact cQ rfl rfl (by omega) (by omega)) ?_;refine cH rfl rfl rfl rfl (by exact aM T rfl rfl rfl rfl rfl (by omega) (by omega)) ?_;refine cH rfl rfl rfl rfl (by exact aX T rfl rfl (bJ rfl q2) rfl) ?_;refine cH rfl rfl rfl rfl (by exact bW rfl) ?_;refine cH rfl rfl rfl rfl (by exact bW rfl) ?_;refine cH rfl rfl rfl rfl (by exact aM T rfl rfl rfl rfl rfl (by omega) (by omega)) ?_;refine cH rfl rfl rfl rfl (by exact aX T rfl rfl (bJ rfl q1) rfl) ?_;refine cH rfl rfl rfl rfl (by exact aM T rfl rfl rfl rfl rfl (by omega) (by omega)) ?_;refine uM rfl rfl rfl rfl (aP rfl) T rfl rfl rfl rfl rfl rfl (by decide) (tZ rfl q1 rfl) ?_;refine qF rfl rfl rfl (by exact rfl) ?_;refine vV (by exact aM T rfl rfl rfl rfl rfl (by omega) (by omega)) ?_;refine aU T rfl rfl rfl rfl rfl rfl (by decide) (mA rfl q3 rfl) ?_)|(refine rg 5 (mW rfl (vV (cQ rfl rfl (by omega) (by omega)) (aV ?_))))|refine nZ ?_));all_goals first | (exfalso;omega) | exact ⟨⟨_,ee⟩,by dsimp only;simp,⟨[0],rfl,⟨rfl,rfl,rfl,rfl,rfl,by dsimp only;rw [← hJ2];try rfl,trivial⟩,⟨.inr (aE rfl (by dsimp only;rw [← t2];try rfl) (bG _)),trivial⟩,by decide,kU⟩⟩
        · have ee := RV hq (by omega) hil hx (XN hq rfl h0)
          have q1 := oG (L := tD l a i x (S ++ [y],S2)) (j := ((a + (S ++ [y]).length : Nat) : Int)) (i := a + S.length + 1) (x := x) (by rw [hL,show (l.take a ++ S) ++ y :: x :: (S2 ++ l.drop (i + 1)) = ((l.take a ++ S) ++ [y]) ++ x :: (S2 ++ l.drop (i + 1)) by simp];exact mM _ _ _ (by simp;omega)) hJ
          have q2 := oG (L := tD l a i x (S ++ [y],S2)) (j := ((a + (S ++ [y]).length : Nat) : Int) - 1) (i := a + S.length) (x := y) (by rw [hL];exact mM _ _ _ hAl) (by omega)
          have hJ3 : ((a + (S ++ [y]).length : Nat) : Int) < l.length := by omega
          have hJ4 : (a : Int) < ((a + (S ++ [y]).length : Nat) : Int) := by omega
          clear hJ hL;generalize ((a + (S ++ [y]).length : Nat) : Int) = J at *;generalize eE x y = z at *;generalize tD l a i x (S ++ [y],S2) = L at *
          (repeat' (first|refine wS ?_|refine wE ?_|(refine wC rfl ?_ ?_<;>(intro hb;(try simp only [nm] at hb);try (exfalso;omega)))|(refine cM (id := 4) 53 zQ7 (rM 18 17) zQ8 dA rfl (by decide +kernel) (dN rfl (dN rfl (dV rfl (fP rfl rfl) (dM ?_))));refine pR rfl rfl rfl rfl ?_ ?_<;>(intro hb;rw [hb];(try simp only [nm] at hb);try (exfalso;omega))<;>(refine tM ?_);(all_goals (refine tN rfl (tN rfl (dT rfl (by exact aM T rfl rfl rfl rfl rfl (by omega) (by omega)) ?_));refine dT rfl (by exact aX T rfl rfl (bJ rfl q1) rfl) ?_;refine tN rfl (tN rfl (dT rfl (cQ rfl rfl (by omega) (by omega)) (dT rfl (by exact aM T rfl rfl rfl rfl rfl (by omega) (by omega)) ?_)));refine dT rfl (by exact aX T rfl rfl (bJ rfl q2) rfl) ?_;refine dT rfl (kC (hc)) (dT rfl (aO rfl rfl) (dV rfl (jQ rfl rfl) (dE ?_))))))|(refine iA 2 rfl rfl rfl (by omega) (by omega) ?_)|refine nZ ?_));all_goals first | (exfalso;omega) | exact ⟨⟨i + 1,by omega,by omega⟩,by dsimp only;omega,⟨[0],rfl,by (repeat (first | exact trivial | refine ⟨rfl,?_⟩)),⟨.inr (aE rfl (by dsimp only;rw [ee]) (bG _)),trivial⟩,by decide,kU⟩⟩
    · obtain rfl : i = b := by omega
      (repeat' (first|refine wS ?_|refine wE ?_|(refine wC rfl ?_ ?_<;>(intro hb;(try simp only [nm] at hb);try (exfalso;omega)))|(refine rg 1 (dS rfl (vV (aO rfl rfl) ?_)))|refine nZ ?_));all_goals first | (exfalso;omega) | exact ⟨.inl rfl,[0],_,rfl,rfl,rfl,⟨.inr (aE rfl rfl (bG _)),trivial⟩,by decide,kU⟩ | exact ⟨.inr rfl,[0],_,rfl,rfl,rfl,⟨.inr (aE rfl rfl (bG _)),trivial⟩,by decide,kU⟩
  · obtain rfl : a = b := by omega
    rw [PJ hb];refine bT T Tryz.func161 rfl rfl rfl rfl ?_
    (repeat' (first|refine wS ?_|refine wB ?_|(refine iA 0 rfl rfl rfl (by omega) (by omega) ?_)|refine nZ ?_));refine dB (X := Unit) (fun _ => [(0,.sl 0 0 l.length 3),(1,.i a),(2,.i a),(3,pS),(8,.i ((a : Int) + 1))]) (fun _ => [.arr (fL l) 3]) (fun _ => 0) () ⟨[0],rfl,by (repeat (first | exact trivial | refine ⟨rfl,?_⟩)),⟨.inr (aE rfl rfl (bG _)),trivial⟩,by decide,kU⟩ ?_
    intro _;dsimp only
    (repeat' (first|refine wS ?_|refine wE ?_|(refine wC rfl ?_ ?_<;>(intro hb;(try simp only [nm] at hb);try (exfalso;omega)))|(refine rg 1 (dS rfl (vV (aO rfl rfl) ?_)))|refine nZ ?_));all_goals first | (exfalso;omega) | exact ⟨.inl rfl,[0],_,rfl,rfl,rfl,⟨.inr (aE rfl rfl (bG _)),trivial⟩,by decide,kU⟩ | exact ⟨.inr rfl,[0],_,rfl,rfl,rfl,⟨.inr (aE rfl rfl (bG _)),trivial⟩,by decide,kU⟩
end Go.Proofs.YtmmkhmilpeodnaaGreat
namespace Go.Ld
open Go.Ab Go.Proofs.YtmmkhmilpeodnaaGreat
def DY (P X Q Y R : List W) (k : Nat) : List W := P ++ ((Y.take k ++ X.drop k) ++ (Q ++ ((X.take k ++ Y.drop k) ++ R)))
theorem zH1 (P X Q Y R : List W) : DY P X Q Y R 0 = P ++ (X ++ (Q ++ (Y ++ R))) := by simp [DY]
theorem zH0 {P X Q Y R : List W} {n : Nat} (h1 : X.length = n) (h2 : Y.length = n) : DY P X Q Y R n = P ++ (Y ++ (Q ++ (X ++ R))) := by
  unfold DY;rw [cD (by omega),cD (by omega),cW (by omega),cW (by omega)];simp
theorem zL2 {X1 X2 : List W} {x : W} {k : Nat} (h : X1.length = k) : (X1 ++ x :: X2).take k = X1 ∧ (X1 ++ x :: X2).drop k = x :: X2 ∧ (X1 ++ x :: X2).take (k + 1) = X1 ++ [x] ∧ (X1 ++ x :: X2).drop (k + 1) = X2 := by
  subst h;refine ⟨tT,tU,?_,?_⟩
  · rw [show X1 ++ x :: X2 = (X1 ++ [x]) ++ X2 by simp,show X1.length + 1 = (X1 ++ [x]).length by simp,tT]
  · rw [show X1 ++ x :: X2 = (X1 ++ [x]) ++ X2 by simp,show X1.length + 1 = (X1 ++ [x]).length by simp,tU]
theorem HR {X : List W} {k : Nat} (h : k < X.length) : ∃ X1 x X2,X = X1 ++ x :: X2 ∧ X1.length = k := ⟨X.take k,X[k],X.drop (k + 1),by simp,by simp;omega⟩
theorem PA {P X Q Y R : List W} {n k : Nat} (h1 : X.length = n) (h2 : Y.length = n) (hk : k < n) : ∃ x y,x ∈ X ∧ y ∈ Y ∧ (DY P X Q Y R k)[P.length + k]? = some x ∧ (DY P X Q Y R k)[P.length + n + Q.length + k]? = some y ∧
    ((DY P X Q Y R k).set (P.length + k) y)[P.length + n + Q.length + k]? = some y ∧ ((DY P X Q Y R k).set (P.length + k) y).set (P.length + n + Q.length + k) x = DY P X Q Y R (k + 1) := by
  obtain ⟨X1,x,X2,rfl,hx⟩ := HR (show k < X.length by omega)
  obtain ⟨Y1,y,Y2,rfl,hy⟩ := HR (show k < Y.length by omega)
  obtain ⟨a1,a2,a3,a4⟩ := zL2 (x := x) (X2 := X2) hx;obtain ⟨b1,b2,b3,b4⟩ := zL2 (x := y) (X2 := Y2) hy;simp only [aF,List.length_cons] at h1 h2;have e : DY P (X1 ++ x :: X2) Q (Y1 ++ y :: Y2) R k = (P ++ Y1) ++ x :: (X2 ++ (Q ++ (X1 ++ y :: (Y2 ++ R)))) := by
    unfold DY;rw [a1,a2,b1,b2];simp
  have e1 : (DY P (X1 ++ x :: X2) Q (Y1 ++ y :: Y2) R k).set (P.length + k) y = ((P ++ Y1) ++ y :: (X2 ++ (Q ++ X1))) ++ y :: (Y2 ++ R) := by
    rw [e,mT _ _ _ _ (by simp;omega)];simp
  have l1 : P.length + n + Q.length + k = ((P ++ Y1) ++ y :: (X2 ++ (Q ++ X1))).length := by
    simp only [aF,List.length_cons];omega
  refine ⟨x,y,by simp,by simp,?_,?_,?_,?_⟩
  · rw [e];exact mM _ _ _ (by simp;omega)
  · rw [e,show (P ++ Y1) ++ x :: (X2 ++ (Q ++ (X1 ++ y :: (Y2 ++ R)))) = ((P ++ Y1) ++ x :: (X2 ++ (Q ++ X1))) ++ y :: (Y2 ++ R) by simp]
    exact mM _ _ _ (by simp only [aF,List.length_cons];omega)
  · rw [e1];exact mM _ _ _ l1
  · rw [e1,mT _ _ _ _ l1];unfold DY;rw [a3,a4,b3,b4];simp
end Go.Ld
namespace Go.Proofs.YtmmkhmilpeodnaaGreat
open Go Go.Ab Go.Ld
attribute [local irreducible] VC AW bX aT
set_option maxHeartbeats 4000000
theorem BA (P X Q Y R : List W) {n a b N : Nat} (h1 : X.length = n) (h2 : Y.length = n) (ha : a = P.length) (hb : b = P.length + n + Q.length) (hN : N = P.length + (n + (Q.length + (n + R.length)))) (hl : N ≤ 100000) :
    aT Tryz.prog 181 [.sl 0 0 N 3,.i a,.i b,.i n,pS] [.arr (fL (P ++ (X ++ (Q ++ (Y ++ R))))) 3] (.tup []) [.arr (fL (P ++ (Y ++ (Q ++ (X ++ R))))) 3] := by
  refine bT T Tryz.func181 rfl rfl rfl rfl ?_
  (repeat' (first|refine wS ?_|refine wB ?_|(refine rg 0 (aV ?_))|refine nZ ?_));refine dB (X := {k : Nat // k ≤ n}) (fun k => [(0,.sl 0 0 N 3),(1,.i a),(2,.i b),(3,.i n),(4,pS),(10,.i k.1)]) (fun k => [.arr (fL (DY P X Q Y R k.1)) 3]) (fun k => n - k.1) ⟨0,by omega⟩ ⟨[0],rfl,by (repeat (first | exact trivial | refine ⟨rfl,?_⟩)),⟨.inr (aE rfl (by dsimp only;rw [zH1]) (bG _)),trivial⟩,by decide,kU⟩ ?_
  rintro ⟨k,hk⟩;dsimp only;by_cases hlt : k < n
  · obtain ⟨x,y,_,_,p1,p2,p3,p4⟩ := PA (P := P) (Q := Q) (R := R) h1 h2 hlt;have q1 := oG (j := (a : Int) + (k : Int)) p1 (by omega)
    have q2 := oG (j := (b : Int) + (k : Int)) p2 (by omega)
    have t1 := tW (L := DY P X Q Y R k) (j := (a : Int) + (k : Int)) (i := P.length + k) (x := y) (by omega)
    have q3 := oG (j := (b : Int) + (k : Int)) p3 (by omega)
    have t2 := tW (L := (DY P X Q Y R k).set (P.length + k) y) (j := (b : Int) + (k : Int)) (i := P.length + n + Q.length + k) (x := x) (by omega)
    rw [← t1] at q3 t2;rw [p4] at t2;clear p1 p2 p3 p4 t1;generalize DY P X Q Y R k = L at *
    (repeat' (first|refine wS ?_|refine wB ?_|refine wK ?_|(refine wC rfl ?_ ?_<;>(intro hb;(try simp only [nm] at hb);try (exfalso;omega)))|(refine rg 1 (dS rfl (vV (aO rfl rfl) ?_)))|(refine mX (id := 3) 38 [[],[],[],[1,2],[],[],[],[5,6],[],[],[],[9,10],rM 8 4,rM 8 5,[],[],[],[15,16],rM 14 4,rM 14 5,[0,1,2,3,8,9,10,11,12,13,14,15,16,17,18,19],[0,1,2,3,8,9,10,11,12,13,14,15,16,17,18,19,20]] (rM 16 21) [[],[16],[16,17],[16],rM 16 4,rM 16 5,rM 16 6,rM 16 5,rM 16 8,rM 16 9,rM 16 10,rM 16 9,rM 16 8,rM 16 8,rM 16 14,rM 16 15,rM 16 16,rM 16 15,rM 16 14,rM 16 14,rM 20 4,rM 20 4] [(21,0)] dA rfl (by decide +kernel) (cH rfl rfl rfl rfl (by exact bW rfl) ?_);refine cH rfl rfl rfl rfl (by exact bW rfl) ?_;refine cH rfl rfl rfl rfl (by exact bW rfl) ?_;refine cH rfl rfl rfl rfl (by exact bU rfl rfl (by omega) (by omega)) ?_;refine cH rfl rfl rfl rfl (by exact bW rfl) ?_;refine cH rfl rfl rfl rfl (by exact bW rfl) ?_;refine cH rfl rfl rfl rfl (by exact bW rfl) ?_;refine cH rfl rfl rfl rfl (by exact bU rfl rfl (by omega) (by omega)) ?_;refine cH rfl rfl rfl rfl (by exact bW rfl) ?_;refine cH rfl rfl rfl rfl (by exact bW rfl) ?_;refine cH rfl rfl rfl rfl (by exact bW rfl) ?_;refine cH rfl rfl rfl rfl (by exact bU rfl rfl (by omega) (by omega)) ?_;refine cH rfl rfl rfl rfl (by exact aM T rfl rfl rfl rfl rfl (by omega) (by omega)) ?_;refine cH rfl rfl rfl rfl (by exact aX T rfl rfl (bJ rfl q2) rfl) ?_;refine cH rfl rfl rfl rfl (by exact bW rfl) ?_;refine cH rfl rfl rfl rfl (by exact bW rfl) ?_;refine cH rfl rfl rfl rfl (by exact bW rfl) ?_;refine cH rfl rfl rfl rfl (by exact bU rfl rfl (by omega) (by omega)) ?_;refine cH rfl rfl rfl rfl (by exact aM T rfl rfl rfl rfl rfl (by omega) (by omega)) ?_;refine cH rfl rfl rfl rfl (by exact aX T rfl rfl (bJ rfl q1) rfl) ?_;refine cH rfl rfl rfl rfl (by exact aM T rfl rfl rfl rfl rfl (by omega) (by omega)) ?_;refine uM rfl rfl rfl rfl (aP rfl) T rfl rfl rfl rfl rfl rfl (by decide) (tZ rfl q1 rfl) ?_;refine qF rfl rfl rfl (by exact rfl) ?_;refine vV (by exact aM T rfl rfl rfl rfl rfl (by omega) (by omega)) ?_;refine aU T rfl rfl rfl rfl rfl rfl (by decide) (mA rfl q3 rfl) ?_)|(refine iA 2 rfl rfl rfl (by omega) (by omega) ?_)|refine nZ ?_));all_goals first | (exfalso;omega) | exact ⟨⟨k + 1,by omega⟩,by dsimp only;omega,⟨[0],rfl,by (repeat (first | exact trivial | refine ⟨rfl,?_⟩)),⟨.inr (aE rfl (by dsimp only;rw [← t2];try rfl) (bG _)),trivial⟩,by decide,kU⟩⟩
  · obtain rfl : k = n := by omega
    have e := zH0 (P := P) (Q := Q) (R := R) h1 h2
    (repeat' (first|refine wS ?_|refine wE ?_|(refine wC rfl ?_ ?_<;>(intro hb;(try simp only [nm] at hb);try (exfalso;omega)))|(refine rg 1 (dS rfl (vV (aO rfl rfl) ?_)))|refine nZ ?_));all_goals first | (exfalso;omega) | exact ⟨.inl rfl,[0],_,rfl,rfl,rfl,⟨.inr (aE rfl (by rw [e]) (bG _)),trivial⟩,by decide,kU⟩ | exact ⟨.inr rfl,[0],_,rfl,rfl,rfl,⟨.inr (aE rfl (by rw [e]) (bG _)),trivial⟩,by decide,kU⟩
theorem PV (P X Y R : List W) {a m b N : Nat} (ha : a = P.length) (hm : m = P.length + X.length) (hb : b = P.length + X.length + Y.length) (hN : N = b + R.length) (hl : N ≤ 100000) (hX : 0 < X.length) (hY : 0 < Y.length) :
    aT Tryz.prog 176 [.sl 0 0 N 3,.i a,.i m,.i b,pS] [.arr (fL (P ++ (X ++ (Y ++ R)))) 3] (.tup []) [.arr (fL (P ++ (Y ++ (X ++ R)))) 3] := by
  refine bT T Tryz.func176 rfl rfl rfl rfl ?_
  (repeat' (first|refine wS ?_|refine wB ?_|(refine rg 0 (dS rfl (vV (cQ rfl rfl (by omega) (by omega)) (aV ?_))))|(refine rg 1 (dS rfl (vV (cQ rfl rfl (by omega) (by omega)) (aV ?_))))|refine nZ ?_));refine dB (X := {q : List W × List W × List W × List W // q.1 ++ (q.2.2.1 ++ (q.2.1 ++ q.2.2.2)) = P ++ (Y ++ (X ++ R)) ∧ q.1.length + q.2.1.length = m ∧ m + q.2.2.1.length + q.2.2.2.length = N ∧ 0 < q.2.1.length ∧ 0 < q.2.2.1.length})
    (fun q => [(0,.sl 0 0 N 3),(1,.i a),(2,.i m),(3,.i b),(4,pS),(10,.i q.1.2.1.length),(11,.i q.1.2.2.1.length)]) (fun q => [.arr (fL (q.1.1 ++ (q.1.2.1 ++ (q.1.2.2.1 ++ q.1.2.2.2)))) 3]) (fun q => q.1.2.1.length + q.1.2.2.1.length) ⟨(P,X,Y,R),by dsimp only;exact ⟨rfl,by omega,by omega,hX,hY⟩⟩
    ⟨[0],rfl,⟨rfl,rfl,rfl,rfl,rfl,by dsimp only;rw [show (X.length : Int) = (m : Int) - (a : Int) by omega];rfl,by dsimp only;rw [show (Y.length : Int) = (b : Int) - (m : Int) by omega];rfl,trivial⟩,⟨.inr (aE rfl rfl (bG _)),trivial⟩,by decide,kU⟩ ?_
  rintro ⟨⟨P1,X1,Y1,R1⟩,h1,h2,h3,h4,h5⟩;dsimp only at h1 h2 h3 h4 h5 ⊢;have hsb : ((P1.length : Nat) : Int) = (m : Int) - (X1.length : Int) := by omega
  by_cases hij : X1.length = Y1.length
  · have hc := BA P1 X1 [] Y1 R1 (n := X1.length) (a := P1.length) (b := m) (N := N) rfl hij.symm rfl (by simp;omega) (by simp;omega) hl
    rw [List.nil_append,List.nil_append,hsb,h1] at hc
    (repeat' (first|refine wS ?_|refine wE ?_|refine wU ?_|(refine rg 2 (dS rfl (vV (nW rfl rfl (by omega)) ?_)))|(refine rg 8 (dS rfl (mW rfl (vV (cQ rfl rfl (by omega) (by omega)) (dS rfl (mW rfl (fQ [0] rfl rfl (hc) rfl rfl (by decide) ⟨.inr (aE rfl rfl (bG _)),trivial⟩ (by simp) rfl ?_)))))))|refine nZ ?_));all_goals first | (exfalso;omega) | exact ⟨.inl rfl,[0],_,rfl,rfl,rfl,⟨.inr (aE rfl (cC _ (bG _)) (bG _)),trivial⟩,by decide,kU⟩ | exact ⟨.inr rfl,[0],_,rfl,rfl,rfl,⟨.inr (aE rfl (cC _ (bG _)) (bG _)),trivial⟩,by decide,kU⟩
  · by_cases hgt : Y1.length < X1.length
    · -- a part of the left side goes to the end
      obtain ⟨A,B,rfl,hA⟩ : ∃ A B,X1 = A ++ B ∧ A.length = Y1.length := ⟨X1.take Y1.length,X1.drop Y1.length,by simp,by simp;omega⟩
      rw [aF] at *;have hc := BA P1 A B Y1 R1 (n := Y1.length) (a := P1.length) (b := m) (N := N) hA rfl rfl (by omega) (by omega) hl
      rw [hsb] at hc;rw [bH]
      (repeat' (first|refine wS ?_|refine wB ?_|refine wK ?_|refine wT ?_|(refine rg 2 (dS rfl (vV (rV rfl rfl (by omega)) ?_)))|(refine rg 3 (dS rfl (vV (XU rfl rfl (by omega)) ?_)))|(refine rg 4 (dS rfl (mW rfl (vV (cQ rfl rfl (by omega) (by omega)) (dS rfl (mW rfl (fQ [0] rfl rfl (hc) rfl rfl (by decide) ⟨.inr (aE rfl rfl (bG _)),trivial⟩ (by simp) rfl ?_)))))))|(refine rg 5 (dS rfl (vV (cQ rfl rfl (by omega) (by omega)) (aV ?_))))|refine nZ ?_));all_goals first | (exfalso;omega) | skip
      refine ⟨⟨(P1 ++ Y1,B,A,R1),by dsimp only;refine ⟨by rw [← h1];simp,?_,?_,?_,?_⟩ <;> (try simp only [aF]) <;> omega⟩,by dsimp only;omega,⟨[0],rfl,⟨rfl,rfl,rfl,rfl,rfl,by dsimp only;rw [show (B.length : Int) = ((A.length + B.length : Nat) : Int) - (Y1.length : Int) by omega];rfl,by dsimp only;rw [hA];rfl,trivial⟩,⟨.inr (aE rfl (by rw [cC _ (bG _)];simp) (bG _)),trivial⟩,by decide,kU⟩⟩
    · -- a part of the right side goes to the front
      obtain ⟨A,B,rfl,hA⟩ : ∃ A B,Y1 = A ++ B ∧ B.length = X1.length := ⟨Y1.take (Y1.length - X1.length),Y1.drop (Y1.length - X1.length),by simp,by simp;omega⟩
      rw [aF] at *;have hc := BA P1 X1 A B R1 (n := X1.length) (a := P1.length) (b := m + A.length) (N := N) rfl hA rfl (by omega) (by omega) hl
      rw [hsb,show ((m + A.length : Nat) : Int) = (m : Int) + ((A.length + B.length : Nat) : Int) - (X1.length : Int) by omega] at hc
      rw [bH]
      (repeat' (first|refine wS ?_|refine wB ?_|refine wK ?_|refine wT ?_|refine wU ?_|(refine rg 2 (dS rfl (vV (rV rfl rfl (by omega)) ?_)))|(refine rg 3 (dS rfl (vV (CA rfl rfl (by omega)) ?_)))|(refine rg 6 (dS rfl (mW rfl (vV (cQ rfl rfl (by omega) (by omega)) (dS rfl (vV (bU rfl rfl (by omega) (by omega)) (mW rfl (vV (cQ rfl rfl (by omega) (by omega)) (dS rfl (fQ [0] rfl rfl (hc) rfl rfl (by decide) ⟨.inr (aE rfl rfl (bG _)),trivial⟩ (by simp) rfl ?_))))))))))|(refine rg 7 (dS rfl (vV (cQ rfl rfl (by omega) (by omega)) (aV ?_))))|refine nZ ?_));all_goals first | (exfalso;omega) | skip
      refine ⟨⟨(P1,B,A,X1 ++ R1),by dsimp only;refine ⟨by rw [← h1];simp,?_,?_,?_,?_⟩ <;> (try simp only [aF]) <;> omega⟩,by dsimp only;omega,⟨[0],rfl,⟨rfl,rfl,rfl,rfl,rfl,by dsimp only;rw [hA];rfl,by dsimp only;rw [show (A.length : Int) = ((A.length + B.length : Nat) : Int) - (X1.length : Int) by omega];rfl,trivial⟩,⟨.inr (aE rfl (by rw [cC _ (bG _)]) (bG _)),trivial⟩,by decide,kU⟩⟩
end Go.Proofs.YtmmkhmilpeodnaaGreat
namespace Go.Ld
open Go.Ab Go.Proofs.YtmmkhmilpeodnaaGreat
theorem LX {V : List W} {i : Nat} {z : W} (h0 : 0 < i) (h : V[i - 1]? = some z) : V.take i = V.take (i - 1) ++ [z] := by
  conv => lhs;rw [show i = (i - 1) + 1 by omega]
  rw [UY,h];rfl
theorem YN {V : List W} {i : Nat} {z : W} (h : V[i]? = some z) : V.drop i = z :: V.drop (i + 1) := by
  obtain ⟨hi,e⟩ := aB.1 h;rw [aS hi,e]
theorem JM {V : List W} {i : Nat} (hu : Up V) {x y z : W} (h0 : 0 < i) (h : V[i - 1]? = some z) (hy : y ∈ V.take i) (hz : eE z x ≤ 0) : eE y x ≤ 0 := by
  have h1 : Up (V.take i) := hu.sublist (List.take_sublist _ _);rw [LX h0 h] at h1 hy;exact iN.le_tr (JN h1 y hy) hz
theorem JO {V : List W} {i : Nat} (hu : Up V) {x y z : W} (h : V[i]? = some z) (hy : y ∈ V.drop i) (hz : eE x z ≤ 0) : eE x y ≤ 0 := by
  have h1 : Up (V.drop i) := hu.sublist (List.drop_sublist _ _);rw [YN h] at h1 hy;exact iN.le_tr hz (VN h1 y hy)
theorem qB {V : List W} {i : Nat} {y : W} (h : y ∈ V.take i) (hi : i ≤ V.length) : 0 < i ∧ ∃ z,V[i - 1]? = some z := by
  have : 0 < i := by
    rcases E1 i with rfl | h0
    · simp at h
    · exact h0
  exact ⟨this,_,aA (by omega)⟩
theorem rT {V : List W} {i : Nat} {y : W} (h : y ∈ V.drop i) : ∃ z,V[i]? = some z := by
  have : i < V.length := by
    rcases gQ i V.length with h0 | h0
    · exact h0
    · rw [cW h0] at h;cases h
  exact ⟨_,aA this⟩
theorem zB8 {u : W} {V : List W} {i : Nat} (hi : i ≤ V.length) (hu : Up V) (h1 : ∀ z,0 < i → V[i - 1]? = some z → eE z u < 0) (h2 : ∀ z,V[i]? = some z → ¬ eE z u < 0) : dR eE ([u] ++ V) = V.take i ++ u :: V.drop i := by
  refine A6 ?_ (HN (by rw [bK];exact hu) (fun y hy => ?_) (fun y hy => ?_))
  · refine List.perm_middle.trans ?_;rw [bK];exact .refl _
  · obtain ⟨h0,z,hz⟩ := qB hy hi;exact JM hu h0 hz hy (xT (h1 z h0 hz))
  · obtain ⟨z,hz⟩ := rT hy;exact JO hu hz hy (zK4 (h2 z hz))
theorem zB7 {v : W} {U : List W} {i : Nat} (hi : i ≤ U.length) (hu : Up U) (h1 : ∀ z,0 < i → U[i - 1]? = some z → ¬ eE v z < 0) (h2 : ∀ z,U[i]? = some z → eE v z < 0) : dR eE (U ++ [v]) = U.take i ++ v :: U.drop i := by
  refine A6 ?_ (HN (by rw [bK];exact hu) (fun y hy => ?_) (fun y hy => ?_))
  · refine List.perm_middle.trans ?_;rw [bK];exact (E2 _ _).symm
  · obtain ⟨h0,z,hz⟩ := qB hy hi;exact JM hu h0 hz hy (zK4 (h1 z h0 hz))
  · obtain ⟨z,hz⟩ := rT hy;exact JO hu hz hy (xT (h2 z hz))
theorem zJ4 {U V : List W} {i e : Nat} (hU : Up U) (hV : Up V) (hi : i ≤ U.length) (he : e ≤ V.length) (h1 : ∀ x y,0 < i → U[i - 1]? = some x → V[e]? = some y → ¬ eE y x < 0) (h2 : ∀ x y,0 < e → U[i]? = some x → V[e - 1]? = some y → eE y x < 0) :
    dR eE (U ++ V) = dR eE (U.take i ++ V.take e) ++ dR eE (U.drop i ++ V.drop e) := by
  have hU1 : Up (U.take i ++ U.drop i) := by rw [bK];exact hU
  have hV1 : Up (V.take e ++ V.drop e) := by rw [bK];exact hV
  have cU := (eN.1 hU1).2.2;have cV := (eN.1 hV1).2.2;refine A6 ?_ (zA1 (kJ iN _) (kJ iN _) fun x y hx hy => ?_)
  · refine ((dK _ _).append (dK _ _)).trans ?_;have e1 : (U.take i ++ V.take e ++ (U.drop i ++ V.drop e)).Perm (U.take i ++ U.drop i ++ (V.take e ++ V.drop e)) := by
      rw [bH,bH];refine List.Perm.append_left _ ?_;rw [← bH,← bH];exact List.perm_append_comm.append_right _
    rw [bK,bK] at e1;exact e1
  · have hx := (dK _ _).mem_iff.1 hx;have hy := (dK _ _).mem_iff.1 hy;rcases bB.1 hx with hx | hx <;> rcases bB.1 hy with hy | hy
    · exact cU x hx y hy
    · obtain ⟨h0,z,hz⟩ := qB hx hi;obtain ⟨q,hq⟩ := rT hy;exact JO hV hq hy (JM hU h0 hz hx (zK4 (h1 z q h0 hz hq)))
    · obtain ⟨h0,z,hz⟩ := qB hx he;obtain ⟨q,hq⟩ := rT hy;exact JO hU hq hy (JM hV h0 hz hx (xT (h2 q z h0 hq hz)))
    · exact cV x hx y hy
def E5 (P V : List W) (u : W) (R : List W) (k : Nat) : List W := (P ++ V.take k) ++ u :: (V.drop k ++ R)
theorem DR {P V : List W} {u : W} {R : List W} {k : Nat} (h : k < V.length) : ∃ y,(E5 P V u R k)[P.length + k]? = some u ∧ (E5 P V u R k)[P.length + k + 1]? = some y ∧
    ((E5 P V u R k).set (P.length + k) y)[P.length + k + 1]? = some y ∧ ((E5 P V u R k).set (P.length + k) y).set (P.length + k + 1) u = E5 P V u R (k + 1) ∧
    (E5 P V u R (k + 1))[P.length + k + 1]? = some u ∧ (E5 P V u R (k + 1))[P.length + k]? = some y ∧ ((E5 P V u R (k + 1)).set (P.length + k + 1) y)[P.length + k]? = some y ∧ ((E5 P V u R (k + 1)).set (P.length + k + 1) y).set (P.length + k) u = E5 P V u R k := by
  obtain ⟨V1,y,V2,rfl,hk⟩ := HR h;obtain ⟨a1,a2,a3,a4⟩ := zL2 (x := y) (X2 := V2) hk;have e : E5 P (V1 ++ y :: V2) u R k = (P ++ V1) ++ u :: y :: (V2 ++ R) := by unfold E5;rw [a1,a2];simp
  have e' : E5 P (V1 ++ y :: V2) u R (k + 1) = (P ++ V1) ++ y :: u :: (V2 ++ R) := by unfold E5;rw [a3,a4];simp
  have l0 : P.length + k = (P ++ V1).length := by simp;omega
  have s1 : ∀ (p q : W),((P ++ V1) ++ p :: q :: (V2 ++ R))[P.length + k + 1]? = some q := fun p q => by
    rw [show (P ++ V1) ++ p :: q :: (V2 ++ R) = ((P ++ V1) ++ [p]) ++ q :: (V2 ++ R) by simp];exact mM _ _ _ (by simp;omega)
  have s2 : ∀ (p q z : W),((P ++ V1) ++ p :: q :: (V2 ++ R)).set (P.length + k + 1) z = (P ++ V1) ++ p :: z :: (V2 ++ R) := fun p q z => by
    rw [show (P ++ V1) ++ p :: q :: (V2 ++ R) = ((P ++ V1) ++ [p]) ++ q :: (V2 ++ R) by simp,mT _ _ _ _ (by simp;omega)];simp
  rw [e,e'];refine ⟨y,mM _ _ _ l0,s1 _ _,?_,?_,s1 _ _,mM _ _ _ l0,?_,?_⟩
  · rw [mT _ _ _ _ l0];exact s1 _ _
  · rw [mT _ _ _ _ l0,s2]
  · rw [s2];exact mM _ _ _ l0
  · rw [s2,mT _ _ _ _ l0]
theorem TY {P U V R : List W} {i k : Nat} (h : i = P.length + U.length + k) (hk : k < V.length) : (P ++ (U ++ (V ++ R)))[i]? = V[k]? := by
  subst h;rw [aD (by omega),aD (by omega),aG (by omega)]
  congr 1;omega
theorem TZ {P U V R : List W} {i k : Nat} (h : i = P.length + k) (hk : k < U.length) : (P ++ (U ++ (V ++ R)))[i]? = U[k]? := by
  subst h;rw [aD (by omega),aG (by omega)]
  congr 1;omega
end Go.Ld
namespace Go.Proofs.YtmmkhmilpeodnaaGreat
open Go Go.Ab Go.Ld
attribute [local irreducible] VC AW bX aT
set_option maxHeartbeats 4000000
theorem vI : I4 Tryz.prog 3 .i64 := by unfold I4;kernel_rfl
theorem pM : I4 Tryz.prog 119 .u64 := by unfold I4;kernel_rfl
attribute [local irreducible] I4
theorem zA5 (P : List W) (u : W) (V R : List W) {a m b N : Nat} (ha : a = P.length) (hm : m = a + 1) (hb : b = m + V.length) (hN : N = b + R.length) (hl : N ≤ 100000) (hV : Up V) (hu : E6 u) (hw : ∀ w,w ∈ V → E6 w) :
    aT Tryz.prog 162 [.sl 0 0 N 3,.i a,.i m,.i b,pS] [.arr (fL (P ++ ([u] ++ (V ++ R)))) 3] (.tup []) [.arr (fL (P ++ (dR eE ([u] ++ V) ++ R))) 3] := by
  refine bT T Tryz.func162 rfl rfl rfl rfl ?_
  (repeat' (first|refine wS ?_|refine wB ?_|refine wT ?_|(refine rg 0 (dS rfl (vV (cQ rfl rfl (by omega) (by omega)) (vV (kK rfl rfl (by omega)) ?_))))|(refine rg 1 (mW rfl (aV ?_)))|(refine rg 2 (mW rfl (aV ?_)))|refine nZ ?_));refine dB (X := {q : Nat × Nat // m ≤ q.1 ∧ q.1 ≤ q.2 ∧ q.2 ≤ b ∧ (∀ z, 0 < q.1 - m → V[q.1 - m - 1]? = some z → eE z u < 0) ∧ (∀ z, V[q.2 - m]? = some z → ¬ eE z u < 0)})
    (fun q => [(0,.sl 0 0 N 3),(1,.i a),(4,pS),(10,.i q.1.1),(11,.i q.1.2)]) (fun _ => [.arr (fL (P ++ ([u] ++ (V ++ R)))) 3]) (fun q => q.1.2 - q.1.1) ⟨(m,b),by dsimp only;exact ⟨by omega,by omega,by omega,fun z h => by omega,fun z h => by rw [cJ (by omega)] at h;cases h⟩⟩
    ⟨[0],rfl,by (repeat (first | exact trivial | refine ⟨rfl,?_⟩)),⟨.inr (aE rfl rfl (bG _)),trivial⟩,by decide,kU⟩ ?_
  rintro ⟨⟨i,j⟩,h1,h2,h3,h4,h5⟩;dsimp only at h1 h2 h3 h4 h5 ⊢;by_cases hij : i < j
  · have hP : ((i : Int) + j) / 2 ^ (1 : Int).toNat = (((i + j) / 2 : Nat) : Int) := by rw [show (2 : Int) ^ (1 : Int).toNat = 2 from rfl];omega
    have hw1 : IntKind.u64.wrap ((i : Int) + j) = (i : Int) + j := DL (by omega) (by omega)
    have hw2 : IntKind.i64.wrap (((i + j) / 2 : Nat) : Int) = (((i + j) / 2 : Nat) : Int) := IntWalk.i64_in _ (by omega)
    have hh : i ≤ (i + j) / 2 ∧ (i + j) / 2 < j := by omega
    generalize hq : (i + j) / 2 = q at *;obtain ⟨z,hz⟩ : ∃ z,V[q - m]? = some z := ⟨_,aA (by omega)⟩
    have q1 := oG (L := P ++ ([u] ++ (V ++ R))) (j := (q : Int)) (i := q) (x := z) (by rw [TY (k := q - m) (by simp;omega) (by omega)];exact hz) rfl
    have q2 := oG (L := P ++ ([u] ++ (V ++ R))) (j := (a : Int)) (i := a) (x := u) (by rw [TZ (k := 0) (by omega) (by simp)];rfl) rfl
    have hc := uB z u (hw z (aL hz)) hu;by_cases h0 : eE z u < 0
    · generalize hx : eE z u = x at *
      (repeat' (first|refine wS ?_|refine wB ?_|refine wK ?_|(refine wC rfl ?_ ?_<;>(intro hb;(try simp only [nm] at hb);try (exfalso;omega)))|(refine rg 3 (dS rfl (vV (aO rfl rfl) ?_)))|(refine rg 4 (dS rfl (vV (bU rfl rfl (by omega) (by omega)) (vV (iK vI pM rfl hw1) (vV (by exact hP ▸ rU rfl rfl (by decide) (by decide)) ?_))));refine vV (iK pM vI rfl hw2) (aV ?_))|(refine cM (id := 5) 220 zR1 (rM 40 11) zR2 dA rfl (by decide +kernel) (dN rfl (dN rfl (dN rfl (dV rfl (by exact aM T rfl rfl rfl rfl rfl (by omega) (by omega)) ?_))));refine dV rfl (by exact aX T rfl rfl (bJ rfl q1) rfl) ?_;refine dN rfl (dN rfl (dV rfl (by exact aM T rfl rfl rfl rfl rfl (by omega) (by omega)) ?_));refine dV rfl (by exact aX T rfl rfl (bJ rfl q2) rfl) ?_;refine dV rfl (kC (hc)) (dV rfl (aO rfl rfl) (dE ?_)))|(refine iA 6 rfl rfl rfl (by omega) (by omega) ?_)|refine nZ ?_));all_goals first | (exfalso;omega) | skip
      exact ⟨⟨(q + 1,j),by dsimp only;exact ⟨by omega,by omega,by omega,fun z' _ hz' => by rw [show q + 1 - m - 1 = q - m by omega,hz] at hz';cases hz';omega,h5⟩⟩,by dsimp only;omega,⟨[0],rfl,by (repeat (first | exact trivial | refine ⟨rfl,?_⟩)),⟨.inr (aE rfl rfl (bG _)),trivial⟩,by decide,kU⟩⟩
    · generalize hx : eE z u = x at *
      (repeat' (first|refine wS ?_|refine wB ?_|refine wK ?_|(refine wC rfl ?_ ?_<;>(intro hb;(try simp only [nm] at hb);try (exfalso;omega)))|(refine rg 3 (dS rfl (vV (aO rfl rfl) ?_)))|(refine rg 4 (dS rfl (vV (bU rfl rfl (by omega) (by omega)) (vV (iK vI pM rfl hw1) (vV (by exact hP ▸ rU rfl rfl (by decide) (by decide)) ?_))));refine vV (iK pM vI rfl hw2) (aV ?_))|(refine cM (id := 5) 220 zR1 (rM 40 11) zR2 dA rfl (by decide +kernel) (dN rfl (dN rfl (dN rfl (dV rfl (by exact aM T rfl rfl rfl rfl rfl (by omega) (by omega)) ?_))));refine dV rfl (by exact aX T rfl rfl (bJ rfl q1) rfl) ?_;refine dN rfl (dN rfl (dV rfl (by exact aM T rfl rfl rfl rfl rfl (by omega) (by omega)) ?_));refine dV rfl (by exact aX T rfl rfl (bJ rfl q2) rfl) ?_;refine dV rfl (kC (hc)) (dV rfl (aO rfl rfl) (dE ?_)))|(refine rg 7 (mW rfl (aV ?_)))|refine nZ ?_));all_goals first | (exfalso;omega) | skip
      exact ⟨⟨(i,q),by dsimp only;exact ⟨by omega,by omega,by omega,h4,fun z' hz' => by rw [hz] at hz';cases hz';omega⟩⟩,by dsimp only;omega,⟨[0],rfl,by (repeat (first | exact trivial | refine ⟨rfl,?_⟩)),⟨.inr (aE rfl rfl (bG _)),trivial⟩,by decide,kU⟩⟩
  · obtain rfl : i = j := by omega
    have hmg := zB8 (u := u) (i := i - m) (by omega) hV h4 h5
    (repeat' (first|refine wS ?_|refine wB ?_|refine wE ?_|(refine wC rfl ?_ ?_<;>(intro hb;(try simp only [nm] at hb);try (exfalso;omega)))|(refine rg 3 (dS rfl (vV (aO rfl rfl) ?_)))|(refine rg 8 (mW rfl (aV ?_)))|refine nZ ?_));all_goals first | (exfalso;omega) | skip
    refine dB (X := {t : Nat // t ≤ i - m}) (fun t => [(0,.sl 0 0 N 3),(10,.i i),(13,.i ((a + t.1 : Nat) : Int))]) (fun t => [.arr (fL (E5 P V u R t.1)) 3]) (fun t => i - m - t.1) ⟨0,by omega⟩ ⟨[0],rfl,⟨rfl,rfl,by dsimp only;rfl,trivial⟩,⟨.inr (aE rfl (by dsimp only;unfold E5;simp) (bG _)),trivial⟩,by decide,kU⟩ ?_
    rintro ⟨t,ht⟩;dsimp only;by_cases hlt : t < i - m
    · obtain ⟨y,p1,p2,p3,p4,_⟩ := DR (P := P) (u := u) (R := R) (show t < V.length by omega)
      have q1 := oG (j := ((a + t : Nat) : Int)) p1 (by omega)
      have q2 := oG (j := ((a + t : Nat) : Int) + 1) p2 (by omega)
      have t1 := tW (L := E5 P V u R t) (j := ((a + t : Nat) : Int)) (i := P.length + t) (x := y) (by omega)
      have q3 := oG (j := ((a + t : Nat) : Int) + 1) p3 (by omega)
      have t2 := tW (L := (E5 P V u R t).set (P.length + t) y) (j := ((a + t : Nat) : Int) + 1) (i := P.length + t + 1) (x := u) (by omega)
      rw [← t1] at q3 t2;rw [p4] at t2;have hJ : ((a + t : Nat) : Int) + 1 = ((a + (t + 1) : Nat) : Int) := by omega
      have hJ1 : ((a + t : Nat) : Int) < (i : Int) - 1 := by omega
      have hJ2 : 0 ≤ ((a + t : Nat) : Int) := by omega
      clear p1 p2 p3 p4 t1;generalize ((a + t : Nat) : Int) = J at *;generalize E5 P V u R t = L at *
      (repeat' (first|refine wS ?_|refine wB ?_|refine wK ?_|(refine wC rfl ?_ ?_<;>(intro hb;(try simp only [nm] at hb);try (exfalso;omega)))|(refine rg 9 (dS rfl (vV (cQ rfl rfl (by omega) (by omega)) (vV (aO rfl rfl) ?_))))|(refine mX (id := 11) 220 zQ9 (rM 61 15) [[],[61],[61,62],[61,62,63],[61,62,63],rM 61 5,rM 61 6,rM 61 6,rM 61 5,rM 61 5,rM 61 10,rM 61 11,rM 61 10,rM 61 10,[63,64,65],[63,64,65]] [(15,0)] dA rfl (by decide +kernel) (cH rfl rfl rfl rfl (by exact bW rfl) ?_);refine cH rfl rfl rfl rfl (by exact bW rfl) ?_;refine cH rfl rfl rfl rfl (by exact bW rfl) ?_;refine cH rfl rfl rfl rfl (by exact bW rfl) ?_;refine cH rfl rfl rfl rfl (by exact bU rfl rfl (by omega) (by omega)) ?_;refine cH rfl rfl rfl rfl (by exact bW rfl) ?_;refine cH rfl rfl rfl rfl (by exact bW rfl) ?_;refine cH rfl rfl rfl rfl (by exact bU rfl rfl (by omega) (by omega)) ?_;refine cH rfl rfl rfl rfl (by exact aM T rfl rfl rfl rfl rfl (by omega) (by omega)) ?_;refine cH rfl rfl rfl rfl (by exact aX T rfl rfl (bJ rfl q2) rfl) ?_;refine cH rfl rfl rfl rfl (by exact bW rfl) ?_;refine cH rfl rfl rfl rfl (by exact bW rfl) ?_;refine cH rfl rfl rfl rfl (by exact aM T rfl rfl rfl rfl rfl (by omega) (by omega)) ?_;refine cH rfl rfl rfl rfl (by exact aX T rfl rfl (bJ rfl q1) rfl) ?_;refine cH rfl rfl rfl rfl (by exact aM T rfl rfl rfl rfl rfl (by omega) (by omega)) ?_;refine uM rfl rfl rfl rfl (aP rfl) T rfl rfl rfl rfl rfl rfl (by decide) (tZ rfl q1 rfl) ?_;refine qF rfl rfl rfl (by exact rfl) ?_;refine vV (by exact aM T rfl rfl rfl rfl rfl (by omega) (by omega)) ?_;refine aU T rfl rfl rfl rfl rfl rfl (by decide) (mA rfl q3 rfl) ?_)|(refine iA 10 rfl rfl rfl (by omega) (by omega) ?_)|refine nZ ?_));all_goals first | (exfalso;omega) | skip
      exact ⟨⟨t + 1,by omega⟩,by dsimp only;omega,⟨[0],rfl,⟨rfl,rfl,by dsimp only;rw [← hJ];try rfl,trivial⟩,⟨.inr (aE rfl (by dsimp only;rw [← t2];try rfl) (bG _)),trivial⟩,by decide,kU⟩⟩
    · obtain rfl : t = i - m := by omega
      have ee : E5 P V u R (i - m) = P ++ (dR eE ([u] ++ V) ++ R) := by rw [hmg];unfold E5;simp
      have hJ1 : ¬ ((a + (i - m) : Nat) : Int) < (i : Int) - 1 := by omega
      generalize ((a + (i - m) : Nat) : Int) = J at *
      (repeat' (first|refine wS ?_|refine wR ?_|refine wE ?_|(refine wC rfl ?_ ?_<;>(intro hb;(try simp only [nm] at hb);try (exfalso;omega)))|(refine rg 9 (dS rfl (vV (cQ rfl rfl (by omega) (by omega)) (vV (aO rfl rfl) ?_))))|refine nZ ?_));all_goals first | (exfalso;omega) | exact ⟨.inl rfl,[0],_,rfl,rfl,rfl,⟨.inr (aE rfl (by rw [ee]) (bG _)),trivial⟩,by decide,kU⟩ | exact ⟨.inr rfl,[0],_,rfl,rfl,rfl,⟨.inr (aE rfl (by rw [ee]) (bG _)),trivial⟩,by decide,kU⟩
theorem zA4 (P U : List W) (v : W) (R : List W) {a m b N : Nat} (ha : a = P.length) (hm : m = a + U.length) (hb : b = m + 1) (hN : N = b + R.length) (hl : N ≤ 100000) (hU2 : 2 ≤ U.length) (hU : Up U) (hv : E6 v) (hw : ∀ w,w ∈ U → E6 w) :
    aT Tryz.prog 162 [.sl 0 0 N 3,.i a,.i m,.i b,pS] [.arr (fL (P ++ (U ++ ([v] ++ R)))) 3] (.tup []) [.arr (fL (P ++ (dR eE (U ++ [v]) ++ R))) 3] := by
  refine bT T Tryz.func162 rfl rfl rfl rfl ?_
  (repeat' (first|refine wS ?_|refine wB ?_|refine wK ?_|refine wT ?_|refine wU ?_|(refine rg 0 (dS rfl (vV (cQ rfl rfl (by omega) (by omega)) (vV (gB rfl rfl (by omega)) ?_))))|(refine rg 12 (dS rfl (vV (cQ rfl rfl (by omega) (by omega)) (vV (kK rfl rfl (by omega)) ?_))))|(refine rg 13 (mW rfl (aV ?_)))|(refine rg 14 (mW rfl (aV ?_)))|refine nZ ?_));refine dB (X := {q : Nat × Nat // a ≤ q.1 ∧ q.1 ≤ q.2 ∧ q.2 ≤ m ∧ (∀ z, 0 < q.1 - a → U[q.1 - a - 1]? = some z → ¬ eE v z < 0) ∧ (∀ z, U[q.2 - a]? = some z → eE v z < 0)})
    (fun q => [(0,.sl 0 0 N 3),(2,.i m),(4,pS),(14,.i q.1.1),(15,.i q.1.2)]) (fun _ => [.arr (fL (P ++ (U ++ ([v] ++ R)))) 3]) (fun q => q.1.2 - q.1.1) ⟨(a,m),by dsimp only;exact ⟨by omega,by omega,by omega,fun z h => by omega,fun z h => by rw [cJ (by omega)] at h;cases h⟩⟩
    ⟨[0],rfl,by (repeat (first | exact trivial | refine ⟨rfl,?_⟩)),⟨.inr (aE rfl rfl (bG _)),trivial⟩,by decide,kU⟩ ?_
  rintro ⟨⟨i,j⟩,h1,h2,h3,h4,h5⟩;dsimp only at h1 h2 h3 h4 h5 ⊢;by_cases hij : i < j
  · have hP : ((i : Int) + j) / 2 ^ (1 : Int).toNat = (((i + j) / 2 : Nat) : Int) := by rw [show (2 : Int) ^ (1 : Int).toNat = 2 from rfl];omega
    have hw1 : IntKind.u64.wrap ((i : Int) + j) = (i : Int) + j := DL (by omega) (by omega)
    have hw2 : IntKind.i64.wrap (((i + j) / 2 : Nat) : Int) = (((i + j) / 2 : Nat) : Int) := IntWalk.i64_in _ (by omega)
    have hh : i ≤ (i + j) / 2 ∧ (i + j) / 2 < j := by omega
    generalize hq : (i + j) / 2 = q at *;obtain ⟨z,hz⟩ : ∃ z,U[q - a]? = some z := ⟨_,aA (by omega)⟩
    have q1 := oG (L := P ++ (U ++ ([v] ++ R))) (j := (m : Int)) (i := m) (x := v) (by rw [TY (k := 0) (by omega) (by simp)];rfl) rfl
    have q2 := oG (L := P ++ (U ++ ([v] ++ R))) (j := (q : Int)) (i := q) (x := z) (by rw [TZ (k := q - a) (by omega) (by omega)];exact hz) rfl
    have hc := uB v z hv (hw z (aL hz));by_cases h0 : eE v z < 0
    · generalize hx : eE v z = x at *
      (repeat' (first|refine wS ?_|refine wB ?_|refine wK ?_|(refine wC rfl ?_ ?_<;>(intro hb;(try simp only [nm] at hb);try (exfalso;omega)))|(refine rg 15 (dS rfl (vV (aO rfl rfl) ?_)))|(refine rg 16 (dS rfl (vV (bU rfl rfl (by omega) (by omega)) (vV (iK vI pM rfl hw1) (vV (by exact hP ▸ rU rfl rfl (by decide) (by decide)) ?_))));refine vV (iK pM vI rfl hw2) (aV ?_))|(refine cM (id := 17) 220 zR3 (rM 92 12) zR4 dA rfl (by decide +kernel) (dN rfl (dN rfl (dN rfl (dV rfl (by exact aM T rfl rfl rfl rfl rfl (by omega) (by omega)) ?_))));refine dV rfl (by exact aX T rfl rfl (bJ rfl q1) rfl) ?_;refine dN rfl (dN rfl (dV rfl (by exact aM T rfl rfl rfl rfl rfl (by omega) (by omega)) ?_));refine dV rfl (by exact aX T rfl rfl (bJ rfl q2) rfl) ?_;refine dV rfl (kC (hc)) (dV rfl (aO rfl rfl) (dV rfl (eD rfl) (dE ?_))))|(refine rg 19 (mW rfl (aV ?_)))|refine nZ ?_));all_goals first | (exfalso;omega) | skip
      exact ⟨⟨(i,q),by dsimp only;exact ⟨by omega,by omega,by omega,h4,fun z' hz' => by rw [hz] at hz';cases hz';omega⟩⟩,by dsimp only;omega,⟨[0],rfl,by (repeat (first | exact trivial | refine ⟨rfl,?_⟩)),⟨.inr (aE rfl rfl (bG _)),trivial⟩,by decide,kU⟩⟩
    · generalize hx : eE v z = x at *
      (repeat' (first|refine wS ?_|refine wB ?_|refine wK ?_|(refine wC rfl ?_ ?_<;>(intro hb;(try simp only [nm] at hb);try (exfalso;omega)))|(refine rg 15 (dS rfl (vV (aO rfl rfl) ?_)))|(refine rg 16 (dS rfl (vV (bU rfl rfl (by omega) (by omega)) (vV (iK vI pM rfl hw1) (vV (by exact hP ▸ rU rfl rfl (by decide) (by decide)) ?_))));refine vV (iK pM vI rfl hw2) (aV ?_))|(refine cM (id := 17) 220 zR3 (rM 92 12) zR4 dA rfl (by decide +kernel) (dN rfl (dN rfl (dN rfl (dV rfl (by exact aM T rfl rfl rfl rfl rfl (by omega) (by omega)) ?_))));refine dV rfl (by exact aX T rfl rfl (bJ rfl q1) rfl) ?_;refine dN rfl (dN rfl (dV rfl (by exact aM T rfl rfl rfl rfl rfl (by omega) (by omega)) ?_));refine dV rfl (by exact aX T rfl rfl (bJ rfl q2) rfl) ?_;refine dV rfl (kC (hc)) (dV rfl (aO rfl rfl) (dV rfl (eD rfl) (dE ?_))))|(refine iA 18 rfl rfl rfl (by omega) (by omega) ?_)|refine nZ ?_));all_goals first | (exfalso;omega) | skip
      exact ⟨⟨(q + 1,j),by dsimp only;exact ⟨by omega,by omega,by omega,fun z' _ hz' => by rw [show q + 1 - a - 1 = q - a by omega,hz] at hz';cases hz';omega,h5⟩⟩,by dsimp only;omega,⟨[0],rfl,by (repeat (first | exact trivial | refine ⟨rfl,?_⟩)),⟨.inr (aE rfl rfl (bG _)),trivial⟩,by decide,kU⟩⟩
  · obtain rfl : i = j := by omega
    have hmg := zB7 (v := v) (i := i - a) (by omega) hU h4 h5
    (repeat' (first|refine wS ?_|refine wB ?_|refine wE ?_|(refine wC rfl ?_ ?_<;>(intro hb;(try simp only [nm] at hb);try (exfalso;omega)))|(refine rg 15 (dS rfl (vV (aO rfl rfl) ?_)))|(refine rg 20 (mW rfl (aV ?_)))|refine nZ ?_));all_goals first | (exfalso;omega) | skip
    refine dB (X := {t : Nat // i - a ≤ t ∧ t ≤ U.length}) (fun t => [(0,.sl 0 0 N 3),(14,.i i),(17,.i ((a + t.1 : Nat) : Int))]) (fun t => [.arr (fL (E5 P U v R t.1)) 3]) (fun t => t.1) ⟨U.length,by omega⟩ ⟨[0],rfl,⟨rfl,rfl,by dsimp only;rw [← hm];rfl,trivial⟩,⟨.inr (aE rfl (by dsimp only;unfold E5;simp) (bG _)),trivial⟩,by decide,kU⟩ ?_
    rintro ⟨t,ht,ht2⟩;dsimp only;by_cases hlt : i - a < t
    · obtain ⟨t,rfl⟩ : ∃ t',t = t' + 1 := ⟨t - 1,by omega⟩
      obtain ⟨y,_,_,_,_,p1,p2,p3,p4⟩ := DR (P := P) (u := v) (R := R) (show t < U.length by omega)
      have q1 := oG (j := ((a + (t + 1) : Nat) : Int)) p1 (by omega)
      have q2 := oG (j := ((a + (t + 1) : Nat) : Int) - 1) p2 (by omega)
      have t1 := tW (L := E5 P U v R (t + 1)) (j := ((a + (t + 1) : Nat) : Int)) (i := P.length + t + 1) (x := y) (by omega)
      have q3 := oG (j := ((a + (t + 1) : Nat) : Int) - 1) p3 (by omega)
      have t2 := tW (L := (E5 P U v R (t + 1)).set (P.length + t + 1) y) (j := ((a + (t + 1) : Nat) : Int) - 1) (i := P.length + t) (x := v) (by omega)
      rw [← t1] at q3 t2;rw [p4] at t2;have hJ : ((a + (t + 1) : Nat) : Int) - 1 = ((a + t : Nat) : Int) := by omega
      have hJ1 : ((a + (t + 1) : Nat) : Int) > (i : Int) := by omega
      have hJ2 : 1 ≤ ((a + (t + 1) : Nat) : Int) := by omega
      have hJ3 : ((a + (t + 1) : Nat) : Int) < N := by omega
      clear p1 p2 p3 p4 t1;generalize ((a + (t + 1) : Nat) : Int) = J at *;generalize E5 P U v R (t + 1) = L at *
      (repeat' (first|refine wS ?_|refine wB ?_|refine wK ?_|(refine wC rfl ?_ ?_<;>(intro hb;(try simp only [nm] at hb);try (exfalso;omega)))|(refine rg 21 (dS rfl (vV (fP rfl rfl) ?_)))|(refine mX (id := 23) 220 zQ9 (rM 113 15) [[],[113],[113,114],[113,114,115],[113,114,115],rM 113 5,rM 113 6,rM 113 6,rM 113 5,rM 113 5,rM 113 10,rM 113 11,rM 113 10,rM 113 10,[115,116,117],[115,116,117]] [(15,0)] dA rfl (by decide +kernel) (cH rfl rfl rfl rfl (by exact bW rfl) ?_);refine cH rfl rfl rfl rfl (by exact bW rfl) ?_;refine cH rfl rfl rfl rfl (by exact bW rfl) ?_;refine cH rfl rfl rfl rfl (by exact bW rfl) ?_;refine cH rfl rfl rfl rfl (by exact cQ rfl rfl (by omega) (by omega)) ?_;refine cH rfl rfl rfl rfl (by exact bW rfl) ?_;refine cH rfl rfl rfl rfl (by exact bW rfl) ?_;refine cH rfl rfl rfl rfl (by exact cQ rfl rfl (by omega) (by omega)) ?_;refine cH rfl rfl rfl rfl (by exact aM T rfl rfl rfl rfl rfl (by omega) (by omega)) ?_;refine cH rfl rfl rfl rfl (by exact aX T rfl rfl (bJ rfl q2) rfl) ?_;refine cH rfl rfl rfl rfl (by exact bW rfl) ?_;refine cH rfl rfl rfl rfl (by exact bW rfl) ?_;refine cH rfl rfl rfl rfl (by exact aM T rfl rfl rfl rfl rfl (by omega) (by omega)) ?_;refine cH rfl rfl rfl rfl (by exact aX T rfl rfl (bJ rfl q1) rfl) ?_;refine cH rfl rfl rfl rfl (by exact aM T rfl rfl rfl rfl rfl (by omega) (by omega)) ?_;refine uM rfl rfl rfl rfl (aP rfl) T rfl rfl rfl rfl rfl rfl (by decide) (tZ rfl q1 rfl) ?_;refine qF rfl rfl rfl (by exact rfl) ?_;refine vV (by exact aM T rfl rfl rfl rfl rfl (by omega) (by omega)) ?_;refine aU T rfl rfl rfl rfl rfl rfl (by decide) (mA rfl q3 rfl) ?_)|(refine rg 22 (mW rfl (vV (cQ rfl rfl (by omega) (by omega)) (aV ?_))))|refine nZ ?_));all_goals first | (exfalso;omega) | skip
      exact ⟨⟨t,by omega⟩,by dsimp only;omega,⟨[0],rfl,⟨rfl,rfl,by dsimp only;rw [← hJ];try rfl,trivial⟩,⟨.inr (aE rfl (by dsimp only;rw [← t2];try rfl) (bG _)),trivial⟩,by decide,kU⟩⟩
    · obtain rfl : t = i - a := by omega
      have ee : E5 P U v R (i - a) = P ++ (dR eE (U ++ [v]) ++ R) := by rw [hmg];unfold E5;simp
      have hJ1 : ¬ ((a + (i - a) : Nat) : Int) > (i : Int) := by omega
      generalize ((a + (i - a) : Nat) : Int) = J at *
      (repeat' (first|refine wS ?_|refine wR ?_|refine wE ?_|(refine wC rfl ?_ ?_<;>(intro hb;(try simp only [nm] at hb);try (exfalso;omega)))|(refine rg 21 (dS rfl (vV (fP rfl rfl) ?_)))|refine nZ ?_));all_goals first | (exfalso;omega) | exact ⟨.inl rfl,[0],_,rfl,rfl,rfl,⟨.inr (aE rfl (by rw [ee]) (bG _)),trivial⟩,by decide,kU⟩ | exact ⟨.inr rfl,[0],_,rfl,rfl,rfl,⟨.inr (aE rfl (by rw [ee]) (bG _)),trivial⟩,by decide,kU⟩
end Go.Proofs.YtmmkhmilpeodnaaGreat
namespace Go.Ab
open Go
set_option maxHeartbeats 1000000
theorem oR {z : Array Value} {zs : List Value} (hz : z.toList = zs) (hn : zs ≠ []) (m : Nat) : (∀ v,v ∈ (Builtin.zeroCells z m).toList → v ∈ zs) ∧ (Builtin.zeroCells z m).toList.length = m * zs.length := by
  subst hz;have h0 : 0 < z.size := by
    rcases E1 z.size with h | h
    · exact absurd (by simpa using Array.size_eq_zero_iff.1 h) hn
    · exact h
  unfold Builtin.zeroCells;constructor
  · intro v hv;simp only [bI,Array.toList_ofFn,List.mem_ofFn,Array.toList_map,Array.toList_range] at hv;rcases hv with ⟨i,hi⟩
    first
      | (have hlt := Nat.mod_lt i.1 h0;rw [getElem!_pos z _ hlt] at hi;rw [← hi];exact Array.mem_toList_iff.2 (Array.getElem_mem _))
      | (have hlt := Nat.mod_lt i h0;rw [getElem!_pos z _ hlt] at hi;rw [← hi.2];exact Array.mem_toList_iff.2 (Array.getElem_mem _))
  · simp
section
variable {P : Program} {env : dQ} {h : Hp} {n : Nat × Nat} {ops : Array Oper} {rest : List Oper} {K : dQ → Hp → Prop} {ty : TypeId} {pos : String} {af : Array Edge}
theorem E8 (T : oO P) {t e k off len sz : Nat} {i : TI} {x : Operand} {es : List (List AV)} (hx : evu env x = some (.sl k off len sz)) (ht : T.elem t = some e) (he : T.ti e = some i) (hz : i.zero.length = sz ∧ i.zero.all Value.oneCell' = true ∧ 0 < sz) (hkk : h[k]? = some (.arr es sz)) (hle : off + len ≤ es.length)
    (hk : VC P n ops rest env (h.set k (.arr (es.take off) sz)) K) : VC P n ops (⟨none,.call { callee := .builtin .clear,args := #[x],argTypes := #[t] },ty,pos,af,none⟩ :: rest) env h K := by
  intro c ρ S a w Q s hQ;refine wpList_plain rfl fun K' hK' => ?_
  have p := s.pre;have hxv := p.evu hx;simp only [R] at hxv;obtain ⟨ad,cap,hev,_,hxv⟩ := hxv;obtain ⟨inf,z,t1,t2,t3,t4,t5,t6,t7⟩ := T.tiOk e i he;have hund : P.underlying t = some (.slice e) := T.elemOk _ _ ht;have hzv : ∀ w,(zeroValue e).run P w = .ok z w := fun w => by simp [zeroValue,typeInfo,t1,t4]
  obtain ⟨hz1,hz2,hz3⟩ := hz;have hzc := oR (z := z.cells) t5 (fun h0 => by rw [h0] at hz1;simp at hz1;omega)
  have ev1 : ∀ r w',(Builtin.clear_ #[t] ty #[a.eval x]).run P w = .ok r w' → (execOp a.eval ⟨none,.call { callee := .builtin .clear,args := #[x],argTypes := #[t] },ty,pos,af,none⟩).run P w = .ok (.value r) w' := fun r w' hr => by
    simp [execOp,resolve,invoke,builtin,hr]
  have fin : ∀ {r : Value} {w' : World},(Builtin.clear_ #[t] ty #[a.eval x]).run P w = .ok r w' → HS c ρ S (h.set k (.arr (es.take off) sz)) w' ∧ gY ρ ρ S S w w' → Oper.wp P ⟨none,.call { callee := .builtin .clear,args := #[x],argTypes := #[t] },ty,pos,af,none⟩ a w K' Q := fun {r w'} hr ⟨g1,g2⟩ => by
    unfold Oper.wp;rw [ev1 r w' hr];exact hK' _ _ (hk c ρ S _ _ Q ⟨by rw [lP];exact s.size,by rw [jO];exact s.defers.later g2,fun tt uu huu => (s.env tt uu huu).later g2,g1,s.cm⟩ hQ)
  have stay : HS c ρ S (h.set k (.arr (es.take off) sz)) w ∧ gY ρ ρ S S w w := ⟨s.hs.alter hkk (DC off) (by simp),⟨fun _ _ h => h,fun _ h => h,fun _ _ => rfl,fun _ _ _ _ _ h => h⟩⟩
  cases len with
  | zero =>
    refine fin (r := .tuple #[]) ?_ stay;rw [hev];cases ad <;> simp [Builtin.clear_,run_underlying hund]
  | succ m =>
    rcases hxv with ⟨h0,_⟩ | ⟨b,o,hp,ha,hlc,hroom⟩
    · cases h0
    · have hB := p.blk k _ hkk;obtain ⟨hes,hs0,hB⟩ := hB;rcases hB with hB | ⟨b',o',ys,h4,⟨cc,ct,h5,h6⟩,h7⟩
      · obtain ⟨hB,_⟩ := hB;subst hB;simp at hle
      rw [hp] at h4;cases h4;have hyl := fG h7;have hfl := eT hes;have hmul : (off + (m + 1)) * sz ≤ es.length * sz := gO _ hle;rw [eB] at hmul;have hpos : 0 < (m + 1) * sz := Nat.mul_pos (by omega) hz3
      have hlast := h6 (ys.length - 1) (ys[ys.length - 1]'(by omega)) (aA _)
      have hsz := (aI.1 hlast).1;obtain ⟨hzm,hzl⟩ := hzc (m + 1);rw [hz1] at hzl;generalize hZ : (Builtin.zeroCells z.cells (m + 1)).toList = Z at *;have hst := run_storeCells_at P b (o + off * sz) ct Z 0 cc w h5 (by rw [hzl];omega) (by intro v hv;exact (bA.1 hz2) v (hzm v hv))
      subst ha;refine fin (r := .tuple #[]) (w' := w.setRow b (cc.toList.take (o + off * sz + 0) ++ Z ++ cc.toList.drop (o + off * sz + 0 + Z.length)).toArray) ?_ (s.hs.upd hkk (by simp) hp (pJ h5 ?_) fun l => ?_)
      · rw [hev];simp only [Builtin.clear_];simp [run_underlying hund,hzv,hZ,hst]
      · simp;omega
      · refine ⟨fun e he => hes e (fB he),hz3,.inr ⟨b,o,ys.take (off * sz),rfl,⟨_,ct,setRow_heap w b cc _ ct _ h5,fun j y hj => ?_⟩,?_⟩⟩
        · rw [bR] at hj;split at hj
          · rename_i hjo;have := h6 j y hj;have hjl := (aI.1 this).1;rw [hC,bH,aG (by simp;omega),bR,if_pos (by omega)]
            simpa using this
          · cases hj
        · rw [xQ hes];exact pL (h7.later l) _
end
end Go.Ab
