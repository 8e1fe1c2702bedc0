/-
  Texts of the logic and of the layer,in one module (part 7).
-/
import Derived.Test.YtmmkhmilpeodnaaGreatK6
set_option linter.unusedVariables false
set_option linter.unusedSimpArgs false
set_option linter.unnecessarySimpa false
namespace Go.Ld
open Go.Ab Go.Proofs.YtmmkhmilpeodnaaGreat
theorem YX (l : List Int) (n : Int) : YY l n = CU l n := by
  by_cases h : ∀ i,i < l.length → L3 l n i
  · rw [T7 h];unfold YY;exact bA.2 fun i hi => decide_eq_true (h i (eN.1 hi))
  · obtain ⟨i,hi⟩ := Classical.not_forall.1 h;obtain ⟨hi,ho⟩ := Classical.not_forall.1 hi;rw [CT hi ho];unfold YY;unfold L3 at ho;exact VE.2 ⟨i,eN.2 hi,fun q => ho (of_decide_eq_true q)⟩
theorem YN {p q : Prop} [Decidable p] [Decidable q] : decide (p ∧ q) = (decide p && decide q) := by simp
theorem pM (n k a b m : Int) (ids : List Int) : jE n ⟨k,a,b,m,ids⟩ = (iI a 0 (n - 1) && decide (k = 0 ∨ ids.length = 0) && decide (k = 4 ∨ b = 0) && (if k = 0 then decide (m = 0) && CU ids n else if k = 1 ∨ k = 2 ∨ k = 3 then iI m 0 1099511627776 else if k = 4 then decide (m = 0) && iI b (a + 1) (n - 1) else if k = 5 then iI m 0 (n - 1) else false)) := by
  unfold jE iI;simp only [YN,YX]
end Go.Ld
namespace Go.Proofs.YtmmkhmilpeodnaaGreat
open Go Go.Ab Go.Ld
attribute [local irreducible] VC AW cF aR
set_option maxHeartbeats 4000000
theorem EI (n k a b m : Int) (ids : List Int) (hl : ids.length ≤ 9223372036854775807) (hn : 0 ≤ n ∧ n ≤ 1000) :
    aR Tryz.prog 28 [.i n,nK k a b m ids] [] (.b (jE n ⟨k,a,b,m,ids⟩)) [] := by
  have hil : (ints ids).length = ids.length := by simp
  have ca := nP a 0 (n - 1);have cs := AI ids n hl hn;cases hA : iI a 0 (n - 1)
  · rw [hA] at ca;have e : jE n ⟨k,a,b,m,ids⟩ = (false) := by rw [pM];first | (rw [hA];rfl) | (rw [hAb];rcases h1 with h | h;(rw [decide_eq_false (by omega : ¬ (k = 0 ∨ ids.length = 0))];simp);(rw [decide_eq_false (by omega : ¬ (k = 4 ∨ b = 0))];simp)) | (rw [hAb,decide_eq_true hid,decide_eq_true hbz];simp only [iV];first | rw [if_pos k0] | rw [if_neg k0,if_pos k1] | rw [if_neg k0,if_neg k1,if_pos k4] | rw [if_neg k0,if_neg k1,if_neg k4,if_pos k5] | rw [if_neg k0,if_neg k1,if_neg k4,if_neg k5])
    rw [e];refine bQ T Tryz.func28 rfl rfl rfl rfl ?_
    (repeat' (first|refine wS ?_|refine wR ?_|refine wT ?_|(refine rg 0 (bS (cE rfl rfl) rfl (aV ?_)))|(refine rg 1 (iL T rfl (mW rfl (vV (cM rfl rfl (by omega) (by omega)) (vV (kC (ca)) (vV (dH rfl) (mV ?_))))));(iterate 4 refine gF ?_);(iterate 4 refine gU ?_);refine gF (pW rfl (mV ?_));(iterate 4 refine gF ?_);(iterate 3 refine gU ?_);refine gF (pV ?_))|(refine rg 2 (aV ?_))|refine nZ ?_));exact rQ
  · rw [hA] at ca;have hAb := hA;simp only [iI,aL,decide_eq_true_eq] at hA;by_cases h1 : k ≠ 0 ∧ 0 < ids.length ∨ k ≠ 4 ∧ b ≠ 0
    · have e : jE n ⟨k,a,b,m,ids⟩ = (false) := by rw [pM];first | (rw [hA];rfl) | (rw [hAb];rcases h1 with h | h;(rw [decide_eq_false (by omega : ¬ (k = 0 ∨ ids.length = 0))];simp);(rw [decide_eq_false (by omega : ¬ (k = 4 ∨ b = 0))];simp)) | (rw [hAb,decide_eq_true hid,decide_eq_true hbz];simp only [iV];first | rw [if_pos k0] | rw [if_neg k0,if_pos k1] | rw [if_neg k0,if_neg k1,if_pos k4] | rw [if_neg k0,if_neg k1,if_neg k4,if_pos k5] | rw [if_neg k0,if_neg k1,if_neg k4,if_neg k5])
      rw [e];refine bQ T Tryz.func28 rfl rfl rfl rfl ?_
      (repeat' (first|refine wS ?_|refine wR ?_|refine wT ?_|(refine wC rfl ?_ ?_<;>(intro hb;(try simp only [nm] at hb);try (exfalso;omega)))|(refine rg 0 (bS (cE rfl rfl) rfl (aV ?_)))|(refine rg 1 (iL T rfl (mW rfl (vV (cM rfl rfl (by omega) (by omega)) (vV (kC (ca)) (vV (dH rfl) (mW rfl (yP T rfl (yO T rfl (yV (fI rfl rfl) ?_)))))))));refine yM ?_;refine cN rfl rfl ?_ ?_<;>(intro hb;rw [hb];(try simp only [nm] at hb);try (exfalso;omega));(all_goals first|(refine gT (fW T rfl (gT (lW T rfl (gT (qW T rfl (gT (vV (fT rfl rfl) ?_))))))))|(iterate 4 refine gF ?_));(all_goals (refine gT (pW rfl (pW rfl (mV ?_)))));(all_goals first|(refine gK ?_)|(refine cN rfl rfl ?_ ?_<;>(intro hb;rw [hb];(try simp only [nm] at hb);try (exfalso;omega))));(all_goals first|(refine gT (fW T rfl (gT (lW T rfl (gT (vV (fI rfl rfl) (gT (mV ?_))))))))|(iterate 4 refine gF ?_));(all_goals first|(refine gK ?_)|(refine cN rfl rfl ?_ ?_<;>(intro hb;rw [hb];(try simp only [nm] at hb);try (exfalso;omega))));(all_goals first|(refine gT (fW T rfl (gT (lW T rfl (gT (vV (fI rfl rfl) ?_))))))|(iterate 3 refine gU ?_));(all_goals first|(refine gT (pV ?_))|(refine gF ?_));(all_goals (refine pV ?_)))|(refine rg 2 (aV ?_))|refine nZ ?_));all_goals exact rQ
    · have hid : k = 0 ∨ ids.length = 0 := by omega
      have hbz : k = 4 ∨ b = 0 := by omega
      by_cases k0 : k = 0
      · have e : jE n ⟨k,a,b,m,ids⟩ = (decide (m = 0) && CU ids n) := by rw [pM];first | (rw [hA];rfl) | (rw [hAb];rcases h1 with h | h;(rw [decide_eq_false (by omega : ¬ (k = 0 ∨ ids.length = 0))];simp);(rw [decide_eq_false (by omega : ¬ (k = 4 ∨ b = 0))];simp)) | (rw [hAb,decide_eq_true hid,decide_eq_true hbz];simp only [iV];first | rw [if_pos k0] | rw [if_neg k0,if_pos k1] | rw [if_neg k0,if_neg k1,if_pos k4] | rw [if_neg k0,if_neg k1,if_neg k4,if_pos k5] | rw [if_neg k0,if_neg k1,if_neg k4,if_neg k5])
        rw [e];refine bQ T Tryz.func28 rfl rfl rfl rfl ?_
        (repeat' (first|refine wS ?_|refine wB ?_|refine wK ?_|refine wR ?_|(refine wC rfl ?_ ?_<;>(intro hb;(try simp only [nm] at hb);try (exfalso;omega)))|(refine rg 0 (bS (cE rfl rfl) rfl (aV ?_)))|(refine rg 1 (iL T rfl (mW rfl (vV (cM rfl rfl (by omega) (by omega)) (vV (kC (ca)) (vV (dH rfl) (mW rfl (yP T rfl (yO T rfl (yV (fI rfl rfl) ?_)))))))));refine yM ?_;refine cN rfl rfl ?_ ?_<;>(intro hb;rw [hb];(try simp only [nm] at hb);try (exfalso;omega));(all_goals ((iterate 4 refine gF ?_);refine gT (pW rfl (pW rfl (mW rfl (yP T rfl (yO T rfl (yV (fI rfl rfl) (yM ?_)))))));refine cN rfl rfl ?_ ?_<;>(intro hb;rw [hb];(try simp only [nm] at hb);try (exfalso;omega))));(all_goals (refine yP T rfl (yO T rfl (yV (fI rfl rfl) (gT (pW rfl (pV ?_))))))))|(refine rg 3 (OB T ?_))|(refine rg 4 (vV (dJ rfl rfl) (aV ?_)))|(refine rg 5 (iL T rfl (vV (dJ rfl rfl) (mV ?_)));refine cN rfl rfl ?_ ?_<;>(intro hb;rw [hb];(try simp only [nm] at hb);try (exfalso;omega));(all_goals first|(refine gT (fW T rfl (gT (lW T rfl (gT (mW rfl (gT (vV (kC (cs)) ?_))))))))|(iterate 4 refine gF ?_));(all_goals (refine pW rfl (aV ?_))))|refine nZ ?_));all_goals first | (exfalso;omega) | (refine cY (.inl rfl) rfl (mI ?_);simp [*])
      · by_cases k1 : k = 1 ∨ k = 2 ∨ k = 3
        · have e : jE n ⟨k,a,b,m,ids⟩ = (iI m 0 1099511627776) := by rw [pM];first | (rw [hA];rfl) | (rw [hAb];rcases h1 with h | h;(rw [decide_eq_false (by omega : ¬ (k = 0 ∨ ids.length = 0))];simp);(rw [decide_eq_false (by omega : ¬ (k = 4 ∨ b = 0))];simp)) | (rw [hAb,decide_eq_true hid,decide_eq_true hbz];simp only [iV];first | rw [if_pos k0] | rw [if_neg k0,if_pos k1] | rw [if_neg k0,if_neg k1,if_pos k4] | rw [if_neg k0,if_neg k1,if_neg k4,if_pos k5] | rw [if_neg k0,if_neg k1,if_neg k4,if_neg k5])
          rw [e];refine bQ T Tryz.func28 rfl rfl rfl rfl ?_
          (repeat' (first|refine wS ?_|refine wB ?_|refine wK ?_|refine wR ?_|(refine wC rfl ?_ ?_<;>(intro hb;(try simp only [nm] at hb);try (exfalso;omega)))|(refine rg 0 (bS (cE rfl rfl) rfl (aV ?_)))|(refine rg 1 (iL T rfl (mW rfl (vV (cM rfl rfl (by omega) (by omega)) (vV (kC (ca)) (vV (dH rfl) (mW rfl (yP T rfl (yO T rfl (yV (fI rfl rfl) ?_)))))))));refine yM ?_;refine cN rfl rfl ?_ ?_<;>(intro hb;rw [hb];(try simp only [nm] at hb);try (exfalso;omega));(all_goals (refine yP T rfl (yO T rfl (gT (qW T rfl (yV (fT rfl rfl) (gT (pW rfl (pW rfl (mV ?_))))))));refine cN rfl rfl ?_ ?_<;>(intro hb;rw [hb];(try simp only [nm] at hb);try (exfalso;omega))));(all_goals (refine yP T rfl (yO T rfl (yV (fI rfl rfl) (yM ?_)));refine cN rfl rfl ?_ ?_<;>(intro hb;rw [hb];(try simp only [nm] at hb);try (exfalso;omega))));(all_goals (refine yP T rfl (yO T rfl (yV (fI rfl rfl) (gT (pW rfl (pV ?_))))))))|(refine rg 3 (OB T ?_))|(refine rg 4 (vV (dJ rfl rfl) (aV ?_)))|(refine rg 6 (vV (dJ rfl rfl) (aV ?_)))|(refine rg 7 (vV (dJ rfl rfl) (aV ?_)))|(refine rg 8 (vV (dJ rfl rfl) (aV ?_)))|(refine rg 9 (iL T rfl (vV (by exact eO rfl rfl (nP _ _ _) rfl rfl rfl) ?_));refine aV ?_)|refine nZ ?_));all_goals first | (exfalso;omega) | exact rQ
        · by_cases k4 : k = 4
          · have e : jE n ⟨k,a,b,m,ids⟩ = (decide (m = 0) && iI b (a + 1) (n - 1)) := by rw [pM];first | (rw [hA];rfl) | (rw [hAb];rcases h1 with h | h;(rw [decide_eq_false (by omega : ¬ (k = 0 ∨ ids.length = 0))];simp);(rw [decide_eq_false (by omega : ¬ (k = 4 ∨ b = 0))];simp)) | (rw [hAb,decide_eq_true hid,decide_eq_true hbz];simp only [iV];first | rw [if_pos k0] | rw [if_neg k0,if_pos k1] | rw [if_neg k0,if_neg k1,if_pos k4] | rw [if_neg k0,if_neg k1,if_neg k4,if_pos k5] | rw [if_neg k0,if_neg k1,if_neg k4,if_neg k5])
            rw [e];refine bQ T Tryz.func28 rfl rfl rfl rfl ?_
            (repeat' (first|refine wS ?_|refine wB ?_|refine wK ?_|refine wR ?_|refine wU ?_|(refine wC rfl ?_ ?_<;>(intro hb;(try simp only [nm] at hb);try (exfalso;omega)))|(refine rg 0 (bS (cE rfl rfl) rfl (aV ?_)))|(refine rg 1 (iL T rfl (mW rfl (vV (cM rfl rfl (by omega) (by omega)) (vV (kC (ca)) (vV (dH rfl) (mW rfl (yP T rfl (yO T rfl (yV (fI rfl rfl) ?_)))))))));refine yM ?_;refine cN rfl rfl ?_ ?_<;>(intro hb;rw [hb];(try simp only [nm] at hb);try (exfalso;omega));(all_goals (refine yP T rfl (yO T rfl (gT (qW T rfl (yV (fT rfl rfl) (gT (pW rfl (pW rfl (mV ?_))))))));refine cN rfl rfl ?_ ?_<;>(intro hb;rw [hb];(try simp only [nm] at hb);try (exfalso;omega))));(all_goals (refine yP T rfl (yO T rfl (yV (fI rfl rfl) (yM ?_)));refine cN rfl rfl ?_ ?_<;>(intro hb;rw [hb];(try simp only [nm] at hb);try (exfalso;omega))));(all_goals ((iterate 3 refine gF ?_);refine gT (pW rfl (pV ?_)))))|(refine rg 3 (OB T ?_))|(refine rg 4 (vV (dJ rfl rfl) (aV ?_)))|(refine rg 6 (vV (dJ rfl rfl) (aV ?_)))|(refine rg 7 (vV (dJ rfl rfl) (aV ?_)))|(refine rg 8 (vV (dJ rfl rfl) (aV ?_)))|(refine rg 10 (vV (dJ rfl rfl) (aV ?_)))|(refine rg 11 (iL T rfl (vV (dJ rfl rfl) (mV ?_)));refine cN rfl rfl ?_ ?_<;>(intro hb;rw [hb];(try simp only [nm] at hb);try (exfalso;omega));(all_goals first|(refine gT (fW T rfl (gT (lW T rfl (gT (fW T rfl (gT (lW T rfl (gT (vV (bT rfl rfl (by omega) (by omega)) ?_)))))))));refine gT (mW rfl (gT (vV (cM rfl rfl (by omega) (by omega)) (gT (vV (by exact eO rfl rfl (nP _ _ _) rfl rfl rfl) ?_))))))|(iterate 8 refine gF ?_));(all_goals (refine pW rfl (aV ?_))))|refine nZ ?_));all_goals first | (exfalso;omega) | (refine cY (.inl rfl) rfl (mI ?_);simp [*])
          · by_cases k5 : k = 5
            · have e : jE n ⟨k,a,b,m,ids⟩ = (iI m 0 (n - 1)) := by rw [pM];first | (rw [hA];rfl) | (rw [hAb];rcases h1 with h | h;(rw [decide_eq_false (by omega : ¬ (k = 0 ∨ ids.length = 0))];simp);(rw [decide_eq_false (by omega : ¬ (k = 4 ∨ b = 0))];simp)) | (rw [hAb,decide_eq_true hid,decide_eq_true hbz];simp only [iV];first | rw [if_pos k0] | rw [if_neg k0,if_pos k1] | rw [if_neg k0,if_neg k1,if_pos k4] | rw [if_neg k0,if_neg k1,if_neg k4,if_pos k5] | rw [if_neg k0,if_neg k1,if_neg k4,if_neg k5])
              rw [e];refine bQ T Tryz.func28 rfl rfl rfl rfl ?_
              (repeat' (first|refine wS ?_|refine wB ?_|refine wK ?_|refine wR ?_|(refine wC rfl ?_ ?_<;>(intro hb;(try simp only [nm] at hb);try (exfalso;omega)))|(refine rg 0 (bS (cE rfl rfl) rfl (aV ?_)))|(refine rg 1 (iL T rfl (mW rfl (vV (cM rfl rfl (by omega) (by omega)) (vV (kC (ca)) (vV (dH rfl) (mW rfl (yP T rfl (yO T rfl (yV (fI rfl rfl) ?_)))))))));refine yM ?_;refine cN rfl rfl ?_ ?_<;>(intro hb;rw [hb];(try simp only [nm] at hb);try (exfalso;omega));(all_goals (refine yP T rfl (yO T rfl (gT (qW T rfl (yV (fT rfl rfl) (gT (pW rfl (pW rfl (mV ?_))))))));refine cN rfl rfl ?_ ?_<;>(intro hb;rw [hb];(try simp only [nm] at hb);try (exfalso;omega))));(all_goals (refine yP T rfl (yO T rfl (yV (fI rfl rfl) (yM ?_)));refine cN rfl rfl ?_ ?_<;>(intro hb;rw [hb];(try simp only [nm] at hb);try (exfalso;omega))));(all_goals (refine yP T rfl (yO T rfl (yV (fI rfl rfl) (gT (pW rfl (pV ?_))))))))|(refine rg 3 (OB T ?_))|(refine rg 4 (vV (dJ rfl rfl) (aV ?_)))|(refine rg 6 (vV (dJ rfl rfl) (aV ?_)))|(refine rg 7 (vV (dJ rfl rfl) (aV ?_)))|(refine rg 8 (vV (dJ rfl rfl) (aV ?_)))|(refine rg 10 (vV (dJ rfl rfl) (aV ?_)))|(refine rg 12 (vV (dJ rfl rfl) (aV ?_)))|(refine rg 13 (iL T rfl (mW rfl (vV (cM rfl rfl (by omega) (by omega)) (vV (by exact eO rfl rfl (nP _ _ _) rfl rfl rfl) ?_))));refine aV ?_)|refine nZ ?_));all_goals first | (exfalso;omega) | exact rQ
            · have e : jE n ⟨k,a,b,m,ids⟩ = (false) := by rw [pM];first | (rw [hA];rfl) | (rw [hAb];rcases h1 with h | h;(rw [decide_eq_false (by omega : ¬ (k = 0 ∨ ids.length = 0))];simp);(rw [decide_eq_false (by omega : ¬ (k = 4 ∨ b = 0))];simp)) | (rw [hAb,decide_eq_true hid,decide_eq_true hbz];simp only [iV];first | rw [if_pos k0] | rw [if_neg k0,if_pos k1] | rw [if_neg k0,if_neg k1,if_pos k4] | rw [if_neg k0,if_neg k1,if_neg k4,if_pos k5] | rw [if_neg k0,if_neg k1,if_neg k4,if_neg k5])
              rw [e];refine bQ T Tryz.func28 rfl rfl rfl rfl ?_
              (repeat' (first|refine wS ?_|refine wB ?_|refine wK ?_|refine wR ?_|(refine wC rfl ?_ ?_<;>(intro hb;(try simp only [nm] at hb);try (exfalso;omega)))|(refine rg 0 (bS (cE rfl rfl) rfl (aV ?_)))|(refine rg 1 (iL T rfl (mW rfl (vV (cM rfl rfl (by omega) (by omega)) (vV (kC (ca)) (vV (dH rfl) (mW rfl (yP T rfl (yO T rfl (yV (fI rfl rfl) ?_)))))))));refine yM ?_;refine cN rfl rfl ?_ ?_<;>(intro hb;rw [hb];(try simp only [nm] at hb);try (exfalso;omega));(all_goals (refine yP T rfl (yO T rfl (gT (qW T rfl (yV (fT rfl rfl) (gT (pW rfl (pW rfl (mV ?_))))))));refine cN rfl rfl ?_ ?_<;>(intro hb;rw [hb];(try simp only [nm] at hb);try (exfalso;omega))));(all_goals (refine yP T rfl (yO T rfl (yV (fI rfl rfl) (yM ?_)));refine cN rfl rfl ?_ ?_<;>(intro hb;rw [hb];(try simp only [nm] at hb);try (exfalso;omega))));(all_goals (refine yP T rfl (yO T rfl (yV (fI rfl rfl) (gT (pW rfl (pV ?_))))))))|(refine rg 3 (OB T ?_))|(refine rg 4 (vV (dJ rfl rfl) (aV ?_)))|(refine rg 6 (vV (dJ rfl rfl) (aV ?_)))|(refine rg 7 (vV (dJ rfl rfl) (aV ?_)))|(refine rg 8 (vV (dJ rfl rfl) (aV ?_)))|(refine rg 10 (vV (dJ rfl rfl) (aV ?_)))|(refine rg 12 (vV (dJ rfl rfl) (aV ?_)))|(refine rg 14 (aV ?_))|refine nZ ?_));all_goals first | (exfalso;omega) | exact rQ
end Go.Proofs.YtmmkhmilpeodnaaGreat
namespace Go.Ld
open Go.Ab Go.Proofs.YtmmkhmilpeodnaaGreat
theorem BP {l : List Int} (h : l ≠ []) : l.headD 0 ∈ l := by
  cases l with
  | nil => exact absurd rfl h
  | cons x l => exact aS
theorem SK {l : List Int} (h : l.Pairwise (· < ·)) {z : Int} (hz : z ∈ l) : l.headD 0 ≤ z := by
  cases l with
  | nil => cases hz
  | cons x l =>
    rcases bN.1 hz with rfl | hz
    · exact fG _
    · have := (eR.1 h).1 z hz;show x ≤ z;omega
theorem ZQ {a b : Int} : cI a b ≤ 0 ↔ a ≤ b := by unfold cI;split <;> (try split) <;> omega
theorem B2 {l : List G} : GQ l ↔ (l.map fun g => g.1.headD 0).Pairwise (fun a b => a ≤ b) := by
  rw [UY];exact ⟨fun h => h.imp fun {a b} h => ZQ.1 h,fun h => h.imp fun {a b} h => ZQ.2 h⟩
theorem JU {c : Cx} {M : Int} {gs P Q R : List G} {u v J : G} (h : nI c M gs) (e : gs = P ++ u :: (Q ++ v :: R)) (hM : 0 ≤ M) {M' : Int} (hMM : M ≤ M')
    (hp : J.1.Perm (u.1 ++ v.1)) (hJ : vR c.bs.length J) (hne : J.2 ≠ []) (hf : (gY J).1.Perm ((gY u).1 ++ (gY v).1)) (hm : ∀ w,w ∈ J.2 → w.2.1 ≤ M') (hl : J.2.length ≤ 1000) : nI c M' (P ++ J :: (Q ++ R)) := by
  have hmem : ∀ g,g ∈ P ++ J :: (Q ++ R) → g = J ∨ g ∈ gs := fun g hg => by
    subst e;simp only [bF,bN] at hg ⊢;rcases hg with hg | hg | hg | hg
    · exact .inr (.inl hg)
    · exact .inl hg
    · exact .inr (.inr (.inr (.inl hg)))
    · exact .inr (.inr (.inr (.inr (.inr hg))))
  have fl : ∀ F : G → List Int,(F J).Perm (F u ++ F v) → ((P ++ J :: (Q ++ R)).flatMap F).Perm (gs.flatMap F) := fun F hF => by
    subst e;simp only [fO,bE,bK];refine List.Perm.append_left _ ?_;refine (hF.append_right _).trans ?_;rw [bK];refine List.Perm.append_left _ ?_;rw [← bK,← bK];exact List.perm_append_comm.append_right _
  have cov := (fl (·.1) hp).trans h.cov;have hlen : (gs.flatMap (·.1)).length = ((P ++ J :: (Q ++ R)).flatMap (·.1)).length := (fl (·.1) hp).length_eq.symm;refine ⟨⟨fun g hg => ?_,(fl (·.1) hp).nodup_iff.2 h.out.nd,by rw [← hlen];exact h.out.ln,fun g hg => ?_⟩,?_,fun g hg => ?_,fun g hg => ?_,cov,(fl _ hf).trans h.idn,fun g hg => ?_⟩
  · rcases hmem g hg with rfl | hg
    · exact hJ
    · exact h.out.ok g hg
  · rcases hmem g hg with rfl | hg
    · omega
    · exact h.out.ws g hg
  · have hu : u ∈ gs := by subst e;simp
    have hv : v ∈ gs := by subst e;simp
    have hup := B2.1 h.up;have ou := h.out.ok u hu;have ov := h.out.ok v hv;have huv : u.1.headD 0 ≤ v.1.headD 0 := by
      subst e;simp only [dI,List.map_cons] at hup;exact (eR.1 (eU.1 hup).2.1).1 _ (by simp)
    have hh : J.1.headD 0 = u.1.headD 0 := by
      have h1 : J.1.headD 0 ≤ u.1.headD 0 := SK hJ.up (hp.mem_iff.2 (bF.2 (.inl (BP ou.ne))));have h2 : u.1.headD 0 ≤ J.1.headD 0 := by
        rcases bF.1 (hp.mem_iff.1 (BP hJ.ne)) with hq | hq
        · exact SK ou.up hq
        · have := SK ov.up hq;omega
      omega
    refine B2.2 (hup.sublist ?_);subst e;simp only [dI,List.map_cons,hh];refine List.Sublist.append_left (List.Sublist.cons_cons _ (List.Sublist.append_left (List.sublist_cons_self _ _) _)) _
  · rcases hmem g hg with rfl | hg
    · exact hne
    · exact h.ne g hg
  · rcases hmem g hg with rfl | hg
    · exact hm
    · exact fun w hw => A0 (h.ml g hg w hw) hMM
  · rcases hmem g hg with rfl | hg
    · exact hl
    · exact h.wl g hg
theorem RY {c : Cx} {gs all : List G} {a b : Int} (h : nI c c.m gs) (hm0 : 0 ≤ c.m) (hm1 : c.m ≤ 1048576) (ha : 0 ≤ a ∧ a < c.bs.length) (hb : 0 ≤ b ∧ b < c.bs.length) (e : join gs a b = some all) :
    nI c (2 * c.m) all ∧ ∃ g,g ∈ all ∧ a ∈ g.1 ∧ b ∈ g.1 := by
  obtain ⟨i,x,hi,hix,hax⟩ := kA (h.find ha);obtain ⟨k,y,hk,hky,hby⟩ := kA (h.find hb);have hx := aM hix;have hy := aM hky;unfold join at e;dsimp only at e;rw [hi,hk] at e;split at e
  · rename_i hik;obtain rfl : i = k := by omega
    cases e;have : x = y := by rw [hix] at hky;exact Option.some.inj hky
    subst this;exact ⟨⟨h.out,h.up,h.ne,fun g hg w hw => by have := h.ml g hg w hw;omega,h.cov,h.idn,h.wl⟩,x,hx,hax,hby⟩
  · rename_i hik;have hxy : x ≠ y := fun q => by
      subst q;have h1 := (aB.1 hix).2;have h2 := (aB.1 hky).2;have l1 := (aB.1 hix).1;have l2 := (aB.1 hky).1;have nd : (gs.map fun g => g.1.headD 0).Nodup := by
        have := h.out.nd;have aux : ∀ o : List G,(∀ g,g ∈ o → g.1 ≠ []) → (o.flatMap (·.1)).Nodup → (o.map fun g => g.1.headD 0).Nodup := by
          intro o
          induction o with
          | nil => intro _ _;exact dD
          | cons g o ih =>
            intro hg hn;rw [bE] at hn;obtain ⟨n1,n2,n3⟩ := cK.1 hn;rw [List.map_cons,fB];refine ⟨fun hc => ?_,ih (fun g h => hg g (aN _ h)) n2⟩;obtain ⟨g',hg',e'⟩ := bI.1 hc;exact n3 _ (BP (hg g aS)) _ (nW hg' (e' ▸ BP (hg g' (aN _ hg')))) rfl
        exact aux gs (fun g hg => (h.out.ok g hg).ne) this
      have e1 : (gs.map fun g => g.1.headD 0)[i]'(by simpa using l1) = (gs.map fun g => g.1.headD 0)[k]'(by simpa using l2) := by rw [lR,lR,h1,h2]
      have := (ZE nd).1 e1;omega
    have gi : mO gs ((i : Int)).toNat = x := by unfold mO;rw [aC];show (gs[i]?).getD _ = x;rw [hix];rfl
    have gk : mO gs ((k : Int)).toNat = y := by unfold mO;rw [aC];show (gs[k]?).getD _ = y;rw [hky];rfl
    rw [gi,gk] at e;split at e
    · cases e
    · rename_i hsz;have hln : x.1.length + y.1.length ≤ 6 := by omega
      have hwl : x.2.length * y.2.length ≤ 1000 := by omega
      cases e;have dj : ∀ (u v : G),u ∈ gs → v ∈ gs → u ≠ v → ∀ b,b ∈ u.1 → b ∉ v.1 := fun u v hu hv huv b h1 h2 => huv (M5 h.out.nd hu hv h1 h2);have ndi : (gs.flatMap fun g => (gY g).1).Nodup := h.idn.nodup_iff.2 (xO _);have ndi' : ((gs.map fun g => ((gY g).1,g.2)).flatMap (·.1)).Nodup := by rw [U5];exact ndi
      have jo : sY c.bs.length x y := by
        refine ⟨h.out.ok x hx,h.out.ok y hy,h.ne x hx,h.ne y hy,dj x y hx hy hxy,fun b h1 h2 => ?_,hln⟩
        have l1 := (aB.1 hix).1;have l2 := (aB.1 hky).1;rcases kE (show i ≠ k by omega) with hlt | hlt
        · obtain ⟨P,Q,R,e1,-⟩ := oK x hlt hix hky;rw [e1] at ndi;simp only [fO,bE] at ndi;exact (cK.1 (cK.1 ndi).2.1).2.2 b h1 b (by simp [h2]) rfl
        · obtain ⟨P,Q,R,e1,-⟩ := oK y hlt hky hix;rw [e1] at ndi;simp only [fO,bE] at ndi;exact (cK.1 (cK.1 ndi).2.1).2.2 b h2 b (by simp [h1]) rfl
      have hJ := jo.ok (h.ml x hx) (h.ml y hy) (by omega)
      have hJn := RZ (h.ne x hx) (h.ne y hy);have hJf := jo.same (iP hJn);have hJm : ∀ w,w ∈ (mB x y).2 → w.2.1 ≤ 2 * c.m := fun w hw => by
        obtain ⟨u,v,hu,hv,rfl⟩ := xQ hw;have := h.ml x hx u hu;have := h.ml y hy v hv;show u.2.1 + v.2.1 ≤ _;omega
      have hJp := lL x y;have hJl : (mB x y).2.length ≤ 1000 := by rw [NM];exact hwl
      have hJa : a ∈ (mB x y).1 := hJp.mem_iff.2 (bF.2 (.inl hax));have hJb : b ∈ (mB x y).1 := hJp.mem_iff.2 (bF.2 (.inr hby));generalize mB x y = J at *;rcases kE (show i ≠ k by omega) with hlt | hlt
      · obtain ⟨P,Q,R,e1,e2⟩ := oK J hlt hix hky;rw [show (min (i : Int) (k : Int)).toNat = i by omega,show (max (i : Int) (k : Int)).toNat = k by omega,e2]
        exact ⟨JU h e1 hm0 (by omega) hJp hJ hJn hJf hJm hJl,J,by simp,hJa,hJb⟩
      · obtain ⟨P,Q,R,e1,e2⟩ := oK J hlt hky hix;rw [show (min (i : Int) (k : Int)).toNat = k by omega,show (max (i : Int) (k : Int)).toNat = i by omega,e2]
        exact ⟨JU h e1 hm0 (by omega) (hJp.trans vK) hJ hJn (hJf.trans vK) hJm hJl,J,by simp,hJa,hJb⟩
theorem LH {f t : Int} (h : (D9 f t).2 = true) : HE (D9 f t).1 := by
  have := S9 f t;unfold D9 at h ⊢;unfold HE;dsimp only at h ⊢;rcases this with ⟨h1,h2,h3,h4⟩ | ⟨h1,_⟩
  · rw [h2,h3];omega
  · rw [h1] at h;cases h
theorem MC {t u w e : Int} {r : SP} (h : (sJ t u w e r).2 = true) : HE (sJ t u w e r).1 := by
  unfold sJ at h ⊢;dsimp only at h ⊢;split at h
  · rename_i hq;rw [if_pos hq];exact LH h
  · rename_i hq;exact absurd h hq
theorem QS {n s : Int} {r : SP} (h : (wG r n s).2 = true) : HE (wG r n s).1 := by
  unfold wG at h ⊢;split at h
  · rename_i hq;rw [if_pos hq];exact LH h
  · cases h
theorem V3.sC {n q : Nat} {w : W} (h : V3 n q w) {i : Nat} {r : SP} (hr : HE r) : V3 n q (sC w i r) where
  pl := h.pl
  cl := by show (w.2.2.set i r).length = q;rw [gI];exact h.cl
  pr := h.pr
  nd := h.nd
  m0 := h.m0
  m1 := h.m1
  sp x hx := by
    rcases fM hx with hx | rfl
    · exact h.sp x hx
    · exact hr
theorem OM {c : Cx} {n q : Nat} {w : W} {i : Nat} {s : Ev} (h : V3 n q w) (hi : i < q) (hs : 0 ≤ s.n) (hm : w.2.1 ≤ 3000000) (hb : (jJ c w i s).2 = true) : V3 n q (jJ c w i s).1 ∧ (jJ c w i s).1.1 = w.1 ∧ (jJ c w i s).1.2.1 ≤ w.2.1 + 1 := by
  obtain ⟨g1,g2,g3⟩ := h.at hi;unfold jJ at hb ⊢;by_cases k0 : s.k = 0
  · rw [if_pos k0] at hb ⊢;split
    · exact ⟨h,rfl,by dsimp only;omega⟩
    · exact ⟨⟨h.pl,h.cl,h.pr,h.nd,by have := h.m0;dsimp only;omega,by dsimp only;omega,h.sp⟩,rfl,by dsimp only;omega⟩
  rw [if_neg k0] at hb ⊢;by_cases k1 : s.k = 1
  · rw [if_pos k1] at hb ⊢;dsimp only at hb ⊢;exact ⟨h.sC (MC hb),rfl,by show w.2.1 ≤ _;omega⟩
  rw [if_neg k1] at hb ⊢;by_cases k2 : s.k = 2
  · rw [if_pos k2] at hb ⊢;dsimp only at hb ⊢;exact ⟨h.sC (QS hb),rfl,by show w.2.1 ≤ _;omega⟩
  rw [if_neg k2] at hb ⊢;by_cases k3 : s.k = 3
  · rw [if_pos k3] at hb ⊢;dsimp only at hb ⊢;unfold sQ at hb;simp only [aL,decide_eq_true_eq] at hb;unfold HE at g3;exact ⟨h.sC (show HE (s.n,s.n + 1) from ⟨by dsimp only;omega,by dsimp only;omega,by dsimp only;omega⟩),rfl,by show w.2.1 ≤ _;omega⟩
  rw [if_neg k3] at hb ⊢;split
  · exact ⟨h,rfl,by dsimp only;omega⟩
  · exact ⟨h,rfl,by dsimp only;omega⟩
theorem W6 {α : Type} {l : List α} {i k : Nat} {d : α} (hi : i < l.length) (hk : k < l.length) : ((l.set i (l.getD k d)).set k (l.getD i d)).Perm l := by
  have e1 : l.getD k d = l[k] := by rw [aC,aA hk];rfl
  have e2 : l.getD i d = l[i] := by rw [aC,aA hi];rfl
  rw [e1,e2];exact List.set_set_perm hi hk
theorem YF {n q : Nat} {w : W} {i k : Nat} (h : V3 n q w) (hi : i < q) (hk : k < q) : V3 n q (nX w i k) ∧ (nX w i k).1.Perm w.1 := by
  have p1 : (nX w i k).1.Perm w.1 := W6 (by rw [h.pl];exact hi) (by rw [h.pl];exact hk)
  have p2 : (nX w i k).2.2.Perm w.2.2 := W6 (by rw [h.cl];exact hi) (by rw [h.cl];exact hk)
  exact ⟨⟨p1.length_eq.trans h.pl,p2.length_eq.trans h.cl,fun x hx => h.pr x (p1.mem_iff.1 hx),p1.nodup_iff.2 h.nd,h.m0,h.m1,fun r hr => h.sp r (p2.mem_iff.1 hr)⟩,p1⟩
theorem EW {c : Cx} {M : Int} {gs : List G} (h : nI c M gs) (hM : M ≤ 2200000) {g : G} (hg : g ∈ gs) {s : Ev} (hs : 0 ≤ s.n) (ha : s.a ∈ g.1) (hb : s.k = 4 → s.b ∈ g.1) {w : W} (hw : w ∈ lZ c s g) : V3 c.bs.length g.1.length w ∧ w.1.Perm (gY g).1 ∧ w.2.1 ≤ M + 1 := by
  have og := h.out.ok g hg;obtain ⟨v,hv,hw⟩ := gM.1 hw;have ov := og.ws v hv;have hvm := h.ml g hg v hv;have hp := og.same v _ hv (iP (h.ne g hg));obtain ⟨hi,_⟩ := wN ha;rcases bF.1 hw with hw | hw
  · split at hw
    · rename_i hbt;obtain rfl := cD.1 hw;obtain ⟨h1,h2,h3⟩ := OM ov hi hs (by omega) hbt
      exact ⟨h1,h2 ▸ hp,by omega⟩
    · cases hw
  · split at hw
    · rename_i hk;obtain rfl := cD.1 hw;obtain ⟨hj,_⟩ := wN (hb hk);obtain ⟨h1,h2⟩ := YF ov hi hj;exact ⟨h1,h2.trans hp,by show v.2.1 ≤ _;omega⟩
    · cases hw
theorem NE {c : Cx} {s : Ev} {g : G} : (lZ c s g).length ≤ 2 * g.2.length := by
  unfold lZ;dsimp only
  induction g.2 with
  | nil => simp
  | cons w l ih =>
    rw [bE,aF,List.length_cons,aF];have h1 : ∀ {p : Prop} [Decidable p] {x : W},(if p then [x] else []).length ≤ 1 := by
      intro p _ x;split <;> simp
    have := @h1 ((jJ c w (g.1.idxOf s.a) s).2 = true) _ (jJ c w (g.1.idxOf s.a) s).1;have := @h1 (s.k = 4) _ (nX w (g.1.idxOf s.a) (g.1.idxOf s.b));omega
theorem WP {c : Cx} {M M' : Int} {gs : List G} (h : nI c M gs) {i : Nat} {g : G} (hi : gs[i]? = some g) {ws : List W} (hne : ws ≠ []) (hl : ws.length ≤ 1000) (hM : M ≤ M')
    (hw : ∀ w,w ∈ ws → V3 c.bs.length g.1.length w ∧ w.1.Perm (gY g).1 ∧ w.2.1 ≤ M') : nI c M' (gs.set i (g.1,ws)) := by
  have hg := aM hi;have og := h.out.ok g hg;obtain ⟨A,B,e1,e2⟩ := pK (y := (g.1,ws)) hi;rw [e2];subst e1;have hmem : ∀ x,x ∈ A ++ (g.1,ws) :: B → x = (g.1,ws) ∨ x ∈ A ++ g :: B := fun x hx => by
    simp only [bF,bN] at hx ⊢;rcases hx with hx | hx | hx
    · exact .inr (.inl hx)
    · exact .inl hx
    · exact .inr (.inr (.inr hx))
  have hbod : ((A ++ (g.1,ws) :: B).flatMap (·.1)) = ((A ++ g :: B).flatMap (·.1)) := by simp only [fO,bE]
  have hf := (hw _ (iP (g := (g.1,ws)) hne)).2.1;have ok : vR c.bs.length (g.1,ws) := ⟨og.ne,og.up,og.rg,og.ln,fun w h => (hw w h).1,fun w v h1 h2 => (hw w h1).2.1.trans (hw v h2).2.1.symm⟩;refine ⟨⟨fun x hx => ?_,by rw [hbod];exact h.out.nd,by rw [hbod];exact h.out.ln,fun x hx => ?_⟩,?_,fun x hx => ?_,fun x hx => ?_,by rw [hbod];exact h.cov,?_,fun x hx => ?_⟩
  · rcases hmem x hx with rfl | hx
    · exact ok
    · exact h.out.ok x hx
  · rcases hmem x hx with rfl | hx
    · show ws.length ≤ 2000;omega
    · exact h.out.ws x hx
  · have := B2.1 h.up;refine B2.2 ?_;simp only [dI,List.map_cons] at this ⊢;exact this
  · rcases hmem x hx with rfl | hx
    · exact hne
    · exact h.ne x hx
  · rcases hmem x hx with rfl | hx
    · exact fun w hw' => (hw w hw').2.2
    · exact fun w hw' => A0 (h.ml x hx w hw') hM
  · refine List.Perm.trans ?_ h.idn;simp only [fO,bE];exact List.Perm.append_left _ (hf.append_right _)
  · rcases hmem x hx with rfl | hx
    · exact hl
    · exact h.wl x hx
theorem EJ {g : G} {k : Nat} {w : W} (h : w ∈ (jL g k).2) : ∃ v,v ∈ g.2 ∧ w = YJ k v := by
  obtain ⟨v,hv,e⟩ := bI.1 (rY h);exact ⟨v,hv,e.symm⟩
theorem WK {g : G} {k : Nat} (h : g.2 ≠ []) : (jL g k).2 ≠ [] := fun e => h (by
  have := J0.1 e
  exact lG.1 this)
theorem WR {m : Nat} {M : Int} (hM : 0 ≤ M) : ∀ {g : G},(∀ w,w ∈ g.2 → w.2.1 ≤ M) → ∀ x,x ∈ mL m g → ∀ w,w ∈ x.2 → w.2.1 ≤ M := by
  induction m with
  | zero => intro g h x hx;simp [mL] at hx;subst hx;exact h
  | succ m ih =>
    intro g h x hx;unfold mL at hx;split at hx
    · simp at hx;subst hx;exact h
    · rename_i k hk;rcases bN.1 hx with rfl | hx
      · intro w hw;obtain rfl := cD.1 hw;exact hM
      · refine ih (fun w hw => ?_) x hx;obtain ⟨v,hv,rfl⟩ := EJ hw;exact h v hv
theorem QV {m : Nat} : ∀ {g : G},g.2.Pairwise (fun a b => nS a b < 0) → ∀ x,x ∈ mL m g → x.2.Pairwise (fun a b => nS a b < 0) := by
  induction m with
  | zero => intro g h x hx;simp [mL] at hx;subst hx;exact h
  | succ m ih =>
    intro g h x hx;unfold mL at hx;split at hx
    · simp at hx;subst hx;exact h
    · rcases bN.1 hx with rfl | hx
      · exact kY _ _
      · exact ih (Q2 _) x hx
theorem ES {n : Nat} : ∀ (m : Nat) {g : G}, vR n g → g.2 ≠ [] → ((mL m g).flatMap fun x => (gY x).1).Perm (gY g).1
  | 0,g,h,hne => by simp [mL]
  | m + 1,g,h,hne => by
    unfold mL;split
    · simp
    · rename_i k hk;have hr := WK (k := k) hne;obtain ⟨v,hv,e⟩ := EJ (iP hr);have ih := ES m (h.rest hk) hr;rw [bE];have ofw := h.ws _ (iP hne);have ov := h.ws v hv;obtain ⟨_,_,hkl,hs⟩ := jB hk;have hgv := (hs v hv).1;refine (List.Perm.append_left _ ih).trans ?_;rw [e];show (gP (gY g) k :: (v.1.eraseIdx k)).Perm _;rw [← hgv];exact (iZ v.1 k 0 (by rw [ov.pl];exact hkl)).trans (h.same _ _ hv (iP hne))
theorem qM {α β γ : Type} {F : β → List γ} {F' : α → List γ} {P : α → List β} : ∀ {l : List α}, (∀ g, g ∈ l → ((P g).flatMap F).Perm (F' g)) → ((l.flatMap P).flatMap F).Perm (l.flatMap F')
  | [],_ => .refl _
  | g :: l,h => by
    rw [bE,fO,bE];exact (h g aS).append (qM fun x hx => h x (aN _ hx))
theorem J4 {α β γ : Type} {F : β → List γ} {F' : α → List γ} {f : α → β} : ∀ {l : List α}, (∀ g, g ∈ l → (F (f g)).Perm (F' g)) → ((l.map f).flatMap F).Perm (l.flatMap F')
  | [],_ => .refl _
  | g :: l,h => by
    rw [List.map_cons,bE,bE];exact (h g aS).append (J4 fun x hx => h x (aN _ hx))
theorem PN : ∀ {l : List G}, (∀ g, g ∈ l → 0 ≤ iJ g) → 0 ≤ mR l
  | [],_ => fG _
  | g :: l,h => by
    have := PN fun x hx => h x (aN _ hx);have := h g aS;show 0 ≤ iJ g + mR l;omega
theorem PO : ∀ {l : List G}, (∀ g, g ∈ l → 0 ≤ iJ g) → ∀ {g : G}, g ∈ l → iJ g ≤ mR l
  | x :: l,h,g,hg => by
    have h0 := PN fun x hx => h x (aN _ hx);have h1 := h x aS;show iJ g ≤ iJ x + mR l;rcases bN.1 hg with rfl | hg
    · omega
    · have := PO (fun x hx => h x (aN _ hx)) hg;omega
theorem QW {c : Cx} {L : List G} (h : nI c c.m L) (hm0 : 0 ≤ c.m) (hasc : ∀ g,g ∈ L → g.2.Pairwise fun a b => nS a b < 0) : oA c (vD L) := by
  have hp := dS cG (L.flatMap fun g => mL g.1.length g);have hmem : ∀ x,x ∈ vD L → ∃ g,g ∈ L ∧ x ∈ mL g.1.length g := fun x hx => gM.1 (hp.mem_iff.1 hx);have bod : ((vD L).flatMap (·.1)).Perm (L.flatMap (·.1)) := (hp.flatMap_right _).trans (qM fun g hg => wH _ (h.out.ok g hg));have idn : ((vD L).flatMap fun g => (gY g).1).Perm (L.flatMap fun g => (gY g).1) := (hp.flatMap_right _).trans (qM fun g hg => ES _ (h.out.ok g hg) (h.ne g hg));have wl : ∀ x,x ∈ vD L → x.2.length ≤ 1000 := fun x hx => by
    obtain ⟨g,hg,hx⟩ := hmem x hx;exact ER (by omega) (h.wl g hg) x hx
  refine ⟨⟨⟨fun x hx => ?_,bod.nodup_iff.2 h.out.nd,by rw [bod.length_eq];exact h.out.ln,fun x hx => by have := wl x hx;omega⟩,qP _,fun x hx => ?_,fun x hx => ?_,bod.trans h.cov,idn.trans h.idn,wl⟩,fun x hx => ?_,fun x hx => ?_⟩
  all_goals obtain ⟨g,hg,hx⟩ := hmem x hx
  · exact BD _ (h.out.ok g hg) x hx
  · exact WQ (h.ne g hg) x hx
  · exact WR hm0 (h.ml g hg) x hx
  · exact X7 _ (h.out.ok g hg) (aY _) x hx
  · exact QV (hasc g hg) x hx
theorem RA {c : Cx} {M : Int} {gs : List G} (h : nI c M gs) (hne : ∀ g,g ∈ paid c gs → g.2 ≠ []) : nI c c.m (paid c gs) := by
  have h0 : ∀ g,g ∈ gs → 0 ≤ iJ g := fun g hg => (Z1 (h.out.ok g hg) (h.ne g hg)).1;refine ⟨h.out.paid c,JM h.up,hne,fun g hg w hw => ?_,by rw [G7];exact h.cov,?_,fun g hg => ?_⟩
  · obtain ⟨x,hx,rfl⟩ := bI.1 hg;have := of_decide_eq_true (pD.1 hw).2;have := PO h0 hx;omega
  · refine List.Perm.trans (J4 (F' := fun g => (gY g).1) fun g hg => ?_) h.idn;have h1 := hne _ (bI.2 ⟨g,hg,rfl⟩);have h2 := iP h1;exact (h.out.ok g hg).same _ _ (pD.1 h2).1 (iP (h.ne g hg))
  · obtain ⟨x,hx,rfl⟩ := bI.1 hg;exact cJ (DE _ _) (h.wl x hx)
theorem VS {c : Cx} {M : Int} {gs : List G} (h : nI c M gs) (hm0 : 0 ≤ c.m) (hasc : ∀ g,g ∈ gs → g.2.Pairwise fun a b => nS a b < 0) (hne : ∀ g,g ∈ B3 c gs → g.2 ≠ []) : oA c (B3 c gs) := by
  refine QW (RA h fun g hg e => ?_) hm0 fun g hg => ?_
  · refine hne g ?_ e;refine (dS cG _).mem_iff.2 (gM.2 ⟨g,hg,?_⟩);rw [QU e];exact cD.2 rfl
  · obtain ⟨x,hx,rfl⟩ := bI.1 hg;exact (hasc x hx).sublist List.filter_sublist
theorem oL {n : Int} {s : Ev} (h : jE n s = true) (hn : n ≤ 1000000) : (0 ≤ s.a ∧ s.a < n) ∧ (s.k = 4 → s.a < s.b ∧ s.b < n) ∧ 0 ≤ s.n ∧ s.n ≤ 1099511627776 := by
  obtain ⟨k,a,b,m,ids⟩ := s;unfold jE at h;simp only [aL,decide_eq_true_eq] at h;obtain ⟨⟨⟨h1,h2⟩,h3⟩,h4⟩ := h;dsimp only;refine ⟨by omega,fun hk => ?_,?_⟩
  · subst hk;simp at h4;omega
  · by_cases k0 : k = 0
    · subst k0;simp at h4;omega
    · rw [if_neg k0] at h4;split at h4
      · simp at h4;omega
      · split at h4
        · simp at h4;omega
        · split at h4
          · simp at h4;omega
          · cases h4
theorem NL {gs all : List G} {a b : Int} (e : join gs a b = some all) (ha : ∃ g,g ∈ gs ∧ a ∈ g.1) : ∀ g,g ∈ all → g ∈ gs ∨ a ∈ g.1 := by
  intro g hg;obtain ⟨i,x,hi,hix,hax⟩ := kA ha;unfold join at e;dsimp only at e;split at e
  · cases e;exact .inl hg
  · split at e
    · cases e
    · cases e;rcases fM (List.mem_of_mem_eraseIdx hg) with hg | rfl
      · exact .inl hg
      · refine .inr ((lL _ _).mem_iff.2 (bF.2 (.inl ?_)));rw [hi];unfold mO;rw [aC,show ((i : Int)).toNat = i from rfl,hix]
        exact hax
structure zA (c : Cx) (M : Int) (all : List G) (s : Ev) : Prop where
  mid : nI c M all
  asc : ∀ g,g ∈ all → (g.2.Pairwise fun a b => nS a b < 0) ∨ s.a ∈ g.1
  a : 0 ≤ s.a ∧ s.a < c.bs.length
  b : s.k = 4 → ∃ g,g ∈ all ∧ s.a ∈ g.1 ∧ s.b ∈ g.1
  n0 : 0 ≤ s.n
  n1 : s.n ≤ 1099511627776
theorem zA.at {c : Cx} {M : Int} {all : List G} {s : Ev} (h : zA c M all s) : ∃ (i : Nat) (g : G),oY all s.a = (i : Int) ∧ all[i]? = some g ∧ g ∈ all ∧ mO all (oY all s.a).toNat = g ∧ s.a ∈ g.1 ∧ (s.k = 4 → s.b ∈ g.1) := by
  obtain ⟨i,g,hi,hg,ha⟩ := kA (h.mid.find h.a);have hm := aM hg;refine ⟨i,g,hi,hg,hm,?_,ha,fun hk => ?_⟩
  · rw [hi];unfold mO;rw [aC,show ((i : Int)).toNat = i from rfl,hg];rfl
  · obtain ⟨x,hx,h1,h2⟩ := h.b hk;rw [M5 h.mid.out.nd hm hx ha h1];exact h2
theorem zA.next {c : Cx} {M : Int} {all : List G} {s : Ev} (h : zA c M all s) (hM : M ≤ 2200000) {i : Nat} {g : G} (hi : all[i]? = some g) (ha : s.a ∈ g.1) (hb : s.k = 4 → s.b ∈ g.1) (hne : gD (lZ c s g) ≠ []) (hl : (gD (lZ c s g)).length ≤ 1000) :
    nI c (M + 1) (all.set i (g.1,gD (lZ c s g))) ∧ ∀ x,x ∈ all.set i (g.1,gD (lZ c s g)) → x.2.Pairwise fun a b => nS a b < 0 := by
  have hg := aM hi;refine ⟨WP h.mid hi hne hl (by omega) fun w hw => EW h.mid hM hg h.n0 ha hb (rY hw),fun x hx => ?_⟩
  obtain ⟨A,B,e1,e2⟩ := pK (y := (g.1,gD (lZ c s g))) hi;rw [e2] at hx;have nd := h.mid.out.nd;have hall : x = (g.1,gD (lZ c s g)) ∨ x ∈ all ∧ s.a ∉ x.1 := by
    subst e1;simp only [fO,bE] at nd;obtain ⟨_,n1,n2⟩ := cK.1 nd;obtain ⟨_,_,n3⟩ := cK.1 n1;simp only [bF,bN] at hx ⊢;rcases hx with hx | hx | hx
    · exact .inr ⟨.inl hx,fun q => n2 _ (nW hx q) _ (bF.2 (.inl ha)) rfl⟩
    · exact .inl hx
    · exact .inr ⟨.inr (.inr hx),fun q => n3 _ ha _ (nW hx q) rfl⟩
  rcases hall with rfl | ⟨h1,h2⟩
  · exact Q2 _
  · exact (h.asc x h1).resolve_right h2
theorem KC {c : Cx} {M : Int} {l all : List G} {s : Ev} (h : zA c M all s) (hM : M ≤ 2200000) (hm0 : 0 ≤ c.m) (hl : oA c l) : oA c (vT c l all s).2 := by
  obtain ⟨i,g,hi,hg,hgm,hat,ha,hb⟩ := h.at;unfold vT;dsimp only;rw [hat];split
  · exact hl
  · rename_i hne;split
    · exact hl
    · rename_i hwl;split
      · exact hl
      · rename_i hany;obtain ⟨hm,hasc⟩ := h.next hM hg ha hb hne (by omega)
        rw [hi] at hany ⊢;refine VS hm hm0 hasc fun x hx e => hany (kH.2 ⟨x,hx,by rw [e];rfl⟩)
theorem G4 {c : Cx} {gs : List G} {s : Ev} (h : oA c gs) (hn : c.bs.length ≤ 1000) (hm0 : 0 ≤ c.m) (hr : jE c.bs.length s = true) (hk : s.k ≠ 4) : zA c c.m gs s := by
  obtain ⟨h1,h2,h3,h4⟩ := oL hr (by omega)
  exact ⟨h.mid,fun g hg => .inl (h.asc g hg),h1,fun q => absurd q hk,h3,h4⟩
theorem zK {c : Cx} {gs all : List G} {s : Ev} (h : oA c gs) (hn : c.bs.length ≤ 1000) (hm0 : 0 ≤ c.m) (hm1 : c.m ≤ 1048576) (hr : jE c.bs.length s = true) (hk : s.k = 4) (e : join gs s.a s.b = some all) : zA c (2 * c.m) all s := by
  obtain ⟨h1,h2,h3,h4⟩ := oL hr (by omega)
  have h2 := h2 hk;obtain ⟨j1,j2⟩ := RY h.mid hm0 hm1 h1 ⟨by omega,by omega⟩ e
  exact ⟨j1,fun g hg => (NL e (h.mid.find h1) g hg).imp_left fun hg => h.asc g hg,h1,fun _ => j2,h3,h4⟩
theorem nI.n12 {c : Cx} {M : Int} {gs : List G} (h : nI c M gs) : c.bs.length ≤ 12 := by
  have := h.cov.length_eq;have := h.out.ln;simp at *;omega
theorem AZ {c : Cx} {gs : List G} {s : Ev} (h : oA c gs) (hm0 : 0 ≤ c.m) (hm1 : c.m ≤ 1048576) : oA c (nL c gs s).2 := by
  have hn := h.mid.n12;unfold nL;split
  · rename_i hr;split
    · rename_i hk;split
      · exact h
      · rename_i all e;exact KC (zK h (by omega) hm0 hm1 hr hk e) (by omega) hm0 h
    · rename_i hk;exact KC (G4 h (by omega) hm0 hr hk) (by omega) hm0 h
  · exact h
def DU (c : Cx) (s : Ev) (g : G) (w : W) : List W :=
  (if (jJ c w (g.1.idxOf s.a) s).2 then [(jJ c w (g.1.idxOf s.a) s).1] else []) ++ (if s.k = 4 then [nX w (g.1.idxOf s.a) (g.1.idxOf s.b)] else [])
def tJ (c : Cx) (s : Ev) (g : G) (k : Nat) : List W := (g.2.take k).flatMap (DU c s g)
theorem NF (c : Cx) (s : Ev) (g : G) : tJ c s g g.2.length = lZ c s g := by unfold tJ;rw [dQ];rfl
theorem Q6 {c : Cx} {s : Ev} {g : G} {k : Nat} (h : k < g.2.length) : tJ c s g (k + 1) = tJ c s g k ++ DU c s g g.2[k] := by
  unfold tJ;rw [aX h,fO,bE,ZF,List.append_nil]
theorem MI {c : Cx} {s : Ev} {g : G} {w : W} : (DU c s g w).length ≤ 2 := by
  unfold DU;rw [aF];split <;> split <;> simp
theorem Y6 {c : Cx} {s : Ev} {g : G} : ∀ {k : Nat}, k ≤ g.2.length → (tJ c s g k).length ≤ 2 * k
  | 0,_ => by simp [tJ]
  | k + 1,h => by
    rw [Q6 (by omega),aF]
    have := Y6 (c := c) (s := s) (g := g) (k := k) (by omega)
    have := MI (c := c) (s := s) (g := g) (w := g.2[k]'(by omega))
    omega
theorem WJ (l : List Int) : AB.rf (.arr (Go.Ab.ints l) 1) = true := by
  show (Go.Ab.ints l).all AV.rfL = true;rw [bA];intro e he;obtain ⟨x,_,rfl⟩ := bI.1 he;rfl
theorem QC (l : List SP) : AB.rf (.arr (eZ l) 2) = true := by
  show (eZ l).all AV.rfL = true;rw [bA];intro e he;obtain ⟨x,_,rfl⟩ := bI.1 he;rfl
theorem WI (a : List Int) (b : List SP) : [AB.arr (Go.Ab.ints a) 1,.arr (eZ b) 2].all AB.rf = true := by
  simp only [L6,WJ,QC,List.all_nil,Bool.and_self]
theorem DR {c : Cx} {n : Nat} {gs : List G} (h : nA n gs) : nA n (B3 c gs) := by
  have h := h.paid c;unfold B3;generalize paid c gs = L at *;have hp := dS cG (L.flatMap fun g => mL g.1.length g);have hmem : ∀ x,x ∈ vD L → ∃ g,g ∈ L ∧ x ∈ mL g.1.length g := fun x hx => gM.1 (hp.mem_iff.1 hx);have bod : ((vD L).flatMap (·.1)).Perm (L.flatMap (·.1)) := (hp.flatMap_right _).trans (qM fun g hg => wH _ (h.ok g hg));refine ⟨fun x hx => ?_,bod.nodup_iff.2 h.nd,by rw [bod.length_eq];exact h.ln,fun x hx => ?_⟩
  all_goals obtain ⟨g,hg,hx⟩ := hmem x hx
  · exact BD _ (h.ok g hg) x hx
  · exact ER (by omega) (h.ws g hg) x hx
abbrev yX (s : Ev) : List AV := [.i s.k,.i s.a,.i s.b,.i s.n,.rowE (Go.Ab.ints s.ids) 1]
end Go.Ld
namespace Go.Proofs.YtmmkhmilpeodnaaGreat
open Go Go.Ab Go.Ld
attribute [local irreducible] VC AW cF aR kZ
set_option maxHeartbeats 4000000
theorem zA8 (g : G) : aR Tryz.prog 52 [OV g] [] (.b g.2.isEmpty) [] := by
  obtain ⟨bs,ws⟩ := g;cases ws with
  | nil =>
    refine bQ T Tryz.func52 rfl rfl rfl rfl ?_
    (repeat' (first|refine wS ?_|refine wR ?_|(refine rg 0 (bS (cE rfl rfl) rfl (aV ?_)))|(refine rg 1 (iL T rfl (qW T rfl (vV (dJ rfl rfl) (aV ?_)))))|refine nZ ?_));all_goals first | (exfalso;omega) | exact rQ
  | cons w ws =>
    have hl : (fP (w :: ws)).length ≠ 0 := by rw [eS];simp
    refine bQ T Tryz.func52 rfl rfl rfl rfl ?_
    (repeat' (first|refine wS ?_|refine wR ?_|(refine rg 0 (bS (cE rfl rfl) rfl (aV ?_)))|(refine rg 1 (iL T rfl (qW T rfl (vV (dJ rfl rfl) (aV ?_)))))|refine nZ ?_));all_goals first | (exfalso;omega) | exact rQ
noncomputable def zG8 : Code := match Tryz.f11.body with
  | some (.seq _ (.seq _ (.seq _ (.seq _ c)))) => c
  | _ => .skip
noncomputable def zL3 : Code := match zG8 with
  | .seq a _ => a
  | _ => .skip
noncomputable def zL4 : Code := match zG8 with
  | .seq _ b => b
  | _ => .skip
theorem HO (c : Cx) (l all : List G) (s : Ev) {M : Int} (hc : qO c) (h : zA c M all s) (hM : M ≤ 2200000) (hids : s.ids.length ≤ 9223372036854775807) :
    AW Tryz.prog (Tryz.f11.ntmps,1) zL3 [(0,.ptr 0 0),(3,.pr (yX s) 0),(5,.sl 1 0 all.length 2)] [.cells (gS c l),.arr (iY all) 2] (EY (fun v h => AW Tryz.prog (Tryz.f11.ntmps,1) zL4 v h (QD T Tryz.f11.results.toList 1 (.i (vT c l all s).1) [.cells (gS c (vT c l all s).2)])) (QD T Tryz.f11.results.toList 1 (.i (vT c l all s).1) [.cells (gS c (vT c l all s).2)])) := by
  obtain ⟨i,g,hi,hg,hgm,hat,ha,hb⟩ := h.at;have hn12 := h.mid.n12;have hal : (iY all).length = all.length := iX _;have hl12 : all.length ≤ 12 := cJ h.mid.out.len h.mid.out.ln;have og := h.mid.out.ok g hgm;have hwl := h.mid.wl g hgm;have hln := og.ln;have hil := (aB.1 hg).1;have f1 := wV all s.a (by omega) (fun g hg => by have := (h.mid.out.ok g hg).ln;omega)
  have hvw : ∀ {x : AB} {r : Hp},nM (x :: .arr (iY all) 2 :: r) (.sl 1 0 all.length 2) (.rowE (iY all) 2) := fun {x r} => tB rfl hal.symm (tH (fun _ => rfl) _);have hix := uK g.1 s.a (by omega)
  have hxi : uL g.1 s.a 0 = ((g.1.idxOf s.a : Nat) : Int) := by have := xU g.1 s.a 0 ha;simpa using this
  rw [hxi] at hix;rw [hi] at f1;have q1 := wO (L := all) (j := (i : Int)) (i := i) hg rfl;unfold vT;dsimp only;rw [hat,hi,bV];obtain ⟨bs,ws⟩ := g;dsimp only at *;have hwsl : (fP ws).length = ws.length := eS _
  (repeat' (first|refine wS ?_|(refine rg 9 (mW rfl (fW T rfl (vV (aQ T rfl rfl rfl rfl) (vV (by exact eT rfl rfl f1 (.cons hvw (.cons (.v _) .nil)) rfl rfl) ?_))));refine aV ?_)|(refine rg 10 (dX rfl (vV (by exact aK T rfl rfl rfl rfl rfl (by omega) (by omega)) ?_));refine fW T rfl (vV (by exact aQ T rfl rfl (bG rfl q1) rfl) ?_);refine vV (by exact eQ T rfl rfl rfl rfl) ?_;refine bS (bO T rfl) rfl (aT T rfl rfl rfl rfl rfl rfl (by decide) rfl ?_))|refine nZ ?_));all_goals try (exfalso;omega)
  refine uW 2 1 3 rfl rfl (by decide) ?_
  (repeat' (first|refine wS ?_|refine wB ?_|(refine rg 11 (fW T rfl (vV (aQ T rfl rfl rfl rfl) (fW T rfl (vV (aQ T rfl rfl rfl rfl) (vV (kC (hix)) (aV ?_)))))))|(refine rg 12 (dX rfl (vV (by exact aK T rfl rfl rfl rfl rfl (by omega) (by omega)) ?_));refine fW T rfl (vV (by exact aQ T rfl rfl (bG rfl q1) rfl) ?_);refine qW T rfl (mV ?_))|refine nZ ?_));all_goals try (exfalso;omega)
  refine dA (X := {k : Nat // k ≤ ws.length}) (fun k => [(0,.ptr 0 0),(3,.pr (yX s) 0),(5,.sl 1 0 all.length 2),(8,.i i),(9,.ptr 2 0),(10,.i (bs.idxOf s.a : Nat)),(63,.rowE (fP ws) 3),(64,.i (fP ws).length),(65,.i k.1)]) (fun k => [.cells (gS c l),.arr (iY all) 2,.cells [.rowE (ints bs) 1,.sl 3 0 (tJ c s (bs,ws) k.1).length 3],.arr (fP (tJ c s (bs,ws) k.1)) 3]) (fun k => ws.length - k.1) ⟨0,cT _⟩ ⟨[0,1,2,3],rfl,(by repeat first|exact trivial|refine ⟨rfl,?_⟩),⟨.inr rfl,.inr (aE rfl rfl (eC _)),.inr rfl,.inr rfl,trivial⟩,by decide,C5 _⟩ ?_
  rintro ⟨k,hk⟩;dsimp only;by_cases hlt : k < ws.length
  · have hgk := qH hlt;have hst := Q6 (c := c) (s := s) (g := (bs,ws)) (k := k) hlt;have hal2 := Y6 (c := c) (s := s) (g := (bs,ws)) (k := k) hk;have ow := og.ws ws[k] (aI hlt);obtain ⟨hidx,_⟩ := wN ha;have hbw := TP c l ws[k] s hc ow rfl hidx (by show bs.length ≤ 1000;omega) hids ⟨h.n0,h.n1⟩
    obtain ⟨e1,e2⟩ := CP c ws[k] (bs.idxOf s.a) s;have hk4 : s.k = 4 → (jJ c ws[k] (bs.idxOf s.a) s).2 = true := fun q => by unfold jJ;rw [q];rfl
    have hex : s.k = 4 → ∃ j : Nat,uL bs s.b 0 = (j : Int) ∧ j = bs.idxOf s.b ∧ j < bs.length := fun q => by
      obtain ⟨hj,_⟩ := wN (hb q);exact ⟨bs.idxOf s.b,by have := xU bs s.b 0 (hb q);simpa using this,rfl,hj⟩
    have hiy := uK bs s.b (by omega)
    unfold DU at hst;dsimp only at hst;have hpl := ow.pl;have hcl := ow.cl;have hal3 : (fP (tJ c s (bs,ws) k)).length = (tJ c s (bs,ws) k).length := eS _;generalize tJ c s (bs,ws) k = acc at *;generalize hN : tJ c s (bs,ws) (k + 1) = acc' at *;generalize bs.idxOf s.a = ia at *;generalize hw : ws[k] = w at *;generalize jJ c w ia s = z at *;obtain ⟨⟨zp,zm,zc⟩,zb⟩ := z;dsimp only at e1 e2 hst hk4 hbw;subst e1;obtain ⟨wp,wm,wc⟩ := w;dsimp only at *;have hz1 : (ints wp).length = wp.length := cQ _;have hz2 : (eZ zc).length = zc.length := gB _
    (repeat' (first|refine wS ?_|refine wB ?_|refine wK ?_|(refine wC rfl ?_ ?_<;>(intro hb;(try simp only [nm] at hb);try (exfalso;omega)))|(refine rg 13 (vV (aO rfl rfl) ?_))|(refine rg 14 (vV (ix T rfl (by omega) (kW _) hgk) (lW T rfl (bS (bO T rfl) rfl (aT T rfl rfl rfl rfl rfl rfl (by decide) rfl ?_)))))|refine nZ ?_));all_goals try (exfalso;omega)
    refine fU 12 (cs := wA (wp,wm,wc)) rfl rfl rfl ?_
    (repeat' (first|refine wS ?_|(refine rg 15 (mW rfl (lW T rfl (mW rfl (lW T rfl (bS (by exact fK rfl rfl hbw (.inl ⟨.cons (.ptr rfl (fZ _ rfl)) (.cons (AO _) (.cons (.v _) (.cons (.agg (fZ _ rfl)) .nil))),WI _ _⟩)) rfl ?_)))));refine mW rfl (xW rfl (xW rfl (bS (bO T rfl) rfl (aT T rfl rfl rfl rfl rfl rfl (by decide) rfl (aV ?_))))))|refine nZ ?_));all_goals try (exfalso;omega)
    refine fE [(0, .ptr 0 0), (3, .pr (yX s) 0), (5, .sl 1 0 all.length 2), (8, .i i), (9, .ptr 2 0), (10, .i ia), (63, .rowE (fP ws) 3), (64, .i (fP ws).length), (65, .i k), (12, .pr (wA (wp, wm, wc)) 0), (13, .ptr 6 0), (14, .b zb)] [.cells (gS c l), .arr (iY all) 2, .cells [.rowE (ints bs) 1, .sl 3 0 acc.length 3], .arr (fP acc) 3, .arr (ints wp) 1, .arr (eZ zc) 2, .cells [.sl 4 0 wp.length 1, .i zm, .sl 5 0 wc.length 2]]
      ⟨[0,1,2,3,5,6,7],rfl,(by repeat first|exact trivial|refine ⟨rfl,?_⟩),⟨.inr rfl,.inr (aE rfl rfl (eC _)),.inr rfl,.inr (aE rfl rfl (bH _)),.inr (aE rfl (bU _ (bJ _)) (bJ _)),.inr (aE rfl (bU _ (eY _)) (eY _)),.inr rfl,trivial⟩,by decide,C5 _⟩ ?_
    refine mX 6 0 (es := ints wp) rfl rfl rfl hz1.symm (hC (bJ _)) ?_;refine mX 6 2 (es := eZ zc) rfl rfl rfl (by omega) (hC (eY _)) ?_
    refine fU 13 (cs := wA (wp,zm,zc)) rfl rfl rfl ?_;refine fE [(0, .ptr 0 0), (3, .pr (yX s) 0), (5, .sl 1 0 all.length 2), (8, .i i), (9, .ptr 2 0), (10, .i ia), (63, .rowE (fP ws) 3), (64, .i (fP ws).length), (65, .i k), (12, .pr (wA (wp, wm, wc)) 0), (13, .pr (wA (wp, zm, zc)) 0), (14, .b zb)] [.cells (gS c l), .arr (iY all) 2, .cells [.rowE (ints bs) 1, .sl 3 0 acc.length 3], .arr (fP acc) 3]
      ⟨[0,1,2,3],rfl,(by repeat first|exact trivial|refine ⟨rfl,?_⟩),⟨.inr rfl,.inr (aE rfl rfl (eC _)),.inr rfl,.inr (aE rfl rfl (bH _)),trivial⟩,by decide,C5 _⟩ ?_
    have hA1 : ∀ (l : List W) (w : W),fP (l ++ [w]) = fP l ++ [wA w] := fun l w => by rw [fP,dI];rfl
    by_cases k4 : s.k = 4
    · obtain rfl := hk4 k4;rw [if_pos rfl,if_pos k4] at hst;obtain ⟨j,hj1,hj2,hj3⟩ := hex k4;rw [hj1] at hiy;rw [← hj2] at hst;have hxc := zD4 (wp,wm,wc) (i := ia) (k := j) ⟨by dsimp only;omega,by dsimp only;omega⟩ (by dsimp only;omega) (by dsimp only;omega) (by dsimp only;omega)
      generalize nX (wp,wm,wc) ia j = u at *;obtain ⟨up,um,uc⟩ := u;have hW := hA1 acc (wp,zm,zc);have hW2 := hA1 (acc ++ [(wp,zm,zc)]) (up,um,uc);rw [bK,← hst] at hW2;have hacl : acc'.length = acc.length + 2 := by rw [hst];simp
      have hWl : (fP (acc ++ [(wp,zm,zc)])).length = acc.length + 1 := by rw [eS];simp
      have hidA := bH (acc ++ [(wp,zm,zc)]);generalize fP (acc ++ [(wp,zm,zc)]) = B at *;generalize fP acc = A at *
      (repeat' (first|refine wS ?_|refine wT ?_|(refine rg 16 (mV ?_))|(refine rg 17 (iL T rfl (lW T rfl (bS (by exact bB T rfl rfl (by decide) (by decide) rfl rfl rfl) rfl ?_)));refine gE T rfl rfl rfl rfl rfl rfl (by omega) (kV.whole rfl rfl) rfl (by simp;omega) (by simp;omega) rfl ?_;refine fW T rfl (aT T rfl rfl rfl rfl rfl rfl (by decide) rfl ?_))|refine nZ ?_));all_goals try (exfalso;omega)
      refine fE [(0, .ptr 0 0), (3, .pr (yX s) 0), (5, .sl 1 0 all.length 2), (8, .i i), (9, .ptr 2 0), (10, .i ia), (63, .rowE (fP ws) 3), (64, .i (fP ws).length), (65, .i k), (12, .pr (wA (wp, wm, wc)) 0)] [.cells (gS c l), .arr (iY all) 2, .cells [.rowE (ints bs) 1, .sl 3 0 (acc.length + 1) 3], .arr B 3]
        ⟨[0,1,2,5],rfl,(by repeat first|exact trivial|refine ⟨rfl,?_⟩),⟨.inr rfl,.inr (aE rfl rfl (eC _)),.inr rfl,.inr (aE rfl (by rw [hW];exact mJ hal3.symm) hidA),trivial⟩,by decide,C5 _⟩ ?_
      (repeat' (first|refine wT ?_|(refine rg 18 (iL T rfl (vV (kO rfl rfl k4) ?_)))|(refine tX (id := 19) 128 [[],[0],[],[],[],[4],[],[6],rM 4 4,rM 2 7,rM 2 8,rN 11] (rM 87 12) [[],[],[87,88],[87,88,89],rM 87 4,rM 87 4,rM 87 6,rM 87 6,rM 87 4,[87,88],[87,88],[]] [(11,3)] cC rfl (by decide +kernel) (fN rfl rfl rfl rfl (by exact bY T rfl rfl rfl) ?_);refine fN rfl rfl rfl rfl (by exact aQ T rfl rfl rfl rfl) ?_;refine fN rfl rfl rfl rfl (by exact aQ T rfl rfl rfl rfl) ?_;refine fN rfl rfl rfl rfl (by exact bX rfl) ?_;refine fN rfl rfl rfl rfl (by exact bY T rfl rfl rfl) ?_;refine fN rfl rfl rfl rfl (by exact aQ T rfl rfl rfl rfl) ?_;refine fN rfl rfl rfl rfl (by exact bY T rfl rfl rfl) ?_;refine fN rfl rfl rfl rfl (by exact aQ T rfl rfl rfl rfl) ?_;refine fN rfl rfl rfl rfl (by exact kC (hiy)) ?_;refine fN rfl rfl rfl rfl (by exact kC (hxc)) ?_;refine K1 rfl rfl rfl rfl (by exact bB T rfl rfl (by decide) (by decide) rfl rfl rfl) rfl ?_;refine wW rfl rfl rfl rfl (aP rfl) (by exact qR T rfl rfl rfl rfl rfl rfl (by omega) (kV.whole rfl rfl) rfl (by simp;omega) (by simp;omega)) ?_;refine D8 rfl rfl rfl (by exact rfl) ?_;refine fW T rfl (aT T rfl rfl rfl rfl rfl rfl (by decide) rfl ?_))|(refine rg 20 (vV (bT rfl rfl (by omega) (by omega)) (mV ?_)))|refine nZ ?_));all_goals try (exfalso;omega)
      exact ⟨⟨k + 1,hlt⟩,by dsimp only;omega,⟨[0,1,2,5],rfl,(by repeat first|exact trivial|refine ⟨rfl,?_⟩),⟨.inr rfl,.inr (aE rfl rfl (eC _)),.inr (by dsimp only;rw [hN,hacl];rfl),.inr (aE rfl (by dsimp only;rw [hN,hW2];exact mJ hWl.symm) (bH _)),trivial⟩,by decide,C5 _⟩⟩
    · rw [if_neg k4,List.append_nil] at hst;cases zb with
      | true =>
        rw [if_pos rfl] at hst;have hW := hA1 acc (wp,zm,zc);rw [← hst] at hW;have hacl : acc'.length = acc.length + 1 := by rw [hst];simp
        generalize fP acc = A at *
        (repeat' (first|refine wS ?_|refine wK ?_|refine wT ?_|refine wU ?_|(refine rg 16 (mV ?_))|(refine rg 17 (iL T rfl (lW T rfl (bS (by exact bB T rfl rfl (by decide) (by decide) rfl rfl rfl) rfl ?_)));refine gE T rfl rfl rfl rfl rfl rfl (by omega) (kV.whole rfl rfl) rfl (by simp;omega) (by simp;omega) rfl ?_;refine fW T rfl (aT T rfl rfl rfl rfl rfl rfl (by decide) rfl ?_))|(refine rg 18 (iL T rfl (vV (gL rfl rfl (by omega)) ?_)))|(refine rg 20 (vV (bT rfl rfl (by omega) (by omega)) (mV ?_)))|refine nZ ?_));all_goals try (exfalso;omega)
        exact ⟨⟨k + 1,hlt⟩,by dsimp only;omega,⟨[0,1,2,5],rfl,(by repeat first|exact trivial|refine ⟨rfl,?_⟩),⟨.inr rfl,.inr (aE rfl rfl (eC _)),.inr (by dsimp only;rw [hN,hacl];rfl),.inr (aE rfl (by dsimp only;rw [hN,hW];exact mJ hal3.symm) (bH _)),trivial⟩,by decide,C5 _⟩⟩
      | false =>
        rw [if_neg (by simp),List.append_nil] at hst
        subst hst
        (repeat' (first|refine wS ?_|refine wK ?_|refine wU ?_|(refine rg 16 (mV ?_))|(refine rg 18 (iL T rfl (vV (gL rfl rfl (by omega)) ?_)))|(refine rg 20 (vV (bT rfl rfl (by omega) (by omega)) (mV ?_)))|refine nZ ?_));all_goals try (exfalso;omega)
        exact ⟨⟨k + 1,hlt⟩,by dsimp only;omega,⟨[0,1,2,3],rfl,(by repeat first|exact trivial|refine ⟨rfl,?_⟩),⟨.inr rfl,.inr (aE rfl rfl (eC _)),.inr (by dsimp only;rw [hN];rfl),.inr (aE rfl (by dsimp only;rw [hN]) (bH _)),trivial⟩,by decide,C5 _⟩⟩
  · obtain rfl : k = ws.length := by omega
    have hNA := NF c s (bs,ws);dsimp only at hNA;rw [hNA];have hnl := NE (c := c) (s := s) (g := (bs,ws));dsimp only at hnl;have hno : ∀ w,w ∈ lZ c s (bs,ws) → V3 c.bs.length bs.length w := fun w hw => (EW h.mid hM hgm h.n0 ha hb hw).1;have hoc := Y3 (lZ c s (bs,ws)) (by omega) (fun w hw => ⟨by have := (hno w hw).pl;omega,by have := (hno w hw).cl;omega⟩)
    have hnx := h.next hM hg ha hb
    dsimp only at hnx;have hol := wI (lZ c s (bs,ws));have hNl : (fP (lZ c s (bs,ws))).length = (lZ c s (bs,ws)).length := eS _;generalize lZ c s (bs,ws) = nw at *
    (repeat' (first|refine wS ?_|refine wE ?_|(refine wC rfl ?_ ?_<;>(intro hb;(try simp only [nm] at hb);try (exfalso;omega)))|(refine rg 13 (vV (aO rfl rfl) ?_))|refine nZ ?_));all_goals try (exfalso;omega)
    refine mX 2 1 (es := fP nw) rfl rfl rfl hNl.symm (hC (bH _)) ?_;generalize gD nw = ow at *;have how : (fP ow).length = ow.length := eS _
    (repeat' (first|refine wS ?_|refine wB ?_|(refine rg 21 (iL T rfl (vV (kC (hoc)) (fW T rfl (aT T rfl rfl rfl rfl rfl rfl (by decide) rfl ?_)))))|refine nZ ?_));all_goals try (exfalso;omega)
    refine fE [(0,.ptr 0 0),(3,.pr (yX s) 0),(5,.sl 1 0 all.length 2),(8,.i i),(9,.ptr 2 0)] [.cells (gS c l),.arr (iY all) 2,.cells (gA (bs,ow))] ⟨[0,1,2],rfl,(by repeat first|exact trivial|refine ⟨rfl,?_⟩),⟨.inr rfl,.inr (aE rfl rfl (eC _)),.inr rfl,trivial⟩,by decide,C5 _⟩ ?_
    by_cases h0 : ow = []
    · subst h0;rw [if_pos rfl]
      (repeat' (first|refine wS ?_|refine wR ?_|refine wT ?_|(refine rg 22 (iL T rfl (qW T rfl (vV (dJ rfl rfl) (aV ?_)))))|(refine rg 23 (aV ?_))|refine nZ ?_));all_goals try (exfalso;omega)
      exact ⟨.inl rfl,[0],_,rfl,rfl,rfl,⟨.inr rfl,trivial⟩,by decide,C5 _⟩
    · rw [if_neg h0];have hop := fC.2 h0;by_cases h1 : 1000 < ow.length
      · rw [if_pos h1]
        (repeat' (first|refine wS ?_|refine wR ?_|(refine wC rfl ?_ ?_<;>(intro hb;(try simp only [nm] at hb);try (exfalso;omega)))|(refine rg 22 (iL T rfl (qW T rfl (vV (dJ rfl rfl) (aV ?_)))))|(refine rg 24 (iL T rfl (qW T rfl (vV (fT rfl rfl) (aV ?_)))))|(refine rg 25 (aV ?_))|refine nZ ?_));all_goals try (exfalso;omega)
        exact ⟨.inl rfl,[0],_,rfl,rfl,rfl,⟨.inr rfl,trivial⟩,by decide,C5 _⟩
      · rw [if_neg h1];obtain ⟨hm1,hasc⟩ := hnx h0 (by omega)
        have hty := VT c l (all.set i (bs,ow)) hm1.out hm1.up hm1.ne;have hset := C8 (L := all) (j := (i : Int)) (i := i) (x := (bs,ow)) rfl;have hto := (DR hm1.out (c := c)).len;have hto2 := (DR hm1.out (c := c)).ln;have hcf := zC4 (l := B3 c (all.set i (bs,ow))) (F := 52) (caps := []) (p := fun g => g.2.isEmpty) (by omega) rfl (fun x hx => zA8 x)
        have hNl2 : all.length = (iY (all.set i (bs,ow))).length := by rw [iX,gI]
        (repeat' (first|refine wS ?_|refine wK ?_|(refine wC rfl ?_ ?_<;>(intro hb;(try simp only [nm] at hb);try (exfalso;omega)))|(refine rg 22 (iL T rfl (qW T rfl (vV (dJ rfl rfl) (aV ?_)))))|(refine rg 24 (iL T rfl (qW T rfl (vV (fT rfl rfl) (aV ?_)))))|(refine rg 26 (dX rfl (lW T rfl (vV (by exact aK T rfl rfl rfl rfl rfl (by omega) (by omega)) ?_)));refine aT T rfl rfl rfl rfl rfl rfl (by decide) (lC rfl q1 rfl) ?_)|refine nZ ?_));all_goals try (exfalso;omega)
        generalize all.set i (bs,ow) = N at *;refine fE [(0,.ptr 0 0),(5,.sl 1 0 all.length 2)] [.cells (gS c l),.arr (iY N) 2] ⟨[0,1],rfl,(by repeat first|exact trivial|refine ⟨rfl,?_⟩),⟨.inr rfl,.inr (aE rfl hset (eC _)),trivial⟩,by decide,C5 _⟩ ?_
        refine I1 5 (es := iY N) rfl rfl hNl2 (hC (eC _)) ?_;generalize B3 c N = out at *
        (repeat' (first|refine wS ?_|(refine rg 27 (dX rfl (fQ [0] rfl rfl (hty) rfl rfl (by decide) ⟨.inr rfl,trivial⟩ (by simp) rfl ?_));refine aV ?_)|refine nZ ?_));all_goals try (exfalso;omega)
        cases hany : out.any fun g => g.2.isEmpty with
        | true =>
          rw [hany] at hcf;rw [if_pos rfl]
          (repeat' (first|refine wS ?_|refine wR ?_|refine wT ?_|(refine rg 28 (mW rfl (vV (kC (hcf)) ?_)))|(refine rg 29 (aV ?_))|refine nZ ?_));all_goals try (exfalso;omega)
          exact ⟨.inl rfl,[0],_,rfl,rfl,rfl,⟨.inr rfl,trivial⟩,by decide,C5 _⟩
        | false =>
          rw [hany] at hcf;rw [if_neg (by simp)]
          (repeat' (first|refine wS ?_|refine wK ?_|refine wR ?_|refine wU ?_|(refine rg 28 (mW rfl (vV (kC (hcf)) ?_)))|(refine rg 30 (dX rfl (nV ?_));refine fW T rfl (aT T rfl rfl rfl rfl rfl rfl (by decide) rfl ?_))|(refine rg 31 (aV ?_))|refine nZ ?_));all_goals try (exfalso;omega)
          exact ⟨.inl rfl,[0],_,rfl,rfl,rfl,⟨.inr rfl,trivial⟩,by decide,C5 _⟩
theorem KB (c : Cx) (gs : List G) (s : Ev) (hc : qO c) (h : oA c gs) (hids : s.ids.length ≤ 9223372036854775807) :
    aR Tryz.prog 11 [.ptr 0 0,zI6 s] [.cells (gS c gs)] (.i (nL c gs s).1) [.cells (gS c (nL c gs s).2)] := by
  have hn12 := h.mid.n12;obtain ⟨hm0,hm1,_⟩ := hc.s;have hgl : (iY gs).length = gs.length := iX _;have hgl12 : gs.length ≤ 12 := cJ h.mid.out.len h.mid.out.ln;have hbl : (eB c.bs).length = c.bs.length := bC _;have hright := EI c.bs.length s.k s.a s.b s.n s.ids hids ⟨by omega,by omega⟩
  have hcl := FY gs (by omega)
  have hst := G4 (s := s) h (by omega) hm0
  have hjo := fun (hr : jE c.bs.length s = true) (hk : s.k = 4) (all : List G) => zK (s := s) (all := all) h (by omega) hm0 hm1 hr hk
  unfold nL;generalize hv : jE c.bs.length s = v at *;rw [← hbl] at hright;cases v with
  | false =>
    rw [if_neg (by simp)]
    refine bQ T Tryz.func11 rfl rfl rfl rfl ?_
    (repeat' (first|refine wS ?_|(refine rg 0 (bS (cE rfl rfl) rfl (aV ?_)))|refine nZ ?_));refine fU 3 (cs := yX s) rfl rfl rfl ?_
    (repeat' (first|refine wS ?_|refine wR ?_|refine wT ?_|(refine bL (id := 1) 128 zT1 (rM 15 8) zT2 cC rfl (by decide +kernel) (dN rfl (dV rfl (by exact eM rfl rfl) ?_));refine dP T rfl (dO T rfl (dV rfl (eP T rfl rfl) (dO T rfl (dV rfl (kC (hright)) (dV rfl (dH rfl) (dE ?_)))))))|(refine rg 2 (aV ?_))|refine nZ ?_));all_goals try (exfalso;omega)
    exact ⟨.inl rfl,[0],_,rfl,rfl,rfl,⟨.inr rfl,trivial⟩,by decide,C5 _⟩
  | true =>
    rw [if_pos rfl];by_cases k4 : s.k = 4
    · rw [if_pos k4];obtain ⟨r1,r2,_⟩ := oL hv (by omega)
      have r2 := r2 k4;have fa := h.mid.find r1;have fb := h.mid.find (b := s.b) ⟨by omega,by omega⟩
      cases hj : join gs s.a s.b with
      | none =>
        dsimp only;have hjc := XJ gs s.a s.b h.mid.out fa fb hj;refine bQ T Tryz.func11 rfl rfl rfl rfl ?_
        (repeat' (first|refine wS ?_|(refine rg 0 (bS (cE rfl rfl) rfl (aV ?_)))|refine nZ ?_));refine fU 3 (cs := yX s) rfl rfl rfl ?_
        (repeat' (first|refine wS ?_|refine wK ?_|refine wU ?_|(refine bL (id := 1) 128 zT1 (rM 15 8) zT2 cC rfl (by decide +kernel) (dN rfl (dV rfl (by exact eM rfl rfl) ?_));refine dP T rfl (dO T rfl (dV rfl (eP T rfl rfl) (dO T rfl (dV rfl (kC (hright)) (dV rfl (dH rfl) (dE ?_)))))))|(refine rg 3 (mW rfl (nV ?_));refine iL T rfl (bS (by exact fK rfl rfl hcl (.inr ⟨rfl,rfl,by simp⟩)) rfl ?_);refine aV ?_)|refine nZ ?_));all_goals try (exfalso;omega)
        refine fE [(0,.ptr 0 0),(3,.pr (yX s) 0),(5,.sl 1 0 gs.length 2)] [.cells (gS c gs),.arr (iY gs) 2] ⟨[0,2],rfl,(by repeat first|exact trivial|refine ⟨rfl,?_⟩),⟨.inr rfl,.inr (aE rfl (bU _ (eC _)) (eC _)),trivial⟩,by decide,C5 _⟩ ?_
        refine I1 5 (es := iY gs) rfl rfl hgl.symm (hC (eC _)) ?_
        (repeat' (first|refine wS ?_|refine wR ?_|refine wT ?_|(refine rg 4 (iL T rfl (vV (kO rfl rfl k4) ?_)))|(refine rg 5 (mW rfl (iL T rfl (iL T rfl (vV (kC (hjc)) (mW rfl (xW rfl (xW rfl (pT ?_)))))))))|(refine rg 6 (mW rfl (vV (fI rfl rfl) ?_)))|(refine rg 7 (mW rfl (aV ?_)))|refine nZ ?_));all_goals try (exfalso;omega)
        exact ⟨.inl rfl,[0],_,rfl,rfl,rfl,⟨.inr rfl,trivial⟩,by decide,C5 _⟩
      | some all =>
        dsimp only;have hso := hjo rfl k4 all hj;refine bQ T Tryz.func11 rfl rfl rfl rfl ?_
        (repeat' (first|refine wS ?_|(refine rg 0 (bS (cE rfl rfl) rfl (aV ?_)))|refine nZ ?_));refine fU 3 (cs := yX s) rfl rfl rfl ?_
        (repeat' (first|refine wS ?_|refine wK ?_|refine wU ?_|(refine bL (id := 1) 128 zT1 (rM 15 8) zT2 cC rfl (by decide +kernel) (dN rfl (dV rfl (by exact eM rfl rfl) ?_));refine dP T rfl (dO T rfl (dV rfl (eP T rfl rfl) (dO T rfl (dV rfl (kC (hright)) (dV rfl (dH rfl) (dE ?_)))))))|(refine rg 3 (mW rfl (nV ?_));refine iL T rfl (bS (by exact fK rfl rfl hcl (.inr ⟨rfl,rfl,by simp⟩)) rfl ?_);refine aV ?_)|refine nZ ?_));all_goals try (exfalso;omega)
        refine fE [(0,.ptr 0 0),(3,.pr (yX s) 0),(5,.sl 1 0 gs.length 2)] [.cells (gS c gs),.arr (iY gs) 2] ⟨[0,2],rfl,(by repeat first|exact trivial|refine ⟨rfl,?_⟩),⟨.inr rfl,.inr (aE rfl (bU _ (eC _)) (eC _)),trivial⟩,by decide,C5 _⟩ ?_
        by_cases hs : oY gs s.a = oY gs s.b
        · have hjc := XH gs s.a s.b h.mid.out fa fb hs;have : all = gs := by unfold join at hj;dsimp only at hj;rw [if_pos hs] at hj;exact (Option.some.inj hj).symm
          subst this
          (repeat' (first|refine wS ?_|refine wK ?_|refine wT ?_|refine wU ?_|(refine rg 4 (iL T rfl (vV (kO rfl rfl k4) ?_)))|(refine rg 5 (mW rfl (iL T rfl (iL T rfl (fQ [1] rfl rfl (hjc) rfl rfl (by decide) ⟨.inr (aE rfl rfl (eC _)),trivial⟩ (by simp) rfl ?_))));refine mW rfl (xW rfl (xW rfl (pT ?_))))|(refine rg 6 (mW rfl (vV (fI rfl rfl) ?_)))|(refine rg 8 (mW rfl (aV ?_)))|refine nZ ?_));all_goals try (exfalso;omega)
          refine fE [(0,.ptr 0 0),(3,.pr (yX s) 0),(5,.sl 1 0 all.length 2)] [.cells (gS c all),.arr (iY all) 2] ⟨[0,1],rfl,(by repeat first|exact trivial|refine ⟨rfl,?_⟩),⟨.inr rfl,.inr (aE rfl (bU _ (eC _)) (eC _)),trivial⟩,by decide,C5 _⟩ ?_
          exact HO c all all s hc hso (by omega) hids
        · have hjc := XI gs s.a s.b h.mid.out fa fb hj hs;refine I1 5 (es := iY gs) rfl rfl hgl.symm (hC (eC _)) ?_
          (repeat' (first|refine wS ?_|refine wK ?_|refine wT ?_|refine wU ?_|(refine rg 4 (iL T rfl (vV (kO rfl rfl k4) ?_)))|(refine rg 5 (mW rfl (iL T rfl (iL T rfl (bS (by exact fK rfl rfl hjc (.inr ⟨rfl,rfl,by simp⟩)) rfl ?_))));refine mW rfl (xW rfl (xW rfl (pT ?_))))|(refine rg 6 (mW rfl (vV (fI rfl rfl) ?_)))|(refine rg 8 (mW rfl (aV ?_)))|refine nZ ?_));all_goals try (exfalso;omega)
          refine fE [(0,.ptr 0 0),(3,.pr (yX s) 0),(5,.sl 1 0 all.length 2)] [.cells (gS c gs),.arr (iY all) 2] ⟨[0,2],rfl,(by repeat first|exact trivial|refine ⟨rfl,?_⟩),⟨.inr rfl,.inr (aE rfl (bU _ (eC _)) (eC _)),trivial⟩,by decide,C5 _⟩ ?_
          exact HO c gs all s hc hso (by omega) hids
    · rw [if_neg k4];refine bQ T Tryz.func11 rfl rfl rfl rfl ?_
      (repeat' (first|refine wS ?_|(refine rg 0 (bS (cE rfl rfl) rfl (aV ?_)))|refine nZ ?_));refine fU 3 (cs := yX s) rfl rfl rfl ?_
      (repeat' (first|refine wS ?_|refine wK ?_|refine wU ?_|(refine bL (id := 1) 128 zT1 (rM 15 8) zT2 cC rfl (by decide +kernel) (dN rfl (dV rfl (by exact eM rfl rfl) ?_));refine dP T rfl (dO T rfl (dV rfl (eP T rfl rfl) (dO T rfl (dV rfl (kC (hright)) (dV rfl (dH rfl) (dE ?_)))))))|(refine rg 3 (mW rfl (nV ?_));refine iL T rfl (bS (by exact fK rfl rfl hcl (.inr ⟨rfl,rfl,by simp⟩)) rfl ?_);refine aV ?_)|(refine rg 4 (iL T rfl (vV (gL rfl rfl (by omega)) ?_)))|refine nZ ?_));all_goals try (exfalso;omega)
      refine fE [(0,.ptr 0 0),(3,.pr (yX s) 0),(5,.sl 1 0 gs.length 2)] [.cells (gS c gs),.arr (iY gs) 2] ⟨[0,2],rfl,(by repeat first|exact trivial|refine ⟨rfl,?_⟩),⟨.inr rfl,.inr (aE rfl (bU _ (eC _)) (eC _)),trivial⟩,by decide,C5 _⟩ ?_
      exact HO c gs gs s hc (hst rfl k4) (by omega) hids
end Go.Proofs.YtmmkhmilpeodnaaGreat
namespace Go.Ld
open Go.Ab Go.Proofs.YtmmkhmilpeodnaaGreat
def Q7 (c : Cx) (i : Nat) : G := ([(i : Int)],[([(i : Int)],0,[((c.bs.getD i (0,0,0)).2.1,(c.bs.getD i (0,0,0)).2.1 + 1)])])
theorem M4 (c : Cx) : rB c = (List.range c.bs.length).map (Q7 c) := rfl
theorem R9 {α β : Type} (f : α → β) : ∀ l : List α, (l.flatMap fun x => [f x]) = l.map f
  | [] => rfl
  | x :: l => by rw [bE,R9 f l];rfl
theorem RP {c : Cx} (hc : qO c) (hn : c.bs.length ≤ 12) (hm : 0 ≤ c.m) : oA c (rB c) := by
  rw [M4];have hmem : ∀ g,g ∈ (List.range c.bs.length).map (Q7 c) → ∃ i,i < c.bs.length ∧ g = Q7 c i := fun g hg => by
    obtain ⟨i,hi,e⟩ := bI.1 hg;exact ⟨i,eN.1 hi,e.symm⟩
  have fl : (((List.range c.bs.length).map (Q7 c)).flatMap (·.1)) = nats (List.range c.bs.length) := by
    rw [U5];exact R9 _ _
  have fw : (((List.range c.bs.length).map (Q7 c)).flatMap fun g => (gY g).1) = nats (List.range c.bs.length) := by
    rw [U5];exact R9 _ _
  refine ⟨⟨⟨fun g hg => ?_,by rw [fl];exact xO _,by rw [fl];simpa using hn,fun g hg => ?_⟩,?_,fun g hg => ?_,fun g hg w hw => ?_,by rw [fl],by rw [fw],fun g hg => ?_⟩,fun g hg => ?_,fun g hg => ?_⟩
  · obtain ⟨i,hi,rfl⟩ := hmem g hg;have hb := hc.f.b i hi;have e : c.bs.getD i (0,0,0) = c.bs[i] := by rw [aC,aA hi];rfl
    unfold Q7;rw [e];generalize c.bs[i] = x at *;refine ⟨by simp,kY _ _,fun b hb => by obtain rfl := cD.1 hb;omega,by simp,fun w hw => ?_,fun w v hw hv => by obtain rfl := cD.1 hw;obtain rfl := cD.1 hv;exact .refl _⟩
    obtain rfl := cD.1 hw;refine ⟨rfl,rfl,fun b hb => by obtain rfl := cD.1 hb;omega,kY _ _,fG _,by dsimp only;omega,fun r hr => ?_⟩
    obtain rfl := cD.1 hr;unfold HE;dsimp only;omega
  · obtain ⟨i,hi,rfl⟩ := hmem g hg;show 1 ≤ 2000;omega
  · refine B2.2 ?_;rw [VB];show ((List.range c.bs.length).map fun i : Nat => ((i : Int))).Pairwise _;refine UY.2 ((V6).imp fun {a b} h => by omega)
  · obtain ⟨i,hi,rfl⟩ := hmem g hg;unfold Q7;simp
  · obtain ⟨i,hi,rfl⟩ := hmem g hg;obtain rfl := cD.1 hw;exact hm
  · obtain ⟨i,hi,rfl⟩ := hmem g hg;show 1 ≤ 1000;omega
  · obtain ⟨i,hi,rfl⟩ := hmem g hg;unfold gX;rw [if_pos (.inl (by show 1 < 2;omega))]
  · obtain ⟨i,hi,rfl⟩ := hmem g hg;exact kY _ _
def L4 (gs : List G) (b : Int) : Option (G × Nat) := match gs.findIdx? fun g => decide (b ∈ g.1) with
  | some i => some (mO gs i,(mO gs i).1.idxOf b)
  | none => none
theorem C9 {gs : List G} {b : Int} {g : G} {i : Nat} (h : L4 gs b = some (g,i)) : ∃ k : Nat,oY gs b = (k : Int) ∧ gs[k]? = some g ∧ b ∈ g.1 ∧ i = g.1.idxOf b := by
  unfold L4 at h;cases hq : gs.findIdx? fun g => decide (b ∈ g.1) with
  | none => rw [hq] at h;cases h
  | some k =>
    rw [hq] at h;dsimp only at h;cases h;obtain ⟨hk,hb,_⟩ := List.findIdx?_eq_some_iff_getElem.1 hq;have e : mO gs k = gs[k] := by unfold mO;rw [aC,aA hk];rfl
    refine ⟨k,by unfold oY;rw [hq],by rw [e];exact aA hk,by rw [e];simpa using hb,rfl⟩
end Go.Ld
namespace Go.Proofs.YtmmkhmilpeodnaaGreat
open Go Go.Ab Go.Ld
attribute [local irreducible] VC AW cF aR kZ
set_option maxHeartbeats 4000000
theorem BQ (c : Cx) (gs : List G) (b : Int) (hl : gs.length ≤ 1000000) (hg : ∀ g,g ∈ gs → g.1.length ≤ 1000000) {g : G} {i : Nat} (h : L4 gs b = some (g,i)) :
    aR Tryz.prog 56 [.pr (gS c gs) 0,.i b] [] (.tup [OV g,.i i,.b true]) [] := by
  obtain ⟨k,h1,h2,h3,rfl⟩ := C9 h;have hf := wV gs b hl hg;rw [h1] at hf;have hgl : (iY gs).length = gs.length := iX _;have hkl := (aB.1 h2).1;have q : (iY gs)[((k : Int)).toNat]? = some (gA g) := by rw [bV,bR,h2];rfl
  have hix := uK g.1 b (by have := hg g (aM h2);omega)
  have hxi : uL g.1 b 0 = ((g.1.idxOf b : Nat) : Int) := by have := xU g.1 b 0 h3;simpa using this
  rw [hxi] at hix;generalize g.1.idxOf b = ia at *;obtain ⟨bs,ws⟩ := g;dsimp only at *;refine bQ T Tryz.func56 rfl rfl rfl rfl ?_
  (repeat' (first|refine wS ?_|refine wK ?_|refine wR ?_|refine wU ?_|(refine rg 0 (bS (bO T rfl) rfl (pT ?_)))|(refine rg 1 (mW rfl (nV ?_));refine iL T rfl (mW rfl (vV (kC (hf)) (aV ?_))))|(refine rg 2 (mW rfl (vV (aO rfl rfl) ?_)))|(refine rK (id := 4) 17 34 [[],[0],[0,1],[0,1,2],[],rN 5,rN 6,[],[7],[7,8],[7,8,9],[],rM 7 5,rM 7 6,rM 7 7,[],rM 7 9,rN 17,rN 18,rN 19] [[],[0],[0,1],[0,1,2],[],rN 5,rN 6,[],[7],[7,8],[7,8,9],[],rM 7 5,rM 7 6,rM 7 7,[],rM 7 9] (rM 17 17) [[],[],[],[],rM 17 4,[],[],rM 17 7,rM 17 7,rM 17 7,rM 17 7,rM 17 11,rM 17 7,rM 17 7,rM 17 7,rM 17 15,rM 17 7] cC rfl (by decide +kernel) (by decide +kernel) ?_;(dsimp only [List.take,List.drop]);refine dN rfl (dV rfl (by exact eM rfl rfl) ?_);refine dP T rfl (dO T rfl (dN rfl (dV rfl (ix T rfl (by omega) (oX _) q) (dO T rfl (dN rfl (dV rfl (by exact eM rfl rfl) ?_))))));refine dP T rfl (dO T rfl (dN rfl (dV rfl (ix T rfl (by omega) (oX _) q) (dP T rfl (dO T rfl (dN rfl (dV rfl (kC (hix)) (dE ?_))))))));refine gV ?_;refine aT T rfl rfl rfl rfl rfl rfl (by decide) rfl (pT ?_))|refine nZ ?_));all_goals try (exfalso;omega)
  all_goals exact ⟨.inl rfl,[],_,rfl,rfl,rfl,trivial,by decide,lH _⟩
end Go.Proofs.YtmmkhmilpeodnaaGreat
namespace Go.Ld
open Go.Ab Go.Proofs.YtmmkhmilpeodnaaGreat
def BM (g : G) (i : Nat) : List Int := g.2.map fun w => gP w i
theorem NS {g : G} {i k : Nat} (h : k < g.2.length) : (BM g i).take (k + 1) = (BM g i).take k ++ [gP g.2[k] i] := by
  unfold BM;rw [← kK,← kK,aX h,dI];rfl
end Go.Ld
namespace Go.Proofs.YtmmkhmilpeodnaaGreat
open Go Go.Ab Go.Ld
attribute [local irreducible] VC AW cF aR kZ
set_option maxHeartbeats 4000000
theorem TX {G l : List Int} {m : Nat} (hg : G.length ≤ m) (hm : m < l.length) : (ints (G ++ l.drop G.length))[0 + (m : Int).toNat]? = some [AV.i l[m]] := by
  rw [Nat.zero_add,bV,bR,aD hg,eF,show G.length + (m - G.length) = m by omega,aA hm];rfl
theorem WE {G l : List Int} {x : Int} (hg : G.length < l.length) : (ints (G ++ l.drop G.length)).set (0 + (G.length : Int).toNat) [AV.i x] = ints ((G ++ [x]) ++ l.drop (G ++ [x]).length) := by
  rw [Nat.zero_add,bV,← qG,kD _ _ (aY _),eX,aU hg,List.set_cons_zero];simp
theorem KJ {G l : List Int} (hg : G.length ≤ l.length) : (ints (G ++ l.drop G.length)).length = l.length := by simp;omega
theorem PJ {G l : List Int} : (ints (G ++ l.drop G.length)).take (0 + (G.length : Int).toNat) = ints G := by
  rw [Nat.zero_add,bV,← kK,List.take_append_of_le_length (aY _),cW (aY _)]
def kP (l : List Int) : Nat → List Int
  | 0 => []
  | m + 1 => if 0 < m ∧ l.getD m 0 = l.getD (m - 1) 0 then kP l m else kP l m ++ [l.getD m 0]
def AC (l : List Int) : List Int := kP l l.length
theorem FW {l : List Int} {m : Nat} (h : 0 < m) (e : l.getD m 0 = l.getD (m - 1) 0) : kP l (m + 1) = kP l m := by
  unfold kP;rw [if_pos ⟨h,e⟩];cases m <;> rfl
theorem FV {l : List Int} {m : Nat} (e : l.getD m 0 ≠ l.getD (m - 1) 0) : kP l (m + 1) = kP l m ++ [l.getD m 0] := by
  unfold kP;rw [if_neg (fun q => e q.2)];cases m <;> rfl
theorem FU (l : List Int) : kP l 1 = [l.getD 0 0] := by
  unfold kP;rw [if_neg (fun q => Nat.lt_irrefl _ q.1)];rfl
theorem M8 {l : List Int} {m : Nat} (h : m < l.length) : l.getD m 0 = l[m] := by rw [aC,aA h];rfl
theorem LO {G l : List Int} {m : Nat} {i : Nat} (hg : G.length ≤ m) (hm : m < l.length) (hi : i = m) : (ints (G ++ l.drop G.length))[i]? = some [AV.i (l.getD m 0)] := by
  have := TX hg hm;rw [Nat.zero_add,bV] at this;rw [hi,this,M8 hm]
theorem LP {l : List Int} {m i : Nat} (hm : m < l.length) (hi : i = m) : (ints l)[i]? = some [AV.i (l.getD m 0)] := by
  rw [hi,mC hm,M8 hm]
theorem OG (l : List Int) (hl : l.length ≤ 1000000) : aR Tryz.prog 58 [.sl 0 0 l.length 1] [.arr (ints l) 1] (.sl 0 0 (AC l).length 1) [.arr (ints (AC l)) 1] := by
  have hll : (ints l).length = l.length := by simp
  refine bQ T Tryz.func58 rfl rfl rfl rfl ?_;by_cases h2 : l.length < 2
  · have hk : AC l = l := by
      match l,h2 with
      | [],_ => rfl
      | [a],_ => exact FU _
      | _ :: _ :: _,h => exact absurd h (by simp)
    rw [hk]
    (repeat' (first|refine wS ?_|refine wR ?_|(refine wC rfl ?_ ?_<;>(intro hb;(try simp only [nm] at hb);try (exfalso;omega)))|(refine rg 0 (aV ?_))|(refine rg 1 (mW rfl (qW T rfl (vV (aO rfl rfl) ?_))))|(refine rg 2 (mW rfl (aV ?_)))|refine nZ ?_));all_goals first | (exfalso;omega) | exact ⟨.inl rfl,[0],_,rfl,rfl,rfl,⟨.inr (aE rfl rfl (bJ _)),trivial⟩,by decide,BJ⟩
  · (repeat' (first|refine wS ?_|refine wB ?_|refine wK ?_|(refine wC rfl (fun hb => ?_) (fun hb => ?_) <;> (((try simp only [nm] at hb);try (exfalso;omega))))|(refine rg 0 (aV ?_))|(refine rg 1 (mW rfl (qW T rfl (vV (aO rfl rfl) ?_))))|(refine rg 3 (aV ?_))|(refine nZ ?_)));all_goals try (exfalso;omega)
    refine dA (X := {k : Nat // 1 ≤ k ∧ k ≤ l.length ∧ kP l k = l.take k}) (fun k => [(0,.sl 0 0 l.length 1),(3,.i k.1)]) (fun _ => [.arr (ints l) 1]) (fun k => l.length - k.1) ⟨1,by omega,by omega,by rw [FU,M8 (by omega),aX (by omega)];rfl⟩ ⟨[0],rfl,by (repeat (first | exact trivial | refine ⟨rfl,?_⟩)),⟨.inr (aE rfl rfl (bJ _)),trivial⟩,by decide,BJ⟩ ?_
    rintro ⟨k,hk1,hk,hkc⟩;dsimp only;by_cases hlt : k < l.length
    · have e1 := LP (i := 0 + (k : Int).toNat) hlt (by omega)
      have e2 := LP (l := l) (m := k - 1) (i := 0 + ((k : Int) - 1).toNat) (by omega) (by omega)
      by_cases hd : l.getD k 0 = l.getD (k - 1) 0
      · have hc1 := FW (l := l) hk1 hd;rw [hkc] at hc1;generalize l.getD k 0 = a at *;generalize l.getD (k - 1) 0 = b at *
        (repeat' (first|refine wS ?_|refine wB ?_|refine wK ?_|refine wT ?_|(refine wC rfl ?_ ?_<;>(intro hb;(try simp only [nm] at hb);try (exfalso;omega)))|(refine rg 4 (dX rfl (qW T rfl (vV (aO rfl rfl) ?_))))|(refine bL (id := 6) 61 zT3 (rM 16 10) zT4 cC rfl (by decide +kernel) (dN rfl (dN rfl (dV rfl (by exact aK T rfl rfl rfl rfl rfl (by omega) (by omega)) ?_)));refine dV rfl (by exact aQ T rfl rfl (bG rfl e1) rfl) ?_;refine dN rfl (dN rfl (dV rfl (cM rfl rfl (by omega) (by omega)) (dV rfl (by exact aK T rfl rfl rfl rfl rfl (by omega) (by omega)) ?_)));refine dV rfl (by exact aQ T rfl rfl (bG rfl e2) rfl) ?_;refine dV rfl (kO rfl rfl (by omega)) (dE ?_))|(refine rg 7 (dX rfl (vV (by exact jZ T rfl rfl rfl rfl rfl rfl (by omega) (by omega) (by omega)) ?_));refine aV ?_)|(refine rg 8 (aV ?_))|refine nZ ?_));all_goals try (exfalso;omega)
        have hl1 : (kP l (k + 1)).length = k := by rw [hc1];simp;omega
        refine dA (X := {j : Nat // 1 ≤ j ∧ k + j ≤ l.length ∧ (kP l (k + j)).length + 1 ≤ k + j}) (fun j => [(0,.sl 0 0 l.length 1),(3,.i (kP l (k + j.1)).length),(4,.sl 0 (0 + (k : Int).toNat) ((l.length : Int) - (k : Int)).toNat 1),(5,.i j.1)]) (fun j => [.arr (ints (kP l (k + j.1) ++ l.drop (kP l (k + j.1)).length)) 1]) (fun j => l.length - (k + j.1)) ⟨1,by omega,by omega,by omega⟩ ⟨[0],rfl,⟨rfl,by dsimp only;rw [hl1];rfl,rfl,rfl,trivial⟩,⟨.inr (aE rfl (by dsimp only;rw [hl1,hc1,bM]) (bJ _)),trivial⟩,by decide,BJ⟩ ?_
        clear e1 e2 hd hl1 hc1;rintro ⟨j,hj1,hj,hjc⟩;dsimp only;by_cases hjl : k + j < l.length
        · have e1 := LO (G := kP l (k + j)) (l := l) (m := k + j) (i := 0 + (k : Int).toNat + (j : Int).toNat) (by omega) hjl (by omega)
          have e2 := LO (G := kP l (k + j)) (l := l) (m := k + j - 1) (i := 0 + (k : Int).toNat + ((j : Int) - 1).toNat) (by omega) (by omega) (by omega)
          have e3 := TX (G := kP l (k + j)) (l := l) (aY _) (by omega)
          have hset := WE (G := kP l (k + j)) (l := l) (x := l.getD (k + j) 0) (by omega)
          have hal := KJ (G := kP l (k + j)) (l := l) (by omega)
          have hdup := FW (l := l) (m := k + j) (by omega)
          have hnew := FV (l := l) (m := k + j);have hnl : ∀ G : List Int,(G ++ [l.getD (k + j) 0]).length = G.length + 1 := fun G => by simp
          rw [show k + j + 1 = k + (j + 1) by omega] at hdup hnew
          generalize l.getD (k + j) 0 = a at *;generalize l.getD (k + j - 1) 0 = b at *;generalize l[(kP l (k + j)).length] = y at *;generalize kP l (k + j) = G at *;by_cases hd : a = b
          · have hdup := hdup hd;generalize hA : ints (G ++ l.drop G.length) = A at *
            (repeat' (first|refine wS ?_|refine wB ?_|refine wK ?_|refine wU ?_|(refine wC rfl ?_ ?_<;>(intro hb;(try simp only [nm] at hb);try (exfalso;omega)))|(refine rg 9 (dX rfl (qW T rfl (vV (aO rfl rfl) ?_))))|(refine bL (id := 11) 61 zT3 (rM 35 10) zT5 cC rfl (by decide +kernel) (dN rfl (dN rfl (dV rfl (by exact aK T rfl rfl rfl rfl rfl (by omega) (by omega)) ?_)));refine dV rfl (by exact aQ T rfl rfl (bG rfl e1) rfl) ?_;refine dN rfl (dN rfl (dV rfl (cM rfl rfl (by omega) (by omega)) (dV rfl (by exact aK T rfl rfl rfl rfl rfl (by omega) (by omega)) ?_)));refine dV rfl (by exact aQ T rfl rfl (bG rfl e2) rfl) ?_;refine dV rfl (pR rfl rfl (by omega)) (dE ?_))|(refine iA 10 rfl rfl rfl (by omega) (by omega) ?_)|refine nZ ?_));all_goals try (exfalso;omega)
            all_goals exact ⟨⟨j + 1,by omega,by omega,by rw [hdup];omega⟩,by dsimp only;omega,[0],rfl,⟨rfl,by dsimp only;rw [hdup];rfl,rfl,rfl,trivial⟩,⟨.inr (aE rfl (by dsimp only;rw [hdup];exact hA.symm) (bJ _)),trivial⟩,by decide,BJ⟩
          · have hnew := hnew hd;have hgl := hnl G;generalize hA : ints (G ++ l.drop G.length) = A at *
            (repeat' (first|refine wS ?_|refine wB ?_|refine wK ?_|refine wT ?_|(refine wC rfl ?_ ?_<;>(intro hb;(try simp only [nm] at hb);try (exfalso;omega)))|(refine rg 9 (dX rfl (qW T rfl (vV (aO rfl rfl) ?_))))|(refine bL (id := 11) 61 zT3 (rM 35 10) zT5 cC rfl (by decide +kernel) (dN rfl (dN rfl (dV rfl (by exact aK T rfl rfl rfl rfl rfl (by omega) (by omega)) ?_)));refine dV rfl (by exact aQ T rfl rfl (bG rfl e1) rfl) ?_;refine dN rfl (dN rfl (dV rfl (cM rfl rfl (by omega) (by omega)) (dV rfl (by exact aK T rfl rfl rfl rfl rfl (by omega) (by omega)) ?_)));refine dV rfl (by exact aQ T rfl rfl (bG rfl e2) rfl) ?_;refine dV rfl (uM rfl rfl (by omega)) (dE ?_))|(refine rg 12 (dX rfl (dX rfl (vV (by exact aK T rfl rfl rfl rfl rfl (by omega) (by omega)) ?_)));refine vV (by exact aQ T rfl rfl (bG rfl e1) rfl) ?_;refine vV (by exact aK T rfl rfl rfl rfl rfl (by omega) (by omega)) ?_;refine aT T rfl rfl rfl rfl rfl rfl (by decide) (lC rfl e3 rfl) ?_)|(refine iA 13 rfl rfl rfl (by omega) (by omega) ?_)|(refine iA 10 rfl rfl rfl (by omega) (by omega) ?_)|refine nZ ?_));all_goals try (exfalso;omega)
            all_goals exact ⟨⟨j + 1,by omega,by omega,by rw [hnew];omega⟩,by dsimp only;omega,[0],rfl,⟨rfl,by dsimp only;rw [hnew,hgl];rfl,rfl,rfl,trivial⟩,⟨.inr (aE rfl (by dsimp only;rw [hnew];exact hset) (bJ _)),trivial⟩,by decide,BJ⟩
        · have hkj : k + j = l.length := by omega
          have hcm : AC l = kP l (k + j) := by rw [hkj];rfl
          have hal := KJ (G := kP l (k + j)) (l := l) (by omega)
          have htk := PJ (G := kP l (k + j)) (l := l);rw [hcm];generalize kP l (k + j) = G at *
          (repeat' (first|refine wS ?_|refine wR ?_|refine wE ?_|(refine wC rfl ?_ ?_<;>(intro hb;(try simp only [nm] at hb);try (exfalso;omega)))|(refine rg 9 (dX rfl (qW T rfl (vV (aO rfl rfl) ?_))))|(refine rg 14 (dX rfl (vV (by exact jZ T rfl rfl rfl rfl rfl rfl (by omega) (by omega) (by omega)) ?_));refine PB T rfl rfl rfl rfl rfl (by rw [hal];omega) ?_)|(refine rg 15 (dX rfl (vV (by exact jZ T rfl rfl rfl rfl rfl rfl (by omega) (by omega) (by omega)) ?_));refine aV ?_)|refine nZ ?_));all_goals try (exfalso;omega)
          all_goals exact ⟨.inl rfl,[0],_,rfl,(by show AV.sl 0 0 ((G.length : Int) - 0).toNat 1 = AV.sl 0 0 G.length 1;rw [show ((G.length : Int) - 0).toNat = G.length by omega]),rfl,⟨.inr (aE rfl htk (bJ _)),trivial⟩,by decide,BJ⟩
      · have hnew := FV (l := l) hd;rw [hkc,M8 hlt,← aX hlt] at hnew;generalize l.getD k 0 = a at *;generalize l.getD (k - 1) 0 = b at *
        (repeat' (first|refine wS ?_|refine wB ?_|refine wK ?_|refine wU ?_|(refine wC rfl ?_ ?_<;>(intro hb;(try simp only [nm] at hb);try (exfalso;omega)))|(refine rg 4 (dX rfl (qW T rfl (vV (aO rfl rfl) ?_))))|(refine bL (id := 6) 61 zT3 (rM 16 10) zT4 cC rfl (by decide +kernel) (dN rfl (dN rfl (dV rfl (by exact aK T rfl rfl rfl rfl rfl (by omega) (by omega)) ?_)));refine dV rfl (by exact aQ T rfl rfl (bG rfl e1) rfl) ?_;refine dN rfl (dN rfl (dV rfl (cM rfl rfl (by omega) (by omega)) (dV rfl (by exact aK T rfl rfl rfl rfl rfl (by omega) (by omega)) ?_)));refine dV rfl (by exact aQ T rfl rfl (bG rfl e2) rfl) ?_;refine dV rfl (gL rfl rfl (by omega)) (dE ?_))|(refine iA 5 rfl rfl rfl (by omega) (by omega) ?_)|refine nZ ?_));all_goals try (exfalso;omega)
        all_goals exact ⟨⟨k + 1,by omega,hlt,hnew⟩,by dsimp only;omega,[0],rfl,by (repeat (first | exact trivial | refine ⟨rfl,?_⟩)),⟨.inr (aE rfl rfl (bJ _)),trivial⟩,by decide,BJ⟩
    · obtain rfl : k = l.length := by omega
      have hcm : AC l = l := by
        show kP l l.length = l;rw [hkc,dQ]
      rw [hcm]
      (repeat' (first|refine wS ?_|refine wR ?_|refine wE ?_|(refine wC rfl ?_ ?_<;>(intro hb;(try simp only [nm] at hb);try (exfalso;omega)))|(refine rg 4 (dX rfl (qW T rfl (vV (aO rfl rfl) ?_))))|(refine rg 16 (mW rfl (aV ?_)))|refine nZ ?_));all_goals first | (exfalso;omega) | exact ⟨.inl rfl,[0],_,rfl,rfl,rfl,⟨.inr (aE rfl rfl (bJ _)),trivial⟩,by decide,BJ⟩
abbrev pE (g : G) (i : Nat) : List Int := AC (iM (BM g i))
theorem HT (c : Cx) (gs : List G) (b : Int) (h : oA c gs) {g : G} {i : Nat} (hg : L4 gs b = some (g,i)) :
    aR Tryz.prog 16 [.pr (gS c gs) 0,.i b] [] (.sl 0 0 (pE g i).length 1) [.arr (ints (pE g i)) 1] := by
  unfold pE;obtain ⟨k0,h1,h2,h3,h4⟩ := C9 hg;have hgm := aM h2;have og := h.mid.out.ok g hgm;have hwl := h.mid.wl g hgm;have hl12 : gs.length ≤ 12 := cJ h.mid.out.len h.mid.out.ln;have hgr := BQ c gs b (by omega) (fun x hx => by have := (h.mid.out.ok x hx).ln;omega) hg
  have hi : i < g.1.length := by rw [h4];exact iE h3
  have hln := og.ln;have hil : (BM g i).length = g.2.length := bC _;have htk : ∀ k (h : k < g.2.length),_ := fun k h => NS (g := g) (i := i) h;have hwg : ∀ k (h : k < g.2.length),(ints g.2[k].1)[((i : Int)).toNat]? = some [.i (gP g.2[k] i)] ∧ (ints g.2[k].1).length = g.1.length := fun k h => by
    have := (og.ws _ (aI h)).pl;exact ⟨mG 0 (by omega) rfl,by rw [cQ];exact this⟩
  have hs1 := PV (BM g i) (by omega)
  have hsl := pI (BM g i);have hs2 := OG (iM (BM g i)) (by omega)
  rw [hsl] at hs2;obtain ⟨bs,ws⟩ := g;dsimp only at *;generalize BM (bs,ws) i = P at *;have hwsl : (fP ws).length = ws.length := eS _;refine bQ T Tryz.func16 rfl rfl rfl rfl ?_
  (repeat' (first|refine wS ?_|(refine rg 0 (aV ?_))|(refine rg 1 (dX rfl (vV (kC (hgr)) (mW rfl (xW rfl (xW rfl (xW rfl (bS (bO T rfl) rfl (aT T rfl rfl rfl rfl rfl rfl (by decide) rfl (pT ?_))))))))))|refine nZ ?_));all_goals try (exfalso;omega)
  refine fU 5 (cs := gA (bs,ws)) rfl rfl rfl ?_
  (repeat' (first|refine wS ?_|(refine rg 2 (vV (dB rfl) (sK 8 1 rfl (by decide) ?_)))|refine nZ ?_));all_goals try (exfalso;omega)
  (repeat' (first|refine wB ?_|(refine rg 3 (iL T rfl (qW T rfl (mV ?_))))|refine nZ ?_));all_goals try (exfalso;omega)
  refine dA (X := {k : Nat // k ≤ ws.length}) (fun k => [(6,.i i),(8,.sl 0 0 k.1 1),(19,.rowE (fP ws) 3),(20,.i (fP ws).length),(21,.i k.1)]) (fun k => [.arr (ints (P.take k.1)) 1]) (fun k => ws.length - k.1) ⟨0,cT _⟩ ⟨[1],rfl,(by repeat first|exact trivial|refine ⟨rfl,?_⟩),⟨.inr rfl,trivial⟩,by decide,lH _⟩ ?_
  rintro ⟨k,hk⟩;dsimp only;by_cases hlt : k < ws.length
  · have hgk := qH hlt;obtain ⟨q1,q2⟩ := hwg k hlt;have q3 := htk k hlt;have q4 : (ints (P.take k)).length = k := by rw [cQ,bD];omega
    have q5 : ints (P.take (k + 1)) = ints (P.take k) ++ [[.i (gP ws[k] i)]] := by rw [q3,xR]
    generalize ints (P.take k) = A at *;generalize gP ws[k] i = v at *;generalize ws[k] = w at *;obtain ⟨wp,wm,wc⟩ := w;dsimp only at *
    (repeat' (first|refine wS ?_|refine wB ?_|refine wK ?_|(refine wC rfl ?_ ?_<;>(intro hb;(try simp only [nm] at hb);try (exfalso;omega)))|(refine rg 4 (vV (aO rfl rfl) ?_))|(refine rg 5 (vV (ix T rfl (by omega) (kW _) hgk) (lW T rfl (bS (bO T rfl) rfl (aT T rfl rfl rfl rfl rfl rfl (by decide) rfl ?_)))))|(refine rg 6 (mW rfl (iL T rfl (mW rfl (vV (ix T rfl (by omega) (cH _) q1) (lW T rfl (bS (by exact bB T rfl rfl (by decide) (by decide) rfl rfl rfl) rfl ?_))))));refine gE T rfl rfl rfl rfl rfl rfl (by omega) (kV.whole rfl rfl) rfl (by simp;omega) (by simp;omega) rfl ?_;refine aV ?_)|(refine rg 7 (vV (bT rfl rfl (by omega) (by omega)) (mV ?_)))|refine nZ ?_));all_goals try (exfalso;omega)
    exact ⟨⟨k + 1,hlt⟩,by dsimp only;omega,⟨[3],rfl,(by repeat first|exact trivial|refine ⟨rfl,?_⟩),⟨.inr (aE rfl (by dsimp only;rw [q5];exact mJ q4.symm) (bJ _)),trivial⟩,by decide,lH _⟩⟩
  · obtain rfl : k = ws.length := by omega
    rw [show P.take ws.length = P by rw [← hil,dQ]]
    rw [← hil] at *
    (repeat' (first|refine wS ?_|refine wR ?_|refine wE ?_|(refine wC rfl ?_ ?_<;>(intro hb;(try simp only [nm] at hb);try (exfalso;omega)))|(refine rg 4 (vV (aO rfl rfl) ?_))|(refine rg 8 (mW rfl (fQ [0] rfl rfl (hs1) rfl rfl (by decide) ⟨.inr (aE rfl rfl (bJ _)),trivial⟩ (by simp) rfl ?_)))|(refine rg 9 (mW rfl (fQ [0] rfl rfl (hs2) rfl rfl (by decide) ⟨.inr (aE rfl (bU _ (bJ _)) (bJ _)),trivial⟩ (by simp) rfl ?_));refine aV ?_)|refine nZ ?_));all_goals try (exfalso;omega)
    exact ⟨.inl rfl,[0],_,rfl,rfl,rfl,⟨.inr (aE rfl (bU _ (bJ _)) (bJ _)),trivial⟩,by decide,lH _⟩
end Go.Proofs.YtmmkhmilpeodnaaGreat
namespace Go.Ld
open Go.Ab Go.Proofs.YtmmkhmilpeodnaaGreat
def ZN (a b : SP) : SP := (min a.1 b.1,max a.2 b.2)
def MQ (g : G) (i k : Nat) : SP := (g.2.take k).foldl (fun r w => ZN r (gC w i)) (gC (gY g) i)
def EH (g : G) (i : Nat) : SP := MQ g i g.2.length
theorem MP {g : G} {i k : Nat} (h : k < g.2.length) : MQ g i (k + 1) = ZN (MQ g i k) (gC g.2[k] i) := by
  unfold MQ;rw [aX h,VD];rfl
def zK3 (l : List Int) : Int × Bool := if l.length = 1 then (l.getD 0 0,true) else (0,false)
def RU (c : Cx) (l : List Int) (r : SP) (lot : Int) : Int := if l.length = 0 ∨ l.any (fun id => decide ((c.bs.getD id.toNat (0,0,0)).1 ≠ lot)) = true then 0 else r.1
end Go.Ld
namespace Go.Proofs.YtmmkhmilpeodnaaGreat
open Go Go.Ab Go.Ld
attribute [local irreducible] VC AW cF aR kZ
set_option maxHeartbeats 4000000
theorem FK (c : Cx) (gs : List G) (b : Int) (h : oA c gs) {g : G} {i : Nat} (hg : L4 gs b = some (g,i)) :
    aR Tryz.prog 27 [.pr (gS c gs) 0,.i b] [] (.sl 0 0 g.1.length 1) [.arr (ints g.1) 1] := by
  obtain ⟨k0,h1,h2,h3,h4⟩ := C9 hg;have hl12 : gs.length ≤ 12 := cJ h.mid.out.len h.mid.out.ln;have hln := (h.mid.out.ok g (aM h2)).ln;have hgr := BQ c gs b (by omega) (fun x hx => by have := (h.mid.out.ok x hx).ln;omega) hg
  have hcl := CK g.1 (by omega)
  obtain ⟨bs,ws⟩ := g;dsimp only at *;refine bQ T Tryz.func27 rfl rfl rfl rfl ?_
  (repeat' (first|refine wS ?_|refine wR ?_|(refine rg 0 (aV ?_))|(refine rg 1 (dX rfl (vV (kC (hgr)) (mW rfl (xW rfl (xW rfl (xW rfl (bS (bO T rfl) rfl (aT T rfl rfl rfl rfl rfl rfl (by decide) rfl (pT ?_))))))))))|(refine rg 2 (iL T rfl (bS (by exact fK rfl rfl hcl (.inr ⟨rfl,rfl,by simp⟩)) rfl ?_));refine aV ?_)|refine nZ ?_));all_goals try (exfalso;omega)
  exact ⟨.inl rfl,[1],_,rfl,rfl,rfl,⟨.inr (aE rfl (bU _ (bJ _)) (bJ _)),trivial⟩,by decide,lH _⟩
theorem R6 (c : Cx) (gs : List G) (b : Int) (h : oA c gs) {g : G} {i : Nat} (hg : L4 gs b = some (g,i)) :
    aR Tryz.prog 13 [.pr (gS c gs) 0,.i b] [] (.tup [.i (zK3 (pE g i)).1,.b (zK3 (pE g i)).2]) [] := by
  have hp := HT c gs b h hg;generalize pE g i = P at *;have hl : (ints P).length = P.length := cQ _;unfold zK3;by_cases h1 : P.length = 1
  · rw [if_pos h1];have q := C6 (l := P) (j := (0 : Int)) (i := 0) 0 (by omega) rfl
    refine bQ T Tryz.func13 rfl rfl rfl rfl ?_
    (repeat' (first|refine wS ?_|refine wK ?_|(refine wC rfl ?_ ?_<;>(intro hb;(try simp only [nm] at hb);try (exfalso;omega)))|(refine rg 0 (pT ?_))|(refine rg 1 (dX rfl (bS (by exact fK rfl rfl hp (.inr ⟨rfl,rfl,by simp⟩)) rfl ?_));refine aV ?_)|(refine rg 2 (mW rfl (qW T rfl (vV (fI rfl rfl) ?_))))|refine nZ ?_));all_goals try (exfalso;omega)
    refine fE [(6,.sl 0 0 P.length 1)] [.arr (ints P) 1] ⟨[0],rfl,(by repeat first|exact trivial|refine ⟨rfl,?_⟩),⟨.inr (aE rfl (bU _ (bJ _)) (bJ _)),trivial⟩,by decide,lH _⟩ ?_
    (repeat' (first|refine wR ?_|(refine rg 4 (mW rfl (vV (by exact aK T rfl rfl rfl rfl rfl (by omega) (by omega)) ?_));refine vV (by exact aQ T rfl rfl (bG rfl q) rfl) ?_;refine pT ?_)|refine nZ ?_));all_goals try (exfalso;omega)
    all_goals exact ⟨.inl rfl,[],_,rfl,rfl,rfl,trivial,by decide,lH _⟩
  · rw [if_neg h1];refine bQ T Tryz.func13 rfl rfl rfl rfl ?_
    (repeat' (first|refine wS ?_|refine wR ?_|(refine wC rfl ?_ ?_<;>(intro hb;(try simp only [nm] at hb);try (exfalso;omega)))|(refine rg 0 (pT ?_))|(refine rg 1 (dX rfl (bS (by exact fK rfl rfl hp (.inr ⟨rfl,rfl,by simp⟩)) rfl ?_));refine aV ?_)|(refine rg 2 (mW rfl (qW T rfl (vV (fI rfl rfl) ?_))))|(refine rg 3 (pT ?_))|refine nZ ?_));all_goals try (exfalso;omega)
    all_goals exact rQ
theorem KG (c : Cx) (gs : List G) (b : Int) (h : oA c gs) {g : G} {i : Nat} (hg : L4 gs b = some (g,i)) :
    aR Tryz.prog 18 [.pr (gS c gs) 0,.i b] [] (kI (EH g i).1 (EH g i).2) [] := by
  obtain ⟨k0,h1,h2,h3,h4⟩ := C9 hg;have hgm := aM h2;have og := h.mid.out.ok g hgm;have hwl := h.mid.wl g hgm;have hne := h.mid.ne g hgm;have hl12 : gs.length ≤ 12 := cJ h.mid.out.len h.mid.out.ln;have hgr := BQ c gs b (by omega) (fun x hx => by have := (h.mid.out.ok x hx).ln;omega) hg
  have hi : i < g.1.length := by rw [h4];exact iE h3
  have hln := og.ln;have hwg : ∀ k (h : k < g.2.length),(eZ g.2[k].2.2)[((i : Int)).toNat]? = some [.i (gC g.2[k] i).1,.i (gC g.2[k] i).2] ∧ (eZ g.2[k].2.2).length = g.1.length := fun k h => by
    have := (og.ws _ (aI h)).cl;exact ⟨pY (by omega) rfl,by rw [gB];exact this⟩
  have hst : ∀ k (h : k < g.2.length),_ := fun k h => MP (g := g) (i := i) h;have h0 : 0 < g.2.length := fC.2 hne;have hf0 : MQ g i 0 = gC g.2[0] i := by
    obtain ⟨bs,ws⟩ := g;cases ws with
    | nil => exact absurd rfl hne
    | cons w l => rfl
  unfold EH;obtain ⟨bs,ws⟩ := g;dsimp only at *;generalize MQ (bs,ws) i = F at *;have hwsl : (fP ws).length = ws.length := eS _;have hg0 := qH h0;obtain ⟨q1,q2⟩ := hwg 0 h0;rw [← hf0] at q1;refine bQ T Tryz.func18 rfl rfl rfl rfl ?_
  (repeat' (first|refine wS ?_|(refine rg 0 (bS (bO T rfl) rfl ?_))|(refine rg 1 (dX rfl (vV (kC (hgr)) (mW rfl (xW rfl (xW rfl (xW rfl (bS (bO T rfl) rfl (aT T rfl rfl rfl rfl rfl rfl (by decide) rfl (pT ?_))))))))))|refine nZ ?_));all_goals try (exfalso;omega)
  refine fU 5 (cs := gA (bs,ws)) rfl rfl rfl ?_;generalize hw0 : ws[0] = w0 at *;obtain ⟨wp0,wm0,wc0⟩ := w0;dsimp only at *
  (repeat' (first|refine wS ?_|refine wB ?_|refine wK ?_|refine wU ?_|(refine rg 2 (mW rfl (vV (dH rfl) ?_)))|(refine rg 4 (iL T rfl (vV (ix T rfl (by omega) (kW _) hg0) (iL T rfl (mW rfl (vV (ix T rfl (by omega) (iS _) q1) (lW T rfl (bS (bO T rfl) rfl (aT T rfl rfl rfl rfl rfl rfl (by decide) rfl ?_)))))))))|(refine rg 5 (iL T rfl (qW T rfl (mV ?_))))|refine nZ ?_));all_goals try (exfalso;omega)
  refine dA (X := {k : Nat // k ≤ ws.length}) (fun k => [(4,.ptr 0 0),(6,.i i),(8,.ptr 1 0),(30,.rowE (fP ws) 3),(31,.i (fP ws).length),(32,.i k.1)]) (fun k => [.cells [.i 0,.i 0],.cells [.i (F k.1).1,.i (F k.1).2]]) (fun k => ws.length - k.1) ⟨0,cT _⟩ ⟨[0,2],rfl,(by repeat first|exact trivial|refine ⟨rfl,?_⟩),⟨.inr rfl,.inr rfl,trivial⟩,by decide,lH _⟩ ?_
  rintro ⟨k,hk⟩;dsimp only;by_cases hlt : k < ws.length
  · have hgk := qH hlt;obtain ⟨q1,q2⟩ := hwg k hlt;have q3 := hst k hlt;have hh := zC0 (F k).1 (F k).2 (gC ws[k] i).1 (gC ws[k] i).2;generalize hF1 : F (k + 1) = f1 at *;generalize F k = f at *;generalize gC ws[k] i = r at *;generalize ws[k] = w at *;obtain ⟨wp,wm,wc⟩ := w;dsimp only at *
    (repeat' (first|refine wS ?_|refine wB ?_|refine wK ?_|(refine wC rfl ?_ ?_<;>(intro hb;(try simp only [nm] at hb);try (exfalso;omega)))|(refine rg 6 (vV (aO rfl rfl) ?_))|(refine rg 7 (vV (ix T rfl (by omega) (kW _) hgk) (lW T rfl (bS (bO T rfl) rfl (aT T rfl rfl rfl rfl rfl rfl (by decide) rfl ?_)))))|(refine bL (id := 8) 45 [[],[],[1],[],[1,2,3],rM 1 4,rN 6] (rM 36 7) [[],[36],[36],[36,37,38],[36],[36],[]] cC rfl (by decide +kernel) (dO T rfl (dP T rfl (dO T rfl (dN rfl (dV rfl (ix T rfl (by omega) (iS _) q1) (dO T rfl (dV rfl (kC (hh)) (dE ?_))))))));refine aT T rfl rfl rfl rfl rfl rfl (by decide) rfl ?_)|(refine rg 9 (vV (bT rfl rfl (by omega) (by omega)) (mV ?_)))|refine nZ ?_));all_goals try (exfalso;omega)
    exact ⟨⟨k + 1,hlt⟩,by dsimp only;omega,⟨[0,1],rfl,(by repeat first|exact trivial|refine ⟨rfl,?_⟩),⟨.inr rfl,.inr (by dsimp only;rw [hF1,q3];rfl),trivial⟩,by decide,lH _⟩⟩
  · obtain rfl : k = ws.length := by omega
    (repeat' (first|refine wS ?_|refine wR ?_|refine wE ?_|(refine wC rfl ?_ ?_<;>(intro hb;(try simp only [nm] at hb);try (exfalso;omega)))|(refine rg 6 (vV (aO rfl rfl) ?_))|(refine rg 10 (lW T rfl (aT T rfl rfl rfl rfl rfl rfl (by decide) rfl ?_)))|refine nZ ?_));all_goals try (exfalso;omega)
    all_goals exact ⟨.inl rfl,[],_,rfl,rfl,rfl,trivial,by decide,lH _⟩
theorem zL2 : CA Tryz.prog 48 0 = some (3,0) := by kernel_rfl
theorem RV (c : Cx) (gs : List G) (lot id : Int) (h : 0 ≤ id ∧ id < c.bs.length) : aR Tryz.prog 62 [.i id,.pr [.pr (gS c gs) 0] 0,.pr [.i lot] 0] [] (.b (decide ((c.bs.getD id.toNat (0,0,0)).1 ≠ lot))) [] := by
  have hbx : c.bs[id.toNat]? = some (c.bs.getD id.toNat (0,0,0)) := by
    rw [aC,aA (by omega)];rfl
  have hbxl : (eB c.bs).length = c.bs.length := bC _;have qb : (eB c.bs)[id.toNat]? = some [.i (c.bs.getD id.toNat (0,0,0)).1,.i (c.bs.getD id.toNat (0,0,0)).2.1,.i (c.bs.getD id.toNat (0,0,0)).2.2] := by rw [bR,hbx];rfl
  generalize c.bs.getD id.toNat (0,0,0) = bx at *;obtain ⟨x1,x2,x3⟩ := bx;dsimp only at *;refine bQ T Tryz.func62 rfl rfl rfl rfl ?_
  (repeat' (first|refine wS ?_|refine wR ?_|(refine rg 0 (aV ?_))|(refine bL (id := 1) 15 [[],[0],[0,1],[0,1,2],[],rN 5,rN 6,rN 7,[],rN 9] (rM 5 10) [[],[],[],[],rM 5 4,[],[],[],rM 5 8,[]] cC rfl (by decide +kernel) (dO T rfl (dV rfl (by exact eM rfl rfl) ?_));refine dP T rfl (dO T rfl (dN rfl (dV rfl (ix T rfl (by omega) (jN _) qb) (dP T rfl (dO T rfl (dO T rfl (dV rfl (fI rfl rfl) (dE ?_))))))));refine aV ?_)|refine nZ ?_));all_goals try (exfalso;omega)
  all_goals refine cY (.inl rfl) rfl (mI ?_)
  all_goals simp
theorem R2 (c : Cx) (gs : List G) (b lot : Int) (h : oA c gs) {g : G} {i : Nat} (hg : L4 gs b = some (g,i)) (hr : ∀ x,x ∈ pE g i → 0 ≤ x ∧ x < c.bs.length) (hpl : (pE g i).length ≤ 1000000) :
    aR Tryz.prog 20 [.pr (gS c gs) 0,.i b,.i lot] [] (.i (RU c (pE g i) (EH g i) lot)) [] := by
  have hp := HT c gs b h hg;have hrg := KG c gs b h hg;generalize pE g i = P at *;generalize EH g i = r at *;obtain ⟨r1,r2⟩ := r;dsimp only at *;have hl : (ints P).length = P.length := cQ _;have hc := SL (l := P) (F := 62) (caps := [.pr [.pr (gS c gs) 0] 0,.pr [.i lot] 0]) (p := fun id => decide ((c.bs.getD id.toNat (0,0,0)).1 ≠ lot)) hpl rfl (fun x hx => RV c gs lot x (hr x hx));unfold RU;by_cases h0 : P.length = 0
  · rw [if_pos (.inl h0)];refine bQ T Tryz.func20 rfl rfl rfl rfl ?_
    (repeat' (first|refine wS ?_|(refine rg 0 (bS (cE rfl rfl) rfl (bS (cE rfl rfl) rfl (aV ?_))))|refine nZ ?_));refine fU 3 rfl rfl rfl ?_
    refine fU 5 rfl rfl rfl ?_
    (repeat' (first|refine wS ?_|(refine rg 1 (lW T rfl (mW rfl (bS (by exact fK rfl rfl hp (.inr ⟨rfl,rfl,by simp⟩)) rfl ?_)));refine aV ?_)|refine nZ ?_));refine fE [(1,.i b),(3,.pr [.pr (gS c gs) 0] 0),(5,.pr [.i lot] 0),(7,.sl 0 0 P.length 1)] [.arr (ints P) 1] ⟨[2],rfl,(by repeat first|exact trivial|refine ⟨rfl,?_⟩),⟨.inr (aE rfl (bU _ (bJ _)) (bJ _)),trivial⟩,by decide,lH _⟩ ?_
    refine I1 7 (es := ints P) rfl rfl hl.symm (hC (bJ _)) ?_
    (repeat' (first|refine wS ?_|refine wR ?_|refine wT ?_|(refine rg 2 (mW rfl (qW T rfl (vV (kO rfl rfl (by omega)) (mV ?_))));(iterate 3 refine gF ?_);refine pV ?_)|(refine rg 3 (aV ?_))|refine nZ ?_));all_goals try (exfalso;omega)
    all_goals exact rQ
  · cases ha : P.any fun id => decide ((c.bs.getD id.toNat (0,0,0)).1 ≠ lot) with
    | true =>
      rw [ha] at hc;rw [if_pos (.inr rfl)];refine bQ T Tryz.func20 rfl rfl rfl rfl ?_
      (repeat' (first|refine wS ?_|(refine rg 0 (bS (cE rfl rfl) rfl (bS (cE rfl rfl) rfl (aV ?_))))|refine nZ ?_));refine fU 3 rfl rfl rfl ?_
      refine fU 5 rfl rfl rfl ?_
      (repeat' (first|refine wS ?_|(refine rg 1 (lW T rfl (mW rfl (bS (by exact fK rfl rfl hp (.inr ⟨rfl,rfl,by simp⟩)) rfl ?_)));refine aV ?_)|refine nZ ?_));refine fE [(1,.i b),(3,.pr [.pr (gS c gs) 0] 0),(5,.pr [.i lot] 0),(7,.sl 0 0 P.length 1)] [.arr (ints P) 1] ⟨[2],rfl,(by repeat first|exact trivial|refine ⟨rfl,?_⟩),⟨.inr (aE rfl (bU _ (bJ _)) (bJ _)),trivial⟩,by decide,lH _⟩ ?_
      refine I1 7 (es := ints P) rfl rfl hl.symm (hC (bJ _)) ?_
      (repeat' (first|refine wS ?_|refine wR ?_|refine wT ?_|(refine rg 2 (mW rfl (qW T rfl (vV (gL rfl rfl (by omega)) (mW rfl (yN rfl (yV (by exact jG rfl rfl) ?_))))));refine yV (kC (hc)) (pV ?_))|(refine rg 3 (aV ?_))|refine nZ ?_));all_goals try (exfalso;omega)
      all_goals exact rQ
    | false =>
      rw [ha] at hc;rw [if_neg (by rintro (q | q);exact h0 q;cases q)]
      refine bQ T Tryz.func20 rfl rfl rfl rfl ?_
      (repeat' (first|refine wS ?_|(refine rg 0 (bS (cE rfl rfl) rfl (bS (cE rfl rfl) rfl (aV ?_))))|refine nZ ?_));refine fU 3 rfl rfl rfl ?_
      refine fU 5 rfl rfl rfl ?_
      (repeat' (first|refine wS ?_|(refine rg 1 (lW T rfl (mW rfl (bS (by exact fK rfl rfl hp (.inr ⟨rfl,rfl,by simp⟩)) rfl ?_)));refine aV ?_)|refine nZ ?_));refine fE [(1,.i b),(3,.pr [.pr (gS c gs) 0] 0),(5,.pr [.i lot] 0),(7,.sl 0 0 P.length 1)] [.arr (ints P) 1] ⟨[2],rfl,(by repeat first|exact trivial|refine ⟨rfl,?_⟩),⟨.inr (aE rfl (bU _ (bJ _)) (bJ _)),trivial⟩,by decide,lH _⟩ ?_
      refine I1 7 (es := ints P) rfl rfl hl.symm (hC (bJ _)) ?_
      (repeat' (first|refine wS ?_|refine wK ?_|refine wR ?_|refine wU ?_|(refine rg 2 (mW rfl (qW T rfl (vV (gL rfl rfl (by omega)) (mW rfl (yN rfl (yV (by exact jG rfl rfl) ?_))))));refine yV (kC (hc)) (pV ?_))|(refine rg 4 (lW T rfl (mW rfl (vV (kC (hrg)) (vV (by exact Z5 T rfl zL2 rfl rfl) ?_))));refine aV ?_)|refine nZ ?_));all_goals try (exfalso;omega)
      all_goals exact rQ
end Go.Proofs.YtmmkhmilpeodnaaGreat
namespace Go.Ld
open Go.Ab Go.Proofs.YtmmkhmilpeodnaaGreat
def A5 (g : G) (p q : List Int) (w : W) (i : Nat) : Bool := decide (gP w i = p.getD (g.1.getD i 0).toNat 0) && sQ (gC w i).1 (gC w i).2 (q.getD (p.getD (g.1.getD i 0).toNat 0).toNat 0)
def yI (g : G) (p q : List Int) (w : W) : Bool := (List.range g.1.length).all (A5 g p q w)
theorem YC {g : G} {p q : List Int} {w : W} (h : ∀ i,i < g.1.length → A5 g p q w i = true) : yI g p q w = true := bA.2 fun i hi => h i (eN.1 hi)
theorem zD2 {g : G} {p q : List Int} {w : W} {i : Nat} (hi : i < g.1.length) (h : A5 g p q w i = false) : yI g p q w = false := VE.2 ⟨i,eN.2 hi,by rw [h];simp⟩
structure zJ8 (n : Nat) (p q : List Int) : Prop where
  pl : p.length = n
  ql : q.length = n
  pr : ∀ i,i < n → 0 ≤ p.getD i 0 ∧ p.getD i 0 < n
end Go.Ld
namespace Go.Proofs.YtmmkhmilpeodnaaGreat
open Go Go.Ab Go.Ld
attribute [local irreducible] VC AW cF aR kZ
set_option maxHeartbeats 4000000
theorem UJ {n : Nat} (g : G) (p q : List Int) (w : W) (hg : vR n g) (hw : V3 n g.1.length w) (hp : zJ8 n p q) (hn : n ≤ 1000) :
    aR Tryz.prog 64 [.agg (wA w),.pr (gA g) 0,.pr [.rowE (ints p) 1] 0,.pr [.rowE (ints q) 1] 0] [] (.b (yI g p q w)) [] := by
  have hln := hg.ln;have hyes := YC (g := g) (p := p) (q := q) (w := w);have hno := fun (i : Nat) (hi : i < g.1.length) => zD2 (g := g) (p := p) (q := q) (w := w) hi;have hpp := hw.pl;have hcc := hw.cl;have hgi : ∀ i,i < g.1.length → 0 ≤ g.1.getD i 0 ∧ g.1.getD i 0 < n := fun i hi => by
    rw [aC,aA hi];exact hg.rg _ (aI hi)
  have hlp : (ints p).length = n := by rw [cQ];exact hp.pl
  have hlq : (ints q).length = n := by rw [cQ];exact hp.ql
  obtain ⟨bs,ws⟩ := g;obtain ⟨wp,wm,wc⟩ := w;dsimp only at *;have hlb : (ints bs).length = bs.length := cQ _;have hl1 : (ints wp).length = bs.length := by rw [cQ];exact hpp
  have hl2 : (eZ wc).length = bs.length := by rw [gB];exact hcc
  generalize yI (bs,ws) p q (wp,wm,wc) = R at *;refine bQ T Tryz.func64 rfl rfl rfl rfl ?_
  (repeat' (first|refine wS ?_|refine wB ?_|(refine rg 0 (bS (cE rfl rfl) rfl (aV ?_)))|(refine rg 1 (iL T rfl (qW T rfl (mV ?_))))|refine nZ ?_));all_goals try (exfalso;omega)
  refine fU 4 (cs := wA (wp,wm,wc)) rfl rfl rfl ?_;refine dA (X := {k : Nat // k ≤ bs.length ∧ ∀ i,i < k → A5 (bs,ws) p q (wp,wm,wc) i = true}) (fun k => [(2,.pr [.rowE (ints p) 1] 0),(3,.pr [.rowE (ints q) 1] 0),(4,.pr (wA (wp,wm,wc)) 0),(9,.rowE (ints bs) 1),(10,.i (ints bs).length),(11,.i k.1)]) (fun _ => []) (fun k => bs.length - k.1) ⟨0,cT _,F2⟩ (eW []) ?_;rintro ⟨k,hk,hall⟩;dsimp only;by_cases hlt : k < bs.length
  · obtain ⟨g1,g2⟩ := hgi k hlt;have qb := mG (l := bs) (j := (k : Int)) (i := k) 0 (by omega) rfl
    have qp := mG (l := wp) (j := (k : Int)) (i := k) 0 (by omega) rfl
    have qc := pY (l := wc) (j := (k : Int)) (i := k) (by omega) rfl
    have hok : A5 (bs,ws) p q (wp,wm,wc) k = (decide (wp.getD k 0 = p.getD (bs.getD k 0).toNat 0) && sQ (wc.getD k (0,0)).1 (wc.getD k (0,0)).2 (q.getD (p.getD (bs.getD k 0).toNat 0).toNat 0)) := rfl;have hn2 := hno k hlt;generalize bs.getD k 0 = b at *;obtain ⟨p1,p2⟩ := hp.pr b.toNat (by omega)
    have qp2 := mG (l := p) (j := b) (i := b.toNat) 0 (by have := hp.pl;omega) (by omega)
    generalize p.getD b.toNat 0 = x at *;have qq := mG (l := q) (j := x) (i := x.toNat) 0 (by have := hp.ql;omega) (by omega)
    generalize q.getD x.toNat 0 = y at *;generalize wp.getD k 0 = v at *;generalize wc.getD k (0,0) = r at *;obtain ⟨r1,r2⟩ := r;dsimp only at *;have hh := KF r1 r2 y;by_cases hv : v = x
    · rw [decide_eq_true hv,iV] at hok;generalize sQ r1 r2 y = hb' at *;cases hb' with
      | true =>
        (repeat' (first|refine wS ?_|refine wB ?_|refine wK ?_|refine wU ?_|(refine wC rfl ?_ ?_<;>(intro hb;(try simp only [nm] at hb);try (exfalso;omega)))|(refine rg 2 (vV (aO rfl rfl) ?_))|(refine rg 3 (mW rfl (vV (ix T rfl (by omega) (cH _) qb) (lW T rfl (pT ?_)))))|(refine bL (id := 4) 43 zT6 (rM 16 26) zT7 cC rfl (by decide +kernel) (dP T rfl (dO T rfl (dN rfl (dV rfl (ix T rfl (by omega) (cH _) qp) (dO T rfl (dO T rfl (dN rfl (dV rfl (ix T rfl (by omega) (cH _) qp2) (dL T ?_)))))))));refine dV rfl (fI rfl rfl) (dM ?_);refine mU rfl rfl rfl rfl ?_ ?_<;>(intro hb;rw [hb];(try simp only [nm] at hb);try (exfalso;omega))<;>(refine tF T ?_);(all_goals (refine tO T rfl (tN rfl (dT rfl (ix T rfl (by omega) (iS _) qc) (tO T rfl (tO T rfl (tO T rfl (tN rfl (dT rfl (ix T rfl (by omega) (cH _) qp2) (tO T rfl (dT rfl (ix T rfl (by omega) (cH _) qq) ?_)))))))));refine tO T rfl (dT rfl (kC (hh)) (dT rfl (dH rfl) (dV rfl (fX rfl rfl) (dE ?_)))))))|(refine rg 6 (vV (bT rfl rfl (by omega) (by omega)) (mV ?_)))|refine nZ ?_));all_goals try (exfalso;omega)
        exact ⟨⟨k + 1,hlt,fun i hi => by
          rcases iD i k with h | h
          · exact hall i h
          · obtain rfl : i = k := by omega
            exact hok⟩,by dsimp only;omega,[],rfl,⟨rfl,rfl,rfl,rfl,rfl,rfl,trivial⟩,trivial,dD,lH _⟩
      | false =>
        have hR := hn2 hok;subst hR
        (repeat' (first|refine wS ?_|refine wB ?_|refine wK ?_|refine wR ?_|refine wT ?_|(refine wC rfl ?_ ?_<;>(intro hb;(try simp only [nm] at hb);try (exfalso;omega)))|(refine rg 2 (vV (aO rfl rfl) ?_))|(refine rg 3 (mW rfl (vV (ix T rfl (by omega) (cH _) qb) (lW T rfl (pT ?_)))))|(refine bL (id := 4) 43 zT6 (rM 16 26) zT7 cC rfl (by decide +kernel) (dP T rfl (dO T rfl (dN rfl (dV rfl (ix T rfl (by omega) (cH _) qp) (dO T rfl (dO T rfl (dN rfl (dV rfl (ix T rfl (by omega) (cH _) qp2) (dL T ?_)))))))));refine dV rfl (fI rfl rfl) (dM ?_);refine mU rfl rfl rfl rfl ?_ ?_<;>(intro hb;rw [hb];(try simp only [nm] at hb);try (exfalso;omega))<;>(refine tF T ?_);(all_goals (refine tO T rfl (tN rfl (dT rfl (ix T rfl (by omega) (iS _) qc) (tO T rfl (tO T rfl (tO T rfl (tN rfl (dT rfl (ix T rfl (by omega) (cH _) qp2) (tO T rfl (dT rfl (ix T rfl (by omega) (cH _) qq) ?_)))))))));refine tO T rfl (dT rfl (kC (hh)) (dT rfl (dH rfl) (dV rfl (fX rfl rfl) (dE ?_)))))))|(refine rg 5 (aV ?_))|refine nZ ?_));all_goals try (exfalso;omega)
        all_goals exact rQ
    · rw [decide_eq_false hv,iW] at hok;have hR := hn2 hok;subst hR
      (repeat' (first|refine wS ?_|refine wB ?_|refine wK ?_|refine wR ?_|refine wT ?_|(refine wC rfl ?_ ?_<;>(intro hb;(try simp only [nm] at hb);try (exfalso;omega)))|(refine rg 2 (vV (aO rfl rfl) ?_))|(refine rg 3 (mW rfl (vV (ix T rfl (by omega) (cH _) qb) (lW T rfl (pT ?_)))))|(refine bL (id := 4) 43 zT6 (rM 16 26) zT7 cC rfl (by decide +kernel) (dP T rfl (dO T rfl (dN rfl (dV rfl (ix T rfl (by omega) (cH _) qp) (dO T rfl (dO T rfl (dN rfl (dV rfl (ix T rfl (by omega) (cH _) qp2) (dL T ?_)))))))));refine dV rfl (fI rfl rfl) (dM ?_);refine mU rfl rfl rfl rfl ?_ ?_<;>(intro hb;rw [hb];(try simp only [nm] at hb);try (exfalso;omega))<;>(refine dG ?_);(all_goals (refine tG rfl (tG rfl (tG rfl (tG rfl (tG rfl (tG rfl (tG rfl (tG rfl (tG rfl (dG ?_)))))))));refine tG rfl (tG rfl (tG rfl (dV rfl (jF rfl rfl) (dE ?_)))))))|(refine rg 5 (aV ?_))|refine nZ ?_));all_goals try (exfalso;omega)
      all_goals exact rQ
  · obtain rfl : k = bs.length := by omega
    have hR := hyes hall;subst hR
    (repeat' (first|refine wS ?_|refine wR ?_|refine wE ?_|(refine wC rfl ?_ ?_<;>(intro hb;(try simp only [nm] at hb);try (exfalso;omega)))|(refine rg 2 (vV (aO rfl rfl) ?_))|(refine rg 7 (aV ?_))|refine nZ ?_));all_goals try (exfalso;omega)
    all_goals exact rQ
end Go.Proofs.YtmmkhmilpeodnaaGreat
namespace Go.Ld
open Go.Ab Go.Proofs.YtmmkhmilpeodnaaGreat
def GC (g : G) (p q : List Int) (m : Int) (w : W) : Int := if yI g p q w && (decide (m < 0) || decide (w.2.1 < m)) then w.2.1 else m
def tW (g : G) (p q : List Int) (k : Nat) : Int := (g.2.take k).foldl (GC g p q) (-1)
def mH (g : G) (p q : List Int) : Int := tW g p q g.2.length
theorem zT {g : G} {p q : List Int} {k : Nat} (h : k < g.2.length) : tW g p q (k + 1) = GC g p q (tW g p q k) g.2[k] := by
  unfold tW;rw [aX h,VD];rfl
theorem I0 {g : G} {p q : List Int} (h : ∀ w, w ∈ g.2 → 0 ≤ w.2.1 ∧ w.2.1 ≤ 4000000) : ∀ k, k ≤ g.2.length → -1 ≤ tW g p q k ∧ tW g p q k ≤ 4000000
  | 0,_ => by unfold tW;simp
  | k + 1,hk => by
    have ih := I0 (p := p) (q := q) h k (by omega)
    have := h g.2[k] (aI _);rw [zT (by omega)]
    unfold GC;split <;> omega
def zI (gs : List G) (p q : List Int) (k : Nat) : Int := ((gs.take k).map fun g => mH g p q).sum
theorem MH {gs : List G} {p q : List Int} {k : Nat} (h : k < gs.length) : zI gs p q (k + 1) = zI gs p q k + mH gs[k] p q := by
  unfold zI;rw [aX h,dI,zF1];simp
def ZS (c : Cx) (gs : List G) (p q : List Int) : Bool :=
  decide (p.length = c.bs.length) && decide (q.length = p.length) && Go.Pm.permB p && gs.all (fun g => decide (0 ≤ mH g p q)) && decide (zI gs p q gs.length ≤ c.m)
theorem QT {n : Nat} {p q : List Int} (h : Go.Pm.permB p = true) (hp : p.length = n) (hq : q.length = p.length) : zJ8 n p q := by
  refine ⟨hp,by omega,fun i hi => ?_⟩
  have e : iM p = nats (List.range p.length) := of_decide_eq_true h;have hm : p.getD i 0 ∈ p := by rw [aC,aA (by omega)];exact aI _
  have := (Go.Pm.sorted_perm p).mem_iff.2 hm;rw [e,hp] at this;exact rC.1 this
end Go.Ld
namespace Go.Proofs.YtmmkhmilpeodnaaGreat
open Go Go.Ab Go.Ld Go.Pm
attribute [local irreducible] VC AW cF aR kZ
set_option maxHeartbeats 4000000
theorem EP (p : List Int) (hl : p.length ≤ 17592186043904) : aR Tryz.prog 63 [.rowE (ints p) 1] [] (.b (permB p)) [] := by
  have h1 := A9 p;have h2 := O3 p hl;have hlen : (ints (iM p)).length = p.length := by simp [pI]
  have hsl := pI p;have hB : permB p = decide (iM p = nats (List.range p.length)) := rfl;rw [hB];generalize iM p = B at *;have hrl : (nats (List.range p.length)).length = p.length := by simp
  refine bQ T Tryz.func63 rfl rfl rfl rfl ?_
  (repeat' (first|refine wS ?_|refine wB ?_|(refine rg 0 (aV ?_))|(refine rg 1 (mW rfl (vV (by exact eO rfl rfl h1 rfl rfl rfl) ?_));refine vV (by exact eO rfl rfl h2 rfl rfl rfl) ?_;refine qW T rfl (mV ?_))|refine nZ ?_));refine dA (X := {i : Nat // i ≤ p.length ∧ B.take i = (nats (List.range p.length)).take i}) (fun i => [(7,.rowE (ints B) 1),(8,.i (ints B).length),(9,.i (i.1 : Int))]) (fun _ => []) (fun i => p.length - i.1) ⟨0,cT _,rfl⟩ (eW []) ?_
  rintro ⟨i,hi,hg⟩;dsimp only;by_cases hlt : i < p.length
  · have q1 := mG (l := B) (j := (i : Int)) (i := i) 0 (by omega) rfl
    have hx : B.getD i 0 = B[i]'(by omega) := by rw [aC,aA (by omega)];rfl
    by_cases e : (i : Int) = B.getD i 0
    · have hg2 : B.take (i + 1) = (nats (List.range p.length)).take (i + 1) := by
        rw [aX (by omega),aX (by omega),hg,← hx,← e]
        simp
      generalize B.getD i 0 = x at *
      (repeat' (first|refine wS ?_|refine wB ?_|refine wK ?_|refine wU ?_|(refine wC rfl ?_ ?_<;>(intro hb;(try simp only [nm] at hb);try (exfalso;omega)))|(refine rg 2 (vV (aO rfl rfl) ?_))|(refine rg 3 (mW rfl (vV (ix T rfl (by omega) (cH B) q1) (lW T rfl (pT ?_)))))|(refine rg 4 (dX rfl (vV (pR rfl rfl (by omega)) ?_)))|(refine rg 6 (vV (bT rfl rfl (by omega) (by omega)) (mV ?_)))|refine nZ ?_));all_goals first | (exfalso;omega) | exact ⟨⟨i + 1,hlt,hg2⟩,by dsimp only;omega,eW []⟩
    · rw [show decide (B = nats (List.range p.length)) = false from decide_eq_false (fun h => e (by rw [hx];simp [h]))]
      generalize B.getD i 0 = x at *
      (repeat' (first|refine wS ?_|refine wB ?_|refine wK ?_|refine wR ?_|refine wT ?_|(refine wC rfl ?_ ?_<;>(intro hb;(try simp only [nm] at hb);try (exfalso;omega)))|(refine rg 2 (vV (aO rfl rfl) ?_))|(refine rg 3 (mW rfl (vV (ix T rfl (by omega) (cH B) q1) (lW T rfl (pT ?_)))))|(refine rg 4 (dX rfl (vV (uM rfl rfl (by omega)) ?_)))|(refine rg 5 (aV ?_))|refine nZ ?_));all_goals first | (exfalso;omega) | exact rQ
  · rw [cW (by omega),cW (by omega)] at hg
    rw [show decide (B = nats (List.range p.length)) = true from decide_eq_true hg]
    (repeat' (first|refine wS ?_|refine wR ?_|refine wE ?_|(refine wC rfl ?_ ?_<;>(intro hb;(try simp only [nm] at hb);try (exfalso;omega)))|(refine rg 2 (vV (aO rfl rfl) ?_))|(refine rg 7 (aV ?_))|refine nZ ?_));all_goals first | (exfalso;omega) | exact rQ
theorem XN (n : Int) (h : n ≤ 17592186043904) : aR Tryz.prog 24 [.i n] [] (.sl 0 0 n.toNat 1) [.arr (ints (nats (List.range n.toNat))) 1] := by
  refine bQ T Tryz.func24 rfl rfl rfl rfl ?_
  (repeat' (first|refine wS ?_|refine wB ?_|(refine rg 0 (aV ?_))|(refine rg 1 (aV ?_))|(refine rg 2 (mW rfl (vV (wQ rfl rfl) (mV ?_))))|refine nZ ?_));refine zE6 3 1 rfl (by decide) ?_
  refine dA (X := {i : Nat // i ≤ n.toNat}) (fun i => [(3,.sl 0 0 i.1 1),(6,.i (max n 0)),(7,.i (i.1 : Int))]) (fun i => [.arr (ints (nats (List.range i.1))) 1]) (fun i => n.toNat - i.1) ⟨0,cT _⟩ ⟨[0],rfl,⟨rfl,rfl,rfl,trivial⟩,⟨.inr rfl,trivial⟩,by decide,F2⟩ ?_
  rintro ⟨i,hi⟩;dsimp only;have hl : (ints (nats (List.range i))).length = i := by simp
  by_cases hlt : i < n.toNat
  · have hs : ints (nats (List.range i)) ++ [[AV.i (i : Int)]] = ints (nats (List.range (i + 1))) := by rw [List.range_succ,NH]
    (repeat' (first|refine wS ?_|refine wB ?_|refine wK ?_|(refine wC rfl ?_ ?_<;>(intro hb;(try simp only [nm] at hb);try (exfalso;omega)))|(refine rg 3 (vV (aO rfl rfl) ?_))|(refine rg 4 (mW rfl (aV ?_)))|(refine rg 5 (dX rfl (bS (by exact bB T rfl rfl (by decide) (by decide) rfl rfl rfl) rfl ?_));refine gE T rfl rfl rfl rfl rfl rfl (by simp) (kV.whole rfl rfl) rfl (by simp;omega) (by simp;omega) rfl ?_;refine aV ?_)|(refine rg 6 (vV (bT rfl rfl (by omega) (by omega)) (mV ?_)))|refine nZ ?_));all_goals first | (exfalso;omega) | skip
    exact ⟨⟨i + 1,hlt⟩,by dsimp only;omega,[2],rfl,⟨rfl,rfl,rfl,trivial⟩,⟨.inr (aE rfl ((mJ hl.symm).trans hs) (bJ _)),trivial⟩,by decide,F2⟩
  · obtain rfl : i = n.toNat := by omega
    (repeat' (first|refine wS ?_|refine wR ?_|refine wE ?_|(refine wC rfl ?_ ?_<;>(intro hb;(try simp only [nm] at hb);try (exfalso;omega)))|(refine rg 3 (vV (aO rfl rfl) ?_))|(refine rg 7 (mW rfl (aV ?_)))|refine nZ ?_));all_goals first | (exfalso;omega) | exact ⟨.inl rfl,[0],_,rfl,rfl,rfl,⟨.inr (aE rfl rfl (bJ _)),trivial⟩,by decide,F2⟩
theorem AK (c : Cx) (gs : List G) (p q : List Int) (h : oA c gs) (hm : c.m ≤ 1048576) (hpl : p.length ≤ 17592186043904) (hql : q.length ≤ 17592186043904) :
    aR Tryz.prog 22 [.pr (gS c gs) 0,.rowE (ints p) 1,.rowE (ints q) 1] [] (.b (ZS c gs p q)) [] := by
  have hn12 := h.mid.n12;have hl12 : gs.length ≤ 12 := cJ h.mid.out.len h.mid.out.ln;have hbl : (eB c.bs).length = c.bs.length := bC _;have hlp : (ints p).length = p.length := cQ _;have hlq : (ints q).length = q.length := cQ _;have hgl : (iY gs).length = gs.length := iX _;have hpr := EP p hpl;have hpq := fun hB h1 h2 => QT (n := c.bs.length) (p := p) (q := q) hB h1 h2;have hbst : ∀ g,g ∈ gs → -1 ≤ mH g p q ∧ mH g p q ≤ 4000000 := fun g hg => I0 (fun w hw => ⟨((h.mid.out.ok g hg).ws w hw).m0,((h.mid.out.ok g hg).ws w hw).m1⟩) _ (aY _);unfold ZS;generalize hB : permB p = pb at *;by_cases h1 : p.length = c.bs.length
  · rw [decide_eq_true h1,iV];by_cases h2 : q.length = p.length
    · rw [decide_eq_true h2,iV];cases pb with
      | false =>
        rw [iW,iW];refine bQ T Tryz.func22 rfl rfl rfl rfl ?_
        (repeat' (first|refine wS ?_|(refine rg 0 (bS (cE rfl rfl) rfl (bS (cE rfl rfl) rfl (aV ?_))))|refine nZ ?_));refine fU 4 rfl rfl rfl ?_
        refine fU 5 rfl rfl rfl ?_
        (repeat' (first|refine wS ?_|refine wR ?_|refine wT ?_|(refine bL (id := 1) 80 zT8 (rM 14 20) zT9 cC rfl (by decide +kernel) (dO T rfl (dV rfl (eP T rfl rfl) (dN rfl (dV rfl (by exact eM rfl rfl) ?_))));refine dP T rfl (dO T rfl (dV rfl (eP T rfl rfl) (dV rfl (pR rfl rfl (by omega)) (dN rfl (tO T rfl (dT rfl (eP T rfl rfl) (tO T rfl (dT rfl (eP T rfl rfl) (dT rfl (pR rfl rfl (by omega)) ?_)))))))));refine dV rfl (fX rfl rfl) (dN rfl (tO T rfl (dT rfl (kC (hpr)) (dT rfl (dH rfl) (dV rfl (fX rfl rfl) (dE ?_)))))))|(refine rg 2 (aV ?_))|refine nZ ?_));all_goals try (exfalso;omega)
        all_goals exact rQ
      | true =>
        rw [iV];have hpq := hpq rfl h1 h2;have hno : ∀ k (hk : k < gs.length),mH gs[k] p q < 0 → (gs.all (fun g => decide (0 ≤ mH g p q)) && decide (zI gs p q gs.length ≤ c.m)) = false := fun k hk hb => by
          rw [show gs.all (fun g => decide (0 ≤ mH g p q)) = false from VE.2 ⟨gs[k],aI hk,by simp;omega⟩];rfl
        have hyes : (∀ k (hk : k < gs.length),0 ≤ mH gs[k] p q) → (gs.all (fun g => decide (0 ≤ mH g p q)) && decide (zI gs p q gs.length ≤ c.m)) = decide (zI gs p q gs.length ≤ c.m) := fun hb => by
          rw [show gs.all (fun g => decide (0 ≤ mH g p q)) = true from bA.2 fun x hx => by
            obtain ⟨k,hk,rfl⟩ := JJ hx
            exact decide_eq_true (hb k hk)];rfl
        generalize (gs.all (fun g => decide (0 ≤ mH g p q)) && decide (zI gs p q gs.length ≤ c.m)) = R at *;refine bQ T Tryz.func22 rfl rfl rfl rfl ?_
        (repeat' (first|refine wS ?_|(refine rg 0 (bS (cE rfl rfl) rfl (bS (cE rfl rfl) rfl (aV ?_))))|refine nZ ?_));refine fU 4 rfl rfl rfl ?_
        refine fU 5 rfl rfl rfl ?_
        (repeat' (first|refine wS ?_|refine wB ?_|refine wK ?_|refine wU ?_|(refine bL (id := 1) 80 zT8 (rM 14 20) zT9 cC rfl (by decide +kernel) (dO T rfl (dV rfl (eP T rfl rfl) (dN rfl (dV rfl (by exact eM rfl rfl) ?_))));refine dP T rfl (dO T rfl (dV rfl (eP T rfl rfl) (dV rfl (pR rfl rfl (by omega)) (dN rfl (tO T rfl (dT rfl (eP T rfl rfl) (tO T rfl (dT rfl (eP T rfl rfl) (dT rfl (pR rfl rfl (by omega)) ?_)))))))));refine dV rfl (fX rfl rfl) (dN rfl (tO T rfl (dT rfl (kC (hpr)) (dT rfl (dH rfl) (dV rfl (fX rfl rfl) (dE ?_)))))))|(refine rg 3 (aV ?_))|(refine rg 4 (mW rfl (nV ?_));refine iL T rfl (qW T rfl (mV ?_)))|refine nZ ?_));all_goals try (exfalso;omega)
        refine dA (X := {k : Nat // k ≤ gs.length ∧ (∀ j (hj : j < gs.length),j < k → 0 ≤ mH gs[j] p q) ∧ 0 ≤ zI gs p q k ∧ zI gs p q k ≤ 4000000 * k}) (fun k => [(0,.pr (gS c gs) 0),(4,.pr [.rowE (ints p) 1] 0),(5,.pr [.rowE (ints q) 1] 0),(7,.i (zI gs p q k.1)),(37,.rowE (iY gs) 2),(38,.i (iY gs).length),(39,.i k.1)]) (fun _ => []) (fun k => gs.length - k.1) ⟨0,cT _,fun j hj h => absurd h (eA _),fG _,fG _⟩ (eW []) ?_;rintro ⟨k,hk,hall,hs0,hs1⟩;dsimp only;by_cases hlt : k < gs.length
        · have hgk := M7 hlt;have hgm := aI hlt;have og := h.mid.out.ok _ hgm;have hwl := h.mid.wl _ hgm;have hno := hno k hlt;have hsk := MH (p := p) (q := q) hlt;have hbk := hbst _ hgm;have hall2 : 0 ≤ mH gs[k] p q → ∀ j (hj : j < gs.length),j < k + 1 → 0 ≤ mH gs[j] p q := fun hb j hj hjk => by
            rcases iD j k with h' | h'
            · exact hall j hj h'
            · obtain rfl : j = k := by omega
              exact hb
          clear hyes hall;generalize hg : gs[k] = g at *;have hcl : ∀ w,w ∈ g.2 → _ := fun w hw => UJ g p q w og (og.ws w hw) hpq (by omega)
          have hbs : ∀ j (hj : j < g.2.length),_ := fun j hj => zT (g := g) (p := p) (q := q) hj;have hbb : ∀ j,j ≤ g.2.length → _ := fun j hj => I0 (g := g) (p := p) (q := q) (fun w hw => ⟨(og.ws w hw).m0,(og.ws w hw).m1⟩) j hj;have hmw : ∀ w,w ∈ g.2 → 0 ≤ w.2.1 ∧ w.2.1 ≤ 4000000 := fun w hw => ⟨(og.ws w hw).m0,(og.ws w hw).m1⟩;unfold mH at hbk hsk hno hall2;generalize hS : zI gs p q (k + 1) = S1 at *;generalize zI gs p q k = S at *;have hbs0 : tW g p q 0 = -1 := rfl;unfold GC at hbs;obtain ⟨bs,ws⟩ := g;dsimp only at *;generalize tW (bs,ws) p q = B at *;generalize yI (bs,ws) p q = FB at *;have hwsl : (fP ws).length = ws.length := eS _
          (repeat' (first|refine wS ?_|refine wB ?_|refine wK ?_|(refine wC rfl ?_ ?_<;>(intro hb;(try simp only [nm] at hb);try (exfalso;omega)))|(refine rg 5 (vV (aO rfl rfl) ?_))|(refine rg 6 (vV (ix T rfl (by omega) (oX _) hgk) (lW T rfl (bS (bO T rfl) rfl (aT T rfl rfl rfl rfl rfl rfl (by decide) rfl ?_)))))|refine nZ ?_));all_goals try (exfalso;omega)
          refine fU 9 (cs := gA (bs,ws)) rfl rfl rfl ?_
          (repeat' (first|refine wS ?_|refine wB ?_|(refine rg 7 (vV (by exact jG rfl rfl) ?_);refine aV ?_)|(refine rg 8 (aV ?_))|(refine rg 9 (iL T rfl (qW T rfl (mV ?_))))|refine nZ ?_));all_goals try (exfalso;omega)
          refine dA (X := {j : Nat // j ≤ ws.length}) (fun j => [(0,.pr (gS c gs) 0),(4,.pr [.rowE (ints p) 1] 0),(5,.pr [.rowE (ints q) 1] 0),(7,.i S),(37,.rowE (iY gs) 2),(38,.i (iY gs).length),(39,.i k),(10,.clo (.func 64) [] [.pr (gA (bs,ws)) 0,.pr [.rowE (ints p) 1] 0,.pr [.rowE (ints q) 1] 0]),(11,.i (B j.1)),(45,.rowE (fP ws) 3),(46,.i (fP ws).length),(47,.i j.1)]) (fun _ => []) (fun j => ws.length - j.1) ⟨0,cT _⟩ ⟨[],rfl,⟨rfl,rfl,rfl,rfl,rfl,rfl,rfl,rfl,by dsimp only;rw [hbs0];rfl,rfl,rfl,rfl,trivial⟩,trivial,dD,lH _⟩ ?_
          rintro ⟨j,hj⟩;dsimp only;by_cases hjl : j < ws.length
          · have hgj := qH hjl;have hwm := aI hjl;have hc1 := hcl _ hwm;have hb1 := hbs j hjl;have hb2 := hbb j hj;have hm1 := hmw _ hwm;generalize ws[j] = w at *;generalize FB w = fb at *;generalize hB1 : B (j + 1) = B1 at *;generalize B j = B0 at *;obtain ⟨wp,wm,wc⟩ := w;dsimp only at *;have hnx : B1 = B (j + 1) := hB1.symm;cases fb with
            | false =>
              rw [iW,if_neg (by simp)] at hb1
              (repeat' (first|refine wS ?_|refine wB ?_|refine wK ?_|refine wU ?_|(refine wC rfl ?_ ?_<;>(intro hb;(try simp only [nm] at hb);try (exfalso;omega)))|(refine rg 10 (vV (aO rfl rfl) ?_))|(refine rg 11 (vV (ix T rfl (by omega) (kW _) hgj) (lW T rfl (bS (bO T rfl) rfl (aT T rfl rfl rfl rfl rfl rfl (by decide) rfl ?_)))))|(refine rg 12 (mW rfl (lW T rfl (vV (by exact eO rfl rfl hc1 rfl rfl rfl) ?_)));refine mV ?_;(iterate 3 refine gF ?_);(iterate 4 refine gU ?_);refine gF (pV ?_))|(refine rg 14 (vV (bT rfl rfl (by omega) (by omega)) (mV ?_)))|refine nZ ?_));all_goals try (exfalso;omega)
              exact ⟨⟨j + 1,hjl⟩,by dsimp only;omega,[],rfl,⟨rfl,rfl,rfl,rfl,rfl,rfl,rfl,rfl,by dsimp only;rw [hB1,hb1];rfl,rfl,rfl,rfl,trivial⟩,trivial,dD,lH _⟩
            | true =>
              rw [iV] at hb1;by_cases hb0 : B0 < 0
              · rw [decide_eq_true hb0,Bool.true_or,if_pos rfl] at hb1
                (repeat' (first|refine wS ?_|refine wB ?_|refine wK ?_|refine wT ?_|(refine rg 10 (vV (xX rfl rfl (by omega)) ?_))|(refine rg 11 (vV (ix T rfl (by omega) (kW _) hgj) (lW T rfl (bS (bO T rfl) rfl (aT T rfl rfl rfl rfl rfl rfl (by decide) rfl ?_)))))|(refine rg 12 (mW rfl (lW T rfl (vV (by exact eO rfl rfl hc1 rfl rfl rfl) ?_)));refine mW rfl (yN rfl (yV (xX rfl rfl (by omega)) (yM ?_)));(iterate 4 refine gF ?_);refine gT (pW rfl (pV ?_)))|(refine rg 13 (iL T rfl (aV ?_)))|(refine rg 14 (vV (bT rfl rfl (by omega) (by omega)) (mV ?_)))|refine nZ ?_));all_goals try (exfalso;omega)
                exact ⟨⟨j + 1,hjl⟩,by dsimp only;omega,[],rfl,⟨rfl,rfl,rfl,rfl,rfl,rfl,rfl,rfl,by dsimp only;rw [hB1,hb1];rfl,rfl,rfl,rfl,trivial⟩,trivial,dD,lH _⟩
              · rw [decide_eq_false hb0,zN2] at hb1;by_cases hwb : wm < B0
                · rw [if_pos (decide_eq_true hwb)] at hb1
                  (repeat' (first|refine wS ?_|refine wB ?_|refine wK ?_|refine wT ?_|(refine rg 10 (vV (xX rfl rfl (by omega)) ?_))|(refine rg 11 (vV (ix T rfl (by omega) (kW _) hgj) (lW T rfl (bS (bO T rfl) rfl (aT T rfl rfl rfl rfl rfl rfl (by decide) rfl ?_)))))|(refine rg 12 (mW rfl (lW T rfl (vV (by exact eO rfl rfl hc1 rfl rfl rfl) ?_)));refine mW rfl (yN rfl (yV (M9 rfl rfl (by omega)) (yN rfl (yP T rfl (yO T rfl (yN rfl (yV (xX rfl rfl (by omega)) (gT (pV ?_)))))))));refine pV ?_)|(refine rg 13 (iL T rfl (aV ?_)))|(refine rg 14 (vV (bT rfl rfl (by omega) (by omega)) (mV ?_)))|refine nZ ?_));all_goals try (exfalso;omega)
                  exact ⟨⟨j + 1,hjl⟩,by dsimp only;omega,[],rfl,⟨rfl,rfl,rfl,rfl,rfl,rfl,rfl,rfl,by dsimp only;rw [hB1,hb1];rfl,rfl,rfl,rfl,trivial⟩,trivial,dD,lH _⟩
                · rw [if_neg (by simpa using hwb)] at hb1
                  (repeat' (first|refine wS ?_|refine wB ?_|refine wK ?_|refine wT ?_|refine wU ?_|(refine rg 10 (vV (xX rfl rfl (by omega)) ?_))|(refine rg 11 (vV (ix T rfl (by omega) (kW _) hgj) (lW T rfl (bS (bO T rfl) rfl (aT T rfl rfl rfl rfl rfl rfl (by decide) rfl ?_)))))|(refine rg 12 (mW rfl (lW T rfl (vV (by exact eO rfl rfl hc1 rfl rfl rfl) ?_)));refine mW rfl (yN rfl (yV (M9 rfl rfl (by omega)) (yN rfl (yP T rfl (yO T rfl (yN rfl (yV (M9 rfl rfl (by omega)) (gT (pV ?_)))))))));refine pV ?_)|(refine rg 14 (vV (bT rfl rfl (by omega) (by omega)) (mV ?_)))|refine nZ ?_));all_goals try (exfalso;omega)
                  exact ⟨⟨j + 1,hjl⟩,by dsimp only;omega,[],rfl,⟨rfl,rfl,rfl,rfl,rfl,rfl,rfl,rfl,by dsimp only;rw [hB1,hb1];rfl,rfl,rfl,rfl,trivial⟩,trivial,dD,lH _⟩
          · obtain rfl : j = ws.length := by omega
            by_cases hbn : B ws.length < 0
            · have hR := hno hbn;subst hR
              (repeat' (first|refine wS ?_|refine wR ?_|refine wE ?_|(refine wC rfl ?_ ?_<;>(intro hb;(try simp only [nm] at hb);try (exfalso;omega)))|(refine rg 10 (vV (aO rfl rfl) ?_))|(refine rg 15 (mW rfl (vV (aO rfl rfl) ?_)))|(refine rg 16 (aV ?_))|refine nZ ?_));all_goals try (exfalso;omega)
              all_goals exact rQ
            · (repeat' (first|refine wS ?_|refine wK ?_|refine wE ?_|(refine wC rfl (fun hb => ?_) (fun hb => ?_) <;> (((try simp only [nm] at hb);try (exfalso;omega))))|(refine rg 10 (vV (aO rfl rfl) ?_))|(refine rg 15 (mW rfl (vV (aO rfl rfl) ?_)))|(refine rg 17 (dX rfl (vV (bT rfl rfl (by omega) (by omega)) (aV ?_))))|(refine rg 18 (vV (bT rfl rfl (by omega) (by omega)) (mV ?_)))|(refine nZ ?_)));all_goals try (exfalso;omega)
              exact ⟨⟨k + 1,hlt,hall2 (by omega),by rw [hS];omega,by rw [hS];omega⟩,by dsimp only;omega,[],rfl,⟨rfl,rfl,rfl,by dsimp only;rw [hS,hsk];rfl,rfl,rfl,rfl,trivial⟩,trivial,dD,lH _⟩
        · obtain rfl : k = gs.length := by omega
          have hR := hyes fun j hj => hall j hj hj
          subst hR
          (repeat' (first|refine wS ?_|refine wR ?_|refine wE ?_|(refine wC rfl ?_ ?_<;>(intro hb;(try simp only [nm] at hb);try (exfalso;omega)))|(refine rg 5 (vV (aO rfl rfl) ?_))|(refine rg 19 (dX rfl (nV ?_));refine fW T rfl (iL T rfl (vV (kJ rfl rfl) (aV ?_))))|refine nZ ?_));all_goals try (exfalso;omega)
          all_goals exact rQ
    · rw [decide_eq_false h2,iW,iW,iW];refine bQ T Tryz.func22 rfl rfl rfl rfl ?_
      (repeat' (first|refine wS ?_|(refine rg 0 (bS (cE rfl rfl) rfl (bS (cE rfl rfl) rfl (aV ?_))))|refine nZ ?_));refine fU 4 rfl rfl rfl ?_
      refine fU 5 rfl rfl rfl ?_
      (repeat' (first|refine wS ?_|refine wR ?_|refine wT ?_|(refine bL (id := 1) 80 zT8 (rM 14 20) zT9 cC rfl (by decide +kernel) (dO T rfl (dV rfl (eP T rfl rfl) (dN rfl (dV rfl (by exact eM rfl rfl) ?_))));refine dP T rfl (dO T rfl (dV rfl (eP T rfl rfl) (dV rfl (pR rfl rfl (by omega)) (dN rfl (tO T rfl (dT rfl (eP T rfl rfl) (tO T rfl (dT rfl (eP T rfl rfl) (dT rfl (uM rfl rfl (by omega)) ?_)))))))));refine dV rfl (fX rfl rfl) (dN rfl (tG rfl (tG rfl (tG rfl (dV rfl (jF rfl rfl) (dE ?_)))))))|(refine rg 2 (aV ?_))|refine nZ ?_));all_goals try (exfalso;omega)
      all_goals exact rQ
  · rw [decide_eq_false h1,iW,iW,iW,iW];refine bQ T Tryz.func22 rfl rfl rfl rfl ?_
    (repeat' (first|refine wS ?_|(refine rg 0 (bS (cE rfl rfl) rfl (bS (cE rfl rfl) rfl (aV ?_))))|refine nZ ?_));refine fU 4 rfl rfl rfl ?_
    refine fU 5 rfl rfl rfl ?_
    (repeat' (first|refine wS ?_|refine wR ?_|refine wT ?_|(refine bL (id := 1) 80 zT8 (rM 14 20) zT9 cC rfl (by decide +kernel) (dO T rfl (dV rfl (eP T rfl rfl) (dN rfl (dV rfl (by exact eM rfl rfl) ?_))));refine dP T rfl (dO T rfl (dV rfl (eP T rfl rfl) (dV rfl (uM rfl rfl (by omega)) (dN rfl (tG rfl (tG rfl (tG rfl (tG rfl (dG ?_)))))))));refine dV rfl (jF rfl rfl) (dN rfl (tG rfl (tG rfl (tG rfl (dV rfl (jF rfl rfl) (dE ?_)))))))|(refine rg 2 (aV ?_))|refine nZ ?_));all_goals try (exfalso;omega)
    all_goals exact rQ
end Go.Proofs.YtmmkhmilpeodnaaGreat
namespace Go.Ab
open Go
theorem oT.freezeEl {n : Nat × Nat} {c : nO} {ρ : Pl} {S : Nat → Prop} {env : dU} {h : Hp} {a : Act} {w : World} {j f k len sz sz2 : Nat} {es es' es2 : List (List AV)} (s : oT n c ρ S env h a w) (hj : h[j]? = some (.arr es sz)) (hne : j ≠ k) (h0 : es ≠ []) (hf : es.flatten[f]? = some (.sl k 0 len sz2)) (hk : h[k]? = some (.arr es2 sz2)) (hn : len = es2.length) (hi : AV.idfL es2.flatten = true)
    (hl : ∀ e,e ∈ es' → e.length = sz) (he : es'.flatten = es.flatten.set f (.rowE es2 sz2)) :
    oT n c ρ (fun b => S b ∨ ∃ o,ρ k = some (b,o)) env ((h.set k .gone).set j (.arr es' sz)) a w := by
  have h1 := s.hs.freeze hk;have hj' : (h.set k .gone)[j]? = some (.arr es sz) := by rw [iH (Ne.symm hne)];exact hj
  refine ⟨s.size,s.defers.st (fun _ h => .inl h),fun t' x hx => GR (fun _ h => .inl h) (s.env t' x hx),h1.alter hj' (fun _ => ?_) (by simp),s.cm⟩
  have hb := s.hs.blk j _ hj;simp only [RB] at hb ⊢;obtain ⟨b1,b2,b3⟩ := hb;refine ⟨hl,b2,?_⟩;rcases b3 with ⟨e,_⟩ | ⟨b,o,ys,e1,e2,e3⟩
  · exact absurd e h0
  · refine .inr ⟨b,o,ys,e1,e2,?_⟩;rw [he];refine CY (fun _ h => .inl h) (fun y hy => ?_) hf e3;rw [hn] at hy;exact uO hi (s.hs.blk k _ hk) hy
section
variable {P : Program} {n : Nat × Nat} {ops : Array Oper} {env : dU} {h : Hp} {K : dU → Hp → Prop} {rest : List Oper} {Q : Exit → dU → Hp → Prop} {code : Code}
theorem GH (j f : Nat) {k len sz sz2 : Nat} {es : List (List AV)} (es' : List (List AV)) {es2 : List (List AV)} (hj : h[j]? = some (.arr es sz)) (hne : j ≠ k) (h0 : es ≠ []) (hf : es.flatten[f]? = some (.sl k 0 len sz2)) (hk : h[k]? = some (.arr es2 sz2)) (hn : len = es2.length) (hi : AV.idfL es2.flatten = true)
    (hl : ∀ e,e ∈ es' → e.length = sz) (he : es'.flatten = es.flatten.set f (.rowE es2 sz2)) (hv : AW P n code env ((h.set k .gone).set j (.arr es' sz)) Q) : AW P n code env h Q :=
  fun c ρ S a w QQ s hQ => hv c ρ _ a w QQ (s.freezeEl hj hne h0 hf hk hn hi hl he) hQ
end
end Go.Ab
namespace Go.Ld
open Go.Ab Go.Proofs.YtmmkhmilpeodnaaGreat
theorem UI {es : List (List AV)} (h : ∀ e,e ∈ es → e.all AV.one = true) : es.flatten.all AV.one = true := by
  rw [bA];intro x hx;obtain ⟨e,he,hx⟩ := ZD.1 hx;exact bA.1 (h e he) x hx
theorem BH {α : Type} {f : α → List AV} (hf : ∀ x,(f x).all AV.one = true) (l : List α) : (l.map f).flatten.all AV.one = true := UI fun e he => by
  obtain ⟨x,_,rfl⟩ := bI.1 he;exact hf x
theorem BN {α : Type} {f : α → List AV} (hf : ∀ x,AV.idfL (f x) = true) (l : List α) : ∀ e,e ∈ l.map f → AV.idfL e = true := fun e he => by
  obtain ⟨x,_,rfl⟩ := bI.1 he;exact hf x
def EB (n : Int) : Bool := decide (n < 0 ∨ 1048576 < n)
def JX (c : Cx) : Bool := [c.m,c.st,c.er,c.sl].any EB
theorem MM {c : Cx} : JX c = false ↔ kR c.m c.st c.er c.sl := by
  unfold JX kR EB;simp;omega
end Go.Ld
namespace Go.Proofs.YtmmkhmilpeodnaaGreat
open Go Go.Ab Go.Ld
attribute [local irreducible] VC AW cF aR kZ
set_option maxHeartbeats 4000000
theorem TJ (l : List KD) (hl : l.length ≤ 1000000) : aR Tryz.prog 37 [.rowE (gJ l) 2] [] (.rowE (gJ l) 2) [] := by
  have hll : (gJ l).length = l.length := bC _;have hid := BN (f := fun b : KD => [AV.v (.string b.1),AV.i b.2]) (fun _ => rfl) l;have hon := BH (f := fun b : KD => [AV.v (.string b.1),AV.i b.2]) (fun _ => rfl) l;refine oR (len := l.length) hll.symm (hC hid) ?_;refine bQ T Tryz.func37 rfl rfl rfl rfl ?_
  repeat' (first|refine wS ?_|refine wK ?_|refine wT ?_|refine wU ?_|(refine rg 0 (aV ?_))|(refine rg 1 (mV ?_);refine qU T rfl rfl rfl rfl fun b hb=>?_;cases b)|refine nZ ?_)
  · (repeat' (first|refine wR ?_|(refine rg 3 (bS (by exact bB T rfl rfl (by decide) (by decide) rfl rfl rfl) rfl ?_);refine mW rfl (gE T rfl rfl rfl rfl rfl rfl (by decide) (.row (tQ l)) hon (by simp;omega) (by simp;omega) rfl ?_);refine aV ?_)|(refine nZ ?_)));exact ⟨.inl rfl,[1],_,rfl,(by show AV.sl 1 0 (0 + (gJ l).length) 2 = AV.sl 1 0 l.length 2;simp),rfl,⟨.inr (aE rfl rfl hid),trivial⟩,by decide,F2⟩
  · have hl0 : l = [] := fJ.1 (Classical.byContradiction fun h => by have := hb (by omega);cases this)
    subst hl0
    (repeat' (first|refine wR ?_|(refine rg 2 (vV (dB rfl) (sK 2 2 rfl (by decide) ?_)))|refine nZ ?_));exact ⟨.inl rfl,[0],_,rfl,rfl,rfl,⟨.inr (aE rfl rfl hid),trivial⟩,by decide,F2⟩
theorem TH (l : List LT) (hl : l.length ≤ 1000000) : aR Tryz.prog 38 [.rowE (jX l) 3] [] (.rowE (jX l) 3) [] := by
  have hll : (jX l).length = l.length := bC _;have hid := BN (f := fun b : LT => [AV.i b.1,AV.i b.2.1,AV.b b.2.2]) (fun _ => rfl) l;have hon := BH (f := fun b : LT => [AV.i b.1,AV.i b.2.1,AV.b b.2.2]) (fun _ => rfl) l;refine oR (len := l.length) hll.symm (hC hid) ?_;refine bQ T Tryz.func38 rfl rfl rfl rfl ?_
  repeat' (first|refine wS ?_|refine wK ?_|refine wT ?_|refine wU ?_|(refine rg 0 (aV ?_))|(refine rg 1 (mV ?_);refine qU T rfl rfl rfl rfl fun b hb=>?_;cases b)|refine nZ ?_)
  · (repeat' (first|refine wR ?_|(refine rg 3 (bS (by exact bB T rfl rfl (by decide) (by decide) rfl rfl rfl) rfl ?_);refine mW rfl (gE T rfl rfl rfl rfl rfl rfl (by decide) (.row (wJ l)) hon (by simp;omega) (by simp;omega) rfl ?_);refine aV ?_)|(refine nZ ?_)));exact ⟨.inl rfl,[1],_,rfl,(by show AV.sl 1 0 (0 + (jX l).length) 3 = AV.sl 1 0 l.length 3;simp),rfl,⟨.inr (aE rfl rfl hid),trivial⟩,by decide,F2⟩
  · have hl0 : l = [] := fJ.1 (Classical.byContradiction fun h => by have := hb (by omega);cases this)
    subst hl0
    (repeat' (first|refine wR ?_|(refine rg 2 (vV (dB rfl) (sK 2 3 rfl (by decide) ?_)))|refine nZ ?_));exact ⟨.inl rfl,[0],_,rfl,rfl,rfl,⟨.inr (aE rfl rfl hid),trivial⟩,by decide,F2⟩
theorem TK (l : List BX) (hl : l.length ≤ 1000000) : aR Tryz.prog 39 [.rowE (eB l) 3] [] (.rowE (eB l) 3) [] := by
  have hll : (eB l).length = l.length := bC _;have hid := BN (f := fun b : BX => [AV.i b.1,AV.i b.2.1,AV.i b.2.2]) (fun _ => rfl) l;have hon := BH (f := fun b : BX => [AV.i b.1,AV.i b.2.1,AV.i b.2.2]) (fun _ => rfl) l;refine oR (len := l.length) hll.symm (hC hid) ?_;refine bQ T Tryz.func39 rfl rfl rfl rfl ?_
  repeat' (first|refine wS ?_|refine wK ?_|refine wT ?_|refine wU ?_|(refine rg 0 (aV ?_))|(refine rg 1 (mV ?_);refine qU T rfl rfl rfl rfl fun b hb=>?_;cases b)|refine nZ ?_)
  · (repeat' (first|refine wR ?_|(refine rg 3 (bS (by exact bB T rfl rfl (by decide) (by decide) rfl rfl rfl) rfl ?_);refine mW rfl (gE T rfl rfl rfl rfl rfl rfl (by decide) (.row (jN l)) hon (by simp;omega) (by simp;omega) rfl ?_);refine aV ?_)|(refine nZ ?_)));exact ⟨.inl rfl,[1],_,rfl,(by show AV.sl 1 0 (0 + (eB l).length) 3 = AV.sl 1 0 l.length 3;simp),rfl,⟨.inr (aE rfl rfl hid),trivial⟩,by decide,F2⟩
  · have hl0 : l = [] := fJ.1 (Classical.byContradiction fun h => by have := hb (by omega);cases this)
    subst hl0
    (repeat' (first|refine wR ?_|(refine rg 2 (vV (dB rfl) (sK 2 3 rfl (by decide) ?_)))|refine nZ ?_));exact ⟨.inl rfl,[0],_,rfl,rfl,rfl,⟨.inr (aE rfl rfl hid),trivial⟩,by decide,F2⟩
theorem WF (n : Int) : aR Tryz.prog 77 [.i n] [] (.b (EB n)) [] := by
  unfold EB;by_cases h : n < 0
  · rw [decide_eq_true (.inl h)];refine bQ T Tryz.func77 rfl rfl rfl rfl ?_
    (repeat' (first|refine wS ?_|refine wR ?_|(refine rg 0 (aV ?_))|(refine rg 1 (mW rfl (vV (xX rfl rfl (by omega)) (mV ?_)));(iterate 2 refine gF ?_);refine pW rfl (aV ?_))|refine nZ ?_));all_goals first | (exfalso;omega) | exact rQ
  · refine bQ T Tryz.func77 rfl rfl rfl rfl ?_
    (repeat' (first|refine wS ?_|refine wR ?_|(refine rg 0 (aV ?_))|(refine rg 1 (mW rfl (vV (M9 rfl rfl (by omega)) (mW rfl (yN rfl (yV (fT rfl rfl) (pW rfl (aV ?_))))))))|refine nZ ?_));all_goals first | (exfalso;omega) | (refine cY (.inl rfl) rfl (mI ?_);simp;omega)
theorem U8 (c : Cx) : aR Tryz.prog 35 [.agg [.i c.m,.i c.st,.i c.er,.i c.sl]] [] (.b (!JX c)) [] := by
  have hh := SL (l := [c.m,c.st,c.er,c.sl]) (F := 77) (caps := []) (p := EB) (by simp) rfl (fun x hx => WF x)
  change aR _ _ _ _ (.b (JX c)) _ at hh;generalize JX c = v at *;refine bQ T Tryz.func35 rfl rfl rfl rfl ?_
  (repeat' (first|refine wS ?_|refine wR ?_|(refine rg 0 (bS (cE rfl rfl) rfl (aV ?_)))|(refine rg 1 (iL T rfl (iL T rfl (iL T rfl (iL T rfl (bS (by exact bB T rfl rfl (by decide) (by decide) rfl rfl rfl) rfl ?_)))));refine mE 11 rfl rfl rfl rfl ?_;refine vV (kC (hh)) (vV (dH rfl) (aV ?_)))|refine nZ ?_));all_goals first | (exfalso;omega) | exact rQ
end Go.Proofs.YtmmkhmilpeodnaaGreat
namespace Go.Ld
open Go.Ab Go.Proofs.YtmmkhmilpeodnaaGreat
abbrev XF (c : Cx) (x : AV) : List AV := [.i c.m,.i c.st,.i c.er,.i c.sl,.rowE (gJ c.ks) 2,.rowE (jX c.ls) 3,.rowE (eB c.bs) 3,x]
theorem zD6 {h : Hp} {i sz : Nat} {θ : Nat → Nat} {A A' : List (List AV)} {E E' : List AV} (hk : h[i]? = some (.arr (A' ++ [E']) sz)) (hA : A' = A) (hE : E' = AV.mapL θ E) (hi : ∀ e,e ∈ A → AV.idfL e = true) : h[i]? = some ((AB.arr (A ++ [E]) sz).map θ) := by
  subst hA hE;rw [hk];simp only [AB.map,dI,bU θ hi];rfl
theorem XX {A : List (List AV)} {x y : AV} : (A ++ [[x,y]]).flatten[A.flatten.length]? = some x := by simp
theorem XW {A : List (List AV)} {x y : AV} : (A ++ [[x,y]]).flatten[A.flatten.length + 1]? = some y := by
  rw [gG,aD (by omega)];simp
theorem XV {A : List (List AV)} {x y z : AV} : (A ++ [[z,y]]).flatten = (A ++ [[x,y]]).flatten.set A.flatten.length z := by
  rw [gG,gG,kD _ _ (by omega)];simp
theorem XU {A : List (List AV)} {x y z : AV} : (A ++ [[x,z]]).flatten = (A ++ [[x,y]]).flatten.set (A.flatten.length + 1) z := by
  rw [gG,gG,kD _ _ (by omega)];simp
theorem RQ (c : Cx) : (rB c).length = c.bs.length := by rw [M4];simp
theorem NG {c : Cx} {k : Nat} (h : k < c.bs.length) : (rB c).take (k + 1) = (rB c).take k ++ [Q7 c k] := by
  rw [M4,← kK,← kK,aX (by simpa using h),dI]
  simp
end Go.Ld
namespace Go.Proofs.YtmmkhmilpeodnaaGreat
open Go Go.Ab Go.Ld
attribute [local irreducible] VC AW cF aR kZ
set_option maxHeartbeats 4000000
theorem zH8 (c : Cx) (hc : qO c) (hid : aR Tryz.prog 24 [.i (eB c.bs).length] [] (.rowE (ints (nats (List.range c.bs.length))) 1) []) (htr : aR Tryz.prog 36 [.rowE (gJ c.ks) 2,.rowE (jX c.ls) 3,.rowE (ints (nats (List.range c.bs.length))) 1,.rowE (eB c.bs) 3] [] (.b true) []) :
    aR Tryz.prog 9 [.agg [.i c.m,.i c.st,.i c.er,.i c.sl],.rowE (gJ c.ks) 2,.rowE (jX c.ls) 3,.rowE (eB c.bs) 3] [] (.tup [.ptr 0 0,.i 0]) [.cells (gS c (rB c))] := by
  have hn1 := hc.f.n1;have hn8 := hc.f.n8;have hk10 := hc.f.k10;have hl10 := hc.f.l10;have hnl : (nats (List.range c.bs.length)).length = c.bs.length := by simp
  have hsn := U8 c;rw [MM.2 hc.s] at hsn;have h1 := TJ c.ks (by omega)
  have h2 := TH c.ls (by omega)
  have h3 := TK c.bs (by omega)
  have hbl : (eB c.bs).length = c.bs.length := bC _;have hNl := RQ c;refine bQ T Tryz.func9 rfl rfl rfl rfl ?_
  (repeat' (first|refine wS ?_|(refine rg 0 (bS (cE rfl rfl) rfl (pT ?_)))|refine nZ ?_));refine fU 4 rfl rfl rfl ?_
  (repeat' (first|refine wS ?_|refine wK ?_|refine wU ?_|(refine rg 1 (lW T rfl (vV (kC (hsn)) (vV (dH rfl) (mW rfl (yN rfl (yN rfl (yN rfl (gT (qV T ?_)))))))));refine yV (kC (hid)) (yN rfl (yV (kC (htr)) (yV (dH rfl) (pV ?_)))))|(refine bL (id := 3) 69 [[],[],[1],[],[1,2,3],[],rM 1 5,rN 7,rN 8] (rM 27 9) [[],[27],[27],[27,28,29],[27],rM 27 5,[27],[],[]] cC rfl (by decide +kernel) (dO T rfl (dN rfl (dV rfl (kC (h1)) (dN rfl (dV rfl (kC (h2)) (dN rfl (dV rfl (kC (h3)) (dV rfl (by exact eQ T rfl rfl rfl rfl) ?_))))))));refine zO rfl rfl rfl (by exact cE rfl rfl) rfl ?_;refine dE ?_;refine aV ?_)|refine nZ ?_));all_goals try (exfalso;omega)
  refine fE [(3,.rowE (eB c.bs) 3),(10,.ptr 0 0)] [.cells (XF c .nils)] ⟨[1],rfl,(by repeat first|exact trivial|refine ⟨rfl,?_⟩),⟨.inr rfl,trivial⟩,by decide,lH _⟩ ?_
  refine uW 0 7 2 rfl rfl (by decide) ?_
  (repeat' (first|refine wB ?_|(refine rg 4 (mW rfl (qW T rfl (mV ?_))))|refine nZ ?_));all_goals try (exfalso;omega)
  refine dA (X := {k : Nat // k ≤ c.bs.length}) (fun k => [(10,.ptr 0 0),(36,.rowE (eB c.bs) 3),(37,.i (eB c.bs).length),(38,.i k.1)]) (fun k => [.cells (XF c (.sl 1 0 k.1 2)),.arr (iY ((rB c).take k.1)) 2]) (fun k => c.bs.length - k.1) ⟨0,cT _⟩ ⟨[0,1],rfl,(by repeat first|exact trivial|refine ⟨rfl,?_⟩),⟨.inr rfl,.inr rfl,trivial⟩,by decide,lH _⟩ ?_
  rintro ⟨k,hk⟩;dsimp only;by_cases hlt : k < c.bs.length
  · have hb := hc.f.b k hlt;have hbx : c.bs[k]? = some (c.bs.getD k (0,0,0)) := by rw [aC,aA hlt];rfl
    have hge : c.bs[k] = c.bs.getD k (0,0,0) := by rw [aC,aA hlt];rfl
    rw [hge] at hb;have qb : (eB c.bs)[((k : Int)).toNat]? = some [.i (c.bs.getD k (0,0,0)).1,.i (c.bs.getD k (0,0,0)).2.1,.i (c.bs.getD k (0,0,0)).2.2] := by rw [bV,bR,hbx];rfl
    have hsu := NG hlt;have hA : iY ((rB c).take (k + 1)) = iY ((rB c).take k) ++ [gA (Q7 c k)] := by rw [hsu,iY,dI];rfl
    have hAl : (iY ((rB c).take k)).length = k := by rw [iX,bD];omega
    have hAi := eC ((rB c).take k);have hA3 := oX ((rB c).take k);have hAi2 := eC ((rB c).take (k + 1));unfold Q7 at hA;generalize c.bs.getD k (0,0,0) = bx at *;obtain ⟨lot,cnt,ta⟩ := bx;dsimp only at *;generalize hG : iY ((rB c).take k) = A at *
    (repeat' (first|refine wS ?_|refine wB ?_|refine wK ?_|(refine wC rfl ?_ ?_<;>(intro hb;(try simp only [nm] at hb);try (exfalso;omega)))|(refine rg 5 (vV (aO rfl rfl) ?_))|(refine rg 6 (mW rfl (vV (ix T rfl (by omega) (jN _) qb) (lW T rfl (bS (bO T rfl) rfl (aW rfl (aT T rfl rfl rfl rfl rfl rfl (by decide) rfl ?_)))))))|refine nZ ?_));all_goals try (exfalso;omega)
    refine fU 12 (cs := [.i lot,.i cnt,.i ta]) rfl rfl rfl ?_
    (repeat' (first|(refine rg 7 (mW rfl (bS (by exact bB T rfl rfl (by decide) (by decide) rfl rfl rfl) rfl ?_));refine mE 44 rfl rfl rfl rfl ?_;refine iL T rfl (iL T rfl (vV (bT rfl rfl (by omega) (by omega)) (vV (by exact eQ T rfl rfl rfl rfl) ?_)));refine bS (by exact bB T rfl rfl (by decide) (by decide) rfl rfl rfl) rfl ?_;refine mE 51 rfl rfl rfl rfl ?_;refine vV (by exact eQ T rfl rfl rfl rfl) ?_;refine bS (bO T rfl) rfl (aT T rfl rfl rfl rfl rfl rfl (by decide) rfl ?_))|refine nZ ?_));all_goals try (exfalso;omega)
    refine fU 13 (cs := wA ([(k : Int)],0,[(cnt,cnt + 1)])) rfl rfl rfl ?_;refine fE [(10,.ptr 0 0),(36,.rowE (eB c.bs) 3),(37,.i (eB c.bs).length),(38,.i k),(11,.i k),(13,.pr (wA ([(k : Int)],0,[(cnt,cnt + 1)])) 0)] [.cells (XF c (.sl 1 0 k 2)),.arr A 2] ⟨[0,1],rfl,(by repeat first|exact trivial|refine ⟨rfl,?_⟩),⟨.inr rfl,.inr (aE rfl rfl hAi),trivial⟩,by decide,lH _⟩ ?_
    (repeat' (first|(refine tX (id := 8) 69 [[],[],[1],[1,2],[1,2,3],[],[5],[],[7],rM 5 4,rM 5 5,rM 1 10,rN 12,rN 13,rN 14] (rM 53 14) [[],[53],[53],[53],[53],rM 53 5,rM 53 5,rM 53 7,rM 53 7,rM 53 5,rM 53 5,[53],[],[],[]] [(11,1),(14,0)] cC rfl (by decide +kernel) (fN rfl rfl rfl rfl (by exact bX rfl) ?_);refine fN rfl rfl rfl rfl (by exact bX rfl) ?_;refine fN rfl rfl rfl rfl (by exact eM rfl rfl) ?_;refine fN rfl rfl rfl rfl (by exact bY T rfl rfl rfl) ?_;refine fN rfl rfl rfl rfl (by exact aQ T rfl rfl rfl rfl) ?_;refine fN rfl rfl rfl rfl (by exact bX rfl) ?_;refine K1 rfl rfl rfl rfl (by exact bB T rfl rfl (by decide) (by decide) rfl rfl rfl) rfl ?_;refine fN rfl rfl rfl rfl (by exact aQ T rfl rfl rfl rfl) ?_;refine K1 rfl rfl rfl rfl (by exact bB T rfl rfl (by decide) (by decide) rfl rfl rfl) rfl ?_;refine fN rfl rfl rfl rfl (by exact eQ T rfl rfl rfl rfl) ?_;refine K1 rfl rfl rfl rfl (by exact bB T rfl rfl (by decide) (by decide) rfl rfl rfl) rfl ?_;refine wW rfl rfl rfl rfl (aP rfl) (by exact qR T rfl rfl rfl rfl rfl rfl (by omega) (kV.whole rfl rfl) rfl (by simp;omega) (by simp;omega)) ?_;refine fN rfl rfl rfl rfl (by exact eM rfl rfl) ?_;refine fN rfl rfl rfl rfl (by exact bY T rfl rfl rfl) ?_;refine CF rfl rfl rfl rfl (aP rfl) T rfl rfl rfl rfl rfl rfl (by decide) rfl ?_;refine D8 rfl rfl rfl (by exact rfl) ?_)|refine nZ ?_));all_goals try (exfalso;omega)
    show AW _ _ _ _ _ _;refine fE [(10, .ptr 0 0), (36, .rowE (eB c.bs) 3), (37, .i (eB c.bs).length), (38, .i k)] [.cells (XF c (.sl 3 0 (k + 1) 2)), .arr (ints [(k : Int)]) 1, .arr (fP [([(k : Int)], 0, [(cnt, cnt + 1)])]) 3, .arr (A ++ [[.sl 1 0 1 1, .sl 2 0 1 3]]) 2]
      ⟨[0,2,3,5],rfl,(by repeat first|exact trivial|refine ⟨rfl,?_⟩),⟨.inr rfl,.inr rfl,.inr rfl,.inr (zD6 rfl (by rw [kU];exact cW (by omega)) rfl hAi),trivial⟩,by decide,lH _⟩ ?_
    have hE : ∀ (x y : AV) (e : List AV),e ∈ A ++ [[x,y]] → e.length = 2 := fun x y e he => by
      rcases bF.1 he with he | he
      · exact hA3 e he
      · rw [cD.1 he];rfl
    refine GH 3 A.flatten.length (A ++ [[.rowE (ints [(k : Int)]) 1,.sl 2 0 1 3]]) rfl (by decide) (by simp) XX rfl rfl rfl (hE _ _) XV ?_
    refine GH 3 (A.flatten.length + 1) (A ++ [[.rowE (ints [(k : Int)]) 1,.rowE (fP [([(k : Int)],0,[(cnt,cnt + 1)])]) 3]]) rfl (by decide) (by simp) XW rfl rfl rfl (hE _ _) XU ?_
    (repeat' (first|(refine rg 9 (vV (bT rfl rfl (by omega) (by omega)) (mV ?_)))|refine nZ ?_));all_goals try (exfalso;omega)
    exact ⟨⟨k + 1,hlt⟩,by dsimp only;omega,⟨[0,3],rfl,(by repeat first|exact trivial|refine ⟨rfl,?_⟩),⟨.inr rfl,.inr (aE rfl (by dsimp only;rw [hA]) hAi2),trivial⟩,by decide,lH _⟩⟩
  · obtain rfl : k = c.bs.length := by omega
    rw [← hNl,dQ,hNl];refine mX 0 7 (es := iY (rB c)) rfl rfl rfl (by rw [iX,hNl]) (hC (eC _)) ?_
    (repeat' (first|refine wS ?_|refine wR ?_|refine wE ?_|(refine wC rfl ?_ ?_<;>(intro hb;(try simp only [nm] at hb);try (exfalso;omega)))|(refine rg 5 (vV (aO rfl rfl) ?_))|(refine rg 10 (mW rfl (pT ?_)))|refine nZ ?_));all_goals try (exfalso;omega)
    all_goals exact ⟨.inl rfl,[0],_,rfl,rfl,rfl,⟨.inr rfl,trivial⟩,by decide,lH _⟩
end Go.Proofs.YtmmkhmilpeodnaaGreat
namespace Go.Ld
open Go.Ab Go.Proofs.YtmmkhmilpeodnaaGreat
def LY (p q : List Int) (x : Int × SP) (b : Int) : Prop := x.1 = p.getD b.toNat 0 ∧ sQ x.2.1 x.2.2 (q.getD (p.getD b.toNat 0).toNat 0) = true
theorem YD {g : G} {p q : List Int} {w : W} : yI g p q w = true ↔ ∀ i,i < g.1.length → LY p q (gP w i,gC w i) (g.1.getD i 0) := by
  unfold yI A5 LY;rw [bA];constructor
  · intro h i hi;have := h i (eN.2 hi);simp only [aL,decide_eq_true_eq] at this;exact this
  · intro h i hi;have := h i (eN.1 hi);simp only [aL,decide_eq_true_eq];exact this
theorem T4 {g : G} {p q : List Int} (h0 : ∀ w, w ∈ g.2 → 0 ≤ w.2.1) : ∀ k, k ≤ g.2.length → (tW g p q k = -1 ∧ ∀ w, w ∈ g.2.take k → yI g p q w = false) ∨ (∃ w, w ∈ g.2.take k ∧ yI g p q w = true ∧ w.2.1 = tW g p q k ∧ ∀ v, v ∈ g.2.take k → yI g p q v = true → tW g p q k ≤ v.2.1)
  | 0,_ => .inl ⟨rfl,fun w hw => by simp at hw⟩
  | k + 1,hk => by
    have ih := T4 (p := p) (q := q) h0 k (by omega)
    have hx := h0 g.2[k] (aI _);rw [zT (by omega)]
    have ht : ∀ w,w ∈ g.2.take (k + 1) ↔ w ∈ g.2.take k ∨ w = g.2[k] := fun w => by
      rw [aX (by omega),bF,cD]
    simp only [ht];unfold GC;generalize g.2[k] = x at *;generalize tW g p q k = m at *;cases hf : yI g p q x with
    | false =>
      rw [iW,if_neg (by simp)]
      rcases ih with ⟨h1,h2⟩ | ⟨w,h1,h2,h3,h4⟩
      · refine .inl ⟨h1,fun w hw => ?_⟩
        rcases hw with hw | rfl
        · exact h2 w hw
        · exact hf
      · refine .inr ⟨w,.inl h1,h2,h3,fun v hv hvf => ?_⟩
        rcases hv with hv | rfl
        · exact h4 v hv hvf
        · rw [hf] at hvf;cases hvf
    | true =>
      rw [iV];rcases ih with ⟨h1,h2⟩ | ⟨w,h1,h2,h3,h4⟩
      · rw [decide_eq_true (show m < 0 by omega),Bool.true_or,if_pos rfl]
        refine .inr ⟨x,.inr rfl,hf,rfl,fun v hv hvf => ?_⟩
        rcases hv with hv | rfl
        · rw [h2 v hv] at hvf;cases hvf
        · exact fG _
      · have hm0 : 0 ≤ m := by rw [← h3];exact h0 w (fF h1)
        rw [decide_eq_false (show ¬ m < 0 by omega),zN2]
        by_cases hlt : x.2.1 < m
        · rw [if_pos (decide_eq_true hlt)];refine .inr ⟨x,.inr rfl,hf,rfl,fun v hv hvf => ?_⟩
          rcases hv with hv | rfl
          · have := h4 v hv hvf;omega
          · exact fG _
        · rw [if_neg (by simpa using hlt)]
          refine .inr ⟨w,.inl h1,h2,h3,fun v hv hvf => ?_⟩
          rcases hv with hv | rfl
          · exact h4 v hv hvf
          · omega
theorem AG {g : G} {p q : List Int} (h0 : ∀ w,w ∈ g.2 → 0 ≤ w.2.1) : (mH g p q = -1 ∧ ∀ w,w ∈ g.2 → yI g p q w = false) ∨ (∃ w,w ∈ g.2 ∧ yI g p q w = true ∧ w.2.1 = mH g p q ∧ ∀ v,v ∈ g.2 → yI g p q v = true → mH g p q ≤ v.2.1) := by
  have := T4 (p := p) (q := q) h0 g.2.length (aY _);rw [dQ] at this;exact this
def AJ (g : G) (w : W) : As := fun b => (gP w (g.1.idxOf b),gC w (g.1.idxOf b))
theorem E4 {n : Nat} {g : G} {w : W} (ok : vR n g) (hw : V3 n g.1.length w) : nJ g.1 w (AJ g w) := by
  unfold nJ AJ gP gC;constructor
  · refine lS (by rw [bC];exact hw.pl) fun i h1 h2 => ?_
    rw [lR,ok.nd.idxOf_getElem];dsimp only;rw [aC,aA h1];rfl
  · refine lS (by rw [bC];exact hw.cl) fun i h1 h2 => ?_
    rw [lR,ok.nd.idxOf_getElem];dsimp only;rw [aC,aA h1];rfl
theorem SW {n : Nat} {g : G} {p q : List Int} {w : W} {f : As} (ok : vR n g) (hf : nJ g.1 w f) : yI g p q w = true ↔ ∀ b,b ∈ g.1 → LY p q (f b) b := by
  rw [YD];have key : ∀ i (hi : i < g.1.length),(gP w i,gC w i) = f g.1[i] ∧ g.1.getD i 0 = g.1[i] := fun i hi => by
    rw [BR hf hi,BT hf hi];exact ⟨rfl,by rw [aC,aA hi];rfl⟩
  constructor
  · intro h b hb;obtain ⟨i,hi,rfl⟩ := JJ hb;have := h i hi;rw [(key i hi).1,(key i hi).2] at this;exact this
  · intro h i hi;rw [(key i hi).1,(key i hi).2];exact h _ (aI hi)
theorem UK {n : Nat} {p q : List Int} : ∀ {gs : List G},(gs.flatMap (·.1)).Nodup → (∀ g,g ∈ gs → vR n g) → ∀ {M : Int},
    ((∀ g,g ∈ gs → 0 ≤ mH g p q) ∧ (gs.map fun g => mH g p q).sum ≤ M) ↔ ∃ f : As,(∀ g,g ∈ gs → ∀ b,b ∈ g.1 → LY p q (f b) b) ∧ Sem gs f M
  | [],_,_,M => by
    constructor
    · rintro ⟨_,h⟩;exact ⟨fun _ => (0,(0,0)),by simp,by simpa [Sem] using h⟩
    · rintro ⟨f,_,h⟩;exact ⟨by simp,by simpa [Sem] using h⟩
  | g :: gs,hnd,hok,M => by
    rw [bE] at hnd;obtain ⟨_,n2,n3⟩ := cK.1 hnd;have og := hok g aS;have h0 : ∀ w,w ∈ g.2 → 0 ≤ w.2.1 := fun w hw => (og.ws w hw).m0;have ih := fun M => UK (p := p) (q := q) (gs := gs) n2 (fun x hx => hok x (aN _ hx)) (M := M);rw [List.map_cons,zN0];constructor
    · rintro ⟨h1,h2⟩;rcases AG (p := p) (q := q) h0 with ⟨b1,_⟩ | ⟨w,b1,b2,b3,b4⟩
      · have := h1 g aS;omega
      obtain ⟨f,f1,f2⟩ := (ih (M - mH g p q)).1 ⟨fun x hx => h1 x (aN _ hx),by omega⟩
      have ow := og.ws w b1;have hfi := E4 og ow
      let f' : As := fun b => if b ∈ g.1 then AJ g w b else f b
      have e1 : ∀ b,b ∈ g.1 → f' b = AJ g w b := fun b hb => if_pos hb
      have e2 : ∀ x,x ∈ gs → ∀ b,b ∈ x.1 → f' b = f b := fun x hx b hb => if_neg fun q => n3 b q b (nW hx hb) rfl;have hfi' : nJ g.1 w f' := ⟨hfi.1.trans (jW fun b hb => by rw [e1 b hb]),hfi.2.trans (jW fun b hb => by rw [e1 b hb])⟩
      refine ⟨f',fun x hx b hb => ?_,mH g p q,⟨w,b1,hfi',by omega⟩,(qQ e2).2 f2⟩
      rcases bN.1 hx with rfl | hx
      · exact (SW og hfi').1 b2 b hb
      · rw [e2 x hx b hb];exact f1 x hx b hb
    · rintro ⟨f,f1,m,⟨w,w1,w2,w3⟩,f2⟩;have hfw := (SW (p := p) (q := q) og w2).2 (f1 g aS);obtain ⟨i1,i2⟩ := (ih (M - m)).2 ⟨f,fun x hx => f1 x (aN _ hx),f2⟩;rcases AG (p := p) (q := q) h0 with ⟨_,b2⟩ | ⟨v,b1,b2,b3,b4⟩
      · rw [b2 w w1] at hfw;cases hfw
      · have := b4 w w1 hfw;have := h0 v b1;refine ⟨fun x hx => ?_,by omega⟩
        rcases bN.1 hx with rfl | hx
        · omega
        · exact i1 x hx
theorem LS {c : Cx} {gs : List G} {p q : List Int} (h : oA c gs) : ZS c gs p q = true ↔ p.length = c.bs.length ∧ q.length = p.length ∧ Go.Pm.permB p = true ∧ ∃ f : As,(∀ b : Int,0 ≤ b → b < c.bs.length → LY p q (f b) b) ∧ Sem gs f c.m := by
  have hs := UK (p := p) (q := q) h.mid.out.nd h.mid.out.ok (M := c.m);have e : zI gs p q gs.length = (gs.map fun g => mH g p q).sum := by unfold zI;rw [dQ]
  unfold ZS;simp only [aL,decide_eq_true_eq,bA,e,and_assoc];rw [hs];have hb : ∀ f : As,(∀ g,g ∈ gs → ∀ b,b ∈ g.1 → LY p q (f b) b) ↔ ∀ b : Int,0 ≤ b → b < c.bs.length → LY p q (f b) b := fun f => by
    constructor
    · intro h1 b b0 b1;obtain ⟨g,hg,hbg⟩ := h.mid.find ⟨b0,b1⟩;exact h1 g hg b hbg
    · intro h1 g hg b hbg;have := (h.mid.out.ok g hg).rg b hbg;exact h1 b this.1 this.2
  simp only [hb]
end Go.Ld
