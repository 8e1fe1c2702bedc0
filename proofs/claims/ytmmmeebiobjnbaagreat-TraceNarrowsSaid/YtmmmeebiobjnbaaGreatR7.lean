/-
  Texts of the logic and of the layer,in one module (part 7).
-/
import Derived.Test.YtmmmeebiobjnbaaGreatR6
set_option linter.unusedVariables false
set_option linter.unusedSimpArgs false
set_option linter.unnecessarySimpa false
namespace Go.Ld
open Go.Ab Go.Proofs.YtmmmeebiobjnbaaGreat
theorem zP5 (l : List Int) (n : Int) : zP6 l n = HJ l n := by
  by_cases h : ∀ i,i < l.length → T0 l n i
  · rw [BP h];unfold zP6;exact bH.2 fun i hi => decide_eq_true (h i (fF.1 hi))
  · obtain ⟨i,hi⟩ := Classical.not_forall.1 h;obtain ⟨hi,ho⟩ := Classical.not_forall.1 hi;rw [HI hi ho];unfold zP6;unfold T0 at ho;exact List.all_eq_false.2 ⟨i,fF.2 hi,fun q => ho (of_decide_eq_true q)⟩
theorem zO1 {p q : Prop} [Decidable p] [Decidable q] : decide (p ∧ q) = (decide p && decide q) := by simp
theorem qX (n k a b m : Int) (ids : List Int) : iB n ⟨k,a,b,m,ids⟩ = (iW a 0 (n - 1) && decide (k = 0 ∨ ids.length = 0) && decide (k = 4 ∨ b = 0) && (if k = 0 then decide (m = 0) && HJ ids n else if k = 1 ∨ k = 2 ∨ k = 3 then iW m 0 1099511627776 else if k = 4 then decide (m = 0) && iW b (a + 1) (n - 1) else if k = 5 then iW m 0 (n - 1) else false)) := by
  unfold iB iW;simp only [zO1,zP5]
end Go.Ld
namespace Go.Proofs.YtmmmeebiobjnbaaGreat
open Go Go.Ab Go.Ld
attribute [local irreducible] VC AW cE aU
set_option maxHeartbeats 4000000
theorem WP (n k a b m : Int) (ids : List Int) (hl : ids.length ≤ 9223372036854775807) (hn : 0 ≤ n ∧ n ≤ 1000) :
    aU Tryz.prog 18 [.i n,WC k a b m ids] [] (.b (iB n ⟨k,a,b,m,ids⟩)) [] := by
  have hil : (ints ids).length = ids.length := by simp
  have ca := sJ a 0 (n - 1);have cs := EZ ids n hl hn;cases hA : iW a 0 (n - 1)
  · rw [hA] at ca;have e : iB n ⟨k,a,b,m,ids⟩ = (false) := by rw [qX];first | (rw [hA];rfl) | (rw [hAb];rcases h1 with h | h;(rw [decide_eq_false (by omega : ¬ (k = 0 ∨ ids.length = 0))];simp);(rw [decide_eq_false (by omega : ¬ (k = 4 ∨ b = 0))];simp)) | (rw [hAb,decide_eq_true hid,decide_eq_true hbz];simp only [oD];first | rw [if_pos k0] | rw [if_neg k0,if_pos k1] | rw [if_neg k0,if_neg k1,if_pos k4] | rw [if_neg k0,if_neg k1,if_neg k4,if_pos k5] | rw [if_neg k0,if_neg k1,if_neg k4,if_neg k5])
    rw [e];refine bX T Tryz.func18 rfl rfl rfl rfl ?_
    (repeat' (first|refine wS ?_|refine wR ?_|refine wT ?_|(refine rg 0 (cH (cY rfl rfl) rfl (aV ?_)))|(refine rg 1 (iP T rfl (mW rfl (vV (cX rfl rfl (by omega) (by omega)) (vV (kC (ca)) (vV (eM rfl) (mV ?_))))));(iterate 4 refine gF ?_);(iterate 4 refine gU ?_);refine gF (pW rfl (mV ?_));(iterate 4 refine gF ?_);(iterate 3 refine gU ?_);refine gF (pV ?_))|(refine rg 2 (aV ?_))|refine nZ ?_));exact rQ
  · rw [hA] at ca;have hAb := hA;simp only [iW,aK,decide_eq_true_eq] at hA;by_cases h1 : k ≠ 0 ∧ 0 < ids.length ∨ k ≠ 4 ∧ b ≠ 0
    · have e : iB n ⟨k,a,b,m,ids⟩ = (false) := by rw [qX];first | (rw [hA];rfl) | (rw [hAb];rcases h1 with h | h;(rw [decide_eq_false (by omega : ¬ (k = 0 ∨ ids.length = 0))];simp);(rw [decide_eq_false (by omega : ¬ (k = 4 ∨ b = 0))];simp)) | (rw [hAb,decide_eq_true hid,decide_eq_true hbz];simp only [oD];first | rw [if_pos k0] | rw [if_neg k0,if_pos k1] | rw [if_neg k0,if_neg k1,if_pos k4] | rw [if_neg k0,if_neg k1,if_neg k4,if_pos k5] | rw [if_neg k0,if_neg k1,if_neg k4,if_neg k5])
      rw [e];refine bX T Tryz.func18 rfl rfl rfl rfl ?_
      (repeat' (first|refine wS ?_|refine wR ?_|refine wT ?_|(refine wC rfl ?_ ?_<;>(intro hb;(try simp only [nm] at hb);try (exfalso;omega)))|(refine rg 0 (cH (cY rfl rfl) rfl (aV ?_)))|(refine rg 1 (iP T rfl (mW rfl (vV (cX rfl rfl (by omega) (by omega)) (vV (kC (ca)) (vV (eM rfl) (mW rfl (yP T rfl (yO T rfl (yV (fY rfl rfl) ?_)))))))));refine yM ?_;refine bT rfl rfl ?_ ?_<;>(intro hb;rw [hb];(try simp only [nm] at hb);try (exfalso;omega));(all_goals first|(refine gT (fW T rfl (gT (lW T rfl (gT (qW T rfl (gT (vV (fB rfl rfl) ?_))))))))|(iterate 4 refine gF ?_));(all_goals (refine gT (pW rfl (pW rfl (mV ?_)))));(all_goals first|(refine gK ?_)|(refine bT rfl rfl ?_ ?_<;>(intro hb;rw [hb];(try simp only [nm] at hb);try (exfalso;omega))));(all_goals first|(refine gT (fW T rfl (gT (lW T rfl (gT (vV (fY rfl rfl) (gT (mV ?_))))))))|(iterate 4 refine gF ?_));(all_goals first|(refine gK ?_)|(refine bT rfl rfl ?_ ?_<;>(intro hb;rw [hb];(try simp only [nm] at hb);try (exfalso;omega))));(all_goals first|(refine gT (fW T rfl (gT (lW T rfl (gT (vV (fY rfl rfl) ?_))))))|(iterate 3 refine gU ?_));(all_goals first|(refine gT (pV ?_))|(refine gF ?_));(all_goals (refine pV ?_)))|(refine rg 2 (aV ?_))|refine nZ ?_));all_goals exact rQ
    · have hid : k = 0 ∨ ids.length = 0 := by omega
      have hbz : k = 4 ∨ b = 0 := by omega
      by_cases k0 : k = 0
      · have e : iB n ⟨k,a,b,m,ids⟩ = (decide (m = 0) && HJ ids n) := by rw [qX];first | (rw [hA];rfl) | (rw [hAb];rcases h1 with h | h;(rw [decide_eq_false (by omega : ¬ (k = 0 ∨ ids.length = 0))];simp);(rw [decide_eq_false (by omega : ¬ (k = 4 ∨ b = 0))];simp)) | (rw [hAb,decide_eq_true hid,decide_eq_true hbz];simp only [oD];first | rw [if_pos k0] | rw [if_neg k0,if_pos k1] | rw [if_neg k0,if_neg k1,if_pos k4] | rw [if_neg k0,if_neg k1,if_neg k4,if_pos k5] | rw [if_neg k0,if_neg k1,if_neg k4,if_neg k5])
        rw [e];refine bX T Tryz.func18 rfl rfl rfl rfl ?_
        (repeat' (first|refine wS ?_|refine wB ?_|refine wK ?_|refine wR ?_|(refine wC rfl ?_ ?_<;>(intro hb;(try simp only [nm] at hb);try (exfalso;omega)))|(refine rg 0 (cH (cY rfl rfl) rfl (aV ?_)))|(refine rg 1 (iP T rfl (mW rfl (vV (cX rfl rfl (by omega) (by omega)) (vV (kC (ca)) (vV (eM rfl) (mW rfl (yP T rfl (yO T rfl (yV (fY rfl rfl) ?_)))))))));refine yM ?_;refine bT rfl rfl ?_ ?_<;>(intro hb;rw [hb];(try simp only [nm] at hb);try (exfalso;omega));(all_goals ((iterate 4 refine gF ?_);refine gT (pW rfl (pW rfl (mW rfl (yP T rfl (yO T rfl (yV (fY rfl rfl) (yM ?_)))))));refine bT rfl rfl ?_ ?_<;>(intro hb;rw [hb];(try simp only [nm] at hb);try (exfalso;omega))));(all_goals (refine yP T rfl (yO T rfl (yV (fY rfl rfl) (gT (pW rfl (pV ?_))))))))|(refine rg 3 (KX T ?_))|(refine rg 4 (vV (eX rfl rfl) (aV ?_)))|(refine rg 5 (iP T rfl (vV (eX rfl rfl) (mV ?_)));refine bT rfl rfl ?_ ?_<;>(intro hb;rw [hb];(try simp only [nm] at hb);try (exfalso;omega));(all_goals first|(refine gT (fW T rfl (gT (lW T rfl (gT (mW rfl (gT (vV (kC (cs)) ?_))))))))|(iterate 4 refine gF ?_));(all_goals (refine pW rfl (aV ?_))))|refine nZ ?_));all_goals first | (exfalso;omega) | (refine dH (.inl rfl) rfl (nD ?_);simp [*])
      · by_cases k1 : k = 1 ∨ k = 2 ∨ k = 3
        · have e : iB n ⟨k,a,b,m,ids⟩ = (iW m 0 1099511627776) := by rw [qX];first | (rw [hA];rfl) | (rw [hAb];rcases h1 with h | h;(rw [decide_eq_false (by omega : ¬ (k = 0 ∨ ids.length = 0))];simp);(rw [decide_eq_false (by omega : ¬ (k = 4 ∨ b = 0))];simp)) | (rw [hAb,decide_eq_true hid,decide_eq_true hbz];simp only [oD];first | rw [if_pos k0] | rw [if_neg k0,if_pos k1] | rw [if_neg k0,if_neg k1,if_pos k4] | rw [if_neg k0,if_neg k1,if_neg k4,if_pos k5] | rw [if_neg k0,if_neg k1,if_neg k4,if_neg k5])
          rw [e];refine bX T Tryz.func18 rfl rfl rfl rfl ?_
          (repeat' (first|refine wS ?_|refine wB ?_|refine wK ?_|refine wR ?_|(refine wC rfl ?_ ?_<;>(intro hb;(try simp only [nm] at hb);try (exfalso;omega)))|(refine rg 0 (cH (cY rfl rfl) rfl (aV ?_)))|(refine rg 1 (iP T rfl (mW rfl (vV (cX rfl rfl (by omega) (by omega)) (vV (kC (ca)) (vV (eM rfl) (mW rfl (yP T rfl (yO T rfl (yV (fY rfl rfl) ?_)))))))));refine yM ?_;refine bT rfl rfl ?_ ?_<;>(intro hb;rw [hb];(try simp only [nm] at hb);try (exfalso;omega));(all_goals (refine yP T rfl (yO T rfl (gT (qW T rfl (yV (fB rfl rfl) (gT (pW rfl (pW rfl (mV ?_))))))));refine bT rfl rfl ?_ ?_<;>(intro hb;rw [hb];(try simp only [nm] at hb);try (exfalso;omega))));(all_goals (refine yP T rfl (yO T rfl (yV (fY rfl rfl) (yM ?_)));refine bT rfl rfl ?_ ?_<;>(intro hb;rw [hb];(try simp only [nm] at hb);try (exfalso;omega))));(all_goals (refine yP T rfl (yO T rfl (yV (fY rfl rfl) (gT (pW rfl (pV ?_))))))))|(refine rg 3 (KX T ?_))|(refine rg 4 (vV (eX rfl rfl) (aV ?_)))|(refine rg 6 (vV (eX rfl rfl) (aV ?_)))|(refine rg 7 (vV (eX rfl rfl) (aV ?_)))|(refine rg 8 (vV (eX rfl rfl) (aV ?_)))|(refine rg 9 (iP T rfl (vV (by exact fU rfl rfl (sJ _ _ _) rfl rfl rfl) ?_));refine aV ?_)|refine nZ ?_));all_goals first | (exfalso;omega) | exact rQ
        · by_cases k4 : k = 4
          · have e : iB n ⟨k,a,b,m,ids⟩ = (decide (m = 0) && iW b (a + 1) (n - 1)) := by rw [qX];first | (rw [hA];rfl) | (rw [hAb];rcases h1 with h | h;(rw [decide_eq_false (by omega : ¬ (k = 0 ∨ ids.length = 0))];simp);(rw [decide_eq_false (by omega : ¬ (k = 4 ∨ b = 0))];simp)) | (rw [hAb,decide_eq_true hid,decide_eq_true hbz];simp only [oD];first | rw [if_pos k0] | rw [if_neg k0,if_pos k1] | rw [if_neg k0,if_neg k1,if_pos k4] | rw [if_neg k0,if_neg k1,if_neg k4,if_pos k5] | rw [if_neg k0,if_neg k1,if_neg k4,if_neg k5])
            rw [e];refine bX T Tryz.func18 rfl rfl rfl rfl ?_
            (repeat' (first|refine wS ?_|refine wB ?_|refine wK ?_|refine wR ?_|refine wU ?_|(refine wC rfl ?_ ?_<;>(intro hb;(try simp only [nm] at hb);try (exfalso;omega)))|(refine rg 0 (cH (cY rfl rfl) rfl (aV ?_)))|(refine rg 1 (iP T rfl (mW rfl (vV (cX rfl rfl (by omega) (by omega)) (vV (kC (ca)) (vV (eM rfl) (mW rfl (yP T rfl (yO T rfl (yV (fY rfl rfl) ?_)))))))));refine yM ?_;refine bT rfl rfl ?_ ?_<;>(intro hb;rw [hb];(try simp only [nm] at hb);try (exfalso;omega));(all_goals (refine yP T rfl (yO T rfl (gT (qW T rfl (yV (fB rfl rfl) (gT (pW rfl (pW rfl (mV ?_))))))));refine bT rfl rfl ?_ ?_<;>(intro hb;rw [hb];(try simp only [nm] at hb);try (exfalso;omega))));(all_goals (refine yP T rfl (yO T rfl (yV (fY rfl rfl) (yM ?_)));refine bT rfl rfl ?_ ?_<;>(intro hb;rw [hb];(try simp only [nm] at hb);try (exfalso;omega))));(all_goals ((iterate 3 refine gF ?_);refine gT (pW rfl (pV ?_)))))|(refine rg 3 (KX T ?_))|(refine rg 4 (vV (eX rfl rfl) (aV ?_)))|(refine rg 6 (vV (eX rfl rfl) (aV ?_)))|(refine rg 7 (vV (eX rfl rfl) (aV ?_)))|(refine rg 8 (vV (eX rfl rfl) (aV ?_)))|(refine rg 10 (vV (eX rfl rfl) (aV ?_)))|(refine rg 11 (iP T rfl (vV (eX rfl rfl) (mV ?_)));refine bT rfl rfl ?_ ?_<;>(intro hb;rw [hb];(try simp only [nm] at hb);try (exfalso;omega));(all_goals first|(refine gT (fW T rfl (gT (lW T rfl (gT (fW T rfl (gT (lW T rfl (gT (vV (cJ rfl rfl (by omega) (by omega)) ?_)))))))));refine gT (mW rfl (gT (vV (cX rfl rfl (by omega) (by omega)) (gT (vV (by exact fU rfl rfl (sJ _ _ _) rfl rfl rfl) ?_))))))|(iterate 8 refine gF ?_));(all_goals (refine pW rfl (aV ?_))))|refine nZ ?_));all_goals first | (exfalso;omega) | (refine dH (.inl rfl) rfl (nD ?_);simp [*])
          · by_cases k5 : k = 5
            · have e : iB n ⟨k,a,b,m,ids⟩ = (iW m 0 (n - 1)) := by rw [qX];first | (rw [hA];rfl) | (rw [hAb];rcases h1 with h | h;(rw [decide_eq_false (by omega : ¬ (k = 0 ∨ ids.length = 0))];simp);(rw [decide_eq_false (by omega : ¬ (k = 4 ∨ b = 0))];simp)) | (rw [hAb,decide_eq_true hid,decide_eq_true hbz];simp only [oD];first | rw [if_pos k0] | rw [if_neg k0,if_pos k1] | rw [if_neg k0,if_neg k1,if_pos k4] | rw [if_neg k0,if_neg k1,if_neg k4,if_pos k5] | rw [if_neg k0,if_neg k1,if_neg k4,if_neg k5])
              rw [e];refine bX T Tryz.func18 rfl rfl rfl rfl ?_
              (repeat' (first|refine wS ?_|refine wB ?_|refine wK ?_|refine wR ?_|(refine wC rfl ?_ ?_<;>(intro hb;(try simp only [nm] at hb);try (exfalso;omega)))|(refine rg 0 (cH (cY rfl rfl) rfl (aV ?_)))|(refine rg 1 (iP T rfl (mW rfl (vV (cX rfl rfl (by omega) (by omega)) (vV (kC (ca)) (vV (eM rfl) (mW rfl (yP T rfl (yO T rfl (yV (fY rfl rfl) ?_)))))))));refine yM ?_;refine bT rfl rfl ?_ ?_<;>(intro hb;rw [hb];(try simp only [nm] at hb);try (exfalso;omega));(all_goals (refine yP T rfl (yO T rfl (gT (qW T rfl (yV (fB rfl rfl) (gT (pW rfl (pW rfl (mV ?_))))))));refine bT rfl rfl ?_ ?_<;>(intro hb;rw [hb];(try simp only [nm] at hb);try (exfalso;omega))));(all_goals (refine yP T rfl (yO T rfl (yV (fY rfl rfl) (yM ?_)));refine bT rfl rfl ?_ ?_<;>(intro hb;rw [hb];(try simp only [nm] at hb);try (exfalso;omega))));(all_goals (refine yP T rfl (yO T rfl (yV (fY rfl rfl) (gT (pW rfl (pV ?_))))))))|(refine rg 3 (KX T ?_))|(refine rg 4 (vV (eX rfl rfl) (aV ?_)))|(refine rg 6 (vV (eX rfl rfl) (aV ?_)))|(refine rg 7 (vV (eX rfl rfl) (aV ?_)))|(refine rg 8 (vV (eX rfl rfl) (aV ?_)))|(refine rg 10 (vV (eX rfl rfl) (aV ?_)))|(refine rg 12 (vV (eX rfl rfl) (aV ?_)))|(refine rg 13 (iP T rfl (mW rfl (vV (cX rfl rfl (by omega) (by omega)) (vV (by exact fU rfl rfl (sJ _ _ _) rfl rfl rfl) ?_))));refine aV ?_)|refine nZ ?_));all_goals first | (exfalso;omega) | exact rQ
            · have e : iB n ⟨k,a,b,m,ids⟩ = (false) := by rw [qX];first | (rw [hA];rfl) | (rw [hAb];rcases h1 with h | h;(rw [decide_eq_false (by omega : ¬ (k = 0 ∨ ids.length = 0))];simp);(rw [decide_eq_false (by omega : ¬ (k = 4 ∨ b = 0))];simp)) | (rw [hAb,decide_eq_true hid,decide_eq_true hbz];simp only [oD];first | rw [if_pos k0] | rw [if_neg k0,if_pos k1] | rw [if_neg k0,if_neg k1,if_pos k4] | rw [if_neg k0,if_neg k1,if_neg k4,if_pos k5] | rw [if_neg k0,if_neg k1,if_neg k4,if_neg k5])
              rw [e];refine bX T Tryz.func18 rfl rfl rfl rfl ?_
              (repeat' (first|refine wS ?_|refine wB ?_|refine wK ?_|refine wR ?_|(refine wC rfl ?_ ?_<;>(intro hb;(try simp only [nm] at hb);try (exfalso;omega)))|(refine rg 0 (cH (cY rfl rfl) rfl (aV ?_)))|(refine rg 1 (iP T rfl (mW rfl (vV (cX rfl rfl (by omega) (by omega)) (vV (kC (ca)) (vV (eM rfl) (mW rfl (yP T rfl (yO T rfl (yV (fY rfl rfl) ?_)))))))));refine yM ?_;refine bT rfl rfl ?_ ?_<;>(intro hb;rw [hb];(try simp only [nm] at hb);try (exfalso;omega));(all_goals (refine yP T rfl (yO T rfl (gT (qW T rfl (yV (fB rfl rfl) (gT (pW rfl (pW rfl (mV ?_))))))));refine bT rfl rfl ?_ ?_<;>(intro hb;rw [hb];(try simp only [nm] at hb);try (exfalso;omega))));(all_goals (refine yP T rfl (yO T rfl (yV (fY rfl rfl) (yM ?_)));refine bT rfl rfl ?_ ?_<;>(intro hb;rw [hb];(try simp only [nm] at hb);try (exfalso;omega))));(all_goals (refine yP T rfl (yO T rfl (yV (fY rfl rfl) (gT (pW rfl (pV ?_))))))))|(refine rg 3 (KX T ?_))|(refine rg 4 (vV (eX rfl rfl) (aV ?_)))|(refine rg 6 (vV (eX rfl rfl) (aV ?_)))|(refine rg 7 (vV (eX rfl rfl) (aV ?_)))|(refine rg 8 (vV (eX rfl rfl) (aV ?_)))|(refine rg 10 (vV (eX rfl rfl) (aV ?_)))|(refine rg 12 (vV (eX rfl rfl) (aV ?_)))|(refine rg 14 (aV ?_))|refine nZ ?_));all_goals first | (exfalso;omega) | exact rQ
end Go.Proofs.YtmmmeebiobjnbaaGreat
namespace Go.Ld
open Go.Ab Go.Proofs.YtmmmeebiobjnbaaGreat
theorem GM {l : List Int} (h : l ≠ []) : l.headD 0 ∈ l := by
  cases l with
  | nil => exact absurd rfl h
  | cons x l => exact aS
theorem YU {l : List Int} (h : l.Pairwise (· < ·)) {z : Int} (hz : z ∈ l) : l.headD 0 ≤ z := by
  cases l with
  | nil => cases hz
  | cons x l =>
    rcases bU.1 hz with rfl | hz
    · exact eH _
    · have := (eV.1 h).1 z hz;show x ≤ z;omega
theorem zR7 {a b : Int} : cI a b ≤ 0 ↔ a ≤ b := by unfold cI;split <;> (try split) <;> omega
theorem H3 {l : List G} : MA l ↔ (l.map fun g => g.1.headD 0).Pairwise (fun a b => a ≤ b) := by
  rw [zD4];exact ⟨fun h => h.imp fun {a b} h => zR7.1 h,fun h => h.imp fun {a b} h => zR7.2 h⟩
theorem PF {c : Cx} {M : Int} {gs P Q R : List G} {u v J : G} (h : nQ c M gs) (e : gs = P ++ u :: (Q ++ v :: R)) (hM : 0 ≤ M) {M' : Int} (hMM : M ≤ M')
    (hp : J.1.Perm (u.1 ++ v.1)) (hJ : zZ c.bs.length J) (hne : J.2 ≠ []) (hf : (iH J).1.Perm ((iH u).1 ++ (iH v).1)) (hm : ∀ w,w ∈ J.2 → w.2.1 ≤ M') (hl : J.2.length ≤ 1000) : nQ c M' (P ++ J :: (Q ++ R)) := by
  have hmem : ∀ g,g ∈ P ++ J :: (Q ++ R) → g = J ∨ g ∈ gs := fun g hg => by
    subst e;simp only [bF,bU] at hg ⊢;rcases hg with hg | hg | hg | hg
    · exact .inr (.inl hg)
    · exact .inl hg
    · exact .inr (.inr (.inr (.inl hg)))
    · exact .inr (.inr (.inr (.inr (.inr hg))))
  have fl : ∀ F : G → List Int,(F J).Perm (F u ++ F v) → ((P ++ J :: (Q ++ R)).flatMap F).Perm (gs.flatMap F) := fun F hF => by
    subst e;simp only [fX,bJ,bW];refine List.Perm.append_left _ ?_;refine (hF.append_right _).trans ?_;rw [bW];refine List.Perm.append_left _ ?_;rw [← bW,← bW];exact List.perm_append_comm.append_right _
  have cov := (fl (·.1) hp).trans h.cov;have hlen : (gs.flatMap (·.1)).length = ((P ++ J :: (Q ++ R)).flatMap (·.1)).length := (fl (·.1) hp).length_eq.symm;refine ⟨⟨fun g hg => ?_,(fl (·.1) hp).nodup_iff.2 h.out.nd,by rw [← hlen];exact h.out.ln,fun g hg => ?_⟩,?_,fun g hg => ?_,fun g hg => ?_,cov,(fl _ hf).trans h.idn,fun g hg => ?_⟩
  · rcases hmem g hg with rfl | hg
    · exact hJ
    · exact h.out.ok g hg
  · rcases hmem g hg with rfl | hg
    · omega
    · exact h.out.ws g hg
  · have hu : u ∈ gs := by subst e;simp
    have hv : v ∈ gs := by subst e;simp
    have hup := H3.1 h.up;have ou := h.out.ok u hu;have ov := h.out.ok v hv;have huv : u.1.headD 0 ≤ v.1.headD 0 := by
      subst e;simp only [bO,List.map_cons] at hup;exact (eV.1 (eT.1 hup).2.1).1 _ (by simp)
    have hh : J.1.headD 0 = u.1.headD 0 := by
      have h1 : J.1.headD 0 ≤ u.1.headD 0 := YU hJ.up (hp.mem_iff.2 (bF.2 (.inl (GM ou.ne))));have h2 : u.1.headD 0 ≤ J.1.headD 0 := by
        rcases bF.1 (hp.mem_iff.1 (GM hJ.ne)) with hq | hq
        · exact YU ou.up hq
        · have := YU ov.up hq;omega
      omega
    refine H3.2 (hup.sublist ?_);subst e;simp only [bO,List.map_cons,hh];refine List.Sublist.append_left (List.Sublist.cons_cons _ (List.Sublist.append_left (List.sublist_cons_self _ _) _)) _
  · rcases hmem g hg with rfl | hg
    · exact hne
    · exact h.ne g hg
  · rcases hmem g hg with rfl | hg
    · exact hm
    · exact fun w hw => CS (h.ml g hg w hw) hMM
  · rcases hmem g hg with rfl | hg
    · exact hl
    · exact h.wl g hg
theorem YF {c : Cx} {gs all : List G} {a b : Int} (h : nQ c c.m gs) (hm0 : 0 ≤ c.m) (hm1 : c.m ≤ 1048576) (ha : 0 ≤ a ∧ a < c.bs.length) (hb : 0 ≤ b ∧ b < c.bs.length) (e : join gs a b = some all) :
    nQ c (2 * c.m) all ∧ ∃ g,g ∈ all ∧ a ∈ g.1 ∧ b ∈ g.1 := by
  obtain ⟨i,x,hi,hix,hax⟩ := iN (h.find ha);obtain ⟨k,y,hk,hky,hby⟩ := iN (h.find hb);have hx := aL hix;have hy := aL hky;unfold join at e;dsimp only at e;rw [hi,hk] at e;split at e
  · rename_i hik;obtain rfl : i = k := by omega
    cases e;have : x = y := by rw [hix] at hky;exact Option.some.inj hky
    subst this;exact ⟨⟨h.out,h.up,h.ne,fun g hg w hw => by have := h.ml g hg w hw;omega,h.cov,h.idn,h.wl⟩,x,hx,hax,hby⟩
  · rename_i hik;have hxy : x ≠ y := fun q => by
      subst q;have h1 := (aB.1 hix).2;have h2 := (aB.1 hky).2;have l1 := (aB.1 hix).1;have l2 := (aB.1 hky).1;have nd : (gs.map fun g => g.1.headD 0).Nodup := by
        have := h.out.nd;have aux : ∀ o : List G,(∀ g,g ∈ o → g.1 ≠ []) → (o.flatMap (·.1)).Nodup → (o.map fun g => g.1.headD 0).Nodup := by
          intro o
          induction o with
          | nil => intro _ _;exact eP
          | cons g o ih =>
            intro hg hn;rw [bJ] at hn;obtain ⟨n1,n2,n3⟩ := cN.1 hn;rw [List.map_cons,fI];refine ⟨fun hc => ?_,ih (fun g h => hg g (aI _ h)) n2⟩;obtain ⟨g',hg',e'⟩ := bB.1 hc;exact n3 _ (GM (hg g aS)) _ (oQ hg' (e' ▸ GM (hg g' (aI _ hg')))) rfl
        exact aux gs (fun g hg => (h.out.ok g hg).ne) this
      have e1 : (gs.map fun g => g.1.headD 0)[i]'(by simpa using l1) = (gs.map fun g => g.1.headD 0)[k]'(by simpa using l2) := by rw [oX,oX,h1,h2]
      have := (zQ1 nd).1 e1;omega
    have gi : mA gs ((i : Int)).toNat = x := by unfold mA;rw [aD];show (gs[i]?).getD _ = x;rw [hix];rfl
    have gk : mA gs ((k : Int)).toNat = y := by unfold mA;rw [aD];show (gs[k]?).getD _ = y;rw [hky];rfl
    rw [gi,gk] at e;split at e
    · cases e
    · rename_i hsz;have hln : x.1.length + y.1.length ≤ 6 := by omega
      have hwl : x.2.length * y.2.length ≤ 1000 := by omega
      cases e;have dj : ∀ (u v : G),u ∈ gs → v ∈ gs → u ≠ v → ∀ b,b ∈ u.1 → b ∉ v.1 := fun u v hu hv huv b h1 h2 => huv (U8 h.out.nd hu hv h1 h2);have ndi : (gs.flatMap fun g => (iH g).1).Nodup := h.idn.nodup_iff.2 (B1 _);have ndi' : ((gs.map fun g => ((iH g).1,g.2)).flatMap (·.1)).Nodup := by rw [CB];exact ndi
      have jo : uX c.bs.length x y := by
        refine ⟨h.out.ok x hx,h.out.ok y hy,h.ne x hx,h.ne y hy,dj x y hx hy hxy,fun b h1 h2 => ?_,hln⟩
        have l1 := (aB.1 hix).1;have l2 := (aB.1 hky).1;rcases iS (show i ≠ k by omega) with hlt | hlt
        · obtain ⟨P,Q,R,e1,-⟩ := mD x hlt hix hky;rw [e1] at ndi;simp only [fX,bJ] at ndi;exact (cN.1 (cN.1 ndi).2.1).2.2 b h1 b (by simp [h2]) rfl
        · obtain ⟨P,Q,R,e1,-⟩ := mD y hlt hky hix;rw [e1] at ndi;simp only [fX,bJ] at ndi;exact (cN.1 (cN.1 ndi).2.1).2.2 b h2 b (by simp [h1]) rfl
      have hJ := jo.ok (h.ml x hx) (h.ml y hy) (by omega)
      have hJn := YG (h.ne x hx) (h.ne y hy);have hJf := jo.same (jD hJn);have hJm : ∀ w,w ∈ (mI x y).2 → w.2.1 ≤ 2 * c.m := fun w hw => by
        obtain ⟨u,v,hu,hv,rfl⟩ := B3 hw;have := h.ml x hx u hu;have := h.ml y hy v hv;show u.2.1 + v.2.1 ≤ _;omega
      have hJp := mO x y;have hJl : (mI x y).2.length ≤ 1000 := by rw [EI];exact hwl
      have hJa : a ∈ (mI x y).1 := hJp.mem_iff.2 (bF.2 (.inl hax));have hJb : b ∈ (mI x y).1 := hJp.mem_iff.2 (bF.2 (.inr hby));generalize mI x y = J at *;rcases iS (show i ≠ k by omega) with hlt | hlt
      · obtain ⟨P,Q,R,e1,e2⟩ := mD J hlt hix hky;rw [show (min (i : Int) (k : Int)).toNat = i by omega,show (max (i : Int) (k : Int)).toNat = k by omega,e2]
        exact ⟨PF h e1 hm0 (by omega) hJp hJ hJn hJf hJm hJl,J,by simp,hJa,hJb⟩
      · obtain ⟨P,Q,R,e1,e2⟩ := mD J hlt hky hix;rw [show (min (i : Int) (k : Int)).toNat = k by omega,show (max (i : Int) (k : Int)).toNat = i by omega,e2]
        exact ⟨PF h e1 hm0 (by omega) (hJp.trans yE) hJ hJn (hJf.trans yE) hJm hJl,J,by simp,hJa,hJb⟩
theorem QV {f t : Int} (h : (K1 f t).2 = true) : MP (K1 f t).1 := by
  have := BI f t;unfold K1 at h ⊢;unfold MP;dsimp only at h ⊢;rcases this with ⟨h1,h2,h3,h4⟩ | ⟨h1,_⟩
  · rw [h2,h3];omega
  · rw [h1] at h;cases h
theorem RP {t u w e : Int} {r : SP} (h : (uL t u w e r).2 = true) : MP (uL t u w e r).1 := by
  unfold uL at h ⊢;dsimp only at h ⊢;split at h
  · rename_i hq;rw [if_pos hq];exact QV h
  · rename_i hq;exact absurd h hq
theorem XB {n s : Int} {r : SP} (h : (zC r n s).2 = true) : MP (zC r n s).1 := by
  unfold zC at h ⊢;split at h
  · rename_i hq;rw [if_pos hq];exact QV h
  · cases h
theorem FC.sC {n q : Nat} {w : W} (h : FC n q w) {i : Nat} {r : SP} (hr : MP r) : FC n q (sC w i r) where
  pl := h.pl
  cl := by show (w.2.2.set i r).length = q;rw [gY];exact h.cl
  pr := h.pr
  nd := h.nd
  m0 := h.m0
  m1 := h.m1
  sp x hx := by
    rcases fT hx with hx | rfl
    · exact h.sp x hx
    · exact hr
theorem UP {c : Cx} {n q : Nat} {w : W} {i : Nat} {s : Ev} (h : FC n q w) (hi : i < q) (hs : 0 ≤ s.n) (hm : w.2.1 ≤ 3000000) (hb : (jX c w i s).2 = true) : FC n q (jX c w i s).1 ∧ (jX c w i s).1.1 = w.1 ∧ (jX c w i s).1.2.1 ≤ w.2.1 + 1 := by
  obtain ⟨g1,g2,g3⟩ := h.at hi;unfold jX at hb ⊢;by_cases k0 : s.k = 0
  · rw [if_pos k0] at hb ⊢;split
    · exact ⟨h,rfl,by dsimp only;omega⟩
    · exact ⟨⟨h.pl,h.cl,h.pr,h.nd,by have := h.m0;dsimp only;omega,by dsimp only;omega,h.sp⟩,rfl,by dsimp only;omega⟩
  rw [if_neg k0] at hb ⊢;by_cases k1 : s.k = 1
  · rw [if_pos k1] at hb ⊢;dsimp only at hb ⊢;exact ⟨h.sC (RP hb),rfl,by show w.2.1 ≤ _;omega⟩
  rw [if_neg k1] at hb ⊢;by_cases k2 : s.k = 2
  · rw [if_pos k2] at hb ⊢;dsimp only at hb ⊢;exact ⟨h.sC (XB hb),rfl,by show w.2.1 ≤ _;omega⟩
  rw [if_neg k2] at hb ⊢;by_cases k3 : s.k = 3
  · rw [if_pos k3] at hb ⊢;dsimp only at hb ⊢;unfold vQ at hb;simp only [aK,decide_eq_true_eq] at hb;unfold MP at g3;exact ⟨h.sC (show MP (s.n,s.n + 1) from ⟨by dsimp only;omega,by dsimp only;omega,by dsimp only;omega⟩),rfl,by show w.2.1 ≤ _;omega⟩
  rw [if_neg k3] at hb ⊢;split
  · exact ⟨h,rfl,by dsimp only;omega⟩
  · exact ⟨h,rfl,by dsimp only;omega⟩
theorem CY {α : Type} {l : List α} {i k : Nat} {d : α} (hi : i < l.length) (hk : k < l.length) : ((l.set i (l.getD k d)).set k (l.getD i d)).Perm l := by
  have e1 : l.getD k d = l[k] := by rw [aD,aA hk];rfl
  have e2 : l.getD i d = l[i] := by rw [aD,aA hi];rfl
  rw [e1,e2];exact List.set_set_perm hi hk
theorem zN3 {n q : Nat} {w : W} {i k : Nat} (h : FC n q w) (hi : i < q) (hk : k < q) : FC n q (oS w i k) ∧ (oS w i k).1.Perm w.1 := by
  have p1 : (oS w i k).1.Perm w.1 := CY (by rw [h.pl];exact hi) (by rw [h.pl];exact hk)
  have p2 : (oS w i k).2.2.Perm w.2.2 := CY (by rw [h.cl];exact hi) (by rw [h.cl];exact hk)
  exact ⟨⟨p1.length_eq.trans h.pl,p2.length_eq.trans h.cl,fun x hx => h.pr x (p1.mem_iff.1 hx),p1.nodup_iff.2 h.nd,h.m0,h.m1,fun r hr => h.sp r (p2.mem_iff.1 hr)⟩,p1⟩
theorem JY {c : Cx} {M : Int} {gs : List G} (h : nQ c M gs) (hM : M ≤ 2200000) {g : G} (hg : g ∈ gs) {s : Ev} (hs : 0 ≤ s.n) (ha : s.a ∈ g.1) (hb : s.k = 4 → s.b ∈ g.1) {w : W} (hw : w ∈ mF c s g) : FC c.bs.length g.1.length w ∧ w.1.Perm (iH g).1 ∧ w.2.1 ≤ M + 1 := by
  have og := h.out.ok g hg;obtain ⟨v,hv,hw⟩ := gD.1 hw;have ov := og.ws v hv;have hvm := h.ml g hg v hv;have hp := og.same v _ hv (jD (h.ne g hg));obtain ⟨hi,_⟩ := xD ha;rcases bF.1 hw with hw | hw
  · split at hw
    · rename_i hbt;obtain rfl := bI.1 hw;obtain ⟨h1,h2,h3⟩ := UP ov hi hs (by omega) hbt
      exact ⟨h1,h2 ▸ hp,by omega⟩
    · cases hw
  · split at hw
    · rename_i hk;obtain rfl := bI.1 hw;obtain ⟨hj,_⟩ := xD (hb hk);obtain ⟨h1,h2⟩ := zN3 ov hi hj;exact ⟨h1,h2.trans hp,by show v.2.1 ≤ _;omega⟩
    · cases hw
theorem TB {c : Cx} {s : Ev} {g : G} : (mF c s g).length ≤ 2 * g.2.length := by
  unfold mF;dsimp only
  induction g.2 with
  | nil => simp
  | cons w l ih =>
    rw [bJ,aF,List.length_cons,aF];have h1 : ∀ {p : Prop} [Decidable p] {x : W},(if p then [x] else []).length ≤ 1 := by
      intro p _ x;split <;> simp
    have := @h1 ((jX c w (g.1.idxOf s.a) s).2 = true) _ (jX c w (g.1.idxOf s.a) s).1;have := @h1 (s.k = 4) _ (oS w (g.1.idxOf s.a) (g.1.idxOf s.b));omega
theorem zH9 {c : Cx} {M M' : Int} {gs : List G} (h : nQ c M gs) {i : Nat} {g : G} (hi : gs[i]? = some g) {ws : List W} (hne : ws ≠ []) (hl : ws.length ≤ 1000) (hM : M ≤ M')
    (hw : ∀ w,w ∈ ws → FC c.bs.length g.1.length w ∧ w.1.Perm (iH g).1 ∧ w.2.1 ≤ M') : nQ c M' (gs.set i (g.1,ws)) := by
  have hg := aL hi;have og := h.out.ok g hg;obtain ⟨A,B,e1,e2⟩ := pN (y := (g.1,ws)) hi;rw [e2];subst e1;have hmem : ∀ x,x ∈ A ++ (g.1,ws) :: B → x = (g.1,ws) ∨ x ∈ A ++ g :: B := fun x hx => by
    simp only [bF,bU] at hx ⊢;rcases hx with hx | hx | hx
    · exact .inr (.inl hx)
    · exact .inl hx
    · exact .inr (.inr (.inr hx))
  have hbod : ((A ++ (g.1,ws) :: B).flatMap (·.1)) = ((A ++ g :: B).flatMap (·.1)) := by simp only [fX,bJ]
  have hf := (hw _ (jD (g := (g.1,ws)) hne)).2.1;have ok : zZ c.bs.length (g.1,ws) := ⟨og.ne,og.up,og.rg,og.ln,fun w h => (hw w h).1,fun w v h1 h2 => (hw w h1).2.1.trans (hw v h2).2.1.symm⟩;refine ⟨⟨fun x hx => ?_,by rw [hbod];exact h.out.nd,by rw [hbod];exact h.out.ln,fun x hx => ?_⟩,?_,fun x hx => ?_,fun x hx => ?_,by rw [hbod];exact h.cov,?_,fun x hx => ?_⟩
  · rcases hmem x hx with rfl | hx
    · exact ok
    · exact h.out.ok x hx
  · rcases hmem x hx with rfl | hx
    · show ws.length ≤ 2000;omega
    · exact h.out.ws x hx
  · have := H3.1 h.up;refine H3.2 ?_;simp only [bO,List.map_cons] at this ⊢;exact this
  · rcases hmem x hx with rfl | hx
    · exact hne
    · exact h.ne x hx
  · rcases hmem x hx with rfl | hx
    · exact fun w hw' => (hw w hw').2.2
    · exact fun w hw' => CS (h.ml x hx w hw') hM
  · refine List.Perm.trans ?_ h.idn;simp only [fX,bJ];exact List.Perm.append_left _ (hf.append_right _)
  · rcases hmem x hx with rfl | hx
    · exact hl
    · exact h.wl x hx
theorem JJ {g : G} {k : Nat} {w : W} (h : w ∈ (jM g k).2) : ∃ v,v ∈ g.2 ∧ w = zN5 k v := by
  obtain ⟨v,hv,e⟩ := bB.1 (pP h);exact ⟨v,hv,e.symm⟩
theorem PO {g : G} {k : Nat} (h : g.2 ≠ []) : (jM g k).2 ≠ [] := fun e => h (by
  have := Q2.1 e
  exact mH.1 this)
theorem zI1 {m : Nat} {M : Int} (hM : 0 ≤ M) : ∀ {g : G},(∀ w,w ∈ g.2 → w.2.1 ≤ M) → ∀ x,x ∈ lQ m g → ∀ w,w ∈ x.2 → w.2.1 ≤ M := by
  induction m with
  | zero => intro g h x hx;simp [lQ] at hx;subst hx;exact h
  | succ m ih =>
    intro g h x hx;unfold lQ at hx;split at hx
    · simp at hx;subst hx;exact h
    · rename_i k hk;rcases bU.1 hx with rfl | hx
      · intro w hw;obtain rfl := bI.1 hw;exact hM
      · refine ih (fun w hw => ?_) x hx;obtain ⟨v,hv,rfl⟩ := JJ hw;exact h v hv
theorem XC {m : Nat} : ∀ {g : G},g.2.Pairwise (fun a b => oO a b < 0) → ∀ x,x ∈ lQ m g → x.2.Pairwise (fun a b => oO a b < 0) := by
  induction m with
  | zero => intro g h x hx;simp [lQ] at hx;subst hx;exact h
  | succ m ih =>
    intro g h x hx;unfold lQ at hx;split at hx
    · simp at hx;subst hx;exact h
    · rcases bU.1 hx with rfl | hx
      · exact jY _ _
      · exact ih (AG _) x hx
theorem JU {n : Nat} : ∀ (m : Nat) {g : G}, zZ n g → g.2 ≠ [] → ((lQ m g).flatMap fun x => (iH x).1).Perm (iH g).1
  | 0,g,h,hne => by simp [lQ]
  | m + 1,g,h,hne => by
    unfold lQ;split
    · simp
    · rename_i k hk;have hr := PO (k := k) hne;obtain ⟨v,hv,e⟩ := JJ (jD hr);have ih := JU m (h.rest hk) hr;rw [bJ];have ofw := h.ws _ (jD hne);have ov := h.ws v hv;obtain ⟨_,_,hkl,hs⟩ := jS hk;have hgv := (hs v hv).1;refine (List.Perm.append_left _ ih).trans ?_;rw [e];show (gP (iH g) k :: (v.1.eraseIdx k)).Perm _;rw [← hgv];exact (jR v.1 k 0 (by rw [ov.pl];exact hkl)).trans (h.same _ _ hv (jD hne))
theorem rZ {α β γ : Type} {F : β → List γ} {F' : α → List γ} {P : α → List β} : ∀ {l : List α}, (∀ g, g ∈ l → ((P g).flatMap F).Perm (F' g)) → ((l.flatMap P).flatMap F).Perm (l.flatMap F')
  | [],_ => .refl _
  | g :: l,h => by
    rw [bJ,fX,bJ];exact (h g aS).append (rZ fun x hx => h x (aI _ hx))
theorem Q6 {α β γ : Type} {F : β → List γ} {F' : α → List γ} {f : α → β} : ∀ {l : List α}, (∀ g, g ∈ l → (F (f g)).Perm (F' g)) → ((l.map f).flatMap F).Perm (l.flatMap F')
  | [],_ => .refl _
  | g :: l,h => by
    rw [List.map_cons,bJ,bJ];exact (h g aS).append (Q6 fun x hx => h x (aI _ hx))
theorem VV : ∀ {l : List G}, (∀ g, g ∈ l → 0 ≤ gI g) → 0 ≤ jO l
  | [],_ => eH _
  | g :: l,h => by
    have := VV fun x hx => h x (aI _ hx);have := h g aS;show 0 ≤ gI g + jO l;omega
theorem VW : ∀ {l : List G}, (∀ g, g ∈ l → 0 ≤ gI g) → ∀ {g : G}, g ∈ l → gI g ≤ jO l
  | x :: l,h,g,hg => by
    have h0 := VV fun x hx => h x (aI _ hx);have h1 := h x aS;show gI g ≤ gI x + jO l;rcases bU.1 hg with rfl | hg
    · omega
    · have := VW (fun x hx => h x (aI _ hx)) hg;omega
theorem XD {c : Cx} {L : List G} (h : nQ c c.m L) (hm0 : 0 ≤ c.m) (hasc : ∀ g,g ∈ L → g.2.Pairwise fun a b => oO a b < 0) : oZ c (qQ L) := by
  have hp := dI cG (L.flatMap fun g => lQ g.1.length g);have hmem : ∀ x,x ∈ qQ L → ∃ g,g ∈ L ∧ x ∈ lQ g.1.length g := fun x hx => gD.1 (hp.mem_iff.1 hx);have bod : ((qQ L).flatMap (·.1)).Perm (L.flatMap (·.1)) := (hp.flatMap_right _).trans (rZ fun g hg => zE _ (h.out.ok g hg));have idn : ((qQ L).flatMap fun g => (iH g).1).Perm (L.flatMap fun g => (iH g).1) := (hp.flatMap_right _).trans (rZ fun g hg => JU _ (h.out.ok g hg) (h.ne g hg));have wl : ∀ x,x ∈ qQ L → x.2.length ≤ 1000 := fun x hx => by
    obtain ⟨g,hg,hx⟩ := hmem x hx;exact JQ (by omega) (h.wl g hg) x hx
  refine ⟨⟨⟨fun x hx => ?_,bod.nodup_iff.2 h.out.nd,by rw [bod.length_eq];exact h.out.ln,fun x hx => by have := wl x hx;omega⟩,sG _,fun x hx => ?_,fun x hx => ?_,bod.trans h.cov,idn.trans h.idn,wl⟩,fun x hx => ?_,fun x hx => ?_⟩
  all_goals obtain ⟨g,hg,hx⟩ := hmem x hx
  · exact FY _ (h.out.ok g hg) x hx
  · exact zI0 (h.ne g hg) x hx
  · exact zI1 hm0 (h.ml g hg) x hx
  · exact DP _ (h.out.ok g hg) (aX _) x hx
  · exact XC (hasc g hg) x hx
theorem XG {c : Cx} {M : Int} {gs : List G} (h : nQ c M gs) (hne : ∀ g,g ∈ paid c gs → g.2 ≠ []) : nQ c c.m (paid c gs) := by
  have h0 : ∀ g,g ∈ gs → 0 ≤ gI g := fun g hg => (EG (h.out.ok g hg) (h.ne g hg)).1;refine ⟨h.out.paid c,PB h.up,hne,fun g hg w hw => ?_,by rw [N2];exact h.cov,?_,fun g hg => ?_⟩
  · obtain ⟨x,hx,rfl⟩ := bB.1 hg;have := of_decide_eq_true (eF.1 hw).2;have := VW h0 hx;omega
  · refine List.Perm.trans (Q6 (F' := fun g => (iH g).1) fun g hg => ?_) h.idn;have h1 := hne _ (bB.2 ⟨g,hg,rfl⟩);have h2 := jD h1;exact (h.out.ok g hg).same _ _ (eF.1 h2).1 (jD (h.ne g hg))
  · obtain ⟨x,hx,rfl⟩ := bB.1 hg;exact bK (fG _ _) (h.wl x hx)
theorem zF2 {c : Cx} {M : Int} {gs : List G} (h : nQ c M gs) (hm0 : 0 ≤ c.m) (hasc : ∀ g,g ∈ gs → g.2.Pairwise fun a b => oO a b < 0) (hne : ∀ g,g ∈ uM c gs → g.2 ≠ []) : oZ c (uM c gs) := by
  refine XD (XG h fun g hg e => ?_) hm0 fun g hg => ?_
  · refine hne g ?_ e;refine (dI cG _).mem_iff.2 (gD.2 ⟨g,hg,?_⟩);rw [JP e];exact bI.2 rfl
  · obtain ⟨x,hx,rfl⟩ := bB.1 hg;exact (hasc x hx).sublist List.filter_sublist
theorem nH {n : Int} {s : Ev} (h : iB n s = true) (hn : n ≤ 1000000) : (0 ≤ s.a ∧ s.a < n) ∧ (s.k = 4 → s.a < s.b ∧ s.b < n) ∧ 0 ≤ s.n ∧ s.n ≤ 1099511627776 := by
  obtain ⟨k,a,b,m,ids⟩ := s;unfold iB at h;simp only [aK,decide_eq_true_eq] at h;obtain ⟨⟨⟨h1,h2⟩,h3⟩,h4⟩ := h;dsimp only;refine ⟨by omega,fun hk => ?_,?_⟩
  · subst hk;simp at h4;omega
  · by_cases k0 : k = 0
    · subst k0;simp at h4;omega
    · rw [if_neg k0] at h4;split at h4
      · simp at h4;omega
      · split at h4
        · simp at h4;omega
        · split at h4
          · simp at h4;omega
          · cases h4
theorem TN {gs all : List G} {a b : Int} (e : join gs a b = some all) (ha : ∃ g,g ∈ gs ∧ a ∈ g.1) : ∀ g,g ∈ all → g ∈ gs ∨ a ∈ g.1 := by
  intro g hg;obtain ⟨i,x,hi,hix,hax⟩ := iN ha;unfold join at e;dsimp only at e;split at e
  · cases e;exact .inl hg
  · split at e
    · cases e
    · cases e;rcases fT (List.mem_of_mem_eraseIdx hg) with hg | rfl
      · exact .inl hg
      · refine .inr ((mO _ _).mem_iff.2 (bF.2 (.inl ?_)));rw [hi];unfold mA;rw [aD,show ((i : Int)).toNat = i from rfl,hix]
        exact hax
structure yC (c : Cx) (M : Int) (all : List G) (s : Ev) : Prop where
  mid : nQ c M all
  asc : ∀ g,g ∈ all → (g.2.Pairwise fun a b => oO a b < 0) ∨ s.a ∈ g.1
  a : 0 ≤ s.a ∧ s.a < c.bs.length
  b : s.k = 4 → ∃ g,g ∈ all ∧ s.a ∈ g.1 ∧ s.b ∈ g.1
  n0 : 0 ≤ s.n
  n1 : s.n ≤ 1099511627776
theorem yC.at {c : Cx} {M : Int} {all : List G} {s : Ev} (h : yC c M all s) : ∃ (i : Nat) (g : G),oR all s.a = (i : Int) ∧ all[i]? = some g ∧ g ∈ all ∧ mA all (oR all s.a).toNat = g ∧ s.a ∈ g.1 ∧ (s.k = 4 → s.b ∈ g.1) := by
  obtain ⟨i,g,hi,hg,ha⟩ := iN (h.mid.find h.a);have hm := aL hg;refine ⟨i,g,hi,hg,hm,?_,ha,fun hk => ?_⟩
  · rw [hi];unfold mA;rw [aD,show ((i : Int)).toNat = i from rfl,hg];rfl
  · obtain ⟨x,hx,h1,h2⟩ := h.b hk;rw [U8 h.mid.out.nd hm hx ha h1];exact h2
theorem yC.next {c : Cx} {M : Int} {all : List G} {s : Ev} (h : yC c M all s) (hM : M ≤ 2200000) {i : Nat} {g : G} (hi : all[i]? = some g) (ha : s.a ∈ g.1) (hb : s.k = 4 → s.b ∈ g.1) (hne : gJ (mF c s g) ≠ []) (hl : (gJ (mF c s g)).length ≤ 1000) :
    nQ c (M + 1) (all.set i (g.1,gJ (mF c s g))) ∧ ∀ x,x ∈ all.set i (g.1,gJ (mF c s g)) → x.2.Pairwise fun a b => oO a b < 0 := by
  have hg := aL hi;refine ⟨zH9 h.mid hi hne hl (by omega) fun w hw => JY h.mid hM hg h.n0 ha hb (pP hw),fun x hx => ?_⟩
  obtain ⟨A,B,e1,e2⟩ := pN (y := (g.1,gJ (mF c s g))) hi;rw [e2] at hx;have nd := h.mid.out.nd;have hall : x = (g.1,gJ (mF c s g)) ∨ x ∈ all ∧ s.a ∉ x.1 := by
    subst e1;simp only [fX,bJ] at nd;obtain ⟨_,n1,n2⟩ := cN.1 nd;obtain ⟨_,_,n3⟩ := cN.1 n1;simp only [bF,bU] at hx ⊢;rcases hx with hx | hx | hx
    · exact .inr ⟨.inl hx,fun q => n2 _ (oQ hx q) _ (bF.2 (.inl ha)) rfl⟩
    · exact .inl hx
    · exact .inr ⟨.inr (.inr hx),fun q => n3 _ ha _ (oQ hx q) rfl⟩
  rcases hall with rfl | ⟨h1,h2⟩
  · exact AG _
  · exact (h.asc x h1).resolve_right h2
theorem PM {c : Cx} {M : Int} {l all : List G} {s : Ev} (h : yC c M all s) (hM : M ≤ 2200000) (hm0 : 0 ≤ c.m) (hl : oZ c l) : oZ c (rH c l all s).2 := by
  obtain ⟨i,g,hi,hg,hgm,hat,ha,hb⟩ := h.at;unfold rH;dsimp only;rw [hat];split
  · exact hl
  · rename_i hne;split
    · exact hl
    · rename_i hwl;split
      · exact hl
      · rename_i hany;obtain ⟨hm,hasc⟩ := h.next hM hg ha hb hne (by omega)
        rw [hi] at hany ⊢;refine zF2 hm hm0 hasc fun x hx e => hany (lE.2 ⟨x,hx,by rw [e];rfl⟩)
theorem vD {c : Cx} {gs : List G} {s : Ev} (h : oZ c gs) (hn : c.bs.length ≤ 1000) (hm0 : 0 ≤ c.m) (hr : iB c.bs.length s = true) (hk : s.k ≠ 4) : yC c c.m gs s := by
  obtain ⟨h1,h2,h3,h4⟩ := nH hr (by omega)
  exact ⟨h.mid,fun g hg => .inl (h.asc g hg),h1,fun q => absurd q hk,h3,h4⟩
theorem sT {c : Cx} {gs all : List G} {s : Ev} (h : oZ c gs) (hn : c.bs.length ≤ 1000) (hm0 : 0 ≤ c.m) (hm1 : c.m ≤ 1048576) (hr : iB c.bs.length s = true) (hk : s.k = 4) (e : join gs s.a s.b = some all) : yC c (2 * c.m) all s := by
  obtain ⟨h1,h2,h3,h4⟩ := nH hr (by omega)
  have h2 := h2 hk;obtain ⟨j1,j2⟩ := YF h.mid hm0 hm1 h1 ⟨by omega,by omega⟩ e
  exact ⟨j1,fun g hg => (TN e (h.mid.find h1) g hg).imp_left fun hg => h.asc g hg,h1,fun _ => j2,h3,h4⟩
theorem nQ.n12 {c : Cx} {M : Int} {gs : List G} (h : nQ c M gs) : c.bs.length ≤ 12 := by
  have := h.cov.length_eq;have := h.out.ln;simp at *;omega
theorem FS {c : Cx} {gs : List G} {s : Ev} (h : oZ c gs) (hm0 : 0 ≤ c.m) (hm1 : c.m ≤ 1048576) : oZ c (eZ c gs s).2 := by
  have hn := h.mid.n12;unfold eZ;split
  · rename_i hr;split
    · rename_i hk;split
      · exact h
      · rename_i all e;exact PM (sT h (by omega) hm0 hm1 hr hk e) (by omega) hm0 h
    · rename_i hk;exact PM (vD h (by omega) hm0 hr hk) (by omega) hm0 h
  · exact h
def IQ (c : Cx) (s : Ev) (g : G) (w : W) : List W :=
  (if (jX c w (g.1.idxOf s.a) s).2 then [(jX c w (g.1.idxOf s.a) s).1] else []) ++ (if s.k = 4 then [oS w (g.1.idxOf s.a) (g.1.idxOf s.b)] else [])
def vI (c : Cx) (s : Ev) (g : G) (k : Nat) : List W := (g.2.take k).flatMap (IQ c s g)
theorem TC (c : Cx) (s : Ev) (g : G) : vI c s g g.2.length = mF c s g := by unfold vI;rw [cM];rfl
theorem AL {c : Cx} {s : Ev} {g : G} {k : Nat} (h : k < g.2.length) : vI c s g (k + 1) = vI c s g k ++ IQ c s g g.2[k] := by
  unfold vI;rw [aP h,fX,bJ,zQ2,List.append_nil]
theorem SB {c : Cx} {s : Ev} {g : G} {w : W} : (IQ c s g w).length ≤ 2 := by
  unfold IQ;rw [aF];split <;> split <;> simp
theorem EB {c : Cx} {s : Ev} {g : G} : ∀ {k : Nat}, k ≤ g.2.length → (vI c s g k).length ≤ 2 * k
  | 0,_ => by simp [vI]
  | k + 1,h => by
    rw [AL (by omega),aF]
    have := EB (c := c) (s := s) (g := g) (k := k) (by omega)
    have := SB (c := c) (s := s) (g := g) (w := g.2[k]'(by omega))
    omega
theorem I1 (l : List Int) : AB.rf (.arr (Go.Ab.ints l) 1) = true := by
  show (Go.Ab.ints l).all AV.rfL = true;rw [bH];intro e he;obtain ⟨x,_,rfl⟩ := bB.1 he;rfl
theorem WQ (l : List SP) : AB.rf (.arr (fL l) 2) = true := by
  show (fL l).all AV.rfL = true;rw [bH];intro e he;obtain ⟨x,_,rfl⟩ := bB.1 he;rfl
theorem zH3 (a : List Int) (b : List SP) : [AB.arr (Go.Ab.ints a) 1,.arr (fL b) 2].all AB.rf = true := by
  simp only [yW,I1,WQ,List.all_nil,Bool.and_self]
theorem IK {c : Cx} {n : Nat} {gs : List G} (h : nP n gs) : nP n (uM c gs) := by
  have h := h.paid c;unfold uM;generalize paid c gs = L at *;have hp := dI cG (L.flatMap fun g => lQ g.1.length g);have hmem : ∀ x,x ∈ qQ L → ∃ g,g ∈ L ∧ x ∈ lQ g.1.length g := fun x hx => gD.1 (hp.mem_iff.1 hx);have bod : ((qQ L).flatMap (·.1)).Perm (L.flatMap (·.1)) := (hp.flatMap_right _).trans (rZ fun g hg => zE _ (h.ok g hg));refine ⟨fun x hx => ?_,bod.nodup_iff.2 h.nd,by rw [bod.length_eq];exact h.ln,fun x hx => ?_⟩
  all_goals obtain ⟨g,hg,hx⟩ := hmem x hx
  · exact FY _ (h.ok g hg) x hx
  · exact JQ (by omega) (h.ws g hg) x hx
abbrev yU (s : Ev) : List AV := [.i s.k,.i s.a,.i s.b,.i s.n,.rowE (Go.Ab.ints s.ids) 1]
end Go.Ld
namespace Go.Proofs.YtmmmeebiobjnbaaGreat
open Go Go.Ab Go.Ld
attribute [local irreducible] VC AW cE aU iV
set_option maxHeartbeats 4000000
theorem zT6 (g : G) : aU Tryz.prog 67 [VA g] [] (.b g.2.isEmpty) [] := by
  obtain ⟨bs,ws⟩ := g;cases ws with
  | nil =>
    refine bX T Tryz.func67 rfl rfl rfl rfl ?_
    (repeat' (first|refine wS ?_|refine wR ?_|(refine rg 0 (cH (cY rfl rfl) rfl (aV ?_)))|(refine rg 1 (iP T rfl (qW T rfl (vV (eX rfl rfl) (aV ?_)))))|refine nZ ?_));all_goals first | (exfalso;omega) | exact rQ
  | cons w ws =>
    have hl : (gB (w :: ws)).length ≠ 0 := by rw [fH];simp
    refine bX T Tryz.func67 rfl rfl rfl rfl ?_
    (repeat' (first|refine wS ?_|refine wR ?_|(refine rg 0 (cH (cY rfl rfl) rfl (aV ?_)))|(refine rg 1 (iP T rfl (qW T rfl (vV (eX rfl rfl) (aV ?_)))))|refine nZ ?_));all_goals first | (exfalso;omega) | exact rQ
noncomputable def yB0 : Code := match Tryz.f46.body with
  | some (.seq _ (.seq _ (.seq _ (.seq _ c)))) => c
  | _ => .skip
noncomputable def yF1 : Code := match yB0 with
  | .seq a _ => a
  | _ => .skip
noncomputable def yF2 : Code := match yB0 with
  | .seq _ b => b
  | _ => .skip
theorem NA (c : Cx) (l all : List G) (s : Ev) {M : Int} (hc : iU c) (h : yC c M all s) (hM : M ≤ 2200000) (hids : s.ids.length ≤ 9223372036854775807) :
    AW Tryz.prog (Tryz.f46.ntmps,1) yF1 [(0,.ptr 0 0),(3,.pr (yU s) 0),(5,.sl 1 0 all.length 2)] [.cells (jP c l),.arr (kB all) 2] (KB (fun v h => AW Tryz.prog (Tryz.f46.ntmps,1) yF2 v h (WR T Tryz.f46.results.toList 1 (.i (rH c l all s).1) [.cells (jP c (rH c l all s).2)])) (WR T Tryz.f46.results.toList 1 (.i (rH c l all s).1) [.cells (jP c (rH c l all s).2)])) := by
  obtain ⟨i,g,hi,hg,hgm,hat,ha,hb⟩ := h.at;have hn12 := h.mid.n12;have hal : (kB all).length = all.length := jH _;have hl12 : all.length ≤ 12 := bK h.mid.out.len h.mid.out.ln;have og := h.mid.out.ok g hgm;have hwl := h.mid.wl g hgm;have hln := og.ln;have hil := (aB.1 hg).1;have f1 := zJ all s.a (by omega) (fun g hg => by have := (h.mid.out.ok g hg).ln;omega)
  have hvw : ∀ {x : AB} {r : Hp},nN (x :: .arr (kB all) 2 :: r) (.sl 1 0 all.length 2) (.rowE (kB all) 2) := fun {x r} => nU rfl hal.symm (qD (fun _ => rfl) _);have hix := xC g.1 s.a (by omega)
  have hxi : xE g.1 s.a 0 = ((g.1.idxOf s.a : Nat) : Int) := by have := B6 g.1 s.a 0 ha;simpa using this
  rw [hxi] at hix;rw [hi] at f1;have q1 := zH (L := all) (j := (i : Int)) (i := i) hg rfl;unfold rH;dsimp only;rw [hat,hi,bM];obtain ⟨bs,ws⟩ := g;dsimp only at *;have hwsl : (gB ws).length = ws.length := fH _
  (repeat' (first|refine wS ?_|(refine rg 9 (mW rfl (fW T rfl (vV (aN T rfl rfl rfl rfl) (vV (by exact eW rfl rfl f1 (.cons hvw (.cons (.v _) .nil)) rfl rfl) ?_))));refine aV ?_)|(refine rg 10 (dK rfl (vV (by exact aO T rfl rfl rfl rfl rfl (by omega) (by omega)) ?_));refine fW T rfl (vV (by exact aN T rfl rfl (bP rfl q1) rfl) ?_);refine vV (by exact eR T rfl rfl rfl rfl) ?_;refine cH (cK T rfl) rfl (bA T rfl rfl rfl rfl rfl rfl (by decide) rfl ?_))|refine nZ ?_));all_goals try (exfalso;omega)
  refine nX 2 1 3 rfl rfl (by decide) ?_
  (repeat' (first|refine wS ?_|refine wB ?_|(refine rg 11 (fW T rfl (vV (aN T rfl rfl rfl rfl) (fW T rfl (vV (aN T rfl rfl rfl rfl) (vV (kC (hix)) (aV ?_)))))))|(refine rg 12 (dK rfl (vV (by exact aO T rfl rfl rfl rfl rfl (by omega) (by omega)) ?_));refine fW T rfl (vV (by exact aN T rfl rfl (bP rfl q1) rfl) ?_);refine qW T rfl (mV ?_))|refine nZ ?_));all_goals try (exfalso;omega)
  refine dC (X := {k : Nat // k ≤ ws.length}) (fun k => [(0,.ptr 0 0),(3,.pr (yU s) 0),(5,.sl 1 0 all.length 2),(8,.i i),(9,.ptr 2 0),(10,.i (bs.idxOf s.a : Nat)),(63,.rowE (gB ws) 3),(64,.i (gB ws).length),(65,.i k.1)]) (fun k => [.cells (jP c l),.arr (kB all) 2,.cells [.rowE (ints bs) 1,.sl 3 0 (vI c s (bs,ws) k.1).length 3],.arr (gB (vI c s (bs,ws) k.1)) 3]) (fun k => ws.length - k.1) ⟨0,bY _⟩ ⟨[0,1,2,3],rfl,(by repeat first|exact trivial|refine ⟨rfl,?_⟩),⟨.inr rfl,.inr (aC rfl rfl (eG _)),.inr rfl,.inr rfl,trivial⟩,by decide,G8 _⟩ ?_
  rintro ⟨k,hk⟩;dsimp only;by_cases hlt : k < ws.length
  · have hgk := A0 hlt;have hst := AL (c := c) (s := s) (g := (bs,ws)) (k := k) hlt;have hal2 := EB (c := c) (s := s) (g := (bs,ws)) (k := k) hk;have ow := og.ws ws[k] (aM hlt);obtain ⟨hidx,_⟩ := xD ha;have hbw := ZY c l ws[k] s hc ow rfl hidx (by show bs.length ≤ 1000;omega) hids ⟨h.n0,h.n1⟩
    obtain ⟨e1,e2⟩ := HE c ws[k] (bs.idxOf s.a) s;have hk4 : s.k = 4 → (jX c ws[k] (bs.idxOf s.a) s).2 = true := fun q => by unfold jX;rw [q];rfl
    have hex : s.k = 4 → ∃ j : Nat,xE bs s.b 0 = (j : Int) ∧ j = bs.idxOf s.b ∧ j < bs.length := fun q => by
      obtain ⟨hj,_⟩ := xD (hb q);exact ⟨bs.idxOf s.b,by have := B6 bs s.b 0 (hb q);simpa using this,rfl,hj⟩
    have hiy := xC bs s.b (by omega)
    unfold IQ at hst;dsimp only at hst;have hpl := ow.pl;have hcl := ow.cl;have hal3 : (gB (vI c s (bs,ws) k)).length = (vI c s (bs,ws) k).length := fH _;generalize vI c s (bs,ws) k = acc at *;generalize hN : vI c s (bs,ws) (k + 1) = acc' at *;generalize bs.idxOf s.a = ia at *;generalize hw : ws[k] = w at *;generalize jX c w ia s = z at *;obtain ⟨⟨zp,zm,zc⟩,zb⟩ := z;dsimp only at e1 e2 hst hk4 hbw;subst e1;obtain ⟨wp,wm,wc⟩ := w;dsimp only at *;have hz1 : (ints wp).length = wp.length := dA _;have hz2 : (fL zc).length = zc.length := hO _
    (repeat' (first|refine wS ?_|refine wB ?_|refine wK ?_|(refine wC rfl ?_ ?_<;>(intro hb;(try simp only [nm] at hb);try (exfalso;omega)))|(refine rg 13 (vV (aJ rfl rfl) ?_))|(refine rg 14 (vV (ix T rfl (by omega) (pE _) hgk) (lW T rfl (cH (cK T rfl) rfl (bA T rfl rfl rfl rfl rfl rfl (by decide) rfl ?_)))))|refine nZ ?_));all_goals try (exfalso;omega)
    refine gL 12 (cs := wA (wp,wm,wc)) rfl rfl rfl ?_
    (repeat' (first|refine wS ?_|(refine rg 15 (mW rfl (lW T rfl (mW rfl (lW T rfl (cH (by exact fQ rfl rfl hbw (.inl ⟨.cons (.ptr rfl (kW _ rfl)) (.cons (FI _) (.cons (.v _) (.cons (.agg (kW _ rfl)) .nil))),zH3 _ _⟩)) rfl ?_)))));refine mW rfl (xW rfl (xW rfl (cH (cK T rfl) rfl (bA T rfl rfl rfl rfl rfl rfl (by decide) rfl (aV ?_))))))|refine nZ ?_));all_goals try (exfalso;omega)
    refine eU [(0, .ptr 0 0), (3, .pr (yU s) 0), (5, .sl 1 0 all.length 2), (8, .i i), (9, .ptr 2 0), (10, .i ia), (63, .rowE (gB ws) 3), (64, .i (gB ws).length), (65, .i k), (12, .pr (wA (wp, wm, wc)) 0), (13, .ptr 6 0), (14, .b zb)] [.cells (jP c l), .arr (kB all) 2, .cells [.rowE (ints bs) 1, .sl 3 0 acc.length 3], .arr (gB acc) 3, .arr (ints wp) 1, .arr (fL zc) 2, .cells [.sl 4 0 wp.length 1, .i zm, .sl 5 0 wc.length 2]]
      ⟨[0,1,2,3,5,6,7],rfl,(by repeat first|exact trivial|refine ⟨rfl,?_⟩),⟨.inr rfl,.inr (aC rfl rfl (eG _)),.inr rfl,.inr (aC rfl rfl (bV _)),.inr (aC rfl (bE _ (bN _)) (bN _)),.inr (aC rfl (bE _ (fD _)) (fD _)),.inr rfl,trivial⟩,by decide,G8 _⟩ ?_
    refine nJ 6 0 (es := ints wp) rfl rfl rfl hz1.symm (gE (bN _)) ?_;refine nJ 6 2 (es := fL zc) rfl rfl rfl (by omega) (gE (fD _)) ?_
    refine gL 13 (cs := wA (wp,zm,zc)) rfl rfl rfl ?_;refine eU [(0, .ptr 0 0), (3, .pr (yU s) 0), (5, .sl 1 0 all.length 2), (8, .i i), (9, .ptr 2 0), (10, .i ia), (63, .rowE (gB ws) 3), (64, .i (gB ws).length), (65, .i k), (12, .pr (wA (wp, wm, wc)) 0), (13, .pr (wA (wp, zm, zc)) 0), (14, .b zb)] [.cells (jP c l), .arr (kB all) 2, .cells [.rowE (ints bs) 1, .sl 3 0 acc.length 3], .arr (gB acc) 3]
      ⟨[0,1,2,3],rfl,(by repeat first|exact trivial|refine ⟨rfl,?_⟩),⟨.inr rfl,.inr (aC rfl rfl (eG _)),.inr rfl,.inr (aC rfl rfl (bV _)),trivial⟩,by decide,G8 _⟩ ?_
    have hA1 : ∀ (l : List W) (w : W),gB (l ++ [w]) = gB l ++ [wA w] := fun l w => by rw [gB,bO];rfl
    by_cases k4 : s.k = 4
    · obtain rfl := hk4 k4;rw [if_pos rfl,if_pos k4] at hst;obtain ⟨j,hj1,hj2,hj3⟩ := hex k4;rw [hj1] at hiy;rw [← hj2] at hst;have hxc := zW9 (wp,wm,wc) (i := ia) (k := j) ⟨by dsimp only;omega,by dsimp only;omega⟩ (by dsimp only;omega) (by dsimp only;omega) (by dsimp only;omega)
      generalize oS (wp,wm,wc) ia j = u at *;obtain ⟨up,um,uc⟩ := u;have hW := hA1 acc (wp,zm,zc);have hW2 := hA1 (acc ++ [(wp,zm,zc)]) (up,um,uc);rw [bW,← hst] at hW2;have hacl : acc'.length = acc.length + 2 := by rw [hst];simp
      have hWl : (gB (acc ++ [(wp,zm,zc)])).length = acc.length + 1 := by rw [fH];simp
      have hidA := bV (acc ++ [(wp,zm,zc)]);generalize gB (acc ++ [(wp,zm,zc)]) = B at *;generalize gB acc = A at *
      (repeat' (first|refine wS ?_|refine wT ?_|(refine rg 16 (mV ?_))|(refine rg 17 (iP T rfl (lW T rfl (cH (by exact bD T rfl rfl (by decide) (by decide) rfl rfl rfl) rfl ?_)));refine fR T rfl rfl rfl rfl rfl rfl (by omega) (iY.whole rfl rfl) rfl (by simp;omega) (by simp;omega) rfl ?_;refine fW T rfl (bA T rfl rfl rfl rfl rfl rfl (by decide) rfl ?_))|refine nZ ?_));all_goals try (exfalso;omega)
      refine eU [(0, .ptr 0 0), (3, .pr (yU s) 0), (5, .sl 1 0 all.length 2), (8, .i i), (9, .ptr 2 0), (10, .i ia), (63, .rowE (gB ws) 3), (64, .i (gB ws).length), (65, .i k), (12, .pr (wA (wp, wm, wc)) 0)] [.cells (jP c l), .arr (kB all) 2, .cells [.rowE (ints bs) 1, .sl 3 0 (acc.length + 1) 3], .arr B 3]
        ⟨[0,1,2,5],rfl,(by repeat first|exact trivial|refine ⟨rfl,?_⟩),⟨.inr rfl,.inr (aC rfl rfl (eG _)),.inr rfl,.inr (aC rfl (by rw [hW];exact iO hal3.symm) hidA),trivial⟩,by decide,G8 _⟩ ?_
      (repeat' (first|refine wT ?_|(refine rg 18 (iP T rfl (vV (lA rfl rfl k4) ?_)))|(refine lN (id := 19) 128 [[],[0],[],[],[],[4],[],[6],rM 4 4,rM 2 7,rM 2 8,rN 11] (rM 87 12) [[],[],[87,88],[87,88,89],rM 87 4,rM 87 4,rM 87 6,rM 87 6,rM 87 4,[87,88],[87,88],[]] [(11,3)] cW rfl (by decide +kernel) (cC rfl rfl rfl rfl (by exact bG T rfl rfl rfl) ?_);refine cC rfl rfl rfl rfl (by exact aN T rfl rfl rfl rfl) ?_;refine cC rfl rfl rfl rfl (by exact aN T rfl rfl rfl rfl) ?_;refine cC rfl rfl rfl rfl (by exact bR rfl) ?_;refine cC rfl rfl rfl rfl (by exact bG T rfl rfl rfl) ?_;refine cC rfl rfl rfl rfl (by exact aN T rfl rfl rfl rfl) ?_;refine cC rfl rfl rfl rfl (by exact bG T rfl rfl rfl) ?_;refine cC rfl rfl rfl rfl (by exact aN T rfl rfl rfl rfl) ?_;refine cC rfl rfl rfl rfl (by exact kC (hiy)) ?_;refine cC rfl rfl rfl rfl (by exact kC (hxc)) ?_;refine uF rfl rfl rfl rfl (by exact bD T rfl rfl (by decide) (by decide) rfl rfl rfl) rfl ?_;refine mG rfl rfl rfl rfl (aG rfl) (by exact lO T rfl rfl rfl rfl rfl rfl (by omega) (iY.whole rfl rfl) rfl (by simp;omega) (by simp;omega)) ?_;refine pB rfl rfl rfl (by exact rfl) ?_;refine fW T rfl (bA T rfl rfl rfl rfl rfl rfl (by decide) rfl ?_))|(refine rg 20 (vV (cJ rfl rfl (by omega) (by omega)) (mV ?_)))|refine nZ ?_));all_goals try (exfalso;omega)
      exact ⟨⟨k + 1,hlt⟩,by dsimp only;omega,⟨[0,1,2,5],rfl,(by repeat first|exact trivial|refine ⟨rfl,?_⟩),⟨.inr rfl,.inr (aC rfl rfl (eG _)),.inr (by dsimp only;rw [hN,hacl];rfl),.inr (aC rfl (by dsimp only;rw [hN,hW2];exact iO hWl.symm) (bV _)),trivial⟩,by decide,G8 _⟩⟩
    · rw [if_neg k4,List.append_nil] at hst;cases zb with
      | true =>
        rw [if_pos rfl] at hst;have hW := hA1 acc (wp,zm,zc);rw [← hst] at hW;have hacl : acc'.length = acc.length + 1 := by rw [hst];simp
        generalize gB acc = A at *
        (repeat' (first|refine wS ?_|refine wK ?_|refine wT ?_|refine wU ?_|(refine rg 16 (mV ?_))|(refine rg 17 (iP T rfl (lW T rfl (cH (by exact bD T rfl rfl (by decide) (by decide) rfl rfl rfl) rfl ?_)));refine fR T rfl rfl rfl rfl rfl rfl (by omega) (iY.whole rfl rfl) rfl (by simp;omega) (by simp;omega) rfl ?_;refine fW T rfl (bA T rfl rfl rfl rfl rfl rfl (by decide) rfl ?_))|(refine rg 18 (iP T rfl (vV (gR rfl rfl (by omega)) ?_)))|(refine rg 20 (vV (cJ rfl rfl (by omega) (by omega)) (mV ?_)))|refine nZ ?_));all_goals try (exfalso;omega)
        exact ⟨⟨k + 1,hlt⟩,by dsimp only;omega,⟨[0,1,2,5],rfl,(by repeat first|exact trivial|refine ⟨rfl,?_⟩),⟨.inr rfl,.inr (aC rfl rfl (eG _)),.inr (by dsimp only;rw [hN,hacl];rfl),.inr (aC rfl (by dsimp only;rw [hN,hW];exact iO hal3.symm) (bV _)),trivial⟩,by decide,G8 _⟩⟩
      | false =>
        rw [if_neg (by simp),List.append_nil] at hst
        subst hst
        (repeat' (first|refine wS ?_|refine wK ?_|refine wU ?_|(refine rg 16 (mV ?_))|(refine rg 18 (iP T rfl (vV (gR rfl rfl (by omega)) ?_)))|(refine rg 20 (vV (cJ rfl rfl (by omega) (by omega)) (mV ?_)))|refine nZ ?_));all_goals try (exfalso;omega)
        exact ⟨⟨k + 1,hlt⟩,by dsimp only;omega,⟨[0,1,2,3],rfl,(by repeat first|exact trivial|refine ⟨rfl,?_⟩),⟨.inr rfl,.inr (aC rfl rfl (eG _)),.inr (by dsimp only;rw [hN];rfl),.inr (aC rfl (by dsimp only;rw [hN]) (bV _)),trivial⟩,by decide,G8 _⟩⟩
  · obtain rfl : k = ws.length := by omega
    have hNA := TC c s (bs,ws);dsimp only at hNA;rw [hNA];have hnl := TB (c := c) (s := s) (g := (bs,ws));dsimp only at hnl;have hno : ∀ w,w ∈ mF c s (bs,ws) → FC c.bs.length bs.length w := fun w hw => (JY h.mid hM hgm h.n0 ha hb hw).1;have hoc := DU (mF c s (bs,ws)) (by omega) (fun w hw => ⟨by have := (hno w hw).pl;omega,by have := (hno w hw).cl;omega⟩)
    have hnx := h.next hM hg ha hb
    dsimp only at hnx;have hol := rJ (mF c s (bs,ws));have hNl : (gB (mF c s (bs,ws))).length = (mF c s (bs,ws)).length := fH _;generalize mF c s (bs,ws) = nw at *
    (repeat' (first|refine wS ?_|refine wE ?_|(refine wC rfl ?_ ?_<;>(intro hb;(try simp only [nm] at hb);try (exfalso;omega)))|(refine rg 13 (vV (aJ rfl rfl) ?_))|refine nZ ?_));all_goals try (exfalso;omega)
    refine nJ 2 1 (es := gB nw) rfl rfl rfl hNl.symm (gE (bV _)) ?_;generalize gJ nw = ow at *;have how : (gB ow).length = ow.length := fH _
    (repeat' (first|refine wS ?_|refine wB ?_|(refine rg 21 (iP T rfl (vV (kC (hoc)) (fW T rfl (bA T rfl rfl rfl rfl rfl rfl (by decide) rfl ?_)))))|refine nZ ?_));all_goals try (exfalso;omega)
    refine eU [(0,.ptr 0 0),(3,.pr (yU s) 0),(5,.sl 1 0 all.length 2),(8,.i i),(9,.ptr 2 0)] [.cells (jP c l),.arr (kB all) 2,.cells (gA (bs,ow))] ⟨[0,1,2],rfl,(by repeat first|exact trivial|refine ⟨rfl,?_⟩),⟨.inr rfl,.inr (aC rfl rfl (eG _)),.inr rfl,trivial⟩,by decide,G8 _⟩ ?_
    by_cases h0 : ow = []
    · subst h0;rw [if_pos rfl]
      (repeat' (first|refine wS ?_|refine wR ?_|refine wT ?_|(refine rg 22 (iP T rfl (qW T rfl (vV (eX rfl rfl) (aV ?_)))))|(refine rg 23 (aV ?_))|refine nZ ?_));all_goals try (exfalso;omega)
      exact ⟨.inl rfl,[0],_,rfl,rfl,rfl,⟨.inr rfl,trivial⟩,by decide,G8 _⟩
    · rw [if_neg h0];have hop := fJ.2 h0;by_cases h1 : 1000 < ow.length
      · rw [if_pos h1]
        (repeat' (first|refine wS ?_|refine wR ?_|(refine wC rfl ?_ ?_<;>(intro hb;(try simp only [nm] at hb);try (exfalso;omega)))|(refine rg 22 (iP T rfl (qW T rfl (vV (eX rfl rfl) (aV ?_)))))|(refine rg 24 (iP T rfl (qW T rfl (vV (fB rfl rfl) (aV ?_)))))|(refine rg 25 (aV ?_))|refine nZ ?_));all_goals try (exfalso;omega)
        exact ⟨.inl rfl,[0],_,rfl,rfl,rfl,⟨.inr rfl,trivial⟩,by decide,G8 _⟩
      · rw [if_neg h1];obtain ⟨hm1,hasc⟩ := hnx h0 (by omega)
        have hty := zF3 c l (all.set i (bs,ow)) hm1.out hm1.up hm1.ne;have hset := I9 (L := all) (j := (i : Int)) (i := i) (x := (bs,ow)) rfl;have hto := (IK hm1.out (c := c)).len;have hto2 := (IK hm1.out (c := c)).ln;have hcf := zV9 (l := uM c (all.set i (bs,ow))) (F := 67) (caps := []) (p := fun g => g.2.isEmpty) (by omega) rfl (fun x hx => zT6 x)
        have hNl2 : all.length = (kB (all.set i (bs,ow))).length := by rw [jH,gY]
        (repeat' (first|refine wS ?_|refine wK ?_|(refine wC rfl ?_ ?_<;>(intro hb;(try simp only [nm] at hb);try (exfalso;omega)))|(refine rg 22 (iP T rfl (qW T rfl (vV (eX rfl rfl) (aV ?_)))))|(refine rg 24 (iP T rfl (qW T rfl (vV (fB rfl rfl) (aV ?_)))))|(refine rg 26 (dK rfl (lW T rfl (vV (by exact aO T rfl rfl rfl rfl rfl (by omega) (by omega)) ?_)));refine bA T rfl rfl rfl rfl rfl rfl (by decide) (mK rfl q1 rfl) ?_)|refine nZ ?_));all_goals try (exfalso;omega)
        generalize all.set i (bs,ow) = N at *;refine eU [(0,.ptr 0 0),(5,.sl 1 0 all.length 2)] [.cells (jP c l),.arr (kB N) 2] ⟨[0,1],rfl,(by repeat first|exact trivial|refine ⟨rfl,?_⟩),⟨.inr rfl,.inr (aC rfl hset (eG _)),trivial⟩,by decide,G8 _⟩ ?_
        refine OP 5 (es := kB N) rfl rfl hNl2 (gE (eG _)) ?_;generalize uM c N = out at *
        (repeat' (first|refine wS ?_|(refine rg 27 (dK rfl (eA [0] rfl rfl (hty) rfl rfl (by decide) ⟨.inr rfl,trivial⟩ (by simp) rfl ?_));refine aV ?_)|refine nZ ?_));all_goals try (exfalso;omega)
        cases hany : out.any fun g => g.2.isEmpty with
        | true =>
          rw [hany] at hcf;rw [if_pos rfl]
          (repeat' (first|refine wS ?_|refine wR ?_|refine wT ?_|(refine rg 28 (mW rfl (vV (kC (hcf)) ?_)))|(refine rg 29 (aV ?_))|refine nZ ?_));all_goals try (exfalso;omega)
          exact ⟨.inl rfl,[0],_,rfl,rfl,rfl,⟨.inr rfl,trivial⟩,by decide,G8 _⟩
        | false =>
          rw [hany] at hcf;rw [if_neg (by simp)]
          (repeat' (first|refine wS ?_|refine wK ?_|refine wR ?_|refine wU ?_|(refine rg 28 (mW rfl (vV (kC (hcf)) ?_)))|(refine rg 30 (dK rfl (nV ?_));refine fW T rfl (bA T rfl rfl rfl rfl rfl rfl (by decide) rfl ?_))|(refine rg 31 (aV ?_))|refine nZ ?_));all_goals try (exfalso;omega)
          exact ⟨.inl rfl,[0],_,rfl,rfl,rfl,⟨.inr rfl,trivial⟩,by decide,G8 _⟩
theorem WK (c : Cx) (gs : List G) (s : Ev) (hc : iU c) (h : oZ c gs) (hids : s.ids.length ≤ 9223372036854775807) :
    aU Tryz.prog 46 [.ptr 0 0,yC7 s] [.cells (jP c gs)] (.i (eZ c gs s).1) [.cells (jP c (eZ c gs s).2)] := by
  have hn12 := h.mid.n12;obtain ⟨hm0,hm1,_⟩ := hc.s;have hgl : (kB gs).length = gs.length := jH _;have hgl12 : gs.length ≤ 12 := bK h.mid.out.len h.mid.out.ln;have hbl : (fP c.bs).length = c.bs.length := aY _;have hright := WP c.bs.length s.k s.a s.b s.n s.ids hids ⟨by omega,by omega⟩
  have hcl := K4 gs (by omega)
  have hst := vD (s := s) h (by omega) hm0
  have hjo := fun (hr : iB c.bs.length s = true) (hk : s.k = 4) (all : List G) => sT (s := s) (all := all) h (by omega) hm0 hm1 hr hk
  unfold eZ;generalize hv : iB c.bs.length s = v at *;rw [← hbl] at hright;cases v with
  | false =>
    rw [if_neg (by simp)]
    refine bX T Tryz.func46 rfl rfl rfl rfl ?_
    (repeat' (first|refine wS ?_|(refine rg 0 (cH (cY rfl rfl) rfl (aV ?_)))|refine nZ ?_));refine gL 3 (cs := yU s) rfl rfl rfl ?_
    (repeat' (first|refine wS ?_|refine wR ?_|refine wT ?_|(refine cO (id := 1) 128 yO0 (rM 15 8) yO1 cW rfl (by decide +kernel) (dN rfl (dV rfl (by exact cF rfl rfl) ?_));refine dP T rfl (dO T rfl (dV rfl (lM T rfl rfl) (dO T rfl (dV rfl (kC (hright)) (dV rfl (eM rfl) (dE ?_)))))))|(refine rg 2 (aV ?_))|refine nZ ?_));all_goals try (exfalso;omega)
    exact ⟨.inl rfl,[0],_,rfl,rfl,rfl,⟨.inr rfl,trivial⟩,by decide,G8 _⟩
  | true =>
    rw [if_pos rfl];by_cases k4 : s.k = 4
    · rw [if_pos k4];obtain ⟨r1,r2,_⟩ := nH hv (by omega)
      have r2 := r2 k4;have fa := h.mid.find r1;have fb := h.mid.find (b := s.b) ⟨by omega,by omega⟩
      cases hj : join gs s.a s.b with
      | none =>
        dsimp only;have hjc := zK5 gs s.a s.b h.mid.out fa fb hj;refine bX T Tryz.func46 rfl rfl rfl rfl ?_
        (repeat' (first|refine wS ?_|(refine rg 0 (cH (cY rfl rfl) rfl (aV ?_)))|refine nZ ?_));refine gL 3 (cs := yU s) rfl rfl rfl ?_
        (repeat' (first|refine wS ?_|refine wK ?_|refine wU ?_|(refine cO (id := 1) 128 yO0 (rM 15 8) yO1 cW rfl (by decide +kernel) (dN rfl (dV rfl (by exact cF rfl rfl) ?_));refine dP T rfl (dO T rfl (dV rfl (lM T rfl rfl) (dO T rfl (dV rfl (kC (hright)) (dV rfl (eM rfl) (dE ?_)))))))|(refine rg 3 (mW rfl (nV ?_));refine iP T rfl (cH (by exact fQ rfl rfl hcl (.inr ⟨rfl,rfl,by simp⟩)) rfl ?_);refine aV ?_)|refine nZ ?_));all_goals try (exfalso;omega)
        refine eU [(0,.ptr 0 0),(3,.pr (yU s) 0),(5,.sl 1 0 gs.length 2)] [.cells (jP c gs),.arr (kB gs) 2] ⟨[0,2],rfl,(by repeat first|exact trivial|refine ⟨rfl,?_⟩),⟨.inr rfl,.inr (aC rfl (bE _ (eG _)) (eG _)),trivial⟩,by decide,G8 _⟩ ?_
        refine OP 5 (es := kB gs) rfl rfl hgl.symm (gE (eG _)) ?_
        (repeat' (first|refine wS ?_|refine wR ?_|refine wT ?_|(refine rg 4 (iP T rfl (vV (lA rfl rfl k4) ?_)))|(refine rg 5 (mW rfl (iP T rfl (iP T rfl (vV (kC (hjc)) (mW rfl (xW rfl (xW rfl (uV ?_)))))))))|(refine rg 6 (mW rfl (vV (fY rfl rfl) ?_)))|(refine rg 7 (mW rfl (aV ?_)))|refine nZ ?_));all_goals try (exfalso;omega)
        exact ⟨.inl rfl,[0],_,rfl,rfl,rfl,⟨.inr rfl,trivial⟩,by decide,G8 _⟩
      | some all =>
        dsimp only;have hso := hjo rfl k4 all hj;refine bX T Tryz.func46 rfl rfl rfl rfl ?_
        (repeat' (first|refine wS ?_|(refine rg 0 (cH (cY rfl rfl) rfl (aV ?_)))|refine nZ ?_));refine gL 3 (cs := yU s) rfl rfl rfl ?_
        (repeat' (first|refine wS ?_|refine wK ?_|refine wU ?_|(refine cO (id := 1) 128 yO0 (rM 15 8) yO1 cW rfl (by decide +kernel) (dN rfl (dV rfl (by exact cF rfl rfl) ?_));refine dP T rfl (dO T rfl (dV rfl (lM T rfl rfl) (dO T rfl (dV rfl (kC (hright)) (dV rfl (eM rfl) (dE ?_)))))))|(refine rg 3 (mW rfl (nV ?_));refine iP T rfl (cH (by exact fQ rfl rfl hcl (.inr ⟨rfl,rfl,by simp⟩)) rfl ?_);refine aV ?_)|refine nZ ?_));all_goals try (exfalso;omega)
        refine eU [(0,.ptr 0 0),(3,.pr (yU s) 0),(5,.sl 1 0 gs.length 2)] [.cells (jP c gs),.arr (kB gs) 2] ⟨[0,2],rfl,(by repeat first|exact trivial|refine ⟨rfl,?_⟩),⟨.inr rfl,.inr (aC rfl (bE _ (eG _)) (eG _)),trivial⟩,by decide,G8 _⟩ ?_
        by_cases hs : oR gs s.a = oR gs s.b
        · have hjc := zK3 gs s.a s.b h.mid.out fa fb hs;have : all = gs := by unfold join at hj;dsimp only at hj;rw [if_pos hs] at hj;exact (Option.some.inj hj).symm
          subst this
          (repeat' (first|refine wS ?_|refine wK ?_|refine wT ?_|refine wU ?_|(refine rg 4 (iP T rfl (vV (lA rfl rfl k4) ?_)))|(refine rg 5 (mW rfl (iP T rfl (iP T rfl (eA [1] rfl rfl (hjc) rfl rfl (by decide) ⟨.inr (aC rfl rfl (eG _)),trivial⟩ (by simp) rfl ?_))));refine mW rfl (xW rfl (xW rfl (uV ?_))))|(refine rg 6 (mW rfl (vV (fY rfl rfl) ?_)))|(refine rg 8 (mW rfl (aV ?_)))|refine nZ ?_));all_goals try (exfalso;omega)
          refine eU [(0,.ptr 0 0),(3,.pr (yU s) 0),(5,.sl 1 0 all.length 2)] [.cells (jP c all),.arr (kB all) 2] ⟨[0,1],rfl,(by repeat first|exact trivial|refine ⟨rfl,?_⟩),⟨.inr rfl,.inr (aC rfl (bE _ (eG _)) (eG _)),trivial⟩,by decide,G8 _⟩ ?_
          exact NA c all all s hc hso (by omega) hids
        · have hjc := zK4 gs s.a s.b h.mid.out fa fb hj hs;refine OP 5 (es := kB gs) rfl rfl hgl.symm (gE (eG _)) ?_
          (repeat' (first|refine wS ?_|refine wK ?_|refine wT ?_|refine wU ?_|(refine rg 4 (iP T rfl (vV (lA rfl rfl k4) ?_)))|(refine rg 5 (mW rfl (iP T rfl (iP T rfl (cH (by exact fQ rfl rfl hjc (.inr ⟨rfl,rfl,by simp⟩)) rfl ?_))));refine mW rfl (xW rfl (xW rfl (uV ?_))))|(refine rg 6 (mW rfl (vV (fY rfl rfl) ?_)))|(refine rg 8 (mW rfl (aV ?_)))|refine nZ ?_));all_goals try (exfalso;omega)
          refine eU [(0,.ptr 0 0),(3,.pr (yU s) 0),(5,.sl 1 0 all.length 2)] [.cells (jP c gs),.arr (kB all) 2] ⟨[0,2],rfl,(by repeat first|exact trivial|refine ⟨rfl,?_⟩),⟨.inr rfl,.inr (aC rfl (bE _ (eG _)) (eG _)),trivial⟩,by decide,G8 _⟩ ?_
          exact NA c gs all s hc hso (by omega) hids
    · rw [if_neg k4];refine bX T Tryz.func46 rfl rfl rfl rfl ?_
      (repeat' (first|refine wS ?_|(refine rg 0 (cH (cY rfl rfl) rfl (aV ?_)))|refine nZ ?_));refine gL 3 (cs := yU s) rfl rfl rfl ?_
      (repeat' (first|refine wS ?_|refine wK ?_|refine wU ?_|(refine cO (id := 1) 128 yO0 (rM 15 8) yO1 cW rfl (by decide +kernel) (dN rfl (dV rfl (by exact cF rfl rfl) ?_));refine dP T rfl (dO T rfl (dV rfl (lM T rfl rfl) (dO T rfl (dV rfl (kC (hright)) (dV rfl (eM rfl) (dE ?_)))))))|(refine rg 3 (mW rfl (nV ?_));refine iP T rfl (cH (by exact fQ rfl rfl hcl (.inr ⟨rfl,rfl,by simp⟩)) rfl ?_);refine aV ?_)|(refine rg 4 (iP T rfl (vV (gR rfl rfl (by omega)) ?_)))|refine nZ ?_));all_goals try (exfalso;omega)
      refine eU [(0,.ptr 0 0),(3,.pr (yU s) 0),(5,.sl 1 0 gs.length 2)] [.cells (jP c gs),.arr (kB gs) 2] ⟨[0,2],rfl,(by repeat first|exact trivial|refine ⟨rfl,?_⟩),⟨.inr rfl,.inr (aC rfl (bE _ (eG _)) (eG _)),trivial⟩,by decide,G8 _⟩ ?_
      exact NA c gs gs s hc (hst rfl k4) (by omega) hids
end Go.Proofs.YtmmmeebiobjnbaaGreat
namespace Go.Ld
open Go.Ab Go.Proofs.YtmmmeebiobjnbaaGreat
def T2 (c : Cx) (i : Nat) : G := ([(i : Int)],[([(i : Int)],0,[((c.bs.getD i (0,0,0)).2.1,(c.bs.getD i (0,0,0)).2.1 + 1)])])
theorem wZ (c : Cx) : pT c = (List.range c.bs.length).map (T2 c) := rfl
theorem BB {α β : Type} (f : α → β) : ∀ l : List α, (l.flatMap fun x => [f x]) = l.map f
  | [] => rfl
  | x :: l => by rw [bJ,BB f l];rfl
theorem XV {c : Cx} (hc : iU c) (hn : c.bs.length ≤ 12) (hm : 0 ≤ c.m) : oZ c (pT c) := by
  rw [wZ];have hmem : ∀ g,g ∈ (List.range c.bs.length).map (T2 c) → ∃ i,i < c.bs.length ∧ g = T2 c i := fun g hg => by
    obtain ⟨i,hi,e⟩ := bB.1 hg;exact ⟨i,fF.1 hi,e.symm⟩
  have fl : (((List.range c.bs.length).map (T2 c)).flatMap (·.1)) = nats (List.range c.bs.length) := by
    rw [CB];exact BB _ _
  have fw : (((List.range c.bs.length).map (T2 c)).flatMap fun g => (iH g).1) = nats (List.range c.bs.length) := by
    rw [CB];exact BB _ _
  refine ⟨⟨⟨fun g hg => ?_,by rw [fl];exact B1 _,by rw [fl];simpa using hn,fun g hg => ?_⟩,?_,fun g hg => ?_,fun g hg w hw => ?_,by rw [fl],by rw [fw],fun g hg => ?_⟩,fun g hg => ?_,fun g hg => ?_⟩
  · obtain ⟨i,hi,rfl⟩ := hmem g hg;have hb := hc.f.b i hi;have e : c.bs.getD i (0,0,0) = c.bs[i] := by rw [aD,aA hi];rfl
    unfold T2;rw [e];generalize c.bs[i] = x at *;refine ⟨by simp,jY _ _,fun b hb => by obtain rfl := bI.1 hb;omega,by simp,fun w hw => ?_,fun w v hw hv => by obtain rfl := bI.1 hw;obtain rfl := bI.1 hv;exact .refl _⟩
    obtain rfl := bI.1 hw;refine ⟨rfl,rfl,fun b hb => by obtain rfl := bI.1 hb;omega,jY _ _,eH _,by dsimp only;omega,fun r hr => ?_⟩
    obtain rfl := bI.1 hr;unfold MP;dsimp only;omega
  · obtain ⟨i,hi,rfl⟩ := hmem g hg;show 1 ≤ 2000;omega
  · refine H3.2 ?_;rw [CP];show ((List.range c.bs.length).map fun i : Nat => ((i : Int))).Pairwise _;refine zD4.2 ((CO).imp fun {a b} h => by omega)
  · obtain ⟨i,hi,rfl⟩ := hmem g hg;unfold T2;simp
  · obtain ⟨i,hi,rfl⟩ := hmem g hg;obtain rfl := bI.1 hw;exact hm
  · obtain ⟨i,hi,rfl⟩ := hmem g hg;show 1 ≤ 1000;omega
  · obtain ⟨i,hi,rfl⟩ := hmem g hg;unfold iD;rw [if_pos (.inl (by show 1 < 2;omega))]
  · obtain ⟨i,hi,rfl⟩ := hmem g hg;exact jY _ _
def T3 (gs : List G) (b : Int) : Option (G × Nat) := match gs.findIdx? fun g => decide (b ∈ g.1) with
  | some i => some (mA gs i,(mA gs i).1.idxOf b)
  | none => none
theorem J0 {gs : List G} {b : Int} {g : G} {i : Nat} (h : T3 gs b = some (g,i)) : ∃ k : Nat,oR gs b = (k : Int) ∧ gs[k]? = some g ∧ b ∈ g.1 ∧ i = g.1.idxOf b := by
  unfold T3 at h;cases hq : gs.findIdx? fun g => decide (b ∈ g.1) with
  | none => rw [hq] at h;cases h
  | some k =>
    rw [hq] at h;dsimp only at h;cases h;obtain ⟨hk,hb,_⟩ := List.findIdx?_eq_some_iff_getElem.1 hq;have e : mA gs k = gs[k] := by unfold mA;rw [aD,aA hk];rfl
    refine ⟨k,by unfold oR;rw [hq],by rw [e];exact aA hk,by rw [e];simpa using hb,rfl⟩
theorem YY {gs : List G} {b : Int} (h : T3 gs b = none) : oR gs b = -1 := by
  unfold T3 at h;cases hq : gs.findIdx? fun g => decide (b ∈ g.1) with
  | none => unfold oR;rw [hq]
  | some k => rw [hq] at h;cases h
theorem AT {gs : List G} {b : Int} (h : ∃ g,g ∈ gs ∧ b ∈ g.1) : ∃ g,T3 gs b = some (g,g.1.idxOf b) ∧ g ∈ gs ∧ b ∈ g.1 := by
  cases hq : T3 gs b with
  | none =>
    obtain ⟨i,g,h1,_⟩ := iN h;have := YY hq;omega
  | some x =>
    obtain ⟨g,i⟩ := x;obtain ⟨k,_,h2,h3,rfl⟩ := J0 hq;exact ⟨g,rfl,aL h2,h3⟩
end Go.Ld
namespace Go.Proofs.YtmmmeebiobjnbaaGreat
open Go Go.Ab Go.Ld
attribute [local irreducible] VC AW cE aU iV
set_option maxHeartbeats 4000000
theorem zL3 (c : Cx) (gs : List G) (b : Int) (hl : gs.length ≤ 1000000) (hg : ∀ g,g ∈ gs → g.1.length ≤ 1000000) {g : G} {i : Nat} (h : T3 gs b = some (g,i)) :
    aU Tryz.prog 55 [.pr (jP c gs) 0,.i b] [] (.tup [VA g,.i i,.b true]) [] := by
  obtain ⟨k,h1,h2,h3,rfl⟩ := J0 h;have hf := zJ gs b hl hg;rw [h1] at hf;have hgl : (kB gs).length = gs.length := jH _;have hkl := (aB.1 h2).1;have q : (kB gs)[((k : Int)).toNat]? = some (gA g) := by rw [bM,bL,h2];rfl
  have hix := xC g.1 b (by have := hg g (aL h2);omega)
  have hxi : xE g.1 b 0 = ((g.1.idxOf b : Nat) : Int) := by have := B6 g.1 b 0 h3;simpa using this
  rw [hxi] at hix;generalize g.1.idxOf b = ia at *;obtain ⟨bs,ws⟩ := g;dsimp only at *;refine bX T Tryz.func55 rfl rfl rfl rfl ?_
  (repeat' (first|refine wS ?_|refine wK ?_|refine wR ?_|refine wU ?_|(refine rg 0 (cH (cK T rfl) rfl (uV ?_)))|(refine rg 1 (mW rfl (nV ?_));refine iP T rfl (mW rfl (vV (kC (hf)) (aV ?_))))|(refine rg 2 (mW rfl (vV (aJ rfl rfl) ?_)))|(refine tH (id := 4) 17 34 [[],[0],[0,1],[0,1,2],[],rN 5,rN 6,[],[7],[7,8],[7,8,9],[],rM 7 5,rM 7 6,rM 7 7,[],rM 7 9,rN 17,rN 18,rN 19] [[],[0],[0,1],[0,1,2],[],rN 5,rN 6,[],[7],[7,8],[7,8,9],[],rM 7 5,rM 7 6,rM 7 7,[],rM 7 9] (rM 17 17) [[],[],[],[],rM 17 4,[],[],rM 17 7,rM 17 7,rM 17 7,rM 17 7,rM 17 11,rM 17 7,rM 17 7,rM 17 7,rM 17 15,rM 17 7] cW rfl (by decide +kernel) (by decide +kernel) ?_;(dsimp only [List.take,List.drop]);refine dN rfl (dV rfl (by exact cF rfl rfl) ?_);refine dP T rfl (dO T rfl (dN rfl (dV rfl (ix T rfl (by omega) (qY _) q) (dO T rfl (dN rfl (dV rfl (by exact cF rfl rfl) ?_))))));refine dP T rfl (dO T rfl (dN rfl (dV rfl (ix T rfl (by omega) (qY _) q) (dP T rfl (dO T rfl (dN rfl (dV rfl (kC (hix)) (dE ?_))))))));refine iF ?_;refine bA T rfl rfl rfl rfl rfl rfl (by decide) rfl (uV ?_))|refine nZ ?_));all_goals try (exfalso;omega)
  all_goals exact ⟨.inl rfl,[],_,rfl,rfl,rfl,trivial,by decide,kI _⟩
end Go.Proofs.YtmmmeebiobjnbaaGreat
namespace Go.Ld
open Go.Ab Go.Proofs.YtmmmeebiobjnbaaGreat
def F4 (g : G) (i : Nat) : List Int := g.2.map fun w => gP w i
theorem TV {g : G} {i k : Nat} (h : k < g.2.length) : (F4 g i).take (k + 1) = (F4 g i).take k ++ [gP g.2[k] i] := by
  unfold F4;rw [← kJ,← kJ,aP h,bO];rfl
end Go.Ld
namespace Go.Proofs.YtmmmeebiobjnbaaGreat
open Go Go.Ab Go.Ld
attribute [local irreducible] VC AW cE aU iV
set_option maxHeartbeats 4000000
abbrev yH6 (l : List Int) : Prop := l.Pairwise (· < ·)
theorem zA7 {G l : List Int} {m : Nat} (hg : G.length ≤ m) (hm : m < l.length) : (ints (G ++ l.drop G.length))[0 + (m : Int).toNat]? = some [AV.i l[m]] := by
  rw [Nat.zero_add,bM,bL,aE hg,dU,show G.length + (m - G.length) = m by omega,aA hm];rfl
theorem zG3 {G l : List Int} {x : Int} (hg : G.length < l.length) : (ints (G ++ l.drop G.length)).set (0 + (G.length : Int).toNat) [AV.i x] = ints ((G ++ [x]) ++ l.drop (G ++ [x]).length) := by
  rw [Nat.zero_add,bM,← wG,iL _ _ (aX _),dX,aT hg,List.set_cons_zero];simp
theorem PV {G l : List Int} (hg : G.length ≤ l.length) : (ints (G ++ l.drop G.length)).length = l.length := by simp;omega
theorem VO {G l : List Int} : (ints (G ++ l.drop G.length)).take (0 + (G.length : Int).toNat) = ints G := by
  rw [Nat.zero_add,bM,← kJ,pS (aX _),bS (aX _)]
def iR (l : List Int) : Nat → List Int
  | 0 => []
  | m + 1 => if 0 < m ∧ l.getD m 0 = l.getD (m - 1) 0 then iR l m else iR l m ++ [l.getD m 0]
def yA (l : List Int) : List Int := iR l l.length
theorem K3 {l : List Int} {m : Nat} (h : 0 < m) (e : l.getD m 0 = l.getD (m - 1) 0) : iR l (m + 1) = iR l m := by
  unfold iR;rw [if_pos ⟨h,e⟩];cases m <;> rfl
theorem LK {l : List Int} {m : Nat} (e : l.getD m 0 ≠ l.getD (m - 1) 0) : iR l (m + 1) = iR l m ++ [l.getD m 0] := by
  unfold iR;rw [if_neg (fun q => e q.2)];cases m <;> rfl
theorem LJ (l : List Int) : iR l 1 = [l.getD 0 0] := by
  unfold iR;rw [if_neg (fun q => Nat.lt_irrefl _ q.1)];rfl
theorem rF {l : List Int} {m : Nat} (h : m < l.length) : l.getD m 0 = l[m] := by rw [aD,aA h];rfl
theorem RD {G l : List Int} {m : Nat} {i : Nat} (hg : G.length ≤ m) (hm : m < l.length) (hi : i = m) : (ints (G ++ l.drop G.length))[i]? = some [AV.i (l.getD m 0)] := by
  have := zA7 hg hm;rw [Nat.zero_add,bM] at this;rw [hi,this,rF hm]
theorem RE {l : List Int} {m i : Nat} (hm : m < l.length) (hi : i = m) : (ints l)[i]? = some [AV.i (l.getD m 0)] := by
  rw [hi,kX hm,rF hm]
theorem ER (l : List Int) (hl : l.length ≤ 1000000) : aU Tryz.prog 53 [.sl 0 0 l.length 1] [.arr (ints l) 1] (.sl 0 0 (yA l).length 1) [.arr (ints (yA l)) 1] := by
  have hll : (ints l).length = l.length := by simp
  refine bX T Tryz.func53 rfl rfl rfl rfl ?_;by_cases h2 : l.length < 2
  · have hk : yA l = l := by
      match l,h2 with
      | [],_ => rfl
      | [a],_ => exact LJ _
      | _ :: _ :: _,h => exact absurd h (by simp)
    rw [hk]
    (repeat' (first|refine wS ?_|refine wR ?_|(refine wC rfl ?_ ?_<;>(intro hb;(try simp only [nm] at hb);try (exfalso;omega)))|(refine rg 0 (aV ?_))|(refine rg 1 (mW rfl (qW T rfl (vV (aJ rfl rfl) ?_))))|(refine rg 2 (mW rfl (aV ?_)))|refine nZ ?_));all_goals first | (exfalso;omega) | exact ⟨.inl rfl,[0],_,rfl,rfl,rfl,⟨.inr (aC rfl rfl (bN _)),trivial⟩,by decide,GF⟩
  · (repeat' (first|refine wS ?_|refine wB ?_|refine wK ?_|(refine wC rfl (fun hb => ?_) (fun hb => ?_) <;> (((try simp only [nm] at hb);try (exfalso;omega))))|(refine rg 0 (aV ?_))|(refine rg 1 (mW rfl (qW T rfl (vV (aJ rfl rfl) ?_))))|(refine rg 3 (aV ?_))|(refine nZ ?_)));all_goals try (exfalso;omega)
    refine dC (X := {k : Nat // 1 ≤ k ∧ k ≤ l.length ∧ iR l k = l.take k}) (fun k => [(0,.sl 0 0 l.length 1),(3,.i k.1)]) (fun _ => [.arr (ints l) 1]) (fun k => l.length - k.1) ⟨1,by omega,by omega,by rw [LJ,rF (by omega),aP (by omega)];rfl⟩ ⟨[0],rfl,by (repeat (first | exact trivial | refine ⟨rfl,?_⟩)),⟨.inr (aC rfl rfl (bN _)),trivial⟩,by decide,GF⟩ ?_
    rintro ⟨k,hk1,hk,hkc⟩;dsimp only;by_cases hlt : k < l.length
    · have e1 := RE (i := 0 + (k : Int).toNat) hlt (by omega)
      have e2 := RE (l := l) (m := k - 1) (i := 0 + ((k : Int) - 1).toNat) (by omega) (by omega)
      by_cases hd : l.getD k 0 = l.getD (k - 1) 0
      · have hc1 := K3 (l := l) hk1 hd;rw [hkc] at hc1;generalize l.getD k 0 = a at *;generalize l.getD (k - 1) 0 = b at *
        (repeat' (first|refine wS ?_|refine wB ?_|refine wK ?_|refine wT ?_|(refine wC rfl ?_ ?_<;>(intro hb;(try simp only [nm] at hb);try (exfalso;omega)))|(refine rg 4 (dK rfl (qW T rfl (vV (aJ rfl rfl) ?_))))|(refine cO (id := 6) 61 yO2 (rM 16 10) yO3 cW rfl (by decide +kernel) (dN rfl (dN rfl (dV rfl (by exact aO T rfl rfl rfl rfl rfl (by omega) (by omega)) ?_)));refine dV rfl (by exact aN T rfl rfl (bP rfl e1) rfl) ?_;refine dN rfl (dN rfl (dV rfl (cX rfl rfl (by omega) (by omega)) (dV rfl (by exact aO T rfl rfl rfl rfl rfl (by omega) (by omega)) ?_)));refine dV rfl (by exact aN T rfl rfl (bP rfl e2) rfl) ?_;refine dV rfl (lA rfl rfl (by omega)) (dE ?_))|(refine rg 7 (dK rfl (vV (by exact jJ T rfl rfl rfl rfl rfl rfl (by omega) (by omega) (by omega)) ?_));refine aV ?_)|(refine rg 8 (aV ?_))|refine nZ ?_));all_goals try (exfalso;omega)
        have hl1 : (iR l (k + 1)).length = k := by rw [hc1];simp;omega
        refine dC (X := {j : Nat // 1 ≤ j ∧ k + j ≤ l.length ∧ (iR l (k + j)).length + 1 ≤ k + j}) (fun j => [(0,.sl 0 0 l.length 1),(3,.i (iR l (k + j.1)).length),(4,.sl 0 (0 + (k : Int).toNat) ((l.length : Int) - (k : Int)).toNat 1),(5,.i j.1)]) (fun j => [.arr (ints (iR l (k + j.1) ++ l.drop (iR l (k + j.1)).length)) 1]) (fun j => l.length - (k + j.1)) ⟨1,by omega,by omega,by omega⟩ ⟨[0],rfl,⟨rfl,by dsimp only;rw [hl1];rfl,rfl,rfl,trivial⟩,⟨.inr (aC rfl (by dsimp only;rw [hl1,hc1,bQ]) (bN _)),trivial⟩,by decide,GF⟩ ?_
        clear e1 e2 hd hl1 hc1;rintro ⟨j,hj1,hj,hjc⟩;dsimp only;by_cases hjl : k + j < l.length
        · have e1 := RD (G := iR l (k + j)) (l := l) (m := k + j) (i := 0 + (k : Int).toNat + (j : Int).toNat) (by omega) hjl (by omega)
          have e2 := RD (G := iR l (k + j)) (l := l) (m := k + j - 1) (i := 0 + (k : Int).toNat + ((j : Int) - 1).toNat) (by omega) (by omega) (by omega)
          have e3 := zA7 (G := iR l (k + j)) (l := l) (aX _) (by omega)
          have hset := zG3 (G := iR l (k + j)) (l := l) (x := l.getD (k + j) 0) (by omega)
          have hal := PV (G := iR l (k + j)) (l := l) (by omega)
          have hdup := K3 (l := l) (m := k + j) (by omega)
          have hnew := LK (l := l) (m := k + j);have hnl : ∀ G : List Int,(G ++ [l.getD (k + j) 0]).length = G.length + 1 := fun G => by simp
          rw [show k + j + 1 = k + (j + 1) by omega] at hdup hnew
          generalize l.getD (k + j) 0 = a at *;generalize l.getD (k + j - 1) 0 = b at *;generalize l[(iR l (k + j)).length] = y at *;generalize iR l (k + j) = G at *;by_cases hd : a = b
          · have hdup := hdup hd;generalize hA : ints (G ++ l.drop G.length) = A at *
            (repeat' (first|refine wS ?_|refine wB ?_|refine wK ?_|refine wU ?_|(refine wC rfl ?_ ?_<;>(intro hb;(try simp only [nm] at hb);try (exfalso;omega)))|(refine rg 9 (dK rfl (qW T rfl (vV (aJ rfl rfl) ?_))))|(refine cO (id := 11) 61 yO2 (rM 35 10) yO4 cW rfl (by decide +kernel) (dN rfl (dN rfl (dV rfl (by exact aO T rfl rfl rfl rfl rfl (by omega) (by omega)) ?_)));refine dV rfl (by exact aN T rfl rfl (bP rfl e1) rfl) ?_;refine dN rfl (dN rfl (dV rfl (cX rfl rfl (by omega) (by omega)) (dV rfl (by exact aO T rfl rfl rfl rfl rfl (by omega) (by omega)) ?_)));refine dV rfl (by exact aN T rfl rfl (bP rfl e2) rfl) ?_;refine dV rfl (V6 rfl rfl (by omega)) (dE ?_))|(refine iA 10 rfl rfl rfl (by omega) (by omega) ?_)|refine nZ ?_));all_goals try (exfalso;omega)
            all_goals exact ⟨⟨j + 1,by omega,by omega,by rw [hdup];omega⟩,by dsimp only;omega,[0],rfl,⟨rfl,by dsimp only;rw [hdup];rfl,rfl,rfl,trivial⟩,⟨.inr (aC rfl (by dsimp only;rw [hdup];exact hA.symm) (bN _)),trivial⟩,by decide,GF⟩
          · have hnew := hnew hd;have hgl := hnl G;generalize hA : ints (G ++ l.drop G.length) = A at *
            (repeat' (first|refine wS ?_|refine wB ?_|refine wK ?_|refine wT ?_|(refine wC rfl ?_ ?_<;>(intro hb;(try simp only [nm] at hb);try (exfalso;omega)))|(refine rg 9 (dK rfl (qW T rfl (vV (aJ rfl rfl) ?_))))|(refine cO (id := 11) 61 yO2 (rM 35 10) yO4 cW rfl (by decide +kernel) (dN rfl (dN rfl (dV rfl (by exact aO T rfl rfl rfl rfl rfl (by omega) (by omega)) ?_)));refine dV rfl (by exact aN T rfl rfl (bP rfl e1) rfl) ?_;refine dN rfl (dN rfl (dV rfl (cX rfl rfl (by omega) (by omega)) (dV rfl (by exact aO T rfl rfl rfl rfl rfl (by omega) (by omega)) ?_)));refine dV rfl (by exact aN T rfl rfl (bP rfl e2) rfl) ?_;refine dV rfl (V5 rfl rfl (by omega)) (dE ?_))|(refine rg 12 (dK rfl (dK rfl (vV (by exact aO T rfl rfl rfl rfl rfl (by omega) (by omega)) ?_)));refine vV (by exact aN T rfl rfl (bP rfl e1) rfl) ?_;refine vV (by exact aO T rfl rfl rfl rfl rfl (by omega) (by omega)) ?_;refine bA T rfl rfl rfl rfl rfl rfl (by decide) (mK rfl e3 rfl) ?_)|(refine iA 13 rfl rfl rfl (by omega) (by omega) ?_)|(refine iA 10 rfl rfl rfl (by omega) (by omega) ?_)|refine nZ ?_));all_goals try (exfalso;omega)
            all_goals exact ⟨⟨j + 1,by omega,by omega,by rw [hnew];omega⟩,by dsimp only;omega,[0],rfl,⟨rfl,by dsimp only;rw [hnew,hgl];rfl,rfl,rfl,trivial⟩,⟨.inr (aC rfl (by dsimp only;rw [hnew];exact hset) (bN _)),trivial⟩,by decide,GF⟩
        · have hkj : k + j = l.length := by omega
          have hcm : yA l = iR l (k + j) := by rw [hkj];rfl
          have hal := PV (G := iR l (k + j)) (l := l) (by omega)
          have htk := VO (G := iR l (k + j)) (l := l);rw [hcm];generalize iR l (k + j) = G at *
          (repeat' (first|refine wS ?_|refine wR ?_|refine wE ?_|(refine wC rfl ?_ ?_<;>(intro hb;(try simp only [nm] at hb);try (exfalso;omega)))|(refine rg 9 (dK rfl (qW T rfl (vV (aJ rfl rfl) ?_))))|(refine rg 14 (dK rfl (vV (by exact jJ T rfl rfl rfl rfl rfl rfl (by omega) (by omega) (by omega)) ?_));refine IG T rfl rfl rfl rfl rfl (by rw [hal];omega) ?_)|(refine rg 15 (dK rfl (vV (by exact jJ T rfl rfl rfl rfl rfl rfl (by omega) (by omega) (by omega)) ?_));refine aV ?_)|refine nZ ?_));all_goals try (exfalso;omega)
          all_goals exact ⟨.inl rfl,[0],_,rfl,(by show AV.sl 0 0 ((G.length : Int) - 0).toNat 1 = AV.sl 0 0 G.length 1;rw [show ((G.length : Int) - 0).toNat = G.length by omega]),rfl,⟨.inr (aC rfl htk (bN _)),trivial⟩,by decide,GF⟩
      · have hnew := LK (l := l) hd;rw [hkc,rF hlt,← aP hlt] at hnew;generalize l.getD k 0 = a at *;generalize l.getD (k - 1) 0 = b at *
        (repeat' (first|refine wS ?_|refine wB ?_|refine wK ?_|refine wU ?_|(refine wC rfl ?_ ?_<;>(intro hb;(try simp only [nm] at hb);try (exfalso;omega)))|(refine rg 4 (dK rfl (qW T rfl (vV (aJ rfl rfl) ?_))))|(refine cO (id := 6) 61 yO2 (rM 16 10) yO3 cW rfl (by decide +kernel) (dN rfl (dN rfl (dV rfl (by exact aO T rfl rfl rfl rfl rfl (by omega) (by omega)) ?_)));refine dV rfl (by exact aN T rfl rfl (bP rfl e1) rfl) ?_;refine dN rfl (dN rfl (dV rfl (cX rfl rfl (by omega) (by omega)) (dV rfl (by exact aO T rfl rfl rfl rfl rfl (by omega) (by omega)) ?_)));refine dV rfl (by exact aN T rfl rfl (bP rfl e2) rfl) ?_;refine dV rfl (gR rfl rfl (by omega)) (dE ?_))|(refine iA 5 rfl rfl rfl (by omega) (by omega) ?_)|refine nZ ?_));all_goals try (exfalso;omega)
        all_goals exact ⟨⟨k + 1,by omega,hlt,hnew⟩,by dsimp only;omega,[0],rfl,by (repeat (first | exact trivial | refine ⟨rfl,?_⟩)),⟨.inr (aC rfl rfl (bN _)),trivial⟩,by decide,GF⟩
    · obtain rfl : k = l.length := by omega
      have hcm : yA l = l := by
        show iR l l.length = l;rw [hkc,cM]
      rw [hcm]
      (repeat' (first|refine wS ?_|refine wR ?_|refine wE ?_|(refine wC rfl ?_ ?_<;>(intro hb;(try simp only [nm] at hb);try (exfalso;omega)))|(refine rg 4 (dK rfl (qW T rfl (vV (aJ rfl rfl) ?_))))|(refine rg 16 (mW rfl (aV ?_)))|refine nZ ?_));all_goals first | (exfalso;omega) | exact ⟨.inl rfl,[0],_,rfl,rfl,rfl,⟨.inr (aC rfl rfl (bN _)),trivial⟩,by decide,GF⟩
theorem K2 (l : List Int) (x : Int) : ∀ m, m ≤ l.length → (x ∈ iR l m ↔ x ∈ l.take m)
  | 0,_ => by simp [iR]
  | m + 1,hm => by
    have ih := K2 l x m (by omega)
    rw [aP (by omega)]
    by_cases e : 0 < m ∧ l.getD m 0 = l.getD (m - 1) 0
    · rw [K3 e.1 e.2,ih,bF,bI];refine ⟨.inl,fun h => h.elim id fun h => ?_⟩
      have e2 := e.2;rw [rF (by omega),rF (by omega)] at e2
      rw [h,e2];exact P7.2 ⟨m - 1,by omega,rfl⟩
    · have : iR l (m + 1) = iR l m ++ [l.getD m 0] := by
        unfold iR;rw [if_neg e];cases m <;> rfl
      rw [this,bF,bF,ih,rF (by omega)]
theorem LL {l : List Int} (hs : l.Pairwise (· ≤ ·)) : ∀ m, m ≤ l.length → yH6 (iR l m)
  | 0,_ => List.Pairwise.nil
  | m + 1,hm => by
    have ih := LL hs m (by omega)
    by_cases e : 0 < m ∧ l.getD m 0 = l.getD (m - 1) 0
    · rw [K3 e.1 e.2];exact ih
    · have : iR l (m + 1) = iR l m ++ [l.getD m 0] := by
        unfold iR;rw [if_neg e];cases m <;> rfl
      rw [this];refine eT.2 ⟨ih,jY _ _,fun x hx y hy => ?_⟩
      rw [bI] at hy;rw [K2 l x m (by omega)] at hx
      obtain ⟨i,hi,rfl⟩ := P7.1 hx;have him : i < m := by omega
      rw [hy,rF (by omega)]
      have h1 : l[m - 1] ≤ l[m] := kV.1 hs (m - 1) m _ _ (by omega)
      have h2 : l[i] ≤ l[m - 1] := by
        by_cases ei : i = m - 1
        · subst ei;exact eH _
        · exact kV.1 hs i (m - 1) _ _ (by omega)
      have h3 : l[m] ≠ l[m - 1] := fun q => e ⟨by omega,by rw [rF (by omega),rF (by omega)];exact q⟩
      omega
theorem oT (l : List Int) : ∀ m, (iR l m).length ≤ m
  | 0 => by simp [iR]
  | m + 1 => by
    have ih := oT l m;unfold iR;split
    · omega
    · simp;omega
abbrev tZ (g : G) (i : Nat) : List Int := yA (iG (F4 g i))
theorem zT9 (c : Cx) (gs : List G) (b : Int) (h : oZ c gs) {g : G} {i : Nat} (hg : T3 gs b = some (g,i)) :
    aU Tryz.prog 35 [.pr (jP c gs) 0,.i b] [] (.sl 0 0 (tZ g i).length 1) [.arr (ints (tZ g i)) 1] := by
  unfold tZ;obtain ⟨k0,h1,h2,h3,h4⟩ := J0 hg;have hgm := aL h2;have og := h.mid.out.ok g hgm;have hwl := h.mid.wl g hgm;have hl12 : gs.length ≤ 12 := bK h.mid.out.len h.mid.out.ln;have hgr := zL3 c gs b (by omega) (fun x hx => by have := (h.mid.out.ok x hx).ln;omega) hg
  have hi : i < g.1.length := by rw [h4];exact gS h3
  have hln := og.ln;have hil : (F4 g i).length = g.2.length := aY _;have htk : ∀ k (h : k < g.2.length),_ := fun k h => TV (g := g) (i := i) h;have hwg : ∀ k (h : k < g.2.length),(ints g.2[k].1)[((i : Int)).toNat]? = some [.i (gP g.2[k] i)] ∧ (ints g.2[k].1).length = g.1.length := fun k h => by
    have := (og.ws _ (aM h)).pl;exact ⟨rY 0 (by omega) rfl,by rw [dA];exact this⟩
  have hs1 := MY (F4 g i) (by omega)
  have hsl := wQ (F4 g i);have hs2 := ER (iG (F4 g i)) (by omega)
  rw [hsl] at hs2;obtain ⟨bs,ws⟩ := g;dsimp only at *;generalize F4 (bs,ws) i = P at *;have hwsl : (gB ws).length = ws.length := fH _;refine bX T Tryz.func35 rfl rfl rfl rfl ?_
  (repeat' (first|refine wS ?_|(refine rg 0 (aV ?_))|(refine rg 1 (dK rfl (vV (kC (hgr)) (mW rfl (xW rfl (xW rfl (xW rfl (cH (cK T rfl) rfl (bA T rfl rfl rfl rfl rfl rfl (by decide) rfl (uV ?_))))))))))|refine nZ ?_));all_goals try (exfalso;omega)
  refine gL 5 (cs := gA (bs,ws)) rfl rfl rfl ?_
  (repeat' (first|refine wS ?_|(refine rg 2 (vV (dJ rfl) (nG 8 1 rfl (by decide) ?_)))|refine nZ ?_));all_goals try (exfalso;omega)
  (repeat' (first|refine wB ?_|(refine rg 3 (iP T rfl (qW T rfl (mV ?_))))|refine nZ ?_));all_goals try (exfalso;omega)
  refine dC (X := {k : Nat // k ≤ ws.length}) (fun k => [(6,.i i),(8,.sl 0 0 k.1 1),(19,.rowE (gB ws) 3),(20,.i (gB ws).length),(21,.i k.1)]) (fun k => [.arr (ints (P.take k.1)) 1]) (fun k => ws.length - k.1) ⟨0,bY _⟩ ⟨[1],rfl,(by repeat first|exact trivial|refine ⟨rfl,?_⟩),⟨.inr rfl,trivial⟩,by decide,kI _⟩ ?_
  rintro ⟨k,hk⟩;dsimp only;by_cases hlt : k < ws.length
  · have hgk := A0 hlt;obtain ⟨q1,q2⟩ := hwg k hlt;have q3 := htk k hlt;have q4 : (ints (P.take k)).length = k := by rw [dA,bC];omega
    have q5 : ints (P.take (k + 1)) = ints (P.take k) ++ [[.i (gP ws[k] i)]] := by rw [q3,O3]
    generalize ints (P.take k) = A at *;generalize gP ws[k] i = v at *;generalize ws[k] = w at *;obtain ⟨wp,wm,wc⟩ := w;dsimp only at *
    (repeat' (first|refine wS ?_|refine wB ?_|refine wK ?_|(refine wC rfl ?_ ?_<;>(intro hb;(try simp only [nm] at hb);try (exfalso;omega)))|(refine rg 4 (vV (aJ rfl rfl) ?_))|(refine rg 5 (vV (ix T rfl (by omega) (pE _) hgk) (lW T rfl (cH (cK T rfl) rfl (bA T rfl rfl rfl rfl rfl rfl (by decide) rfl ?_)))))|(refine rg 6 (mW rfl (iP T rfl (mW rfl (vV (ix T rfl (by omega) (eB _) q1) (lW T rfl (cH (by exact bD T rfl rfl (by decide) (by decide) rfl rfl rfl) rfl ?_))))));refine fR T rfl rfl rfl rfl rfl rfl (by omega) (iY.whole rfl rfl) rfl (by simp;omega) (by simp;omega) rfl ?_;refine aV ?_)|(refine rg 7 (vV (cJ rfl rfl (by omega) (by omega)) (mV ?_)))|refine nZ ?_));all_goals try (exfalso;omega)
    exact ⟨⟨k + 1,hlt⟩,by dsimp only;omega,⟨[3],rfl,(by repeat first|exact trivial|refine ⟨rfl,?_⟩),⟨.inr (aC rfl (by dsimp only;rw [q5];exact iO q4.symm) (bN _)),trivial⟩,by decide,kI _⟩⟩
  · obtain rfl : k = ws.length := by omega
    rw [show P.take ws.length = P by rw [← hil,cM]]
    rw [← hil] at *
    (repeat' (first|refine wS ?_|refine wR ?_|refine wE ?_|(refine wC rfl ?_ ?_<;>(intro hb;(try simp only [nm] at hb);try (exfalso;omega)))|(refine rg 4 (vV (aJ rfl rfl) ?_))|(refine rg 8 (mW rfl (eA [0] rfl rfl (hs1) rfl rfl (by decide) ⟨.inr (aC rfl rfl (bN _)),trivial⟩ (by simp) rfl ?_)))|(refine rg 9 (mW rfl (eA [0] rfl rfl (hs2) rfl rfl (by decide) ⟨.inr (aC rfl (bE _ (bN _)) (bN _)),trivial⟩ (by simp) rfl ?_));refine aV ?_)|refine nZ ?_));all_goals try (exfalso;omega)
    exact ⟨.inl rfl,[0],_,rfl,rfl,rfl,⟨.inr (aC rfl (bE _ (bN _)) (bN _)),trivial⟩,by decide,kI _⟩
end Go.Proofs.YtmmmeebiobjnbaaGreat
namespace Go.Ld
open Go.Ab Go.Proofs.YtmmmeebiobjnbaaGreat
def YR (a b : SP) : SP := (min a.1 b.1,max a.2 b.2)
def SK (g : G) (i k : Nat) : SP := (g.2.take k).foldl (fun r w => YR r (gC w i)) (gC (iH g) i)
def zH0 (g : G) (i : Nat) : SP := SK g i g.2.length
theorem SJ {g : G} {i k : Nat} (h : k < g.2.length) : SK g i (k + 1) = YR (SK g i k) (gC g.2[k] i) := by
  unfold SK;rw [aP h,zD7];rfl
end Go.Ld
namespace Go.Proofs.YtmmmeebiobjnbaaGreat
open Go Go.Ab Go.Ld
attribute [local irreducible] VC AW cE aU iV
set_option maxHeartbeats 4000000
end Go.Proofs.YtmmmeebiobjnbaaGreat
namespace Go.Ld
open Go.Ab Go.Proofs.YtmmmeebiobjnbaaGreat
def T1 (g : G) (p q : List Int) (w : W) (i : Nat) : Bool := decide (gP w i = p.getD (g.1.getD i 0).toNat 0) && vQ (gC w i).1 (gC w i).2 (q.getD (p.getD (g.1.getD i 0).toNat 0).toNat 0)
def BD (g : G) (p q : List Int) (w : W) : Bool := (List.range g.1.length).all (T1 g p q w)
end Go.Ld
namespace Go.Proofs.YtmmmeebiobjnbaaGreat
open Go Go.Ab Go.Ld
attribute [local irreducible] VC AW cE aU iV
set_option maxHeartbeats 4000000
end Go.Proofs.YtmmmeebiobjnbaaGreat
namespace Go.Ld
open Go.Ab Go.Proofs.YtmmmeebiobjnbaaGreat
def ZX (g : G) (p q : List Int) (m : Int) (w : W) : Int := if BD g p q w && (decide (m < 0) || decide (w.2.1 < m)) then w.2.1 else m
def R6 (g : G) (p q : List Int) (k : Nat) : Int := (g.2.take k).foldl (ZX g p q) (-1)
def E4 (g : G) (p q : List Int) : Int := R6 g p q g.2.length
theorem ON {g : G} {p q : List Int} {k : Nat} (h : k < g.2.length) : R6 g p q (k + 1) = ZX g p q (R6 g p q k) g.2[k] := by
  unfold R6;rw [aP h,zD7];rfl
def zT3 (gs : List G) (p q : List Int) (k : Nat) : Int := ((gs.take k).map fun g => E4 g p q).sum
def zY4 (c : Cx) (gs : List G) (p q : List Int) : Bool :=
  decide (p.length = c.bs.length) && decide (q.length = p.length) && Go.Pm.permB p && gs.all (fun g => decide (0 ≤ E4 g p q)) && decide (zT3 gs p q gs.length ≤ c.m)
end Go.Ld
namespace Go.Proofs.YtmmmeebiobjnbaaGreat
open Go Go.Ab Go.Ld Go.Pm
attribute [local irreducible] VC AW cE aU iV
set_option maxHeartbeats 4000000
theorem zL1 (n : Int) (h : n ≤ 17592186043904) : aU Tryz.prog 50 [.i n] [] (.sl 0 0 n.toNat 1) [.arr (ints (nats (List.range n.toNat))) 1] := by
  refine bX T Tryz.func50 rfl rfl rfl rfl ?_
  (repeat' (first|refine wS ?_|refine wB ?_|(refine rg 0 (aV ?_))|(refine rg 1 (aV ?_))|(refine rg 2 (mW rfl (vV (F7 rfl rfl) (mV ?_))))|refine nZ ?_));refine zY1 3 1 rfl (by decide) ?_
  refine dC (X := {i : Nat // i ≤ n.toNat}) (fun i => [(3,.sl 0 0 i.1 1),(6,.i (max n 0)),(7,.i (i.1 : Int))]) (fun i => [.arr (ints (nats (List.range i.1))) 1]) (fun i => n.toNat - i.1) ⟨0,bY _⟩ ⟨[0],rfl,⟨rfl,rfl,rfl,trivial⟩,⟨.inr rfl,trivial⟩,by decide,CG⟩ ?_
  rintro ⟨i,hi⟩;dsimp only;have hl : (ints (nats (List.range i))).length = i := by simp
  by_cases hlt : i < n.toNat
  · have hs : ints (nats (List.range i)) ++ [[AV.i (i : Int)]] = ints (nats (List.range (i + 1))) := by rw [D2,TE]
    (repeat' (first|refine wS ?_|refine wB ?_|refine wK ?_|(refine wC rfl ?_ ?_<;>(intro hb;(try simp only [nm] at hb);try (exfalso;omega)))|(refine rg 3 (vV (aJ rfl rfl) ?_))|(refine rg 4 (mW rfl (aV ?_)))|(refine rg 5 (dK rfl (cH (by exact bD T rfl rfl (by decide) (by decide) rfl rfl rfl) rfl ?_));refine fR T rfl rfl rfl rfl rfl rfl (by simp) (iY.whole rfl rfl) rfl (by simp;omega) (by simp;omega) rfl ?_;refine aV ?_)|(refine rg 6 (vV (cJ rfl rfl (by omega) (by omega)) (mV ?_)))|refine nZ ?_));all_goals first | (exfalso;omega) | skip
    exact ⟨⟨i + 1,hlt⟩,by dsimp only;omega,[2],rfl,⟨rfl,rfl,rfl,trivial⟩,⟨.inr (aC rfl ((iO hl.symm).trans hs) (bN _)),trivial⟩,by decide,CG⟩
  · obtain rfl : i = n.toNat := by omega
    (repeat' (first|refine wS ?_|refine wR ?_|refine wE ?_|(refine wC rfl ?_ ?_<;>(intro hb;(try simp only [nm] at hb);try (exfalso;omega)))|(refine rg 3 (vV (aJ rfl rfl) ?_))|(refine rg 7 (mW rfl (aV ?_)))|refine nZ ?_));all_goals first | (exfalso;omega) | exact ⟨.inl rfl,[0],_,rfl,rfl,rfl,⟨.inr (aC rfl rfl (bN _)),trivial⟩,by decide,CG⟩
end Go.Proofs.YtmmmeebiobjnbaaGreat
namespace Go.Ab
open Go
theorem pC.freezeEl {n : Nat × Nat} {c : oI} {ρ : Pl} {S : Nat → Prop} {env : dW} {h : Hp} {a : Act} {w : World} {j f k len sz sz2 : Nat} {es es' es2 : List (List AV)} (s : pC n c ρ S env h a w) (hj : h[j]? = some (.arr es sz)) (hne : j ≠ k) (h0 : es ≠ []) (hf : es.flatten[f]? = some (.sl k 0 len sz2)) (hk : h[k]? = some (.arr es2 sz2)) (hn : len = es2.length) (hi : AV.idfL es2.flatten = true)
    (hl : ∀ e,e ∈ es' → e.length = sz) (he : es'.flatten = es.flatten.set f (.rowE es2 sz2)) :
    pC n c ρ (fun b => S b ∨ ∃ o,ρ k = some (b,o)) env ((h.set k .gone).set j (.arr es' sz)) a w := by
  have h1 := s.hs.freeze hk;have hj' : (h.set k .gone)[j]? = some (.arr es sz) := by rw [iT (Ne.symm hne)];exact hj
  refine ⟨s.size,s.defers.st (fun _ h => .inl h),fun t' x hx => US (fun _ h => .inl h) (s.env t' x hx),h1.alter hj' (fun _ => ?_) (by simp),s.cm⟩
  have hb := s.hs.blk j _ hj;simp only [RB] at hb ⊢;obtain ⟨b1,b2,b3⟩ := hb;refine ⟨hl,b2,?_⟩;rcases b3 with ⟨e,_⟩ | ⟨b,o,ys,e1,e2,e3⟩
  · exact absurd e h0
  · refine .inr ⟨b,o,ys,e1,e2,?_⟩;rw [he];refine W6 (fun _ h => .inl h) (fun y hy => ?_) hf e3;rw [hn] at hy;exact B9 hi (s.hs.blk k _ hk) hy
section
variable {P : Program} {n : Nat × Nat} {ops : Array Oper} {env : dW} {h : Hp} {K : dW → Hp → Prop} {rest : List Oper} {Q : Exit → dW → Hp → Prop} {code : Code}
theorem LV (j f : Nat) {k len sz sz2 : Nat} {es : List (List AV)} (es' : List (List AV)) {es2 : List (List AV)} (hj : h[j]? = some (.arr es sz)) (hne : j ≠ k) (h0 : es ≠ []) (hf : es.flatten[f]? = some (.sl k 0 len sz2)) (hk : h[k]? = some (.arr es2 sz2)) (hn : len = es2.length) (hi : AV.idfL es2.flatten = true)
    (hl : ∀ e,e ∈ es' → e.length = sz) (he : es'.flatten = es.flatten.set f (.rowE es2 sz2)) (hv : AW P n code env ((h.set k .gone).set j (.arr es' sz)) Q) : AW P n code env h Q :=
  fun c ρ S a w QQ s hQ => hv c ρ _ a w QQ (s.freezeEl hj hne h0 hf hk hn hi hl he) hQ
end
end Go.Ab
namespace Go.Ld
open Go.Ab Go.Proofs.YtmmmeebiobjnbaaGreat
theorem zB8 {es : List (List AV)} (h : ∀ e,e ∈ es → e.all AV.one = true) : es.flatten.all AV.one = true := by
  rw [bH];intro x hx;obtain ⟨e,he,hx⟩ := List.mem_flatten.1 hx;exact bH.1 (h e he) x hx
theorem GC {α : Type} {f : α → List AV} (hf : ∀ x,(f x).all AV.one = true) (l : List α) : (l.map f).flatten.all AV.one = true := zB8 fun e he => by
  obtain ⟨x,_,rfl⟩ := bB.1 he;exact hf x
theorem GL {α : Type} {f : α → List AV} (hf : ∀ x,AV.idfL (f x) = true) (l : List α) : ∀ e,e ∈ l.map f → AV.idfL e = true := fun e he => by
  obtain ⟨x,_,rfl⟩ := bB.1 he;exact hf x
def IZ (n : Int) : Bool := decide (n < 0 ∨ 1048576 < n)
def JA (c : Cx) : Bool := [c.m,c.st,c.er,c.sl].any IZ
theorem SF {c : Cx} : JA c = false ↔ nO c.m c.st c.er c.sl := by
  unfold JA nO IZ;simp;omega
end Go.Ld
namespace Go.Proofs.YtmmmeebiobjnbaaGreat
open Go Go.Ab Go.Ld
attribute [local irreducible] VC AW cE aU iV
set_option maxHeartbeats 4000000
theorem ZS (l : List KD) (hl : l.length ≤ 1000000) : aU Tryz.prog 51 [.rowE (jN l) 2] [] (.rowE (jN l) 2) [] := by
  have hll : (jN l).length = l.length := aY _;have hid := GL (f := fun b : KD => [AV.v (.string b.1),AV.i b.2]) (fun _ => rfl) l;have hon := GC (f := fun b : KD => [AV.v (.string b.1),AV.i b.2]) (fun _ => rfl) l;refine kE (len := l.length) hll.symm (gE hid) ?_;refine bX T Tryz.func51 rfl rfl rfl rfl ?_
  repeat' (first|refine wS ?_|refine wK ?_|refine wT ?_|refine wU ?_|(refine rg 0 (aV ?_))|(refine rg 1 (mV ?_);refine sN T rfl rfl rfl rfl fun b hb=>?_;cases b)|refine nZ ?_)
  · (repeat' (first|refine wR ?_|(refine rg 3 (cH (by exact bD T rfl rfl (by decide) (by decide) rfl rfl rfl) rfl ?_);refine mW rfl (fR T rfl rfl rfl rfl rfl rfl (by decide) (.row (vM l)) hon (by simp;omega) (by simp;omega) rfl ?_);refine aV ?_)|(refine nZ ?_)));exact ⟨.inl rfl,[1],_,rfl,(by show AV.sl 1 0 (0 + (jN l).length) 2 = AV.sl 1 0 l.length 2;simp),rfl,⟨.inr (aC rfl rfl hid),trivial⟩,by decide,CG⟩
  · have hl0 : l = [] := fA.1 (Classical.byContradiction fun h => by have := hb (by omega);cases this)
    subst hl0
    (repeat' (first|refine wR ?_|(refine rg 2 (vV (dJ rfl) (nG 2 2 rfl (by decide) ?_)))|refine nZ ?_));exact ⟨.inl rfl,[0],_,rfl,rfl,rfl,⟨.inr (aC rfl rfl hid),trivial⟩,by decide,CG⟩
theorem LN (l : List LT) (hl : l.length ≤ 1000000) : aU Tryz.prog 31 [.rowE (kU l) 3] [] (.rowE (kU l) 3) [] := by
  have hll : (kU l).length = l.length := aY _;have hid := GL (f := fun b : LT => [AV.i b.1,AV.i b.2.1,AV.b b.2.2]) (fun _ => rfl) l;have hon := GC (f := fun b : LT => [AV.i b.1,AV.i b.2.1,AV.b b.2.2]) (fun _ => rfl) l;refine kE (len := l.length) hll.symm (gE hid) ?_;refine bX T Tryz.func31 rfl rfl rfl rfl ?_
  repeat' (first|refine wS ?_|refine wK ?_|refine wT ?_|refine wU ?_|(refine rg 0 (aV ?_))|(refine rg 1 (mV ?_);refine sN T rfl rfl rfl rfl fun b hb=>?_;cases b)|refine nZ ?_)
  · (repeat' (first|refine wR ?_|(refine rg 3 (cH (by exact bD T rfl rfl (by decide) (by decide) rfl rfl rfl) rfl ?_);refine mW rfl (fR T rfl rfl rfl rfl rfl rfl (by decide) (.row (zF l)) hon (by simp;omega) (by simp;omega) rfl ?_);refine aV ?_)|(refine nZ ?_)));exact ⟨.inl rfl,[1],_,rfl,(by show AV.sl 1 0 (0 + (kU l).length) 3 = AV.sl 1 0 l.length 3;simp),rfl,⟨.inr (aC rfl rfl hid),trivial⟩,by decide,CG⟩
  · have hl0 : l = [] := fA.1 (Classical.byContradiction fun h => by have := hb (by omega);cases this)
    subst hl0
    (repeat' (first|refine wR ?_|(refine rg 2 (vV (dJ rfl) (nG 2 3 rfl (by decide) ?_)))|refine nZ ?_));exact ⟨.inl rfl,[0],_,rfl,rfl,rfl,⟨.inr (aC rfl rfl hid),trivial⟩,by decide,CG⟩
theorem LO (l : List BX) (hl : l.length ≤ 1000000) : aU Tryz.prog 32 [.rowE (fP l) 3] [] (.rowE (fP l) 3) [] := by
  have hll : (fP l).length = l.length := aY _;have hid := GL (f := fun b : BX => [AV.i b.1,AV.i b.2.1,AV.i b.2.2]) (fun _ => rfl) l;have hon := GC (f := fun b : BX => [AV.i b.1,AV.i b.2.1,AV.i b.2.2]) (fun _ => rfl) l;refine kE (len := l.length) hll.symm (gE hid) ?_;refine bX T Tryz.func32 rfl rfl rfl rfl ?_
  repeat' (first|refine wS ?_|refine wK ?_|refine wT ?_|refine wU ?_|(refine rg 0 (aV ?_))|(refine rg 1 (mV ?_);refine sN T rfl rfl rfl rfl fun b hb=>?_;cases b)|refine nZ ?_)
  · (repeat' (first|refine wR ?_|(refine rg 3 (cH (by exact bD T rfl rfl (by decide) (by decide) rfl rfl rfl) rfl ?_);refine mW rfl (fR T rfl rfl rfl rfl rfl rfl (by decide) (.row (rB l)) hon (by simp;omega) (by simp;omega) rfl ?_);refine aV ?_)|(refine nZ ?_)));exact ⟨.inl rfl,[1],_,rfl,(by show AV.sl 1 0 (0 + (fP l).length) 3 = AV.sl 1 0 l.length 3;simp),rfl,⟨.inr (aC rfl rfl hid),trivial⟩,by decide,CG⟩
  · have hl0 : l = [] := fA.1 (Classical.byContradiction fun h => by have := hb (by omega);cases this)
    subst hl0
    (repeat' (first|refine wR ?_|(refine rg 2 (vV (dJ rfl) (nG 2 3 rfl (by decide) ?_)))|refine nZ ?_));exact ⟨.inl rfl,[0],_,rfl,rfl,rfl,⟨.inr (aC rfl rfl hid),trivial⟩,by decide,CG⟩
theorem zG4 (n : Int) : aU Tryz.prog 69 [.i n] [] (.b (IZ n)) [] := by
  unfold IZ;by_cases h : n < 0
  · rw [decide_eq_true (.inl h)];refine bX T Tryz.func69 rfl rfl rfl rfl ?_
    (repeat' (first|refine wS ?_|refine wR ?_|(refine rg 0 (aV ?_))|(refine rg 1 (mW rfl (vV (zL9 rfl rfl (by omega)) (mV ?_)));(iterate 2 refine gF ?_);refine pW rfl (aV ?_))|refine nZ ?_));all_goals first | (exfalso;omega) | exact rQ
  · refine bX T Tryz.func69 rfl rfl rfl rfl ?_
    (repeat' (first|refine wS ?_|refine wR ?_|(refine rg 0 (aV ?_))|(refine rg 1 (mW rfl (vV (zM0 rfl rfl (by omega)) (mW rfl (yN rfl (yV (fB rfl rfl) (pW rfl (aV ?_))))))))|refine nZ ?_));all_goals first | (exfalso;omega) | (refine dH (.inl rfl) rfl (nD ?_);simp;omega)
theorem CH (c : Cx) : aU Tryz.prog 48 [.agg [.i c.m,.i c.st,.i c.er,.i c.sl]] [] (.b (!JA c)) [] := by
  have hh := zV8 (l := [c.m,c.st,c.er,c.sl]) (F := 69) (caps := []) (p := IZ) (by simp) rfl (fun x hx => zG4 x)
  change aU _ _ _ _ (.b (JA c)) _ at hh;generalize JA c = v at *;refine bX T Tryz.func48 rfl rfl rfl rfl ?_
  (repeat' (first|refine wS ?_|refine wR ?_|(refine rg 0 (cH (cY rfl rfl) rfl (aV ?_)))|(refine rg 1 (iP T rfl (iP T rfl (iP T rfl (iP T rfl (cH (by exact bD T rfl rfl (by decide) (by decide) rfl rfl rfl) rfl ?_)))));refine mJ 11 rfl rfl rfl rfl ?_;refine vV (kC (hh)) (vV (eM rfl) (aV ?_)))|refine nZ ?_));all_goals first | (exfalso;omega) | exact rQ
end Go.Proofs.YtmmmeebiobjnbaaGreat
namespace Go.Ld
open Go.Ab Go.Proofs.YtmmmeebiobjnbaaGreat
abbrev zK0 (c : Cx) (x : AV) : List AV := [.i c.m,.i c.st,.i c.er,.i c.sl,.rowE (jN c.ks) 2,.rowE (kU c.ls) 3,.rowE (fP c.bs) 3,x]
theorem OC {h : Hp} {i sz : Nat} {θ : Nat → Nat} {A A' : List (List AV)} {E E' : List AV} (hk : h[i]? = some (.arr (A' ++ [E']) sz)) (hA : A' = A) (hE : E' = AV.mapL θ E) (hi : ∀ e,e ∈ A → AV.idfL e = true) : h[i]? = some ((AB.arr (A ++ [E]) sz).map θ) := by
  subst hA hE;rw [hk];simp only [AB.map,bO,bE θ hi];rfl
theorem zM6 {A : List (List AV)} {x y : AV} : (A ++ [[x,y]]).flatten[A.flatten.length]? = some x := by simp
theorem zM5 {A : List (List AV)} {x y : AV} : (A ++ [[x,y]]).flatten[A.flatten.length + 1]? = some y := by
  rw [fK,aE (by omega)];simp
theorem zM4 {A : List (List AV)} {x y z : AV} : (A ++ [[z,y]]).flatten = (A ++ [[x,y]]).flatten.set A.flatten.length z := by
  rw [fK,fK,iL _ _ (by omega)];simp
theorem zM3 {A : List (List AV)} {x y z : AV} : (A ++ [[x,z]]).flatten = (A ++ [[x,y]]).flatten.set (A.flatten.length + 1) z := by
  rw [fK,fK,iL _ _ (by omega)];simp
theorem XW (c : Cx) : (pT c).length = c.bs.length := by rw [wZ];simp
theorem TD {c : Cx} {k : Nat} (h : k < c.bs.length) : (pT c).take (k + 1) = (pT c).take k ++ [T2 c k] := by
  rw [wZ,← kJ,← kJ,aP (by simpa using h),bO]
  simp
end Go.Ld
namespace Go.Proofs.YtmmmeebiobjnbaaGreat
open Go Go.Ab Go.Ld
attribute [local irreducible] VC AW cE aU iV
set_option maxHeartbeats 4000000
theorem yB8 (c : Cx) (hc : iU c) (hid : aU Tryz.prog 50 [.i (fP c.bs).length] [] (.rowE (ints (nats (List.range c.bs.length))) 1) []) (htr : aU Tryz.prog 49 [.rowE (jN c.ks) 2,.rowE (kU c.ls) 3,.rowE (ints (nats (List.range c.bs.length))) 1,.rowE (fP c.bs) 3] [] (.b true) []) :
    aU Tryz.prog 30 [.agg [.i c.m,.i c.st,.i c.er,.i c.sl],.rowE (jN c.ks) 2,.rowE (kU c.ls) 3,.rowE (fP c.bs) 3] [] (.tup [.ptr 0 0,.i 0]) [.cells (jP c (pT c))] := by
  have hn1 := hc.f.n1;have hn8 := hc.f.n8;have hk10 := hc.f.k10;have hl10 := hc.f.l10;have hnl : (nats (List.range c.bs.length)).length = c.bs.length := by simp
  have hsn := CH c;rw [SF.2 hc.s] at hsn;have h1 := ZS c.ks (by omega)
  have h2 := LN c.ls (by omega)
  have h3 := LO c.bs (by omega)
  have hbl : (fP c.bs).length = c.bs.length := aY _;have hNl := XW c;refine bX T Tryz.func30 rfl rfl rfl rfl ?_
  (repeat' (first|refine wS ?_|(refine rg 0 (cH (cY rfl rfl) rfl (uV ?_)))|refine nZ ?_));refine gL 4 rfl rfl rfl ?_
  (repeat' (first|refine wS ?_|refine wK ?_|refine wU ?_|(refine rg 1 (lW T rfl (vV (kC (hsn)) (vV (eM rfl) (mW rfl (yN rfl (yN rfl (yN rfl (gT (qV T ?_)))))))));refine yV (kC (hid)) (yN rfl (yV (kC (htr)) (yV (eM rfl) (pV ?_)))))|(refine cO (id := 3) 69 [[],[],[1],[],[1,2,3],[],rM 1 5,rN 7,rN 8] (rM 27 9) [[],[27],[27],[27,28,29],[27],rM 27 5,[27],[],[]] cW rfl (by decide +kernel) (dO T rfl (dN rfl (dV rfl (kC (h1)) (dN rfl (dV rfl (kC (h2)) (dN rfl (dV rfl (kC (h3)) (dV rfl (by exact eR T rfl rfl rfl rfl) ?_))))))));refine F9 rfl rfl rfl (by exact cY rfl rfl) rfl ?_;refine dE ?_;refine aV ?_)|refine nZ ?_));all_goals try (exfalso;omega)
  refine eU [(3,.rowE (fP c.bs) 3),(10,.ptr 0 0)] [.cells (zK0 c .nils)] ⟨[1],rfl,(by repeat first|exact trivial|refine ⟨rfl,?_⟩),⟨.inr rfl,trivial⟩,by decide,kI _⟩ ?_
  refine nX 0 7 2 rfl rfl (by decide) ?_
  (repeat' (first|refine wB ?_|(refine rg 4 (mW rfl (qW T rfl (mV ?_))))|refine nZ ?_));all_goals try (exfalso;omega)
  refine dC (X := {k : Nat // k ≤ c.bs.length}) (fun k => [(10,.ptr 0 0),(36,.rowE (fP c.bs) 3),(37,.i (fP c.bs).length),(38,.i k.1)]) (fun k => [.cells (zK0 c (.sl 1 0 k.1 2)),.arr (kB ((pT c).take k.1)) 2]) (fun k => c.bs.length - k.1) ⟨0,bY _⟩ ⟨[0,1],rfl,(by repeat first|exact trivial|refine ⟨rfl,?_⟩),⟨.inr rfl,.inr rfl,trivial⟩,by decide,kI _⟩ ?_
  rintro ⟨k,hk⟩;dsimp only;by_cases hlt : k < c.bs.length
  · have hb := hc.f.b k hlt;have hbx : c.bs[k]? = some (c.bs.getD k (0,0,0)) := by rw [aD,aA hlt];rfl
    have hge : c.bs[k] = c.bs.getD k (0,0,0) := by rw [aD,aA hlt];rfl
    rw [hge] at hb;have qb : (fP c.bs)[((k : Int)).toNat]? = some [.i (c.bs.getD k (0,0,0)).1,.i (c.bs.getD k (0,0,0)).2.1,.i (c.bs.getD k (0,0,0)).2.2] := by rw [bM,bL,hbx];rfl
    have hsu := TD hlt;have hA : kB ((pT c).take (k + 1)) = kB ((pT c).take k) ++ [gA (T2 c k)] := by rw [hsu,kB,bO];rfl
    have hAl : (kB ((pT c).take k)).length = k := by rw [jH,bC];omega
    have hAi := eG ((pT c).take k);have hA3 := qY ((pT c).take k);have hAi2 := eG ((pT c).take (k + 1));unfold T2 at hA;generalize c.bs.getD k (0,0,0) = bx at *;obtain ⟨lot,cnt,ta⟩ := bx;dsimp only at *;generalize hG : kB ((pT c).take k) = A at *
    (repeat' (first|refine wS ?_|refine wB ?_|refine wK ?_|(refine wC rfl ?_ ?_<;>(intro hb;(try simp only [nm] at hb);try (exfalso;omega)))|(refine rg 5 (vV (aJ rfl rfl) ?_))|(refine rg 6 (mW rfl (vV (ix T rfl (by omega) (rB _) qb) (lW T rfl (cH (cK T rfl) rfl (aW rfl (bA T rfl rfl rfl rfl rfl rfl (by decide) rfl ?_)))))))|refine nZ ?_));all_goals try (exfalso;omega)
    refine gL 12 (cs := [.i lot,.i cnt,.i ta]) rfl rfl rfl ?_
    (repeat' (first|(refine rg 7 (mW rfl (cH (by exact bD T rfl rfl (by decide) (by decide) rfl rfl rfl) rfl ?_));refine mJ 44 rfl rfl rfl rfl ?_;refine iP T rfl (iP T rfl (vV (cJ rfl rfl (by omega) (by omega)) (vV (by exact eR T rfl rfl rfl rfl) ?_)));refine cH (by exact bD T rfl rfl (by decide) (by decide) rfl rfl rfl) rfl ?_;refine mJ 51 rfl rfl rfl rfl ?_;refine vV (by exact eR T rfl rfl rfl rfl) ?_;refine cH (cK T rfl) rfl (bA T rfl rfl rfl rfl rfl rfl (by decide) rfl ?_))|refine nZ ?_));all_goals try (exfalso;omega)
    refine gL 13 (cs := wA ([(k : Int)],0,[(cnt,cnt + 1)])) rfl rfl rfl ?_;refine eU [(10,.ptr 0 0),(36,.rowE (fP c.bs) 3),(37,.i (fP c.bs).length),(38,.i k),(11,.i k),(13,.pr (wA ([(k : Int)],0,[(cnt,cnt + 1)])) 0)] [.cells (zK0 c (.sl 1 0 k 2)),.arr A 2] ⟨[0,1],rfl,(by repeat first|exact trivial|refine ⟨rfl,?_⟩),⟨.inr rfl,.inr (aC rfl rfl hAi),trivial⟩,by decide,kI _⟩ ?_
    (repeat' (first|(refine lN (id := 8) 69 [[],[],[1],[1,2],[1,2,3],[],[5],[],[7],rM 5 4,rM 5 5,rM 1 10,rN 12,rN 13,rN 14] (rM 53 14) [[],[53],[53],[53],[53],rM 53 5,rM 53 5,rM 53 7,rM 53 7,rM 53 5,rM 53 5,[53],[],[],[]] [(11,1),(14,0)] cW rfl (by decide +kernel) (cC rfl rfl rfl rfl (by exact bR rfl) ?_);refine cC rfl rfl rfl rfl (by exact bR rfl) ?_;refine cC rfl rfl rfl rfl (by exact cF rfl rfl) ?_;refine cC rfl rfl rfl rfl (by exact bG T rfl rfl rfl) ?_;refine cC rfl rfl rfl rfl (by exact aN T rfl rfl rfl rfl) ?_;refine cC rfl rfl rfl rfl (by exact bR rfl) ?_;refine uF rfl rfl rfl rfl (by exact bD T rfl rfl (by decide) (by decide) rfl rfl rfl) rfl ?_;refine cC rfl rfl rfl rfl (by exact aN T rfl rfl rfl rfl) ?_;refine uF rfl rfl rfl rfl (by exact bD T rfl rfl (by decide) (by decide) rfl rfl rfl) rfl ?_;refine cC rfl rfl rfl rfl (by exact eR T rfl rfl rfl rfl) ?_;refine uF rfl rfl rfl rfl (by exact bD T rfl rfl (by decide) (by decide) rfl rfl rfl) rfl ?_;refine mG rfl rfl rfl rfl (aG rfl) (by exact lO T rfl rfl rfl rfl rfl rfl (by omega) (iY.whole rfl rfl) rfl (by simp;omega) (by simp;omega)) ?_;refine cC rfl rfl rfl rfl (by exact cF rfl rfl) ?_;refine cC rfl rfl rfl rfl (by exact bG T rfl rfl rfl) ?_;refine uR rfl rfl rfl rfl (aG rfl) T rfl rfl rfl rfl rfl rfl (by decide) rfl ?_;refine pB rfl rfl rfl (by exact rfl) ?_)|refine nZ ?_));all_goals try (exfalso;omega)
    show AW _ _ _ _ _ _;refine eU [(10, .ptr 0 0), (36, .rowE (fP c.bs) 3), (37, .i (fP c.bs).length), (38, .i k)] [.cells (zK0 c (.sl 3 0 (k + 1) 2)), .arr (ints [(k : Int)]) 1, .arr (gB [([(k : Int)], 0, [(cnt, cnt + 1)])]) 3, .arr (A ++ [[.sl 1 0 1 1, .sl 2 0 1 3]]) 2]
      ⟨[0,2,3,5],rfl,(by repeat first|exact trivial|refine ⟨rfl,?_⟩),⟨.inr rfl,.inr rfl,.inr rfl,.inr (OC rfl (by rw [lZ];exact bS (by omega)) rfl hAi),trivial⟩,by decide,kI _⟩ ?_
    have hE : ∀ (x y : AV) (e : List AV),e ∈ A ++ [[x,y]] → e.length = 2 := fun x y e he => by
      rcases bF.1 he with he | he
      · exact hA3 e he
      · rw [bI.1 he];rfl
    refine LV 3 A.flatten.length (A ++ [[.rowE (ints [(k : Int)]) 1,.sl 2 0 1 3]]) rfl (by decide) (by simp) zM6 rfl rfl rfl (hE _ _) zM4 ?_
    refine LV 3 (A.flatten.length + 1) (A ++ [[.rowE (ints [(k : Int)]) 1,.rowE (gB [([(k : Int)],0,[(cnt,cnt + 1)])]) 3]]) rfl (by decide) (by simp) zM5 rfl rfl rfl (hE _ _) zM3 ?_
    (repeat' (first|(refine rg 9 (vV (cJ rfl rfl (by omega) (by omega)) (mV ?_)))|refine nZ ?_));all_goals try (exfalso;omega)
    exact ⟨⟨k + 1,hlt⟩,by dsimp only;omega,⟨[0,3],rfl,(by repeat first|exact trivial|refine ⟨rfl,?_⟩),⟨.inr rfl,.inr (aC rfl (by dsimp only;rw [hA]) hAi2),trivial⟩,by decide,kI _⟩⟩
  · obtain rfl : k = c.bs.length := by omega
    rw [← hNl,cM,hNl];refine nJ 0 7 (es := kB (pT c)) rfl rfl rfl (by rw [jH,hNl]) (gE (eG _)) ?_
    (repeat' (first|refine wS ?_|refine wR ?_|refine wE ?_|(refine wC rfl ?_ ?_<;>(intro hb;(try simp only [nm] at hb);try (exfalso;omega)))|(refine rg 5 (vV (aJ rfl rfl) ?_))|(refine rg 10 (mW rfl (uV ?_)))|refine nZ ?_));all_goals try (exfalso;omega)
    all_goals exact ⟨.inl rfl,[0],_,rfl,rfl,rfl,⟨.inr rfl,trivial⟩,by decide,kI _⟩
end Go.Proofs.YtmmmeebiobjnbaaGreat
namespace Go.Ld
open Go.Ab Go.Proofs.YtmmmeebiobjnbaaGreat
def RK (p q : List Int) (x : Int × SP) (b : Int) : Prop := x.1 = p.getD b.toNat 0 ∧ vQ x.2.1 x.2.2 (q.getD (p.getD b.toNat 0).toNat 0) = true
theorem zN1 {g : G} {p q : List Int} {w : W} : BD g p q w = true ↔ ∀ i,i < g.1.length → RK p q (gP w i,gC w i) (g.1.getD i 0) := by
  unfold BD T1 RK;rw [bH];constructor
  · intro h i hi;have := h i (fF.2 hi);simp only [aK,decide_eq_true_eq] at this;exact this
  · intro h i hi;have := h i (fF.1 hi);simp only [aK,decide_eq_true_eq];exact this
theorem BN {g : G} {p q : List Int} (h0 : ∀ w, w ∈ g.2 → 0 ≤ w.2.1) : ∀ k, k ≤ g.2.length → (R6 g p q k = -1 ∧ ∀ w, w ∈ g.2.take k → BD g p q w = false) ∨ (∃ w, w ∈ g.2.take k ∧ BD g p q w = true ∧ w.2.1 = R6 g p q k ∧ ∀ v, v ∈ g.2.take k → BD g p q v = true → R6 g p q k ≤ v.2.1)
  | 0,_ => .inl ⟨rfl,fun w hw => by simp at hw⟩
  | k + 1,hk => by
    have ih := BN (p := p) (q := q) h0 k (by omega)
    have hx := h0 g.2[k] (aM _);rw [ON (by omega)]
    have ht : ∀ w,w ∈ g.2.take (k + 1) ↔ w ∈ g.2.take k ∨ w = g.2[k] := fun w => by
      rw [aP (by omega),bF,bI]
    simp only [ht];unfold ZX;generalize g.2[k] = x at *;generalize R6 g p q k = m at *;cases hf : BD g p q x with
    | false =>
      rw [Bool.false_and,if_neg (by simp)]
      rcases ih with ⟨h1,h2⟩ | ⟨w,h1,h2,h3,h4⟩
      · refine .inl ⟨h1,fun w hw => ?_⟩
        rcases hw with hw | rfl
        · exact h2 w hw
        · exact hf
      · refine .inr ⟨w,.inl h1,h2,h3,fun v hv hvf => ?_⟩
        rcases hv with hv | rfl
        · exact h4 v hv hvf
        · rw [hf] at hvf;cases hvf
    | true =>
      rw [oD];rcases ih with ⟨h1,h2⟩ | ⟨w,h1,h2,h3,h4⟩
      · rw [decide_eq_true (show m < 0 by omega),Bool.true_or,if_pos rfl]
        refine .inr ⟨x,.inr rfl,hf,rfl,fun v hv hvf => ?_⟩
        rcases hv with hv | rfl
        · rw [h2 v hv] at hvf;cases hvf
        · exact eH _
      · have hm0 : 0 ≤ m := by rw [← h3];exact h0 w (eK h1)
        rw [decide_eq_false (show ¬ m < 0 by omega),Bool.false_or]
        by_cases hlt : x.2.1 < m
        · rw [if_pos (decide_eq_true hlt)];refine .inr ⟨x,.inr rfl,hf,rfl,fun v hv hvf => ?_⟩
          rcases hv with hv | rfl
          · have := h4 v hv hvf;omega
          · exact eH _
        · rw [if_neg (by simpa using hlt)]
          refine .inr ⟨w,.inl h1,h2,h3,fun v hv hvf => ?_⟩
          rcases hv with hv | rfl
          · exact h4 v hv hvf
          · omega
theorem EW {g : G} {p q : List Int} (h0 : ∀ w,w ∈ g.2 → 0 ≤ w.2.1) : (E4 g p q = -1 ∧ ∀ w,w ∈ g.2 → BD g p q w = false) ∨ (∃ w,w ∈ g.2 ∧ BD g p q w = true ∧ w.2.1 = E4 g p q ∧ ∀ v,v ∈ g.2 → BD g p q v = true → E4 g p q ≤ v.2.1) := by
  have := BN (p := p) (q := q) h0 g.2.length (aX _);rw [cM] at this;exact this
def FA (g : G) (w : W) : As := fun b => (gP w (g.1.idxOf b),gC w (g.1.idxOf b))
theorem K8 {n : Nat} {g : G} {w : W} (ok : zZ n g) (hw : FC n g.1.length w) : oF g.1 w (FA g w) := by
  unfold oF FA gP gC;constructor
  · refine lC (by rw [aY];exact hw.pl) fun i h1 h2 => ?_
    rw [oX,ok.nd.idxOf_getElem];dsimp only;rw [aD,aA h1];rfl
  · refine lC (by rw [aY];exact hw.cl) fun i h1 h2 => ?_
    rw [oX,ok.nd.idxOf_getElem];dsimp only;rw [aD,aA h1];rfl
theorem ZG {n : Nat} {g : G} {p q : List Int} {w : W} {f : As} (ok : zZ n g) (hf : oF g.1 w f) : BD g p q w = true ↔ ∀ b,b ∈ g.1 → RK p q (f b) b := by
  rw [zN1];have key : ∀ i (hi : i < g.1.length),(gP w i,gC w i) = f g.1[i] ∧ g.1.getD i 0 = g.1[i] := fun i hi => by
    rw [AX hf hi,AZ hf hi];exact ⟨rfl,by rw [aD,aA hi];rfl⟩
  constructor
  · intro h b hb;obtain ⟨i,hi,rfl⟩ := List.getElem_of_mem hb;have := h i hi;rw [(key i hi).1,(key i hi).2] at this;exact this
  · intro h i hi;rw [(key i hi).1,(key i hi).2];exact h _ (aM hi)
theorem zC2 {n : Nat} {p q : List Int} : ∀ {gs : List G},(gs.flatMap (·.1)).Nodup → (∀ g,g ∈ gs → zZ n g) → ∀ {M : Int},
    ((∀ g,g ∈ gs → 0 ≤ E4 g p q) ∧ (gs.map fun g => E4 g p q).sum ≤ M) ↔ ∃ f : As,(∀ g,g ∈ gs → ∀ b,b ∈ g.1 → RK p q (f b) b) ∧ Sem gs f M
  | [],_,_,M => by
    constructor
    · rintro ⟨_,h⟩;exact ⟨fun _ => (0,(0,0)),by simp,by simpa [Sem] using h⟩
    · rintro ⟨f,_,h⟩;exact ⟨by simp,by simpa [Sem] using h⟩
  | g :: gs,hnd,hok,M => by
    rw [bJ] at hnd;obtain ⟨_,n2,n3⟩ := cN.1 hnd;have og := hok g aS;have h0 : ∀ w,w ∈ g.2 → 0 ≤ w.2.1 := fun w hw => (og.ws w hw).m0;have ih := fun M => zC2 (p := p) (q := q) (gs := gs) n2 (fun x hx => hok x (aI _ hx)) (M := M);rw [List.map_cons,yH3];constructor
    · rintro ⟨h1,h2⟩;rcases EW (p := p) (q := q) h0 with ⟨b1,_⟩ | ⟨w,b1,b2,b3,b4⟩
      · have := h1 g aS;omega
      obtain ⟨f,f1,f2⟩ := (ih (M - E4 g p q)).1 ⟨fun x hx => h1 x (aI _ hx),by omega⟩
      have ow := og.ws w b1;have hfi := K8 og ow
      let f' : As := fun b => if b ∈ g.1 then FA g w b else f b
      have e1 : ∀ b,b ∈ g.1 → f' b = FA g w b := fun b hb => if_pos hb
      have e2 : ∀ x,x ∈ gs → ∀ b,b ∈ x.1 → f' b = f b := fun x hx b hb => if_neg fun q => n3 b q b (oQ hx hb) rfl;have hfi' : oF g.1 w f' := ⟨hfi.1.trans (jI fun b hb => by rw [e1 b hb]),hfi.2.trans (jI fun b hb => by rw [e1 b hb])⟩
      refine ⟨f',fun x hx b hb => ?_,E4 g p q,⟨w,b1,hfi',by omega⟩,(sH e2).2 f2⟩
      rcases bU.1 hx with rfl | hx
      · exact (ZG og hfi').1 b2 b hb
      · rw [e2 x hx b hb];exact f1 x hx b hb
    · rintro ⟨f,f1,m,⟨w,w1,w2,w3⟩,f2⟩;have hfw := (ZG (p := p) (q := q) og w2).2 (f1 g aS);obtain ⟨i1,i2⟩ := (ih (M - m)).2 ⟨f,fun x hx => f1 x (aI _ hx),f2⟩;rcases EW (p := p) (q := q) h0 with ⟨_,b2⟩ | ⟨v,b1,b2,b3,b4⟩
      · rw [b2 w w1] at hfw;cases hfw
      · have := b4 w w1 hfw;have := h0 v b1;refine ⟨fun x hx => ?_,by omega⟩
        rcases bU.1 hx with rfl | hx
        · omega
        · exact i1 x hx
theorem HL {c : Cx} {gs : List G} {p q : List Int} (h : oZ c gs) : zY4 c gs p q = true ↔ p.length = c.bs.length ∧ q.length = p.length ∧ Go.Pm.permB p = true ∧ ∃ f : As,(∀ b : Int,0 ≤ b → b < c.bs.length → RK p q (f b) b) ∧ Sem gs f c.m := by
  have hs := zC2 (p := p) (q := q) h.mid.out.nd h.mid.out.ok (M := c.m);have e : zT3 gs p q gs.length = (gs.map fun g => E4 g p q).sum := by unfold zT3;rw [cM]
  unfold zY4;simp only [aK,decide_eq_true_eq,bH,e,and_assoc];rw [hs];have hb : ∀ f : As,(∀ g,g ∈ gs → ∀ b,b ∈ g.1 → RK p q (f b) b) ↔ ∀ b : Int,0 ≤ b → b < c.bs.length → RK p q (f b) b := fun f => by
    constructor
    · intro h1 b b0 b1;obtain ⟨g,hg,hbg⟩ := h.mid.find ⟨b0,b1⟩;exact h1 g hg b hbg
    · intro h1 g hg b hbg;have := (h.mid.out.ok g hg).rg b hbg;exact h1 b this.1 this.2
  simp only [hb]
theorem QS {n : Nat} {g : G} {w : W} {f : As} (ok : zZ n g) (ow : FC n g.1.length w) : oF g.1 w f ↔ ∀ b,b ∈ g.1 → FA g w b = f b := by
  have h := K8 ok ow;constructor
  · intro hf b hb;have e1 := h.1.symm.trans hf.1;have e2 := h.2.symm.trans hf.2;exact Prod.ext (S4.1 e1 b hb) (S4.1 e2 b hb)
  · intro hp;exact ⟨h.1.trans (jI fun b hb => by rw [hp b hb]),h.2.trans (jI fun b hb => by rw [hp b hb])⟩
theorem DT {n : Nat} {x y : G} (jo : uX n x y) {u v : W} (hu : u ∈ x.2) (hv : v ∈ y.2) {f : As} : oF (mI x y).1 (E1 x y u v (mI x y).1) f ↔ oF x.1 u f ∧ oF y.1 v f := by
  rw [QS jo.gx (jo.gx.ws u hu),QS jo.gy (jo.gy.ws v hv)];have hm : ∀ b,b ∈ (mI x y).1 ↔ b ∈ x.1 ∨ b ∈ y.1 := fun b => (mO x y).mem_iff.trans bF;generalize (mI x y).1 = l at *;have e1 : ∀ b,(if b ∈ x.1 then gP u (x.1.idxOf b) else gP v (y.1.idxOf b)) = (if b ∈ x.1 then FA x u b else FA y v b).1 := fun b => by split <;> rfl
  have e2 : ∀ b,(if b ∈ x.1 then gC u (x.1.idxOf b) else gC v (y.1.idxOf b)) = (if b ∈ x.1 then FA x u b else FA y v b).2 := fun b => by split <;> rfl
  unfold oF E1;simp only [e1,e2];rw [S4,S4];constructor
  · rintro ⟨h1,h2⟩;have h : ∀ b,b ∈ l → (if b ∈ x.1 then FA x u b else FA y v b) = f b := fun b hb => Prod.ext (h1 b hb) (h2 b hb)
    refine ⟨fun b hb => ?_,fun b hb => ?_⟩
    · have := h b ((hm b).2 (.inl hb));rwa [if_pos hb] at this
    · have := h b ((hm b).2 (.inr hb));rwa [if_neg (fun q => jo.dj b q hb)] at this
  · rintro ⟨h1,h2⟩;have h : ∀ b,b ∈ l → (if b ∈ x.1 then FA x u b else FA y v b) = f b := fun b hb => by
      by_cases hx : b ∈ x.1
      · rw [if_pos hx];exact h1 b hx
      · rw [if_neg hx];exact h2 b (((hm b).1 hb).resolve_left hx)
    exact ⟨fun b hb => by rw [h b hb],fun b hb => by rw [h b hb]⟩
theorem XQ {n : Nat} {x y : G} (jo : uX n x y) {f : As} {M : Int} : G6 (mI x y) f M ↔ ∃ m,G6 x f m ∧ G6 y f (M - m) := by
  constructor
  · rintro ⟨w,hw,hf,hm⟩;obtain ⟨u,v,hu,hv,rfl⟩ := B3 hw;obtain ⟨h1,h2⟩ := (DT jo hu hv).1 hf;change u.2.1 + v.2.1 ≤ M at hm;exact ⟨u.2.1,⟨u,hu,h1,eH _⟩,v,hv,h2,by omega⟩
  · rintro ⟨m,⟨u,hu,h1,h3⟩,v,hv,h2,h4⟩;refine ⟨E1 x y u v (mI x y).1,gD.2 ⟨u,hu,bB.2 ⟨v,hv,rfl⟩⟩,(DT jo hu hv).2 ⟨h1,h2⟩,?_⟩;show u.2.1 + v.2.1 ≤ M;omega
theorem PK {u v J : G} {L : List G} {f : As} (h : ∀ M,G6 J f M ↔ ∃ m,G6 u f m ∧ G6 v f (M - m)) {M : Int} : Sem (J :: L) f M ↔ Sem (u :: v :: L) f M := by
  simp only [Sem,h];constructor
  · rintro ⟨m,⟨m',h1,h2⟩,h3⟩;exact ⟨m',h1,m - m',h2,h3.mono (by omega)⟩
  · rintro ⟨m,h1,m',h2,h3⟩;exact ⟨m + m',⟨m,h1,by rw [show m + m' - m = m' by omega];exact h2⟩,h3.mono (by omega)⟩
theorem zD {P Q R : List G} {u v : G} : (P ++ u :: (Q ++ v :: R)).Perm (u :: v :: (P ++ (Q ++ R))) := by
  refine List.perm_middle.trans (List.Perm.cons _ ?_);rw [← bW,← bW];exact iJ
theorem YE {c : Cx} {gs all : List G} {a b : Int} (h : nQ c c.m gs) (ha : 0 ≤ a ∧ a < c.bs.length) (hb : 0 ≤ b ∧ b < c.bs.length) (e : join gs a b = some all) {f : As} {M : Int} : Sem all f M ↔ Sem gs f M := by
  obtain ⟨i,x,hi,hix,hax⟩ := iN (h.find ha);obtain ⟨k,y,hk,hky,hby⟩ := iN (h.find hb);have hx := aL hix;have hy := aL hky;unfold join at e;dsimp only at e;rw [hi,hk] at e;split at e
  · cases e;exact Iff.rfl
  · rename_i hik;have gi : mA gs ((i : Int)).toNat = x := by unfold mA;rw [aD];show (gs[i]?).getD _ = x;rw [hix];rfl
    have gk : mA gs ((k : Int)).toNat = y := by unfold mA;rw [aD];show (gs[k]?).getD _ = y;rw [hky];rfl
    rw [gi,gk] at e;split at e
    · cases e
    · rename_i hsz;cases e;have nd := h.out.nd;have ndi : (gs.flatMap fun g => (iH g).1).Nodup := h.idn.nodup_iff.2 (B1 _)
      have jo : uX c.bs.length x y := by
        rcases iS (show i ≠ k by omega) with hlt | hlt
        · obtain ⟨P,Q,R,e1,-⟩ := mD x hlt hix hky;rw [e1] at ndi nd;simp only [fX,bJ] at ndi nd;exact ⟨h.out.ok x hx,h.out.ok y hy,h.ne x hx,h.ne y hy,fun b h1 h2 => (cN.1 (cN.1 nd).2.1).2.2 b h1 b (by simp [h2]) rfl,fun b h1 h2 => (cN.1 (cN.1 ndi).2.1).2.2 b h1 b (by simp [h2]) rfl,by omega⟩
        · obtain ⟨P,Q,R,e1,-⟩ := mD y hlt hky hix;rw [e1] at ndi nd;simp only [fX,bJ] at ndi nd;exact ⟨h.out.ok x hx,h.out.ok y hy,h.ne x hx,h.ne y hy,fun b h1 h2 => (cN.1 (cN.1 nd).2.1).2.2 b h2 b (by simp [h1]) rfl,fun b h1 h2 => (cN.1 (cN.1 ndi).2.1).2.2 b h2 b (by simp [h1]) rfl,by omega⟩
      have h1 := fun M => XQ jo (f := f) (M := M);have h2 : ∀ M,G6 (mI x y) f M ↔ ∃ m,G6 y f m ∧ G6 x f (M - m) := fun M => by
        rw [h1];constructor
        · rintro ⟨m,a,b⟩;exact ⟨M - m,b,by rw [show M - (M - m) = m by omega];exact a⟩
        · rintro ⟨m,a,b⟩;exact ⟨M - m,b,by rw [show M - (M - m) = m by omega];exact a⟩
      generalize mI x y = J at *;rcases iS (show i ≠ k by omega) with hlt | hlt
      · obtain ⟨P,Q,R,e1,e2⟩ := mD J hlt hix hky;rw [show (min (i : Int) (k : Int)).toNat = i by omega,show (max (i : Int) (k : Int)).toNat = k by omega,e2,e1,oM zD,oM iJ]
        exact PK h1
      · obtain ⟨P,Q,R,e1,e2⟩ := mD J hlt hky hix;rw [show (min (i : Int) (k : Int)).toNat = k by omega,show (max (i : Int) (k : Int)).toNat = i by omega,e2,e1,oM zD,oM iJ]
        exact PK h2
theorem zH8 {c : Cx} {M0 : Int} {all : List G} {s : Ev} (h : yC c M0 all s) {i : Nat} {g : G} (hi : all[i]? = some g) (ha : s.a ∈ g.1) (hb : s.k = 4 → s.b ∈ g.1 ∧ s.a ≠ s.b) {f' : As} {M : Int} :
    Sem (all.set i (g.1,gJ (mF c s g))) f' M ↔ ∃ f d,D0 c s f f' d ∧ Sem all f (M - d) := by
  have hg := aL hi;have og := h.mid.out.ok g hg;have nd := h.mid.out.nd;obtain ⟨A,B,e1,e2⟩ := pN (y := (g.1,gJ (mF c s g))) hi;have hon := fun M => XP (c := c) og ha hb (f' := f') (M := M);have hoff : ∀ f d,D0 c s f f' d → ∀ x,x ∈ A ++ B → ∀ b,b ∈ x.1 → f' b = f b := fun f d st x hx b hbx => by
    have hbg : b ∉ g.1 := fun q => by
      rw [e1] at nd;simp only [fX,bJ] at nd;obtain ⟨_,n1,n2⟩ := cN.1 nd;obtain ⟨_,_,n3⟩ := cN.1 n1;rcases bF.1 hx with hx | hx
      · exact n2 b (oQ hx hbx) b (bF.2 (.inl q)) rfl
      · exact n3 b q b (oQ hx hbx) rfl
    rcases st with ⟨_,rfl,_⟩ | ⟨hk,rfl,_⟩
    · unfold upd;rw [if_neg (fun q : b = s.a => hbg (q ▸ ha))]
    · unfold HX;rw [if_neg (fun q : b = s.a => hbg (q ▸ ha)),if_neg (fun q : b = s.b => hbg (q ▸ (hb hk).1))]
  rw [e2,oM iJ];have e1' : ∀ f M,Sem all f M ↔ Sem (g :: (A ++ B)) f M := fun f M => by rw [e1];exact oM iJ
  simp only [e1',Sem,hon];constructor
  · rintro ⟨m,⟨f,d,st,h1⟩,h2⟩;exact ⟨f,d,st,m - d,h1,((sH (hoff f d st)).1 h2).mono (by omega)⟩
  · rintro ⟨f,d,st,m,h1,h2⟩;exact ⟨m + d,⟨f,d,st,h1.mono (by omega)⟩,((sH (hoff f d st)).2 h2).mono (by omega)⟩
theorem JF {c : Cx} {M0 : Int} {l all : List G} {s : Ev} (h : yC c M0 all s) (hM : M0 ≤ 2200000) (hab : s.k = 4 → s.a ≠ s.b) {f' : As} {M : Int} (hm : M ≤ c.m) :
    ((rH c l all s).1 = 0 → (Sem (rH c l all s).2 f' M ↔ ∃ f d,D0 c s f f' d ∧ Sem all f (M - d))) ∧ ((rH c l all s).1 = 26 → ¬ ∃ f d,D0 c s f f' d ∧ Sem all f (M - d)) := by
  obtain ⟨i,g,hi,hg,hgm,hat,ha,hb⟩ := h.at;have hp := zH8 (c := c) h hg ha (fun hk => ⟨hb hk,hab hk⟩) (f' := f') (M := M);have hnx := h.next hM hg ha hb
  unfold rH;dsimp only;rw [hat,hi,bM];by_cases h0 : gJ (mF c s g) = []
  · rw [if_pos h0];refine ⟨fun q => (by cases q),fun _ q => ?_⟩
    have hs := hp.2 q;obtain ⟨A,B,e1,e2⟩ := pN (y := (g.1,gJ (mF c s g))) hg;rw [e2,oM iJ] at hs;obtain ⟨m,⟨w,hw,_⟩,_⟩ := hs;rw [h0] at hw;cases hw
  · rw [if_neg h0];by_cases h1 : 1000 < (gJ (mF c s g)).length
    · rw [if_pos h1];exact ⟨fun q => (by cases q),fun q => (by cases q)⟩
    · rw [if_neg h1];obtain ⟨hm1,hasc⟩ := hnx h0 (by omega)
      generalize all.set i (g.1,gJ (mF c s g)) = N at *;have ht : Sem (uM c N) f' M ↔ Sem N f' M := by
        unfold uM;rw [SG (hm1.out.paid c).ok,WF hm]
      by_cases hany : (uM c N).any (fun g => g.2.isEmpty) = true
      · rw [if_pos hany];refine ⟨fun q => (by cases q),fun _ q => ?_⟩
        have hs := ht.2 (hp.2 q);obtain ⟨x,hx,hxe⟩ := lE.1 hany;obtain ⟨A,B,e⟩ := UX hx;rw [e,oM iJ] at hs;obtain ⟨m,⟨w,hw,_⟩,_⟩ := hs;rw [List.isEmpty_iff.1 hxe] at hw;cases hw
      · rw [if_neg hany];exact ⟨fun _ => ht.trans hp,fun q => (by cases q)⟩
theorem tW {c : Cx} {gs : List G} {s : Ev} (h : oZ c gs) (hm0 : 0 ≤ c.m) (hm1 : c.m ≤ 1048576) (hr : iB c.bs.length s = true) {f' : As} {M : Int} (hm : M ≤ c.m) :
    ((eZ c gs s).1 = 0 → (Sem (eZ c gs s).2 f' M ↔ ∃ f d,D0 c s f f' d ∧ Sem gs f (M - d))) ∧ ((eZ c gs s).1 = 26 → ¬ ∃ f d,D0 c s f f' d ∧ Sem gs f (M - d)) := by
  have hn := h.mid.n12;obtain ⟨r1,r2,_⟩ := nH hr (by omega)
  have hab : s.k = 4 → s.a ≠ s.b := fun hk => by have := r2 hk;omega
  unfold eZ;rw [if_pos hr];by_cases hk : s.k = 4
  · rw [if_pos hk];cases hj : join gs s.a s.b with
    | none => exact ⟨fun q => (by cases q),fun q => (by cases q)⟩
    | some all =>
      dsimp only;have := JF (l := gs) (sT h (by omega) hm0 hm1 hr hk hj) (by omega) hab (f' := f') hm
      have hb := r2 hk;have js : ∀ f M,Sem all f M ↔ Sem gs f M := fun f M => YE h.mid r1 ⟨by omega,by omega⟩ hj
      simp only [js] at this;exact this
  · rw [if_neg hk];exact JF (l := gs) (vD h (by omega) hm0 hr hk) (by omega) hab hm
def c0 : Cx := ⟨1,1,0,0,[(⟨#[110,117,116]⟩,10)],[(0,0,false),(0,0,false),(0,0,false)],[(0,5,0),(1,3,0),(2,2,0)]⟩
theorem IJ {c : Cx} (hc : iU c) : uI c.ks c.ls (nats (List.range c.bs.length)) c.bs :=
  ⟨hc.f.len,fun i hi => vJ.2 ⟨by omega,by simp at hi;omega⟩,hc.f.k,hc.f.l,hc.f.b⟩
end Go.Ld
namespace Go.Proofs.YtmmmeebiobjnbaaGreat
open Go Go.Ab Go.Ld
attribute [local irreducible] VC AW cE aU iV
set_option maxHeartbeats 4000000
theorem zL2 (n : Nat) (h : n ≤ 17592186043904) : aU Tryz.prog 50 [.i (n : Int)] [] (.rowE (ints (nats (List.range n))) 1) [] := by
  have h1 := zL1 (n : Int) (by omega)
  rw [bM] at h1;exact kE (by simp) (gE (bN _)) h1
theorem zU8 (c : Cx) (hc : iU c) : aU Tryz.prog 30 [.agg [.i c.m,.i c.st,.i c.er,.i c.sl],.rowE (jN c.ks) 2,.rowE (kU c.ls) 3,.rowE (fP c.bs) 3] [] (.tup [.ptr 0 0,.i 0]) [.cells (jP c (pT c))] := by
  have hbl : (fP c.bs).length = c.bs.length := aY _;have h8 := hc.f.n8;have h9 := hc.f.k10;have h10 := hc.f.l10;have hnl : (nats (List.range c.bs.length)).length = c.bs.length := by simp
  refine yB8 c hc ?_ (FP (IJ hc) (by omega) (by omega) (by omega))
  rw [hbl];exact zL2 _ (by omega)
end Go.Proofs.YtmmmeebiobjnbaaGreat
namespace Go.Ld
open Go.Ab Go.Proofs.YtmmmeebiobjnbaaGreat
def e1 : Ev := ⟨4,0,1,0,[]⟩
def e2 : Ev := ⟨0,0,0,0,[1]⟩
def yJ2 : List G := pT c0
def yJ1 : List G := (eZ c0 yJ2 e1).2
def yJ0 : List G := (eZ c0 yJ1 e2).2
def yJ7 : List G := (eZ c0 yJ0 e2).2
theorem x0 : (eZ c0 yJ2 e1).1 = 0 := by decide +kernel
theorem x1 : (eZ c0 yJ1 e2).1 = 0 := by decide +kernel
theorem x2 : (eZ c0 yJ0 e2).1 = 0 := by decide +kernel
theorem a3 : zY4 c0 yJ7 [1,0,2] [5,3,2] = true := by unfold zY4 Go.Pm.permB;rw [sS];decide +kernel
end Go.Ld
namespace Go.Proofs.YtmmmeebiobjnbaaGreat
open Go Go.Ab Go.Ld
attribute [local irreducible] VC AW cE aU iV
set_option maxHeartbeats 4000000
theorem WM (a b : List Int) (ha : a.length ≤ 9223372036854775807) : aU Tryz.prog 25 [.rowE (ints a) 1,.rowE (ints b) 1] [] (.b (decide (a = b))) [] := by
  have hal : (ints a).length = a.length := by simp
  have hbl : (ints b).length = b.length := by simp
  by_cases hl : a.length = b.length
  · refine bX T Tryz.func25 rfl rfl rfl rfl ?_
    (repeat' (first|refine wS ?_|refine wB ?_|refine wK ?_|(refine wC rfl ?_ ?_<;>(intro hb;(try simp only [nm] at hb);try (exfalso;omega)))|(refine rg 0 (aV ?_))|(refine rg 1 (mW rfl (qW T rfl (mW rfl (qW T rfl (vV (fY rfl rfl) ?_))))))|(refine rg 3 (aV ?_))|refine nZ ?_));all_goals try (exfalso;omega)
    refine dC (X := {i : Nat // i ≤ a.length ∧ a.take i = b.take i}) (fun i => [(0,.rowE (ints a) 1),(1,.rowE (ints b) 1),(5,.i i.1)]) (fun _ => []) (fun i => a.length - i.1) ⟨0,by omega,rfl⟩ (gM []) ?_
    rintro ⟨i,hi,hg⟩;dsimp only;by_cases hlt : i < a.length
    · have q1 := kX (l := a) (k := i) hlt;have q2 := kX (l := b) (k := i) (by omega)
      by_cases e : a[i] = b[i]
      · (repeat' (first|refine wS ?_|refine wB ?_|refine wK ?_|(refine wC rfl (fun hb => ?_) (fun hb => ?_) <;> (((try simp only [nm] at hb);try (exfalso;omega))))|(refine rg 4 (dK rfl (qW T rfl (vV (aJ rfl rfl) ?_))))|(refine cO (id := 6) 26 yO5 (rM 17 9) yO6 cW rfl (by decide +kernel) (dN rfl (dN rfl (dV rfl (ix T rfl (by omega) (eB a) q1) (dO T rfl (dN rfl (dN rfl (dV rfl (ix T rfl (by omega) (eB b) q2) (dO T rfl (dV rfl (fY rfl rfl) ?_)))))))));refine dE ?_)|(refine iA 5 rfl rfl rfl (by omega) (by omega) ?_)|(refine nZ ?_)));all_goals try (exfalso;omega)
        refine ⟨⟨i + 1,hlt,?_⟩,by dsimp only;omega,gM []⟩
        rw [aP hlt,aP (by omega),hg,e]
      · rw [show decide (a = b) = false from decide_eq_false (fun h => e (by subst h;rfl))]
        (repeat' (first|refine wS ?_|refine wB ?_|refine wK ?_|refine wR ?_|(refine wC rfl ?_ ?_<;>(intro hb;(try simp only [nm] at hb);try (exfalso;omega)))|(refine rg 4 (dK rfl (qW T rfl (vV (aJ rfl rfl) ?_))))|(refine cO (id := 6) 26 yO5 (rM 17 9) yO6 cW rfl (by decide +kernel) (dN rfl (dN rfl (dV rfl (ix T rfl (by omega) (eB a) q1) (dO T rfl (dN rfl (dN rfl (dV rfl (ix T rfl (by omega) (eB b) q2) (dO T rfl (dV rfl (fY rfl rfl) ?_)))))))));refine dE ?_)|(refine rg 7 (aV ?_))|refine nZ ?_));all_goals first | (exfalso;omega) | exact rQ
    · rw [bS (by omega),bS (by omega)] at hg
      rw [show decide (a = b) = true from decide_eq_true hg]
      (repeat' (first|refine wS ?_|refine wR ?_|refine wE ?_|(refine wC rfl ?_ ?_<;>(intro hb;(try simp only [nm] at hb);try (exfalso;omega)))|(refine rg 4 (dK rfl (qW T rfl (vV (aJ rfl rfl) ?_))))|(refine rg 8 (aV ?_))|refine nZ ?_));all_goals first | (exfalso;omega) | exact rQ
  · rw [show decide (a = b) = false from decide_eq_false (fun h => hl (by rw [h]))]
    refine bX T Tryz.func25 rfl rfl rfl rfl ?_
    (repeat' (first|refine wS ?_|refine wR ?_|(refine wC rfl ?_ ?_<;>(intro hb;(try simp only [nm] at hb);try (exfalso;omega)))|(refine rg 0 (aV ?_))|(refine rg 1 (mW rfl (qW T rfl (mW rfl (qW T rfl (vV (fY rfl rfl) ?_))))))|(refine rg 2 (aV ?_))|refine nZ ?_));all_goals first | (exfalso;omega) | exact rQ
theorem MB {S : Nat → Prop} {w : World} {ρ : Pl} {a b d e : AV} {y : Value} (h : R S w (.agg [a,b,d,e,.nils]) ρ y) : R S w (.agg [a,b,d,e,.rowE [] 1]) ρ y := by
  simp only [R] at h ⊢;obtain ⟨ys,e1,h1⟩ := h;exact ⟨ys,e1,lX (fun _ h => h) (fun _ => lX (fun _ h => h) fun _ => lX (fun _ h => h) fun _ => lX (fun _ h => h) fun _ => lX (fun _ h => OX h) fun _ h => h) h1⟩
end Go.Proofs.YtmmmeebiobjnbaaGreat
namespace Go.Ld
open Go.Ab Go.Proofs.YtmmmeebiobjnbaaGreat Go.Pm
theorem Z8 {g : G} {i : Nat} {x : Int} : x ∈ tZ g i ↔ ∃ w,w ∈ g.2 ∧ gP w i = x := by
  unfold tZ yA;rw [K2 _ _ _ (aX _),cM];have : x ∈ iG (F4 g i) ↔ x ∈ F4 g i := (sorted_perm _).mem_iff;rw [this];unfold F4;rw [bB]
theorem JI {g : G} {i : Nat} : ∀ k, k ≤ g.2.length → ∀ w, w ∈ g.2.take k → (SK g i k).1 ≤ (gC w i).1 ∧ (gC w i).2 ≤ (SK g i k).2
  | 0,_,w,hw => by simp at hw
  | k + 1,hk,w,hw => by
    rw [SJ (by omega)]
    rw [aP (by omega)] at hw
    unfold YR;dsimp only;rcases bF.1 hw with hw | hw
    · have := JI (i := i) k (by omega) w hw
      omega
    · obtain rfl := bI.1 hw;omega
theorem zG9 {g : G} {i : Nat} {w : W} (hw : w ∈ g.2) : (zH0 g i).1 ≤ (gC w i).1 ∧ (gC w i).2 ≤ (zH0 g i).2 :=
  JI _ (aX _) w (by rw [cM];exact hw)
theorem vC : ∀ {gs : List G} {f : As} {M : Int}, Sem gs f M → ∀ {g : G}, g ∈ gs → ∃ w, w ∈ g.2 ∧ oF g.1 w f
  | [],_,_,_,_,hg => by cases hg
  | x :: gs,f,M,⟨m,⟨w,h1,h2,_⟩,h3⟩,g,hg => by
    rcases bU.1 hg with rfl | hg
    · exact ⟨w,h1,h2⟩
    · exact vC h3 hg
theorem U4 {c : Cx} {gs : List G} {p q : List Int} (h : oZ c gs) (ha : zY4 c gs p q = true) {b : Int} (hb : 0 ≤ b ∧ b < c.bs.length) {g : G} {i : Nat} (hg : T3 gs b = some (g,i)) :
    p.getD b.toNat 0 ∈ tZ g i ∧ (zH0 g i).1 ≤ q.getD (p.getD b.toNat 0).toNat 0 ∧ q.getD (p.getD b.toNat 0).toNat 0 < (zH0 g i).2 := by
  obtain ⟨_,_,_,f,hf,hs⟩ := (HL h).1 ha;obtain ⟨k,h1,h2,h3,h4⟩ := J0 hg;obtain ⟨w,hw,hfw⟩ := vC hs (aL h2);have hi : i < g.1.length := by rw [h4];exact gS h3
  have hib : g.1[i] = b := by
    obtain ⟨hx,e⟩ := xD h3;subst h4;exact e
  have e1 := AX hfw hi;have e2 := AZ hfw hi;rw [hib] at e1 e2;obtain ⟨o1,o2⟩ := hf b hb.1 hb.2;have hc := zG9 (i := i) hw;rw [e2] at hc;unfold vQ at o2;simp only [aK,decide_eq_true_eq] at o2;exact ⟨Z8.2 ⟨w,hw,by rw [e1,o1]⟩,by omega,by omega⟩
end Go.Ld
namespace Go.Ld
open Go.Ab Go.Proofs.YtmmmeebiobjnbaaGreat
abbrev oG (l : List Ev) : List (List AV) := l.map yU
def yT (l : List Ev) : Nat := l.countP fun s => decide (s.k = 4)
def GU (l : List Ev) (m : Nat) : Bool := (l.take (m + 1)).all (fun s => decide (s.ids.length ≤ 12)) && decide (l.length ≤ m) && decide (yT (l.take (m + 1)) ≤ 5)
theorem uE (l : List Ev) : ∀ e,e ∈ oG l → e.length = 5 := by intro e he;obtain ⟨n,_,rfl⟩ := bB.1 he;rfl
theorem LF {l : List Ev} {k : Nat} (h : k < l.length) : (oG l)[(k : Int).toNat]? = some (yU l[k]) := by simp [h]
end Go.Ld
namespace Go.Proofs.YtmmmeebiobjnbaaGreat
open Go Go.Ab Go.Ld
attribute [local irreducible] VC AW cE aU iV
set_option maxHeartbeats 4000000
theorem zW6 (l : List Ev) (m : Nat) (hm : m ≤ 1000) (hids : ∀ s,s ∈ l → s.ids.length ≤ 9223372036854775807) : aU Tryz.prog 27 [.rowE (oG l) 5,.i m] [] (.b (GU l m)) [] := by
  have hll : (oG l).length = l.length := aY _;have hbad : ∀ k (hk : k < l.length),k ≤ m → ¬ l[k].ids.length ≤ 12 → GU l m = false := fun k hk hkm hb => by
    unfold GU;rw [show (l.take (m + 1)).all (fun s => decide (s.ids.length ≤ 12)) = false from List.all_eq_false.2 ⟨l[k],P7.2 ⟨k,by omega,rfl⟩,by simpa using hb⟩];rfl
  have hgood : (∀ s,s ∈ l.take (m + 1) → s.ids.length ≤ 12) → GU l m = (decide (l.length ≤ m) && decide (yT (l.take (m + 1)) ≤ 5)) := fun h => by
    unfold GU;rw [bH.2 fun s hs => decide_eq_true (h s hs),oD]
  generalize GU l m = R at *;refine bX T Tryz.func27 rfl rfl rfl rfl ?_
  (repeat' (first|refine wS ?_|refine wB ?_|(refine rg 0 (aV ?_))|(refine rg 1 (aV ?_))|(refine rg 2 (aV ?_))|refine nZ ?_));refine dC (X := {k : Nat // k ≤ l.length ∧ k ≤ m + 1 ∧ ∀ s,s ∈ l.take k → s.ids.length ≤ 12}) (fun k => [(0,.rowE (oG l) 5),(1,.i m),(5,.i (yT (l.take k.1))),(6,.i k.1)]) (fun _ => []) (fun k => l.length - k.1) ⟨0,bY _,bY _,fun s hs => by simp at hs⟩ (gM []) ?_
  rintro ⟨k,hk,hkm,hall⟩;dsimp only;have hsw : yT (l.take k) ≤ k := bK List.countP_le_length (by rw [bC];omega)
  by_cases hlt : k < l.length ∧ k ≤ m
  · obtain ⟨h1,h2⟩ := hlt;have hg := LF h1;have hts : l.take (k + 1) = l.take k ++ [l[k]] := aP h1;have hs1 : yT (l.take (k + 1)) = yT (l.take k) + (if l[k].k = 4 then 1 else 0) := by rw [hts];unfold yT;rw [UW];simp [List.countP_cons]
    have hbk := hbad k h1 h2;have hx := hids l[k] (aM h1);have hil : (Go.Ab.ints l[k].ids).length = l[k].ids.length := aY _;have hall2 : l[k].ids.length ≤ 12 → ∀ s,s ∈ l.take (k + 1) → s.ids.length ≤ 12 := fun hq s hs => by
      rw [hts] at hs;rcases bF.1 hs with hs | hs
      · exact hall s hs
      · rw [bI.1 hs];exact hq
    generalize l[k] = s at *;generalize hS1 : yT (l.take (k + 1)) = S1 at *;generalize yT (l.take k) = S at *;by_cases hi : s.ids.length ≤ 12
    · by_cases h4 : s.k = 4
      · rw [if_pos h4] at hs1
        (repeat' (first|refine wS ?_|refine wB ?_|refine wK ?_|refine wT ?_|(refine wC rfl ?_ ?_<;>(intro hb;(try simp only [nm] at hb);try (exfalso;omega)))|(refine rg 3 (dK rfl (qW T rfl (vV (aJ rfl rfl) (mV ?_))));refine bT rfl rfl ?_ ?_<;>(intro hb;rw [hb];(try simp only [nm] at hb);try (exfalso;omega));(all_goals (refine yN rfl (yN rfl (yV (iC rfl rfl) (pV ?_))))))|(refine rg 5 (dK rfl (vV (ix T rfl (by omega) (uE _) hg) (iP T rfl (qW T rfl (vV (fB rfl rfl) ?_))))))|(refine rg 7 (dK rfl (vV (ix T rfl (by omega) (uE _) hg) (iP T rfl (vV (lA rfl rfl (by omega)) ?_)))))|(refine iA 8 rfl rfl rfl (by omega) (by omega) ?_)|(refine iA 4 rfl rfl rfl (by omega) (by omega) ?_)|refine nZ ?_));all_goals try (exfalso;omega)
        exact ⟨⟨k + 1,h1,by omega,hall2 hi⟩,by dsimp only;omega,[],rfl,⟨rfl,rfl,by dsimp only;rw [hS1,hs1];rfl,rfl,trivial⟩,trivial,eP,kI _⟩
      · rw [if_neg h4] at hs1
        (repeat' (first|refine wS ?_|refine wB ?_|refine wK ?_|refine wU ?_|(refine wC rfl ?_ ?_<;>(intro hb;(try simp only [nm] at hb);try (exfalso;omega)))|(refine rg 3 (dK rfl (qW T rfl (vV (aJ rfl rfl) (mV ?_))));refine bT rfl rfl ?_ ?_<;>(intro hb;rw [hb];(try simp only [nm] at hb);try (exfalso;omega));(all_goals (refine yN rfl (yN rfl (yV (iC rfl rfl) (pV ?_))))))|(refine rg 5 (dK rfl (vV (ix T rfl (by omega) (uE _) hg) (iP T rfl (qW T rfl (vV (fB rfl rfl) ?_))))))|(refine rg 7 (dK rfl (vV (ix T rfl (by omega) (uE _) hg) (iP T rfl (vV (gR rfl rfl (by omega)) ?_)))))|(refine iA 4 rfl rfl rfl (by omega) (by omega) ?_)|refine nZ ?_));all_goals try (exfalso;omega)
        exact ⟨⟨k + 1,h1,by omega,hall2 hi⟩,by dsimp only;omega,[],rfl,⟨rfl,rfl,by dsimp only;rw [hS1,hs1];rfl,rfl,trivial⟩,trivial,eP,kI _⟩
    · have hR := hbk hi;subst hR
      (repeat' (first|refine wS ?_|refine wB ?_|refine wK ?_|refine wR ?_|(refine wC rfl ?_ ?_<;>(intro hb;(try simp only [nm] at hb);try (exfalso;omega)))|(refine rg 3 (dK rfl (qW T rfl (vV (aJ rfl rfl) (mV ?_))));refine bT rfl rfl ?_ ?_<;>(intro hb;rw [hb];(try simp only [nm] at hb);try (exfalso;omega));(all_goals (refine yN rfl (yN rfl (yV (iC rfl rfl) (pV ?_))))))|(refine rg 5 (dK rfl (vV (ix T rfl (by omega) (uE _) hg) (iP T rfl (qW T rfl (vV (fB rfl rfl) ?_))))))|(refine rg 6 (aV ?_))|refine nZ ?_));all_goals try (exfalso;omega)
      all_goals exact rQ
  · have hke : l.take k = l.take (m + 1) := by
      rcases iZ k l.length with h | h
      · rw [show k = m + 1 by omega]
      · rw [bS h,bS (by omega)]
    rw [hke] at hall hsw ⊢;have hR := hgood hall;subst hR;generalize yT (l.take (m + 1)) = S at *
    (repeat' (first|refine wS ?_|refine wR ?_|refine wE ?_|refine wU ?_|(refine wC rfl ?_ ?_<;>(intro hb;(try simp only [nm] at hb);try (exfalso;omega)))|(refine rg 3 (dK rfl (qW T rfl (vV (aJ rfl rfl) (mV ?_))));refine bT rfl rfl ?_ ?_<;>(intro hb;rw [hb];(try simp only [nm] at hb);try (exfalso;omega));(all_goals first|(refine gT (mW rfl (gT (mW rfl (gT (vV (iC rfl rfl) ?_))))))|(iterate 3 refine gF ?_));(all_goals (refine pV ?_)))|(refine rg 9 (mW rfl (qW T rfl (mW rfl (vV (iC rfl rfl) (mV ?_)))));refine bT rfl rfl ?_ ?_<;>(intro hb;rw [hb];(try simp only [nm] at hb);try (exfalso;omega));(all_goals first|(refine gT (mW rfl (gT (vV (iC rfl rfl) ?_))))|(iterate 2 refine gF ?_));(all_goals (refine pW rfl (aV ?_))))|refine nZ ?_));all_goals try (exfalso;omega)
    all_goals (refine dH (.inl rfl) rfl (nD ?_);first | rfl | (rw [FH];simp;omega) | (simp [*];omega) | skip)
end Go.Proofs.YtmmmeebiobjnbaaGreat
namespace Go.Proofs.YtmmmeebiobjnbaaGreat
open Go Go.Ab
attribute [local irreducible] VC AW cE aU
set_option maxHeartbeats 4000000
def zD9 (N : Nat) (ks : List KD) (ls : List LT) (ps : List Int) (bs : List BX) : Prop := 1 ≤ ps.length ∧ ps.length ≤ N ∧ bs.length ≤ N ∧ ks.length ≤ 10 ∧ ls.length ≤ 10
theorem ZB (N : Nat) (hN : N ≤ 8) (ks : List KD) (ls : List LT) (ps : List Int) (bs : List BX) (m st er sl : Int) (h : ¬ zD9 N ks ls ps bs) :
    aU Tryz.prog 9 [wP ks ls ps bs,qA m st er sl,.i N] [] (.b false) [] := by
  unfold zD9 at h;have e1 : (jN ks).length = ks.length := by simp
  have e2 : (kU ls).length = ls.length := by simp
  have e3 : (ints ps).length = ps.length := by simp
  have e4 : (fP bs).length = bs.length := by simp
  refine bX T Tryz.func9 rfl rfl rfl rfl ?_
  (repeat' (first|refine wS ?_|refine wR ?_|(refine rg 0 (cH (cY rfl rfl) rfl (cH (cY rfl rfl) rfl (aV ?_))))|(refine rg 1 (iP T rfl (qW T rfl (vV (gV rfl rfl) (mV ?_))));refine bT rfl rfl ?_ ?_<;>(intro hb;rw [hb];(try simp only [nm] at hb);try (exfalso;omega));(all_goals first|(refine gT (fW T rfl (gT (lW T rfl (gT (qW T rfl (gT (mW rfl (gT (vV (iC rfl rfl) ?_))))))))))|(iterate 5 refine gF ?_));(all_goals (refine pW rfl (mV ?_)));(all_goals first|(refine gK ?_)|(refine bT rfl rfl ?_ ?_<;>(intro hb;rw [hb];(try simp only [nm] at hb);try (exfalso;omega))));(all_goals first|(refine gT (fW T rfl (gT (lW T rfl (gT (qW T rfl (gT (mW rfl (gT (vV (iC rfl rfl) ?_))))))))))|(iterate 5 refine gF ?_));(all_goals (refine pW rfl (mV ?_)));(all_goals first|(refine gK ?_)|(refine bT rfl rfl ?_ ?_<;>(intro hb;rw [hb];(try simp only [nm] at hb);try (exfalso;omega))));(all_goals first|(refine gT (fW T rfl (gT (lW T rfl (gT (qW T rfl (gT (vV (iC rfl rfl) ?_))))))))|(iterate 4 refine gF ?_));(all_goals (refine pW rfl (mV ?_)));(all_goals first|(refine gK ?_)|(refine bT rfl rfl ?_ ?_<;>(intro hb;rw [hb];(try simp only [nm] at hb);try (exfalso;omega))));(all_goals first|(refine gT (fW T rfl (gT (lW T rfl (gT (qW T rfl (gT (vV (iC rfl rfl) ?_))))))))|(iterate 4 refine gF ?_));(all_goals (refine pW rfl (mV ?_)));(all_goals first|(refine gK ?_)|(refine bT rfl rfl ?_ ?_<;>(intro hb;rw [hb];(try simp only [nm] at hb);try (exfalso;omega))));(all_goals ((iterate 2 refine gF ?_);refine pW rfl (mV ?_);(iterate 9 refine gF ?_);refine pW rfl (aV ?_))))|refine nZ ?_));all_goals first | exact rQ | (exfalso;omega) | (refine dH (.inl rfl) rfl (nD ?_);simp;omega)
theorem J6 (N : Nat) (hN : N ≤ 8) (ks : List KD) (ls : List LT) (ps : List Int) (bs : List BX) (m st er sl : Int) (h : zD9 N ks ls ps bs) {v w : Bool} (hs : A7 m st er sl = v) (ht : sO ks ls ps bs = w) :
    aU Tryz.prog 9 [wP ks ls ps bs,qA m st er sl,.i N] [] (.b (v && w)) [] := by
  unfold zD9 at h;have e1 : (jN ks).length = ks.length := by simp
  have e2 : (kU ls).length = ls.length := by simp
  have e3 : (ints ps).length = ps.length := by simp
  have e4 : (fP bs).length = bs.length := by simp
  have c1 := hs ▸ WE m st er sl;have c2 := ht ▸ zF1 ks ls ps bs (by omega) (by omega) (by omega) (by omega)
  cases v <;> cases w
  all_goals
    refine bX T Tryz.func9 rfl rfl rfl rfl ?_
    repeat' (first|refine wS ?_|refine wR ?_|(refine rg 0 (cH (cY rfl rfl) rfl (cH (cY rfl rfl) rfl (aV ?_))))|(refine rg 1 (iP T rfl (qW T rfl (vV (gV rfl rfl) (mV ?_))));refine bT rfl rfl ?_ ?_<;>(intro hb;rw [hb];(try simp only [nm] at hb);try (exfalso;omega));(all_goals (refine yP T rfl (yO T rfl (gT (qW T rfl (yN rfl (yV (iC rfl rfl) (pW rfl (mV ?_)))))));refine bT rfl rfl ?_ ?_<;>(intro hb;rw [hb];(try simp only [nm] at hb);try (exfalso;omega))));(all_goals (refine yP T rfl (yO T rfl (gT (qW T rfl (yN rfl (yV (iC rfl rfl) (pW rfl (mV ?_)))))));refine bT rfl rfl ?_ ?_<;>(intro hb;rw [hb];(try simp only [nm] at hb);try (exfalso;omega))));(all_goals (refine yP T rfl (yO T rfl (gT (qW T rfl (yV (iC rfl rfl) (pW rfl (mV ?_))))));refine bT rfl rfl ?_ ?_<;>(intro hb;rw [hb];(try simp only [nm] at hb);try (exfalso;omega))));(all_goals (refine yP T rfl (yO T rfl (gT (qW T rfl (yV (iC rfl rfl) (pW rfl (mV ?_))))));refine bT rfl rfl ?_ ?_<;>(intro hb;rw [hb];(try simp only [nm] at hb);try (exfalso;omega))));(all_goals (refine yO T rfl (yV (kC (c1)) (pW rfl (mV ?_)))));(all_goals first|(refine gT (fW T rfl (gT (lW T rfl (gT (fW T rfl (gT (lW T rfl (gT (fV T ?_)))))))));refine gT (lW T rfl (gT (fW T rfl (gT (lW T rfl (gT (vV (kC (c2)) ?_))))))))|(iterate 9 refine gF ?_));(all_goals (refine pW rfl (aV ?_))))|refine nZ ?_)
  all_goals first | exact rQ | (exfalso;omega)
theorem zN0 (N : Nat) (hN : N ≤ 8) (ks : List KD) (ls : List LT) (ps : List Int) (bs : List BX) (m st er sl : Int) :
    aU Tryz.prog 9 [wP ks ls ps bs,qA m st er sl,.i N] [] (.b false) [] ∨
    (aU Tryz.prog 9 [wP ks ls ps bs,qA m st er sl,.i N] [] (.b true) [] ∧ zZ6 ks ls ps bs ∧ nO m st er sl ∧ uI ks ls ps bs ∧ ps.length ≤ N) := by
  by_cases h : zD9 N ks ls ps bs
  · cases hs : A7 m st er sl
    · cases ht : sO ks ls ps bs
      · exact .inl (J6 N hN ks ls ps bs m st er sl h hs ht)
      · exact .inl (J6 N hN ks ls ps bs m st er sl h hs ht)
    · cases ht : sO ks ls ps bs
      · exact .inl (J6 N hN ks ls ps bs m st er sl h hs ht)
      · exact .inr ⟨J6 N hN ks ls ps bs m st er sl h hs ht,zW5 ⟨h.1,by have := h.2.1;omega,by have := h.2.2.1;omega,h.2.2.2.1,h.2.2.2.2⟩ ht,SE hs,by unfold sO at ht;simpa using ht,h.2.1⟩
  · exact .inl (ZB N hN ks ls ps bs m st er sl h)
end Go.Proofs.YtmmmeebiobjnbaaGreat
namespace Go.Ld
open Go.Ab Go.Proofs.YtmmmeebiobjnbaaGreat
theorem WX {c : Cx} {gs : List G} (h : oZ c gs) {g : G} (hg : g ∈ gs) {i : Nat} (hi : i < g.1.length) : ∀ x,x ∈ tZ g i → 0 ≤ x ∧ x < c.bs.length := by
  intro x hx;obtain ⟨w,hw,rfl⟩ := Z8.1 hx;obtain ⟨a,b,_⟩ := ((h.mid.out.ok g hg).ws w hw).at hi;exact ⟨a,b⟩
theorem I2 {g : G} {i : Nat} : (tZ g i).length ≤ g.2.length := by
  unfold tZ yA;refine bK (oT _ _) ?_;have : (iG (F4 g i)).length = (F4 g i).length := (Go.Pm.sorted_perm _).length_eq;rw [this];unfold F4;rw [aY];exact aX _
end Go.Ld
namespace Go.Proofs.YtmmmeebiobjnbaaGreat
open Go Go.Ab Go.Ld
attribute [local irreducible] VC AW cE aU
set_option maxHeartbeats 4000000
abbrev mB (q : Int → Bool) (l : List Int) : List Int := l.filter fun x => !q x
theorem AP {q : Int → Bool} {l : List Int} {k : Nat} (h : k < l.length) : mB q (l.take (k + 1)) = if q l[k] then mB q (l.take k) else mB q (l.take k) ++ [l[k]] := by
  unfold mB;rw [aP h,tV];cases e : q l[k] <;> simp [e]
theorem YD (q : Int → Bool) (l : List Int) (k : Nat) : (mB q (l.take k)).length ≤ k := bK (fG _ _) (by simp;omega)
theorem yJ4 {G l : List Int} {m : Nat} (hg : G.length ≤ m) (hm : m < l.length) : (ints (G ++ l.drop G.length))[0 + (m : Int).toNat]? = some [AV.i l[m]] := by
  rw [Nat.zero_add,bM,bL,aE hg,dU,show G.length + (m - G.length) = m by omega,aA hm];rfl
theorem yF0 {G l : List Int} {x : Int} (hg : G.length < l.length) : (ints (G ++ l.drop G.length)).set (0 + (G.length : Int).toNat) [AV.i x] = ints ((G ++ [x]) ++ l.drop (G ++ [x]).length) := by
  rw [Nat.zero_add,bM,← wG,iL _ _ (aX _),dX,aT hg,List.set_cons_zero];simp
theorem yC2 {G l : List Int} (hg : G.length ≤ l.length) : (ints (G ++ l.drop G.length)).length = l.length := by simp;omega
theorem yA4 {G l : List Int} : (ints (G ++ l.drop G.length)).take (0 + (G.length : Int).toNat) = ints G := by
  rw [Nat.zero_add,bM,← kJ,pS (aX _),bS (aX _)]
theorem EQ {F : FuncId} {caps : List AV} {q : Int → Bool} (l : List Int) (hl : l.length ≤ 1000000) (hi : AV.idfL caps = true) (hp : AV.plnL caps = true) (hF : ∀ x,x ∈ l → aU Tryz.prog F (.i x :: caps) [] (.b (q x)) []) :
    aU Tryz.prog 34 [.sl 0 0 l.length 1,.clo (.func F) [] caps] [.arr (ints l) 1] (.sl 0 0 (mB q l).length 1) [.arr (ints (mB q l)) 1] := by
  have hll : (ints l).length = l.length := by simp
  have hix := zR0 hl hi hF;refine bX T Tryz.func34 rfl rfl rfl rfl ?_;rcases B7 q l 0 with ⟨h1,h2⟩ | ⟨j,hj,h1,h2,h3⟩
  · rw [h1] at hix;have hk : mB q l = l := oK.2 fun x hx => by rw [h2 x hx];rfl
    rw [hk]
    (repeat' (first|refine wS ?_|refine wR ?_|refine wT ?_|(refine rg 0 (aV ?_))|(refine rg 1 (dK rfl (vV (by exact eW rfl rfl hix (.cons (uZ rfl rfl) (.cons (.clo .nil (kW _ hp)) .nil)) rfl rfl) ?_));refine aV ?_)|(refine rg 2 (mW rfl (vV (eX rfl rfl) ?_)))|(refine rg 3 (mW rfl (aV ?_)))|refine nZ ?_));all_goals first | (exfalso;omega) | exact ⟨.inl rfl,[0],_,rfl,rfl,rfl,⟨.inr (aC rfl rfl (bN _)),trivial⟩,by decide,lL⟩
  · rw [h1,Nat.zero_add] at hix;have hk0 : mB q (l.take (j + 1)) = l.take j := by
      rw [AP hj,if_pos h2];exact oK.2 fun x hx => by rw [h3 x hx];rfl
    have hkl : (mB q (l.take (j + 1))).length = j := by rw [hk0];simp;omega
    have hka : mB q (l.take (j + 1)) ++ l.drop (mB q (l.take (j + 1))).length = l := by rw [hkl,hk0,bQ]
    have hkf : mB q l = mB q (l.take l.length) := by rw [cM]
    rw [hkf]
    (repeat' (first|refine wS ?_|refine wB ?_|refine wK ?_|refine wU ?_|(refine rg 0 (aV ?_))|(refine rg 1 (dK rfl (vV (by exact eW rfl rfl hix (.cons (uZ rfl rfl) (.cons (.clo .nil (kW _ hp)) .nil)) rfl rfl) ?_));refine aV ?_)|(refine rg 2 (mW rfl (vV (eX rfl rfl) ?_)))|(refine iA 4 rfl rfl rfl (by omega) (by omega) ?_)|refine nZ ?_));all_goals try (exfalso;omega)
    refine dC (X := {m : Nat // m ≤ l.length}) (fun m => [(0,.sl 0 0 l.length 1),(1,.clo (.func F) [] caps),(5,.i (mB q (l.take m.1)).length),(6,.i m.1)]) (fun m => [.arr (ints (mB q (l.take m.1) ++ l.drop (mB q (l.take m.1)).length)) 1]) (fun m => l.length - m.1) ⟨j + 1,hj⟩ ⟨[0],rfl,⟨rfl,by rw [lB hi];rfl,by dsimp only;rw [hkl];rfl,rfl,trivial⟩,⟨.inr (aC rfl (by dsimp only;rw [hka]) (bN _)),trivial⟩,by decide,lL⟩ ?_
    rintro ⟨m,hm⟩;dsimp only;have hle := YD q l m;by_cases hlt : m < l.length
    · have hs := AP (q := q) hlt;have hget := yJ4 hle hlt;have hg2 := yJ4 (G := mB q (l.take m)) (l := l) (aX _) (by omega)
      have hset := yF0 (G := mB q (l.take m)) (l := l) (x := l[m]) (by omega)
      have hc := hF l[m] (aM hlt);have hal := yC2 (G := mB q (l.take m)) (l := l) (by omega)
      generalize l[m] = x at *;generalize l[(mB q (l.take m)).length] = y at *;generalize hG : mB q (l.take m) = G at *;generalize hA : ints (G ++ l.drop G.length) = A at *;cases e : q x
      · rw [e] at hc hs;rw [if_neg (by simp)] at hs
        (repeat' (first|refine wS ?_|refine wB ?_|refine wK ?_|refine wT ?_|(refine wC rfl ?_ ?_<;>(intro hb;(try simp only [nm] at hb);try (exfalso;omega)))|(refine rg 5 (dK rfl (qW T rfl (vV (aJ rfl rfl) ?_))))|(refine rg 7 (dK rfl (vV (by exact aO T rfl rfl rfl rfl rfl (by omega) (by omega)) ?_));refine vV (by exact aN T rfl rfl (bP rfl hget) rfl) ?_;refine aV ?_)|(refine rg 8 (dK rfl (vV (by exact fU rfl rfl hc rfl (by simp [AV.idfL,AV.idf,hi]) rfl) ?_));refine vV (eM rfl) ?_)|(refine rg 9 (dK rfl (mW rfl (vV (by exact aO T rfl rfl rfl rfl rfl (by omega) (by omega)) ?_)));refine bA T rfl rfl rfl rfl rfl rfl (by decide) (mK rfl hg2 rfl) ?_)|(refine iA 10 rfl rfl rfl (by omega) (by omega) ?_)|(refine iA 6 rfl rfl rfl (by omega) (by omega) ?_)|refine nZ ?_));all_goals try (exfalso;omega)
        all_goals exact ⟨⟨m + 1,hlt⟩,by dsimp only;omega,[0],rfl,⟨rfl,by rw [lB hi];rfl,by rw [hs];simp only [aF];rfl,rfl,trivial⟩,⟨.inr (aC rfl (by rw [hs];exact hset) (bN _)),trivial⟩,by decide,lL⟩
      · rw [e] at hc hs;rw [if_pos rfl] at hs
        (repeat' (first|refine wS ?_|refine wB ?_|refine wK ?_|refine wU ?_|(refine wC rfl ?_ ?_<;>(intro hb;(try simp only [nm] at hb);try (exfalso;omega)))|(refine rg 5 (dK rfl (qW T rfl (vV (aJ rfl rfl) ?_))))|(refine rg 7 (dK rfl (vV (by exact aO T rfl rfl rfl rfl rfl (by omega) (by omega)) ?_));refine vV (by exact aN T rfl rfl (bP rfl hget) rfl) ?_;refine aV ?_)|(refine rg 8 (dK rfl (vV (by exact fU rfl rfl hc rfl (by simp [AV.idfL,AV.idf,hi]) rfl) ?_));refine vV (eM rfl) ?_)|(refine iA 6 rfl rfl rfl (by omega) (by omega) ?_)|refine nZ ?_));all_goals try (exfalso;omega)
        all_goals exact ⟨⟨m + 1,hlt⟩,by dsimp only;omega,[0],rfl,⟨rfl,by rw [lB hi];rfl,by rw [hs];rfl,rfl,trivial⟩,⟨.inr (aC rfl (by rw [hs];exact hA.symm) (bN _)),trivial⟩,by decide,lL⟩
    · obtain rfl : m = l.length := by omega
      have hal := yC2 (G := mB q (l.take l.length)) (l := l) (by omega)
      have htk := yA4 (G := mB q (l.take l.length)) (l := l);generalize mB q (l.take l.length) = G at *
      (repeat' (first|refine wS ?_|refine wR ?_|refine wE ?_|(refine wC rfl ?_ ?_<;>(intro hb;(try simp only [nm] at hb);try (exfalso;omega)))|(refine rg 5 (dK rfl (qW T rfl (vV (aJ rfl rfl) ?_))))|(refine rg 11 (dK rfl (vV (by exact jJ T rfl rfl rfl rfl rfl rfl (by omega) (by omega) (by omega)) ?_));refine IG T rfl rfl rfl rfl rfl (by rw [hal];omega) ?_)|(refine rg 12 (dK rfl (vV (by exact jJ T rfl rfl rfl rfl rfl rfl (by omega) (by omega) (by omega)) ?_));refine aV ?_)|refine nZ ?_));all_goals try (exfalso;omega)
      all_goals exact ⟨.inl rfl,[0],_,rfl,(by show AV.sl 0 0 ((G.length : Int) - 0).toNat 1 = AV.sl 0 0 G.length 1;rw [show ((G.length : Int) - 0).toNat = G.length by omega]),rfl,⟨.inr (aC rfl htk (bN _)),trivial⟩,by decide,lL⟩
end Go.Proofs.YtmmmeebiobjnbaaGreat
namespace Go.Ld
open Go.Ab Go.Proofs.YtmmmeebiobjnbaaGreat
theorem zS4 {l u n : Int} (hu : 0 < u) : (l + u - 1) / u ≤ n ↔ l ≤ n * u := by
  have h : (l + u - 1) / u < n + 1 ↔ l + u - 1 < (n + 1) * u := Int.ediv_lt_iff_lt_mul hu;rw [Int.add_mul] at h;omega
theorem zS3 {l u n : Int} (hu : 0 < u) : n < l / u + 1 ↔ n * u ≤ l := by
  have h : n ≤ l / u ↔ n * u ≤ l := Int.le_ediv_iff_mul_le hu;omega
theorem nI {f t n : Int} : vQ f t n = true ↔ f ≤ n ∧ n < t := by unfold vQ;simp
theorem BJ {f t v : Int} (h0 : 0 ≤ v) (h1 : v ≤ 20000) : ((K1 f t).2 = true ∧ vQ (K1 f t).1.1 (K1 f t).1.2 v = true) ↔ f ≤ v ∧ v < t := by
  unfold K1;dsimp only;rw [nI];rcases BI f t with ⟨a,b,d,e⟩ | ⟨a,b,d,e⟩
  · rw [a,b,d];constructor
    · rintro ⟨_,_⟩;omega
    · intro _;exact ⟨rfl,by omega⟩
  · rw [a];constructor
    · rintro ⟨h,_⟩;cases h
    · intro _;omega
theorem zE2 {t u w e v : Int} (hf : 0 ≤ t ∧ t ≤ 1099511627776 ∧ 0 ≤ u ∧ u ≤ 1099511627776 ∧ 0 ≤ w ∧ w ≤ 1099511627776 ∧ 0 ≤ e ∧ e ≤ 1099511627776) (h0 : 0 ≤ v) (h1 : v ≤ 20000) :
    ((VE t u w e).2 = true ∧ vQ (VE t u w e).1.1 (VE t u w e).1.2 v = true) ↔ w - e ≤ t + v * u ∧ t + v * u ≤ w + e := by
  have b1 : 0 ≤ v * u := Int.mul_nonneg h0 hf.2.2.1;unfold VE;rw [if_pos (show EO t u w e = true by unfold EO;rw [decide_eq_true_eq];exact hf)]
  by_cases c1 : w + e - t < 0 ∨ u = 0 ∧ 0 < w - e - t
  · rw [if_pos c1];constructor
    · rintro ⟨h,_⟩;cases h
    · rintro ⟨a,b⟩;rcases c1 with c1 | ⟨rfl,c1⟩ <;> omega
  · rw [if_neg c1];by_cases c2 : u = 0
    · rw [if_pos c2];dsimp only;rw [nI];subst c2;constructor
      · rintro ⟨_,_⟩;omega
      · rintro _;exact ⟨rfl,by omega⟩
    · rw [if_neg c2,BJ h0 h1];have hu : 0 < u := by omega
      have g1 : zZ9 t u w e ≤ v ↔ max (w - e - t) 0 ≤ v * u := zS4 hu;have g2 : v < zZ8 t u w e ↔ v * u ≤ w + e - t := zS3 hu;omega
theorem RO {t u w e v : Int} {r : SP} (hf : 0 ≤ t ∧ t ≤ 1099511627776 ∧ 0 ≤ u ∧ u ≤ 1099511627776 ∧ 0 ≤ w ∧ w ≤ 1099511627776 ∧ 0 ≤ e ∧ e ≤ 1099511627776) (h0 : 0 ≤ v) (h1 : v ≤ 20000) :
    ((uL t u w e r).2 = true ∧ vQ (uL t u w e r).1.1 (uL t u w e r).1.2 v = true) ↔ vQ r.1 r.2 v = true ∧ w - e ≤ t + v * u ∧ t + v * u ≤ w + e := by
  have hw := zE2 hf h0 h1;unfold uL;generalize VE t u w e = q at *;dsimp only;by_cases hq : q.2 = true
  · rw [if_pos hq,BJ h0 h1,← hw,nI,nI];constructor
    · intro h;exact ⟨by omega,hq,by omega⟩
    · rintro ⟨a,_,b⟩;omega
  · rw [if_neg hq,← hw];constructor
    · rintro ⟨a,_⟩;exact absurd a hq
    · rintro ⟨_,a,_⟩;exact absurd a hq
theorem RA {c : Cx} {s : Ev} {x : Int × SP} {v : Int} (hb : 0 ≤ (c.bs.getD x.1.toNat (0, 0, 0)).2.2 ∧ (c.bs.getD x.1.toNat (0, 0, 0)).2.2 ≤ 1073741824)
    (hu : 0 ≤ qP c.ks c.ls (c.bs.getD x.1.toNat (0,0,0)).1 ∧ qP c.ks c.ls (c.bs.getD x.1.toNat (0,0,0)).1 ≤ 1048576) (hs : nO c.m c.st c.er c.sl) (hn : s.k = 1 → 0 ≤ s.n ∧ s.n ≤ 1099511627776) (h0 : 0 ≤ v) (h1 : v ≤ 20000) (h2 : s.k ≠ 2) :
    ((wL c s x).2.2 = true ∧ vQ (wL c s x).1.2.1 (wL c s x).1.2.2 v = true) ↔ vQ x.2.1 x.2.2 v = true ∧ UQ c.st c.er c.sl x.1 v ((c.bs.getD x.1.toNat (0,0,0)).2.2 + v * qP c.ks c.ls (c.bs.getD x.1.toNat (0,0,0)).1) s.k s.n s.ids = true := by
  unfold nO at hs;unfold wL UQ;by_cases k0 : s.k = 0
  · rw [if_pos k0,if_pos k0];by_cases hm : x.1 ∈ s.ids
    · rw [if_pos hm,if_pos hm];dsimp only;exact And.comm
    · rw [if_neg hm,if_neg hm];dsimp only;rw [G7];exact And.comm
  rw [if_neg k0,if_neg k0];by_cases k1 : s.k = 1
  · rw [if_pos k1,if_pos k1];dsimp only;have hn := hn k1;rw [RO (by omega) h0 h1]
    unfold iW;simp
  rw [if_neg k1,if_neg k1,if_neg h2,if_neg h2];by_cases k3 : s.k = 3
  · rw [if_pos k3,if_pos k3];dsimp only;rw [nI,nI,nI,decide_eq_true_eq];omega
  rw [if_neg k3,if_neg k3];by_cases k5 : s.k = 5
  · rw [if_pos k5,if_pos k5];dsimp only;rw [decide_eq_true_eq,decide_eq_true_eq];constructor
    · rintro ⟨a,b⟩;exact ⟨b,a.symm⟩
    · rintro ⟨a,b⟩;exact ⟨b.symm,a⟩
  · rw [if_neg k5,if_neg k5];exact And.comm
theorem LR {c : Cx} {s : Ev} {x : Int × SP} {v : Int} (hx : 0 ≤ x.2.1 ∧ x.2.1 < x.2.2 ∧ x.2.2 ≤ 20001) (hs : nO c.m c.st c.er c.sl) (hn : 0 ≤ s.n ∧ s.n ≤ 1099511627776) (h0 : 0 ≤ v) (h1 : v ≤ 20000) (h2 : s.k = 2) :
    ((wL c s x).2.2 = true ∧ vQ (wL c s x).1.2.1 (wL c s x).1.2.2 v = true) ↔ ∃ u d : Int,vQ x.2.1 x.2.2 u = true ∧ s.n - c.sl ≤ u ∧ 0 ≤ d ∧ d ≤ u ∧ s.n - c.sl ≤ d ∧ d ≤ s.n + c.sl ∧ v = u - d := by
  unfold nO at hs;unfold wL;rw [if_neg (by omega),if_neg (by omega),if_pos h2]
  dsimp only;unfold zC;rw [if_pos (by omega),BJ h0 h1]
  simp only [nI];constructor
  · intro h;by_cases hc : v + max (s.n - c.sl) 0 ≤ x.2.1
    · exact ⟨x.2.1,x.2.1 - v,by omega,by omega,by omega,by omega,by omega,by omega,by omega⟩
    · exact ⟨v + max (s.n - c.sl) 0,max (s.n - c.sl) 0,by omega,by omega,by omega,by omega,by omega,by omega,by omega⟩
  · rintro ⟨u,d,a1,a2,a3,a4,a5,a6,rfl⟩;omega
theorem LS {c : Cx} {s : Ev} {x : Int × SP} (h : (wL c s x).2.2 = true) : (wL c s x).2.1 = zR9 c.st x.1 s.k s.ids := by
  unfold wL zR9 at *;by_cases k0 : s.k = 0
  · rw [if_pos k0] at h ⊢;rw [if_pos k0];by_cases hm : x.1 ∈ s.ids
    · rw [if_pos hm] at h ⊢;simp only [if_pos hm];simp only [decide_eq_true_eq] at h;rw [if_neg (by omega)]
    · rw [if_neg hm] at h ⊢;simp only [if_neg hm];simp only [decide_eq_true_eq] at h;rw [if_neg (by omega)]
  · rw [if_neg k0,if_neg k0]
    repeat' split
    all_goals rfl
def uU (p : List Int) (s : Ev) (done : Int) : List Int := if s.k = 4 ∧ done = 1 then (p.set s.a.toNat (p.getD s.b.toNat 0)).set s.b.toNat (p.getD s.a.toNat 0) else p
def tS (p q : List Int) (s : Ev) (done : Int) : List Int := if s.k = 2 then q.set (p.getD s.a.toNat 0).toNat (q.getD (p.getD s.a.toNat 0).toNat 0 - done) else q
def zC3 (c : Cx) (p q : List Int) (s : Ev) : Bool :=
  UQ c.st c.er c.sl (p.getD s.a.toNat 0) (q.getD (p.getD s.a.toNat 0).toNat 0) ((c.bs.getD (p.getD s.a.toNat 0).toNat (0,0,0)).2.2 + q.getD (p.getD s.a.toNat 0).toNat 0 * qP c.ks c.ls (c.bs.getD (p.getD s.a.toNat 0).toNat (0,0,0)).1) s.k s.n s.ids
def zP (c : Cx) (p q : List Int) (s : Ev) (done : Int) : Bool := UO c.sl (q.getD (p.getD s.a.toNat 0).toNat 0) s.k s.n done
def rK (c : Cx) (p : List Int) (s : Ev) : Int := zR9 c.st (p.getD s.a.toNat 0) s.k s.ids
def wD (c : Cx) (p q : List Int) (f : As) : Prop := ∀ b : Int,0 ≤ b → b < c.bs.length → RK p q (f b) b
structure PQ (c : Cx) (p q : List Int) : Prop where
  pl : p.length = c.bs.length
  ql : q.length = c.bs.length
  pp : p.Perm (nats (List.range c.bs.length))
  q0 : ∀ x,x ∈ q → 0 ≤ x ∧ x ≤ 20000
theorem JO {p : List Int} {n : Nat} (hl : p.length = n) : Go.Pm.permB p = true ↔ p.Perm (nats (List.range n)) := by
  unfold Go.Pm.permB;rw [decide_eq_true_eq,hl];constructor
  · intro h;rw [← h];exact (Go.Pm.sorted_perm p).symm
  · intro h;refine List.Perm.eq_of_pairwise (le := fun a b => a ≤ b) (fun a b _ _ h1 h2 => Int.le_antisymm h1 h2) ?_ ?_ ((Go.Pm.sorted_perm p).trans h)
    · have := CA (le := fun x y : Int => decide (x ≤ y)) (fun a b d h1 h2 => decide_eq_true (CS (of_decide_eq_true h1) (of_decide_eq_true h2))) (fun a b => by rw [D5,decide_eq_true_eq,decide_eq_true_eq];omega) p
      exact this.imp (fun h => of_decide_eq_true h)
    · exact (CO (n := n)).imp (fun h => h) |>.map _ (fun a b h => by omega)
theorem PQ.at {c : Cx} {p q : List Int} (h : PQ c p q) {b : Int} (h0 : 0 ≤ b) (h1 : b < c.bs.length) : 0 ≤ p.getD b.toNat 0 ∧ p.getD b.toNat 0 < c.bs.length := by
  have hl := h.pl;have hm : p.getD b.toNat 0 ∈ p := by rw [aD,aA (by omega)];exact aM _
  exact vJ.1 (h.pp.mem_iff.1 hm)
theorem PQ.inj {c : Cx} {p q : List Int} (h : PQ c p q) {a b : Int} (h0 : 0 ≤ a) (h1 : a < c.bs.length) (h2 : 0 ≤ b) (h3 : b < c.bs.length) (e : p.getD a.toNat 0 = p.getD b.toNat 0) : a = b := by
  have hl := h.pl;have nd : p.Nodup := h.pp.nodup_iff.2 (B1 _);rw [aD,aA (by omega),aD,aA (by omega)] at e
  have := (zQ1 nd).1 e;omega
theorem PQ.ct {c : Cx} {p q : List Int} (h : PQ c p q) {x : Int} (h0 : 0 ≤ x) (h1 : x < c.bs.length) : 0 ≤ q.getD x.toNat 0 ∧ q.getD x.toNat 0 ≤ 20000 := by
  have hl := h.ql;refine h.q0 _ ?_;rw [aD,aA (by omega)];exact aM _
theorem zO {c : Cx} {p q : List Int} {s : Ev} {done : Int} (hk : s.k = 2) (h : zP c p q s done = true) : 0 ≤ done ∧ done ≤ q.getD (p.getD s.a.toNat 0).toNat 0 ∧ s.n - c.sl ≤ done ∧ done ≤ s.n + c.sl := by
  unfold zP UO iW at h;rw [if_pos hk] at h;simp only [aK,decide_eq_true_eq] at h;omega
theorem K9 {p : List Int} {s : Ev} {done : Int} : (uU p s done).length = p.length := by unfold uU;split <;> simp
theorem zC4 {p q : List Int} {s : Ev} {done : Int} : (tS p q s done).length = q.length := by unfold tS;split <;> simp
theorem DD {l : List Int} {i j : Nat} (hi : i < l.length) (hj : j < l.length) (hne : i ≠ j) : ((l.set i (l.getD j 0)).set j (l.getD i 0)).Perm l := by
  have h : ((l.set i (l.getD j 0)).set j (l.getD i 0)).Perm l := List.perm_iff_count.2 fun x => by
    have e1 : l.getD i 0 = l[i] := by simp [List.getD,hi]
    have e2 : l.getD j 0 = l[j] := by simp [List.getD,hj]
    rw [e1,e2,List.count_set (by simpa using hj),List.count_set hi,List.getElem_set_ne hne]
    have c1 : l[i] ∈ l := aM _;have c2 : l[j] ∈ l := aM _;have p1 := List.count_pos_iff.2 c1;have p2 := List.count_pos_iff.2 c2;by_cases a1 : l[i] = x
    · by_cases a2 : l[j] = x
      · rw [a1] at p1;simp [a1,a2];omega
      · rw [a1] at p1;simp [a1,a2];omega
    · by_cases a2 : l[j] = x
      · simp [a1,a2]
      · simp [a1,a2]
  exact h
theorem PQ.aft {c : Cx} {p q : List Int} {s : Ev} {done : Int} (h : PQ c p q) (ha : 0 ≤ s.a ∧ s.a < c.bs.length) (hb : s.k = 4 → s.a < s.b ∧ s.b < c.bs.length) (hc : zP c p q s done = true) : PQ c (uU p s done) (tS p q s done) where
  pl := by rw [K9];exact h.pl
  ql := by rw [zC4];exact h.ql
  pp := by
    refine List.Perm.trans ?_ h.pp;have hl := h.pl;unfold uU;split
    · rename_i hk;have := hb hk.1;exact DD (by omega) (by omega) (by omega)
    · exact .refl _
  q0 := fun x hx => by
    unfold tS at hx;split at hx
    · rename_i hk;rcases fT hx with hx | rfl
      · exact h.q0 x hx
      · have := zO hk hc;obtain ⟨i0,i1⟩ := h.at ha.1 ha.2;have := h.ct i0 i1;omega
    · exact h.q0 x hx
theorem zI {l : List Int} {i j : Nat} {x : Int} (hj : i < l.length) : (l.set i x).getD j 0 = if j = i then x else l.getD j 0 := fO hj
theorem iU.box {c : Cx} (h : iU c) {x : Int} (h0 : 0 ≤ x) (h1 : x < c.bs.length) : (0 ≤ (c.bs.getD x.toNat (0,0,0)).2.2 ∧ (c.bs.getD x.toNat (0,0,0)).2.2 ≤ 1073741824) ∧ (0 ≤ qP c.ks c.ls (c.bs.getD x.toNat (0,0,0)).1 ∧ qP c.ks c.ls (c.bs.getD x.toNat (0,0,0)).1 ≤ 1048576) := by
  have hx : x.toNat < c.bs.length := by omega
  have hb := h.f.b _ hx;have e : c.bs.getD x.toNat (0,0,0) = c.bs[x.toNat] := by rw [aD,aA hx];rfl
  rw [e];exact ⟨by omega,zE7 h.f hb.2.1⟩
theorem DK {c : Cx} {p q : List Int} {f : As} {s : Ev} {done : Int} (hc : iU c) (h : PQ c p q) (hf : wD c p q f) (hS : ∀ b : Int, 0 ≤ b → b < c.bs.length → MP (f b).2)
    (ha : 0 ≤ s.a ∧ s.a < c.bs.length) (hb : s.k = 4 → s.a < s.b ∧ s.b < c.bs.length) (hn : s.k = 1 ∨ s.k = 2 → 0 ≤ s.n ∧ s.n ≤ 1099511627776) (hag : zC3 c p q s = true) (hcan : zP c p q s done = true) :
    ∃ f',D0 c s f f' (rK c p s) ∧ wD c (uU p s done) (tS p q s done) f' := by
  have hpl := h.pl;have hql := h.ql;by_cases hsw : s.k = 4 ∧ done = 1
  · refine ⟨HX f s.a s.b,.inr ⟨hsw.1,rfl,by unfold rK zR9;rw [if_neg (by omega)]⟩,fun b b0 b1 => ?_⟩
    have hb := hb hsw.1;have eq : tS p q s done = q := by unfold tS;rw [if_neg (by omega)]
    rw [eq];have ep : (uU p s done).getD b.toNat 0 = if b = s.a then p.getD s.b.toNat 0 else if b = s.b then p.getD s.a.toNat 0 else p.getD b.toNat 0 := by
      unfold uU;rw [if_pos hsw,zI (by simp;omega),zI (by omega)]
      by_cases e1 : b = s.a
      · rw [if_pos e1,if_neg (by omega),if_pos (by omega)]
      · rw [if_neg e1];by_cases e2 : b = s.b
        · rw [if_pos e2,if_pos (by omega)]
        · rw [if_neg e2,if_neg (by omega),if_neg (by omega)]
    have h1 := hf s.a ha.1 ha.2;have h2 := hf s.b (by omega) hb.2
    have h3 := hf b b0 b1;unfold RK HX at *;rw [ep];by_cases e1 : b = s.a
    · rw [if_pos e1,if_pos e1];exact h2
    · rw [if_neg e1,if_neg e1];by_cases e2 : b = s.b
      · rw [if_pos e2,if_pos e2];exact h1
      · rw [if_neg e2,if_neg e2];exact h3
  · have ep : uU p s done = p := by unfold uU;rw [if_neg hsw]
    rw [ep];obtain ⟨i0,i1⟩ := h.at ha.1 ha.2;obtain ⟨q0,q1⟩ := h.ct i0 i1;obtain ⟨o1,o2⟩ := hf s.a ha.1 ha.2;obtain ⟨hbx,hu⟩ := hc.box i0 i1;have hsa := hS s.a ha.1 ha.2;have key : (wL c s (f s.a)).2.2 = true ∧ vQ (wL c s (f s.a)).1.2.1 (wL c s (f s.a)).1.2.2 ((tS p q s done).getD (p.getD s.a.toNat 0).toNat 0) = true := by
      by_cases k2 : s.k = 2
      · have hr := zO k2 hcan;have e : (tS p q s done).getD (p.getD s.a.toNat 0).toNat 0 = q.getD (p.getD s.a.toNat 0).toNat 0 - done := by
          unfold tS;rw [if_pos k2,zI (by omega),if_pos rfl]
        rw [e];refine (LR ⟨hsa.1,hsa.2.1,hsa.2.2⟩ hc.s (hn (.inr k2)) (by omega) (by omega) k2).2 ⟨_,done,o2,?_,by omega,by omega,by omega,by omega,rfl⟩
        unfold zC3 UQ at hag;rw [if_neg (by omega),if_neg (by omega),if_pos k2,decide_eq_true_eq] at hag
        exact hag
      · have e : tS p q s done = q := by unfold tS;rw [if_neg k2]
        rw [e];have o1' : (f s.a).1 = p.getD s.a.toNat 0 := o1;refine (RA (by rw [o1'];exact hbx) (by rw [o1'];exact hu) hc.s (fun k => hn (.inl k)) q0 q1 k2).2 ⟨o2,?_⟩
        rw [o1'];exact hag
    refine ⟨upd f s.a (wL c s (f s.a)).1,.inl ⟨key.1,rfl,?_⟩,fun b b0 b1 => ?_⟩
    · rw [LS key.1,show (f s.a).1 = p.getD s.a.toNat 0 from o1];rfl
    · have h3 := hf b b0 b1;unfold RK upd at *;by_cases e1 : b = s.a
      · rw [if_pos e1,HF,e1];exact ⟨o1,key.2⟩
      · rw [if_neg e1];refine ⟨h3.1,?_⟩;have hne : (p.getD b.toNat 0).toNat ≠ (p.getD s.a.toNat 0).toNat := fun e => by
          obtain ⟨j0,j1⟩ := h.at b0 b1;exact e1 (h.inj b0 b1 ha.1 ha.2 (by omega))
        have e : (tS p q s done).getD (p.getD b.toNat 0).toNat 0 = q.getD (p.getD b.toNat 0).toNat 0 := by
          unfold tS;split
          · rw [zI (by omega),if_neg hne]
          · rfl
        rw [e];exact h3.2
theorem SL {c : Cx} {p' q' : List Int} {f f' : As} {s : Ev} {d : Int} (hc : iU c) (h : PQ c p' q') (hst : D0 c s f f' d) (hf : wD c p' q' f') (hS : ∀ b : Int, 0 ≤ b → b < c.bs.length → MP (f b).2)
    (ha : 0 ≤ s.a ∧ s.a < c.bs.length) (hb : s.k = 4 → s.a < s.b ∧ s.b < c.bs.length) (hn : s.k = 1 ∨ s.k = 2 → 0 ≤ s.n ∧ s.n ≤ 1099511627776) :
    ∃ p q done,PQ c p q ∧ wD c p q f ∧ zC3 c p q s = true ∧ zP c p q s done = true ∧ d = rK c p s ∧ p' = uU p s done ∧ q' = tS p q s done := by
  have hpl := h.pl;have hql := h.ql;rcases hst with ⟨hok,rfl,rfl⟩ | ⟨hk,rfl,rfl⟩
  · obtain ⟨i0,i1⟩ := h.at ha.1 ha.2;obtain ⟨q0,q1⟩ := h.ct i0 i1;obtain ⟨hbx,hu⟩ := hc.box i0 i1;obtain ⟨o1,o2⟩ := hf s.a ha.1 ha.2;have hsa := hS s.a ha.1 ha.2;unfold upd at o1 o2;rw [if_pos rfl] at o1 o2;rw [HF] at o1;have hm : (wL c s (f s.a)).2.1 = rK c p' s := by rw [LS hok,o1];rfl
    by_cases k2 : s.k = 2
    · obtain ⟨u,dn,a1,a2,a3,a4,a5,a6,a7⟩ := (LR ⟨hsa.1,hsa.2.1,hsa.2.2⟩ hc.s (hn (.inr k2)) q0 q1 k2).1 ⟨hok,o2⟩;have hu2 := nI.1 a1;have hgx : (q'.set (p'.getD s.a.toNat 0).toNat u).getD (p'.getD s.a.toNat 0).toNat 0 = u := by rw [zI (by omega),if_pos rfl]
      refine ⟨p',q'.set (p'.getD s.a.toNat 0).toNat u,dn,⟨hpl,by simpa using hql,h.pp,fun x hx => ?_⟩,fun b b0 b1 => ?_,?_,?_,hm,?_,?_⟩
      · rcases fT hx with hx | rfl
        · exact h.q0 x hx
        · have := hsa.2.2;have := hsa.1;omega
      · have h3 := hf b b0 b1;unfold RK upd at *;by_cases e1 : b = s.a
        · subst e1;rw [hgx];exact ⟨o1,a1⟩
        · rw [if_neg e1] at h3;refine ⟨h3.1,?_⟩;rw [zI (by omega),if_neg]
          · exact h3.2
          · intro e;obtain ⟨j0,j1⟩ := h.at b0 b1;exact e1 (h.inj b0 b1 ha.1 ha.2 (by omega))
      · unfold zC3 UQ;rw [if_neg (by omega),if_neg (by omega),if_pos k2,hgx,decide_eq_true_eq];exact a2
      · unfold zP UO iW;rw [if_pos k2,hgx];simp only [aK,decide_eq_true_eq];omega
      · unfold uU;rw [if_neg (by omega)]
      · unfold tS;rw [if_pos k2,hgx,List.set_set,← a7];exact (IY _ (by omega)).symm
    · have hx := (RA (c := c) (s := s) (x := f s.a) (by rw [o1];exact hbx) (by rw [o1];exact hu) hc.s (fun k => hn (.inl k)) q0 q1 k2).1 ⟨hok,o2⟩
      refine ⟨p',q',0,h,fun b b0 b1 => ?_,?_,?_,hm,?_,?_⟩
      · have h3 := hf b b0 b1;unfold RK upd at *;by_cases e1 : b = s.a
        · subst e1;exact ⟨o1,hx.1⟩
        · rw [if_neg e1] at h3;exact h3
      · have := hx.2;rw [o1] at this;exact this
      · unfold zP UO;rw [if_neg k2];split <;> rfl
      · unfold uU;rw [if_neg (by omega)]
      · unfold tS;rw [if_neg k2]
  · have hb := hb hk;have hag : ∀ p q,zC3 c p q s = true := fun p q => by unfold zC3 UQ;rw [if_neg (by omega),if_neg (by omega),if_neg (by omega),if_neg (by omega),if_neg (by omega)]
    have hp1 : ((p'.set s.a.toNat (p'.getD s.b.toNat 0)).set s.b.toNat (p'.getD s.a.toNat 0)).Perm p' := DD (by omega) (by omega) (by omega)
    have g : ∀ b : Int,0 ≤ b → b < c.bs.length → ((p'.set s.a.toNat (p'.getD s.b.toNat 0)).set s.b.toNat (p'.getD s.a.toNat 0)).getD b.toNat 0 = if b = s.a then p'.getD s.b.toNat 0 else if b = s.b then p'.getD s.a.toNat 0 else p'.getD b.toNat 0 := fun b b0 b1 => by
      rw [zI (by simp;omega),zI (by omega)]
      by_cases e1 : b = s.a
      · rw [if_pos e1,if_neg (by omega),if_pos (by omega)]
      · rw [if_neg e1];by_cases e2 : b = s.b
        · rw [if_pos e2,if_pos (by omega)]
        · rw [if_neg e2,if_neg (by omega),if_neg (by omega)]
    refine ⟨(p'.set s.a.toNat (p'.getD s.b.toNat 0)).set s.b.toNat (p'.getD s.a.toNat 0),q',1,⟨by simpa using hpl,hql,hp1.trans h.pp,h.q0⟩,fun b b0 b1 => ?_,hag _ _,?_,?_,?_,?_⟩
    · have h1 := hf s.a ha.1 ha.2;have h2 := hf s.b (by omega) hb.2
      have h3 := hf b b0 b1;unfold RK HX at *;rw [g b b0 b1];rw [if_pos rfl] at h1;rw [if_neg (by omega),if_pos rfl] at h2
      by_cases e1 : b = s.a
      · subst e1;rw [if_pos rfl];exact h2
      · rw [if_neg e1] at h3 ⊢;by_cases e2 : b = s.b
        · subst e2;rw [if_pos rfl];exact h1
        · rw [if_neg e2] at h3 ⊢;exact h3
    · unfold zP UO;rw [if_neg (by omega),if_pos hk];rfl
    · unfold rK zR9;rw [if_neg (by omega)]
    · unfold uU;rw [if_pos ⟨hk,rfl⟩,g s.a ha.1 ha.2,g s.b (by omega) hb.2,if_pos rfl,if_neg (by omega),if_pos rfl]
      refine lC (by simp) fun i h1 h2 => ?_
      simp only [List.getElem_set];have ea : p'.getD s.a.toNat 0 = p'[s.a.toNat]'(by omega) := by simp [List.getD,show s.a.toNat < p'.length by omega]
      have eb : p'.getD s.b.toNat 0 = p'[s.b.toNat]'(by omega) := by simp [List.getD,show s.b.toNat < p'.length by omega]
      split
      · rename_i h;subst h;exact eb.symm ▸ rfl
      · split
        · rename_i h;subst h;exact ea.symm ▸ rfl
        · rfl
    · unfold tS;rw [if_neg (by omega)]
end Go.Ld
