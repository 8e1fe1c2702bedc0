/-
  RangesMeet: what Inter, Hull and Shift stand for.
-/
import Derived.Test.YtjadmjhcfdgheaaRg6a
import Derived.Test.YtjadmjhcfdgheaaRg6b
import Derived.Test.YtjadmjhcfdgheaaRg6c
namespace Go.Proofs.Ytjadmjhcfdgheaa
open Go Go.Ab
set_option linter.unusedVariables false
set_option linter.unusedSimpArgs false
attribute [local irreducible] VC AW FStep ACall IntStruct BoolT
set_option maxHeartbeats 4000000

theorem cut_right (f t : Int) : rightB (cutF f t) (cutT f t) = cutOk f t := by
  rcases cut_spec f t with ⟨h1, h2, h3, h4⟩ | ⟨h1, h2, h3, h4⟩ <;> rw [h1, h2, h3]
  · simp [rightB]; omega
  · rfl
theorem has_at {f t n : Int} {x : Bool} (h : hasB f t n = x) : ACall Try.prog 12 [spanA f t, .i n] [] (.b x) [] := h ▸ has_c f t n
theorem right_at' {f t : Int} {x : Bool} (h : rightB f t = x) : ACall Try.prog 14 [spanA f t] [] (.b x) [] := h ▸ right_c f t

theorem meet_c (a b c d n m : Int) : ACall Try.prog 5 [spanA a b, spanA c d, .i n, .i m] [] (.b true) [] := by
  cases h : fewB [(a, b), (c, d)] 2
  · exact meet_no a b c d n m h
  · obtain ⟨g1, g2⟩ := few2 h
    have h0 : cutOk (max a c) (min b d) = true ∨ cutOk (max a c) (min b d) = false ∧ cutF (max a c) (min b d) = 0 ∧ cutT (max a c) (min b d) = 0 := by
      rcases cut_spec (max a c) (min b d) with ⟨h1, h2, h3, h4⟩ | ⟨h1, h2, h3, h4⟩
      · exact .inl h1
      · exact .inr ⟨h1, h2, h3⟩
    have e1 : hasB (cutF (max a c) (min b d)) (cutT (max a c) (min b d)) n = (hasB a b n && hasB c d n) := by
      rw [Bool.eq_iff_iff]
      rcases cut_spec (max a c) (min b d) with ⟨h1, h2, h3, h4⟩ | ⟨h1, h2, h3, h4⟩ <;> (rw [h2, h3]; simp [hasB]; omega)
    have e4 : hasB (min a c) (max b d) n = (hasB a b n || (hasB c d n || hasB (min a c) (max b d) n)) := by rw [Bool.eq_iff_iff]; simp [hasB]; omega
    have e5 : hasB c d (min a c) = (!hasB a b (min a c) || hasB c d (min a c)) := by rw [Bool.eq_iff_iff]; simp [hasB]; omega
    have e6 : hasB c d (max b d - 1) = (!hasB a b (max b d - 1) || hasB c d (max b d - 1)) := by rw [Bool.eq_iff_iff]; simp [hasB]; omega
    have e3 : rightB (min a c) (max b d) = true := by simp [rightB]; omega
    by_cases hm : m < -20000 ∨ 20000 < m
    · exact meet_far a b c d n m _ _ _ _ _ _ _ _ _ _ g1 g2 h (inter_c a b c d) h0 (has_at e1) (has_at rfl) (has_at rfl) (right_at' (cut_right _ _)) (has_at e4) (right_at' e3) (has_at rfl) (has_at e5) (has_at rfl) (has_at e6) hm
    · have k11 := shift_in a b m (by omega) (by omega) (by omega)
      by_cases hn : 0 ≤ n ∧ n ≤ 20000
      · have e7 : hasB (cutF (a + m) (b + m)) (cutT (a + m) (b + m)) n = hasB a b (n - m) := by
          rw [Bool.eq_iff_iff]
          rcases cut_spec (a + m) (b + m) with ⟨h1, h2, h3, h4⟩ | ⟨h1, h2, h3, h4⟩ <;> (rw [h2, h3]; simp [hasB]; omega)
        exact meet_in a b c d n m _ _ _ _ _ _ _ _ _ _ g1 g2 h (inter_c a b c d) h0 (has_at e1) (has_at rfl) (has_at rfl) (right_at' (cut_right _ _)) (has_at e4) (right_at' e3) (has_at rfl) (has_at e5) (has_at rfl) (has_at e6) _ _ _ _ (by omega) hn k11 (right_at' (cut_right _ _)) (has_at e7) (has_at rfl)
      · exact meet_out a b c d n m _ _ _ _ _ _ _ _ _ _ g1 g2 h (inter_c a b c d) h0 (has_at e1) (has_at rfl) (has_at rfl) (right_at' (cut_right _ _)) (has_at e4) (right_at' e3) (has_at rfl) (has_at e5) (has_at rfl) (has_at e6) _ _ _ (by omega) (by omega) k11 (right_at' (cut_right _ _))
end Go.Proofs.Ytjadmjhcfdgheaa
