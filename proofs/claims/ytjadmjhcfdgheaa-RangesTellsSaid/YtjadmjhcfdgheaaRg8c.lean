/-
  RangesTells: every function returns what the reference returns.
-/
import Derived.Test.YtjadmjhcfdgheaaRg8a
import Derived.Test.YtjadmjhcfdgheaaRg8b
namespace Go.Proofs.Ytjadmjhcfdgheaa
open Go Go.Ab
set_option linter.unusedVariables false
set_option linter.unusedSimpArgs false
attribute [local irreducible] VC AW FStep ACall IntStruct BoolT
set_option maxHeartbeats 4000000

theorem weighed_both (t u w e : Int) : ∃ f1 t1 o1, ACall Try.prog 13 [.i t, .i u, .i w, .i e] [] (.tup [spanA f1 t1, .b o1]) [] ∧ ACall Try.prog 19 [.i t, .i u, .i w, .i e] [] (.tup [spanA f1 t1, .b o1]) [] := by
  by_cases h : fit4 t u w e
  · have h' := h
    unfold fit4 at h'
    by_cases h1 : w + e - t < 0 ∨ u = 0 ∧ 0 < w - e - t
    · exact ⟨_, _, _, weighed_out t u w e h h1, refweighed_out t u w e h h1⟩
    · by_cases h2 : u = 0
      · exact ⟨_, _, _, weighed_all t u w e h (by omega) h2 (by omega), refweighed_all t u w e h (by omega) h2 (by omega)⟩
      · exact ⟨_, _, _, weighed_in t u w e h (by omega) (by omega), refweighed_in t u w e h (by omega) (by omega)⟩
  · exact ⟨_, _, _, weighed_no t u w e h, refweighed_no t u w e h⟩
theorem tells_c (a b c d n slip w e : Int) (l : List (Int × Int)) (hl : l.length ≤ 9223372036854775807) : ACall Try.prog 7 [spanA a b, spanA c d, .i n, .i slip, .i w, .i e, .rowE (spans l) 2] [] (.b true) [] := by
  obtain ⟨f1, t1, o1, w1, w2⟩ := weighed_both n slip w e
  cases h : fewB [(a, b), (c, d)] 2
  · exact tells_no a b c d n slip w e f1 t1 o1 l hl (.inl h) w1 w2
  · cases h' : fewB l 50
    · exact tells_no a b c d n slip w e f1 t1 o1 l hl (.inr ⟨h, h'⟩) w1 w2
    · have g : (0 ≤ a ∧ a < b ∧ b ≤ 20001) ∧ (0 ≤ c ∧ c < d ∧ d ≤ 20001) := by
        simp [fewB, rightL, rightB] at h
        omega
      have gl : l.length ≤ 50 ∧ rightL l = true := by
        simp only [fewB, Bool.and_eq_true, decide_eq_true_eq] at h'
        refine ⟨h'.2, ?_⟩
        rw [List.take_of_length_le (by omega)] at h'
        exact h'.1
      have hs : ∃ f3 t3 o3, ACall Try.prog 17 [spanA a b, .i n] [] (.tup [spanA f3 t3, .b o3]) [] ∧ ACall Try.prog 24 [spanA a b, .i n] [] (.tup [spanA f3 t3, .b o3]) [] := by
        by_cases hn : n < -20000 ∨ 20000 < n
        · exact ⟨_, _, _, shift_out a b n hn, refshift_out a b n hn⟩
        · exact ⟨_, _, _, shift_in a b n (by omega) (by omega) (by omega), refshift_in a b n (by omega) (by omega) (by omega)⟩
      obtain ⟨f3, t3, o3, s1, s2⟩ := hs
      by_cases hn : 0 ≤ n ∧ n ≤ 1099511627776 ∧ 0 ≤ slip ∧ slip ≤ 1099511627776
      · exact tells_yes a b c d n slip w e f1 t1 _ _ f3 t3 _ _ _ _ o1 _ o3 _ _ l h h' w1 w2 (inter_c a b c d) (refinter_c a b c d (by omega)) s1 s2 (taken_in a b n slip hn) (reftaken_in a b n slip (by omega) hn) (picked_in a b n slip (by omega) hn) (refpicked_in a b n slip (by omega) hn) gl.1 gl.2
      · exact tells_yes a b c d n slip w e f1 t1 _ _ f3 t3 _ _ _ _ o1 _ o3 _ _ l h h' w1 w2 (inter_c a b c d) (refinter_c a b c d (by omega)) s1 s2 (taken_out a b n slip hn) (reftaken_out a b n slip hn) (picked_out a b n slip hn) (refpicked_out a b n slip hn) gl.1 gl.2
end Go.Proofs.Ytjadmjhcfdgheaa
