/-
  RangesWeigh: a count is in what Weighed says exactly if its weight differs by at most the slack.
-/
import Derived.Test.YtjadmjhcfdgheaaRg4
namespace Go.Proofs.Ytjadmjhcfdgheaa
open Go Go.Ab
set_option linter.unusedVariables false
set_option linter.unusedSimpArgs false
attribute [local irreducible] VC AW FStep ACall IntStruct BoolT
set_option maxHeartbeats 4000000

theorem weigh_no (t u w e n : Int) (h : ¬ fit4 t u w e) : ACall Try.prog 4 [.i t, .i u, .i w, .i e, .i n] [] (.b true) [] := by
  have h' := h
  unfold fit4 at h'
  refine acall T Try.func4 rfl rfl rfl rfl ?_
  repeat' (first | (first | (refine aw_region ?_) | (refine aw_seq ?_) | (refine aw_block ?_) | (refine aw_skip ?_) | (refine aw_ret ?_) | (refine aw_exit ?_)) | (first | (refine vc_v (by first | exact fs_move rfl | exact fs_assign rfl | exact fs_fieldAddr T rfl rfl rfl | exact fs_load T rfl rfl rfl rfl | exact fs_pickt rfl rfl | exact fs_pickf rfl rfl | exact fs_addr rfl rfl (by omega) (by omega) | exact fs_subr rfl rfl (by omega) (by omega) | exact fs_mulr rfl rfl (by omega) (by omega) | exact fs_add rfl rfl | exact fs_sub rfl rfl | exact fs_quor rfl rfl (by omega) (by omega) (by omega) | exact fs_remr rfl rfl (by omega) (by omega) | exact fs_lss rfl rfl | exact fs_leq rfl rfl | exact fs_gtr rfl rfl | exact fs_geq rfl rfl | exact fs_eql rfl rfl | exact fs_neq rfl rfl | exact fs_not rfl | exact fs_negr rfl (by omega) (by omega) | exact fs_neg rfl | exact fs_extract rfl rfl | exact fs_max rfl rfl | exact fs_min rfl rfl | exact fs_build T rfl rfl rfl rfl | exact fs_lenOwn T rfl rfl | exact fs_lenRow T rfl rfl | exact fs_lenNil T rfl rfl | exact fs_eql2 spanT rfl rfl | exact fs_neq2 spanT rfl rfl | exact fs_eqlB boolT rfl rfl | exact fs_neqB boolT rfl rfl | exact fs_call0 rfl rfl (small_c) rfl rfl rfl | exact fs_call0 rfl rfl (weighed_no t u w e h) rfl rfl rfl | exact fs_call0 rfl rfl (right_c _ _) rfl rfl rfl | exact fs_call0 rfl rfl (has_c _ _ _) rfl rfl rfl) rfl ?_) | (refine vc_store T rfl rfl rfl rfl rfl rfl (by decide) rfl ?_) | (refine vc_nil ?_) | (refine vc_gt rfl rfl ?_ rfl) | (refine vc_gf rfl rfl ?_ rfl) | (refine vc_gu rfl rfl ?_ rfl) | (refine vc_guard rfl rfl (fun hb => ?_) (fun hb => ?_) rfl <;> (rw [hb]; (try simp only [decide_eq_true_eq, decide_eq_false_iff_not, Bool.not_true, Bool.not_false, Bool.not_eq_true', Bool.not_eq_false', Bool.and_eq_true, Bool.or_eq_true, Bool.and_eq_false_iff, Bool.or_eq_false_iff, Int.not_lt, Int.not_le, Int.le_min, Int.lt_min, Int.max_le, Int.max_lt] at hb); try ((exfalso; omega); done))) | (refine vc_n (by first | exact fs_alloc T rfl | exact fs_box rfl rfl | exact fs_buildSlice T rfl rfl (by decide) (by decide) rfl rfl rfl) rfl ?_)) | (first | (refine aw_condt rfl ?_) | (refine aw_condf rfl ?_) | (refine aw_cond rfl (fun hb => ?_) (fun hb => ?_) <;> ((try simp only [decide_eq_true_eq, decide_eq_false_iff_not, Bool.not_true, Bool.not_false, Bool.not_eq_true', Bool.not_eq_false', Bool.and_eq_true, Bool.or_eq_true, Bool.and_eq_false_iff, Bool.or_eq_false_iff, Int.not_lt, Int.not_le, Int.le_min, Int.lt_min, Int.max_le, Int.max_lt] at hb); try ((exfalso; omega); done)))))
  all_goals first | (exfalso; omega) | (refine ret_plain (.inl rfl) rfl (b_ret ?_); simp; done)

theorem weigh_yes (t u w e n F T' : Int) (ok : Bool) (h : fit4 t u w e) (hc : ACall Try.prog 13 [.i t, .i u, .i w, .i e] [] (.tup [spanA F T', .b ok]) [])
    (h0 : (ok = true ∧ 0 ≤ F ∧ F < T' ∧ T' ≤ 20001) ∨ (ok = false ∧ F = 0 ∧ T' = 0)) (hn : 0 ≤ n → n ≤ 20000 → (F ≤ n ∧ n < T' ↔ t + n * u - w ≤ e ∧ w - t - n * u ≤ e)) : ACall Try.prog 4 [.i t, .i u, .i w, .i e, .i n] [] (.b true) [] := by
  have h' := h
  unfold fit4 at h'
  have hr : rightB F T' = ok := by
    rcases h0 with ⟨rfl, h1, h2, h3⟩ | ⟨rfl, rfl, rfl⟩
    · simp [rightB]; omega
    · rfl
  have hrc := right_c F T'
  rw [hr] at hrc
  by_cases hnr : 0 ≤ n ∧ n ≤ 20000
  · have b1 : 0 ≤ n * u := Int.mul_nonneg hnr.1 h'.2.2.1
    have b2 : n * u ≤ 20000 * 1099511627776 := Int.le_trans (Int.mul_le_mul_of_nonneg_right hnr.2 h'.2.2.1) (by omega)
    have hn' := hn hnr.1 hnr.2
    have hh : hasB F T' n = (decide (t + n * u - w ≤ e) && decide (w - t - n * u ≤ e)) := by
      rw [Bool.eq_iff_iff]; simp only [hasB, Bool.and_eq_true, decide_eq_true_eq]; exact hn'
    have hhc := has_c F T' n
    rw [hh] at hhc
    rcases h0 with ⟨rfl, h1, h2, h3⟩ | ⟨rfl, rfl, rfl⟩
    all_goals
      refine acall T Try.func4 rfl rfl rfl rfl ?_
      repeat' (first | (first | (refine aw_region ?_) | (refine aw_seq ?_) | (refine aw_block ?_) | (refine aw_skip ?_) | (refine aw_ret ?_) | (refine aw_exit ?_)) | (first | (refine vc_v (by first | exact fs_move rfl | exact fs_assign rfl | exact fs_fieldAddr T rfl rfl rfl | exact fs_load T rfl rfl rfl rfl | exact fs_pickt rfl rfl | exact fs_pickf rfl rfl | exact fs_addr rfl rfl (by omega) (by omega) | exact fs_subr rfl rfl (by omega) (by omega) | exact fs_mulr rfl rfl (by omega) (by omega) | exact fs_add rfl rfl | exact fs_sub rfl rfl | exact fs_quor rfl rfl (by omega) (by omega) (by omega) | exact fs_remr rfl rfl (by omega) (by omega) | exact fs_lss rfl rfl | exact fs_leq rfl rfl | exact fs_gtr rfl rfl | exact fs_geq rfl rfl | exact fs_eql rfl rfl | exact fs_neq rfl rfl | exact fs_not rfl | exact fs_negr rfl (by omega) (by omega) | exact fs_neg rfl | exact fs_extract rfl rfl | exact fs_max rfl rfl | exact fs_min rfl rfl | exact fs_build T rfl rfl rfl rfl | exact fs_lenOwn T rfl rfl | exact fs_lenRow T rfl rfl | exact fs_lenNil T rfl rfl | exact fs_eql2 spanT rfl rfl | exact fs_neq2 spanT rfl rfl | exact fs_eqlB boolT rfl rfl | exact fs_neqB boolT rfl rfl | exact fs_call0 rfl rfl (small_c) rfl rfl rfl | exact fs_call0 rfl rfl (hc) rfl rfl rfl | exact fs_call0 rfl rfl (hrc) rfl rfl rfl | exact fs_call0 rfl rfl (hhc) rfl rfl rfl) rfl ?_) | (refine vc_store T rfl rfl rfl rfl rfl rfl (by decide) rfl ?_) | (refine vc_nil ?_) | (refine vc_gt rfl rfl ?_ rfl) | (refine vc_gf rfl rfl ?_ rfl) | (refine vc_gu rfl rfl ?_ rfl) | (refine vc_guard rfl rfl (fun hb => ?_) (fun hb => ?_) rfl <;> (rw [hb]; (try simp only [decide_eq_true_eq, decide_eq_false_iff_not, Bool.not_true, Bool.not_false, Bool.not_eq_true', Bool.not_eq_false', Bool.and_eq_true, Bool.or_eq_true, Bool.and_eq_false_iff, Bool.or_eq_false_iff, Int.not_lt, Int.not_le, Int.le_min, Int.lt_min, Int.max_le, Int.max_lt] at hb); try ((exfalso; omega); done))) | (refine vc_n (by first | exact fs_alloc T rfl | exact fs_box rfl rfl | exact fs_buildSlice T rfl rfl (by decide) (by decide) rfl rfl rfl) rfl ?_)) | (first | (refine aw_condt rfl ?_) | (refine aw_condf rfl ?_) | (refine aw_cond rfl (fun hb => ?_) (fun hb => ?_) <;> ((try simp only [decide_eq_true_eq, decide_eq_false_iff_not, Bool.not_true, Bool.not_false, Bool.not_eq_true', Bool.not_eq_false', Bool.and_eq_true, Bool.or_eq_true, Bool.and_eq_false_iff, Bool.or_eq_false_iff, Int.not_lt, Int.not_le, Int.le_min, Int.lt_min, Int.max_le, Int.max_lt] at hb); try ((exfalso; omega); done)))))
    all_goals first | (exfalso; omega) | (refine ret_plain (.inl rfl) rfl (b_ret ?_); simp; done) | (refine ret_plain (.inl rfl) rfl (b_ret ?_); simp; omega)
  · have hh : hasB F T' n = false := by
      rw [← Bool.not_eq_true]; simp only [hasB, Bool.and_eq_true, decide_eq_true_eq]; omega
    have hhc := has_c F T' n
    rw [hh] at hhc
    rcases h0 with ⟨rfl, h1, h2, h3⟩ | ⟨rfl, rfl, rfl⟩
    all_goals
      refine acall T Try.func4 rfl rfl rfl rfl ?_
      repeat' (first | (first | (refine aw_region ?_) | (refine aw_seq ?_) | (refine aw_block ?_) | (refine aw_skip ?_) | (refine aw_ret ?_) | (refine aw_exit ?_)) | (first | (refine vc_v (by first | exact fs_move rfl | exact fs_assign rfl | exact fs_fieldAddr T rfl rfl rfl | exact fs_load T rfl rfl rfl rfl | exact fs_pickt rfl rfl | exact fs_pickf rfl rfl | exact fs_addr rfl rfl (by omega) (by omega) | exact fs_subr rfl rfl (by omega) (by omega) | exact fs_mulr rfl rfl (by omega) (by omega) | exact fs_add rfl rfl | exact fs_sub rfl rfl | exact fs_quor rfl rfl (by omega) (by omega) (by omega) | exact fs_remr rfl rfl (by omega) (by omega) | exact fs_lss rfl rfl | exact fs_leq rfl rfl | exact fs_gtr rfl rfl | exact fs_geq rfl rfl | exact fs_eql rfl rfl | exact fs_neq rfl rfl | exact fs_not rfl | exact fs_negr rfl (by omega) (by omega) | exact fs_neg rfl | exact fs_extract rfl rfl | exact fs_max rfl rfl | exact fs_min rfl rfl | exact fs_build T rfl rfl rfl rfl | exact fs_lenOwn T rfl rfl | exact fs_lenRow T rfl rfl | exact fs_lenNil T rfl rfl | exact fs_eql2 spanT rfl rfl | exact fs_neq2 spanT rfl rfl | exact fs_eqlB boolT rfl rfl | exact fs_neqB boolT rfl rfl | exact fs_call0 rfl rfl (small_c) rfl rfl rfl | exact fs_call0 rfl rfl (hc) rfl rfl rfl | exact fs_call0 rfl rfl (hrc) rfl rfl rfl | exact fs_call0 rfl rfl (hhc) rfl rfl rfl) rfl ?_) | (refine vc_store T rfl rfl rfl rfl rfl rfl (by decide) rfl ?_) | (refine vc_nil ?_) | (refine vc_gt rfl rfl ?_ rfl) | (refine vc_gf rfl rfl ?_ rfl) | (refine vc_gu rfl rfl ?_ rfl) | (refine vc_guard rfl rfl (fun hb => ?_) (fun hb => ?_) rfl <;> (rw [hb]; (try simp only [decide_eq_true_eq, decide_eq_false_iff_not, Bool.not_true, Bool.not_false, Bool.not_eq_true', Bool.not_eq_false', Bool.and_eq_true, Bool.or_eq_true, Bool.and_eq_false_iff, Bool.or_eq_false_iff, Int.not_lt, Int.not_le, Int.le_min, Int.lt_min, Int.max_le, Int.max_lt] at hb); try ((exfalso; omega); done))) | (refine vc_n (by first | exact fs_alloc T rfl | exact fs_box rfl rfl | exact fs_buildSlice T rfl rfl (by decide) (by decide) rfl rfl rfl) rfl ?_)) | (first | (refine aw_condt rfl ?_) | (refine aw_condf rfl ?_) | (refine aw_cond rfl (fun hb => ?_) (fun hb => ?_) <;> ((try simp only [decide_eq_true_eq, decide_eq_false_iff_not, Bool.not_true, Bool.not_false, Bool.not_eq_true', Bool.not_eq_false', Bool.and_eq_true, Bool.or_eq_true, Bool.and_eq_false_iff, Bool.or_eq_false_iff, Int.not_lt, Int.not_le, Int.le_min, Int.lt_min, Int.max_le, Int.max_lt] at hb); try ((exfalso; omega); done)))))
    all_goals first | (exfalso; omega) | (refine ret_plain (.inl rfl) rfl (b_ret ?_); simp; done) | (refine ret_plain (.inl rfl) rfl (b_ret ?_); simp; omega)

theorem weigh_c (t u w e n : Int) : ACall Try.prog 4 [.i t, .i u, .i w, .i e, .i n] [] (.b true) [] := by
  by_cases h : fit4 t u w e
  · have h' := h
    unfold fit4 at h'
    by_cases h1 : w + e - t < 0 ∨ u = 0 ∧ 0 < w - e - t
    · refine weigh_yes t u w e n 0 0 false h (weighed_out t u w e h h1) (.inr ⟨rfl, rfl, rfl⟩) fun hn0 hn1 => ?_
      have b1 : 0 ≤ n * u := Int.mul_nonneg hn0 h'.2.2.1
      rcases h1 with h1 | ⟨rfl, h1⟩
      · omega
      · omega
    · by_cases h2 : u = 0
      · refine weigh_yes t u w e n 0 20001 true h (weighed_all t u w e h (by omega) h2 (by omega)) (.inl ⟨rfl, by omega, by omega, by omega⟩) fun hn0 hn1 => ?_
        subst h2
        omega
      · have hu : 0 < u := by omega
        have c := weighed_in t u w e h (by omega) hu
        have g1 : wgF t u w e ≤ n ↔ max (w - e - t) 0 ≤ n * u := wg_ge hu
        have g2 : n < wgT t u w e ↔ n * u ≤ w + e - t := wg_lt hu
        have b1 : 0 ≤ n → 0 ≤ n * u := fun hn => Int.mul_nonneg hn h'.2.2.1
        rcases cut_spec (wgF t u w e) (wgT t u w e) with ⟨k1, k2, k3, k4⟩ | ⟨k1, k2, k3, k4⟩
        · rw [k1, k2, k3] at c
          exact weigh_yes t u w e n _ _ true h c (.inl ⟨rfl, by omega, by omega, by omega⟩) fun hn0 hn1 => by have := b1 hn0; omega
        · rw [k1, k2, k3] at c
          exact weigh_yes t u w e n 0 0 false h c (.inr ⟨rfl, rfl, rfl⟩) fun hn0 hn1 => by have := b1 hn0; omega
  · exact weigh_no t u w e n h
end Go.Proofs.Ytjadmjhcfdgheaa
