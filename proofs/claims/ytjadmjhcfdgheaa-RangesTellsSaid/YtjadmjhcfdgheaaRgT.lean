import Derived.Test.YtjadmjhcfdgheaaRg0
namespace Go.Proofs.Ytjadmjhcfdgheaa
open Go Go.Ab
set_option linter.unusedVariables false
set_option linter.unusedSimpArgs false
attribute [local irreducible] VC AW FStep ACall


theorem weighed_out (t u w e : Int) (h : fit4 t u w e) (h1 : w + e - t < 0 ∨ u = 0 ∧ 0 < w - e - t) : ACall Try.prog 13 [.i t, .i u, .i w, .i e] [] (.tup [spanA 0 0, .b false]) [] := by
  have h' := h
  unfold fit4 at h'
  refine acall T Try.func13 rfl rfl rfl rfl ?_
  repeat' (first | (first | (refine aw_region ?_) | (refine aw_seq ?_) | (refine aw_block ?_) | (refine aw_skip ?_) | (refine aw_ret ?_) | (refine aw_exit ?_)) | (first | (refine vc_v (by first | exact fs_move rfl | exact fs_assign rfl | exact fs_fieldAddr T rfl rfl rfl | exact fs_load T rfl rfl rfl rfl | exact fs_pickt rfl rfl | exact fs_pickf rfl rfl | exact fs_addr rfl rfl (by omega) (by omega) | exact fs_subr rfl rfl (by omega) (by omega) | exact fs_mulr rfl rfl (by omega) (by omega) | exact fs_add rfl rfl | exact fs_sub rfl rfl | exact fs_quor rfl rfl (by omega) (by omega) (by omega) | exact fs_remr rfl rfl (by omega) (by omega) | exact fs_lss rfl rfl | exact fs_leq rfl rfl | exact fs_gtr rfl rfl | exact fs_geq rfl rfl | exact fs_eql rfl rfl | exact fs_neq rfl rfl | exact fs_not rfl | exact fs_negr rfl (by omega) (by omega) | exact fs_neg rfl | exact fs_extract rfl rfl | exact fs_max rfl rfl | exact fs_min rfl rfl | exact fs_build T rfl rfl rfl rfl | exact fs_lenOwn T rfl rfl | exact fs_lenRow T rfl rfl | exact fs_lenNil T rfl rfl | exact fs_callb0 rfl rfl (fits_t4 h) (by repeat (first | exact .nil | exact .v _ | exact .row _ _ _ | exact .nils _ | refine .cons ?_ ?_ | refine .agg ?_ | refine .sl rfl (by simp) ?_)) rfl rfl) rfl ?_) | (refine vc_store T rfl rfl rfl rfl rfl rfl (by decide) rfl ?_) | (refine vc_nil ?_) | (refine vc_gt rfl rfl ?_ rfl) | (refine vc_gf rfl rfl ?_ rfl) | (refine vc_gu rfl rfl ?_ rfl) | (refine vc_guard rfl rfl (fun hb => ?_) (fun hb => ?_) rfl <;> (rw [hb]; (try simp only [decide_eq_true_eq, decide_eq_false_iff_not, Bool.not_true, Bool.not_false, Bool.not_eq_true', Bool.not_eq_false', Bool.and_eq_true, Bool.or_eq_true, Bool.and_eq_false_iff, Bool.or_eq_false_iff, Int.not_lt, Int.not_le, Int.le_min, Int.lt_min, Int.max_le, Int.max_lt] at hb))) | (refine vc_n (by first | exact fs_alloc T rfl | exact fs_box rfl rfl | exact fs_buildSlice T rfl rfl (by decide) (by decide) rfl rfl rfl) rfl ?_)) | (first | (refine aw_condt rfl ?_) | (refine aw_condf rfl ?_) | (refine aw_cond rfl (fun hb => ?_) (fun hb => ?_) <;> (try simp only [decide_eq_true_eq, decide_eq_false_iff_not, Bool.not_true, Bool.not_false, Bool.not_eq_true', Bool.not_eq_false', Bool.and_eq_true, Bool.or_eq_true, Bool.and_eq_false_iff, Bool.or_eq_false_iff, Int.not_lt, Int.not_le, Int.le_min, Int.lt_min, Int.max_le, Int.max_lt] at hb))))
  all_goals first | (exfalso; omega) | exact ret_plain (.inl rfl) rfl rfl | skip
end Go.Proofs.Ytjadmjhcfdgheaa
