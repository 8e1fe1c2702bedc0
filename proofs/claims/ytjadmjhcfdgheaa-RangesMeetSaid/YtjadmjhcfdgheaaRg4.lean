/-
  The laws of layer 38: the examples, and what is weighed.
-/
import Derived.Test.YtjadmjhcfdgheaaRg1
import Derived.Test.YtjadmjhcfdgheaaRg2
import Derived.Test.YtjadmjhcfdgheaaRg3
import Derived.Test.YtjadmjhcfdgheaaAb16
namespace Go.Proofs.Ytjadmjhcfdgheaa
open Go Go.Ab
set_option linter.unusedVariables false
set_option linter.unusedSimpArgs false
attribute [local irreducible] VC AW FStep ACall IntStruct BoolT

theorem spanT : IntStruct Try.prog 23 2 := by unfold IntStruct; kernel_rfl
theorem boolT : BoolT Try.prog 4 := by unfold BoolT; kernel_rfl

theorem weighed_ex : ACall Try.prog 13 [.i 100, .i 30, .i 195, .i 10] [] (.tup [spanA 3 4, .b true]) [] := by
  have h := weighed_in 100 30 195 10 (by unfold fit4; omega) (by omega) (by omega)
  rwa [show cutF (wgF 100 30 195 10) (wgT 100 30 195 10) = 3 from by decide, show cutT (wgF 100 30 195 10) (wgT 100 30 195 10) = 4 from by decide, show cutOk (wgF 100 30 195 10) (wgT 100 30 195 10) = true from by decide] at h
theorem picked_ex : ACall Try.prog 11 [spanA 5 8, .i 3, .i 1] [] (.tup [spanA 1 6, .b true]) [] := picked_in 5 8 3 1 (by omega) (by omega)
theorem taken_ex : ACall Try.prog 10 [spanA 2 4, .i 5, .i 1] [] (.tup [spanA 0 0, .b false]) [] := taken_in 2 4 5 1 (by omega)
theorem shift_ex : ACall Try.prog 17 [spanA 0 3, .i (-1)] [] (.tup [spanA 0 2, .b true]) [] := shift_in 0 3 (-1) (by omega) (by omega) (by omega)
theorem small_c : ACall Try.prog 8 [] [] (.b true) [] := by
  refine acall T Try.func8 rfl rfl rfl rfl ?_
  repeat' (first | (first | (refine aw_region ?_) | (refine aw_seq ?_) | (refine aw_block ?_) | (refine aw_skip ?_) | (refine aw_ret ?_) | (refine aw_exit ?_)) | (first | (refine vc_v (by first | exact fs_move rfl | exact fs_assign rfl | exact fs_fieldAddr T rfl rfl rfl | exact fs_load T rfl rfl rfl rfl | exact fs_pickt rfl rfl | exact fs_pickf rfl rfl | exact fs_addr rfl rfl (by omega) (by omega) | exact fs_subr rfl rfl (by omega) (by omega) | exact fs_mulr rfl rfl (by omega) (by omega) | exact fs_add rfl rfl | exact fs_sub rfl rfl | exact fs_quor rfl rfl (by omega) (by omega) (by omega) | exact fs_remr rfl rfl (by omega) (by omega) | exact fs_lss rfl rfl | exact fs_leq rfl rfl | exact fs_gtr rfl rfl | exact fs_geq rfl rfl | exact fs_eql rfl rfl | exact fs_neq rfl rfl | exact fs_not rfl | exact fs_negr rfl (by omega) (by omega) | exact fs_neg rfl | exact fs_extract rfl rfl | exact fs_max rfl rfl | exact fs_min rfl rfl | exact fs_build T rfl rfl rfl rfl | exact fs_lenOwn T rfl rfl | exact fs_lenRow T rfl rfl | exact fs_lenNil T rfl rfl | exact fs_eql2 spanT rfl rfl | exact fs_neq2 spanT rfl rfl | exact fs_eqlB boolT rfl rfl | exact fs_neqB boolT rfl rfl | exact fs_call0 rfl rfl (weighed_ex) rfl rfl rfl | exact fs_call0 rfl rfl (picked_ex) rfl rfl rfl | exact fs_call0 rfl rfl (taken_ex) rfl rfl rfl | exact fs_call0 rfl rfl (shift_ex) rfl rfl rfl) rfl ?_) | (refine vc_store T rfl rfl rfl rfl rfl rfl (by decide) rfl ?_) | (refine vc_nil ?_) | (refine vc_gt rfl rfl ?_ rfl) | (refine vc_gf rfl rfl ?_ rfl) | (refine vc_gu rfl rfl ?_ rfl) | (refine vc_guard rfl rfl (fun hb => ?_) (fun hb => ?_) rfl <;> (rw [hb]; (try simp only [decide_eq_true_eq, decide_eq_false_iff_not, Bool.not_true, Bool.not_false, Bool.not_eq_true', Bool.not_eq_false', Bool.and_eq_true, Bool.or_eq_true, Bool.and_eq_false_iff, Bool.or_eq_false_iff, Int.not_lt, Int.not_le, Int.le_min, Int.lt_min, Int.max_le, Int.max_lt] at hb))) | (refine vc_n (by first | exact fs_alloc T rfl | exact fs_box rfl rfl | exact fs_buildSlice T rfl rfl (by decide) (by decide) rfl rfl rfl) rfl ?_)) | (first | (refine aw_condt rfl ?_) | (refine aw_condf rfl ?_) | (refine aw_cond rfl (fun hb => ?_) (fun hb => ?_) <;> (try simp only [decide_eq_true_eq, decide_eq_false_iff_not, Bool.not_true, Bool.not_false, Bool.not_eq_true', Bool.not_eq_false', Bool.and_eq_true, Bool.or_eq_true, Bool.and_eq_false_iff, Bool.or_eq_false_iff, Int.not_lt, Int.not_le, Int.le_min, Int.lt_min, Int.max_le, Int.max_lt] at hb))))
  all_goals first | (exfalso; omega) | (refine ret_plain (.inl rfl) rfl (b_ret ?_); simp; done)

theorem wg_ge {l u n : Int} (hu : 0 < u) : (l + u - 1) / u ≤ n ↔ l ≤ n * u := by
  have h : (l + u - 1) / u < n + 1 ↔ l + u - 1 < (n + 1) * u := Int.ediv_lt_iff_lt_mul hu
  rw [Int.add_mul] at h
  omega
theorem wg_lt {l u n : Int} (hu : 0 < u) : n < l / u + 1 ↔ n * u ≤ l := by
  have h : n ≤ l / u ↔ n * u ≤ l := Int.le_ediv_iff_mul_le hu
  omega

end Go.Proofs.Ytjadmjhcfdgheaa
