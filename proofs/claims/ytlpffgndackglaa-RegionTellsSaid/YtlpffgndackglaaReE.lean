/-
  Layer 8: Of.
-/
import Derived.Test.YtlpffgndackglaaReD
namespace Go.Proofs.Ytlpffgndackglaa
open Go Go.Ab Go.Fl Go.Re
set_option linter.unusedVariables false
set_option linter.unusedSimpArgs false
attribute [local irreducible] VC AW FStep ACall
set_option maxHeartbeats 4000000
theorem ints_rf (l : List Int) : AV.rfL (ints l).flatten = true := by
  induction l with
  | nil => rfl
  | cons c l ih => exact ih
theorem ints_map (θ : Nat → Nat) (l : List Int) : (ints l).map (AV.mapL θ) = ints l := by
  rw [List.map_map]; rfl
def noCell (a : Int) : Bool := !decide (0 ≤ a ∧ a < 4096)
theorem ofel_c (a : Int) : ACall Try.prog 48 [.i a] [] (.b (noCell a)) [] := by
  have h := iscell_c a
  refine acall T Try.func48 rfl rfl rfl rfl ?_
  repeat' (first | (first | (refine aw_seq ?_) | (refine aw_block ?_) | (refine aw_skip ?_) | (refine aw_ret ?_) | (refine aw_exit ?_)) | (first | (refine aw_condt rfl ?_) | (refine aw_condf rfl ?_) | (refine aw_cond rfl (fun hb => ?_) (fun hb => ?_) <;> (first | subst hb | ((try simp only [nm] at hb); try ((exfalso; omega); done))))) | (((refine aw_region (id := 0) ?_)); (all_goals (refine va rfl rfl ?_))) | (((refine aw_region (id := 1) ?_)); (all_goals (refine vm rfl rfl ?_)); (all_goals (refine vc_v (by exact fs_call0 rfl rfl (h) rfl rfl rfl) rfl ?_)); (all_goals (refine vc_v (by exact fs_not rfl) rfl ?_)); (all_goals (refine va rfl rfl ?_))) | (refine vc_nilp (by (first | (dsimp only [List.nil_append, List.cons_append, List.append_nil, List.length_cons, List.length_nil, List.set_cons_zero, List.set_cons_succ, List.map_cons, List.map_nil, putAt, putd, allObjs, argEnv, un_v, un_ptr, un_ep, un_pr, un_sl, un_mp, un_row, un_agg, un_tup, un_clo, Nat.zero_add, Nat.add_zero, Nat.reduceAdd, Bool.not_true, Bool.not_false]; first | done | exact rfl) | exact rfl)) ?_))
  exact ret_plain (.inl rfl) rfl rfl
def ofM (l : List Int) : List Int := compM (sorted (keepM noCell l))
theorem comp_len (l : List Int) : ∀ m, (compN l m).length ≤ m
  | 0 => Nat.le_refl _
  | m + 1 => by
    have := comp_len l m
    unfold compN
    split
    · omega
    · rw [List.length_append]; simp; omega
theorem of_len (l : List Int) : (ofM l).length ≤ l.length := by
  have h1 := comp_len (sorted (keepM noCell l)) (sorted (keepM noCell l)).length
  have h2 : (keepM noCell l).length ≤ l.length := List.length_filter_le _ _
  rw [sorted_len] at h1
  show (compN _ _).length ≤ _
  rw [sorted_len]
  omega
theorem of_c (l : List Int) (hl : l.length ≤ 1000000) : ACall Try.prog 22 [.rowE (ints l) 1] [] (.rowE (ints (ofM l)) 1) [] := by
  refine acall_frz (by simp : (ofM l).length = (ints (ofM l)).length) (idfL_flat (ints_idf _)) ?_
  have h1 := clone_o l hl
  have h2 := delete_c (F := 48) l hl ofel_c
  have hk : (keepM noCell l).length ≤ l.length := List.length_filter_le _ _
  have h3 := sort_c (keepM noCell l) (by omega)
  have h4 := compact_c (sorted (keepM noCell l)) (by rw [sorted_len]; omega)
  rw [sorted_len] at h4
  have hof : ofM l = compM (sorted (keepM noCell l)) := rfl
  rw [hof]
  have hrf := ints_rf l
  generalize compM (sorted (keepM noCell l)) = C at *
  generalize sorted (keepM noCell l) = B at *
  generalize keepM noCell l = A at *
  refine acall T Try.func22 rfl rfl rfl rfl ?_
  repeat' (first | (first | (refine aw_seq ?_) | (refine aw_block ?_) | (refine aw_skip ?_) | (refine aw_ret ?_) | (refine aw_exit ?_)) | (first | (refine aw_condt rfl ?_) | (refine aw_condf rfl ?_) | (refine aw_cond rfl (fun hb => ?_) (fun hb => ?_) <;> (first | subst hb | ((try simp only [nm] at hb); try ((exfalso; omega); done))))) | (((refine aw_region (id := 0) ?_)); (all_goals (refine va rfl rfl ?_))) | (((refine aw_region (id := 1) ?_)); (all_goals (refine vm rfl rfl ?_)); (all_goals first | (refine vc_v (by first | exact fs_call rfl rfl h1 (.inr ⟨rfl, rfl, by simp⟩)) rfl ?_) | (refine vc_n (by first | exact fs_call rfl rfl h1 (.inr ⟨rfl, rfl, by simp⟩)) rfl ?_)); (all_goals first | (refine vc_callw [0] rfl rfl h2 rfl rfl (by decide) ⟨.inr (sub_arr rfl (ints_map _ _) (ints_idf _)), trivial⟩ (by simp) rfl ?_) | (refine vc_v (by first | fail) rfl ?_) | (refine vc_n (by first | fail) rfl ?_)); (all_goals (refine va rfl rfl ?_))) | (((refine aw_region (id := 2) ?_)); (all_goals (refine vm rfl rfl ?_)); (all_goals first | (refine vc_callw [0] rfl rfl h3 rfl rfl (by decide) ⟨.inr (sub_arr rfl (ints_map _ _) (ints_idf _)), trivial⟩ (by simp) rfl ?_) | (refine vc_v (by first | fail) rfl ?_) | (refine vc_n (by first | fail) rfl ?_))) | (((refine aw_region (id := 3) ?_)); (all_goals (refine vm rfl rfl ?_)); (all_goals first | (refine vc_callw [0] rfl rfl h4 rfl rfl (by decide) ⟨.inr (sub_arr rfl (ints_map _ _) (ints_idf _)), trivial⟩ (by simp) rfl ?_) | (refine vc_v (by first | fail) rfl ?_) | (refine vc_n (by first | fail) rfl ?_)); (all_goals (refine va rfl rfl ?_))) | (refine vc_nilp (by (first | (dsimp only [List.nil_append, List.cons_append, List.append_nil, List.length_cons, List.length_nil, List.set_cons_zero, List.set_cons_succ, List.map_cons, List.map_nil, putAt, putd, allObjs, argEnv, un_v, un_ptr, un_ep, un_pr, un_sl, un_mp, un_row, un_agg, un_tup, un_clo, Nat.zero_add, Nat.add_zero, Nat.reduceAdd, Bool.not_true, Bool.not_false]; first | done | exact rfl) | exact rfl)) ?_))
  all_goals exact ⟨.inl rfl, [0], _, rfl, rfl, rfl, ⟨.inr (sub_arr rfl (ints_map _ _) (ints_idf _)), trivial⟩, by decide, fun i hi => absurd hi (Nat.not_lt_zero _)⟩
end Go.Proofs.Ytlpffgndackglaa
