/-
  Layer 8: Union, Inter, Diff, Within.
-/
import Derived.Test.YtlpffgndackglaaRe3
namespace Go.Proofs.Ytlpffgndackglaa
open Go Go.Ab Go.Fl Go.Re
set_option linter.unusedVariables false
set_option linter.unusedSimpArgs false
attribute [local irreducible] VC AW FStep ACall AY VY AIter
set_option maxHeartbeats 4000000

theorem merged_c (a b : List Int) : ACall Try.prog 43 [.rowE (ints a) 1, .rowE (ints b) 1] [] (.clo (.func 65) [] [.ptr 0 0, .ptr 1 0]) [.cells [.rowE (ints a) 1], .cells [.rowE (ints b) 1]] := by
  refine acall T Try.func43 rfl rfl rfl rfl ?_
  repeat' (first | (first | (refine aw_seq ?_) | (refine aw_block ?_) | (refine aw_skip ?_) | (refine aw_ret ?_) | (refine aw_exit ?_)) | (first | (refine aw_condt rfl ?_) | (refine aw_condf rfl ?_) | (refine aw_cond rfl (fun hb => ?_) (fun hb => ?_) <;> (first | subst hb | ((try simp only [nm] at hb); try ((exfalso; omega); done))))) | (((refine aw_region (id := 0) ?_)); (all_goals (refine vc_n (by exact fs_box rfl rfl) rfl ?_)); (all_goals (refine vc_n (by exact fs_box rfl rfl) rfl ?_)); (all_goals (refine va rfl rfl ?_))) | (((refine aw_region (id := 1) ?_)); (all_goals (refine vc_v (by exact fs_makeFunc rfl rfl) rfl ?_)); (all_goals (refine va rfl rfl ?_))) | (refine vc_nilp (by (first | (dsimp only [List.nil_append, List.cons_append, List.append_nil, List.length_cons, List.length_nil, List.set_cons_zero, List.set_cons_succ, List.map_cons, List.map_nil, putAt, putd, allObjs, argEnv, un_v, un_ptr, un_ep, un_pr, un_sl, un_mp, un_row, un_agg, un_tup, un_clo, Nat.zero_add, Nat.add_zero, Nat.reduceAdd, Bool.not_true, Bool.not_false]; first | done | exact rfl) | exact rfl)) ?_))
  exact ⟨.inl rfl, [0, 1], _, rfl, rfl, rfl, ⟨.inr rfl, .inr rfl, trivial⟩, by decide, fun i hi => absurd hi (Nat.not_lt_zero _)⟩
theorem item_at {L : List (Int × Bool × Bool)} {k : Nat} (h : k < L.length) : itemA (L[k]?) = [.i L[k].1, .agg [.b L[k].2.1, .b L[k].2.2]] := by rw [List.getElem?_eq_getElem h]; rfl
theorem item_ok (L : List (Int × Bool × Bool)) : ∀ k, k < L.length → (itemA (L[k]?)).length = ([10, 11] : List Nat).length ∧ AV.idfL (itemA (L[k]?)) = true := fun k hk => by
  rw [item_at hk]; exact ⟨rfl, rfl⟩
/-- What has come of a list. -/
abbrev ouH (l : List Int) : Hp := [.cells [.sl 1 0 l.length 1], .arr (ints l) 1]
def keepF (p : Int × Bool × Bool → Bool) (L : List (Int × Bool × Bool)) (k : Nat) : List Int := ((L.take k).filter p).map (·.1)
theorem keep_succ {p : Int × Bool × Bool → Bool} {L : List (Int × Bool × Bool)} {k : Nat} (h : k < L.length) : keepF p L (k + 1) = if p L[k] then keepF p L k ++ [L[k].1] else keepF p L k := by
  unfold keepF
  rw [List.take_succ_eq_append_getElem h, List.filter_append, List.map_append]
  split
  · rename_i e; simp [e]
  · rename_i e; simp [e]
theorem keep_len {p : Int × Bool × Bool → Bool} {L : List (Int × Bool × Bool)} {k : Nat} : (keepF p L k).length ≤ L.length := by
  unfold keepF
  rw [List.length_map]
  exact Nat.le_trans (List.length_filter_le _ _) (List.length_take_le' _ _)
theorem keep_all {p : Int × Bool × Bool → Bool} {L : List (Int × Bool × Bool)} : keepF p L L.length = (L.filter p).map (·.1) := by
  unfold keepF; rw [List.take_length]
theorem lt1o : ∀ i : Nat, i < 1 → ([0, 1] : List Nat)[i]? = some i := by decide
theorem lt1p : ∀ i : Nat, i < 1 → ([0, 3] : List Nat)[i]? = some i := by decide
theorem union_c (a b : List Int) (hla : a.length ≤ 1000000) (hlb : b.length ≤ 1000000) : ACall Try.prog 17 [.rowE (ints a) 1, .rowE (ints b) 1] [] (.rowE (ints (unionM a b)) 1) [] := by
  have hm := merged_c a b
  have hml := mrg_len _ a b (Nat.le_refl _)
  have hit := merged_it a b hla hlb
  have he : unionM a b = keepF (fun _ => true) (mrg a b) (mrg a b).length := by rw [keep_all, List.filter_eq_self.2 (fun _ _ => rfl)]; rfl
  rw [he]
  refine acall_frz (by simp : (keepF (fun _ => true) (mrg a b) (mrg a b).length).length = (ints (keepF (fun _ => true) (mrg a b) (mrg a b).length)).length) (idfL_flat (ints_idf _)) ?_
  generalize hL : mrg a b = L at hml hit
  refine acall T Try.func17 rfl rfl rfl rfl ?_
  repeat' (first | (first | (refine aw_seq ?_) | (refine aw_block ?_) | (refine aw_skip ?_) | (refine aw_ret ?_) | (refine aw_exit ?_)) | (first | (refine aw_condt rfl ?_) | (refine aw_condf rfl ?_) | (refine aw_cond rfl (fun hb => ?_) (fun hb => ?_) <;> (first | subst hb | ((try simp only [nm] at hb); try ((exfalso; omega); done))))) | (((refine aw_region (id := 0) ?_)); (all_goals (refine va rfl rfl ?_))) | (((refine aw_region (id := 1) ?_)); (all_goals (refine vc_n (by exact fs_alloc T rfl) rfl ?_))) | (((refine aw_region (id := 2) ?_)); (all_goals (refine vm rfl rfl ?_)); (all_goals (refine vm rfl rfl ?_)); (all_goals first | (refine vc_v (by first | exact fs_call rfl rfl hm (.inr ⟨rfl, rfl, by simp⟩)) rfl ?_) | (refine vc_n (by first | exact fs_call rfl rfl hm (.inr ⟨rfl, rfl, by simp⟩)) rfl ?_))) | (refine vc_nilp (by (first | (dsimp only [List.nil_append, List.cons_append, List.append_nil, List.length_cons, List.length_nil, List.set_cons_zero, List.set_cons_succ, List.map_cons, List.map_nil, putAt, putd, allObjs, argEnv, un_v, un_ptr, un_ep, un_pr, un_sl, un_mp, un_row, un_agg, un_tup, un_clo, Nat.zero_add, Nat.add_zero, Nat.reduceAdd, Bool.not_true, Bool.not_false]; first | done | exact rfl) | exact rfl)) ?_))
  refine aw_ownC 0 0 1 rfl rfl (by decide) ?_
  refine aw_range [1, 2] [0, 3] [(5, .ptr 0 0)] (fun k => ouH (keepF (fun _ => true) L k)) 1 rfl hit rfl rfl rfl ⟨.inr rfl, .inr rfl, trivial⟩ (by decide) rfl ⟨rfl, trivial⟩ ⟨.inr rfl, .inr rfl, trivial⟩ (by decide) (fun i hi => absurd hi (Nat.not_lt_zero _)) (by decide) (Nat.zero_le _) (Nat.le_of_ble_eq_true rfl) rfl (by decide) (item_ok L) ?_ ?_
  · intro k hk
    rw [item_at hk]
    have hks := keep_succ (p := fun _ => true) hk
    rw [if_pos rfl] at hks
    have hkl := keep_len (p := fun _ => true) (L := L) (k := k)
    generalize hK : keepF (fun _ => true) L k = K at hks hkl ⊢
    refine aw_region (id := 3) ?_
    refine vc_v (by exact fs_assign rfl) rfl ?_
    refine vc_nil ?_
    refine ⟨rfl, ?_⟩
    repeat' (first | (first | (refine aw_seq ?_) | (refine aw_block ?_) | (refine aw_skip ?_) | (refine aw_ret ?_) | (refine aw_exit ?_)) | (first | (refine aw_condt rfl ?_) | (refine aw_condf rfl ?_) | (refine aw_cond rfl (fun hb => ?_) (fun hb => ?_) <;> (first | subst hb | ((try simp only [nm] at hb); try ((exfalso; omega); done))))) | (((refine aw_region (id := 4) ?_)); (all_goals (refine vc_v (by exact fs_load T rfl rfl rfl rfl) rfl ?_)); (all_goals (refine vm rfl rfl ?_)); (all_goals (refine vc_n (by exact fs_buildSlice T rfl rfl (by decide) (by decide) rfl rfl rfl) rfl ?_)); (all_goals (refine vc_append T rfl rfl rfl rfl rfl rfl (by simp) (Elems.whole rfl rfl) rfl (by simp; omega) (by simp; omega) rfl ?_)); (all_goals (refine vc_store T rfl rfl rfl rfl rfl rfl (by decide) rfl ?_))) | (refine vc_nilp (by (first | (dsimp only [List.nil_append, List.cons_append, List.append_nil, List.length_cons, List.length_nil, List.set_cons_zero, List.set_cons_succ, List.map_cons, List.map_nil, putAt, putd, allObjs, argEnv, un_v, un_ptr, un_ep, un_pr, un_sl, un_mp, un_row, un_agg, un_tup, un_clo, Nat.zero_add, Nat.add_zero, Nat.reduceAdd, Bool.not_true, Bool.not_false]; first | done | exact rfl) | exact rfl)) ?_))
    show Sub _ _ _ _ (ouH (keepF (fun _ => true) L (k + 1)))
    rw [hks]
    exact ⟨[0, 3], rfl, trivial, ⟨.inr (by simp; rfl), .inr (sub_arr rfl (by simp; exact List.take_of_length_le (by simp)) (ints_idf _)), trivial⟩, by decide, lt1p⟩
  · repeat' (first | (first | (refine aw_seq ?_) | (refine aw_block ?_) | (refine aw_skip ?_) | (refine aw_ret ?_) | (refine aw_exit ?_)) | (first | (refine aw_condt rfl ?_) | (refine aw_condf rfl ?_) | (refine aw_cond rfl (fun hb => ?_) (fun hb => ?_) <;> (first | subst hb | ((try simp only [nm] at hb); try ((exfalso; omega); done))))) | (((refine aw_region (id := 5) ?_)); (all_goals (refine vc_v (by exact fs_load T rfl rfl rfl rfl) rfl ?_)); (all_goals (refine va rfl rfl ?_))) | (refine vc_nilp (by (first | (dsimp only [List.nil_append, List.cons_append, List.append_nil, List.length_cons, List.length_nil, List.set_cons_zero, List.set_cons_succ, List.map_cons, List.map_nil, putAt, putd, allObjs, argEnv, un_v, un_ptr, un_ep, un_pr, un_sl, un_mp, un_row, un_agg, un_tup, un_clo, Nat.zero_add, Nat.add_zero, Nat.reduceAdd, Bool.not_true, Bool.not_false]; first | done | exact rfl) | exact rfl)) ?_))
    exact ⟨.inl rfl, [1], _, rfl, rfl, rfl, ⟨.inr (sub_arr rfl rfl (ints_idf _)), trivial⟩, by decide, fun i hi => absurd hi (Nat.not_lt_zero _)⟩
theorem lt1q : ∀ i : Nat, i < 1 → ([0, 4] : List Nat)[i]? = some i := by decide
theorem inter_c (a b : List Int) (hla : a.length ≤ 1000000) (hlb : b.length ≤ 1000000) : ACall Try.prog 20 [.rowE (ints a) 1, .rowE (ints b) 1] [] (.rowE (ints (interM a b)) 1) [] := by
  have hm := merged_c a b
  have hml := mrg_len _ a b (Nat.le_refl _)
  have hit := merged_it a b hla hlb
  have he : interM a b = keepF (fun t => t.2.1 && t.2.2) (mrg a b) (mrg a b).length := by rw [keep_all]; rfl
  rw [he]
  refine acall_frz (by simp : (keepF (fun t => t.2.1 && t.2.2) (mrg a b) (mrg a b).length).length = (ints (keepF (fun t => t.2.1 && t.2.2) (mrg a b) (mrg a b).length)).length) (idfL_flat (ints_idf _)) ?_
  generalize hL : mrg a b = L at hml hit
  refine acall T Try.func20 rfl rfl rfl rfl ?_
  repeat' (first | (first | (refine aw_seq ?_) | (refine aw_block ?_) | (refine aw_skip ?_) | (refine aw_ret ?_) | (refine aw_exit ?_)) | (first | (refine aw_condt rfl ?_) | (refine aw_condf rfl ?_) | (refine aw_cond rfl (fun hb => ?_) (fun hb => ?_) <;> (first | subst hb | ((try simp only [nm] at hb); try ((exfalso; omega); done))))) | (((refine aw_region (id := 0) ?_)); (all_goals (refine va rfl rfl ?_))) | (((refine aw_region (id := 1) ?_)); (all_goals (refine vc_n (by exact fs_alloc T rfl) rfl ?_))) | (((refine aw_region (id := 2) ?_)); (all_goals (refine vm rfl rfl ?_)); (all_goals (refine vm rfl rfl ?_)); (all_goals first | (refine vc_v (by first | exact fs_call rfl rfl hm (.inr ⟨rfl, rfl, by simp⟩)) rfl ?_) | (refine vc_n (by first | exact fs_call rfl rfl hm (.inr ⟨rfl, rfl, by simp⟩)) rfl ?_))) | (refine vc_nilp (by (first | (dsimp only [List.nil_append, List.cons_append, List.append_nil, List.length_cons, List.length_nil, List.set_cons_zero, List.set_cons_succ, List.map_cons, List.map_nil, putAt, putd, allObjs, argEnv, un_v, un_ptr, un_ep, un_pr, un_sl, un_mp, un_row, un_agg, un_tup, un_clo, Nat.zero_add, Nat.add_zero, Nat.reduceAdd, Bool.not_true, Bool.not_false]; first | done | exact rfl) | exact rfl)) ?_))
  refine aw_ownC 0 0 1 rfl rfl (by decide) ?_
  refine aw_range [1, 2] [0, 3] [(5, .ptr 0 0)] (fun k => ouH (keepF (fun t => t.2.1 && t.2.2) L k)) 1 rfl hit rfl rfl rfl ⟨.inr rfl, .inr rfl, trivial⟩ (by decide) rfl ⟨rfl, trivial⟩ ⟨.inr rfl, .inr rfl, trivial⟩ (by decide) (fun i hi => absurd hi (Nat.not_lt_zero _)) (by decide) (Nat.zero_le _) (Nat.le_of_ble_eq_true rfl) rfl (by decide) (item_ok L) ?_ ?_
  · intro k hk
    rw [item_at hk]
    have hks := keep_succ (p := fun t => t.2.1 && t.2.2) hk
    have hkl := keep_len (p := fun t => t.2.1 && t.2.2) (L := L) (k := k)
    generalize hK : keepF (fun t => t.2.1 && t.2.2) L k = K at hks hkl ⊢
    generalize L[k] = t at hks ⊢
    obtain ⟨c, t1, t2⟩ := t
    repeat' (first | (first | (refine aw_seq ?_) | (refine aw_block ?_) | (refine aw_skip ?_) | (refine aw_ret ?_) | (refine aw_exit ?_)) | (first | (refine aw_condt rfl ?_) | (refine aw_condf rfl ?_) | (refine aw_cond rfl (fun hb => ?_) (fun hb => ?_) <;> (first | subst hb | ((try simp only [nm] at hb); try ((exfalso; omega); done))))) | (((refine aw_region (id := 3) ?_)); (all_goals (refine va rfl rfl ?_))) | (((refine aw_region (id := 4) ?_)); (all_goals (refine vc_n (by exact fs_alloc T rfl) rfl ?_)); (all_goals (refine vc_store T rfl rfl rfl rfl rfl rfl (by decide) rfl ?_))) | (refine vc_nilp (by (first | (dsimp only [List.nil_append, List.cons_append, List.append_nil, List.length_cons, List.length_nil, List.set_cons_zero, List.set_cons_succ, List.map_cons, List.map_nil, putAt, putd, allObjs, argEnv, un_v, un_ptr, un_ep, un_pr, un_sl, un_mp, un_row, un_agg, un_tup, un_clo, Nat.zero_add, Nat.add_zero, Nat.reduceAdd, Bool.not_true, Bool.not_false]; first | done | exact rfl) | exact rfl)) ?_))
    all_goals refine ⟨rfl, ?_⟩
    cases t1 <;> cases t2
    all_goals repeat' (first | (first | (refine aw_seq ?_) | (refine aw_block ?_) | (refine aw_skip ?_) | (refine aw_ret ?_) | (refine aw_exit ?_)) | (first | (refine aw_condt rfl ?_) | (refine aw_condf rfl ?_) | (refine aw_cond rfl (fun hb => ?_) (fun hb => ?_) <;> (first | subst hb | ((try simp only [nm] at hb); try ((exfalso; omega); done))))) | (((refine aw_region (id := 5) ?_)); (all_goals (refine vc_v (by exact fs_indexArr T rfl rfl rfl rfl (by decide) (by decide) rfl) rfl ?_)); (all_goals (refine vc_v (by exact fs_load T rfl rfl rfl rfl) rfl ?_)); (all_goals (refine vm rfl rfl ?_)); (all_goals first | (refine vc_gt rfl rfl ?_ rfl; (refine vc_v (by exact fs_indexArr T rfl rfl rfl rfl (by decide) (by decide) rfl) rfl ?_)) | (refine vc_gf rfl rfl ?_ rfl) | (refine vc_gu rfl rfl ?_ rfl) | (refine vc_split rfl rfl (fun hb => ?_) (fun hb => ?_) <;> (first | subst hb | (rw [hb]; (try simp only [nm] at hb); try ((exfalso; omega); done))) <;> first | (refine vc_gt rfl rfl ?_ rfl; (refine vc_v (by exact fs_indexArr T rfl rfl rfl rfl (by decide) (by decide) rfl) rfl ?_)) | (refine vc_gf rfl rfl ?_ rfl) | (refine vc_gu rfl rfl ?_ rfl))); (all_goals first | (refine vc_gt rfl rfl ?_ rfl; (refine vc_v (by exact fs_load T rfl rfl rfl rfl) rfl ?_)) | (refine vc_gf rfl rfl ?_ rfl) | (refine vc_gu rfl rfl ?_ rfl)); (all_goals (refine vc_v (by first | exact fs_pickt rfl rfl | exact fs_pickf rfl rfl | exact fs_pick rfl rfl rfl) rfl ?_))) | (((refine aw_region (id := 6) ?_)); (all_goals (refine vc_v (by exact fs_load T rfl rfl rfl rfl) rfl ?_)); (all_goals (refine vm rfl rfl ?_)); (all_goals (refine vc_n (by exact fs_buildSlice T rfl rfl (by decide) (by decide) rfl rfl rfl) rfl ?_)); (all_goals (refine vc_append T rfl rfl rfl rfl rfl rfl (by simp) (Elems.whole rfl rfl) rfl (by simp; omega) (by simp; omega) rfl ?_)); (all_goals (refine vc_store T rfl rfl rfl rfl rfl rfl (by decide) rfl ?_))) | (refine vc_nilp (by (first | (dsimp only [List.nil_append, List.cons_append, List.append_nil, List.length_cons, List.length_nil, List.set_cons_zero, List.set_cons_succ, List.map_cons, List.map_nil, putAt, putd, allObjs, argEnv, un_v, un_ptr, un_ep, un_pr, un_sl, un_mp, un_row, un_agg, un_tup, un_clo, Nat.zero_add, Nat.add_zero, Nat.reduceAdd, Bool.not_true, Bool.not_false]; first | done | exact rfl) | exact rfl)) ?_))
    all_goals show Sub _ _ _ _ (ouH (keepF (fun t => t.2.1 && t.2.2) L (k + 1)))
    all_goals first
      | (rw [if_neg (by simp; done)] at hks; rw [hks]; exact ⟨[0, 1], rfl, trivial, ⟨.inr rfl, .inr (sub_arr rfl rfl (ints_idf _)), trivial⟩, by decide, lt1o⟩)
      | skip
    all_goals (rw [hks.trans (if_pos rfl)]; exact ⟨[0, 4], rfl, trivial, ⟨.inr (by simp; rfl), .inr (sub_arr rfl (by simp; exact List.take_of_length_le (by simp)) (ints_idf _)), trivial⟩, by decide, lt1q⟩)
  · repeat' (first | (first | (refine aw_seq ?_) | (refine aw_block ?_) | (refine aw_skip ?_) | (refine aw_ret ?_) | (refine aw_exit ?_)) | (first | (refine aw_condt rfl ?_) | (refine aw_condf rfl ?_) | (refine aw_cond rfl (fun hb => ?_) (fun hb => ?_) <;> (first | subst hb | ((try simp only [nm] at hb); try ((exfalso; omega); done))))) | (((refine aw_region (id := 7) ?_)); (all_goals (refine vc_v (by exact fs_load T rfl rfl rfl rfl) rfl ?_)); (all_goals (refine va rfl rfl ?_))) | (refine vc_nilp (by (first | (dsimp only [List.nil_append, List.cons_append, List.append_nil, List.length_cons, List.length_nil, List.set_cons_zero, List.set_cons_succ, List.map_cons, List.map_nil, putAt, putd, allObjs, argEnv, un_v, un_ptr, un_ep, un_pr, un_sl, un_mp, un_row, un_agg, un_tup, un_clo, Nat.zero_add, Nat.add_zero, Nat.reduceAdd, Bool.not_true, Bool.not_false]; first | done | exact rfl) | exact rfl)) ?_))
    exact ⟨.inl rfl, [1], _, rfl, rfl, rfl, ⟨.inr (sub_arr rfl rfl (ints_idf _)), trivial⟩, by decide, fun i hi => absurd hi (Nat.not_lt_zero _)⟩

theorem diff_c (a b : List Int) (hla : a.length ≤ 1000000) (hlb : b.length ≤ 1000000) : ACall Try.prog 23 [.rowE (ints a) 1, .rowE (ints b) 1] [] (.rowE (ints (diffM a b)) 1) [] := by
  have hm := merged_c a b
  have hml := mrg_len _ a b (Nat.le_refl _)
  have hit := merged_it a b hla hlb
  have he : diffM a b = keepF (fun t => !t.2.2) (mrg a b) (mrg a b).length := by rw [keep_all]; rfl
  rw [he]
  refine acall_frz (by simp : (keepF (fun t => !t.2.2) (mrg a b) (mrg a b).length).length = (ints (keepF (fun t => !t.2.2) (mrg a b) (mrg a b).length)).length) (idfL_flat (ints_idf _)) ?_
  generalize hL : mrg a b = L at hml hit
  refine acall T Try.func23 rfl rfl rfl rfl ?_
  repeat' (first | (first | (refine aw_seq ?_) | (refine aw_block ?_) | (refine aw_skip ?_) | (refine aw_ret ?_) | (refine aw_exit ?_)) | (first | (refine aw_condt rfl ?_) | (refine aw_condf rfl ?_) | (refine aw_cond rfl (fun hb => ?_) (fun hb => ?_) <;> (first | subst hb | ((try simp only [nm] at hb); try ((exfalso; omega); done))))) | (((refine aw_region (id := 0) ?_)); (all_goals (refine va rfl rfl ?_))) | (((refine aw_region (id := 1) ?_)); (all_goals (refine vc_n (by exact fs_alloc T rfl) rfl ?_))) | (((refine aw_region (id := 2) ?_)); (all_goals (refine vm rfl rfl ?_)); (all_goals (refine vm rfl rfl ?_)); (all_goals first | (refine vc_v (by first | exact fs_call rfl rfl hm (.inr ⟨rfl, rfl, by simp⟩)) rfl ?_) | (refine vc_n (by first | exact fs_call rfl rfl hm (.inr ⟨rfl, rfl, by simp⟩)) rfl ?_))) | (refine vc_nilp (by (first | (dsimp only [List.nil_append, List.cons_append, List.append_nil, List.length_cons, List.length_nil, List.set_cons_zero, List.set_cons_succ, List.map_cons, List.map_nil, putAt, putd, allObjs, argEnv, un_v, un_ptr, un_ep, un_pr, un_sl, un_mp, un_row, un_agg, un_tup, un_clo, Nat.zero_add, Nat.add_zero, Nat.reduceAdd, Bool.not_true, Bool.not_false]; first | done | exact rfl) | exact rfl)) ?_))
  refine aw_ownC 0 0 1 rfl rfl (by decide) ?_
  refine aw_range [1, 2] [0, 3] [(5, .ptr 0 0)] (fun k => ouH (keepF (fun t => !t.2.2) L k)) 1 rfl hit rfl rfl rfl ⟨.inr rfl, .inr rfl, trivial⟩ (by decide) rfl ⟨rfl, trivial⟩ ⟨.inr rfl, .inr rfl, trivial⟩ (by decide) (fun i hi => absurd hi (Nat.not_lt_zero _)) (by decide) (Nat.zero_le _) (Nat.le_of_ble_eq_true rfl) rfl (by decide) (item_ok L) ?_ ?_
  · intro k hk
    rw [item_at hk]
    have hks := keep_succ (p := fun t => !t.2.2) hk
    have hkl := keep_len (p := fun t => !t.2.2) (L := L) (k := k)
    generalize hK : keepF (fun t => !t.2.2) L k = K at hks hkl ⊢
    generalize L[k] = t at hks ⊢
    obtain ⟨c, t1, t2⟩ := t
    repeat' (first | (first | (refine aw_seq ?_) | (refine aw_block ?_) | (refine aw_skip ?_) | (refine aw_ret ?_) | (refine aw_exit ?_)) | (first | (refine aw_condt rfl ?_) | (refine aw_condf rfl ?_) | (refine aw_cond rfl (fun hb => ?_) (fun hb => ?_) <;> (first | subst hb | ((try simp only [nm] at hb); try ((exfalso; omega); done))))) | (((refine aw_region (id := 3) ?_)); (all_goals (refine va rfl rfl ?_))) | (((refine aw_region (id := 4) ?_)); (all_goals (refine vc_n (by exact fs_alloc T rfl) rfl ?_)); (all_goals (refine vc_store T rfl rfl rfl rfl rfl rfl (by decide) rfl ?_))) | (refine vc_nilp (by (first | (dsimp only [List.nil_append, List.cons_append, List.append_nil, List.length_cons, List.length_nil, List.set_cons_zero, List.set_cons_succ, List.map_cons, List.map_nil, putAt, putd, allObjs, argEnv, un_v, un_ptr, un_ep, un_pr, un_sl, un_mp, un_row, un_agg, un_tup, un_clo, Nat.zero_add, Nat.add_zero, Nat.reduceAdd, Bool.not_true, Bool.not_false]; first | done | exact rfl) | exact rfl)) ?_))
    all_goals refine ⟨rfl, ?_⟩
    cases t1 <;> cases t2
    all_goals repeat' (first | (first | (refine aw_seq ?_) | (refine aw_block ?_) | (refine aw_skip ?_) | (refine aw_ret ?_) | (refine aw_exit ?_)) | (first | (refine aw_condt rfl ?_) | (refine aw_condf rfl ?_) | (refine aw_cond rfl (fun hb => ?_) (fun hb => ?_) <;> (first | subst hb | ((try simp only [nm] at hb); try ((exfalso; omega); done))))) | (((refine aw_region (id := 5) ?_)); (all_goals (refine vc_v (by exact fs_indexArr T rfl rfl rfl rfl (by decide) (by decide) rfl) rfl ?_)); (all_goals (refine vc_v (by exact fs_load T rfl rfl rfl rfl) rfl ?_)); (all_goals (refine vc_v (by exact fs_not rfl) rfl ?_))) | (((refine aw_region (id := 6) ?_)); (all_goals (refine vc_v (by exact fs_load T rfl rfl rfl rfl) rfl ?_)); (all_goals (refine vm rfl rfl ?_)); (all_goals (refine vc_n (by exact fs_buildSlice T rfl rfl (by decide) (by decide) rfl rfl rfl) rfl ?_)); (all_goals (refine vc_append T rfl rfl rfl rfl rfl rfl (by simp) (Elems.whole rfl rfl) rfl (by simp; omega) (by simp; omega) rfl ?_)); (all_goals (refine vc_store T rfl rfl rfl rfl rfl rfl (by decide) rfl ?_))) | (refine vc_nilp (by (first | (dsimp only [List.nil_append, List.cons_append, List.append_nil, List.length_cons, List.length_nil, List.set_cons_zero, List.set_cons_succ, List.map_cons, List.map_nil, putAt, putd, allObjs, argEnv, un_v, un_ptr, un_ep, un_pr, un_sl, un_mp, un_row, un_agg, un_tup, un_clo, Nat.zero_add, Nat.add_zero, Nat.reduceAdd, Bool.not_true, Bool.not_false]; first | done | exact rfl) | exact rfl)) ?_))
    all_goals show Sub _ _ _ _ (ouH (keepF (fun t => !t.2.2) L (k + 1)))
    all_goals first
      | (rw [if_neg (by simp; done)] at hks; rw [hks]; exact ⟨[0, 1], rfl, trivial, ⟨.inr rfl, .inr (sub_arr rfl rfl (ints_idf _)), trivial⟩, by decide, lt1o⟩)
      | skip
    all_goals (rw [hks.trans (if_pos rfl)]; exact ⟨[0, 4], rfl, trivial, ⟨.inr (by simp; rfl), .inr (sub_arr rfl (by simp; exact List.take_of_length_le (by simp)) (ints_idf _)), trivial⟩, by decide, lt1q⟩)
  · repeat' (first | (first | (refine aw_seq ?_) | (refine aw_block ?_) | (refine aw_skip ?_) | (refine aw_ret ?_) | (refine aw_exit ?_)) | (first | (refine aw_condt rfl ?_) | (refine aw_condf rfl ?_) | (refine aw_cond rfl (fun hb => ?_) (fun hb => ?_) <;> (first | subst hb | ((try simp only [nm] at hb); try ((exfalso; omega); done))))) | (((refine aw_region (id := 7) ?_)); (all_goals (refine vc_v (by exact fs_load T rfl rfl rfl rfl) rfl ?_)); (all_goals (refine va rfl rfl ?_))) | (refine vc_nilp (by (first | (dsimp only [List.nil_append, List.cons_append, List.append_nil, List.length_cons, List.length_nil, List.set_cons_zero, List.set_cons_succ, List.map_cons, List.map_nil, putAt, putd, allObjs, argEnv, un_v, un_ptr, un_ep, un_pr, un_sl, un_mp, un_row, un_agg, un_tup, un_clo, Nat.zero_add, Nat.add_zero, Nat.reduceAdd, Bool.not_true, Bool.not_false]; first | done | exact rfl) | exact rfl)) ?_))
    exact ⟨.inl rfl, [1], _, rfl, rfl, rfl, ⟨.inr (sub_arr rfl rfl (ints_idf _)), trivial⟩, by decide, fun i hi => absurd hi (Nat.not_lt_zero _)⟩
theorem within_c (a b : List Int) (hla : a.length ≤ 1000000) (hlb : b.length ≤ 1000000) : ACall Try.prog 16 [.rowE (ints a) 1, .rowE (ints b) 1] [] (.b (decide (diffM a b = []))) [] := by
  have hc := diff_c a b hla hlb
  have hl : (ints (diffM a b)).length = (diffM a b).length := by simp
  refine acall T Try.func16 rfl rfl rfl rfl ?_
  repeat' (first | (first | (refine aw_seq ?_) | (refine aw_block ?_) | (refine aw_skip ?_) | (refine aw_ret ?_) | (refine aw_exit ?_)) | (first | (refine aw_condt rfl ?_) | (refine aw_condf rfl ?_) | (refine aw_cond rfl (fun hb => ?_) (fun hb => ?_) <;> (first | subst hb | ((try simp only [nm] at hb); try ((exfalso; omega); done))))) | (((refine aw_region (id := 0) ?_)); (all_goals (refine va rfl rfl ?_))) | (((refine aw_region (id := 1) ?_)); (all_goals (refine vm rfl rfl ?_)); (all_goals (refine vm rfl rfl ?_)); (all_goals (refine vc_v (by exact fs_call0 rfl rfl (hc) rfl rfl rfl) rfl ?_)); (all_goals (refine vc_v (by first | exact fs_lenOwn T rfl rfl | exact fs_lenRow T rfl rfl | exact fs_lenNil T rfl rfl) rfl ?_)); (all_goals (refine vc_v (by exact fs_eql rfl rfl) rfl ?_)); (all_goals (refine va rfl rfl ?_))) | (refine vc_nilp (by (first | (dsimp only [List.nil_append, List.cons_append, List.append_nil, List.length_cons, List.length_nil, List.set_cons_zero, List.set_cons_succ, List.map_cons, List.map_nil, putAt, putd, allObjs, argEnv, un_v, un_ptr, un_ep, un_pr, un_sl, un_mp, un_row, un_agg, un_tup, un_clo, Nat.zero_add, Nat.add_zero, Nat.reduceAdd, Bool.not_true, Bool.not_false]; first | done | exact rfl) | exact rfl)) ?_))
  refine ret_plain (.inl rfl) rfl (b_ret ?_)
  rw [hl, decide_eq_decide, ← List.length_eq_zero_iff]
  omega
end Go.Proofs.Ytlpffgndackglaa
