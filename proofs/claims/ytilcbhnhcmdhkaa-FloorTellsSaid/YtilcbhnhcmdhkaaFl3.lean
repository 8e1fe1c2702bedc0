/-
  Layer 7: a cell is reached.
-/
import Derived.Test.YtilcbhnhcmdhkaaFl2
import Derived.Test.YtilcbhnhcmdhkaaFl1
namespace Go.Proofs.Ytilcbhnhcmdhkaa
open Go Go.Ab Go.Fl
set_option linter.unusedVariables false
set_option linter.unusedSimpArgs false
attribute [local irreducible] VC AW FStep ACall
set_option maxHeartbeats 4000000

abbrev bools (l : List Bool) : List (List AV) := l.map fun n => [AV.b n]
abbrev nats (l : List Nat) : List (List AV) := l.map fun n : Nat => [AV.i (n : Int)]
theorem ints_idf (l : List Int) : ∀ e, e ∈ ints l → AV.idfL e = true := by intro e he; obtain ⟨i, _, rfl⟩ := List.mem_map.1 he; rfl
theorem bools_idf (l : List Bool) : ∀ e, e ∈ bools l → AV.idfL e = true := by intro e he; obtain ⟨i, _, rfl⟩ := List.mem_map.1 he; rfl
theorem nats_idf (l : List Nat) : ∀ e, e ∈ nats l → AV.idfL e = true := by intro e he; obtain ⟨i, _, rfl⟩ := List.mem_map.1 he; rfl
theorem idfL_flat : ∀ {es : List (List AV)}, (∀ e, e ∈ es → AV.idfL e = true) → AV.idfL es.flatten = true
  | [], _ => rfl
  | e :: es, h => by
    have h1 := h e List.mem_cons_self
    have h2 := idfL_flat (es := es) fun q hq => h q (List.mem_cons_of_mem _ hq)
    have app : ∀ (a b : List AV), AV.idfL a = true → AV.idfL b = true → AV.idfL (a ++ b) = true := by
      intro a
      induction a with
      | nil => exact fun b _ hb => hb
      | cons x a ih =>
        intro b ha hb
        simp only [List.cons_append, AV.idfL, Bool.and_eq_true] at ha ⊢
        exact ⟨ha.1, ih b ha.2 hb⟩
    exact app _ _ h1 h2
theorem getD_at {α : Type} {l : List α} {i : Nat} {d x : α} (h : l.getD i d = x) (hlt : i < l.length) : l[i]? = some x := by
  rw [List.getElem?_eq_getElem hlt]
  rw [List.getD_eq_getElem?_getD, List.getElem?_eq_getElem hlt] at h
  simpa using h

/-- The objects of 'reach': its variables, and what these point to. -/
abbrev reachH (N off len : Nat) (op : List Bool) (out : List Int) (qa : List (List AV)) : Hp := [.cells [.sl 3 0 N 1], .cells [.sl 4 0 N 1], .cells [.sl 5 off len 1], .arr (bools op) 1, .arr (ints out) 1, .arr qa 1]
theorem lt6 : ∀ i : Nat, i < 6 → ([0, 1, 2, 3, 4, 5] : List Nat)[i]? = some i := by decide
theorem lt6' : ∀ i : Nat, i < 6 → ([0, 1, 2, 3, 4, 5, 7] : List Nat)[i]? = some i := by decide
theorem reach_no {N off len c : Nat} {n : Int} {op : List Bool} {out : List Int} {qa : List (List AV)} (ho : op.length = N) (hc : c < N) (h0 : op.getD c false = false) (hq : ∀ e, e ∈ qa → AV.idfL e = true) :
    ACall Try.prog 40 [.i (c : Int), .i n, .ptr 0 0, .ptr 1 0, .ptr 2 0] (reachH N off len op out qa) (.tup []) (reachH N off len op out qa) := by
  have e1 : (bools op)[0 + (c : Int).toNat]? = some [AV.b false] := by rw [Nat.zero_add, Int.toNat_natCast, List.getElem?_map, getD_at h0 (by omega)]; rfl
  refine acall T Try.func40 rfl rfl rfl rfl ?_
  repeat' (first | (first | (refine aw_seq ?_) | (refine aw_block ?_) | (refine aw_skip ?_) | (refine aw_ret ?_) | (refine aw_exit ?_)) | (first | (refine aw_condt rfl ?_) | (refine aw_condf rfl ?_) | (refine aw_cond rfl (fun hb => ?_) (fun hb => ?_) <;> (first | subst hb | ((try simp only [decide_eq_true_eq, decide_eq_false_iff_not, Bool.not_true, Bool.not_false, Bool.not_eq_true', Bool.not_eq_false', Bool.and_eq_true, Bool.or_eq_true, Bool.and_eq_false_iff, Bool.or_eq_false_iff, Int.not_lt, Int.not_le, Int.le_min, Int.lt_min, Int.max_le, Int.max_lt] at hb); try ((exfalso; omega); done))))) | (((refine aw_region (id := 0) ?_)); (all_goals first | (refine vc_v (by first | exact fs_load T rfl rfl rfl rfl | exact fs_load T rfl rfl (behind_ep rfl e1) rfl) rfl ?_)); (all_goals first | (refine vc_v (by first | exact fs_move rfl) rfl ?_)); (all_goals first | (refine vc_v (by first | exact fs_indexOwn T rfl rfl rfl rfl rfl (by omega) (by omega)) rfl ?_)); (all_goals first | (refine vc_v (by first | exact fs_load T rfl rfl rfl rfl | exact fs_load T rfl rfl (behind_ep rfl e1) rfl) rfl ?_)); (all_goals (refine vc_nilp (by (first | (dsimp only [List.nil_append, List.cons_append, List.append_nil, List.length_cons, List.length_nil, List.set_cons_zero, List.set_cons_succ, List.map_cons, List.map_nil, putAt, putd, allObjs, argEnv, un_v, un_ptr, un_ep, un_pr, un_sl, un_row, un_agg, un_tup, un_clo, un_ifc, Nat.zero_add, Nat.add_zero, Nat.reduceAdd, Bool.not_true, Bool.not_false]; first | done | exact rfl) | exact rfl)) ?_))))
  exact ⟨.inr rfl, [0, 1, 2, 3, 4, 5], [], rfl, rfl, rfl, ⟨.inr rfl, .inr rfl, .inr rfl, .inr (sub_arr rfl rfl (bools_idf op)), .inr (sub_arr rfl rfl (ints_idf out)), .inr (sub_arr rfl rfl hq), trivial⟩, by decide, lt6⟩

theorem reach_yes {N c : Nat} {n : Int} {op : List Bool} {out : List Int} {pre q : List Nat} (ho : op.length = N) (hu : out.length = N) (hN : N ≤ 300) (hc : c < N) (h0 : op.getD c false = true) (hq : q.length ≤ 300) :
    ACall Try.prog 40 [.i (c : Int), .i n, .ptr 0 0, .ptr 1 0, .ptr 2 0] (reachH N pre.length q.length op out (nats (pre ++ q))) (.tup []) [.cells [.sl 3 0 N 1], .cells [.sl 4 0 N 1], .cells [.sl 6 0 (q.length + 1) 1], .arr (bools (op.set c false)) 1, .arr (ints (out.set c n)) 1, .gone, .arr (nats (q ++ [c])) 1] := by
  have e1 : (bools op)[0 + (c : Int).toNat]? = some [AV.b true] := by rw [Nat.zero_add, Int.toNat_natCast, List.getElem?_map, getD_at h0 (by omega)]; rfl
  have hol : c < out.length := by omega
  have e2 : (ints out)[0 + (c : Int).toNat]? = some [AV.i out[c]] := by rw [Nat.zero_add, Int.toNat_natCast, List.getElem?_map, List.getElem?_eq_getElem hol]; rfl
  refine acall T Try.func40 rfl rfl rfl rfl ?_
  repeat' (first | (first | (refine aw_seq ?_) | (refine aw_block ?_) | (refine aw_skip ?_) | (refine aw_ret ?_) | (refine aw_exit ?_)) | (first | (refine aw_condt rfl ?_) | (refine aw_condf rfl ?_) | (refine aw_cond rfl (fun hb => ?_) (fun hb => ?_) <;> (first | subst hb | ((try simp only [decide_eq_true_eq, decide_eq_false_iff_not, Bool.not_true, Bool.not_false, Bool.not_eq_true', Bool.not_eq_false', Bool.and_eq_true, Bool.or_eq_true, Bool.and_eq_false_iff, Bool.or_eq_false_iff, Int.not_lt, Int.not_le, Int.le_min, Int.lt_min, Int.max_le, Int.max_lt] at hb); try ((exfalso; omega); done))))) | (((refine aw_region (id := 0) ?_)); (all_goals first | (refine vc_v (by first | exact fs_load T rfl rfl rfl rfl | exact fs_load T rfl rfl (behind_ep rfl e1) rfl) rfl ?_)); (all_goals first | (refine vc_v (by first | exact fs_move rfl) rfl ?_)); (all_goals first | (refine vc_v (by first | exact fs_indexOwn T rfl rfl rfl rfl rfl (by omega) (by omega)) rfl ?_)); (all_goals first | (refine vc_v (by first | exact fs_load T rfl rfl rfl rfl | exact fs_load T rfl rfl (behind_ep rfl e1) rfl) rfl ?_)); (all_goals (refine vc_nilp (by (first | (dsimp only [List.nil_append, List.cons_append, List.append_nil, List.length_cons, List.length_nil, List.set_cons_zero, List.set_cons_succ, List.map_cons, List.map_nil, putAt, putd, allObjs, argEnv, un_v, un_ptr, un_ep, un_pr, un_sl, un_row, un_agg, un_tup, un_clo, un_ifc, Nat.zero_add, Nat.add_zero, Nat.reduceAdd, Bool.not_true, Bool.not_false]; first | done | exact rfl) | exact rfl)) ?_))) | (((refine aw_draw3k (id := 1) 22 [[], [], [], [], [], [0, 1], [0, 1, 5]] [11, 12, 13, 14, 15, 16] [[], [11], [11, 12], [11, 12, 13], [11, 12, 13, 14], [13, 14, 15], [13, 14, 15]] [(6, 3)] mixedP rfl (by decide +kernel) ?_)); (all_goals (refine dws_v rfl rfl rfl rfl (by first | exact fs_load T rfl rfl rfl rfl | exact fs_load T rfl rfl (behind_ep rfl e1) rfl) ?_)); (all_goals (refine dws_v rfl rfl rfl rfl (by first | exact fs_move rfl) ?_)); (all_goals (refine dws_v rfl rfl rfl rfl (by first | exact fs_load T rfl rfl rfl rfl | exact fs_load T rfl rfl (behind_ep rfl e1) rfl) ?_)); (all_goals (refine dws_v rfl rfl rfl rfl (by first | exact fs_move rfl) ?_)); (all_goals (refine dws_v rfl rfl rfl rfl (by first | exact fs_move rfl) ?_)); (all_goals (refine dws_v rfl rfl rfl rfl (by first | exact fs_indexOwn T rfl rfl rfl rfl rfl (by omega) (by omega)) ?_)); (all_goals first | (refine dws_st rfl rfl rfl rfl (Nat.le_of_ble_eq_true rfl) T rfl rfl rfl rfl rfl rfl (by decide) rfl ?_) | (refine dws_st rfl rfl rfl rfl (Nat.le_of_ble_eq_true rfl) T rfl rfl rfl rfl rfl rfl (by decide) (updB_ep rfl e1 rfl) ?_)); (all_goals (refine dws_fin rfl rfl rfl (by first | (dsimp only [applyS, List.nil_append, List.cons_append, List.append_nil, List.length_cons, List.length_nil, List.set_cons_zero, List.set_cons_succ, List.map_cons, List.map_nil, putAt, putd, allObjs, argEnv, un_v, un_ptr, un_ep, un_pr, un_sl, un_row, un_agg, un_tup, un_clo, un_ifc, Nat.zero_add, Nat.add_zero, Nat.reduceAdd, Bool.not_true, Bool.not_false]; exact rfl) | exact rfl) ?_)); (all_goals first | (refine vc_v (by first | exact fs_indexOwn T rfl rfl rfl rfl rfl (by omega) (by omega)) rfl ?_)); (all_goals first | (refine vc_store T rfl rfl rfl rfl rfl rfl (by decide) rfl ?_) | (refine vc_store T rfl rfl rfl rfl rfl rfl (by decide) (upd_ep rfl e2 rfl) ?_)); (all_goals (refine vc_nilp (by (first | (dsimp only [List.nil_append, List.cons_append, List.append_nil, List.length_cons, List.length_nil, List.set_cons_zero, List.set_cons_succ, List.map_cons, List.map_nil, putAt, putd, allObjs, argEnv, un_v, un_ptr, un_ep, un_pr, un_sl, un_row, un_agg, un_tup, un_clo, un_ifc, Nat.zero_add, Nat.add_zero, Nat.reduceAdd, Bool.not_true, Bool.not_false]; first | done | exact rfl) | exact rfl)) ?_))) | (((refine aw_region (id := 2) ?_)); (all_goals first | (refine vc_v (by first | exact fs_load T rfl rfl rfl rfl | exact fs_load T rfl rfl (behind_ep rfl e1) rfl) rfl ?_)); (all_goals first | (refine vc_v (by first | exact fs_move rfl) rfl ?_)); (all_goals first | (refine vc_n (by first | exact fs_buildSlice T rfl rfl (by decide) (by decide) rfl rfl rfl) rfl ?_)); (all_goals first | (refine vc_append T rfl rfl rfl rfl rfl rfl (by simp) (Elems.whole rfl rfl) rfl (by simp; omega) (by simp; omega) rfl ?_)); (all_goals first | (refine vc_store T rfl rfl rfl rfl rfl rfl (by decide) rfl ?_) | (refine vc_store T rfl rfl rfl rfl rfl rfl (by decide) (upd_ep rfl e2 rfl) ?_)); (all_goals (refine vc_nilp (by (first | (dsimp only [List.nil_append, List.cons_append, List.append_nil, List.length_cons, List.length_nil, List.set_cons_zero, List.set_cons_succ, List.map_cons, List.map_nil, putAt, putd, allObjs, argEnv, un_v, un_ptr, un_ep, un_pr, un_sl, un_row, un_agg, un_tup, un_clo, un_ifc, Nat.zero_add, Nat.add_zero, Nat.reduceAdd, Bool.not_true, Bool.not_false]; first | done | exact rfl) | exact rfl)) ?_))))
  exact ⟨.inr rfl, [0, 1, 2, 3, 4, 5, 7], [], rfl, rfl, rfl, ⟨.inr rfl, .inr rfl, .inr rfl, .inr (sub_arr rfl (by simp [List.map_set]) (bools_idf _)), .inr (sub_arr rfl (by simp [List.map_set]) (ints_idf _)), .inl rfl, .inr (sub_arr rfl (by simp; exact List.take_of_length_le (by simp)) (nats_idf _)), trivial⟩, by decide, lt6'⟩
end Go.Proofs.Ytilcbhnhcmdhkaa
