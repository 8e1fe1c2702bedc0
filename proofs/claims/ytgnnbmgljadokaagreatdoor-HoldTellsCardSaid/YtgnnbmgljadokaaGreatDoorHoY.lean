/-
  Layer 17: the reference's table: Of, Drop, Len, Owners, New.
-/
import Derived.Test.YtgnnbmgljadokaaGreatDoorHoX
namespace Go.Proofs.YtgnnbmgljadokaaGreatDoor
open Go Go.Ab Go.Ho
set_option linter.unusedVariables false
set_option linter.unusedSimpArgs false
attribute [local irreducible] VC AW FStep ACall
set_option maxHeartbeats 4000000
theorem Rep.getD {w : List Int} {m : Tb} (r : Rep w m) {j : Nat} (h : j < 8192) : w.getD j 0 = own m j := by
  rw [List.getD_eq_getElem?_getD, r.get j h]; rfl
def ofI (w : List Int) (o : Int) (i : Nat) : List Int := ((List.range i).filter fun j => decide (w.getD j 0 = o)).map fun j : Nat => (j : Int)
theorem ofI_yes {w : List Int} {o : Int} {i : Nat} (h : w.getD i 0 = o) : ofI w o (i + 1) = ofI w o i ++ [(i : Int)] := by
  unfold ofI
  rw [List.range_succ, List.filter_append, List.map_append]
  simp only [List.filter_cons, List.filter_nil, h, decide_true, if_true, List.map_cons, List.map_nil]
theorem ofI_no {w : List Int} {o : Int} {i : Nat} (h : w.getD i 0 ≠ o) : ofI w o (i + 1) = ofI w o i := by
  unfold ofI
  rw [List.range_succ, List.filter_append, List.map_append]
  have e : (List.filter (fun j => decide (w.getD j 0 = o)) [i]) = [] := by
    rw [List.filter_cons, decide_eq_false h]; rfl
  rw [e, List.map_nil, List.append_nil]
theorem ofI_len (w : List Int) (o : Int) (i : Nat) : (ofI w o i).length ≤ i := by
  unfold ofI
  rw [List.length_map]
  have := List.length_filter_le (fun j => decide (w.getD j 0 = o)) (List.range i)
  simpa using this
theorem ofI_asc (w : List Int) (o : Int) (i : Nat) : Asc (ofI w o i) := by
  unfold ofI
  rw [Asc, List.pairwise_map]
  exact (List.pairwise_lt_range.sublist List.filter_sublist).imp fun h => by omega
theorem ofI_all {w : List Int} {m : Tb} (r : Rep w m) (h : Ok m) {o : Int} (ho : 0 ≤ o) : ofI w o 8192 = ofL m o := by
  refine asc_eq (ofI_asc _ _ _) (nd_asc (nd_outL h List.nodup_range fun i hi => List.mem_range.1 hi)) fun x => ?_
  show _ ↔ x ∈ ofL m o
  rw [of_iff h ho]
  unfold ofI
  simp only [List.mem_map, List.mem_filter, List.mem_range, decide_eq_true_eq]
  constructor
  · rintro ⟨j, ⟨hj, e⟩, rfl⟩
    rw [← r.getD hj]; exact e
  · intro e
    have hs := h.slot (n := x) (by rw [e]; exact ho)
    refine ⟨x.toNat, ⟨by omega, ?_⟩, by omega⟩
    rw [r.getD (by omega), Int.toNat_of_nonneg hs.1]; exact e
theorem ofL_neg {m : Tb} (h : Ok m) {o : Int} (ho : o < 0) : ofL m o = [] := by
  rw [List.eq_nil_iff_forall_not_mem]
  intro n hn
  have := (h.mem.1 (mem_ofL.1 hn)).2
  omega
def dropI (w : List Int) (o : Int) (i : Nat) : List Int := ((w.take i).map fun x => if x = o then -1 else x) ++ w.drop i
theorem dropI_len {w : List Int} {o : Int} {i : Nat} : (dropI w o i).length = w.length := by
  unfold dropI
  rw [List.length_append, List.length_map, ← List.length_append, List.take_append_drop]
theorem dropI_at {w : List Int} {o : Int} {i : Nat} (h : i < w.length) : (dropI w o i)[i]? = some (w.getD i 0) := by
  unfold dropI
  rw [List.getElem?_append_right (by rw [List.length_map, List.length_take]; omega), List.length_map, List.length_take, Nat.min_eq_left (by omega), Nat.sub_self, List.getElem?_drop, Nat.add_zero, List.getElem?_eq_getElem h, List.getD_eq_getElem?_getD, List.getElem?_eq_getElem h]
  rfl
theorem dropI_step {w : List Int} {o : Int} {i : Nat} (h : i < w.length) : dropI w o (i + 1) = (dropI w o i).set i (if w.getD i 0 = o then -1 else w.getD i 0) := by
  have e : w.getD i 0 = w[i] := by rw [List.getD_eq_getElem?_getD, List.getElem?_eq_getElem h]; rfl
  have hl : (List.map (fun x => if x = o then (-1 : Int) else x) (List.take i w)).length = i := by rw [List.length_map, List.length_take]; omega
  unfold dropI
  rw [e, List.take_succ_eq_append_getElem h, List.map_append, List.set_append_right _ _ (by omega), hl, Nat.sub_self, List.drop_eq_getElem_cons h, List.set_cons_zero, List.append_assoc]
  rfl
theorem dropI_no {w : List Int} {o : Int} {i : Nat} (h : i < w.length) (e : w.getD i 0 ≠ o) : dropI w o (i + 1) = dropI w o i := by
  rw [dropI_step h, if_neg e]
  apply List.ext_getElem?
  intro j
  rw [List.getElem?_set]
  split
  · rename_i hj
    subst hj
    rw [if_pos (by rw [dropI_len]; exact h), dropI_at h]
  · rfl
def dropW (w : List Int) (o : Int) : List Int := if 0 ≤ o then dropI w o 8192 else w
theorem own_dropT {m : Tb} (h : Ok m) (o n : Int) : own (dropT m o) n = if n ∈ ofL m o then -1 else own m n := by
  unfold dropT delL
  rw [List.take_length, own_delF h]
theorem Rep.drop {w : List Int} {m : Tb} (r : Rep w m) (h : Ok m) (o : Int) : Rep (dropW w o) (dropT m o) := by
  unfold dropW
  split
  · rename_i ho
    refine ⟨by rw [dropI_len, r.len], fun n hn => ?_⟩
    rw [own_dropT h]
    unfold dropI
    rw [List.take_of_length_le (by rw [r.len]; omega), List.drop_of_length_le (by rw [r.len]; omega), List.append_nil, List.getElem?_map, r.get n hn]
    simp only [Option.map_some, of_iff h ho]
  · rename_i ho
    have e : dropT m o = m := by
      unfold dropT
      rw [ofL_neg h (by omega)]
      rfl
    rw [e]; exact r
theorem qdrop_c {w : List Int} {m : Tb} (r : Rep w m) (h : Ok m) (o : Int) : ACall Tryz.prog 47 [.ptr 0 0, .i o] (whoH w) (.i (ofL m o).length) (whoH (dropW w o)) := by
  have hwl := r.hl
  refine acall T Tryz.func47 rfl rfl rfl rfl ?_
  by_cases ho : 0 ≤ o
  · have hof := ofI_all r h ho
    rw [show dropW w o = dropI w o 8192 from if_pos ho, ← hof]
    repeat' (first | refine wS ?_ | refine wB ?_ | refine wK ?_ | refine wR ?_ | refine wE ?_ | refine aw_condt rfl ?_ | refine aw_condf rfl ?_ | (refine wC rfl (fun hb => ?_) (fun hb => ?_) <;> (first | subst hb | ((try simp only [nm] at hb); try (exfalso; omega)))) | (((refine rg 0 ?_)); (all_goals (refine va rfl rfl ?_))) | (((refine rg 1 ?_)); (all_goals (refine va rfl rfl ?_))) | (((refine rg 2 ?_)); (all_goals (refine va rfl rfl ?_))) | (refine vc_nilp (by (first | (dsimp only [ln1, ln2, List.append_nil, ln4, ln5, ln6, ln7, ln8, ln9, putAt, putd, allObjs, argEnv, un_v, un_ptr, un_ep, un_pr, un_sl, un_mp, un_row, un_agg, un_tup, un_clo, Nat.zero_add, lnb, Nat.reduceAdd, lnc, lnd]; first | done | exact rfl) | exact rfl)) ?_))
    refine aw_loop (X := {i : Nat // i ≤ 8192}) (fun i => [(0, .ptr 0 0), (1, .i o), (5, .i (ofI w o i.1).length), (6, .i i.1)]) (fun i => whoH (dropI w o i.1)) (fun i => 8192 - i.1) ⟨0, by omega⟩ ⟨[0, 1], rfl, (by (repeat (first | exact trivial | refine ⟨rfl, ?_⟩))), ⟨.inr rfl, .inr (sub_arr rfl rfl (ints_idf _)), trivial⟩, by decide, lt2w⟩ ?_
    rintro ⟨i, hi⟩
    dsimp only
    have hil := ofI_len w o i
    have hvl : (ints (dropI w o i)).length = 8192 := by rw [ints_length, dropI_len, r.len]
    by_cases hlt : i < 8192
    · have q2 : (ints (dropI w o i))[0 + (i : Int).toNat]? = some [AV.i (w.getD i 0)] := by
        rw [Nat.zero_add, Int.toNat_natCast, List.getElem?_map, dropI_at (by rw [r.len]; exact hlt)]; rfl
      have hst := dropI_step (w := w) (o := o) (i := i) (by rw [r.len]; exact hlt)
      have hno := dropI_no (w := w) (o := o) (i := i) (by rw [r.len]; exact hlt)
      have hy := ofI_yes (w := w) (o := o) (i := i)
      have hn := ofI_no (w := w) (o := o) (i := i)
      generalize w.getD i 0 = x at *
      by_cases e : x = o
      · rw [if_pos e] at hst
        have hy2 := congrArg List.length (hy e)
        rw [List.length_append, List.length_singleton] at hy2
        generalize dropI w o i = v at *
        repeat' (first | refine wS ?_ | refine wB ?_ | refine wK ?_ | refine wR ?_ | refine wE ?_ | refine aw_condt rfl ?_ | refine aw_condf rfl ?_ | (refine wC rfl (fun hb => ?_) (fun hb => ?_) <;> (first | subst hb | ((try simp only [nm] at hb); try (exfalso; omega)))) | (((refine rg 3 ?_)); (all_goals (refine vm rfl rfl ?_; refine vm rfl rfl ?_; refine vN rfl rfl rfl ?_; refine vF T rfl rfl rfl rfl ?_; refine vc_v (by first | exact fs_load T rfl rfl rfl rfl | exact fs_load T rfl rfl (behind_ep rfl q2) rfl) rfl ?_; refine vc_v (by first | exact fs_lenOwn T rfl rfl | exact fs_lenRow T rfl rfl | exact fs_lenNil T rfl rfl) rfl ?_; refine vc_v (by first | exact fs_lssT rfl rfl (by omega) | exact fs_lssF rfl rfl (by omega) | exact fs_geqT rfl rfl ho | exact fs_lss rfl rfl) rfl ?_; refine vm rfl rfl ?_)); (all_goals first | (refine vc_gt rfl rfl ?_ rfl; (refine vm rfl rfl ?_)) | (refine vc_gf rfl rfl ?_ rfl) | (refine vc_gu rfl rfl ?_ rfl)); (all_goals first | (refine vc_gt rfl rfl ?_ rfl; (refine vc_v (by first | exact fs_lssT rfl rfl (by omega) | exact fs_lssF rfl rfl (by omega) | exact fs_geqT rfl rfl ho | exact fs_geq rfl rfl) rfl ?_)) | (refine vc_gf rfl rfl ?_ rfl) | (refine vc_gu rfl rfl ?_ rfl)); (all_goals (refine vc_v (by first | exact fs_pickt rfl rfl | exact fs_pickf rfl rfl | exact fs_pick rfl rfl rfl) rfl ?_))) | (((refine rg 5 ?_)); (all_goals (refine vm rfl rfl ?_; refine vN rfl rfl rfl ?_; refine vF T rfl rfl rfl rfl ?_; refine vc_v (by first | exact fs_load T rfl rfl rfl rfl | exact fs_load T rfl rfl (behind_ep rfl q2) rfl) rfl ?_; refine vm rfl rfl ?_; refine vc_v (by exact fs_indexOwn T rfl rfl rfl rfl rfl (by omega) (by omega)) rfl ?_; refine vc_v (by first | exact fs_load T rfl rfl rfl rfl | exact fs_load T rfl rfl (behind_ep rfl q2) rfl) rfl ?_; refine vm rfl rfl ?_; refine vc_v (by first | exact fs_lssT rfl rfl (by omega) | exact fs_lssF rfl rfl (by omega) | exact fs_geqT rfl rfl ho | exact fs_eqlT rfl rfl e | exact fs_eql rfl rfl) rfl ?_))) | (((refine rg 6 ?_)); (all_goals (refine vm rfl rfl ?_; refine vN rfl rfl rfl ?_; refine vF T rfl rfl rfl rfl ?_; refine vc_v (by first | exact fs_load T rfl rfl rfl rfl | exact fs_load T rfl rfl (behind_ep rfl q2) rfl) rfl ?_; refine vm rfl rfl ?_; refine vc_v (by exact fs_indexOwn T rfl rfl rfl rfl rfl (by omega) (by omega)) rfl ?_)); (all_goals first | (refine vc_store T rfl rfl rfl rfl rfl rfl (by decide) rfl ?_) | (refine vc_store T rfl rfl rfl rfl rfl rfl (by decide) (upd_ep rfl q2 rfl) ?_))) | (((refine rg 7 ?_)); (all_goals (refine vm rfl rfl ?_; refine vc_v (by first | exact fs_lssT rfl rfl (by omega) | exact fs_lssF rfl rfl (by omega) | exact fs_geqT rfl rfl ho | exact fs_addr rfl rfl (by omega) (by omega) | exact fs_add rfl rfl) rfl ?_; refine va rfl rfl ?_))) | (((refine rg 4 ?_)); (all_goals (refine vm rfl rfl ?_; refine vc_v (by first | exact fs_lssT rfl rfl (by omega) | exact fs_lssF rfl rfl (by omega) | exact fs_geqT rfl rfl ho | exact fs_addr rfl rfl (by omega) (by omega) | exact fs_add rfl rfl) rfl ?_; refine va rfl rfl ?_))) | (refine vc_nilp (by (first | (dsimp only [ln1, ln2, List.append_nil, ln4, ln5, ln6, ln7, ln8, ln9, putAt, putd, allObjs, argEnv, un_v, un_ptr, un_ep, un_pr, un_sl, un_mp, un_row, un_agg, un_tup, un_clo, Nat.zero_add, lnb, Nat.reduceAdd, lnc, lnd]; first | done | exact rfl) | exact rfl)) ?_))
        all_goals first | (exfalso; omega) | exact ⟨⟨i + 1, hlt⟩, by dsimp only; omega, [0, 1], rfl, ⟨rfl, rfl, by dsimp only; rw [hy2]; rfl, rfl, trivial⟩, ⟨.inr rfl, .inr (sub_arr rfl (by dsimp only; rw [hst]; exact ints_sO rfl) (ints_idf _)), trivial⟩, by decide, lt2w⟩
      · have hno := hno e
        have hn := hn e
        generalize dropI w o i = v at *
        repeat' (first | refine wS ?_ | refine wB ?_ | refine wK ?_ | refine wR ?_ | refine wE ?_ | refine aw_condt rfl ?_ | refine aw_condf rfl ?_ | (refine wC rfl (fun hb => ?_) (fun hb => ?_) <;> (first | subst hb | ((try simp only [nm] at hb); try (exfalso; omega)))) | (((refine rg 3 ?_)); (all_goals (refine vm rfl rfl ?_; refine vm rfl rfl ?_; refine vN rfl rfl rfl ?_; refine vF T rfl rfl rfl rfl ?_; refine vc_v (by first | exact fs_load T rfl rfl rfl rfl | exact fs_load T rfl rfl (behind_ep rfl q2) rfl) rfl ?_; refine vc_v (by first | exact fs_lenOwn T rfl rfl | exact fs_lenRow T rfl rfl | exact fs_lenNil T rfl rfl) rfl ?_; refine vc_v (by first | exact fs_lssT rfl rfl (by omega) | exact fs_lssF rfl rfl (by omega) | exact fs_geqT rfl rfl ho | exact fs_lss rfl rfl) rfl ?_; refine vm rfl rfl ?_)); (all_goals first | (refine vc_gt rfl rfl ?_ rfl; (refine vm rfl rfl ?_)) | (refine vc_gf rfl rfl ?_ rfl) | (refine vc_gu rfl rfl ?_ rfl)); (all_goals first | (refine vc_gt rfl rfl ?_ rfl; (refine vc_v (by first | exact fs_lssT rfl rfl (by omega) | exact fs_lssF rfl rfl (by omega) | exact fs_geqT rfl rfl ho | exact fs_geq rfl rfl) rfl ?_)) | (refine vc_gf rfl rfl ?_ rfl) | (refine vc_gu rfl rfl ?_ rfl)); (all_goals (refine vc_v (by first | exact fs_pickt rfl rfl | exact fs_pickf rfl rfl | exact fs_pick rfl rfl rfl) rfl ?_))) | (((refine rg 5 ?_)); (all_goals (refine vm rfl rfl ?_; refine vN rfl rfl rfl ?_; refine vF T rfl rfl rfl rfl ?_; refine vc_v (by first | exact fs_load T rfl rfl rfl rfl | exact fs_load T rfl rfl (behind_ep rfl q2) rfl) rfl ?_; refine vm rfl rfl ?_; refine vc_v (by exact fs_indexOwn T rfl rfl rfl rfl rfl (by omega) (by omega)) rfl ?_; refine vc_v (by first | exact fs_load T rfl rfl rfl rfl | exact fs_load T rfl rfl (behind_ep rfl q2) rfl) rfl ?_; refine vm rfl rfl ?_; refine vc_v (by first | exact fs_lssT rfl rfl (by omega) | exact fs_lssF rfl rfl (by omega) | exact fs_geqT rfl rfl ho | exact fs_eqlF rfl rfl e | exact fs_eql rfl rfl) rfl ?_))) | (((refine rg 4 ?_)); (all_goals (refine vm rfl rfl ?_; refine vc_v (by first | exact fs_lssT rfl rfl (by omega) | exact fs_lssF rfl rfl (by omega) | exact fs_geqT rfl rfl ho | exact fs_addr rfl rfl (by omega) (by omega) | exact fs_add rfl rfl) rfl ?_; refine va rfl rfl ?_))) | (refine vc_nilp (by (first | (dsimp only [ln1, ln2, List.append_nil, ln4, ln5, ln6, ln7, ln8, ln9, putAt, putd, allObjs, argEnv, un_v, un_ptr, un_ep, un_pr, un_sl, un_mp, un_row, un_agg, un_tup, un_clo, Nat.zero_add, lnb, Nat.reduceAdd, lnc, lnd]; first | done | exact rfl) | exact rfl)) ?_))
        all_goals first | (exfalso; omega) | exact ⟨⟨i + 1, hlt⟩, by dsimp only; omega, [0, 1], rfl, ⟨rfl, rfl, by dsimp only; rw [hn]; rfl, rfl, trivial⟩, ⟨.inr rfl, .inr (sub_arr rfl (by dsimp only; rw [hno]) (ints_idf _)), trivial⟩, by decide, lt2w⟩
    · obtain rfl : i = 8192 := by omega
      generalize dropI w o 8192 = v at *
      generalize ofI w o 8192 = u at *
      repeat' (first | refine wS ?_ | refine wB ?_ | refine wK ?_ | refine wR ?_ | refine wE ?_ | refine aw_condt rfl ?_ | refine aw_condf rfl ?_ | (refine wC rfl (fun hb => ?_) (fun hb => ?_) <;> (first | subst hb | ((try simp only [nm] at hb); try (exfalso; omega)))) | (((refine rg 3 ?_)); (all_goals (refine vm rfl rfl ?_; refine vm rfl rfl ?_; refine vN rfl rfl rfl ?_; refine vF T rfl rfl rfl rfl ?_; refine vL T rfl rfl rfl rfl rfl ?_; refine vc_v (by first | exact fs_lenOwn T rfl rfl | exact fs_lenRow T rfl rfl | exact fs_lenNil T rfl rfl) rfl ?_; refine vc_v (by first | exact fs_lssT rfl rfl (by omega) | exact fs_lssF rfl rfl (by omega) | exact fs_lss rfl rfl) rfl ?_; refine vm rfl rfl ?_)); (all_goals first | (refine vc_gt rfl rfl ?_ rfl; (refine vm rfl rfl ?_)) | (refine vc_gf rfl rfl ?_ rfl) | (refine vc_gu rfl rfl ?_ rfl)); (all_goals first | (refine vc_gt rfl rfl ?_ rfl; (refine vc_v (by first | exact fs_lssT rfl rfl (by omega) | exact fs_lssF rfl rfl (by omega) | exact fs_geq rfl rfl) rfl ?_)) | (refine vc_gf rfl rfl ?_ rfl) | (refine vc_gu rfl rfl ?_ rfl)); (all_goals (refine vc_v (by first | exact fs_pickt rfl rfl | exact fs_pickf rfl rfl | exact fs_pick rfl rfl rfl) rfl ?_))) | (((refine rg 8 ?_)); (all_goals (refine vm rfl rfl ?_; refine va rfl rfl ?_))) | (refine vc_nilp (by (first | (dsimp only [ln1, ln2, List.append_nil, ln4, ln5, ln6, ln7, ln8, ln9, putAt, putd, allObjs, argEnv, un_v, un_ptr, un_ep, un_pr, un_sl, un_mp, un_row, un_agg, un_tup, un_clo, Nat.zero_add, lnb, Nat.reduceAdd, lnc, lnd]; first | done | exact rfl) | exact rfl)) ?_))
      all_goals first | (exfalso; omega) | exact ⟨.inl rfl, [0, 1], _, rfl, rfl, rfl, ⟨.inr rfl, .inr (sub_arr rfl rfl (ints_idf _)), trivial⟩, by decide, lt2w⟩
  · rw [show dropW w o = w from if_neg ho, ofL_neg h (by omega)]
    repeat' (first | refine wS ?_ | refine wB ?_ | refine wK ?_ | refine wR ?_ | refine wE ?_ | refine aw_condt rfl ?_ | refine aw_condf rfl ?_ | (refine wC rfl (fun hb => ?_) (fun hb => ?_) <;> (first | subst hb | ((try simp only [nm] at hb); try (exfalso; omega)))) | (((refine rg 0 ?_)); (all_goals (refine va rfl rfl ?_))) | (((refine rg 1 ?_)); (all_goals (refine va rfl rfl ?_))) | (((refine rg 2 ?_)); (all_goals (refine va rfl rfl ?_))) | (refine vc_nilp (by (first | (dsimp only [ln1, ln2, List.append_nil, ln4, ln5, ln6, ln7, ln8, ln9, putAt, putd, allObjs, argEnv, un_v, un_ptr, un_ep, un_pr, un_sl, un_mp, un_row, un_agg, un_tup, un_clo, Nat.zero_add, lnb, Nat.reduceAdd, lnc, lnd]; first | done | exact rfl) | exact rfl)) ?_))
    refine aw_loop (X := Unit) (fun _ => [(0, .ptr 0 0), (1, .i o), (5, .i 0), (6, .i 0)]) (fun _ => whoH w) (fun _ => 0) () ⟨[0, 1], rfl, (by (repeat (first | exact trivial | refine ⟨rfl, ?_⟩))), ⟨.inr rfl, .inr (sub_arr rfl rfl (ints_idf _)), trivial⟩, by decide, lt2w⟩ ?_
    intro _
    repeat' (first | refine wS ?_ | refine wB ?_ | refine wK ?_ | refine wR ?_ | refine wE ?_ | refine aw_condt rfl ?_ | refine aw_condf rfl ?_ | (refine wC rfl (fun hb => ?_) (fun hb => ?_) <;> (first | subst hb | ((try simp only [nm] at hb); try (exfalso; omega)))) | (((refine rg 3 ?_)); (all_goals (refine vm rfl rfl ?_; refine vm rfl rfl ?_; refine vN rfl rfl rfl ?_; refine vF T rfl rfl rfl rfl ?_; refine vL T rfl rfl rfl rfl rfl ?_; refine vc_v (by first | exact fs_lenOwn T rfl rfl | exact fs_lenRow T rfl rfl | exact fs_lenNil T rfl rfl) rfl ?_; refine vc_v (by first | exact fs_lssT rfl rfl (by omega) | exact fs_lssF rfl rfl (by omega) | exact fs_geqF rfl rfl (by omega) | exact fs_lss rfl rfl) rfl ?_; refine vm rfl rfl ?_)); (all_goals first | (refine vc_gt rfl rfl ?_ rfl; (refine vm rfl rfl ?_)) | (refine vc_gf rfl rfl ?_ rfl) | (refine vc_gu rfl rfl ?_ rfl)); (all_goals first | (refine vc_gt rfl rfl ?_ rfl; (refine vc_v (by first | exact fs_lssT rfl rfl (by omega) | exact fs_lssF rfl rfl (by omega) | exact fs_geqF rfl rfl (by omega) | exact fs_geq rfl rfl) rfl ?_)) | (refine vc_gf rfl rfl ?_ rfl) | (refine vc_gu rfl rfl ?_ rfl)); (all_goals (refine vc_v (by first | exact fs_pickt rfl rfl | exact fs_pickf rfl rfl | exact fs_pick rfl rfl rfl) rfl ?_))) | (((refine rg 8 ?_)); (all_goals (refine vm rfl rfl ?_; refine va rfl rfl ?_))) | (refine vc_nilp (by (first | (dsimp only [ln1, ln2, List.append_nil, ln4, ln5, ln6, ln7, ln8, ln9, putAt, putd, allObjs, argEnv, un_v, un_ptr, un_ep, un_pr, un_sl, un_mp, un_row, un_agg, un_tup, un_clo, Nat.zero_add, lnb, Nat.reduceAdd, lnc, lnd]; first | done | exact rfl) | exact rfl)) ?_))
    all_goals first | (exfalso; omega) | exact ⟨.inl rfl, [0, 1], _, rfl, rfl, rfl, ⟨.inr rfl, .inr (sub_arr rfl rfl (ints_idf _)), trivial⟩, by decide, lt2w⟩
theorem lt2x : ∀ i : Nat, i < 2 → ([0, 1, 2] : List Nat)[i]? = some i := by decide
theorem lt2y : ∀ i : Nat, i < 2 → ([0, 1, 4] : List Nat)[i]? = some i := by decide
theorem qof_c {w : List Int} {m : Tb} (r : Rep w m) (h : Ok m) (o : Int) : ACall Tryz.prog 19 [.ptr 0 0, .i o] (whoH w) (.sl 2 0 (ofL m o).length 1) (whoH w ++ [.arr (ints (ofL m o)) 1]) := by
  have hwl := r.hl
  refine acall T Tryz.func19 rfl rfl rfl rfl ?_
  by_cases ho : 0 ≤ o
  · have hof := ofI_all r h ho
    rw [← hof]
    repeat' (first | refine wS ?_ | refine wB ?_ | refine wK ?_ | refine wR ?_ | refine wE ?_ | refine aw_condt rfl ?_ | refine aw_condf rfl ?_ | (refine wC rfl (fun hb => ?_) (fun hb => ?_) <;> (first | subst hb | ((try simp only [nm] at hb); try (exfalso; omega)))) | (((refine rg 0 ?_)); (all_goals (refine va rfl rfl ?_))) | (((refine rg 1 ?_)); (all_goals (refine va rfl rfl ?_))) | (((refine rg 2 ?_)); (all_goals (refine va rfl rfl ?_))) | (refine vc_nilp (by (first | (dsimp only [ln1, ln2, List.append_nil, ln4, ln5, ln6, ln7, ln8, ln9, putAt, putd, allObjs, argEnv, un_v, un_ptr, un_ep, un_pr, un_sl, un_mp, un_row, un_agg, un_tup, un_clo, Nat.zero_add, lnb, Nat.reduceAdd, lnc, lnd]; first | done | exact rfl) | exact rfl)) ?_))
    refine aw_own 5 1 rfl (by decide) ?_
    refine aw_loop (X := {i : Nat // i ≤ 8192}) (fun i => [(0, .ptr 0 0), (1, .i o), (5, .sl 2 0 (ofI w o i.1).length 1), (6, .i i.1)]) (fun i => [.cells [.sl 1 0 8192 1], .arr (ints w) 1, .arr (ints (ofI w o i.1)) 1]) (fun i => 8192 - i.1) ⟨0, by omega⟩ ⟨[0, 1, 2], rfl, (by (repeat (first | exact trivial | refine ⟨rfl, ?_⟩))), ⟨.inr rfl, .inr (sub_arr rfl rfl (ints_idf _)), .inr (sub_arr rfl rfl (ints_idf _)), trivial⟩, by decide, lt2x⟩ ?_
    rintro ⟨i, hi⟩
    dsimp only
    have hil := ofI_len w o i
    by_cases hlt : i < 8192
    · have q2 : (ints w)[0 + (i : Int).toNat]? = some [AV.i (w.getD i 0)] := ints_gO 0 (by rw [r.len]; exact hlt) rfl
      have hy := ofI_yes (w := w) (o := o) (i := i)
      have hn := ofI_no (w := w) (o := o) (i := i)
      generalize w.getD i 0 = x at *
      by_cases e : x = o
      · have hy := hy e
        have hyl : (ofI w o (i + 1)).length = (ofI w o i).length + 1 := by rw [hy]; simp
        repeat' (first | refine wS ?_ | refine wB ?_ | refine wK ?_ | refine wR ?_ | refine wE ?_ | refine aw_condt rfl ?_ | refine aw_condf rfl ?_ | (refine wC rfl (fun hb => ?_) (fun hb => ?_) <;> (first | subst hb | ((try simp only [nm] at hb); try (exfalso; omega)))) | (((refine rg 3 ?_)); (all_goals (refine vm rfl rfl ?_; refine vm rfl rfl ?_; refine vN rfl rfl rfl ?_; refine vF T rfl rfl rfl rfl ?_; refine vc_v (by first | exact fs_load T rfl rfl rfl rfl | exact fs_load T rfl rfl (behind_ep rfl q2) rfl) rfl ?_; refine vc_v (by first | exact fs_lenOwn T rfl rfl | exact fs_lenRow T rfl rfl | exact fs_lenNil T rfl rfl) rfl ?_; refine vc_v (by first | exact fs_lssT rfl rfl (by omega) | exact fs_lssF rfl rfl (by omega) | exact fs_geqT rfl rfl ho | exact fs_lss rfl rfl) rfl ?_; refine vm rfl rfl ?_)); (all_goals first | (refine vc_gt rfl rfl ?_ rfl; (refine vm rfl rfl ?_)) | (refine vc_gf rfl rfl ?_ rfl) | (refine vc_gu rfl rfl ?_ rfl)); (all_goals first | (refine vc_gt rfl rfl ?_ rfl; (refine vc_v (by first | exact fs_lssT rfl rfl (by omega) | exact fs_lssF rfl rfl (by omega) | exact fs_geqT rfl rfl ho | exact fs_geq rfl rfl) rfl ?_)) | (refine vc_gf rfl rfl ?_ rfl) | (refine vc_gu rfl rfl ?_ rfl)); (all_goals (refine vc_v (by first | exact fs_pickt rfl rfl | exact fs_pickf rfl rfl | exact fs_pick rfl rfl rfl) rfl ?_))) | (((refine rg 5 ?_)); (all_goals (refine vm rfl rfl ?_; refine vN rfl rfl rfl ?_; refine vF T rfl rfl rfl rfl ?_; refine vc_v (by first | exact fs_load T rfl rfl rfl rfl | exact fs_load T rfl rfl (behind_ep rfl q2) rfl) rfl ?_; refine vm rfl rfl ?_; refine vc_v (by exact fs_indexOwn T rfl rfl rfl rfl rfl (by omega) (by omega)) rfl ?_; refine vc_v (by first | exact fs_load T rfl rfl rfl rfl | exact fs_load T rfl rfl (behind_ep rfl q2) rfl) rfl ?_; refine vm rfl rfl ?_; refine vc_v (by first | exact fs_lssT rfl rfl (by omega) | exact fs_lssF rfl rfl (by omega) | exact fs_geqT rfl rfl ho | exact fs_eqlT rfl rfl e | exact fs_eql rfl rfl) rfl ?_))) | (((refine rg 6 ?_)); (all_goals (refine vm rfl rfl ?_; refine vm rfl rfl ?_; refine vc_n (by exact fs_buildSlice T rfl rfl (by decide) (by decide) rfl rfl rfl) rfl ?_; refine vc_append T rfl rfl rfl rfl rfl rfl (by simp) (Elems.whole rfl rfl) rfl (by simp; omega) (by simp; omega) rfl ?_; refine va rfl rfl ?_))) | (((refine rg 4 ?_)); (all_goals (refine vm rfl rfl ?_; refine vc_v (by first | exact fs_lssT rfl rfl (by omega) | exact fs_lssF rfl rfl (by omega) | exact fs_geqT rfl rfl ho | exact fs_addr rfl rfl (by omega) (by omega) | exact fs_add rfl rfl) rfl ?_; refine va rfl rfl ?_))) | (refine vc_nilp (by (first | (dsimp only [ln1, ln2, List.append_nil, ln4, ln5, ln6, ln7, ln8, ln9, putAt, putd, allObjs, argEnv, un_v, un_ptr, un_ep, un_pr, un_sl, un_mp, un_row, un_agg, un_tup, un_clo, Nat.zero_add, lnb, Nat.reduceAdd, lnc, lnd]; first | done | exact rfl) | exact rfl)) ?_))
        all_goals first | (exfalso; omega) | exact ⟨⟨i + 1, hlt⟩, by dsimp only; omega, [0, 1, 4], rfl, ⟨rfl, rfl, by dsimp only; rw [hyl]; rfl, rfl, trivial⟩, ⟨.inr rfl, .inr (sub_arr rfl rfl (ints_idf _)), .inr (sub_arr rfl ((app_one (by simp)).trans (by dsimp only; rw [hy]; exact ints_snoc _ _)) (ints_idf _)), trivial⟩, by decide, lt2y⟩
      · have hn := hn e
        repeat' (first | refine wS ?_ | refine wB ?_ | refine wK ?_ | refine wR ?_ | refine wE ?_ | refine aw_condt rfl ?_ | refine aw_condf rfl ?_ | (refine wC rfl (fun hb => ?_) (fun hb => ?_) <;> (first | subst hb | ((try simp only [nm] at hb); try (exfalso; omega)))) | (((refine rg 3 ?_)); (all_goals (refine vm rfl rfl ?_; refine vm rfl rfl ?_; refine vN rfl rfl rfl ?_; refine vF T rfl rfl rfl rfl ?_; refine vc_v (by first | exact fs_load T rfl rfl rfl rfl | exact fs_load T rfl rfl (behind_ep rfl q2) rfl) rfl ?_; refine vc_v (by first | exact fs_lenOwn T rfl rfl | exact fs_lenRow T rfl rfl | exact fs_lenNil T rfl rfl) rfl ?_; refine vc_v (by first | exact fs_lssT rfl rfl (by omega) | exact fs_lssF rfl rfl (by omega) | exact fs_geqT rfl rfl ho | exact fs_lss rfl rfl) rfl ?_; refine vm rfl rfl ?_)); (all_goals first | (refine vc_gt rfl rfl ?_ rfl; (refine vm rfl rfl ?_)) | (refine vc_gf rfl rfl ?_ rfl) | (refine vc_gu rfl rfl ?_ rfl)); (all_goals first | (refine vc_gt rfl rfl ?_ rfl; (refine vc_v (by first | exact fs_lssT rfl rfl (by omega) | exact fs_lssF rfl rfl (by omega) | exact fs_geqT rfl rfl ho | exact fs_geq rfl rfl) rfl ?_)) | (refine vc_gf rfl rfl ?_ rfl) | (refine vc_gu rfl rfl ?_ rfl)); (all_goals (refine vc_v (by first | exact fs_pickt rfl rfl | exact fs_pickf rfl rfl | exact fs_pick rfl rfl rfl) rfl ?_))) | (((refine rg 5 ?_)); (all_goals (refine vm rfl rfl ?_; refine vN rfl rfl rfl ?_; refine vF T rfl rfl rfl rfl ?_; refine vc_v (by first | exact fs_load T rfl rfl rfl rfl | exact fs_load T rfl rfl (behind_ep rfl q2) rfl) rfl ?_; refine vm rfl rfl ?_; refine vc_v (by exact fs_indexOwn T rfl rfl rfl rfl rfl (by omega) (by omega)) rfl ?_; refine vc_v (by first | exact fs_load T rfl rfl rfl rfl | exact fs_load T rfl rfl (behind_ep rfl q2) rfl) rfl ?_; refine vm rfl rfl ?_; refine vc_v (by first | exact fs_lssT rfl rfl (by omega) | exact fs_lssF rfl rfl (by omega) | exact fs_geqT rfl rfl ho | exact fs_eqlF rfl rfl e | exact fs_eql rfl rfl) rfl ?_))) | (((refine rg 4 ?_)); (all_goals (refine vm rfl rfl ?_; refine vc_v (by first | exact fs_lssT rfl rfl (by omega) | exact fs_lssF rfl rfl (by omega) | exact fs_geqT rfl rfl ho | exact fs_addr rfl rfl (by omega) (by omega) | exact fs_add rfl rfl) rfl ?_; refine va rfl rfl ?_))) | (refine vc_nilp (by (first | (dsimp only [ln1, ln2, List.append_nil, ln4, ln5, ln6, ln7, ln8, ln9, putAt, putd, allObjs, argEnv, un_v, un_ptr, un_ep, un_pr, un_sl, un_mp, un_row, un_agg, un_tup, un_clo, Nat.zero_add, lnb, Nat.reduceAdd, lnc, lnd]; first | done | exact rfl) | exact rfl)) ?_))
        all_goals first | (exfalso; omega) | exact ⟨⟨i + 1, hlt⟩, by dsimp only; omega, [0, 1, 2], rfl, ⟨rfl, rfl, by dsimp only; rw [hn]; rfl, rfl, trivial⟩, ⟨.inr rfl, .inr (sub_arr rfl rfl (ints_idf _)), .inr (sub_arr rfl (by dsimp only; rw [hn]) (ints_idf _)), trivial⟩, by decide, lt2x⟩
    · obtain rfl : i = 8192 := by omega
      generalize ofI w o 8192 = u at *
      repeat' (first | refine wS ?_ | refine wB ?_ | refine wK ?_ | refine wR ?_ | refine wE ?_ | refine aw_condt rfl ?_ | refine aw_condf rfl ?_ | (refine wC rfl (fun hb => ?_) (fun hb => ?_) <;> (first | subst hb | ((try simp only [nm] at hb); try (exfalso; omega)))) | (((refine rg 3 ?_)); (all_goals (refine vm rfl rfl ?_; refine vm rfl rfl ?_; refine vN rfl rfl rfl ?_; refine vF T rfl rfl rfl rfl ?_; refine vL T rfl rfl rfl rfl rfl ?_; refine vc_v (by first | exact fs_lenOwn T rfl rfl | exact fs_lenRow T rfl rfl | exact fs_lenNil T rfl rfl) rfl ?_; refine vc_v (by first | exact fs_lssT rfl rfl (by omega) | exact fs_lssF rfl rfl (by omega) | exact fs_lss rfl rfl) rfl ?_; refine vm rfl rfl ?_)); (all_goals first | (refine vc_gt rfl rfl ?_ rfl; (refine vm rfl rfl ?_)) | (refine vc_gf rfl rfl ?_ rfl) | (refine vc_gu rfl rfl ?_ rfl)); (all_goals first | (refine vc_gt rfl rfl ?_ rfl; (refine vc_v (by first | exact fs_lssT rfl rfl (by omega) | exact fs_lssF rfl rfl (by omega) | exact fs_geq rfl rfl) rfl ?_)) | (refine vc_gf rfl rfl ?_ rfl) | (refine vc_gu rfl rfl ?_ rfl)); (all_goals (refine vc_v (by first | exact fs_pickt rfl rfl | exact fs_pickf rfl rfl | exact fs_pick rfl rfl rfl) rfl ?_))) | (((refine rg 7 ?_)); (all_goals (refine vm rfl rfl ?_; refine va rfl rfl ?_))) | (refine vc_nilp (by (first | (dsimp only [ln1, ln2, List.append_nil, ln4, ln5, ln6, ln7, ln8, ln9, putAt, putd, allObjs, argEnv, un_v, un_ptr, un_ep, un_pr, un_sl, un_mp, un_row, un_agg, un_tup, un_clo, Nat.zero_add, lnb, Nat.reduceAdd, lnc, lnd]; first | done | exact rfl) | exact rfl)) ?_))
      all_goals first | (exfalso; omega) | exact ⟨.inl rfl, [0, 1, 2], _, rfl, rfl, rfl, ⟨.inr rfl, .inr (sub_arr rfl rfl (ints_idf _)), .inr (sub_arr rfl rfl (ints_idf _)), trivial⟩, by decide, lt2x⟩
  · rw [ofL_neg h (by omega)]
    repeat' (first | refine wS ?_ | refine wB ?_ | refine wK ?_ | refine wR ?_ | refine wE ?_ | refine aw_condt rfl ?_ | refine aw_condf rfl ?_ | (refine wC rfl (fun hb => ?_) (fun hb => ?_) <;> (first | subst hb | ((try simp only [nm] at hb); try (exfalso; omega)))) | (((refine rg 0 ?_)); (all_goals (refine va rfl rfl ?_))) | (((refine rg 1 ?_)); (all_goals (refine va rfl rfl ?_))) | (((refine rg 2 ?_)); (all_goals (refine va rfl rfl ?_))) | (refine vc_nilp (by (first | (dsimp only [ln1, ln2, List.append_nil, ln4, ln5, ln6, ln7, ln8, ln9, putAt, putd, allObjs, argEnv, un_v, un_ptr, un_ep, un_pr, un_sl, un_mp, un_row, un_agg, un_tup, un_clo, Nat.zero_add, lnb, Nat.reduceAdd, lnc, lnd]; first | done | exact rfl) | exact rfl)) ?_))
    refine aw_own 5 1 rfl (by decide) ?_
    refine aw_loop (X := Unit) (fun _ => [(0, .ptr 0 0), (1, .i o), (5, .sl 2 0 0 1), (6, .i 0)]) (fun _ => [.cells [.sl 1 0 8192 1], .arr (ints w) 1, .arr [] 1]) (fun _ => 0) () ⟨[0, 1, 2], rfl, (by (repeat (first | exact trivial | refine ⟨rfl, ?_⟩))), ⟨.inr rfl, .inr (sub_arr rfl rfl (ints_idf _)), .inr rfl, trivial⟩, by decide, lt2x⟩ ?_
    intro _
    repeat' (first | refine wS ?_ | refine wB ?_ | refine wK ?_ | refine wR ?_ | refine wE ?_ | refine aw_condt rfl ?_ | refine aw_condf rfl ?_ | (refine wC rfl (fun hb => ?_) (fun hb => ?_) <;> (first | subst hb | ((try simp only [nm] at hb); try (exfalso; omega)))) | (((refine rg 3 ?_)); (all_goals (refine vm rfl rfl ?_; refine vm rfl rfl ?_; refine vN rfl rfl rfl ?_; refine vF T rfl rfl rfl rfl ?_; refine vL T rfl rfl rfl rfl rfl ?_; refine vc_v (by first | exact fs_lenOwn T rfl rfl | exact fs_lenRow T rfl rfl | exact fs_lenNil T rfl rfl) rfl ?_; refine vc_v (by first | exact fs_lssT rfl rfl (by omega) | exact fs_lssF rfl rfl (by omega) | exact fs_geqF rfl rfl (by omega) | exact fs_lss rfl rfl) rfl ?_; refine vm rfl rfl ?_)); (all_goals first | (refine vc_gt rfl rfl ?_ rfl; (refine vm rfl rfl ?_)) | (refine vc_gf rfl rfl ?_ rfl) | (refine vc_gu rfl rfl ?_ rfl)); (all_goals first | (refine vc_gt rfl rfl ?_ rfl; (refine vc_v (by first | exact fs_lssT rfl rfl (by omega) | exact fs_lssF rfl rfl (by omega) | exact fs_geqF rfl rfl (by omega) | exact fs_geq rfl rfl) rfl ?_)) | (refine vc_gf rfl rfl ?_ rfl) | (refine vc_gu rfl rfl ?_ rfl)); (all_goals (refine vc_v (by first | exact fs_pickt rfl rfl | exact fs_pickf rfl rfl | exact fs_pick rfl rfl rfl) rfl ?_))) | (((refine rg 7 ?_)); (all_goals (refine vm rfl rfl ?_; refine va rfl rfl ?_))) | (refine vc_nilp (by (first | (dsimp only [ln1, ln2, List.append_nil, ln4, ln5, ln6, ln7, ln8, ln9, putAt, putd, allObjs, argEnv, un_v, un_ptr, un_ep, un_pr, un_sl, un_mp, un_row, un_agg, un_tup, un_clo, Nat.zero_add, lnb, Nat.reduceAdd, lnc, lnd]; first | done | exact rfl) | exact rfl)) ?_))
    all_goals first | (exfalso; omega) | exact ⟨.inl rfl, [0, 1, 2], _, rfl, rfl, rfl, ⟨.inr rfl, .inr (sub_arr rfl rfl (ints_idf _)), .inr rfl, trivial⟩, by decide, lt2x⟩
def lenI (w : List Int) (i : Nat) : Nat := ((List.range i).filter fun j => decide (0 ≤ w.getD j 0)).length
theorem lenI_yes {w : List Int} {i : Nat} (h : 0 ≤ w.getD i 0) : lenI w (i + 1) = lenI w i + 1 := by
  unfold lenI
  rw [List.range_succ, List.filter_append, List.length_append]
  simp only [List.filter_cons, List.filter_nil, decide_eq_true h, if_true, List.length_cons, List.length_nil]
theorem lenI_no {w : List Int} {i : Nat} (h : ¬ 0 ≤ w.getD i 0) : lenI w (i + 1) = lenI w i := by
  unfold lenI
  have e : (List.filter (fun j => decide (0 ≤ w.getD j 0)) [i]) = [] := by
    rw [List.filter_cons, decide_eq_false h]; rfl
  rw [List.range_succ, List.filter_append, e, List.append_nil]
theorem lenI_le (w : List Int) (i : Nat) : lenI w i ≤ i := by
  unfold lenI
  have := List.length_filter_le (fun j => decide (0 ≤ w.getD j 0)) (List.range i)
  simpa using this
theorem lenI_all {w : List Int} {m : Tb} (r : Rep w m) (h : Ok m) : lenI w 8192 = m.length := by
  have hp : (((List.range 8192).filter fun j => decide (0 ≤ w.getD j 0)).map fun j : Nat => (j : Int)).Perm (Ho.kk m) := by
    refine (List.perm_ext_iff_of_nodup ?_ h.nd).2 fun x => ?_
    · exact (List.nodup_range.sublist List.filter_sublist).map _ fun a b hab e => hab (by omega)
    · rw [h.iff]
      simp only [List.mem_map, List.mem_filter, List.mem_range, decide_eq_true_eq]
      constructor
      · rintro ⟨j, ⟨hj, e⟩, rfl⟩
        rw [← r.getD hj]; exact e
      · intro e
        have hs := h.slot e
        refine ⟨x.toNat, ⟨by omega, ?_⟩, by omega⟩
        rw [r.getD (by omega), Int.toNat_of_nonneg hs.1]; exact e
  have := hp.length_eq
  rw [List.length_map] at this
  rw [show lenI w 8192 = _ from this]
  simp [Ho.kk]
theorem qlen_c {w : List Int} {m : Tb} (r : Rep w m) (h : Ok m) : ACall Tryz.prog 23 [.ptr 0 0] (whoH w) (.i m.length) (whoH w) := by
  have hwl := r.hl
  refine acall T Tryz.func23 rfl rfl rfl rfl ?_
  rw [← lenI_all r h]
  repeat' (first | refine wS ?_ | refine wB ?_ | refine wK ?_ | refine wR ?_ | refine wE ?_ | refine aw_condt rfl ?_ | refine aw_condf rfl ?_ | (refine wC rfl (fun hb => ?_) (fun hb => ?_) <;> (first | subst hb | ((try simp only [nm] at hb); try (exfalso; omega)))) | (((refine rg 0 ?_)); (all_goals (refine va rfl rfl ?_))) | (((refine rg 1 ?_)); (all_goals (refine va rfl rfl ?_))) | (((refine rg 2 ?_)); (all_goals (refine va rfl rfl ?_))) | (refine vc_nilp (by (first | (dsimp only [ln1, ln2, List.append_nil, ln4, ln5, ln6, ln7, ln8, ln9, putAt, putd, allObjs, argEnv, un_v, un_ptr, un_ep, un_pr, un_sl, un_mp, un_row, un_agg, un_tup, un_clo, Nat.zero_add, lnb, Nat.reduceAdd, lnc, lnd]; first | done | exact rfl) | exact rfl)) ?_))
  refine aw_loop (X := {i : Nat // i ≤ 8192}) (fun i => [(0, .ptr 0 0), (3, .i (lenI w i.1)), (4, .i i.1)]) (fun i => whoH w) (fun i => 8192 - i.1) ⟨0, by omega⟩ ⟨[0, 1], rfl, (by (repeat (first | exact trivial | refine ⟨rfl, ?_⟩))), ⟨.inr rfl, .inr (sub_arr rfl rfl (ints_idf _)), trivial⟩, by decide, lt2w⟩ ?_
  rintro ⟨i, hi⟩
  dsimp only
  have hil := lenI_le w i
  by_cases hlt : i < 8192
  · have q2 : (ints w)[0 + (i : Int).toNat]? = some [AV.i (w.getD i 0)] := ints_gO 0 (by rw [r.len]; exact hlt) rfl
    have hy := lenI_yes (w := w) (i := i)
    have hn := lenI_no (w := w) (i := i)
    generalize w.getD i 0 = x at *
    by_cases e : 0 ≤ x
    · have hy := hy e
      repeat' (first | refine wS ?_ | refine wB ?_ | refine wK ?_ | refine wR ?_ | refine wE ?_ | refine aw_condt rfl ?_ | refine aw_condf rfl ?_ | (refine wC rfl (fun hb => ?_) (fun hb => ?_) <;> (first | subst hb | ((try simp only [nm] at hb); try (exfalso; omega)))) | (((refine rg 3 ?_)); (all_goals (refine vm rfl rfl ?_; refine vm rfl rfl ?_; refine vN rfl rfl rfl ?_; refine vF T rfl rfl rfl rfl ?_; refine vc_v (by first | exact fs_load T rfl rfl rfl rfl | exact fs_load T rfl rfl (behind_ep rfl q2) rfl) rfl ?_; refine vc_v (by first | exact fs_lenOwn T rfl rfl | exact fs_lenRow T rfl rfl | exact fs_lenNil T rfl rfl) rfl ?_; refine vc_v (by first | exact fs_lssT rfl rfl (by omega) | exact fs_lssF rfl rfl (by omega) | exact fs_geqT rfl rfl e | exact fs_lss rfl rfl) rfl ?_))) | (((refine rg 5 ?_)); (all_goals (refine vm rfl rfl ?_; refine vN rfl rfl rfl ?_; refine vF T rfl rfl rfl rfl ?_; refine vc_v (by first | exact fs_load T rfl rfl rfl rfl | exact fs_load T rfl rfl (behind_ep rfl q2) rfl) rfl ?_; refine vm rfl rfl ?_; refine vc_v (by exact fs_indexOwn T rfl rfl rfl rfl rfl (by omega) (by omega)) rfl ?_; refine vc_v (by first | exact fs_load T rfl rfl rfl rfl | exact fs_load T rfl rfl (behind_ep rfl q2) rfl) rfl ?_; refine vc_v (by first | exact fs_lssT rfl rfl (by omega) | exact fs_lssF rfl rfl (by omega) | exact fs_geqT rfl rfl e | exact fs_geq rfl rfl) rfl ?_))) | (((refine rg 6 ?_)); (all_goals (refine vm rfl rfl ?_; refine vc_v (by first | exact fs_lssT rfl rfl (by omega) | exact fs_lssF rfl rfl (by omega) | exact fs_geqT rfl rfl e | exact fs_addr rfl rfl (by omega) (by omega) | exact fs_add rfl rfl) rfl ?_; refine va rfl rfl ?_))) | (((refine rg 4 ?_)); (all_goals (refine vm rfl rfl ?_; refine vc_v (by first | exact fs_lssT rfl rfl (by omega) | exact fs_lssF rfl rfl (by omega) | exact fs_geqT rfl rfl e | exact fs_addr rfl rfl (by omega) (by omega) | exact fs_add rfl rfl) rfl ?_; refine va rfl rfl ?_))) | (refine vc_nilp (by (first | (dsimp only [ln1, ln2, List.append_nil, ln4, ln5, ln6, ln7, ln8, ln9, putAt, putd, allObjs, argEnv, un_v, un_ptr, un_ep, un_pr, un_sl, un_mp, un_row, un_agg, un_tup, un_clo, Nat.zero_add, lnb, Nat.reduceAdd, lnc, lnd]; first | done | exact rfl) | exact rfl)) ?_))
      all_goals first | (exfalso; omega) | exact ⟨⟨i + 1, hlt⟩, by dsimp only; omega, [0, 1], rfl, ⟨rfl, by dsimp only; rw [hy]; rfl, rfl, trivial⟩, ⟨.inr rfl, .inr (sub_arr rfl rfl (ints_idf _)), trivial⟩, by decide, lt2w⟩
    · have hn := hn e
      repeat' (first | refine wS ?_ | refine wB ?_ | refine wK ?_ | refine wR ?_ | refine wE ?_ | refine aw_condt rfl ?_ | refine aw_condf rfl ?_ | (refine wC rfl (fun hb => ?_) (fun hb => ?_) <;> (first | subst hb | ((try simp only [nm] at hb); try (exfalso; omega)))) | (((refine rg 3 ?_)); (all_goals (refine vm rfl rfl ?_; refine vm rfl rfl ?_; refine vN rfl rfl rfl ?_; refine vF T rfl rfl rfl rfl ?_; refine vc_v (by first | exact fs_load T rfl rfl rfl rfl | exact fs_load T rfl rfl (behind_ep rfl q2) rfl) rfl ?_; refine vc_v (by first | exact fs_lenOwn T rfl rfl | exact fs_lenRow T rfl rfl | exact fs_lenNil T rfl rfl) rfl ?_; refine vc_v (by first | exact fs_lssT rfl rfl (by omega) | exact fs_lssF rfl rfl (by omega) | exact fs_geqF rfl rfl (by omega) | exact fs_lss rfl rfl) rfl ?_))) | (((refine rg 5 ?_)); (all_goals (refine vm rfl rfl ?_; refine vN rfl rfl rfl ?_; refine vF T rfl rfl rfl rfl ?_; refine vc_v (by first | exact fs_load T rfl rfl rfl rfl | exact fs_load T rfl rfl (behind_ep rfl q2) rfl) rfl ?_; refine vm rfl rfl ?_; refine vc_v (by exact fs_indexOwn T rfl rfl rfl rfl rfl (by omega) (by omega)) rfl ?_; refine vc_v (by first | exact fs_load T rfl rfl rfl rfl | exact fs_load T rfl rfl (behind_ep rfl q2) rfl) rfl ?_; refine vc_v (by first | exact fs_lssT rfl rfl (by omega) | exact fs_lssF rfl rfl (by omega) | exact fs_geqF rfl rfl (by omega) | exact fs_geq rfl rfl) rfl ?_))) | (((refine rg 4 ?_)); (all_goals (refine vm rfl rfl ?_; refine vc_v (by first | exact fs_lssT rfl rfl (by omega) | exact fs_lssF rfl rfl (by omega) | exact fs_geqF rfl rfl (by omega) | exact fs_addr rfl rfl (by omega) (by omega) | exact fs_add rfl rfl) rfl ?_; refine va rfl rfl ?_))) | (refine vc_nilp (by (first | (dsimp only [ln1, ln2, List.append_nil, ln4, ln5, ln6, ln7, ln8, ln9, putAt, putd, allObjs, argEnv, un_v, un_ptr, un_ep, un_pr, un_sl, un_mp, un_row, un_agg, un_tup, un_clo, Nat.zero_add, lnb, Nat.reduceAdd, lnc, lnd]; first | done | exact rfl) | exact rfl)) ?_))
      all_goals first | (exfalso; omega) | exact ⟨⟨i + 1, hlt⟩, by dsimp only; omega, [0, 1], rfl, ⟨rfl, by dsimp only; rw [hn]; rfl, rfl, trivial⟩, ⟨.inr rfl, .inr (sub_arr rfl rfl (ints_idf _)), trivial⟩, by decide, lt2w⟩
  · obtain rfl : i = 8192 := by omega
    generalize lenI w 8192 = u at *
    repeat' (first | refine wS ?_ | refine wB ?_ | refine wK ?_ | refine wR ?_ | refine wE ?_ | refine aw_condt rfl ?_ | refine aw_condf rfl ?_ | (refine wC rfl (fun hb => ?_) (fun hb => ?_) <;> (first | subst hb | ((try simp only [nm] at hb); try (exfalso; omega)))) | (((refine rg 3 ?_)); (all_goals (refine vm rfl rfl ?_; refine vm rfl rfl ?_; refine vN rfl rfl rfl ?_; refine vF T rfl rfl rfl rfl ?_; refine vL T rfl rfl rfl rfl rfl ?_; refine vc_v (by first | exact fs_lenOwn T rfl rfl | exact fs_lenRow T rfl rfl | exact fs_lenNil T rfl rfl) rfl ?_; refine vc_v (by first | exact fs_lssT rfl rfl (by omega) | exact fs_lssF rfl rfl (by omega) | exact fs_lss rfl rfl) rfl ?_))) | (((refine rg 7 ?_)); (all_goals (refine vm rfl rfl ?_; refine va rfl rfl ?_))) | (refine vc_nilp (by (first | (dsimp only [ln1, ln2, List.append_nil, ln4, ln5, ln6, ln7, ln8, ln9, putAt, putd, allObjs, argEnv, un_v, un_ptr, un_ep, un_pr, un_sl, un_mp, un_row, un_agg, un_tup, un_clo, Nat.zero_add, lnb, Nat.reduceAdd, lnc, lnd]; first | done | exact rfl) | exact rfl)) ?_))
    all_goals first | (exfalso; omega) | exact ⟨.inl rfl, [0, 1], _, rfl, rfl, rfl, ⟨.inr rfl, .inr (sub_arr rfl rfl (ints_idf _)), trivial⟩, by decide, lt2w⟩
end Go.Proofs.YtgnnbmgljadokaaGreatDoor
