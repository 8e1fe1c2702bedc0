/-
  Layer 17: the table's functions, one by one.
-/
import Derived.Test.YtgnnbmgljadokaaDoorHo3
namespace Go.Proofs.YtgnnbmgljadokaaDoor
open Go Go.Ab Go.Ho Go.MapKept
set_option linter.unusedVariables false
set_option linter.unusedSimpArgs false
attribute [local irreducible] VC AW FStep ACall
set_option maxHeartbeats 4000000

def mkV (m : Tb) : List Value := (kk m).map kI
def mvV (m : Tb) : List AV := (m.map (·.2)).map AV.i
abbrev tb (m : Tb) : Hp := [.cells [.mp 1], .mapO (mkV m) (mvV m)]
theorem mvV_idf (m : Tb) : AV.idfL (mvV m) = true := by
  unfold mvV
  induction m with
  | nil => rfl
  | cons p m ih => simp only [List.map_cons, AV.idfL, AV.idf, Bool.true_and]; exact ih
theorem mapU : Tryd.prog.underlying 52 = some (.map 3 3) := by kernel_rfl
theorem intK : KeyOk Tryd.prog 3 (IsKey (.int .i64)) := KeyOk.int (by kernel_rfl)
theorem zInt : ∀ w, (zeroValue 3).run Tryd.prog w = .ok (.int .i64 0) w := zero_run (by kernel_rfl)
theorem mk_good (m : Tb) : ∀ q, q ∈ mkV m → IsKey (.int .i64) q := by
  intro q hq
  obtain ⟨n, _, rfl⟩ := List.mem_map.1 hq
  rfl
theorem mk_nd {m : Tb} (h : Ok m) : (mkV m).Nodup := h.nd.map _ (fun a b hab e => hab (by simpa using e))
theorem mk_mem {m : Tb} {n : Int} : kI n ∈ mkV m ↔ n ∈ kk m := by
  unfold mkV
  rw [List.mem_map]
  constructor
  · rintro ⟨a, ha, e⟩; simp at e; subst e; exact ha
  · intro h; exact ⟨n, h, rfl⟩
theorem mk_at {m : Tb} (h : Ok m) {n : Int} (hn : n ∈ kk m) : ∃ i : Nat, (mkV m)[i]? = some (kI n) ∧ (mvV m)[i]? = some (AV.i (own m n)) ∧ (kk m)[i]? = some n := by
  obtain ⟨i, hi, _⟩ := at_key hn
  obtain ⟨h1, _⟩ := at_val h.nd hi
  exact ⟨i, by simp [mkV, hi], by unfold mvV; rw [List.getElem?_map, h1]; rfl, hi⟩
theorem sub_map {h : Hp} {i : Nat} {θ : Nat → Nat} {ks ks' : List Value} {vs vs' : List AV} (hk : h[i]? = some (.mapO ks' vs')) (hks : ks' = ks) (he : vs' = vs) (hi : AV.idfL vs = true) : h[i]? = some ((AB.mapO ks vs).map θ) := by
  subst he hks
  rw [hk]
  show _ = some (AB.mapO ks' (AV.mapL θ vs'))
  rw [mapL_idf θ vs' hi]
theorem mk_put {m : Tb} (h : Ok m) {n o : Int} {i : Nat} (hi : (kk m)[i]? = some n) : mkV m = mkV (put m n o) ∧ (mvV m).set i (AV.i o) = mvV (put m n o) := by
  have hk : n ∈ kk m := List.mem_of_getElem? hi
  refine ⟨by unfold mkV; rw [kk_put, if_pos hk], ?_⟩
  unfold mvV
  rw [put_at h.nd hi, List.map_set]
theorem mk_new {m : Tb} {n o : Int} (hn : n ∉ kk m) : mkV m ++ [kI n] = mkV (put m n o) ∧ mvV m ++ [AV.i o] = mvV (put m n o) := by
  refine ⟨by unfold mkV; rw [kk_put, if_neg hn]; simp, ?_⟩
  unfold mvV put
  rw [if_neg hn]; simp
theorem mk_del {m : Tb} (h : Ok m) {n : Int} {i : Nat} (hi : (kk m)[i]? = some n) : (mkV m).eraseIdx i = mkV (del m n) ∧ (mvV m).eraseIdx i = mvV (del m n) := by
  rw [del_at h.nd hi]
  unfold mkV mvV kk
  constructor <;> simp [map_eraseIdx]
/-- Answers with the table as it is. -/
def keep0 (m : Tb) : Prop := True

theorem new_c : ACall Tryd.prog 17 [] [] (.ptr 0 0) (tb []) := by
  refine acall T Tryd.func17 rfl rfl rfl rfl ?_
  repeat' (first | (first | (refine aw_seq ?_) | (refine aw_block ?_) | (refine aw_skip ?_) | (refine aw_ret ?_) | (refine aw_exit ?_)) | (first | (refine aw_condt rfl ?_) | (refine aw_condf rfl ?_) | (refine aw_cond rfl (fun hb => ?_) (fun hb => ?_) <;> (first | subst hb | ((try simp only [decide_eq_true_eq, decide_eq_false_iff_not, Bool.not_true, Bool.not_false, Bool.not_eq_true', Bool.not_eq_false', Bool.and_eq_true, Bool.or_eq_true, Bool.and_eq_false_iff, Bool.or_eq_false_iff, Int.not_lt, Int.not_le] at hb); try ((exfalso; omega); done))))) | (((refine aw_region (id := 0) ?_)); (all_goals (refine vc_v (by exact fs_assign rfl) rfl ?_))) | (((refine aw_region (id := 1) ?_)); (all_goals (refine vc_n (by exact fs_mapNew) rfl ?_)); (all_goals (refine vc_v (by exact fs_build T rfl rfl rfl rfl) rfl ?_)); (all_goals (refine vc_n (by exact fs_box rfl rfl) rfl ?_)); (all_goals (refine vc_v (by exact fs_assign rfl) rfl ?_))) | (refine vc_nilp (by (first | (dsimp only [List.nil_append, List.cons_append, List.append_nil, List.length_cons, List.length_nil, List.set_cons_zero, List.set_cons_succ, List.map_cons, List.map_nil, putAt, putd, allObjs, argEnv, un_v, un_ptr, un_ep, un_pr, un_sl, un_mp, un_row, un_agg, un_tup, un_clo, Nat.zero_add, Nat.add_zero, Nat.reduceAdd, Bool.not_true, Bool.not_false]; first | done | exact rfl) | exact rfl)) ?_))
  all_goals exact ⟨.inl rfl, [1, 0], _, rfl, rfl, rfl, ⟨.inr rfl, .inr rfl, trivial⟩, by decide, fun i hi => absurd hi (Nat.not_lt_zero _)⟩
theorem owner_c {m : Tb} (h : Ok m) (n : Int) : ACall Tryd.prog 10 [.ptr 0 0, .i n] (tb m) (.i (own m n)) (tb m) := by
  refine acall T Tryd.func10 rfl rfl rfl rfl ?_
  by_cases hn : n ∈ kk m
  · obtain ⟨i, h1, h2, _⟩ := mk_at h hn
    repeat' (first | (first | (refine aw_seq ?_) | (refine aw_block ?_) | (refine aw_skip ?_) | (refine aw_ret ?_) | (refine aw_exit ?_)) | (first | (refine aw_condt rfl ?_) | (refine aw_condf rfl ?_) | (refine aw_cond rfl (fun hb => ?_) (fun hb => ?_) <;> (first | subst hb | ((try simp only [decide_eq_true_eq, decide_eq_false_iff_not, Bool.not_true, Bool.not_false, Bool.not_eq_true', Bool.not_eq_false', Bool.and_eq_true, Bool.or_eq_true, Bool.and_eq_false_iff, Bool.or_eq_false_iff, Int.not_lt, Int.not_le] at hb); try ((exfalso; omega); done))))) | (((refine aw_region (id := 0) ?_)); (all_goals (refine vc_v (by exact fs_assign rfl) rfl ?_))) | (((refine aw_region (id := 1) ?_)); (all_goals (refine vc_v (by exact fs_move rfl) rfl ?_)); (all_goals (refine vc_v (by exact fs_nilCheck rfl rfl) rfl ?_)); (all_goals (refine vc_v (by exact fs_fieldAddr T rfl rfl rfl) rfl ?_)); (all_goals (refine vc_v (by exact fs_load T rfl rfl rfl rfl) rfl ?_)); (all_goals (refine vc_v (by exact fs_move rfl) rfl ?_)); (all_goals (refine vc_v (by exact fs_mapGet mapU intK rfl rfl (isv_i _) rfl (mk_good m) (good_i _) (mk_nd h) h1 h2) rfl ?_)); (all_goals (refine vc_v (by exact fs_move rfl) rfl ?_)); (all_goals (refine vc_v (by exact fs_extract rfl rfl) rfl ?_)); (all_goals (refine vc_v (by exact fs_extract rfl rfl) rfl ?_)); (all_goals (refine vc_v (by exact fs_assign rfl) rfl ?_)); (all_goals (refine vc_v (by exact fs_assign rfl) rfl ?_))) | (((refine aw_region (id := 2) ?_)); (all_goals (refine vc_v (by exact fs_move rfl) rfl ?_))) | (((refine aw_region (id := 3) ?_)); (all_goals (refine vc_v (by exact fs_move rfl) rfl ?_)); (all_goals (refine vc_v (by exact fs_assign rfl) rfl ?_))) | (((refine aw_region (id := 4) ?_)); (all_goals (refine vc_v (by exact fs_assign rfl) rfl ?_))) | (refine vc_nilp (by (first | (dsimp only [List.nil_append, List.cons_append, List.append_nil, List.length_cons, List.length_nil, List.set_cons_zero, List.set_cons_succ, List.map_cons, List.map_nil, putAt, putd, allObjs, argEnv, un_v, un_ptr, un_ep, un_pr, un_sl, un_mp, un_row, un_agg, un_tup, un_clo, Nat.zero_add, Nat.add_zero, Nat.reduceAdd, Bool.not_true, Bool.not_false]; first | done | exact rfl) | exact rfl)) ?_))
    all_goals exact ⟨.inl rfl, [0, 1], _, rfl, rfl, rfl, ⟨.inr rfl, .inr (sub_map rfl rfl rfl (mvV_idf m)), trivial⟩, by decide, lt2⟩
  · rw [own_not hn]
    repeat' (first | (first | (refine aw_seq ?_) | (refine aw_block ?_) | (refine aw_skip ?_) | (refine aw_ret ?_) | (refine aw_exit ?_)) | (first | (refine aw_condt rfl ?_) | (refine aw_condf rfl ?_) | (refine aw_cond rfl (fun hb => ?_) (fun hb => ?_) <;> (first | subst hb | ((try simp only [decide_eq_true_eq, decide_eq_false_iff_not, Bool.not_true, Bool.not_false, Bool.not_eq_true', Bool.not_eq_false', Bool.and_eq_true, Bool.or_eq_true, Bool.and_eq_false_iff, Bool.or_eq_false_iff, Int.not_lt, Int.not_le] at hb); try ((exfalso; omega); done))))) | (((refine aw_region (id := 0) ?_)); (all_goals (refine vc_v (by exact fs_assign rfl) rfl ?_))) | (((refine aw_region (id := 1) ?_)); (all_goals (refine vc_v (by exact fs_move rfl) rfl ?_)); (all_goals (refine vc_v (by exact fs_nilCheck rfl rfl) rfl ?_)); (all_goals (refine vc_v (by exact fs_fieldAddr T rfl rfl rfl) rfl ?_)); (all_goals (refine vc_v (by exact fs_load T rfl rfl rfl rfl) rfl ?_)); (all_goals (refine vc_v (by exact fs_move rfl) rfl ?_)); (all_goals (refine vc_v (by exact fs_mapMiss (zA := .i 0) mapU intK zInt (fun _ _ _ => R_v_mk _) rfl rfl (isv_i _) rfl (mk_good m) (good_i _) (fun e => hn (mk_mem.1 e))) rfl ?_)); (all_goals (refine vc_v (by exact fs_move rfl) rfl ?_)); (all_goals (refine vc_v (by exact fs_extract rfl rfl) rfl ?_)); (all_goals (refine vc_v (by exact fs_extract rfl rfl) rfl ?_)); (all_goals (refine vc_v (by exact fs_assign rfl) rfl ?_)); (all_goals (refine vc_v (by exact fs_assign rfl) rfl ?_))) | (((refine aw_region (id := 2) ?_)); (all_goals (refine vc_v (by exact fs_move rfl) rfl ?_))) | (((refine aw_region (id := 3) ?_)); (all_goals (refine vc_v (by exact fs_move rfl) rfl ?_)); (all_goals (refine vc_v (by exact fs_assign rfl) rfl ?_))) | (((refine aw_region (id := 4) ?_)); (all_goals (refine vc_v (by exact fs_assign rfl) rfl ?_))) | (refine vc_nilp (by (first | (dsimp only [List.nil_append, List.cons_append, List.append_nil, List.length_cons, List.length_nil, List.set_cons_zero, List.set_cons_succ, List.map_cons, List.map_nil, putAt, putd, allObjs, argEnv, un_v, un_ptr, un_ep, un_pr, un_sl, un_mp, un_row, un_agg, un_tup, un_clo, Nat.zero_add, Nat.add_zero, Nat.reduceAdd, Bool.not_true, Bool.not_false]; first | done | exact rfl) | exact rfl)) ?_))
    all_goals exact ⟨.inl rfl, [0, 1], _, rfl, rfl, rfl, ⟨.inr rfl, .inr (sub_map rfl rfl rfl (mvV_idf m)), trivial⟩, by decide, lt2⟩
theorem len_c {m : Tb} : ACall Tryd.prog 13 [.ptr 0 0] (tb m) (.i m.length) (tb m) := by
  refine acall T Tryd.func13 rfl rfl rfl rfl ?_
  have e : ((mkV m).length : Int) = (m.length : Int) := by simp [mkV, kk]
  rw [← e]
  repeat' (first | (first | (refine aw_seq ?_) | (refine aw_block ?_) | (refine aw_skip ?_) | (refine aw_ret ?_) | (refine aw_exit ?_)) | (first | (refine aw_condt rfl ?_) | (refine aw_condf rfl ?_) | (refine aw_cond rfl (fun hb => ?_) (fun hb => ?_) <;> (first | subst hb | ((try simp only [decide_eq_true_eq, decide_eq_false_iff_not, Bool.not_true, Bool.not_false, Bool.not_eq_true', Bool.not_eq_false', Bool.and_eq_true, Bool.or_eq_true, Bool.and_eq_false_iff, Bool.or_eq_false_iff, Int.not_lt, Int.not_le] at hb); try ((exfalso; omega); done))))) | (((refine aw_region (id := 0) ?_)); (all_goals (refine vc_v (by exact fs_assign rfl) rfl ?_))) | (((refine aw_region (id := 1) ?_)); (all_goals (refine vc_v (by exact fs_move rfl) rfl ?_)); (all_goals (refine vc_v (by exact fs_nilCheck rfl rfl) rfl ?_)); (all_goals (refine vc_v (by exact fs_fieldAddr T rfl rfl rfl) rfl ?_)); (all_goals (refine vc_v (by exact fs_load T rfl rfl rfl rfl) rfl ?_)); (all_goals (refine vc_v (by first | exact fs_lenOwn T rfl rfl | exact fs_lenRow T rfl rfl | exact fs_lenNil T rfl rfl | exact fs_lenMap mapU rfl rfl) rfl ?_)); (all_goals (refine vc_v (by exact fs_assign rfl) rfl ?_))) | (refine vc_nilp (by (first | (dsimp only [List.nil_append, List.cons_append, List.append_nil, List.length_cons, List.length_nil, List.set_cons_zero, List.set_cons_succ, List.map_cons, List.map_nil, putAt, putd, allObjs, argEnv, un_v, un_ptr, un_ep, un_pr, un_sl, un_mp, un_row, un_agg, un_tup, un_clo, Nat.zero_add, Nat.add_zero, Nat.reduceAdd, Bool.not_true, Bool.not_false]; first | done | exact rfl) | exact rfl)) ?_))
  all_goals exact ⟨.inl rfl, [0, 1], _, rfl, rfl, rfl, ⟨.inr rfl, .inr (sub_map rfl rfl rfl (mvV_idf m)), trivial⟩, by decide, lt2⟩
theorem lt2c : ∀ i : Nat, i < 2 → ([0, 1, 3, 2] : List Nat)[i]? = some i := by decide
theorem copy_c {m : Tb} : ACall Tryd.prog 31 [.ptr 0 0] (tb m) (.ptr 2 0) (tb m ++ [.cells [.mp 3], .mapO (mkV m) (mvV m)]) := by
  refine acall T Tryd.func31 rfl rfl rfl rfl ?_
  repeat' (first | (first | (refine aw_seq ?_) | (refine aw_block ?_) | (refine aw_skip ?_) | (refine aw_ret ?_) | (refine aw_exit ?_)) | (first | (refine aw_condt rfl ?_) | (refine aw_condf rfl ?_) | (refine aw_cond rfl (fun hb => ?_) (fun hb => ?_) <;> (first | subst hb | ((try simp only [decide_eq_true_eq, decide_eq_false_iff_not, Bool.not_true, Bool.not_false, Bool.not_eq_true', Bool.not_eq_false', Bool.and_eq_true, Bool.or_eq_true, Bool.and_eq_false_iff, Bool.or_eq_false_iff, Int.not_lt, Int.not_le] at hb); try ((exfalso; omega); done))))) | (((refine aw_region (id := 0) ?_)); (all_goals (refine vc_v (by exact fs_assign rfl) rfl ?_))) | (((refine aw_region (id := 1) ?_)); (all_goals (refine vc_v (by exact fs_move rfl) rfl ?_)); (all_goals (refine vc_v (by exact fs_nilCheck rfl rfl) rfl ?_)); (all_goals (refine vc_v (by exact fs_fieldAddr T rfl rfl rfl) rfl ?_)); (all_goals (refine vc_v (by exact fs_load T rfl rfl rfl rfl) rfl ?_)); (all_goals first | (refine vc_callw [1] rfl rfl (clone_c (mkV m) (mvV m)) rfl rfl (by decide) ⟨.inr (sub_map rfl rfl rfl (mvV_idf m)), trivial⟩ (by simp) rfl ?_) | (refine vc_v (by first | fail) rfl ?_) | (refine vc_n (by first | fail) rfl ?_)); (all_goals (refine vc_v (by exact fs_build T rfl rfl rfl rfl) rfl ?_)); (all_goals (refine vc_n (by exact fs_box rfl rfl) rfl ?_)); (all_goals (refine vc_v (by exact fs_assign rfl) rfl ?_))) | (refine vc_nilp (by (first | (dsimp only [List.nil_append, List.cons_append, List.append_nil, List.length_cons, List.length_nil, List.set_cons_zero, List.set_cons_succ, List.map_cons, List.map_nil, putAt, putd, allObjs, argEnv, un_v, un_ptr, un_ep, un_pr, un_sl, un_mp, un_row, un_agg, un_tup, un_clo, Nat.zero_add, Nat.add_zero, Nat.reduceAdd, Bool.not_true, Bool.not_false]; first | done | exact rfl) | exact rfl)) ?_))
  all_goals exact ⟨.inl rfl, [0, 1, 3, 2], _, rfl, rfl, rfl, ⟨.inr rfl, .inr (sub_map rfl rfl (mapL_idf _ _ (mvV_idf m)) (mvV_idf m)), .inr rfl, .inr (sub_map rfl rfl (mapL_idf _ _ (mvV_idf m)) (mvV_idf m)), trivial⟩, by decide, lt2c⟩
/-- Slots, one after the other. -/
def putL (m : Tb) (l : List Int) (o : Int) (k : Nat) : Tb := (l.take k).foldl (fun m n => put m n o) m
theorem putL_next {m : Tb} {l : List Int} {o : Int} {k : Nat} (hk : k < l.length) : putL m l o (k + 1) = put (putL m l o k) l[k] o := by
  unfold putL
  rw [List.take_succ_eq_append_getElem hk, List.foldl_append]; rfl
theorem Ok.putL {m : Tb} (h : Ok m) {l : List Int} {o : Int} (hl : ∀ n, n ∈ l → 0 ≤ n ∧ n < 8192) (ho : 0 ≤ o ∧ o ≤ 9223372036854775807) : ∀ k, Ok (putL m l o k)
  | 0 => h
  | k + 1 => by
    by_cases hk : k < l.length
    · rw [putL_next hk]; exact (Ok.putL h hl ho k).put (hl _ (List.getElem_mem hk)) ho
    · have : Go.Proofs.YtgnnbmgljadokaaDoor.putL m l o (k + 1) = Go.Proofs.YtgnnbmgljadokaaDoor.putL m l o k := by unfold Go.Proofs.YtgnnbmgljadokaaDoor.putL; rw [List.take_of_length_le (by omega), List.take_of_length_le (by omega)]
      rw [this]; exact Ok.putL h hl ho k
theorem own_putL {m : Tb} {l : List Int} {o : Int} (n : Int) : ∀ k, own (putL m l o k) n = if n ∈ l.take k then o else own m n
  | 0 => by simp [putL]
  | k + 1 => by
    by_cases hk : k < l.length
    · have e : n ∈ l.take (k + 1) ↔ n ∈ l.take k ∨ n = l[k] := by rw [List.take_succ_eq_append_getElem hk, List.mem_append, List.mem_singleton]
      rw [putL_next hk, own_put, own_putL n k]
      by_cases h1 : n = l[k]
      · rw [if_pos h1, if_pos (e.2 (.inr h1))]
      · rw [if_neg h1]
        by_cases h2 : n ∈ l.take k
        · rw [if_pos h2, if_pos (e.2 (.inl h2))]
        · rw [if_neg h2, if_neg (fun h => (e.1 h).elim h2 h1)]
    · have : putL m l o (k + 1) = putL m l o k := by unfold putL; rw [List.take_of_length_le (by omega), List.take_of_length_le (by omega)]
      rw [this, own_putL n k, List.take_of_length_le (by omega), List.take_of_length_le (by omega)]
theorem set_c {m : Tb} (h : Ok m) {l : List Int} {o : Int} (hl : ∀ n, n ∈ l → 0 ≤ n ∧ n < 8192) (ho : 0 ≤ o ∧ o ≤ 9223372036854775807) (hll : l.length ≤ 100000000) :
    ACall Tryd.prog 34 [.ptr 0 0, .i o, .rowE (ints l) 1] (tb m) (.tup []) (tb (putL m l o l.length)) := by
  have hlen : (ints l).length = l.length := by simp
  refine acall T Tryd.func34 rfl rfl rfl rfl ?_
  repeat' (first | (first | (refine aw_seq ?_) | (refine aw_block ?_) | (refine aw_skip ?_) | (refine aw_ret ?_) | (refine aw_exit ?_)) | (first | (refine aw_condt rfl ?_) | (refine aw_condf rfl ?_) | (refine aw_cond rfl (fun hb => ?_) (fun hb => ?_) <;> (first | subst hb | ((try simp only [decide_eq_true_eq, decide_eq_false_iff_not, Bool.not_true, Bool.not_false, Bool.not_eq_true', Bool.not_eq_false', Bool.and_eq_true, Bool.or_eq_true, Bool.and_eq_false_iff, Bool.or_eq_false_iff, Int.not_lt, Int.not_le] at hb); try ((exfalso; omega); done))))) | (((refine aw_region (id := 0) ?_)); (all_goals (refine vc_v (by exact fs_move rfl) rfl ?_)); (all_goals (refine vc_v (by first | exact fs_lenOwn T rfl rfl | exact fs_lenRow T rfl rfl | exact fs_lenNil T rfl rfl) rfl ?_)); (all_goals (refine vc_v (by exact fs_move rfl) rfl ?_))) | (refine vc_nilp (by (first | (dsimp only [List.nil_append, List.cons_append, List.append_nil, List.length_cons, List.length_nil, List.set_cons_zero, List.set_cons_succ, List.map_cons, List.map_nil, putAt, putd, allObjs, argEnv, un_v, un_ptr, un_ep, un_pr, un_sl, un_mp, un_row, un_agg, un_tup, un_clo, Nat.zero_add, Nat.add_zero, Nat.reduceAdd, Bool.not_true, Bool.not_false]; first | done | exact rfl) | exact rfl)) ?_))
  refine aw_loop (X := {k : Nat // k ≤ l.length}) (fun k => [(0, .ptr 0 0), (1, .i o), (8, .rowE (ints l) 1), (9, .i (ints l).length), (10, .i k.1)]) (fun k => tb (putL m l o k.1)) (fun k => l.length - k.1) ⟨0, by omega⟩ ⟨[0, 1], rfl, (by (repeat (first | exact trivial | refine ⟨rfl, ?_⟩))), ⟨.inr rfl, .inr (sub_map rfl rfl rfl (mvV_idf _)), trivial⟩, by decide, lt2⟩ ?_
  rintro ⟨k, hk⟩
  dsimp only
  by_cases hlt : k < l.length
  · have hok := Ok.putL h hl ho k
    have hg := ints_get hlt
    have hnx := putL_next (m := m) (o := o) hlt
    generalize l[k] = n at *
    generalize putL m l o k = m1 at *
    by_cases hn : n ∈ kk m1
    · obtain ⟨i, h1, h2, h3⟩ := mk_at hok hn
      obtain ⟨e1, e2⟩ := mk_put hok (o := o) h3
      repeat' (first | (first | (refine aw_seq ?_) | (refine aw_block ?_) | (refine aw_skip ?_) | (refine aw_ret ?_) | (refine aw_exit ?_)) | (first | (refine aw_condt rfl ?_) | (refine aw_condf rfl ?_) | (refine aw_cond rfl (fun hb => ?_) (fun hb => ?_) <;> (first | subst hb | ((try simp only [decide_eq_true_eq, decide_eq_false_iff_not, Bool.not_true, Bool.not_false, Bool.not_eq_true', Bool.not_eq_false', Bool.and_eq_true, Bool.or_eq_true, Bool.and_eq_false_iff, Bool.or_eq_false_iff, Int.not_lt, Int.not_le] at hb); try ((exfalso; omega); done))))) | (((refine aw_region (id := 1) ?_)); (all_goals (refine vc_v (by exact fs_lss rfl rfl) rfl ?_))) | (((refine aw_region (id := 2) ?_)); (all_goals (refine vc_v (by exact fs_indexRowE T rfl rfl rfl rfl rfl (by omega) (ints_len _) hg) rfl ?_)); (all_goals (refine vc_v (by exact fs_load T rfl rfl rfl rfl) rfl ?_)); (all_goals (refine vc_v (by exact fs_assign rfl) rfl ?_))) | (((refine aw_region (id := 3) ?_)); (all_goals (refine vc_v (by exact fs_move rfl) rfl ?_)); (all_goals (refine vc_v (by exact fs_nilCheck rfl rfl) rfl ?_)); (all_goals (refine vc_v (by exact fs_fieldAddr T rfl rfl rfl) rfl ?_)); (all_goals (refine vc_v (by exact fs_load T rfl rfl rfl rfl) rfl ?_)); (all_goals (refine vc_v (by exact fs_move rfl) rfl ?_)); (all_goals (refine vc_v (by exact fs_move rfl) rfl ?_)); (all_goals (refine vc_mapPut mapU intK rfl rfl (isv_i _) rfl rfl (mk_good m1) (good_i _) (mk_nd hok) h1 ?_))) | (((refine aw_region (id := 4) ?_)); (all_goals (refine vc_v (by first | exact fs_addr rfl rfl (by omega) (by omega) | exact fs_add rfl rfl) rfl ?_)); (all_goals (refine vc_v (by exact fs_move rfl) rfl ?_))) | (refine vc_nilp (by (first | (dsimp only [List.nil_append, List.cons_append, List.append_nil, List.length_cons, List.length_nil, List.set_cons_zero, List.set_cons_succ, List.map_cons, List.map_nil, putAt, putd, allObjs, argEnv, un_v, un_ptr, un_ep, un_pr, un_sl, un_mp, un_row, un_agg, un_tup, un_clo, Nat.zero_add, Nat.add_zero, Nat.reduceAdd, Bool.not_true, Bool.not_false]; first | done | exact rfl) | exact rfl)) ?_))
      all_goals first | (exfalso; omega) | exact ⟨⟨k + 1, hlt⟩, by dsimp only; omega, [0, 1], rfl, (by (repeat (first | exact trivial | refine ⟨rfl, ?_⟩))), ⟨.inr rfl, .inr (sub_map rfl (by rw [hnx]; exact e1) (by rw [hnx]; exact e2) (mvV_idf _)), trivial⟩, by decide, lt2⟩
    · obtain ⟨e1, e2⟩ := mk_new (o := o) hn
      repeat' (first | (first | (refine aw_seq ?_) | (refine aw_block ?_) | (refine aw_skip ?_) | (refine aw_ret ?_) | (refine aw_exit ?_)) | (first | (refine aw_condt rfl ?_) | (refine aw_condf rfl ?_) | (refine aw_cond rfl (fun hb => ?_) (fun hb => ?_) <;> (first | subst hb | ((try simp only [decide_eq_true_eq, decide_eq_false_iff_not, Bool.not_true, Bool.not_false, Bool.not_eq_true', Bool.not_eq_false', Bool.and_eq_true, Bool.or_eq_true, Bool.and_eq_false_iff, Bool.or_eq_false_iff, Int.not_lt, Int.not_le] at hb); try ((exfalso; omega); done))))) | (((refine aw_region (id := 1) ?_)); (all_goals (refine vc_v (by exact fs_lss rfl rfl) rfl ?_))) | (((refine aw_region (id := 2) ?_)); (all_goals (refine vc_v (by exact fs_indexRowE T rfl rfl rfl rfl rfl (by omega) (ints_len _) hg) rfl ?_)); (all_goals (refine vc_v (by exact fs_load T rfl rfl rfl rfl) rfl ?_)); (all_goals (refine vc_v (by exact fs_assign rfl) rfl ?_))) | (((refine aw_region (id := 3) ?_)); (all_goals (refine vc_v (by exact fs_move rfl) rfl ?_)); (all_goals (refine vc_v (by exact fs_nilCheck rfl rfl) rfl ?_)); (all_goals (refine vc_v (by exact fs_fieldAddr T rfl rfl rfl) rfl ?_)); (all_goals (refine vc_v (by exact fs_load T rfl rfl rfl rfl) rfl ?_)); (all_goals (refine vc_v (by exact fs_move rfl) rfl ?_)); (all_goals (refine vc_v (by exact fs_move rfl) rfl ?_)); (all_goals (refine vc_mapNew mapU intK rfl rfl (isv_i _) rfl rfl (mk_good m1) (good_i _) (fun e => hn (mk_mem.1 e)) ?_))) | (((refine aw_region (id := 4) ?_)); (all_goals (refine vc_v (by first | exact fs_addr rfl rfl (by omega) (by omega) | exact fs_add rfl rfl) rfl ?_)); (all_goals (refine vc_v (by exact fs_move rfl) rfl ?_))) | (refine vc_nilp (by (first | (dsimp only [List.nil_append, List.cons_append, List.append_nil, List.length_cons, List.length_nil, List.set_cons_zero, List.set_cons_succ, List.map_cons, List.map_nil, putAt, putd, allObjs, argEnv, un_v, un_ptr, un_ep, un_pr, un_sl, un_mp, un_row, un_agg, un_tup, un_clo, Nat.zero_add, Nat.add_zero, Nat.reduceAdd, Bool.not_true, Bool.not_false]; first | done | exact rfl) | exact rfl)) ?_))
      all_goals first | (exfalso; omega) | exact ⟨⟨k + 1, hlt⟩, by dsimp only; omega, [0, 1], rfl, (by (repeat (first | exact trivial | refine ⟨rfl, ?_⟩))), ⟨.inr rfl, .inr (sub_map rfl (by rw [hnx]; exact e1) (by rw [hnx]; exact e2) (mvV_idf _)), trivial⟩, by decide, lt2⟩
  · have hkl : k = l.length := by omega
    subst hkl
    repeat' (first | (first | (refine aw_seq ?_) | (refine aw_block ?_) | (refine aw_skip ?_) | (refine aw_ret ?_) | (refine aw_exit ?_)) | (first | (refine aw_condt rfl ?_) | (refine aw_condf rfl ?_) | (refine aw_cond rfl (fun hb => ?_) (fun hb => ?_) <;> (first | subst hb | ((try simp only [decide_eq_true_eq, decide_eq_false_iff_not, Bool.not_true, Bool.not_false, Bool.not_eq_true', Bool.not_eq_false', Bool.and_eq_true, Bool.or_eq_true, Bool.and_eq_false_iff, Bool.or_eq_false_iff, Int.not_lt, Int.not_le] at hb); try ((exfalso; omega); done))))) | (((refine aw_region (id := 1) ?_)); (all_goals (refine vc_v (by exact fs_lss rfl rfl) rfl ?_))) | (refine vc_nilp (by (first | (dsimp only [List.nil_append, List.cons_append, List.append_nil, List.length_cons, List.length_nil, List.set_cons_zero, List.set_cons_succ, List.map_cons, List.map_nil, putAt, putd, allObjs, argEnv, un_v, un_ptr, un_ep, un_pr, un_sl, un_mp, un_row, un_agg, un_tup, un_clo, Nat.zero_add, Nat.add_zero, Nat.reduceAdd, Bool.not_true, Bool.not_false]; first | done | exact rfl) | exact rfl)) ?_))
    all_goals first | (exfalso; omega) | exact ⟨.inr rfl, [0, 1], _, rfl, rfl, rfl, ⟨.inr rfl, .inr (sub_map rfl rfl rfl (mvV_idf _)), trivial⟩, by decide, lt2⟩
end Go.Proofs.YtgnnbmgljadokaaDoor
