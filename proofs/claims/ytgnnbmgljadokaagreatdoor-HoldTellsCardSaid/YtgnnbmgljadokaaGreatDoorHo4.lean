/-
  Layer 17: the table's functions, one by one.
-/
import Derived.Test.YtgnnbmgljadokaaGreatDoorHo3
namespace Go.Proofs.YtgnnbmgljadokaaGreatDoor
open Go Go.Ab Go.Ho Go.MapKept
set_option linter.unusedVariables false
set_option linter.unusedSimpArgs false
attribute [local irreducible] VC AW FStep ACall
set_option maxHeartbeats 4000000

def mkV (m : Tb) : List Value := (kk m).map kI
def mvV (m : Tb) : List AV := (m.map (·.2)).map AV.i
abbrev tb (m : Tb) : Hp := [.cells [.mp 1], .mapO (mkV m) (mvV m)]
theorem mvV_idf (m : Tb) : AV.idfL (mvV m) = true := by
  unfold mvV
  induction m with
  | nil => rfl
  | cons p m ih => simp only [List.map_cons, AV.idfL, AV.idf, Bool.true_and]; exact ih
theorem mapU : Tryz.prog.underlying 57 = some (.map 3 3) := by kernel_rfl
theorem intK : KeyOk Tryz.prog 3 (IsKey (.int .i64)) := KeyOk.int (by kernel_rfl)
theorem zInt : ∀ w, (zeroValue 3).run Tryz.prog w = .ok (.int .i64 0) w := zero_run (by kernel_rfl)
theorem mk_good (m : Tb) : ∀ q, q ∈ mkV m → IsKey (.int .i64) q := by
  intro q hq
  obtain ⟨n, _, rfl⟩ := List.mem_map.1 hq
  rfl
theorem mk_nd {m : Tb} (h : Ok m) : (mkV m).Nodup := h.nd.map _ (fun a b hab e => hab (by simpa using e))
theorem mk_mem {m : Tb} {n : Int} : kI n ∈ mkV m ↔ n ∈ kk m := by
  unfold mkV
  rw [List.mem_map]
  constructor
  · rintro ⟨a, ha, e⟩; simp at e; subst e; exact ha
  · intro h; exact ⟨n, h, rfl⟩
theorem mk_at {m : Tb} (h : Ok m) {n : Int} (hn : n ∈ kk m) : ∃ i : Nat, (mkV m)[i]? = some (kI n) ∧ (mvV m)[i]? = some (AV.i (own m n)) ∧ (kk m)[i]? = some n := by
  obtain ⟨i, hi, _⟩ := at_key hn
  obtain ⟨h1, _⟩ := at_val h.nd hi
  exact ⟨i, by simp [mkV, hi], by unfold mvV; rw [List.getElem?_map, h1]; rfl, hi⟩
theorem sub_map {h : Hp} {i : Nat} {θ : Nat → Nat} {ks ks' : List Value} {vs vs' : List AV} (hk : h[i]? = some (.mapO ks' vs')) (hks : ks' = ks) (he : vs' = vs) (hi : AV.idfL vs = true) : h[i]? = some ((AB.mapO ks vs).map θ) := by
  subst he hks
  rw [hk]
  show _ = some (AB.mapO ks' (AV.mapL θ vs'))
  rw [mapL_idf θ vs' hi]
theorem mk_put {m : Tb} (h : Ok m) {n o : Int} {i : Nat} (hi : (kk m)[i]? = some n) : mkV m = mkV (put m n o) ∧ (mvV m).set i (AV.i o) = mvV (put m n o) := by
  have hk : n ∈ kk m := List.mem_of_getElem? hi
  refine ⟨by unfold mkV; rw [kk_put, if_pos hk], ?_⟩
  unfold mvV
  rw [put_at h.nd hi, List.map_set]
theorem mk_new {m : Tb} {n o : Int} (hn : n ∉ kk m) : mkV m ++ [kI n] = mkV (put m n o) ∧ mvV m ++ [AV.i o] = mvV (put m n o) := by
  refine ⟨by unfold mkV; rw [kk_put, if_neg hn]; simp, ?_⟩
  unfold mvV put
  rw [if_neg hn]; simp
theorem mk_del {m : Tb} (h : Ok m) {n : Int} {i : Nat} (hi : (kk m)[i]? = some n) : (mkV m).eraseIdx i = mkV (del m n) ∧ (mvV m).eraseIdx i = mvV (del m n) := by
  rw [del_at h.nd hi]
  unfold mkV mvV kk
  constructor <;> simp [map_eraseIdx]
theorem new_c : ACall Tryz.prog 12 [] [] (.ptr 0 0) (tb []) := by
  refine acall T Tryz.func12 rfl rfl rfl rfl ?_
  repeat' (first | refine wS ?_ | refine wB ?_ | refine wK ?_ | refine wR ?_ | refine wE ?_ | refine aw_condt rfl ?_ | refine aw_condf rfl ?_ | (refine wC rfl (fun hb => ?_) (fun hb => ?_) <;> (first | subst hb | ((try simp only [nm] at hb); try (exfalso; omega)))) | (((refine rg 0 ?_)); (all_goals (refine va rfl rfl ?_))) | (((refine rg 1 ?_)); (all_goals (refine vc_n (by exact fs_mapNew) rfl ?_; refine vc_v (by exact fs_build T rfl rfl rfl rfl) rfl ?_; refine vc_n (by exact fs_box rfl rfl) rfl ?_; refine va rfl rfl ?_))) | (refine vc_nilp (by (first | (dsimp only [ln1, ln2, List.append_nil, ln4, ln5, ln6, ln7, ln8, ln9, putAt, putd, allObjs, argEnv, un_v, un_ptr, un_ep, un_pr, un_sl, un_mp, un_row, un_agg, un_tup, un_clo, Nat.zero_add, lnb, Nat.reduceAdd, lnc, lnd]; first | done | exact rfl) | exact rfl)) ?_))
  all_goals exact ⟨.inl rfl, [1, 0], _, rfl, rfl, rfl, ⟨.inr rfl, .inr rfl, trivial⟩, by decide, fun i hi => absurd hi (Nat.not_lt_zero _)⟩
theorem owner_c {m : Tb} (h : Ok m) (n : Int) : ACall Tryz.prog 15 [.ptr 0 0, .i n] (tb m) (.i (own m n)) (tb m) := by
  refine acall T Tryz.func15 rfl rfl rfl rfl ?_
  by_cases hn : n ∈ kk m
  · obtain ⟨i, h1, h2, _⟩ := mk_at h hn
    repeat' (first | refine wS ?_ | refine wB ?_ | refine wK ?_ | refine wR ?_ | refine wE ?_ | refine aw_condt rfl ?_ | refine aw_condf rfl ?_ | (refine wC rfl (fun hb => ?_) (fun hb => ?_) <;> (first | subst hb | ((try simp only [nm] at hb); try (exfalso; omega)))) | (((refine rg 0 ?_)); (all_goals (refine va rfl rfl ?_))) | (((refine rg 1 ?_)); (all_goals (refine vm rfl rfl ?_; refine vN rfl rfl rfl ?_; refine vF T rfl rfl rfl rfl ?_; refine vL T rfl rfl rfl rfl rfl ?_; refine vm rfl rfl ?_; refine vc_v (by exact fs_mapGet mapU intK rfl rfl (isv_i _) rfl (mk_good m) (good_i _) (mk_nd h) h1 h2) rfl ?_; refine vm rfl rfl ?_; refine vX rfl rfl rfl ?_; refine vX rfl rfl rfl ?_; refine va rfl rfl ?_; refine va rfl rfl ?_))) | (((refine rg 2 ?_)); (all_goals (refine vm rfl rfl ?_))) | (((refine rg 3 ?_)); (all_goals (refine vm rfl rfl ?_; refine va rfl rfl ?_))) | (((refine rg 4 ?_)); (all_goals (refine va rfl rfl ?_))) | (refine vc_nilp (by (first | (dsimp only [ln1, ln2, List.append_nil, ln4, ln5, ln6, ln7, ln8, ln9, putAt, putd, allObjs, argEnv, un_v, un_ptr, un_ep, un_pr, un_sl, un_mp, un_row, un_agg, un_tup, un_clo, Nat.zero_add, lnb, Nat.reduceAdd, lnc, lnd]; first | done | exact rfl) | exact rfl)) ?_))
    all_goals exact ⟨.inl rfl, [0, 1], _, rfl, rfl, rfl, ⟨.inr rfl, .inr (sub_map rfl rfl rfl (mvV_idf m)), trivial⟩, by decide, lt2⟩
  · rw [own_not hn]
    repeat' (first | refine wS ?_ | refine wB ?_ | refine wK ?_ | refine wR ?_ | refine wE ?_ | refine aw_condt rfl ?_ | refine aw_condf rfl ?_ | (refine wC rfl (fun hb => ?_) (fun hb => ?_) <;> (first | subst hb | ((try simp only [nm] at hb); try (exfalso; omega)))) | (((refine rg 0 ?_)); (all_goals (refine va rfl rfl ?_))) | (((refine rg 1 ?_)); (all_goals (refine vm rfl rfl ?_; refine vN rfl rfl rfl ?_; refine vF T rfl rfl rfl rfl ?_; refine vL T rfl rfl rfl rfl rfl ?_; refine vm rfl rfl ?_; refine vc_v (by exact fs_mapMiss (zA := .i 0) mapU intK zInt (fun _ _ _ => R_v_mk _) rfl rfl (isv_i _) rfl (mk_good m) (good_i _) (fun e => hn (mk_mem.1 e))) rfl ?_; refine vm rfl rfl ?_; refine vX rfl rfl rfl ?_; refine vX rfl rfl rfl ?_; refine va rfl rfl ?_; refine va rfl rfl ?_))) | (((refine rg 2 ?_)); (all_goals (refine vm rfl rfl ?_))) | (((refine rg 3 ?_)); (all_goals (refine vm rfl rfl ?_; refine va rfl rfl ?_))) | (((refine rg 4 ?_)); (all_goals (refine va rfl rfl ?_))) | (refine vc_nilp (by (first | (dsimp only [ln1, ln2, List.append_nil, ln4, ln5, ln6, ln7, ln8, ln9, putAt, putd, allObjs, argEnv, un_v, un_ptr, un_ep, un_pr, un_sl, un_mp, un_row, un_agg, un_tup, un_clo, Nat.zero_add, lnb, Nat.reduceAdd, lnc, lnd]; first | done | exact rfl) | exact rfl)) ?_))
    all_goals exact ⟨.inl rfl, [0, 1], _, rfl, rfl, rfl, ⟨.inr rfl, .inr (sub_map rfl rfl rfl (mvV_idf m)), trivial⟩, by decide, lt2⟩
theorem len_c {m : Tb} : ACall Tryz.prog 22 [.ptr 0 0] (tb m) (.i m.length) (tb m) := by
  refine acall T Tryz.func22 rfl rfl rfl rfl ?_
  have e : ((mkV m).length : Int) = (m.length : Int) := by simp [mkV, kk]
  rw [← e]
  repeat' (first | refine wS ?_ | refine wB ?_ | refine wK ?_ | refine wR ?_ | refine wE ?_ | refine aw_condt rfl ?_ | refine aw_condf rfl ?_ | (refine wC rfl (fun hb => ?_) (fun hb => ?_) <;> (first | subst hb | ((try simp only [nm] at hb); try (exfalso; omega)))) | (((refine rg 0 ?_)); (all_goals (refine va rfl rfl ?_))) | (((refine rg 1 ?_)); (all_goals (refine vm rfl rfl ?_; refine vN rfl rfl rfl ?_; refine vF T rfl rfl rfl rfl ?_; refine vL T rfl rfl rfl rfl rfl ?_; refine vc_v (by first | exact fs_lenOwn T rfl rfl | exact fs_lenRow T rfl rfl | exact fs_lenNil T rfl rfl | exact fs_lenMap mapU rfl rfl) rfl ?_; refine va rfl rfl ?_))) | (refine vc_nilp (by (first | (dsimp only [ln1, ln2, List.append_nil, ln4, ln5, ln6, ln7, ln8, ln9, putAt, putd, allObjs, argEnv, un_v, un_ptr, un_ep, un_pr, un_sl, un_mp, un_row, un_agg, un_tup, un_clo, Nat.zero_add, lnb, Nat.reduceAdd, lnc, lnd]; first | done | exact rfl) | exact rfl)) ?_))
  all_goals exact ⟨.inl rfl, [0, 1], _, rfl, rfl, rfl, ⟨.inr rfl, .inr (sub_map rfl rfl rfl (mvV_idf m)), trivial⟩, by decide, lt2⟩
theorem lt2c : ∀ i : Nat, i < 2 → ([0, 1, 3, 2] : List Nat)[i]? = some i := by decide
theorem copy_c {m : Tb} : ACall Tryz.prog 9 [.ptr 0 0] (tb m) (.ptr 2 0) (tb m ++ [.cells [.mp 3], .mapO (mkV m) (mvV m)]) := by
  refine acall T Tryz.func9 rfl rfl rfl rfl ?_
  repeat' (first | refine wS ?_ | refine wB ?_ | refine wK ?_ | refine wR ?_ | refine wE ?_ | refine aw_condt rfl ?_ | refine aw_condf rfl ?_ | (refine wC rfl (fun hb => ?_) (fun hb => ?_) <;> (first | subst hb | ((try simp only [nm] at hb); try (exfalso; omega)))) | (((refine rg 0 ?_)); (all_goals (refine va rfl rfl ?_))) | (((refine rg 1 ?_)); (all_goals (refine vm rfl rfl ?_; refine vN rfl rfl rfl ?_; refine vF T rfl rfl rfl rfl ?_; refine vL T rfl rfl rfl rfl rfl ?_)); (all_goals first | (refine vc_callw [1] rfl rfl (clone_c (mkV m) (mvV m)) rfl rfl (by decide) ⟨.inr (sub_map rfl rfl rfl (mvV_idf m)), trivial⟩ (by simp) rfl ?_) | (refine vc_v (by first | fail) rfl ?_) | (refine vc_n (by first | fail) rfl ?_)); (all_goals (refine vc_v (by exact fs_build T rfl rfl rfl rfl) rfl ?_; refine vc_n (by exact fs_box rfl rfl) rfl ?_; refine va rfl rfl ?_))) | (refine vc_nilp (by (first | (dsimp only [ln1, ln2, List.append_nil, ln4, ln5, ln6, ln7, ln8, ln9, putAt, putd, allObjs, argEnv, un_v, un_ptr, un_ep, un_pr, un_sl, un_mp, un_row, un_agg, un_tup, un_clo, Nat.zero_add, lnb, Nat.reduceAdd, lnc, lnd]; first | done | exact rfl) | exact rfl)) ?_))
  all_goals exact ⟨.inl rfl, [0, 1, 3, 2], _, rfl, rfl, rfl, ⟨.inr rfl, .inr (sub_map rfl rfl (mapL_idf _ _ (mvV_idf m)) (mvV_idf m)), .inr rfl, .inr (sub_map rfl rfl (mapL_idf _ _ (mvV_idf m)) (mvV_idf m)), trivial⟩, by decide, lt2c⟩
def putL (m : Tb) (l : List Int) (o : Int) (k : Nat) : Tb := (l.take k).foldl (fun m n => put m n o) m
theorem putL_next {m : Tb} {l : List Int} {o : Int} {k : Nat} (hk : k < l.length) : putL m l o (k + 1) = put (putL m l o k) l[k] o := by
  unfold putL
  rw [List.take_succ_eq_append_getElem hk, List.foldl_append]; rfl
theorem Ok.putL {m : Tb} (h : Ok m) {l : List Int} {o : Int} (hl : ∀ n, n ∈ l → 0 ≤ n ∧ n < 8192) (ho : 0 ≤ o ∧ o ≤ 9223372036854775807) : ∀ k, Ok (putL m l o k)
  | 0 => h
  | k + 1 => by
    by_cases hk : k < l.length
    · rw [putL_next hk]; exact (Ok.putL h hl ho k).put (hl _ (List.getElem_mem hk)) ho
    · have : Go.Proofs.YtgnnbmgljadokaaGreatDoor.putL m l o (k + 1) = Go.Proofs.YtgnnbmgljadokaaGreatDoor.putL m l o k := by unfold Go.Proofs.YtgnnbmgljadokaaGreatDoor.putL; rw [List.take_of_length_le (by omega), List.take_of_length_le (by omega)]
      rw [this]; exact Ok.putL h hl ho k
theorem own_putL {m : Tb} {l : List Int} {o : Int} (n : Int) : ∀ k, own (putL m l o k) n = if n ∈ l.take k then o else own m n
  | 0 => by simp [putL]
  | k + 1 => by
    by_cases hk : k < l.length
    · have e : n ∈ l.take (k + 1) ↔ n ∈ l.take k ∨ n = l[k] := by rw [List.take_succ_eq_append_getElem hk, List.mem_append, List.mem_singleton]
      rw [putL_next hk, own_put, own_putL n k]
      by_cases h1 : n = l[k]
      · rw [if_pos h1, if_pos (e.2 (.inr h1))]
      · rw [if_neg h1]
        by_cases h2 : n ∈ l.take k
        · rw [if_pos h2, if_pos (e.2 (.inl h2))]
        · rw [if_neg h2, if_neg (fun h => (e.1 h).elim h2 h1)]
    · have : putL m l o (k + 1) = putL m l o k := by unfold putL; rw [List.take_of_length_le (by omega), List.take_of_length_le (by omega)]
      rw [this, own_putL n k, List.take_of_length_le (by omega), List.take_of_length_le (by omega)]
theorem set_c {m : Tb} (h : Ok m) {l : List Int} {o : Int} (hl : ∀ n, n ∈ l → 0 ≤ n ∧ n < 8192) (ho : 0 ≤ o ∧ o ≤ 9223372036854775807) (hll : l.length ≤ 100000000) :
    ACall Tryz.prog 62 [.ptr 0 0, .i o, .rowE (ints l) 1] (tb m) (.tup []) (tb (putL m l o l.length)) := by
  have hlen : (ints l).length = l.length := by simp
  refine acall T Tryz.func62 rfl rfl rfl rfl ?_
  repeat' (first | refine wS ?_ | refine wB ?_ | refine wK ?_ | refine wR ?_ | refine wE ?_ | refine aw_condt rfl ?_ | refine aw_condf rfl ?_ | (refine wC rfl (fun hb => ?_) (fun hb => ?_) <;> (first | subst hb | ((try simp only [nm] at hb); try (exfalso; omega)))) | (((refine rg 0 ?_)); (all_goals (refine vm rfl rfl ?_; refine vc_v (by first | exact fs_lenOwn T rfl rfl | exact fs_lenRow T rfl rfl | exact fs_lenNil T rfl rfl) rfl ?_; refine vm rfl rfl ?_))) | (refine vc_nilp (by (first | (dsimp only [ln1, ln2, List.append_nil, ln4, ln5, ln6, ln7, ln8, ln9, putAt, putd, allObjs, argEnv, un_v, un_ptr, un_ep, un_pr, un_sl, un_mp, un_row, un_agg, un_tup, un_clo, Nat.zero_add, lnb, Nat.reduceAdd, lnc, lnd]; first | done | exact rfl) | exact rfl)) ?_))
  refine aw_loop (X := {k : Nat // k ≤ l.length}) (fun k => [(0, .ptr 0 0), (1, .i o), (8, .rowE (ints l) 1), (9, .i (ints l).length), (10, .i k.1)]) (fun k => tb (putL m l o k.1)) (fun k => l.length - k.1) ⟨0, by omega⟩ ⟨[0, 1], rfl, (by (repeat (first | exact trivial | refine ⟨rfl, ?_⟩))), ⟨.inr rfl, .inr (sub_map rfl rfl rfl (mvV_idf _)), trivial⟩, by decide, lt2⟩ ?_
  rintro ⟨k, hk⟩
  dsimp only
  by_cases hlt : k < l.length
  · have hok := Ok.putL h hl ho k
    have hg := ints_get hlt
    have hnx := putL_next (m := m) (o := o) hlt
    generalize l[k] = n at *
    generalize putL m l o k = m1 at *
    by_cases hn : n ∈ kk m1
    · obtain ⟨i, h1, h2, h3⟩ := mk_at hok hn
      obtain ⟨e1, e2⟩ := mk_put hok (o := o) h3
      repeat' (first | refine wS ?_ | refine wB ?_ | refine wK ?_ | refine wR ?_ | refine wE ?_ | refine aw_condt rfl ?_ | refine aw_condf rfl ?_ | (refine wC rfl (fun hb => ?_) (fun hb => ?_) <;> (first | subst hb | ((try simp only [nm] at hb); try (exfalso; omega)))) | (((refine rg 1 ?_)); (all_goals (refine vc_v (by exact fs_lss rfl rfl) rfl ?_))) | (((refine rg 2 ?_)); (all_goals (refine vc_v (by exact fs_indexRowE T rfl rfl rfl rfl rfl (by omega) (ints_len _) hg) rfl ?_; refine vL T rfl rfl rfl rfl rfl ?_; refine va rfl rfl ?_))) | (((refine rg 3 ?_)); (all_goals (refine vm rfl rfl ?_; refine vN rfl rfl rfl ?_; refine vF T rfl rfl rfl rfl ?_; refine vL T rfl rfl rfl rfl rfl ?_; refine vm rfl rfl ?_; refine vm rfl rfl ?_; refine vc_mapPut mapU intK rfl rfl (isv_i _) rfl rfl (mk_good m1) (good_i _) (mk_nd hok) h1 ?_))) | (((refine rg 4 ?_)); (all_goals (refine vc_v (by first | exact fs_addr rfl rfl (by omega) (by omega) | exact fs_add rfl rfl) rfl ?_; refine vm rfl rfl ?_))) | (refine vc_nilp (by (first | (dsimp only [ln1, ln2, List.append_nil, ln4, ln5, ln6, ln7, ln8, ln9, putAt, putd, allObjs, argEnv, un_v, un_ptr, un_ep, un_pr, un_sl, un_mp, un_row, un_agg, un_tup, un_clo, Nat.zero_add, lnb, Nat.reduceAdd, lnc, lnd]; first | done | exact rfl) | exact rfl)) ?_))
      all_goals first | (exfalso; omega) | exact ⟨⟨k + 1, hlt⟩, by dsimp only; omega, [0, 1], rfl, (by (repeat (first | exact trivial | refine ⟨rfl, ?_⟩))), ⟨.inr rfl, .inr (sub_map rfl (by rw [hnx]; exact e1) (by rw [hnx]; exact e2) (mvV_idf _)), trivial⟩, by decide, lt2⟩
    · obtain ⟨e1, e2⟩ := mk_new (o := o) hn
      repeat' (first | refine wS ?_ | refine wB ?_ | refine wK ?_ | refine wR ?_ | refine wE ?_ | refine aw_condt rfl ?_ | refine aw_condf rfl ?_ | (refine wC rfl (fun hb => ?_) (fun hb => ?_) <;> (first | subst hb | ((try simp only [nm] at hb); try (exfalso; omega)))) | (((refine rg 1 ?_)); (all_goals (refine vc_v (by exact fs_lss rfl rfl) rfl ?_))) | (((refine rg 2 ?_)); (all_goals (refine vc_v (by exact fs_indexRowE T rfl rfl rfl rfl rfl (by omega) (ints_len _) hg) rfl ?_; refine vL T rfl rfl rfl rfl rfl ?_; refine va rfl rfl ?_))) | (((refine rg 3 ?_)); (all_goals (refine vm rfl rfl ?_; refine vN rfl rfl rfl ?_; refine vF T rfl rfl rfl rfl ?_; refine vL T rfl rfl rfl rfl rfl ?_; refine vm rfl rfl ?_; refine vm rfl rfl ?_; refine vc_mapNew mapU intK rfl rfl (isv_i _) rfl rfl (mk_good m1) (good_i _) (fun e => hn (mk_mem.1 e)) ?_))) | (((refine rg 4 ?_)); (all_goals (refine vc_v (by first | exact fs_addr rfl rfl (by omega) (by omega) | exact fs_add rfl rfl) rfl ?_; refine vm rfl rfl ?_))) | (refine vc_nilp (by (first | (dsimp only [ln1, ln2, List.append_nil, ln4, ln5, ln6, ln7, ln8, ln9, putAt, putd, allObjs, argEnv, un_v, un_ptr, un_ep, un_pr, un_sl, un_mp, un_row, un_agg, un_tup, un_clo, Nat.zero_add, lnb, Nat.reduceAdd, lnc, lnd]; first | done | exact rfl) | exact rfl)) ?_))
      all_goals first | (exfalso; omega) | exact ⟨⟨k + 1, hlt⟩, by dsimp only; omega, [0, 1], rfl, (by (repeat (first | exact trivial | refine ⟨rfl, ?_⟩))), ⟨.inr rfl, .inr (sub_map rfl (by rw [hnx]; exact e1) (by rw [hnx]; exact e2) (mvV_idf _)), trivial⟩, by decide, lt2⟩
  · have hkl : k = l.length := by omega
    subst hkl
    repeat' (first | refine wS ?_ | refine wB ?_ | refine wK ?_ | refine wR ?_ | refine wE ?_ | refine aw_condt rfl ?_ | refine aw_condf rfl ?_ | (refine wC rfl (fun hb => ?_) (fun hb => ?_) <;> (first | subst hb | ((try simp only [nm] at hb); try (exfalso; omega)))) | (((refine rg 1 ?_)); (all_goals (refine vc_v (by exact fs_lss rfl rfl) rfl ?_))) | (refine vc_nilp (by (first | (dsimp only [ln1, ln2, List.append_nil, ln4, ln5, ln6, ln7, ln8, ln9, putAt, putd, allObjs, argEnv, un_v, un_ptr, un_ep, un_pr, un_sl, un_mp, un_row, un_agg, un_tup, un_clo, Nat.zero_add, lnb, Nat.reduceAdd, lnc, lnd]; first | done | exact rfl) | exact rfl)) ?_))
    all_goals first | (exfalso; omega) | exact ⟨.inr rfl, [0, 1], _, rfl, rfl, rfl, ⟨.inr rfl, .inr (sub_map rfl rfl rfl (mvV_idf _)), trivial⟩, by decide, lt2⟩
end Go.Proofs.YtgnnbmgljadokaaGreatDoor
