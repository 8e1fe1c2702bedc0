/-
  Layer 8: a cell is reached within a region.
-/
import Derived.Test.YtlpffgndackglaaRe4
import Derived.Test.YtlpffgndackglaaRe5
import Derived.Test.YtlpffgndackglaaAb36
namespace Go.Proofs.Ytlpffgndackglaa
open Go Go.Ab Go.Fl Go.Re
set_option linter.unusedVariables false
set_option linter.unusedSimpArgs false
attribute [local irreducible] VC AW FStep ACall
set_option maxHeartbeats 4000000

theorem mapT : Try.prog.underlying 44 = some (.map 3 3) := by kernel_rfl
theorem int_z : (Try.prog.info? 3).bind (·.zero) = some (.int .i64 0) := by kernel_rfl
theorem int_zA : ∀ (S : Nat → Prop) (w : World) (ρ : Pl), R S w (.i 0) ρ (.int .i64 0) := fun S w ρ => by simp [R]
theorem intKey : KeyOk Try.prog 3 (MapKept.IsKey (.int .i64)) := KeyOk.int (by kernel_rfl)
abbrev keysA (l : List Nat) : List Value := l.map fun c : Nat => kI (c : Int)
abbrev valsA (out : List Int) (l : List Nat) : List AV := l.map fun c => AV.i (out.getD c (-1))
theorem keys_good (l : List Nat) : ∀ q, q ∈ keysA l → MapKept.IsKey (.int .i64) q := fun q hq => by
  obtain ⟨c, _, rfl⟩ := List.mem_map.1 hq; rfl
theorem keys_nd {l : List Nat} (h : l.Nodup) : (keysA l).Nodup := List.Pairwise.map _ (fun a b hab e => hab (by simp [kI] at e; omega)) h
theorem keys_no {l : List Nat} {x : Int} (h : ∀ c : Nat, (c : Int) = x → c ∉ l) : kI x ∉ keysA l := fun hm => by
  obtain ⟨c, hc, e⟩ := List.mem_map.1 hm
  simp [kI] at e
  exact h c e hc
theorem keys_at {l : List Nat} {out : List Int} {c : Nat} (h : c ∈ l) : ∃ i : Nat, (keysA l)[i]? = some (kI (c : Int)) ∧ (valsA out l)[i]? = some (AV.i (out.getD c (-1))) := by
  obtain ⟨i, hi⟩ := List.getElem?_of_mem h
  exact ⟨i, by simp [hi], by simp [hi]⟩
theorem valsA_idf (out : List Int) (l : List Nat) : AV.idfL (valsA out l) = true := by
  induction l with
  | nil => rfl
  | cons c l ih => exact ih
theorem sub_map {h : Hp} {i : Nat} {θ : Nat → Nat} {ks ks' : List Value} {vs vs' : List AV} (hk : h[i]? = some (.mapO ks' vs')) (e1 : ks' = ks) (e2 : vs' = vs) (hi : AV.idfL vs = true) : h[i]? = some ((AB.mapO ks vs).map θ) := by
  subst e1 e2
  rw [hk]
  simp only [AB.map, mapL_idf θ _ hi]
theorem lt5 : ∀ i : Nat, i < 5 → ([0, 1, 2, 3, 4] : List Nat)[i]? = some i := by decide
theorem lt5' : ∀ i : Nat, i < 5 → ([0, 1, 2, 3, 4, 6] : List Nat)[i]? = some i := by decide
abbrev rcH (r : List Int) (off len : Nat) (ks : List Value) (vs : List AV) (qa : List (List AV)) : Hp := [.cells [.mp 3], .cells [.rowE (ints r) 1], .cells [.sl 4 off len 1], .mapO ks vs, .arr qa 1]
theorem rreach_no {r : List Int} (ha : Asc r) (hrl : r.length ≤ 1000000) {off len c : Nat} {n : Int} {out : List Int} {hist : List Nat} {qa : List (List AV)} (hnd : hist.Nodup) (h : c ∈ hist ∨ (c : Int) ∉ r) (hq : ∀ e, e ∈ qa → AV.idfL e = true) :
    ACall Try.prog 58 [.i (c : Int), .i n, .ptr 0 0, .ptr 1 0, .ptr 2 0] (rcH r off len (keysA hist) (valsA out hist) qa) (.tup []) (rcH r off len (keysA hist) (valsA out hist) qa) := by
  have hh := rhas_c r c ha hrl
  by_cases hin : c ∈ hist
  · obtain ⟨i, h1, h2⟩ := keys_at (out := out) hin
    refine acall T Try.func58 rfl rfl rfl rfl ?_
    repeat' (first | (first | (refine aw_seq ?_) | (refine aw_block ?_) | (refine aw_skip ?_) | (refine aw_ret ?_) | (refine aw_exit ?_)) | (first | (refine aw_condt rfl ?_) | (refine aw_condf rfl ?_) | (refine aw_cond rfl (fun hb => ?_) (fun hb => ?_) <;> (first | subst hb | ((try simp only [nm] at hb); try ((exfalso; omega); done))))) | (((refine aw_region (id := 0) ?_)); (all_goals (refine vc_v (by exact fs_load T rfl rfl rfl rfl) rfl ?_)); (all_goals (refine vm rfl rfl ?_)); (all_goals (refine vc_v (by exact fs_mapGet mapT intKey rfl rfl (isv_i _) rfl (keys_good _) (good_i _) (keys_nd hnd) h1 h2) rfl ?_)); (all_goals (refine vm rfl rfl ?_)); (all_goals (refine vc_v (by exact fs_extract rfl rfl) rfl ?_)); (all_goals (refine vc_v (by exact fs_extract rfl rfl) rfl ?_)); (all_goals (refine va rfl rfl ?_)); (all_goals (refine va rfl rfl ?_))) | (((refine aw_region (id := 1) ?_)); (all_goals (refine vm rfl rfl ?_)); (all_goals (refine vc_v (by exact fs_not rfl) rfl ?_)); (all_goals (refine vm rfl rfl ?_)); (all_goals first | (refine vc_gt rfl rfl ?_ rfl; (refine vc_v (by exact fs_load T rfl rfl rfl rfl) rfl ?_)) | (refine vc_gf rfl rfl ?_ rfl) | (refine vc_gu rfl rfl ?_ rfl) | (refine vc_split rfl rfl (fun hb => ?_) (fun hb => ?_) <;> (first | subst hb | (rw [hb]; (try simp only [nm] at hb); try ((exfalso; omega); done))) <;> first | (refine vc_gt rfl rfl ?_ rfl; (refine vc_v (by exact fs_load T rfl rfl rfl rfl) rfl ?_)) | (refine vc_gf rfl rfl ?_ rfl) | (refine vc_gu rfl rfl ?_ rfl))); (all_goals first | (refine vc_gt rfl rfl ?_ rfl; (refine vm rfl rfl ?_)) | (refine vc_gf rfl rfl ?_ rfl) | (refine vc_gu rfl rfl ?_ rfl)); (all_goals first | (refine vc_gt rfl rfl ?_ rfl; first | (refine vc_v (by first | fail) rfl ?_) | (refine vc_n (by first | fail) rfl ?_)) | (refine vc_gf rfl rfl ?_ rfl) | (refine vc_gu rfl rfl ?_ rfl)); (all_goals (refine vc_v (by first | exact fs_pickt rfl rfl | exact fs_pickf rfl rfl | exact fs_pick rfl rfl rfl) rfl ?_))) | (refine vc_nilp (by (first | (dsimp only [List.nil_append, List.cons_append, List.append_nil, List.length_cons, List.length_nil, List.set_cons_zero, List.set_cons_succ, List.map_cons, List.map_nil, putAt, putd, allObjs, argEnv, un_v, un_ptr, un_ep, un_pr, un_sl, un_mp, un_row, un_agg, un_tup, un_clo, Nat.zero_add, Nat.add_zero, Nat.reduceAdd, Bool.not_true, Bool.not_false]; first | done | exact rfl) | exact rfl)) ?_))
    exact ⟨.inr rfl, [0, 1, 2, 3, 4], [], rfl, rfl, rfl, ⟨.inr rfl, .inr rfl, .inr rfl, .inr (sub_map rfl rfl rfl (valsA_idf _ _)), .inr (sub_arr rfl rfl hq), trivial⟩, by decide, lt5⟩
  · rw [decide_eq_false (h.resolve_left hin)] at hh
    refine acall T Try.func58 rfl rfl rfl rfl ?_
    repeat' (first | (first | (refine aw_seq ?_) | (refine aw_block ?_) | (refine aw_skip ?_) | (refine aw_ret ?_) | (refine aw_exit ?_)) | (first | (refine aw_condt rfl ?_) | (refine aw_condf rfl ?_) | (refine aw_cond rfl (fun hb => ?_) (fun hb => ?_) <;> (first | subst hb | ((try simp only [nm] at hb); try ((exfalso; omega); done))))) | (((refine aw_region (id := 0) ?_)); (all_goals (refine vc_v (by exact fs_load T rfl rfl rfl rfl) rfl ?_)); (all_goals (refine vm rfl rfl ?_)); (all_goals (refine vc_v (by exact fs_mapMiss mapT intKey (zero_run int_z) int_zA rfl rfl (isv_i _) rfl (keys_good _) (good_i _) (keys_no (fun c' e => by rw [show c' = c by omega]; exact hin))) rfl ?_)); (all_goals (refine vm rfl rfl ?_)); (all_goals (refine vc_v (by exact fs_extract rfl rfl) rfl ?_)); (all_goals (refine vc_v (by exact fs_extract rfl rfl) rfl ?_)); (all_goals (refine va rfl rfl ?_)); (all_goals (refine va rfl rfl ?_))) | (((refine aw_region (id := 1) ?_)); (all_goals (refine vm rfl rfl ?_)); (all_goals (refine vc_v (by exact fs_not rfl) rfl ?_)); (all_goals (refine vm rfl rfl ?_)); (all_goals first | (refine vc_gt rfl rfl ?_ rfl; (refine vc_v (by exact fs_load T rfl rfl rfl rfl) rfl ?_)) | (refine vc_gf rfl rfl ?_ rfl) | (refine vc_gu rfl rfl ?_ rfl) | (refine vc_split rfl rfl (fun hb => ?_) (fun hb => ?_) <;> (first | subst hb | (rw [hb]; (try simp only [nm] at hb); try ((exfalso; omega); done))) <;> first | (refine vc_gt rfl rfl ?_ rfl; (refine vc_v (by exact fs_load T rfl rfl rfl rfl) rfl ?_)) | (refine vc_gf rfl rfl ?_ rfl) | (refine vc_gu rfl rfl ?_ rfl))); (all_goals first | (refine vc_gt rfl rfl ?_ rfl; (refine vm rfl rfl ?_)) | (refine vc_gf rfl rfl ?_ rfl) | (refine vc_gu rfl rfl ?_ rfl)); (all_goals first | (refine vc_gt rfl rfl ?_ rfl; (refine vc_v (by exact fs_call0 rfl rfl (hh) rfl rfl rfl) rfl ?_)) | (refine vc_gf rfl rfl ?_ rfl) | (refine vc_gu rfl rfl ?_ rfl)); (all_goals (refine vc_v (by first | exact fs_pickt rfl rfl | exact fs_pickf rfl rfl | exact fs_pick rfl rfl rfl) rfl ?_))) | (refine vc_nilp (by (first | (dsimp only [List.nil_append, List.cons_append, List.append_nil, List.length_cons, List.length_nil, List.set_cons_zero, List.set_cons_succ, List.map_cons, List.map_nil, putAt, putd, allObjs, argEnv, un_v, un_ptr, un_ep, un_pr, un_sl, un_mp, un_row, un_agg, un_tup, un_clo, Nat.zero_add, Nat.add_zero, Nat.reduceAdd, Bool.not_true, Bool.not_false]; first | done | exact rfl) | exact rfl)) ?_))
    exact ⟨.inr rfl, [0, 1, 2, 3, 4], [], rfl, rfl, rfl, ⟨.inr rfl, .inr rfl, .inr rfl, .inr (sub_map rfl rfl rfl (valsA_idf _ _)), .inr (sub_arr rfl rfl hq), trivial⟩, by decide, lt5⟩
theorem rreach_yes {r : List Int} (ha : Asc r) (hrl : r.length ≤ 1000000) {c : Nat} {n : Int} {out : List Int} {hist pre q : List Nat} (hin : c ∉ hist) (hr : (c : Int) ∈ r) (hcl : c < out.length) (hq : q.length ≤ 300) :
    ACall Try.prog 58 [.i (c : Int), .i n, .ptr 0 0, .ptr 1 0, .ptr 2 0] (rcH r pre.length q.length (keysA hist) (valsA out hist) (nats (pre ++ q))) (.tup []) [.cells [.mp 3], .cells [.rowE (ints r) 1], .cells [.sl 5 0 (q.length + 1) 1], .mapO (keysA (hist ++ [c])) (valsA (out.set c n) (hist ++ [c])), .gone, .arr (nats (q ++ [c])) 1] := by
  have hh := rhas_c r c ha hrl
  rw [decide_eq_true hr] at hh
  have hk : keysA hist ++ [kI (c : Int)] = keysA (hist ++ [c]) := by simp
  have hv : valsA out hist ++ [AV.i n] = valsA (out.set c n) (hist ++ [c]) := by
    simp only [List.map_append, List.map_cons, List.map_nil]
    congr 1
    · refine List.map_congr_left fun y hy => ?_
      have e : ¬ (c = y ∧ c < out.length) := fun e => hin (e.1 ▸ hy)
      rw [getD_set, if_neg e]
    · rw [getD_set, if_pos ⟨rfl, hcl⟩]
  refine acall T Try.func58 rfl rfl rfl rfl ?_
  repeat' (first | (first | (refine aw_seq ?_) | (refine aw_block ?_) | (refine aw_skip ?_) | (refine aw_ret ?_) | (refine aw_exit ?_)) | (first | (refine aw_condt rfl ?_) | (refine aw_condf rfl ?_) | (refine aw_cond rfl (fun hb => ?_) (fun hb => ?_) <;> (first | subst hb | ((try simp only [nm] at hb); try ((exfalso; omega); done))))) | (((refine aw_region (id := 0) ?_)); (all_goals (refine vc_v (by exact fs_load T rfl rfl rfl rfl) rfl ?_)); (all_goals (refine vm rfl rfl ?_)); (all_goals (refine vc_v (by exact fs_mapMiss mapT intKey (zero_run int_z) int_zA rfl rfl (isv_i _) rfl (keys_good _) (good_i _) (keys_no (fun c' e => by rw [show c' = c by omega]; exact hin))) rfl ?_)); (all_goals (refine vm rfl rfl ?_)); (all_goals (refine vc_v (by exact fs_extract rfl rfl) rfl ?_)); (all_goals (refine vc_v (by exact fs_extract rfl rfl) rfl ?_)); (all_goals (refine va rfl rfl ?_)); (all_goals (refine va rfl rfl ?_))) | (((refine aw_region (id := 1) ?_)); (all_goals (refine vm rfl rfl ?_)); (all_goals (refine vc_v (by exact fs_not rfl) rfl ?_)); (all_goals (refine vm rfl rfl ?_)); (all_goals first | (refine vc_gt rfl rfl ?_ rfl; (refine vc_v (by exact fs_load T rfl rfl rfl rfl) rfl ?_)) | (refine vc_gf rfl rfl ?_ rfl) | (refine vc_gu rfl rfl ?_ rfl) | (refine vc_split rfl rfl (fun hb => ?_) (fun hb => ?_) <;> (first | subst hb | (rw [hb]; (try simp only [nm] at hb); try ((exfalso; omega); done))) <;> first | (refine vc_gt rfl rfl ?_ rfl; (refine vc_v (by exact fs_load T rfl rfl rfl rfl) rfl ?_)) | (refine vc_gf rfl rfl ?_ rfl) | (refine vc_gu rfl rfl ?_ rfl))); (all_goals first | (refine vc_gt rfl rfl ?_ rfl; (refine vm rfl rfl ?_)) | (refine vc_gf rfl rfl ?_ rfl) | (refine vc_gu rfl rfl ?_ rfl)); (all_goals first | (refine vc_gt rfl rfl ?_ rfl; (refine vc_v (by exact fs_call0 rfl rfl (hh) rfl rfl rfl) rfl ?_)) | (refine vc_gf rfl rfl ?_ rfl) | (refine vc_gu rfl rfl ?_ rfl)); (all_goals (refine vc_v (by first | exact fs_pickt rfl rfl | exact fs_pickf rfl rfl | exact fs_pick rfl rfl rfl) rfl ?_))) | (((refine aw_region (id := 2) ?_)); (all_goals (refine vc_v (by exact fs_load T rfl rfl rfl rfl) rfl ?_)); (all_goals (refine vm rfl rfl ?_)); (all_goals (refine vm rfl rfl ?_)); (all_goals (refine vc_mapNew mapT intKey rfl rfl (isv_i _) rfl rfl (keys_good _) (good_i _) (keys_no (fun c' e => by rw [show c' = c by omega]; exact hin)) ?_))) | (((refine aw_region (id := 3) ?_)); (all_goals (refine vc_v (by exact fs_load T rfl rfl rfl rfl) rfl ?_)); (all_goals (refine vm rfl rfl ?_)); (all_goals (refine vc_n (by exact fs_buildSlice T rfl rfl (by decide) (by decide) rfl rfl rfl) rfl ?_)); (all_goals (refine vc_append T rfl rfl rfl rfl rfl rfl (by simp) (Elems.whole rfl rfl) rfl (by simp; omega) (by simp; omega) rfl ?_)); (all_goals (refine vc_store T rfl rfl rfl rfl rfl rfl (by decide) rfl ?_))) | (refine vc_nilp (by (first | (dsimp only [List.nil_append, List.cons_append, List.append_nil, List.length_cons, List.length_nil, List.set_cons_zero, List.set_cons_succ, List.map_cons, List.map_nil, putAt, putd, allObjs, argEnv, un_v, un_ptr, un_ep, un_pr, un_sl, un_mp, un_row, un_agg, un_tup, un_clo, Nat.zero_add, Nat.add_zero, Nat.reduceAdd, Bool.not_true, Bool.not_false]; first | done | exact rfl) | exact rfl)) ?_))
  exact ⟨.inr rfl, [0, 1, 2, 3, 4, 6], [], rfl, rfl, rfl, ⟨.inr rfl, .inr rfl, .inr rfl, .inr (sub_map rfl hk hv (valsA_idf _ _)), .inl rfl, .inr (sub_arr rfl (by simp; exact List.take_of_length_le (by simp)) (nats_idf _)), trivial⟩, by decide, lt5'⟩
end Go.Proofs.Ytlpffgndackglaa
