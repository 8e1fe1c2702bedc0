/-
  Layer 17: Of, Drop, Free's loop.
-/
import Derived.Test.YtgnnbmgljadokaaDoorHo4
namespace Go.Proofs.YtgnnbmgljadokaaDoor
open Go Go.Ab Go.Ho Go.MapKept
set_option linter.unusedVariables false
set_option linter.unusedSimpArgs false
attribute [local irreducible] VC AW FStep ACall
set_option maxHeartbeats 4000000

/-- The slots of an owner, as they are met. -/
def pick (m : Tb) (o : Int) (i : Nat) : Option Int := (m[i]?).bind fun p => if p.2 = o then some p.1 else none
def outL (m : Tb) (o : Int) (d : List Nat) : List Int := d.filterMap (pick m o)
def ofL (m : Tb) (o : Int) : List Int := sorted (outL m o (List.range m.length))
theorem mem_outL {m : Tb} {o n : Int} {d : List Nat} (hd : ∀ i, i < m.length → i ∈ d) : n ∈ outL m o d ↔ (n, o) ∈ m := by
  unfold outL pick
  rw [List.mem_filterMap]
  constructor
  · rintro ⟨i, _, h⟩
    rw [Option.bind_eq_some_iff] at h
    obtain ⟨p, hp, h⟩ := h
    split at h
    · rename_i e
      cases h
      rw [← e]; exact List.mem_of_getElem? hp
    · cases h
  · intro h
    obtain ⟨i, hi⟩ := List.mem_iff_getElem?.1 h
    exact ⟨i, hd i (List.getElem?_eq_some_iff.1 hi).1, by rw [hi]; simp⟩
theorem nodup_fm {f : Nat → Option Int} (hf : ∀ i j n, f i = some n → f j = some n → i = j) : ∀ {d : List Nat}, d.Nodup → (d.filterMap f).Nodup
  | [], _ => by simp
  | i :: d, h => by
    obtain ⟨h1, h2⟩ := List.nodup_cons.1 h
    cases hi : f i with
    | none => rw [List.filterMap_cons_none hi]; exact nodup_fm hf h2
    | some n =>
      rw [List.filterMap_cons_some hi, List.nodup_cons]
      refine ⟨fun hm => ?_, nodup_fm hf h2⟩
      obtain ⟨j, hj, hjn⟩ := List.mem_filterMap.1 hm
      exact h1 (hf i j n hi hjn ▸ hj)
theorem nd_outL {m : Tb} (h : Ok m) {o : Int} {d : List Nat} (hnd : d.Nodup) (hlt : ∀ i, i ∈ d → i < m.length) : (outL m o d).Nodup := by
  unfold outL
  refine nodup_fm (fun i j n hi hj => ?_) hnd
  unfold pick at hi hj
  simp only [Option.bind_eq_some_iff] at hi hj
  obtain ⟨p, hp, h1⟩ := hi
  obtain ⟨q, hq, h2⟩ := hj
  split at h1
  · split at h2
    · cases h1
      have e : q.1 = p.1 := by simpa using h2
      have hil := (List.getElem?_eq_some_iff.1 hp).1
      exact (List.getElem?_inj (by simpa [kk] using hil) h.nd).1 (by simp [kk, hp, hq, e])
    · cases h2
  · cases h1
theorem sorted_perm {a b : List Int} (h : a.Perm b) : sorted a = sorted b := mergeSort_of_perm_i h
theorem outL_all {m : Tb} (h : Ok m) {o : Int} {d : List Nat} (hnd : d.Nodup) (hlt : ∀ i, i ∈ d → i < m.length) (hd : ∀ i, i < m.length → i ∈ d) : sorted (outL m o d) = ofL m o := by
  unfold ofL
  refine sorted_perm ((List.perm_ext_iff_of_nodup (nd_outL h hnd hlt) (nd_outL h List.nodup_range fun i hi => List.mem_range.1 hi)).2 fun n => ?_)
  rw [mem_outL hd, mem_outL (fun i hi => List.mem_range.2 hi)]
theorem outL_len {m : Tb} {o : Int} {d : List Nat} : (outL m o d).length ≤ d.length := List.length_filterMap_le _ _
theorem mem_ofL {m : Tb} {o n : Int} : n ∈ ofL m o ↔ (n, o) ∈ m := by
  unfold ofL sorted
  rw [(List.mergeSort_perm _ _).mem_iff, mem_outL fun i hi => List.mem_range.2 hi]
theorem ofL_len {m : Tb} {o : Int} : (ofL m o).length ≤ m.length := by
  unfold ofL
  rw [sorted_len]
  have := outL_len (m := m) (o := o) (d := List.range m.length)
  simpa using this
theorem lt3 : ∀ i : Nat, i < 2 → ([0, 1, 3] : List Nat)[i]? = some i := by decide
theorem lt23 : ∀ i : Nat, i < 2 → ([0, 1, 2, 3] : List Nat)[i]? = some i := by decide
/-- The stamps of what has been met. -/
def seenB (bs : List Nat) (d : List Nat) : List Nat := d.map fun i => bs.getD i 0
theorem lt24 : ∀ i : Nat, i < 2 → ([0, 1, 2, 4] : List Nat)[i]? = some i := by decide
theorem sub_mapB {h : Hp} {i : Nat} {θ : Nat → Nat} {ks : List Value} {vs : List AV} {bs : List Nat} {ck : Nat} (hk : h[i]? = some (.mapB ks vs bs ck)) (hi : AV.idfL vs = true) : h[i]? = some ((AB.mapB ks vs bs ck).map θ) := by
  rw [hk]
  show _ = some (AB.mapB ks (AV.mapL θ vs) bs ck)
  rw [mapL_idf θ vs hi]
theorem outL_yes {m : Tb} {o n : Int} {d : List Nat} {i : Nat} (hi : m[i]? = some (n, o)) : outL m o (d ++ [i]) = outL m o d ++ [n] := by
  unfold outL
  rw [List.filterMap_append]
  congr 1
  simp [pick, hi]
theorem outL_no {m : Tb} {o o' n : Int} {d : List Nat} {i : Nat} (hi : m[i]? = some (n, o')) (ho : o' ≠ o) : outL m o (d ++ [i]) = outL m o d := by
  unfold outL
  rw [List.filterMap_append]
  simp [pick, hi, ho]
theorem at_m {m : Tb} {i : Nat} {n o : Int} (h : m[i]? = some (n, o)) : (mkV m)[i]? = some (kI n) ∧ (mvV m)[i]? = some (AV.i o) := by
  constructor <;> simp [mkV, mvV, kk, h]
section
variable {P : Program} {env : Env} {h : Hp} {n : Nat × Nat} {ops : Array Oper} {rest : List Oper} {K : Env → Hp → Prop} {d : Option Nat} {ty : TypeId} {pos : String} {af : Array Edge}
theorem vc_nextT {k km since c0 ck : Nat} {seen bs : List Nat} {x : Operand} {m : Tb} (hx : evu env x = some (.ptr k 0)) (hk : h[k]? = some (.iter km since seen c0)) (hm : h[km]? = some (.mapB (mkV m) (mvV m) bs ck)) (hs : ∀ b, b ∈ bs → b < since) (hc : since ≤ c0) (hd : okd d n = true)
    (hend : (∀ b, b ∈ bs → b ∈ seen) → VC P n ops rest (putd d (.tup [.b false]) env) h K)
    (hstep : ∀ (i : Nat) (n' o' : Int) b, m[i]? = some (n', o') → bs[i]? = some b → b ∉ seen → VC P n ops rest (putd d (.tup [.b true, .v (kI n'), .i o']) env) (h.set k (.iter km since (seen ++ [b]) ck)) K) :
    VC P n ops (⟨d, .next x false, ty, pos, af, none⟩ :: rest) env h K := by
  refine vc_next hx hk hm hs hc hd hend fun i kv v b h1 h2 h3 h4 => ?_
  have hi : ∃ p, m[i]? = some p := by
    have := (List.getElem?_eq_some_iff.1 h1).1
    exact ⟨m[i]'(by simpa [mkV, kk] using this), List.getElem?_eq_getElem _⟩
  obtain ⟨⟨n', o'⟩, hp⟩ := hi
  obtain ⟨e1, e2⟩ := at_m hp
  rw [e1] at h1; cases h1
  rw [e2] at h2; cases h2
  exact hstep i n' o' b hp h3 h4
end
theorem seen_all {bs d : List Nat} (hnd : bs.Nodup) (hlt : ∀ i, i ∈ d → i < bs.length) (h : ∀ b, b ∈ bs → b ∈ seenB bs d) : ∀ i, i < bs.length → i ∈ d := fun i hi => by
  obtain ⟨j, hj, e⟩ := List.mem_map.1 (h _ (List.getElem_mem hi))
  have hjl := hlt j hj
  rw [List.getD_eq_getElem?_getD, List.getElem?_eq_getElem hjl, Option.getD_some] at e
  have : j = i := (List.getElem?_inj hjl hnd).1 (by rw [List.getElem?_eq_getElem hjl, List.getElem?_eq_getElem hi, e])
  rw [← this]; exact hj
theorem seen_not {bs d : List Nat} {i b : Nat} (hi : bs[i]? = some b) (h : b ∉ seenB bs d) : i ∉ d := fun hd => h (List.mem_map.2 ⟨i, hd, by rw [List.getD_eq_getElem?_getD, hi]; rfl⟩)
theorem seen_snoc {bs d : List Nat} {i b : Nat} (hi : bs[i]? = some b) : seenB bs d ++ [b] = seenB bs (d ++ [i]) := by
  simp [seenB, List.getD_eq_getElem?_getD, hi]
theorem nodup_le {d : List Nat} {k : Nat} (hnd : d.Nodup) (hlt : ∀ i, i ∈ d → i < k) : d.length ≤ k := by
  have := hnd.length_le_of_subset (l₂ := List.range k) fun i hi => List.mem_range.2 (hlt i hi)
  simpa using this
theorem nodup_snoc {d : List Nat} {i : Nat} (h : d.Nodup) (hi : i ∉ d) : (d ++ [i]).Nodup := by
  rw [List.nodup_append]; exact ⟨h, by simp, fun a ha b hb e => hi (by simp at hb; rw [← hb, ← e]; exact ha)⟩
theorem sub_iter {h : Hp} {i : Nat} {θ : Nat → Nat} {km since c0 : Nat} {a b : List Nat} (hk : h[i]? = some (.iter (θ km) since a c0)) (e : a = b) : h[i]? = some ((AB.iter km since b c0).map θ) := by rw [hk, e]; rfl
theorem of_c {m : Tb} (h : Ok m) (o : Int) : ACall Tryd.prog 15 [.ptr 0 0, .i o] (tb m) (.sl 2 0 (ofL m o).length 1) (tb m ++ [.arr (ints (ofL m o)) 1]) := by
  have hml := h.len
  refine acall T Tryd.func15 rfl rfl rfl rfl ?_
  refine aw_mapOpen 1 rfl fun bs ck hb1 hb2 hb3 hb4 => ?_
  dsimp only [List.nil_append, List.cons_append, List.append_nil, List.length_cons, List.length_nil, List.set_cons_zero, List.set_cons_succ, List.map_cons, List.map_nil, putAt, putd, allObjs, argEnv, un_v, un_ptr, un_ep, un_pr, un_sl, un_mp, un_row, un_agg, un_tup, un_clo, Nat.zero_add, Nat.add_zero, Nat.reduceAdd, Bool.not_true, Bool.not_false]
  have hbl : bs.length = m.length := by rw [hb1]; simp [mkV, kk]
  repeat' (first | (first | (refine aw_seq ?_) | (refine aw_block ?_) | (refine aw_skip ?_) | (refine aw_ret ?_) | (refine aw_exit ?_)) | (first | (refine aw_condt rfl ?_) | (refine aw_condf rfl ?_) | (refine aw_cond rfl (fun hb => ?_) (fun hb => ?_) <;> (first | subst hb | ((try simp only [decide_eq_true_eq, decide_eq_false_iff_not, Bool.not_true, Bool.not_false, Bool.not_eq_true', Bool.not_eq_false', Bool.and_eq_true, Bool.or_eq_true, Bool.and_eq_false_iff, Bool.or_eq_false_iff, Int.not_lt, Int.not_le] at hb); try ((exfalso; omega); done))))) | (((refine aw_region (id := 0) ?_)); (all_goals (refine vc_v (by exact fs_assign rfl) rfl ?_))) | (((refine aw_region (id := 1) ?_)); (all_goals (refine vc_v (by exact fs_assign rfl) rfl ?_))) | (((refine aw_region (id := 2) ?_)); (all_goals (refine vc_v (by exact fs_move rfl) rfl ?_)); (all_goals (refine vc_v (by exact fs_nilCheck rfl rfl) rfl ?_)); (all_goals (refine vc_v (by exact fs_fieldAddr T rfl rfl rfl) rfl ?_)); (all_goals (refine vc_v (by exact fs_load T rfl rfl rfl rfl) rfl ?_)); (all_goals first | (refine vc_n (by exact fs_range mapU rfl rfl) rfl ?_) | (refine vc_v (by fail) rfl ?_))) | (refine vc_nilp (by (first | (dsimp only [List.nil_append, List.cons_append, List.append_nil, List.length_cons, List.length_nil, List.set_cons_zero, List.set_cons_succ, List.map_cons, List.map_nil, putAt, putd, allObjs, argEnv, un_v, un_ptr, un_ep, un_pr, un_sl, un_mp, un_row, un_agg, un_tup, un_clo, Nat.zero_add, Nat.add_zero, Nat.reduceAdd, Bool.not_true, Bool.not_false]; first | done | exact rfl) | exact rfl)) ?_))
  refine aw_own 5 1 rfl (by decide) ?_
  dsimp only [List.nil_append, List.cons_append, List.append_nil, List.length_cons, List.length_nil, List.set_cons_zero, List.set_cons_succ, List.map_cons, List.map_nil, putAt, putd, allObjs, argEnv, un_v, un_ptr, un_ep, un_pr, un_sl, un_mp, un_row, un_agg, un_tup, un_clo, Nat.zero_add, Nat.add_zero, Nat.reduceAdd, Bool.not_true, Bool.not_false]
  refine aw_loop (X := {d : List Nat // d.Nodup ∧ ∀ i, i ∈ d → i < m.length}) (fun d => [(0, .ptr 0 0), (1, .i o), (12, .ptr 2 0), (5, .sl 3 0 (outL m o d.1).length 1)]) (fun d => [.cells [.mp 1], .mapB (mkV m) (mvV m) bs ck, .iter 1 ck (seenB bs d.1) ck, .arr (ints (outL m o d.1)) 1]) (fun d => m.length - d.1.length) ⟨[], List.nodup_nil, fun i hi => by cases hi⟩ ⟨[0, 1, 2, 3], rfl, (by (repeat (first | exact trivial | refine ⟨rfl, ?_⟩))), ⟨.inr rfl, .inr (sub_mapB rfl (mvV_idf m)), .inr rfl, .inr rfl, trivial⟩, by decide, lt23⟩ ?_
  rintro ⟨d, hnd, hlt⟩
  dsimp only
  have hdl := nodup_le hnd hlt
  have hol := outL_len (m := m) (o := o) (d := d)
  repeat' (first | (first | (refine aw_seq ?_) | (refine aw_block ?_) | (refine aw_skip ?_) | (refine aw_ret ?_) | (refine aw_exit ?_)) | (first | (refine aw_condt rfl ?_) | (refine aw_condf rfl ?_) | (refine aw_cond rfl (fun hb => ?_) (fun hb => ?_) <;> (first | subst hb | ((try simp only [decide_eq_true_eq, decide_eq_false_iff_not, Bool.not_true, Bool.not_false, Bool.not_eq_true', Bool.not_eq_false', Bool.and_eq_true, Bool.or_eq_true, Bool.and_eq_false_iff, Bool.or_eq_false_iff, Int.not_lt, Int.not_le] at hb); try ((exfalso; omega); done))))) | (((refine aw_region (id := 3) ?_)); (all_goals first | (refine vc_nextT rfl rfl rfl hb4 (Nat.le_refl _) rfl (fun hend => ?_) (fun i n o' b g1 g2 g3 => ?_)) | (refine vc_v (by fail) rfl ?_)); (all_goals (refine vc_v (by exact fs_extract rfl rfl) rfl ?_))) | (refine vc_nilp (by (first | (dsimp only [List.nil_append, List.cons_append, List.append_nil, List.length_cons, List.length_nil, List.set_cons_zero, List.set_cons_succ, List.map_cons, List.map_nil, putAt, putd, allObjs, argEnv, un_v, un_ptr, un_ep, un_pr, un_sl, un_mp, un_row, un_agg, un_tup, un_clo, Nat.zero_add, Nat.add_zero, Nat.reduceAdd, Bool.not_true, Bool.not_false]; first | done | exact rfl) | exact rfl)) ?_))
  · have hall := seen_all hb3 (by rw [hbl]; exact hlt) hend
    rw [hbl] at hall
    have e := outL_all h (o := o) hnd hlt hall
    rw [← e, sorted_len]
    refine aw_mapShut 1 rfl ?_
    dsimp only [List.nil_append, List.cons_append, List.append_nil, List.length_cons, List.length_nil, List.set_cons_zero, List.set_cons_succ, List.map_cons, List.map_nil, putAt, putd, allObjs, argEnv, un_v, un_ptr, un_ep, un_pr, un_sl, un_mp, un_row, un_agg, un_tup, un_clo, Nat.zero_add, Nat.add_zero, Nat.reduceAdd, Bool.not_true, Bool.not_false]
    repeat' (first | (first | (refine aw_seq ?_) | (refine aw_block ?_) | (refine aw_skip ?_) | (refine aw_ret ?_) | (refine aw_exit ?_)) | (first | (refine aw_condt rfl ?_) | (refine aw_condf rfl ?_) | (refine aw_cond rfl (fun hb => ?_) (fun hb => ?_) <;> (first | subst hb | ((try simp only [decide_eq_true_eq, decide_eq_false_iff_not, Bool.not_true, Bool.not_false, Bool.not_eq_true', Bool.not_eq_false', Bool.and_eq_true, Bool.or_eq_true, Bool.and_eq_false_iff, Bool.or_eq_false_iff, Int.not_lt, Int.not_le] at hb); try ((exfalso; omega); done))))) | (((refine aw_region (id := 7) ?_)); (all_goals (refine vc_v (by exact fs_move rfl) rfl ?_)); (all_goals first | (refine vc_callw [3] rfl rfl (sort_c (outL m o d) (by omega)) rfl rfl (by decide) ⟨.inr (sub_arr rfl rfl (ints_idf _)), trivial⟩ (by simp) rfl ?_) | (refine vc_v (by first | fail) rfl ?_) | (refine vc_n (by first | fail) rfl ?_))) | (((refine aw_region (id := 8) ?_)); (all_goals (refine vc_v (by exact fs_move rfl) rfl ?_)); (all_goals (refine vc_v (by exact fs_assign rfl) rfl ?_))) | (refine vc_nilp (by (first | (dsimp only [List.nil_append, List.cons_append, List.append_nil, List.length_cons, List.length_nil, List.set_cons_zero, List.set_cons_succ, List.map_cons, List.map_nil, putAt, putd, allObjs, argEnv, un_v, un_ptr, un_ep, un_pr, un_sl, un_mp, un_row, un_agg, un_tup, un_clo, Nat.zero_add, Nat.add_zero, Nat.reduceAdd, Bool.not_true, Bool.not_false]; first | done | exact rfl) | exact rfl)) ?_))
    all_goals exact ⟨.inl rfl, [0, 1, 3], _, rfl, rfl, rfl, ⟨.inr rfl, .inr (sub_map rfl rfl rfl (mvV_idf m)), .inr (sub_arr rfl (mapL_idfs _ (ints_idf _)) (ints_idf _)), trivial⟩, by decide, lt3⟩
  · have hnew := seen_not g2 g3
    have hil := (List.getElem?_eq_some_iff.1 g1).1
    have hsn := seen_snoc (d := d) g2
    obtain ⟨k1, k2⟩ := at_m g1
    have hd' : (d ++ [i]).Nodup ∧ ∀ j, j ∈ d ++ [i] → j < m.length := ⟨nodup_snoc hnd hnew, fun j hj => (List.mem_append.1 hj).elim (hlt j) (fun e => by simp at e; rw [e]; exact hil)⟩
    have hdl2 := nodup_le hd'.1 hd'.2
    rw [List.length_append, List.length_singleton] at hdl2
    by_cases ho : o' = o
    · subst ho
      have hy := outL_yes (d := d) g1
      have hyl : (outL m o' (d ++ [i])).length = (outL m o' d).length + 1 := by rw [hy]; simp
      repeat' (first | (first | (refine aw_seq ?_) | (refine aw_block ?_) | (refine aw_skip ?_) | (refine aw_ret ?_) | (refine aw_exit ?_)) | (first | (refine aw_condt rfl ?_) | (refine aw_condf rfl ?_) | (refine aw_cond rfl (fun hb => ?_) (fun hb => ?_) <;> (first | subst hb | ((try simp only [decide_eq_true_eq, decide_eq_false_iff_not, Bool.not_true, Bool.not_false, Bool.not_eq_true', Bool.not_eq_false', Bool.and_eq_true, Bool.or_eq_true, Bool.and_eq_false_iff, Bool.or_eq_false_iff, Int.not_lt, Int.not_le] at hb); try ((exfalso; omega); done))))) | (((refine aw_region (id := 4) ?_)); (all_goals (refine vc_v (by exact fs_entry rfl rfl rfl rfl g2 k1 k2) rfl ?_)); (all_goals (refine vc_v (by exact fs_extract rfl rfl) rfl ?_)); (all_goals (refine vc_v (by exact fs_extract rfl rfl) rfl ?_)); (all_goals (refine vc_v (by exact fs_assign rfl) rfl ?_)); (all_goals (refine vc_v (by exact fs_assign rfl) rfl ?_))) | (((refine aw_region (id := 5) ?_)); (all_goals (refine vc_v (by exact fs_move rfl) rfl ?_)); (all_goals (refine vc_v (by exact fs_move rfl) rfl ?_)); (all_goals (refine vc_v (by first | exact fs_eqlT rfl rfl rfl | exact fs_eql rfl rfl) rfl ?_))) | (((refine aw_region (id := 6) ?_)); (all_goals (refine vc_v (by exact fs_move rfl) rfl ?_)); (all_goals (refine vc_v (by exact fs_move rfl) rfl ?_)); (all_goals (refine vc_n (by exact fs_buildSlice T rfl rfl (by decide) (by decide) rfl rfl rfl) rfl ?_)); (all_goals (refine vc_append T rfl rfl rfl rfl rfl rfl (by simp) (Elems.whole rfl rfl) rfl (by simp; omega) (by simp; omega) rfl ?_)); (all_goals (refine vc_v (by exact fs_assign rfl) rfl ?_))) | (refine vc_nilp (by (first | (dsimp only [List.nil_append, List.cons_append, List.append_nil, List.length_cons, List.length_nil, List.set_cons_zero, List.set_cons_succ, List.map_cons, List.map_nil, putAt, putd, allObjs, argEnv, un_v, un_ptr, un_ep, un_pr, un_sl, un_mp, un_row, un_agg, un_tup, un_clo, Nat.zero_add, Nat.add_zero, Nat.reduceAdd, Bool.not_true, Bool.not_false]; first | done | exact rfl) | exact rfl)) ?_))
      all_goals exact ⟨⟨d ++ [i], hd'⟩, by dsimp only; rw [List.length_append, List.length_singleton]; omega, [0, 1, 2, 5], rfl, ⟨rfl, rfl, rfl, by dsimp only; rw [hyl]; rfl, trivial⟩, ⟨.inr rfl, .inr (sub_mapB rfl (mvV_idf m)), .inr (sub_iter rfl hsn), .inr (sub_arr rfl ((app_one (by simp)).trans (by dsimp only; rw [hy]; exact ints_snoc _ _)) (ints_idf _)), trivial⟩, by decide, by decide⟩
    · have hy := outL_no (d := d) g1 ho
      repeat' (first | (first | (refine aw_seq ?_) | (refine aw_block ?_) | (refine aw_skip ?_) | (refine aw_ret ?_) | (refine aw_exit ?_)) | (first | (refine aw_condt rfl ?_) | (refine aw_condf rfl ?_) | (refine aw_cond rfl (fun hb => ?_) (fun hb => ?_) <;> (first | subst hb | ((try simp only [decide_eq_true_eq, decide_eq_false_iff_not, Bool.not_true, Bool.not_false, Bool.not_eq_true', Bool.not_eq_false', Bool.and_eq_true, Bool.or_eq_true, Bool.and_eq_false_iff, Bool.or_eq_false_iff, Int.not_lt, Int.not_le] at hb); try ((exfalso; omega); done))))) | (((refine aw_region (id := 4) ?_)); (all_goals (refine vc_v (by exact fs_entry rfl rfl rfl rfl g2 k1 k2) rfl ?_)); (all_goals (refine vc_v (by exact fs_extract rfl rfl) rfl ?_)); (all_goals (refine vc_v (by exact fs_extract rfl rfl) rfl ?_)); (all_goals (refine vc_v (by exact fs_assign rfl) rfl ?_)); (all_goals (refine vc_v (by exact fs_assign rfl) rfl ?_))) | (((refine aw_region (id := 5) ?_)); (all_goals (refine vc_v (by exact fs_move rfl) rfl ?_)); (all_goals (refine vc_v (by exact fs_move rfl) rfl ?_)); (all_goals (refine vc_v (by first | exact fs_eqlF rfl rfl ho | exact fs_eql rfl rfl) rfl ?_))) | (((refine aw_region (id := 6) ?_)); (all_goals (refine vc_v (by exact fs_move rfl) rfl ?_)); (all_goals (refine vc_v (by exact fs_move rfl) rfl ?_)); (all_goals (refine vc_n (by exact fs_buildSlice T rfl rfl (by decide) (by decide) rfl rfl rfl) rfl ?_)); (all_goals fail); (all_goals (refine vc_v (by exact fs_assign rfl) rfl ?_))) | (refine vc_nilp (by (first | (dsimp only [List.nil_append, List.cons_append, List.append_nil, List.length_cons, List.length_nil, List.set_cons_zero, List.set_cons_succ, List.map_cons, List.map_nil, putAt, putd, allObjs, argEnv, un_v, un_ptr, un_ep, un_pr, un_sl, un_mp, un_row, un_agg, un_tup, un_clo, Nat.zero_add, Nat.add_zero, Nat.reduceAdd, Bool.not_true, Bool.not_false]; first | done | exact rfl) | exact rfl)) ?_))
      all_goals exact ⟨⟨d ++ [i], hd'⟩, by dsimp only; rw [List.length_append, List.length_singleton]; omega, [0, 1, 2, 3], rfl, ⟨rfl, rfl, rfl, by dsimp only; rw [hy]; rfl, trivial⟩, ⟨.inr rfl, .inr (sub_mapB rfl (mvV_idf m)), .inr (sub_iter rfl hsn), .inr (sub_arr rfl (by dsimp only; rw [hy]) (ints_idf _)), trivial⟩, by decide, by decide⟩
end Go.Proofs.YtgnnbmgljadokaaDoor
