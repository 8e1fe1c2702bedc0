/-
  Layer 8: Clone, IndexFunc, DeleteFunc, Compact of integers, and Of.
-/
import Derived.Test.YtlpffgndackglaaAb36
import Derived.Test.YtlpffgndackglaaReS
import Derived.Test.YtlpffgndackglaaRe2
namespace Go.Proofs.Ytlpffgndackglaa
open Go Go.Ab Go.Fl Go.Re
set_option linter.unusedVariables false
set_option linter.unusedSimpArgs false
attribute [local irreducible] VC AW FStep ACall
set_option maxHeartbeats 4000000

theorem ints_one (l : List Int) : (ints l).flatten.all AV.one = true :=
  List.all_eq_true.2 fun x hx => by obtain ⟨i, _, rfl⟩ := List.mem_map.1 ((isA_flat l) ▸ hx); rfl
theorem clone_o (l : List Int) (hl : l.length ≤ 1000000) : ACall Try.prog 47 [.rowE (ints l) 1] [] (.sl 0 0 l.length 1) [.arr (ints l) 1] := by
  have hll : (ints l).length = l.length := by simp
  refine acall T Try.func47 rfl rfl rfl rfl ?_
  repeat' (first | (first | (refine aw_seq ?_) | (refine aw_block ?_) | (refine aw_skip ?_) | (refine aw_ret ?_) | (refine aw_exit ?_)) | (first | (refine aw_condt rfl ?_) | (refine aw_condf rfl ?_) | (refine aw_cond rfl (fun hb => ?_) (fun hb => ?_) <;> (first | subst hb | ((try simp only [nm] at hb); try ((exfalso; omega); done))))) | (((refine aw_region (id := 0) ?_)); (all_goals (refine va rfl rfl ?_))) | (((refine aw_region (id := 1) ?_)); (all_goals (refine vm rfl rfl ?_)); (all_goals first | (refine vc_eqNil T rfl rfl rfl rfl fun b hb => ?_; cases b) | (refine vc_v (by exact fs_eql rfl rfl) rfl ?_))) | (refine vc_nilp (by (first | (dsimp only [List.nil_append, List.cons_append, List.append_nil, List.length_cons, List.length_nil, List.set_cons_zero, List.set_cons_succ, List.map_cons, List.map_nil, putAt, putd, allObjs, argEnv, un_v, un_ptr, un_ep, un_pr, un_sl, un_mp, un_row, un_agg, un_tup, un_clo, Nat.zero_add, Nat.add_zero, Nat.reduceAdd, Bool.not_true, Bool.not_false]; first | done | exact rfl) | exact rfl)) ?_))
  · repeat' (first | (first | (refine aw_seq ?_) | (refine aw_block ?_) | (refine aw_skip ?_) | (refine aw_ret ?_) | (refine aw_exit ?_)) | (first | (refine aw_condt rfl ?_) | (refine aw_condf rfl ?_) | (refine aw_cond rfl (fun hb => ?_) (fun hb => ?_) <;> (first | subst hb | ((try simp only [nm] at hb); try ((exfalso; omega); done))))) | (((refine aw_region (id := 3) ?_)); (all_goals (refine vc_n (by exact fs_buildSlice T rfl rfl (by decide) (by decide) rfl rfl rfl) rfl ?_)); (all_goals (refine vm rfl rfl ?_)); (all_goals (refine vc_append T rfl rfl rfl rfl rfl rfl (by decide) (.row (ints_len l)) (ints_one l) (by simp; omega) (by simp; omega) rfl ?_)); (all_goals (refine va rfl rfl ?_))) | (refine vc_nilp (by (first | (dsimp only [List.nil_append, List.cons_append, List.append_nil, List.length_cons, List.length_nil, List.set_cons_zero, List.set_cons_succ, List.map_cons, List.map_nil, putAt, putd, allObjs, argEnv, un_v, un_ptr, un_ep, un_pr, un_sl, un_mp, un_row, un_agg, un_tup, un_clo, Nat.zero_add, Nat.add_zero, Nat.reduceAdd, Bool.not_true, Bool.not_false]; first | done | exact rfl) | exact rfl)) ?_))
    exact ⟨.inl rfl, [1], _, rfl, (by show AV.sl 1 0 (0 + (ints l).length) 1 = AV.sl 1 0 l.length 1; simp), rfl, ⟨.inr (sub_arr rfl rfl (ints_idf _)), trivial⟩, by decide, fun i hi => absurd hi (Nat.not_lt_zero _)⟩
  · have hl0 : l = [] := List.length_eq_zero_iff.1 (Classical.byContradiction fun h => by have := hb (by omega); cases this)
    subst hl0
    repeat' (first | (first | (refine aw_seq ?_) | (refine aw_block ?_) | (refine aw_skip ?_) | (refine aw_ret ?_) | (refine aw_exit ?_)) | (first | (refine aw_condt rfl ?_) | (refine aw_condf rfl ?_) | (refine aw_cond rfl (fun hb => ?_) (fun hb => ?_) <;> (first | subst hb | ((try simp only [nm] at hb); try ((exfalso; omega); done))))) | (((refine aw_region (id := 2) ?_)); (all_goals first | (refine vc_v (by exact fs_assign rfl) rfl ?_; refine vc_own 2 1 rfl (by decide) ?_) | (refine va rfl rfl ?_))) | (refine vc_nilp (by (first | (dsimp only [List.nil_append, List.cons_append, List.append_nil, List.length_cons, List.length_nil, List.set_cons_zero, List.set_cons_succ, List.map_cons, List.map_nil, putAt, putd, allObjs, argEnv, un_v, un_ptr, un_ep, un_pr, un_sl, un_mp, un_row, un_agg, un_tup, un_clo, Nat.zero_add, Nat.add_zero, Nat.reduceAdd, Bool.not_true, Bool.not_false]; first | done | exact rfl) | exact rfl)) ?_))
    exact ⟨.inl rfl, [0], _, rfl, rfl, rfl, ⟨.inr (sub_arr rfl rfl (ints_idf _)), trivial⟩, by decide, fun i hi => absurd hi (Nat.not_lt_zero _)⟩
/-- Where the first is that q holds of, or -1. -/
def fidxI (q : Int → Bool) : List Int → Nat → Int
  | [], _ => -1
  | a :: l, k => if q a then k else fidxI q l (k + 1)
theorem fidxI_drop {q : Int → Bool} {l : List Int} {k : Nat} (h : k < l.length) : fidxI q (l.drop k) k = if q l[k] then (k : Int) else fidxI q (l.drop (k + 1)) (k + 1) := by
  rw [List.drop_eq_getElem_cons h]; rfl
theorem fidxI_spec (q : Int → Bool) : ∀ (l : List Int) (k : Nat), (fidxI q l k = -1 ∧ ∀ x, x ∈ l → q x = false) ∨ ∃ j, ∃ h : j < l.length, fidxI q l k = ((k + j : Nat) : Int) ∧ q l[j] = true ∧ ∀ x, x ∈ l.take j → q x = false
  | [], k => .inl ⟨rfl, fun x h => nomatch h⟩
  | a :: l, k => by
    unfold fidxI
    cases e : q a
    · rw [if_neg (by simp)]
      rcases fidxI_spec q l (k + 1) with ⟨h1, h2⟩ | ⟨j, hj, h1, h2, h3⟩
      · exact .inl ⟨h1, fun x hx => by rcases List.mem_cons.1 hx with rfl | h; exact e; exact h2 x h⟩
      · refine .inr ⟨j + 1, by simpa using hj, by rw [h1]; omega, h2, fun x hx => ?_⟩
        rw [List.take_succ_cons] at hx
        rcases List.mem_cons.1 hx with rfl | h
        · exact e
        · exact h3 x h
    · rw [if_pos rfl]
      exact .inr ⟨0, by simp, by simp, e, fun x hx => by simp at hx⟩
theorem idx_c {F : FuncId} {q : Int → Bool} (l : List Int) (hl : l.length ≤ 1000000) (hF : ∀ a, ACall Try.prog F [.i a] [] (.b (q a)) []) :
    ACall Try.prog 67 [.rowE (ints l) 1, .clo (.func F) [] []] [] (.i (fidxI q l 0)) [] := by
  have hlen : (ints l).length = l.length := by simp
  refine acall T Try.func67 rfl rfl rfl rfl ?_
  repeat' (first | (first | (refine aw_seq ?_) | (refine aw_block ?_) | (refine aw_skip ?_) | (refine aw_ret ?_) | (refine aw_exit ?_)) | (first | (refine aw_condt rfl ?_) | (refine aw_condf rfl ?_) | (refine aw_cond rfl (fun hb => ?_) (fun hb => ?_) <;> (first | subst hb | ((try simp only [nm] at hb); try ((exfalso; omega); done))))) | (((refine aw_region (id := 0) ?_)); (all_goals (refine va rfl rfl ?_))) | (((refine aw_region (id := 1) ?_)); (all_goals (refine vm rfl rfl ?_)); (all_goals (refine vc_v (by first | exact fs_lenOwn T rfl rfl | exact fs_lenRow T rfl rfl | exact fs_lenNil T rfl rfl) rfl ?_)); (all_goals (refine vm rfl rfl ?_))) | (refine vc_nilp (by (first | (dsimp only [List.nil_append, List.cons_append, List.append_nil, List.length_cons, List.length_nil, List.set_cons_zero, List.set_cons_succ, List.map_cons, List.map_nil, putAt, putd, allObjs, argEnv, un_v, un_ptr, un_ep, un_pr, un_sl, un_mp, un_row, un_agg, un_tup, un_clo, Nat.zero_add, Nat.add_zero, Nat.reduceAdd, Bool.not_true, Bool.not_false]; first | done | exact rfl) | exact rfl)) ?_))
  refine aw_loop (X := {k : Nat // k ≤ l.length ∧ fidxI q l 0 = fidxI q (l.drop k) k}) (fun k => [(0, .rowE (ints l) 1), (1, .clo (.func F) [] []), (7, .i (ints l).length), (8, .i k.1)]) (fun _ => []) (fun k => l.length - k.1) ⟨0, by simp, rfl⟩ (by (refine ⟨[], rfl, ?_, trivial, List.nodup_nil, fun _ h => absurd h (Nat.not_lt_zero _)⟩; (repeat (first | exact trivial | refine ⟨rfl, ?_⟩)))) ?_
  rintro ⟨k, hk, hf⟩
  dsimp only
  by_cases hlt : k < l.length
  · have hd := fidxI_drop (q := q) hlt
    have hget := ints_get hlt
    have hc := hF l[k]
    repeat' (first | (first | (refine aw_seq ?_) | (refine aw_block ?_) | (refine aw_skip ?_) | (refine aw_ret ?_) | (refine aw_exit ?_)) | (first | (refine aw_condt rfl ?_) | (refine aw_condf rfl ?_) | (refine aw_cond rfl (fun hb => ?_) (fun hb => ?_) <;> (first | subst hb | ((try simp only [nm] at hb); try ((exfalso; omega); done))))) | (((refine aw_region (id := 2) ?_)); (all_goals (refine vc_v (by exact fs_lss rfl rfl) rfl ?_))) | (((refine aw_region (id := 3) ?_)); (all_goals (refine vm rfl rfl ?_)); (all_goals (refine va rfl rfl ?_))) | (((refine aw_region (id := 4) ?_)); (all_goals (refine vm rfl rfl ?_)); (all_goals (refine vm rfl rfl ?_)); (all_goals (refine vm rfl rfl ?_)); (all_goals (refine vc_v (by exact fs_indexRowE T rfl rfl rfl rfl rfl (by omega) (ints_len l) hget) rfl ?_)); (all_goals (refine vc_v (by exact fs_load T rfl rfl rfl rfl) rfl ?_)); (all_goals (refine vc_v (by exact fs_call0 rfl rfl (hc) rfl rfl rfl) rfl ?_))) | (((refine aw_region (id := 5) ?_)); (all_goals (refine vm rfl rfl ?_)); (all_goals (refine va rfl rfl ?_))) | (((refine aw_region (id := 6) ?_)); (all_goals (refine vc_v (by first | exact fs_addr rfl rfl (by omega) (by omega) | exact fs_add rfl rfl) rfl ?_)); (all_goals (refine vm rfl rfl ?_))) | (refine vc_nilp (by (first | (dsimp only [List.nil_append, List.cons_append, List.append_nil, List.length_cons, List.length_nil, List.set_cons_zero, List.set_cons_succ, List.map_cons, List.map_nil, putAt, putd, allObjs, argEnv, un_v, un_ptr, un_ep, un_pr, un_sl, un_mp, un_row, un_agg, un_tup, un_clo, Nat.zero_add, Nat.add_zero, Nat.reduceAdd, Bool.not_true, Bool.not_false]; first | done | exact rfl) | exact rfl)) ?_))
    all_goals try (exfalso; omega)
    · refine ret_plain (.inl rfl) rfl ?_
      rw [hf, hd, if_pos (by simpa using hb)]; rfl
    · refine ⟨⟨k + 1, by omega, ?_⟩, by dsimp only; omega, by (refine ⟨[], rfl, ?_, trivial, List.nodup_nil, fun _ h => absurd h (Nat.not_lt_zero _)⟩; (repeat (first | exact trivial | refine ⟨rfl, ?_⟩)))⟩
      rw [hf, hd, if_neg (by simpa using hb)]
  · repeat' (first | (first | (refine aw_seq ?_) | (refine aw_block ?_) | (refine aw_skip ?_) | (refine aw_ret ?_) | (refine aw_exit ?_)) | (first | (refine aw_condt rfl ?_) | (refine aw_condf rfl ?_) | (refine aw_cond rfl (fun hb => ?_) (fun hb => ?_) <;> (first | subst hb | ((try simp only [nm] at hb); try ((exfalso; omega); done))))) | (((refine aw_region (id := 2) ?_)); (all_goals (refine vc_v (by exact fs_lss rfl rfl) rfl ?_))) | (((refine aw_region (id := 7) ?_)); (all_goals (refine va rfl rfl ?_))) | (refine vc_nilp (by (first | (dsimp only [List.nil_append, List.cons_append, List.append_nil, List.length_cons, List.length_nil, List.set_cons_zero, List.set_cons_succ, List.map_cons, List.map_nil, putAt, putd, allObjs, argEnv, un_v, un_ptr, un_ep, un_pr, un_sl, un_mp, un_row, un_agg, un_tup, un_clo, Nat.zero_add, Nat.add_zero, Nat.reduceAdd, Bool.not_true, Bool.not_false]; first | done | exact rfl) | exact rfl)) ?_))
    all_goals try (exfalso; omega)
    refine ret_plain (.inl rfl) rfl ?_
    rw [hf, List.drop_of_length_le (by omega)]; rfl
theorem lt1z : ∀ i : Nat, i < 1 → ([0] : List Nat)[i]? = some i := by decide
theorem viewL_ints (h : Hp) : ∀ l : List Int, ViewL h (ints l).flatten (ints l).flatten
  | [] => .nil
  | _ :: l => .cons (.v _) (viewL_ints h l)
theorem view_ints {h : Hp} {k n : Nat} {l : List Int} (hk : h[k]? = some (.arr (ints l) 1)) (hn : n = l.length) : View h (.sl k 0 n 1) (.rowE (ints l) 1) := by
  subst hn
  have := View.sl (h := h) (k := k) (off := 0) (len := l.length) hk (by simp) (by rw [List.drop_zero, List.take_of_length_le (by simp)]; exact viewL_ints h l)
  rwa [show l.length = (ints l).length by simp] at this ⊢
abbrev keepM (q : Int → Bool) (l : List Int) : List Int := l.filter fun x => !q x
theorem keep_take {q : Int → Bool} {l : List Int} {k : Nat} (h : k < l.length) : keepM q (l.take (k + 1)) = if q l[k] then keepM q (l.take k) else keepM q (l.take k) ++ [l[k]] := by
  unfold keepM
  rw [List.take_succ_eq_append_getElem h, List.filter_append]
  cases e : q l[k] <;> simp [e]
theorem keep_le (q : Int → Bool) (l : List Int) (k : Nat) : (keepM q (l.take k)).length ≤ k := Nat.le_trans (List.length_filter_le _ _) (by simp; omega)
theorem at_own {G l : List Int} {m : Nat} (hg : G.length ≤ m) (hm : m < l.length) : (ints (G ++ l.drop G.length))[0 + (m : Int).toNat]? = some [AV.i l[m]] := by
  rw [Nat.zero_add, Int.toNat_natCast, List.getElem?_map, List.getElem?_append_right hg, List.getElem?_drop, show G.length + (m - G.length) = m by omega, List.getElem?_eq_getElem hm]; rfl
theorem set_own {G l : List Int} {x : Int} (hg : G.length < l.length) : (ints (G ++ l.drop G.length)).set (0 + (G.length : Int).toNat) [AV.i x] = ints ((G ++ [x]) ++ l.drop (G ++ [x]).length) := by
  rw [Nat.zero_add, Int.toNat_natCast, ← List.map_set, List.set_append_right _ _ (Nat.le_refl _), Nat.sub_self, List.drop_eq_getElem_cons hg, List.set_cons_zero]
  simp
theorem own_len {G l : List Int} (hg : G.length ≤ l.length) : (ints (G ++ l.drop G.length)).length = l.length := by simp; omega
theorem take_own {G l : List Int} : (ints (G ++ l.drop G.length)).take (0 + (G.length : Int).toNat) = ints G := by
  rw [Nat.zero_add, Int.toNat_natCast, ← List.map_take, List.take_append_of_le_length (Nat.le_refl _), List.take_of_length_le (Nat.le_refl _)]
theorem delete_c {F : FuncId} {q : Int → Bool} (l : List Int) (hl : l.length ≤ 1000000) (hF : ∀ a, ACall Try.prog F [.i a] [] (.b (q a)) []) :
    ACall Try.prog 46 [.sl 0 0 l.length 1, .clo (.func F) [] []] [.arr (ints l) 1] (.sl 0 0 (keepM q l).length 1) [.arr (ints (keepM q l)) 1] := by
  have hll : (ints l).length = l.length := by simp
  have hi := idx_c l hl hF
  refine acall T Try.func46 rfl rfl rfl rfl ?_
  rcases fidxI_spec q l 0 with ⟨h1, h2⟩ | ⟨j, hj, h1, h2, h3⟩
  · rw [h1] at hi
    have hk : keepM q l = l := List.filter_eq_self.2 fun x hx => by rw [h2 x hx]; rfl
    rw [hk]
    repeat' (first | (first | (refine aw_seq ?_) | (refine aw_block ?_) | (refine aw_skip ?_) | (refine aw_ret ?_) | (refine aw_exit ?_)) | (first | (refine aw_condt rfl ?_) | (refine aw_condf rfl ?_) | (refine aw_cond rfl (fun hb => ?_) (fun hb => ?_) <;> (first | subst hb | ((try simp only [nm] at hb); try ((exfalso; omega); done))))) | (((refine aw_region (id := 0) ?_)); (all_goals (refine va rfl rfl ?_))) | (((refine aw_region (id := 1) ?_)); (all_goals (refine vm rfl rfl ?_)); (all_goals (refine vm rfl rfl ?_)); (all_goals (refine vc_v (by exact fs_callb0 rfl rfl hi (.cons (view_ints rfl rfl) (.cons (.clo .nil .nil) .nil)) rfl rfl) rfl ?_)); (all_goals (refine va rfl rfl ?_))) | (((refine aw_region (id := 2) ?_)); (all_goals (refine vm rfl rfl ?_)); (all_goals (refine vc_v (by exact fs_eql rfl rfl) rfl ?_))) | (((refine aw_region (id := 3) ?_)); (all_goals (refine vm rfl rfl ?_)); (all_goals (refine va rfl rfl ?_))) | (refine vc_nilp (by (first | (dsimp only [List.nil_append, List.cons_append, List.append_nil, List.length_cons, List.length_nil, List.set_cons_zero, List.set_cons_succ, List.map_cons, List.map_nil, putAt, putd, allObjs, argEnv, un_v, un_ptr, un_ep, un_pr, un_sl, un_mp, un_row, un_agg, un_tup, un_clo, Nat.zero_add, Nat.add_zero, Nat.reduceAdd, Bool.not_true, Bool.not_false]; first | done | exact rfl) | exact rfl)) ?_))
    all_goals first | (exfalso; omega) | exact ⟨.inl rfl, [0], _, rfl, rfl, rfl, ⟨.inr (sub_arr rfl rfl (ints_idf _)), trivial⟩, by decide, lt1z⟩
  · rw [h1, Nat.zero_add] at hi
    have hk0 : keepM q (l.take (j + 1)) = l.take j := by
      rw [keep_take hj, if_pos h2]
      exact List.filter_eq_self.2 fun x hx => by rw [h3 x hx]; rfl
    have hkl : (keepM q (l.take (j + 1))).length = j := by rw [hk0]; simp; omega
    have hka : keepM q (l.take (j + 1)) ++ l.drop (keepM q (l.take (j + 1))).length = l := by rw [hkl, hk0, List.take_append_drop]
    have hkf : keepM q l = keepM q (l.take l.length) := by rw [List.take_length]
    rw [hkf]
    repeat' (first | (first | (refine aw_seq ?_) | (refine aw_block ?_) | (refine aw_skip ?_) | (refine aw_ret ?_) | (refine aw_exit ?_)) | (first | (refine aw_condt rfl ?_) | (refine aw_condf rfl ?_) | (refine aw_cond rfl (fun hb => ?_) (fun hb => ?_) <;> (first | subst hb | ((try simp only [nm] at hb); try ((exfalso; omega); done))))) | (((refine aw_region (id := 0) ?_)); (all_goals (refine va rfl rfl ?_))) | (((refine aw_region (id := 1) ?_)); (all_goals (refine vm rfl rfl ?_)); (all_goals (refine vm rfl rfl ?_)); (all_goals (refine vc_v (by exact fs_callb0 rfl rfl hi (.cons (view_ints rfl rfl) (.cons (.clo .nil .nil) .nil)) rfl rfl) rfl ?_)); (all_goals (refine va rfl rfl ?_))) | (((refine aw_region (id := 2) ?_)); (all_goals (refine vm rfl rfl ?_)); (all_goals (refine vc_v (by exact fs_eql rfl rfl) rfl ?_))) | (((refine aw_region (id := 4) ?_)); (all_goals (refine vm rfl rfl ?_)); (all_goals (refine vc_v (by first | exact fs_addr rfl rfl (by omega) (by omega) | exact fs_add rfl rfl) rfl ?_)); (all_goals (refine va rfl rfl ?_))) | (refine vc_nilp (by (first | (dsimp only [List.nil_append, List.cons_append, List.append_nil, List.length_cons, List.length_nil, List.set_cons_zero, List.set_cons_succ, List.map_cons, List.map_nil, putAt, putd, allObjs, argEnv, un_v, un_ptr, un_ep, un_pr, un_sl, un_mp, un_row, un_agg, un_tup, un_clo, Nat.zero_add, Nat.add_zero, Nat.reduceAdd, Bool.not_true, Bool.not_false]; first | done | exact rfl) | exact rfl)) ?_))
    all_goals try (exfalso; omega)
    refine aw_loop (X := {m : Nat // m ≤ l.length}) (fun m => [(0, .sl 0 0 l.length 1), (1, .clo (.func F) [] []), (5, .i (keepM q (l.take m.1)).length), (6, .i m.1)]) (fun m => [.arr (ints (keepM q (l.take m.1) ++ l.drop (keepM q (l.take m.1)).length)) 1]) (fun m => l.length - m.1) ⟨j + 1, hj⟩ ⟨[0], rfl, ⟨rfl, rfl, by dsimp only; rw [hkl]; rfl, rfl, trivial⟩, ⟨.inr (sub_arr rfl (by dsimp only; rw [hka]) (ints_idf _)), trivial⟩, by decide, lt1z⟩ ?_
    rintro ⟨m, hm⟩
    dsimp only
    have hle := keep_le q l m
    by_cases hlt : m < l.length
    · have hs := keep_take (q := q) hlt
      have hget := at_own hle hlt
      have hg2 := at_own (G := keepM q (l.take m)) (l := l) (Nat.le_refl _) (by omega)
      have hset := set_own (G := keepM q (l.take m)) (l := l) (x := l[m]) (by omega)
      have hc := hF l[m]
      have hal := own_len (G := keepM q (l.take m)) (l := l) (by omega)
      generalize l[m] = x at *
      generalize l[(keepM q (l.take m)).length] = y at *
      generalize hG : keepM q (l.take m) = G at *
      generalize hA : ints (G ++ l.drop G.length) = A at *
      cases e : q x
      · rw [e] at hc hs
        rw [if_neg (by simp)] at hs
        repeat' (first | (first | (refine aw_seq ?_) | (refine aw_block ?_) | (refine aw_skip ?_) | (refine aw_ret ?_) | (refine aw_exit ?_)) | (first | (refine aw_condt rfl ?_) | (refine aw_condf rfl ?_) | (refine aw_cond rfl (fun hb => ?_) (fun hb => ?_) <;> (first | subst hb | ((try simp only [nm] at hb); try ((exfalso; omega); done))))) | (((refine aw_region (id := 5) ?_)); (all_goals (refine vm rfl rfl ?_)); (all_goals (refine vm rfl rfl ?_)); (all_goals (refine vc_v (by first | exact fs_lenOwn T rfl rfl | exact fs_lenRow T rfl rfl | exact fs_lenNil T rfl rfl) rfl ?_)); (all_goals (refine vc_v (by exact fs_lss rfl rfl) rfl ?_))) | (((refine aw_region (id := 7) ?_)); (all_goals (refine vm rfl rfl ?_)); (all_goals (refine vm rfl rfl ?_)); (all_goals (refine vc_v (by exact fs_indexOwn T rfl rfl rfl rfl rfl (by omega) (by omega)) rfl ?_)); (all_goals (refine vc_v (by first | exact fs_load T rfl rfl rfl rfl | exact fs_load T rfl rfl (behind_ep rfl hget) rfl) rfl ?_)); (all_goals (refine va rfl rfl ?_))) | (((refine aw_region (id := 8) ?_)); (all_goals (refine vm rfl rfl ?_)); (all_goals (refine vm rfl rfl ?_)); (all_goals (refine vc_v (by exact fs_call0 rfl rfl (hc) rfl rfl rfl) rfl ?_)); (all_goals (refine vc_v (by exact fs_not rfl) rfl ?_))) | (((refine aw_region (id := 9) ?_)); (all_goals (refine vm rfl rfl ?_)); (all_goals (refine vm rfl rfl ?_)); (all_goals (refine vm rfl rfl ?_)); (all_goals (refine vc_v (by exact fs_indexOwn T rfl rfl rfl rfl rfl (by omega) (by omega)) rfl ?_)); (all_goals first | (refine vc_store T rfl rfl rfl rfl rfl rfl (by decide) rfl ?_) | (refine vc_store T rfl rfl rfl rfl rfl rfl (by decide) (upd_ep rfl hg2 rfl) ?_))) | (((refine aw_region (id := 10) ?_)); (all_goals (refine vm rfl rfl ?_)); (all_goals (refine vc_v (by first | exact fs_addr rfl rfl (by omega) (by omega) | exact fs_add rfl rfl) rfl ?_)); (all_goals (refine va rfl rfl ?_))) | (((refine aw_region (id := 6) ?_)); (all_goals (refine vm rfl rfl ?_)); (all_goals (refine vc_v (by first | exact fs_addr rfl rfl (by omega) (by omega) | exact fs_add rfl rfl) rfl ?_)); (all_goals (refine va rfl rfl ?_))) | (refine vc_nilp (by (first | (dsimp only [List.nil_append, List.cons_append, List.append_nil, List.length_cons, List.length_nil, List.set_cons_zero, List.set_cons_succ, List.map_cons, List.map_nil, putAt, putd, allObjs, argEnv, un_v, un_ptr, un_ep, un_pr, un_sl, un_mp, un_row, un_agg, un_tup, un_clo, Nat.zero_add, Nat.add_zero, Nat.reduceAdd, Bool.not_true, Bool.not_false]; first | done | exact rfl) | exact rfl)) ?_))
        all_goals try (exfalso; omega)
        all_goals exact ⟨⟨m + 1, hlt⟩, by dsimp only; omega, [0], rfl, ⟨rfl, rfl, by rw [hs]; simp only [List.length_append]; rfl, rfl, trivial⟩, ⟨.inr (sub_arr rfl (by rw [hs]; exact hset) (ints_idf _)), trivial⟩, by decide, lt1z⟩
      · rw [e] at hc hs
        rw [if_pos rfl] at hs
        repeat' (first | (first | (refine aw_seq ?_) | (refine aw_block ?_) | (refine aw_skip ?_) | (refine aw_ret ?_) | (refine aw_exit ?_)) | (first | (refine aw_condt rfl ?_) | (refine aw_condf rfl ?_) | (refine aw_cond rfl (fun hb => ?_) (fun hb => ?_) <;> (first | subst hb | ((try simp only [nm] at hb); try ((exfalso; omega); done))))) | (((refine aw_region (id := 5) ?_)); (all_goals (refine vm rfl rfl ?_)); (all_goals (refine vm rfl rfl ?_)); (all_goals (refine vc_v (by first | exact fs_lenOwn T rfl rfl | exact fs_lenRow T rfl rfl | exact fs_lenNil T rfl rfl) rfl ?_)); (all_goals (refine vc_v (by exact fs_lss rfl rfl) rfl ?_))) | (((refine aw_region (id := 7) ?_)); (all_goals (refine vm rfl rfl ?_)); (all_goals (refine vm rfl rfl ?_)); (all_goals (refine vc_v (by exact fs_indexOwn T rfl rfl rfl rfl rfl (by omega) (by omega)) rfl ?_)); (all_goals (refine vc_v (by first | exact fs_load T rfl rfl rfl rfl | exact fs_load T rfl rfl (behind_ep rfl hget) rfl) rfl ?_)); (all_goals (refine va rfl rfl ?_))) | (((refine aw_region (id := 8) ?_)); (all_goals (refine vm rfl rfl ?_)); (all_goals (refine vm rfl rfl ?_)); (all_goals (refine vc_v (by exact fs_call0 rfl rfl (hc) rfl rfl rfl) rfl ?_)); (all_goals (refine vc_v (by exact fs_not rfl) rfl ?_))) | (((refine aw_region (id := 6) ?_)); (all_goals (refine vm rfl rfl ?_)); (all_goals (refine vc_v (by first | exact fs_addr rfl rfl (by omega) (by omega) | exact fs_add rfl rfl) rfl ?_)); (all_goals (refine va rfl rfl ?_))) | (refine vc_nilp (by (first | (dsimp only [List.nil_append, List.cons_append, List.append_nil, List.length_cons, List.length_nil, List.set_cons_zero, List.set_cons_succ, List.map_cons, List.map_nil, putAt, putd, allObjs, argEnv, un_v, un_ptr, un_ep, un_pr, un_sl, un_mp, un_row, un_agg, un_tup, un_clo, Nat.zero_add, Nat.add_zero, Nat.reduceAdd, Bool.not_true, Bool.not_false]; first | done | exact rfl) | exact rfl)) ?_))
        all_goals try (exfalso; omega)
        all_goals exact ⟨⟨m + 1, hlt⟩, by dsimp only; omega, [0], rfl, ⟨rfl, rfl, by rw [hs]; rfl, rfl, trivial⟩, ⟨.inr (sub_arr rfl (by rw [hs]; exact hA.symm) (ints_idf _)), trivial⟩, by decide, lt1z⟩
    · obtain rfl : m = l.length := by omega
      have hal := own_len (G := keepM q (l.take l.length)) (l := l) (by omega)
      have htk := take_own (G := keepM q (l.take l.length)) (l := l)
      generalize keepM q (l.take l.length) = G at *
      repeat' (first | (first | (refine aw_seq ?_) | (refine aw_block ?_) | (refine aw_skip ?_) | (refine aw_ret ?_) | (refine aw_exit ?_)) | (first | (refine aw_condt rfl ?_) | (refine aw_condf rfl ?_) | (refine aw_cond rfl (fun hb => ?_) (fun hb => ?_) <;> (first | subst hb | ((try simp only [nm] at hb); try ((exfalso; omega); done))))) | (((refine aw_region (id := 5) ?_)); (all_goals (refine vm rfl rfl ?_)); (all_goals (refine vm rfl rfl ?_)); (all_goals (refine vc_v (by first | exact fs_lenOwn T rfl rfl | exact fs_lenRow T rfl rfl | exact fs_lenNil T rfl rfl) rfl ?_)); (all_goals (refine vc_v (by exact fs_lss rfl rfl) rfl ?_))) | (((refine aw_region (id := 11) ?_)); (all_goals (refine vm rfl rfl ?_)); (all_goals (refine vm rfl rfl ?_)); (all_goals (refine vc_v (by exact fs_sliceOwn T rfl rfl rfl rfl rfl rfl (by omega) (by omega) (by omega)) rfl ?_)); (all_goals (refine vc_clear T rfl rfl rfl rfl rfl (by rw [hal]; omega) ?_))) | (((refine aw_region (id := 12) ?_)); (all_goals (refine vm rfl rfl ?_)); (all_goals (refine vm rfl rfl ?_)); (all_goals (refine vc_v (by exact fs_sliceOwn T rfl rfl rfl rfl rfl rfl (by omega) (by omega) (by omega)) rfl ?_)); (all_goals (refine va rfl rfl ?_))) | (refine vc_nilp (by (first | (dsimp only [List.nil_append, List.cons_append, List.append_nil, List.length_cons, List.length_nil, List.set_cons_zero, List.set_cons_succ, List.map_cons, List.map_nil, putAt, putd, allObjs, argEnv, un_v, un_ptr, un_ep, un_pr, un_sl, un_mp, un_row, un_agg, un_tup, un_clo, Nat.zero_add, Nat.add_zero, Nat.reduceAdd, Bool.not_true, Bool.not_false]; first | done | exact rfl) | exact rfl)) ?_))
      all_goals try (exfalso; omega)
      all_goals exact ⟨.inl rfl, [0], _, rfl, (by show AV.sl 0 0 ((G.length : Int) - 0).toNat 1 = AV.sl 0 0 G.length 1; rw [show ((G.length : Int) - 0).toNat = G.length by omega]), rfl, ⟨.inr (sub_arr rfl htk (ints_idf _)), trivial⟩, by decide, lt1z⟩
end Go.Proofs.Ytlpffgndackglaa
