/-
  Layer 7: cells beside each other on a deck.
-/
import Derived.Test.YtilcbhnhcmdhkaaFlT
namespace Go.Proofs.Ytilcbhnhcmdhkaa
open Go Go.Ab Go.Fl
set_option linter.unusedVariables false
set_option linter.unusedSimpArgs false
attribute [local irreducible] VC AW FStep ACall BoolT
set_option maxHeartbeats 4000000

def nearP (f : Flo) (a b : Int) : Prop := (0 ≤ b ∧ b < f.size) ∧ (besideI f a 0 = b ∨ besideI f a 1 = b ∨ besideI f a 2 = b ∨ besideI f a 3 = b)
instance (f : Flo) (a b : Int) : Decidable (nearP f a b) := by unfold nearP; infer_instance
theorem near_iff {f : Flo} (g : Fine f) {c e : Int} (hc : 0 ≤ c ∧ c < f.size) (he : 0 ≤ e ∧ e < f.size) :
    nearP f c e ↔ max (c % f.w - e % f.w) (e % f.w - c % f.w) + max (c / f.w % f.h - e / f.w % f.h) (e / f.w % f.h - c / f.w % f.h) = 1 ∧ c / (f.w * f.h) = e / (f.w * f.h) := by
  constructor
  · rintro ⟨_, h⟩
    have key : ∀ d : Int, 0 ≤ d → d < 4 → besideI f c d = e → _ := fun d h0 h4 hb => (beside_at g (c := c) (d := d) (by rw [hb]; exact he.1)).2.2.2
    have hs : ∃ d : Int, 0 ≤ d ∧ d < 4 ∧ besideI f c d = e := by
      rcases h with h | h | h | h
      · exact ⟨0, by omega, by omega, h⟩
      · exact ⟨1, by omega, by omega, h⟩
      · exact ⟨2, by omega, by omega, h⟩
      · exact ⟨3, by omega, by omega, h⟩
    obtain ⟨d, h0, h4, hb⟩ := hs
    obtain ⟨k1, k2, k3⟩ := key d h0 h4 hb
    rw [hb] at k1 k2 k3
    have hd : d = 0 ∨ d = 1 ∨ d = 2 ∨ d = 3 := by omega
    generalize c % f.w = a1 at *
    generalize e % f.w = a2 at *
    generalize c / f.w % f.h = b1 at *
    generalize e / f.w % f.h = b2 at *
    generalize c / (f.w * f.h) = c1 at *
    generalize e / (f.w * f.h) = c2 at *
    rcases hd with rfl | rfl | rfl | rfl <;> simp [dxI, dyI, dzI] at k1 k2 k3 <;> omega
  · rintro ⟨h1, h2⟩
    refine ⟨he, ?_⟩
    have bc := fun d hd => beside_cell g (c := c) (d := d) (n := e) hc hd he
    have hcase : (e % f.w = c % f.w + 1 ∧ e / f.w % f.h = c / f.w % f.h) ∨ (e % f.w = c % f.w ∧ e / f.w % f.h = c / f.w % f.h + 1) ∨ (e % f.w = c % f.w - 1 ∧ e / f.w % f.h = c / f.w % f.h) ∨ (e % f.w = c % f.w ∧ e / f.w % f.h = c / f.w % f.h - 1) := by
      generalize c % f.w = a1 at *
      generalize e % f.w = a2 at *
      generalize c / f.w % f.h = b1 at *
      generalize e / f.w % f.h = b2 at *
      omega
    rcases hcase with ⟨k1, k2⟩ | ⟨k1, k2⟩ | ⟨k1, k2⟩ | ⟨k1, k2⟩
    · exact .inl (bc 0 (by omega) (by simp [dxI, k1]) (by simp [dyI, k2]) (by simp [dzI, h2]))
    · exact .inr (.inl (bc 1 (by omega) (by simp [dxI, k1]) (by simp [dyI, k2]) (by simp [dzI, h2])))
    · exact .inr (.inr (.inl (bc 2 (by omega) (by simp [dxI, k1]; omega) (by simp [dyI, k2]) (by simp [dzI, h2]))))
    · exact .inr (.inr (.inr (bc 3 (by omega) (by simp [dxI, k1]) (by simp [dyI, k2]; omega) (by simp [dzI, h2]))))
theorem near_cells {f : Flo} (g : Fine f) {c e : Int} (h : nearP f c e) : (0 ≤ c ∧ c < f.size) ∧ (0 ≤ e ∧ e < f.size) := by
  refine ⟨?_, h.1⟩
  have h1 := h.1.1
  rcases h.2 with h | h | h | h <;> exact (beside_at g (by rw [h]; exact h1)).1
theorem near_sym {f : Flo} (g : Fine f) {c e : Int} : nearP f c e ↔ nearP f e c := by
  constructor
  · intro h
    obtain ⟨hc, he⟩ := near_cells g h
    have := (near_iff g hc he).1 h
    exact (near_iff g he hc).2 ⟨by omega, this.2.symm⟩
  · intro h
    obtain ⟨he, hc⟩ := near_cells g h
    have := (near_iff g he hc).1 h
    exact (near_iff g hc he).2 ⟨by omega, this.2.symm⟩
theorem near_self {f : Flo} (g : Fine f) {c : Int} : ¬ nearP f c c := fun h => by
  have := (near_iff g (near_cells g h).1 (near_cells g h).1).1 h
  omega
theorem near_c {f : Flo} (g : Fine f) (a b : Int) : ACall Try.prog 26 [floorA f, .i a, .i b] [] (.b (decide (nearP f a b))) [] := by
  have hi := is_c g b
  have hbs := beside_c g a
  by_cases hb : 0 ≤ b ∧ b < f.size
  · rw [show (decide (0 ≤ b) && decide (b < f.size)) = true by simp [hb]] at hi
    refine acall T Try.func26 rfl rfl rfl rfl ?_
    repeat' (first | (first | (refine aw_seq ?_) | (refine aw_block ?_) | (refine aw_skip ?_) | (refine aw_ret ?_) | (refine aw_exit ?_)) | (first | (refine aw_condt rfl ?_) | (refine aw_condf rfl ?_) | (refine aw_cond rfl (fun hb => ?_) (fun hb => ?_) <;> (first | subst hb | ((try simp only [decide_eq_true_eq, decide_eq_false_iff_not, Bool.not_true, Bool.not_false, Bool.not_eq_true', Bool.not_eq_false', Bool.and_eq_true, Bool.or_eq_true, Bool.and_eq_false_iff, Bool.or_eq_false_iff, Int.not_lt, Int.not_le, Int.le_min, Int.lt_min, Int.max_le, Int.max_lt] at hb); try ((exfalso; omega); done))))) | (((refine aw_region (id := 0) ?_)); (all_goals first | (refine vc_n (by first | exact fs_box rfl rfl) rfl ?_)); (all_goals first | (refine vc_v (by first | exact fs_assign rfl) rfl ?_)); (all_goals (refine vc_nilp (by (first | (dsimp only [List.nil_append, List.cons_append, List.append_nil, List.length_cons, List.length_nil, List.set_cons_zero, List.set_cons_succ, List.map_cons, List.map_nil, putAt, putd, allObjs, argEnv, un_v, un_ptr, un_ep, un_pr, un_sl, un_row, un_agg, un_tup, un_clo, un_ifc, Nat.zero_add, Nat.add_zero, Nat.reduceAdd, Bool.not_true, Bool.not_false]; first | done | exact rfl) | exact rfl)) ?_))) | (((refine aw_region (id := 1) ?_)); (all_goals first | (refine vc_v (by first | exact fs_load T rfl rfl rfl rfl) rfl ?_)); (all_goals first | (refine vc_v (by first | exact fs_move rfl) rfl ?_)); (all_goals first | (refine vc_v (by first | exact fs_call0 rfl rfl (hi) rfl rfl rfl) rfl ?_) | (refine vc_n (by first | exact fs_call0 rfl rfl (hi) rfl rfl rfl) rfl ?_)); (all_goals first | (refine vc_v (by first | exact fs_not rfl) rfl ?_)); (all_goals (refine vc_nilp (by (first | (dsimp only [List.nil_append, List.cons_append, List.append_nil, List.length_cons, List.length_nil, List.set_cons_zero, List.set_cons_succ, List.map_cons, List.map_nil, putAt, putd, allObjs, argEnv, un_v, un_ptr, un_ep, un_pr, un_sl, un_row, un_agg, un_tup, un_clo, un_ifc, Nat.zero_add, Nat.add_zero, Nat.reduceAdd, Bool.not_true, Bool.not_false]; first | done | exact rfl) | exact rfl)) ?_))) | (((refine aw_region (id := 3) ?_)); (all_goals first | (refine vc_v (by first | exact fs_buildArr T rfl rfl rfl rfl rfl | exact fs_build T rfl rfl rfl rfl) rfl ?_)); (all_goals first | (refine vc_v (by first | exact fs_move rfl) rfl ?_)); (all_goals (refine vc_nilp (by (first | (dsimp only [List.nil_append, List.cons_append, List.append_nil, List.length_cons, List.length_nil, List.set_cons_zero, List.set_cons_succ, List.map_cons, List.map_nil, putAt, putd, allObjs, argEnv, un_v, un_ptr, un_ep, un_pr, un_sl, un_row, un_agg, un_tup, un_clo, un_ifc, Nat.zero_add, Nat.add_zero, Nat.reduceAdd, Bool.not_true, Bool.not_false]; first | done | exact rfl) | exact rfl)) ?_))))
    refine aw_loop (X := {i : Nat // i ≤ 4 ∧ ∀ j : Nat, j < i → besideI f a j ≠ b}) (fun i => [(1, .i a), (2, .i b), (3, .ptr 0 0), (13, .agg [.i 0, .i 1, .i 2, .i 3]), (14, .i i.1)]) (fun _ => [.cells [.i f.w, .i f.h, .i f.d, .rowE (ints f.k) 1, .rowE (ints f.o) 1]]) (fun i => 4 - i.1) ⟨0, by omega, fun j hj => by omega⟩ (by (refine ⟨[0], rfl, (by (repeat (first | exact trivial | refine ⟨rfl, ?_⟩))), (by (repeat (first | exact trivial | refine ⟨Or.inl rfl, ?_⟩ | refine ⟨Or.inr rfl, ?_⟩))), by decide, (fun i hi => absurd hi (Nat.not_lt_zero _))⟩)) ?_
    rintro ⟨i, hi4, hne⟩
    dsimp only
    by_cases hlt : i < 4
    · have hidx : ∀ t : TI, t.agg = false → t.size = 1 → loadAV t [.i 0, .i 1, .i 2, .i 3] ((i : Int).toNat * t.size) = some (.i (i : Int)) := fun t h1 h2 => by
        unfold loadAV
        rw [h1, h2]
        have : i = 0 ∨ i = 1 ∨ i = 2 ∨ i = 3 := by omega
        rcases this with rfl | rfl | rfl | rfl <;> rfl
      have hcl := hbs i
      by_cases e : besideI f a i = b
      · rw [show decide (nearP f a b) = true from decide_eq_true ⟨hb, by
          have : i = 0 ∨ i = 1 ∨ i = 2 ∨ i = 3 := by omega
          rcases this with rfl | rfl | rfl | rfl
          · exact .inl e
          · exact .inr (.inl e)
          · exact .inr (.inr (.inl e))
          · exact .inr (.inr (.inr e))⟩]
        generalize besideI f a i = n at *
        repeat' (first | (first | (refine aw_seq ?_) | (refine aw_block ?_) | (refine aw_skip ?_) | (refine aw_ret ?_) | (refine aw_exit ?_)) | (first | (refine aw_condt rfl ?_) | (refine aw_condf rfl ?_) | (refine aw_cond rfl (fun hb => ?_) (fun hb => ?_) <;> (first | subst hb | ((try simp only [decide_eq_true_eq, decide_eq_false_iff_not, Bool.not_true, Bool.not_false, Bool.not_eq_true', Bool.not_eq_false', Bool.and_eq_true, Bool.or_eq_true, Bool.and_eq_false_iff, Bool.or_eq_false_iff, Int.not_lt, Int.not_le, Int.le_min, Int.lt_min, Int.max_le, Int.max_lt] at hb); try ((exfalso; omega); done))))) | (((refine aw_region (id := 4) ?_)); (all_goals first | (refine vc_v (by first | exact fs_lss rfl rfl) rfl ?_)); (all_goals (refine vc_nilp (by (first | (dsimp only [List.nil_append, List.cons_append, List.append_nil, List.length_cons, List.length_nil, List.set_cons_zero, List.set_cons_succ, List.map_cons, List.map_nil, putAt, putd, allObjs, argEnv, un_v, un_ptr, un_ep, un_pr, un_sl, un_row, un_agg, un_tup, un_clo, un_ifc, Nat.zero_add, Nat.add_zero, Nat.reduceAdd, Bool.not_true, Bool.not_false]; first | done | exact rfl) | exact rfl)) ?_))) | (((refine aw_region (id := 5) ?_)); (all_goals first | (refine vc_v (by first | exact fs_indexV T rfl rfl rfl rfl (by omega) (by omega) (hidx _ rfl rfl)) rfl ?_)); (all_goals first | (refine vc_v (by first | exact fs_assign rfl) rfl ?_)); (all_goals (refine vc_nilp (by (first | (dsimp only [List.nil_append, List.cons_append, List.append_nil, List.length_cons, List.length_nil, List.set_cons_zero, List.set_cons_succ, List.map_cons, List.map_nil, putAt, putd, allObjs, argEnv, un_v, un_ptr, un_ep, un_pr, un_sl, un_row, un_agg, un_tup, un_clo, un_ifc, Nat.zero_add, Nat.add_zero, Nat.reduceAdd, Bool.not_true, Bool.not_false]; first | done | exact rfl) | exact rfl)) ?_))) | (((refine aw_region (id := 6) ?_)); (all_goals first | (refine vc_v (by first | exact fs_load T rfl rfl rfl rfl) rfl ?_)); (all_goals first | (refine vc_v (by first | exact fs_move rfl) rfl ?_)); (all_goals first | (refine vc_v (by first | exact fs_move rfl) rfl ?_)); (all_goals first | (refine vc_v (by first | exact fs_call0 rfl rfl (hcl) rfl rfl rfl) rfl ?_) | (refine vc_n (by first | exact fs_call0 rfl rfl (hcl) rfl rfl rfl) rfl ?_)); (all_goals first | (refine vc_v (by first | exact fs_move rfl) rfl ?_)); (all_goals first | (refine vc_v (by first | exact fs_eql rfl rfl) rfl ?_)); (all_goals (refine vc_nilp (by (first | (dsimp only [List.nil_append, List.cons_append, List.append_nil, List.length_cons, List.length_nil, List.set_cons_zero, List.set_cons_succ, List.map_cons, List.map_nil, putAt, putd, allObjs, argEnv, un_v, un_ptr, un_ep, un_pr, un_sl, un_row, un_agg, un_tup, un_clo, un_ifc, Nat.zero_add, Nat.add_zero, Nat.reduceAdd, Bool.not_true, Bool.not_false]; first | done | exact rfl) | exact rfl)) ?_))) | (((refine aw_region (id := 7) ?_)); (all_goals first | (refine vc_v (by first | exact fs_assign rfl) rfl ?_)); (all_goals (refine vc_nilp (by (first | (dsimp only [List.nil_append, List.cons_append, List.append_nil, List.length_cons, List.length_nil, List.set_cons_zero, List.set_cons_succ, List.map_cons, List.map_nil, putAt, putd, allObjs, argEnv, un_v, un_ptr, un_ep, un_pr, un_sl, un_row, un_agg, un_tup, un_clo, un_ifc, Nat.zero_add, Nat.add_zero, Nat.reduceAdd, Bool.not_true, Bool.not_false]; first | done | exact rfl) | exact rfl)) ?_))))
        all_goals first | (exfalso; omega) | exact ret_plain (.inl rfl) rfl rfl
      · generalize hn : besideI f a i = n at *
        repeat' (first | (first | (refine aw_seq ?_) | (refine aw_block ?_) | (refine aw_skip ?_) | (refine aw_ret ?_) | (refine aw_exit ?_)) | (first | (refine aw_condt rfl ?_) | (refine aw_condf rfl ?_) | (refine aw_cond rfl (fun hb => ?_) (fun hb => ?_) <;> (first | subst hb | ((try simp only [decide_eq_true_eq, decide_eq_false_iff_not, Bool.not_true, Bool.not_false, Bool.not_eq_true', Bool.not_eq_false', Bool.and_eq_true, Bool.or_eq_true, Bool.and_eq_false_iff, Bool.or_eq_false_iff, Int.not_lt, Int.not_le, Int.le_min, Int.lt_min, Int.max_le, Int.max_lt] at hb); try ((exfalso; omega); done))))) | (((refine aw_region (id := 4) ?_)); (all_goals first | (refine vc_v (by first | exact fs_lss rfl rfl) rfl ?_)); (all_goals (refine vc_nilp (by (first | (dsimp only [List.nil_append, List.cons_append, List.append_nil, List.length_cons, List.length_nil, List.set_cons_zero, List.set_cons_succ, List.map_cons, List.map_nil, putAt, putd, allObjs, argEnv, un_v, un_ptr, un_ep, un_pr, un_sl, un_row, un_agg, un_tup, un_clo, un_ifc, Nat.zero_add, Nat.add_zero, Nat.reduceAdd, Bool.not_true, Bool.not_false]; first | done | exact rfl) | exact rfl)) ?_))) | (((refine aw_region (id := 5) ?_)); (all_goals first | (refine vc_v (by first | exact fs_indexV T rfl rfl rfl rfl (by omega) (by omega) (hidx _ rfl rfl)) rfl ?_)); (all_goals first | (refine vc_v (by first | exact fs_assign rfl) rfl ?_)); (all_goals (refine vc_nilp (by (first | (dsimp only [List.nil_append, List.cons_append, List.append_nil, List.length_cons, List.length_nil, List.set_cons_zero, List.set_cons_succ, List.map_cons, List.map_nil, putAt, putd, allObjs, argEnv, un_v, un_ptr, un_ep, un_pr, un_sl, un_row, un_agg, un_tup, un_clo, un_ifc, Nat.zero_add, Nat.add_zero, Nat.reduceAdd, Bool.not_true, Bool.not_false]; first | done | exact rfl) | exact rfl)) ?_))) | (((refine aw_region (id := 6) ?_)); (all_goals first | (refine vc_v (by first | exact fs_load T rfl rfl rfl rfl) rfl ?_)); (all_goals first | (refine vc_v (by first | exact fs_move rfl) rfl ?_)); (all_goals first | (refine vc_v (by first | exact fs_move rfl) rfl ?_)); (all_goals first | (refine vc_v (by first | exact fs_call0 rfl rfl (hcl) rfl rfl rfl) rfl ?_) | (refine vc_n (by first | exact fs_call0 rfl rfl (hcl) rfl rfl rfl) rfl ?_)); (all_goals first | (refine vc_v (by first | exact fs_move rfl) rfl ?_)); (all_goals first | (refine vc_v (by first | exact fs_eql rfl rfl) rfl ?_)); (all_goals (refine vc_nilp (by (first | (dsimp only [List.nil_append, List.cons_append, List.append_nil, List.length_cons, List.length_nil, List.set_cons_zero, List.set_cons_succ, List.map_cons, List.map_nil, putAt, putd, allObjs, argEnv, un_v, un_ptr, un_ep, un_pr, un_sl, un_row, un_agg, un_tup, un_clo, un_ifc, Nat.zero_add, Nat.add_zero, Nat.reduceAdd, Bool.not_true, Bool.not_false]; first | done | exact rfl) | exact rfl)) ?_))) | (((refine aw_region (id := 8) ?_)); (all_goals first | (refine vc_v (by first | exact fs_addr rfl rfl (by omega) (by omega) | exact fs_add rfl rfl) rfl ?_)); (all_goals first | (refine vc_v (by first | exact fs_move rfl) rfl ?_)); (all_goals (refine vc_nilp (by (first | (dsimp only [List.nil_append, List.cons_append, List.append_nil, List.length_cons, List.length_nil, List.set_cons_zero, List.set_cons_succ, List.map_cons, List.map_nil, putAt, putd, allObjs, argEnv, un_v, un_ptr, un_ep, un_pr, un_sl, un_row, un_agg, un_tup, un_clo, un_ifc, Nat.zero_add, Nat.add_zero, Nat.reduceAdd, Bool.not_true, Bool.not_false]; first | done | exact rfl) | exact rfl)) ?_))))
        all_goals try (exfalso; omega)
        refine ⟨⟨i + 1, hlt, fun j hj => ?_⟩, by dsimp only; omega, by (refine ⟨[0], rfl, (by (repeat (first | exact trivial | refine ⟨rfl, ?_⟩))), (by (repeat (first | exact trivial | refine ⟨Or.inl rfl, ?_⟩ | refine ⟨Or.inr rfl, ?_⟩))), by decide, (fun i hi => absurd hi (Nat.not_lt_zero _))⟩)⟩
        by_cases ej : j = i
        · subst ej; rw [hn]; exact e
        · exact hne j (by omega)
    · obtain rfl : i = 4 := by omega
      rw [show decide (nearP f a b) = false from decide_eq_false (fun h => by
        rcases h.2 with h | h | h | h
        · exact hne 0 (by omega) h
        · exact hne 1 (by omega) h
        · exact hne 2 (by omega) h
        · exact hne 3 (by omega) h)]
      repeat' (first | (first | (refine aw_seq ?_) | (refine aw_block ?_) | (refine aw_skip ?_) | (refine aw_ret ?_) | (refine aw_exit ?_)) | (first | (refine aw_condt rfl ?_) | (refine aw_condf rfl ?_) | (refine aw_cond rfl (fun hb => ?_) (fun hb => ?_) <;> (first | subst hb | ((try simp only [decide_eq_true_eq, decide_eq_false_iff_not, Bool.not_true, Bool.not_false, Bool.not_eq_true', Bool.not_eq_false', Bool.and_eq_true, Bool.or_eq_true, Bool.and_eq_false_iff, Bool.or_eq_false_iff, Int.not_lt, Int.not_le, Int.le_min, Int.lt_min, Int.max_le, Int.max_lt] at hb); try ((exfalso; omega); done))))) | (((refine aw_region (id := 4) ?_)); (all_goals first | (refine vc_v (by first | exact fs_lss rfl rfl) rfl ?_)); (all_goals (refine vc_nilp (by (first | (dsimp only [List.nil_append, List.cons_append, List.append_nil, List.length_cons, List.length_nil, List.set_cons_zero, List.set_cons_succ, List.map_cons, List.map_nil, putAt, putd, allObjs, argEnv, un_v, un_ptr, un_ep, un_pr, un_sl, un_row, un_agg, un_tup, un_clo, un_ifc, Nat.zero_add, Nat.add_zero, Nat.reduceAdd, Bool.not_true, Bool.not_false]; first | done | exact rfl) | exact rfl)) ?_))) | (((refine aw_region (id := 9) ?_)); (all_goals first | (refine vc_v (by first | exact fs_assign rfl) rfl ?_)); (all_goals (refine vc_nilp (by (first | (dsimp only [List.nil_append, List.cons_append, List.append_nil, List.length_cons, List.length_nil, List.set_cons_zero, List.set_cons_succ, List.map_cons, List.map_nil, putAt, putd, allObjs, argEnv, un_v, un_ptr, un_ep, un_pr, un_sl, un_row, un_agg, un_tup, un_clo, un_ifc, Nat.zero_add, Nat.add_zero, Nat.reduceAdd, Bool.not_true, Bool.not_false]; first | done | exact rfl) | exact rfl)) ?_))))
      all_goals first | (exfalso; omega) | exact ret_plain (.inl rfl) rfl rfl
  · rw [show (decide (0 ≤ b) && decide (b < f.size)) = false by rw [← Bool.not_eq_true]; simp; omega] at hi
    rw [show decide (nearP f a b) = false from decide_eq_false (fun h => hb h.1)]
    refine acall T Try.func26 rfl rfl rfl rfl ?_
    repeat' (first | (first | (refine aw_seq ?_) | (refine aw_block ?_) | (refine aw_skip ?_) | (refine aw_ret ?_) | (refine aw_exit ?_)) | (first | (refine aw_condt rfl ?_) | (refine aw_condf rfl ?_) | (refine aw_cond rfl (fun hb => ?_) (fun hb => ?_) <;> (first | subst hb | ((try simp only [decide_eq_true_eq, decide_eq_false_iff_not, Bool.not_true, Bool.not_false, Bool.not_eq_true', Bool.not_eq_false', Bool.and_eq_true, Bool.or_eq_true, Bool.and_eq_false_iff, Bool.or_eq_false_iff, Int.not_lt, Int.not_le, Int.le_min, Int.lt_min, Int.max_le, Int.max_lt] at hb); try ((exfalso; omega); done))))) | (((refine aw_region (id := 0) ?_)); (all_goals first | (refine vc_n (by first | exact fs_box rfl rfl) rfl ?_)); (all_goals first | (refine vc_v (by first | exact fs_assign rfl) rfl ?_)); (all_goals (refine vc_nilp (by (first | (dsimp only [List.nil_append, List.cons_append, List.append_nil, List.length_cons, List.length_nil, List.set_cons_zero, List.set_cons_succ, List.map_cons, List.map_nil, putAt, putd, allObjs, argEnv, un_v, un_ptr, un_ep, un_pr, un_sl, un_row, un_agg, un_tup, un_clo, un_ifc, Nat.zero_add, Nat.add_zero, Nat.reduceAdd, Bool.not_true, Bool.not_false]; first | done | exact rfl) | exact rfl)) ?_))) | (((refine aw_region (id := 1) ?_)); (all_goals first | (refine vc_v (by first | exact fs_load T rfl rfl rfl rfl) rfl ?_)); (all_goals first | (refine vc_v (by first | exact fs_move rfl) rfl ?_)); (all_goals first | (refine vc_v (by first | exact fs_call0 rfl rfl (hi) rfl rfl rfl) rfl ?_) | (refine vc_n (by first | exact fs_call0 rfl rfl (hi) rfl rfl rfl) rfl ?_)); (all_goals first | (refine vc_v (by first | exact fs_not rfl) rfl ?_)); (all_goals (refine vc_nilp (by (first | (dsimp only [List.nil_append, List.cons_append, List.append_nil, List.length_cons, List.length_nil, List.set_cons_zero, List.set_cons_succ, List.map_cons, List.map_nil, putAt, putd, allObjs, argEnv, un_v, un_ptr, un_ep, un_pr, un_sl, un_row, un_agg, un_tup, un_clo, un_ifc, Nat.zero_add, Nat.add_zero, Nat.reduceAdd, Bool.not_true, Bool.not_false]; first | done | exact rfl) | exact rfl)) ?_))) | (((refine aw_region (id := 2) ?_)); (all_goals first | (refine vc_v (by first | exact fs_assign rfl) rfl ?_)); (all_goals (refine vc_nilp (by (first | (dsimp only [List.nil_append, List.cons_append, List.append_nil, List.length_cons, List.length_nil, List.set_cons_zero, List.set_cons_succ, List.map_cons, List.map_nil, putAt, putd, allObjs, argEnv, un_v, un_ptr, un_ep, un_pr, un_sl, un_row, un_agg, un_tup, un_clo, un_ifc, Nat.zero_add, Nat.add_zero, Nat.reduceAdd, Bool.not_true, Bool.not_false]; first | done | exact rfl) | exact rfl)) ?_))))
    all_goals first | (exfalso; omega) | exact ret_plain (.inl rfl) rfl rfl
end Go.Proofs.Ytilcbhnhcmdhkaa
