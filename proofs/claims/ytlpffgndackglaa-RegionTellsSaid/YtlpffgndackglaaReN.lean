/-
  Layer 8: the reference's Parts.
-/
import Derived.Test.YtlpffgndackglaaReM
namespace Go.Proofs.Ytlpffgndackglaa
open Go Go.Ab Go.Fl Go.Re
set_option linter.unusedVariables false
set_option linter.unusedSimpArgs false
attribute [local irreducible] VC AW FStep ACall BoolT seenZ
set_option maxHeartbeats 4000000

/-- What is left when the cells of a list are struck. -/
def clr (B : List Bool) (q : List Int) : List Bool := (List.range B.length).map fun y : Nat => B.getD y false && decide ((y : Int) ∉ q)
theorem clr_len (B : List Bool) (q : List Int) : (clr B q).length = B.length := by simp [clr]
theorem clr_at {B : List Bool} {q : List Int} {y : Nat} (h : y < B.length) : (clr B q).getD y false = (B.getD y false && decide ((y : Int) ∉ q)) := by
  rw [List.getD_eq_getElem?_getD, clr, List.getElem?_map, List.getElem?_range h]; rfl
theorem clr_nil (B : List Bool) : clr B [] = B := by
  refine List.ext_getElem (by simp [clr]) fun i h1 h2 => ?_
  simp [clr, h2]
theorem clr_set {B : List Bool} {q : List Int} {x : Nat} (h : x < B.length) : (clr B q).set x false = clr B (q ++ [(x : Int)]) := by
  refine List.ext_getElem (by simp [clr]) fun i h1 h2 => ?_
  rw [List.getElem_set]
  simp only [clr, List.getElem_map, List.getElem_range]
  by_cases e : x = i
  · subst e; simp
  · rw [if_neg e]
    have : ¬ ((i : Int) = (x : Int)) := by omega
    simp [this]
/-- What is left, from a place on. -/
def lft (r : List Int) (i : Nat) (B : List Bool) : List Int := (r.drop i).filter fun x => B.getD x.toNat false
theorem lft_succ {r : List Int} {i : Nat} (h : i < r.length) (B : List Bool) : lft r i B = if B.getD r[i].toNat false = true then r[i] :: lft r (i + 1) B else lft r (i + 1) B := by
  unfold lft
  rw [List.drop_eq_getElem_cons h, List.filter_cons]
theorem lft_asc {r : List Int} (hr : RegP r) (i : Nat) (B : List Bool) : Asc (lft r i B) := List.Pairwise.sublist (List.filter_sublist.trans (List.drop_sublist i r)) hr.1
theorem parts_nil (f : Flo) (r : List Int) (k : Nat) : partsF f r k [] = [] := by cases k <;> rfl
theorem bools_setO {l : List Bool} {i : Nat} {x : Bool} : (bools l).set (0 + (i : Int).toNat) [AV.b x] = bools (l.set i x) := by
  rw [Nat.zero_add, Int.toNat_natCast]; simp [List.map_set]
theorem lists_app {A : List (List Int)} {x : List Int} : List.take A.length (List.drop 0 (listsA A)) ++ [[AV.rowE (ints x) 1]] = listsA (A ++ [x]) := by
  rw [List.drop_zero, List.take_of_length_le (by simp)]; simp
section
variable {f : Flo}
theorem parts_next (g : Fine f) {r : List Int} (hr : RegP r) {i : Nat} (h : i < r.length) {B : List Bool} (hB : B.length = 4096) (hne : partM f r r[i] ≠ []) (hb : B.getD r[i].toNat false = true) :
    diffM (r[i] :: lft r (i + 1) B) (partM f r r[i]) = lft r (i + 1) (clr B (partM f r r[i])) := by
  have hpr := part_reg (f := f) (c := r[i]) hr
  have ha : Asc (r[i] :: lft r (i + 1) B) := by
    have := lft_asc hr i B
    rw [lft_succ h, if_pos hb] at this
    exact this
  refine asc_ext (diff_asc ha hpr.1) (lft_asc hr _ _) fun c => ?_
  rw [mem_diff ha hpr.1]
  unfold lft
  rw [List.mem_cons, List.mem_filter, List.mem_filter]
  constructor
  · rintro ⟨h1 | ⟨h1, h2⟩, h3⟩
    · subst h1
      exact absurd (part_self g hr hne) h3
    · have hc := hr.2 c (List.mem_of_mem_drop h1)
      refine ⟨h1, ?_⟩
      rw [clr_at (by omega), h2, Bool.true_and, decide_eq_true_eq, Int.toNat_of_nonneg hc.1]
      exact h3
  · rintro ⟨h1, h2⟩
    have hc := hr.2 c (List.mem_of_mem_drop h1)
    rw [clr_at (by omega), Bool.and_eq_true, decide_eq_true_eq, Int.toNat_of_nonneg hc.1] at h2
    exact ⟨.inr ⟨h1, h2.1⟩, h2.2⟩
theorem refparts_c (g : Fine f) (r : List Int) (hr : RegP r) (hrl : r.length ≤ 100000) : ACall Try.prog 33 [floorA f, .rowE (ints r) 1] [] (.rowE (listsA (partsM f r)) 1) [] := by
  have h1 := marks_c r (by omega)
  have h2 := marks_o r (by omega)
  have hpc := fun x => refpart_c g r x hr
  have hlr : (ints r).length = r.length := by simp
  have hpl := parts_len f r r.length r
  refine acall_frz (by simp : (partsM f r).length = (listsA (partsM f r)).length) (idfL_flat (lists_idf _)) ?_
  have hZl : (seenZ 4096 r).length = 4096 := seenZ_len _ _
  have hZ0 : lft r 0 (seenZ 4096 r) = r := by
    unfold lft
    rw [List.drop_zero, List.filter_eq_self]
    intro x hx
    have := hr.2 x hx
    rw [seenZ_at (by omega), decide_eq_true_eq, Int.toNat_of_nonneg this.1]
    exact hx
  generalize seenZ 4096 r = Z at *
  have hzl : (bools Z).length = 4096 := by rw [List.length_map, hZl]
  refine acall T Try.func33 rfl rfl rfl rfl ?_
  repeat' (first | (first | (refine aw_seq ?_) | (refine aw_block ?_) | (refine aw_skip ?_) | (refine aw_ret ?_) | (refine aw_exit ?_)) | (first | (refine aw_condt rfl ?_) | (refine aw_condf rfl ?_) | (refine aw_cond rfl (fun hb => ?_) (fun hb => ?_) <;> (first | subst hb | ((try simp only [nm] at hb); try ((exfalso; omega); done))))) | (((refine aw_region (id := 0) ?_)); (all_goals (refine vc_n (by exact fs_box rfl rfl) rfl ?_)); (all_goals (refine va rfl rfl ?_))) | (((refine aw_region (id := 1) ?_)); (all_goals (refine vm rfl rfl ?_)); (all_goals (refine vc_v (by exact fs_call0 rfl rfl (h1) rfl rfl rfl) rfl ?_)); (all_goals (refine va rfl rfl ?_))) | (refine vc_nilp (by (first | (dsimp only [List.nil_append, List.cons_append, List.append_nil, List.length_cons, List.length_nil, List.set_cons_zero, List.set_cons_succ, List.map_cons, List.map_nil, putAt, putd, allObjs, argEnv, un_v, un_ptr, un_ep, un_pr, un_sl, un_mp, un_row, un_agg, un_tup, un_clo, Nat.zero_add, Nat.add_zero, Nat.reduceAdd, Bool.not_true, Bool.not_false]; first | done | exact rfl) | exact rfl)) ?_))
  repeat' (first | (first | (refine aw_seq ?_) | (refine aw_block ?_) | (refine aw_skip ?_) | (refine aw_ret ?_) | (refine aw_exit ?_)) | (first | (refine aw_condt rfl ?_) | (refine aw_condf rfl ?_) | (refine aw_cond rfl (fun hb => ?_) (fun hb => ?_) <;> (first | subst hb | ((try simp only [nm] at hb); try ((exfalso; omega); done))))) | (((refine aw_region (id := 2) ?_)); (all_goals (refine vm rfl rfl ?_)); (all_goals first | (refine vc_v (by first | exact fs_call rfl rfl h2 (.inr ⟨rfl, rfl, by simp⟩)) rfl ?_) | (refine vc_n (by first | exact fs_call rfl rfl h2 (.inr ⟨rfl, rfl, by simp⟩)) rfl ?_)); (all_goals (refine va rfl rfl ?_))) | (((refine aw_region (id := 3) ?_)); (all_goals (refine va rfl rfl ?_))) | (((refine aw_region (id := 4) ?_)); (all_goals (refine va rfl rfl ?_))) | (refine vc_nilp (by (first | (dsimp only [List.nil_append, List.cons_append, List.append_nil, List.length_cons, List.length_nil, List.set_cons_zero, List.set_cons_succ, List.map_cons, List.map_nil, putAt, putd, allObjs, argEnv, un_v, un_ptr, un_ep, un_pr, un_sl, un_mp, un_row, un_agg, un_tup, un_clo, Nat.zero_add, Nat.add_zero, Nat.reduceAdd, Bool.not_true, Bool.not_false]; first | done | exact rfl) | exact rfl)) ?_))
  refine aw_own 7 1 rfl (by decide) ?_
  refine aw_loop (X := {x : Nat × Nat × List Bool × List (List Int) // x.1 ≤ r.length ∧ x.2.2.1.length = 4096 ∧ (lft r x.1 x.2.2.1).length ≤ x.2.1 ∧ x.2.2.2 ++ partsF f r x.2.1 (lft r x.1 x.2.2.1) = partsM f r}) (fun x => [(1, .rowE (ints r) 1), (2, .ptr 0 0), (5, .rowE (bools Z) 1), (6, .sl 1 0 4096 1), (7, .sl 2 0 x.1.2.2.2.length 1), (8, .i (x.1.1 : Int))]) (fun x => [.cells [.i f.w, .i f.h, .i f.d, .rowE (ints f.k) 1, .rowE (ints f.o) 1], .arr (bools x.1.2.2.1) 1, .arr (listsA x.1.2.2.2) 1]) (fun x => r.length - x.1.1) ⟨(0, r.length, Z, []), Nat.zero_le _, hZl, by dsimp only; rw [hZ0]; exact Nat.le_refl _, by dsimp only; rw [hZ0]; rfl⟩ ⟨[0, 1, 2], rfl, ⟨rfl, rfl, rfl, rfl, rfl, rfl, trivial⟩, ⟨.inr rfl, .inr (sub_arr rfl (mapL_idfs _ (bools_idf Z)) (bools_idf _)), .inr rfl, trivial⟩, by decide, fun i hi => absurd hi (Nat.not_lt_zero _)⟩ ?_
  rintro ⟨⟨i, fu, B, out⟩, hi, hB, hfu, hd⟩
  dsimp only at hi hB hfu hd ⊢
  have hbl : (bools B).length = 4096 := by rw [List.length_map, hB]
  have hol : out.length ≤ 100000 := by
    have := congrArg List.length hd
    rw [List.length_append] at this
    have : (partsM f r).length ≤ r.length := hpl
    omega
  by_cases hlt : i < r.length
  · have hget := ints_get hlt
    have hx := hr.2 r[i] (List.getElem_mem hlt)
    have hls := lft_succ hlt B
    have hpn := parts_next g hr hlt hB
    have hcp := hpc r[i]
    generalize r[i] = x at *
    obtain ⟨c, rfl⟩ := Int.eq_ofNat_of_zero_le hx.1
    rw [Int.toNat_natCast] at hls hpn
    have qb : (bools B)[0 + (c : Int).toNat]? = some [AV.b (B.getD c false)] := Go.Ab.bools_gO (by omega) rfl
    cases hb : B.getD c false
    · rw [hb] at qb hls
      rw [if_neg (by decide)] at hls
      rw [hls] at hd hfu
      repeat' (first | (first | (refine aw_seq ?_) | (refine aw_block ?_) | (refine aw_skip ?_) | (refine aw_ret ?_) | (refine aw_exit ?_)) | (first | (refine aw_condt rfl ?_) | (refine aw_condf rfl ?_) | (refine aw_cond rfl (fun hb => ?_) (fun hb => ?_) <;> (first | subst hb | ((try simp only [nm] at hb); try ((exfalso; omega); done))))) | (((refine aw_region (id := 5) ?_)); (all_goals (refine vm rfl rfl ?_)); (all_goals (refine vm rfl rfl ?_)); (all_goals (refine vc_v (by first | exact fs_lenOwn T rfl rfl | exact fs_lenRow T rfl rfl | exact fs_lenNil T rfl rfl) rfl ?_)); (all_goals (refine vc_v (by exact fs_lss rfl rfl) rfl ?_))) | (((refine aw_region (id := 7) ?_)); (all_goals (refine vm rfl rfl ?_)); (all_goals (refine vm rfl rfl ?_)); (all_goals (refine vm rfl rfl ?_)); (all_goals (refine vc_v (by first | exact fs_indexRowE T rfl rfl rfl rfl rfl (by omega) (ints_len r) hget | exact fs_indexOwn T rfl rfl rfl rfl rfl (by omega) (by omega)) rfl ?_)); (all_goals (refine vc_v (by first | exact fs_load T rfl rfl rfl rfl | exact fs_load T rfl rfl (behind_ep rfl qb) rfl) rfl ?_)); (all_goals (refine vc_v (by first | exact fs_indexRowE T rfl rfl rfl rfl rfl (by omega) (ints_len r) hget | exact fs_indexOwn T rfl rfl rfl rfl rfl (by omega) (by omega)) rfl ?_)); (all_goals (refine vc_v (by first | exact fs_load T rfl rfl rfl rfl | exact fs_load T rfl rfl (behind_ep rfl qb) rfl) rfl ?_)); (all_goals (refine vc_v (by exact fs_not rfl) rfl ?_))) | (((refine aw_region (id := 6) ?_)); (all_goals (refine vm rfl rfl ?_)); (all_goals (refine vc_v (by first | exact fs_addr rfl rfl (by omega) (by omega) | exact fs_add rfl rfl) rfl ?_)); (all_goals (refine va rfl rfl ?_))) | (refine vc_nilp (by (first | (dsimp only [List.nil_append, List.cons_append, List.append_nil, List.length_cons, List.length_nil, List.set_cons_zero, List.set_cons_succ, List.map_cons, List.map_nil, putAt, putd, allObjs, argEnv, un_v, un_ptr, un_ep, un_pr, un_sl, un_mp, un_row, un_agg, un_tup, un_clo, Nat.zero_add, Nat.add_zero, Nat.reduceAdd, Bool.not_true, Bool.not_false]; first | done | exact rfl) | exact rfl)) ?_))
      all_goals try (exfalso; omega)
      all_goals exact ⟨⟨(i + 1, fu, B, out), hlt, hB, hfu, hd⟩, by dsimp only; omega, [0, 1, 2], rfl, ⟨rfl, rfl, rfl, rfl, rfl, rfl, trivial⟩, ⟨.inr rfl, .inr (sub_arr rfl rfl (bools_idf _)), .inr (sub_arr rfl rfl (lists_idf _)), trivial⟩, by decide, fun i hi => absurd hi (Nat.not_lt_zero _)⟩
    · rw [hb] at qb hls
      rw [if_pos rfl] at hls
      rw [hls] at hd hfu
      obtain ⟨k, rfl⟩ : ∃ k, fu = k + 1 := ⟨fu - 1, by simp at hfu; omega⟩
      have hfu' : (lft r (i + 1) B).length ≤ k := by simp at hfu; exact hfu
      unfold partsF at hd
      have hpr := part_reg (f := f) (c := (c : Int)) hr
      have hple : (partM f r c).length ≤ r.length := List.length_filter_le _ _
      have hpn := fun h => hpn h hb
      generalize partM f r (c : Int) = p at *
      have hlp : (ints p).length = p.length := by simp
      repeat' (first | (first | (refine aw_seq ?_) | (refine aw_block ?_) | (refine aw_skip ?_) | (refine aw_ret ?_) | (refine aw_exit ?_)) | (first | (refine aw_condt rfl ?_) | (refine aw_condf rfl ?_) | (refine aw_cond rfl (fun hb => ?_) (fun hb => ?_) <;> (first | subst hb | ((try simp only [nm] at hb); try ((exfalso; omega); done))))) | (((refine aw_region (id := 5) ?_)); (all_goals (refine vm rfl rfl ?_)); (all_goals (refine vm rfl rfl ?_)); (all_goals (refine vc_v (by first | exact fs_lenOwn T rfl rfl | exact fs_lenRow T rfl rfl | exact fs_lenNil T rfl rfl) rfl ?_)); (all_goals (refine vc_v (by exact fs_lss rfl rfl) rfl ?_))) | (((refine aw_region (id := 7) ?_)); (all_goals (refine vm rfl rfl ?_)); (all_goals (refine vm rfl rfl ?_)); (all_goals (refine vm rfl rfl ?_)); (all_goals (refine vc_v (by first | exact fs_indexRowE T rfl rfl rfl rfl rfl (by omega) (ints_len r) hget | exact fs_indexOwn T rfl rfl rfl rfl rfl (by omega) (by omega)) rfl ?_)); (all_goals (refine vc_v (by first | exact fs_load T rfl rfl rfl rfl | exact fs_load T rfl rfl (behind_ep rfl qb) rfl) rfl ?_)); (all_goals (refine vc_v (by first | exact fs_indexRowE T rfl rfl rfl rfl rfl (by omega) (ints_len r) hget | exact fs_indexOwn T rfl rfl rfl rfl rfl (by omega) (by omega)) rfl ?_)); (all_goals (refine vc_v (by first | exact fs_load T rfl rfl rfl rfl | exact fs_load T rfl rfl (behind_ep rfl qb) rfl) rfl ?_)); (all_goals (refine vc_v (by exact fs_not rfl) rfl ?_))) | (((refine aw_draw2k (id := 8) 56 [[], [], [], [], [2, 3], [2, 3, 4], [0, 1, 2, 3, 4, 5]] [29, 30, 31, 32, 33, 34, 35] [[], [29], [29, 30], [29, 30, 31], [29, 30], [29, 30], []] mixedP rfl (by decide +kernel) ?_)); (all_goals first | (refine dw_v rfl rfl rfl (by first | exact fs_load T rfl rfl rfl rfl | exact fs_load T rfl rfl (behind_ep rfl qb) rfl) ?_)); (all_goals first | (refine dw_v rfl rfl rfl (by first | exact fs_move rfl) ?_)); (all_goals first | (refine dw_v rfl rfl rfl (by first | exact fs_move rfl) ?_)); (all_goals first | (refine dw_v rfl rfl rfl (by first | exact fs_move rfl) ?_)); (all_goals first | (refine dw_v rfl rfl rfl (by first | exact fs_indexRowE T rfl rfl rfl rfl rfl (by omega) (ints_len r) hget | exact fs_indexOwn T rfl rfl rfl rfl rfl (by omega) (by omega)) ?_)); (all_goals first | (refine dw_v rfl rfl rfl (by first | exact fs_load T rfl rfl rfl rfl | exact fs_load T rfl rfl (behind_ep rfl qb) rfl) ?_)); (all_goals first | (refine dw_v rfl rfl rfl (by first | exact fs_call0 rfl rfl (hcp) rfl rfl rfl) ?_) | (refine dw_n rfl rfl rfl (by first | exact fs_call0 rfl rfl (hcp) rfl rfl rfl) rfl ?_)); (all_goals (refine dw_fin rfl rfl (by (first | (dsimp only [List.nil_append, List.cons_append, List.append_nil, List.length_cons, List.length_nil, List.set_cons_zero, List.set_cons_succ, List.map_cons, List.map_nil, putAt, putd, allObjs, argEnv, un_v, un_ptr, un_ep, un_pr, un_sl, un_mp, un_row, un_agg, un_tup, un_clo, Nat.zero_add, Nat.add_zero, Nat.reduceAdd, Bool.not_true, Bool.not_false]; first | done | exact rfl) | exact rfl)) ?_)); (all_goals (refine va rfl rfl ?_))) | (((refine aw_region (id := 9) ?_)); (all_goals (refine va rfl rfl ?_))) | (refine vc_nilp (by (first | (dsimp only [List.nil_append, List.cons_append, List.append_nil, List.length_cons, List.length_nil, List.set_cons_zero, List.set_cons_succ, List.map_cons, List.map_nil, putAt, putd, allObjs, argEnv, un_v, un_ptr, un_ep, un_pr, un_sl, un_mp, un_row, un_agg, un_tup, un_clo, Nat.zero_add, Nat.add_zero, Nat.reduceAdd, Bool.not_true, Bool.not_false]; first | done | exact rfl) | exact rfl)) ?_))
      all_goals try (exfalso; omega)
      refine aw_loop (X := {j : Nat // j ≤ p.length}) (fun j => [(1, .rowE (ints r) 1), (2, .ptr 0 0), (5, .rowE (bools Z) 1), (6, .sl 1 0 4096 1), (7, .sl 2 0 out.length 1), (8, .i (i : Int)), (9, .rowE (ints p) 1), (10, .i (j.1 : Int))]) (fun j => [.cells [.i f.w, .i f.h, .i f.d, .rowE (ints f.k) 1, .rowE (ints f.o) 1], .arr (bools (clr B (p.take j.1))) 1, .arr (listsA out) 1]) (fun j => p.length - j.1) ⟨0, Nat.zero_le _⟩ ⟨[0, 1, 2], rfl, ⟨rfl, rfl, rfl, rfl, rfl, rfl, rfl, rfl, trivial⟩, ⟨.inr rfl, .inr (sub_arr rfl (by dsimp only; rw [List.take_zero, clr_nil]) (bools_idf _)), .inr (sub_arr rfl rfl (lists_idf _)), trivial⟩, by decide, fun i hi => absurd hi (Nat.not_lt_zero _)⟩ ?_
      rintro ⟨j, hj⟩
      dsimp only
      have hcl := clr_len B (p.take j)
      have hcbl : (bools (clr B (p.take j))).length = 4096 := by rw [List.length_map, hcl, hB]
      by_cases hjl : j < p.length
      · have hgp := ints_get hjl
        have hy := hpr.2 p[j] (List.getElem_mem hjl)
        have hts := List.take_succ_eq_append_getElem hjl
        generalize p[j] = y at *
        obtain ⟨d, rfl⟩ := Int.eq_ofNat_of_zero_le hy.1
        have qd : (bools (clr B (p.take j)))[0 + (d : Int).toNat]? = some [AV.b ((clr B (p.take j)).getD d false)] := Go.Ab.bools_gO (by omega) rfl
        have hset : (bools (clr B (p.take j))).set (0 + (d : Int).toNat) [AV.b false] = bools (clr B (p.take (j + 1))) := by
          rw [bools_setO, hts, clr_set (by omega)]
        generalize (clr B (p.take j)).getD d false = z at *
        generalize clr B (p.take j) = C at *
        repeat' (first | (first | (refine aw_seq ?_) | (refine aw_block ?_) | (refine aw_skip ?_) | (refine aw_ret ?_) | (refine aw_exit ?_)) | (first | (refine aw_condt rfl ?_) | (refine aw_condf rfl ?_) | (refine aw_cond rfl (fun hb => ?_) (fun hb => ?_) <;> (first | subst hb | ((try simp only [nm] at hb); try ((exfalso; omega); done))))) | (((refine aw_region (id := 10) ?_)); (all_goals (refine vm rfl rfl ?_)); (all_goals (refine vm rfl rfl ?_)); (all_goals (refine vc_v (by first | exact fs_lenOwn T rfl rfl | exact fs_lenRow T rfl rfl | exact fs_lenNil T rfl rfl) rfl ?_)); (all_goals (refine vc_v (by exact fs_lss rfl rfl) rfl ?_))) | (((refine aw_region (id := 12) ?_)); (all_goals (refine vm rfl rfl ?_)); (all_goals (refine vm rfl rfl ?_)); (all_goals (refine vm rfl rfl ?_)); (all_goals (refine vc_v (by first | exact fs_indexRowE T rfl rfl rfl rfl rfl (by omega) (ints_len p) hgp | exact fs_indexOwn T rfl rfl rfl rfl rfl (by omega) (by omega)) rfl ?_)); (all_goals (refine vc_v (by exact fs_load T rfl rfl rfl rfl) rfl ?_)); (all_goals (refine vc_v (by first | exact fs_indexRowE T rfl rfl rfl rfl rfl (by omega) (ints_len p) hgp | exact fs_indexOwn T rfl rfl rfl rfl rfl (by omega) (by omega)) rfl ?_)); (all_goals first | (refine vc_store T rfl rfl rfl rfl rfl rfl (by decide) rfl ?_) | (refine vc_store T rfl rfl rfl rfl rfl rfl (by decide) (upd_ep rfl qd rfl) ?_))) | (((refine aw_region (id := 11) ?_)); (all_goals (refine vm rfl rfl ?_)); (all_goals (refine vc_v (by first | exact fs_addr rfl rfl (by omega) (by omega) | exact fs_add rfl rfl) rfl ?_)); (all_goals (refine va rfl rfl ?_))) | (refine vc_nilp (by (first | (dsimp only [List.nil_append, List.cons_append, List.append_nil, List.length_cons, List.length_nil, List.set_cons_zero, List.set_cons_succ, List.map_cons, List.map_nil, putAt, putd, allObjs, argEnv, un_v, un_ptr, un_ep, un_pr, un_sl, un_mp, un_row, un_agg, un_tup, un_clo, Nat.zero_add, Nat.add_zero, Nat.reduceAdd, Bool.not_true, Bool.not_false]; first | done | exact rfl) | exact rfl)) ?_))
        all_goals try (exfalso; omega)
        all_goals exact ⟨⟨j + 1, hjl⟩, by dsimp only; omega, [0, 1, 2], rfl, ⟨rfl, rfl, rfl, rfl, rfl, rfl, rfl, rfl, trivial⟩, ⟨.inr rfl, .inr (sub_arr rfl hset (bools_idf _)), .inr (sub_arr rfl rfl (lists_idf _)), trivial⟩, by decide, fun i hi => absurd hi (Nat.not_lt_zero _)⟩
      · obtain rfl : j = p.length := by omega
        rw [List.take_length]
        rw [List.take_length] at hcl
        by_cases hne : p = []
        · subst hne
          have z0 : ([] : List Int).length = 0 := rfl
          rw [if_pos rfl] at hd
          rw [clr_nil]
          repeat' (first | (first | (refine aw_seq ?_) | (refine aw_block ?_) | (refine aw_skip ?_) | (refine aw_ret ?_) | (refine aw_exit ?_)) | (first | (refine aw_condt rfl ?_) | (refine aw_condf rfl ?_) | (refine aw_cond rfl (fun hb => ?_) (fun hb => ?_) <;> (first | subst hb | ((try simp only [nm] at hb); try ((exfalso; omega); done))))) | (((refine aw_region (id := 10) ?_)); (all_goals (refine vm rfl rfl ?_)); (all_goals (refine vm rfl rfl ?_)); (all_goals (refine vc_v (by first | exact fs_lenOwn T rfl rfl | exact fs_lenRow T rfl rfl | exact fs_lenNil T rfl rfl) rfl ?_)); (all_goals (refine vc_v (by exact fs_lss rfl rfl) rfl ?_))) | (((refine aw_region (id := 13) ?_)); (all_goals (refine vm rfl rfl ?_)); (all_goals (refine vc_v (by first | exact fs_lenOwn T rfl rfl | exact fs_lenRow T rfl rfl | exact fs_lenNil T rfl rfl) rfl ?_)); (all_goals (refine vc_v (by exact fs_gtr rfl rfl) rfl ?_))) | (((refine aw_region (id := 6) ?_)); (all_goals (refine vm rfl rfl ?_)); (all_goals (refine vc_v (by first | exact fs_addr rfl rfl (by omega) (by omega) | exact fs_add rfl rfl) rfl ?_)); (all_goals (refine va rfl rfl ?_))) | (refine vc_nilp (by (first | (dsimp only [List.nil_append, List.cons_append, List.append_nil, List.length_cons, List.length_nil, List.set_cons_zero, List.set_cons_succ, List.map_cons, List.map_nil, putAt, putd, allObjs, argEnv, un_v, un_ptr, un_ep, un_pr, un_sl, un_mp, un_row, un_agg, un_tup, un_clo, Nat.zero_add, Nat.add_zero, Nat.reduceAdd, Bool.not_true, Bool.not_false]; first | done | exact rfl) | exact rfl)) ?_))
          all_goals try (exfalso; omega)
          all_goals exact ⟨⟨(i + 1, k, B, out), hlt, hB, hfu', hd⟩, by dsimp only; omega, [0, 1, 2], rfl, ⟨rfl, rfl, rfl, rfl, rfl, rfl, trivial⟩, ⟨.inr rfl, .inr (sub_arr rfl rfl (bools_idf _)), .inr (sub_arr rfl rfl (lists_idf _)), trivial⟩, by decide, fun i hi => absurd hi (Nat.not_lt_zero _)⟩
        · have hp0 : 0 < p.length := List.length_pos_iff.2 hne
          have hpn := hpn hne
          rw [if_neg hne, hpn] at hd
          have hd2 : (out ++ [p]) ++ partsF f r k (lft r (i + 1) (clr B p)) = partsM f r := by rw [List.append_assoc]; exact hd
          have hfk : (lft r (i + 1) (clr B p)).length ≤ k := by
            rw [← hpn]
            have ha : Asc ((c : Int) :: lft r (i + 1) B) := by rw [← hls]; exact lft_asc hr i B
            have := (asc_nodup (diff_asc ha hpr.1)).length_le_of_subset (l₂ := lft r (i + 1) B) fun y hy => by
              rw [hpn] at hy
              unfold lft at hy ⊢
              rw [List.mem_filter] at hy ⊢
              refine ⟨hy.1, ?_⟩
              have hyc := hr.2 y (List.mem_of_mem_drop hy.1)
              have h3 := hy.2
              rw [clr_at (by omega), Bool.and_eq_true] at h3
              exact h3.1
            omega
          have hcB : (clr B p).length = 4096 := by omega
          generalize clr B p = C at *
          repeat' (first | (first | (refine aw_seq ?_) | (refine aw_block ?_) | (refine aw_skip ?_) | (refine aw_ret ?_) | (refine aw_exit ?_)) | (first | (refine aw_condt rfl ?_) | (refine aw_condf rfl ?_) | (refine aw_cond rfl (fun hb => ?_) (fun hb => ?_) <;> (first | subst hb | ((try simp only [nm] at hb); try ((exfalso; omega); done))))) | (((refine aw_region (id := 10) ?_)); (all_goals (refine vm rfl rfl ?_)); (all_goals (refine vm rfl rfl ?_)); (all_goals (refine vc_v (by first | exact fs_lenOwn T rfl rfl | exact fs_lenRow T rfl rfl | exact fs_lenNil T rfl rfl) rfl ?_)); (all_goals (refine vc_v (by exact fs_lss rfl rfl) rfl ?_))) | (((refine aw_region (id := 13) ?_)); (all_goals (refine vm rfl rfl ?_)); (all_goals (refine vc_v (by first | exact fs_lenOwn T rfl rfl | exact fs_lenRow T rfl rfl | exact fs_lenNil T rfl rfl) rfl ?_)); (all_goals (refine vc_v (by exact fs_gtr rfl rfl) rfl ?_))) | (((refine aw_region (id := 14) ?_)); (all_goals (refine vm rfl rfl ?_)); (all_goals (refine vm rfl rfl ?_)); (all_goals (refine vc_n (by exact fs_buildSlice T rfl rfl (by decide) (by decide) rfl rfl rfl) rfl ?_)); (all_goals (refine vc_append T rfl rfl rfl rfl rfl rfl (by simp) (Elems.whole rfl rfl) rfl (by simp; omega) (by simp; omega) rfl ?_)); (all_goals (refine va rfl rfl ?_))) | (((refine aw_region (id := 6) ?_)); (all_goals (refine vm rfl rfl ?_)); (all_goals (refine vc_v (by first | exact fs_addr rfl rfl (by omega) (by omega) | exact fs_add rfl rfl) rfl ?_)); (all_goals (refine va rfl rfl ?_))) | (refine vc_nilp (by (first | (dsimp only [List.nil_append, List.cons_append, List.append_nil, List.length_cons, List.length_nil, List.set_cons_zero, List.set_cons_succ, List.map_cons, List.map_nil, putAt, putd, allObjs, argEnv, un_v, un_ptr, un_ep, un_pr, un_sl, un_mp, un_row, un_agg, un_tup, un_clo, Nat.zero_add, Nat.add_zero, Nat.reduceAdd, Bool.not_true, Bool.not_false]; first | done | exact rfl) | exact rfl)) ?_))
          all_goals try (exfalso; omega)
          all_goals exact ⟨⟨(i + 1, k, C, out ++ [p]), hlt, hcB, hfk, hd2⟩, by dsimp only; omega, [0, 1, 4], rfl, ⟨rfl, rfl, rfl, rfl, by dsimp only; rw [List.length_append]; rfl, rfl, trivial⟩, ⟨.inr rfl, .inr (sub_arr rfl rfl (bools_idf _)), .inr (sub_arr rfl lists_app (lists_idf _)), trivial⟩, by decide, fun i hi => absurd hi (Nat.not_lt_zero _)⟩
  · obtain rfl : i = r.length := by omega
    have hl0 : lft r r.length B = [] := by unfold lft; rw [List.drop_length]; rfl
    rw [hl0, parts_nil, List.append_nil] at hd
    rw [← hd]
    repeat' (first | (first | (refine aw_seq ?_) | (refine aw_block ?_) | (refine aw_skip ?_) | (refine aw_ret ?_) | (refine aw_exit ?_)) | (first | (refine aw_condt rfl ?_) | (refine aw_condf rfl ?_) | (refine aw_cond rfl (fun hb => ?_) (fun hb => ?_) <;> (first | subst hb | ((try simp only [nm] at hb); try ((exfalso; omega); done))))) | (((refine aw_region (id := 5) ?_)); (all_goals (refine vm rfl rfl ?_)); (all_goals (refine vm rfl rfl ?_)); (all_goals (refine vc_v (by first | exact fs_lenOwn T rfl rfl | exact fs_lenRow T rfl rfl | exact fs_lenNil T rfl rfl) rfl ?_)); (all_goals (refine vc_v (by exact fs_lss rfl rfl) rfl ?_))) | (((refine aw_region (id := 15) ?_)); (all_goals (refine vm rfl rfl ?_)); (all_goals (refine va rfl rfl ?_))) | (refine vc_nilp (by (first | (dsimp only [List.nil_append, List.cons_append, List.append_nil, List.length_cons, List.length_nil, List.set_cons_zero, List.set_cons_succ, List.map_cons, List.map_nil, putAt, putd, allObjs, argEnv, un_v, un_ptr, un_ep, un_pr, un_sl, un_mp, un_row, un_agg, un_tup, un_clo, Nat.zero_add, Nat.add_zero, Nat.reduceAdd, Bool.not_true, Bool.not_false]; first | done | exact rfl) | exact rfl)) ?_))
    all_goals first | (exfalso; omega) | exact ⟨.inl rfl, [2], _, rfl, rfl, rfl, ⟨.inr (sub_arr rfl rfl (lists_idf _)), trivial⟩, by decide, fun i hi => absurd hi (Nat.not_lt_zero _)⟩
end
end Go.Proofs.Ytlpffgndackglaa
