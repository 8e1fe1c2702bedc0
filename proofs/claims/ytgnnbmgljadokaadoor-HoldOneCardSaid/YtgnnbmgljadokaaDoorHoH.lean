/-
  Layer 17: Compact of integers, and Owners.
-/
import Derived.Test.YtgnnbmgljadokaaDoorHoD
namespace Go.Proofs.YtgnnbmgljadokaaDoor
open Go Go.Ab Go.Ho Go.MapKept
set_option linter.unusedVariables false
set_option linter.unusedSimpArgs false
attribute [local irreducible] VC AW FStep ACall
set_option maxHeartbeats 4000000
abbrev Asc (l : List Int) : Prop := l.Pairwise (· < ·)
theorem at_own {G l : List Int} {m : Nat} (hg : G.length ≤ m) (hm : m < l.length) : (ints (G ++ l.drop G.length))[0 + (m : Int).toNat]? = some [AV.i l[m]] := by
  rw [Nat.zero_add, Int.toNat_natCast, List.getElem?_map, List.getElem?_append_right hg, List.getElem?_drop, show G.length + (m - G.length) = m by omega, List.getElem?_eq_getElem hm]; rfl
theorem set_own {G l : List Int} {x : Int} (hg : G.length < l.length) : (ints (G ++ l.drop G.length)).set (0 + (G.length : Int).toNat) [AV.i x] = ints ((G ++ [x]) ++ l.drop (G ++ [x]).length) := by
  rw [Nat.zero_add, Int.toNat_natCast, ← List.map_set, List.set_append_right _ _ (Nat.le_refl _), Nat.sub_self, List.drop_eq_getElem_cons hg, List.set_cons_zero]
  simp
theorem own_len {G l : List Int} (hg : G.length ≤ l.length) : (ints (G ++ l.drop G.length)).length = l.length := by simp; omega
theorem take_own {G l : List Int} : (ints (G ++ l.drop G.length)).take (0 + (G.length : Int).toNat) = ints G := by
  rw [Nat.zero_add, Int.toNat_natCast, ← List.map_take, List.take_append_of_le_length (Nat.le_refl _), List.take_of_length_le (Nat.le_refl _)]
/-- Of the first m numbers those that are not like the one ahead. -/
def compN (l : List Int) : Nat → List Int
  | 0 => []
  | m + 1 => if 0 < m ∧ l.getD m 0 = l.getD (m - 1) 0 then compN l m else compN l m ++ [l.getD m 0]
def compM (l : List Int) : List Int := compN l l.length
theorem comp_dup {l : List Int} {m : Nat} (h : 0 < m) (e : l.getD m 0 = l.getD (m - 1) 0) : compN l (m + 1) = compN l m := by
  unfold compN; rw [if_pos ⟨h, e⟩]; cases m <;> rfl
theorem comp_new {l : List Int} {m : Nat} (e : l.getD m 0 ≠ l.getD (m - 1) 0) : compN l (m + 1) = compN l m ++ [l.getD m 0] := by
  unfold compN; rw [if_neg (fun q => e q.2)]; cases m <;> rfl
theorem comp_one (l : List Int) : compN l 1 = [l.getD 0 0] := by
  unfold compN; rw [if_neg (fun q => Nat.lt_irrefl _ q.1)]; rfl
theorem getD_el {l : List Int} {m : Nat} (h : m < l.length) : l.getD m 0 = l[m] := by rw [List.getD_eq_getElem?_getD, List.getElem?_eq_getElem h]; rfl
theorem at_ownD {G l : List Int} {m : Nat} {i : Nat} (hg : G.length ≤ m) (hm : m < l.length) (hi : i = m) : (ints (G ++ l.drop G.length))[i]? = some [AV.i (l.getD m 0)] := by
  have := at_own hg hm
  rw [Nat.zero_add, Int.toNat_natCast] at this
  rw [hi, this, getD_el hm]
theorem at_intD {l : List Int} {m i : Nat} (hm : m < l.length) (hi : i = m) : (ints l)[i]? = some [AV.i (l.getD m 0)] := by
  rw [hi, ints_get hm, getD_el hm]
theorem compact_c (l : List Int) (hl : l.length ≤ 1000000) : ACall Tryd.prog 37 [.sl 0 0 l.length 1] [.arr (ints l) 1] (.sl 0 0 (compM l).length 1) [.arr (ints (compM l)) 1] := by
  have hll : (ints l).length = l.length := by simp
  refine acall T Tryd.func37 rfl rfl rfl rfl ?_
  by_cases h2 : l.length < 2
  · have hk : compM l = l := by
      match l, h2 with
      | [], _ => rfl
      | [a], _ => exact comp_one _
      | _ :: _ :: _, h => exact absurd h (by simp)
    rw [hk]
    repeat' (first | (first | (refine aw_seq ?_) | (refine aw_block ?_) | (refine aw_skip ?_) | (refine aw_ret ?_) | (refine aw_exit ?_)) | (first | (refine aw_condt rfl ?_) | (refine aw_condf rfl ?_) | (refine aw_cond rfl (fun hb => ?_) (fun hb => ?_) <;> (first | subst hb | ((try simp only [nm] at hb); try ((exfalso; omega); done))))) | (((refine aw_region (id := 0) ?_)); (all_goals (refine va rfl rfl ?_))) | (((refine aw_region (id := 1) ?_)); (all_goals (refine vm rfl rfl ?_)); (all_goals (refine vc_v (by first | exact fs_lenOwn T rfl rfl | exact fs_lenRow T rfl rfl | exact fs_lenNil T rfl rfl) rfl ?_)); (all_goals (refine vc_v (by exact fs_lss rfl rfl) rfl ?_))) | (((refine aw_region (id := 2) ?_)); (all_goals (refine vm rfl rfl ?_)); (all_goals (refine va rfl rfl ?_))) | (refine vc_nilp (by (first | (dsimp only [List.nil_append, List.cons_append, List.append_nil, List.length_cons, List.length_nil, List.set_cons_zero, List.set_cons_succ, List.map_cons, List.map_nil, putAt, putd, allObjs, argEnv, un_v, un_ptr, un_ep, un_pr, un_sl, un_mp, un_row, un_agg, un_tup, un_clo, Nat.zero_add, Nat.add_zero, Nat.reduceAdd, Bool.not_true, Bool.not_false]; first | done | exact rfl) | exact rfl)) ?_))
    all_goals first | (exfalso; omega) | exact ⟨.inl rfl, [0], _, rfl, rfl, rfl, ⟨.inr (sub_arr rfl rfl (ints_idf _)), trivial⟩, by decide, lt1z⟩
  · repeat' (first | (first | (refine aw_seq ?_) | (refine aw_block ?_) | (refine aw_skip ?_) | (refine aw_ret ?_) | (refine aw_exit ?_)) | (first | (refine aw_condt rfl ?_) | (refine aw_condf rfl ?_) | (refine aw_cond rfl (fun hb => ?_) (fun hb => ?_) <;> (first | subst hb | ((try simp only [nm] at hb); try ((exfalso; omega); done))))) | (((refine aw_region (id := 0) ?_)); (all_goals (refine va rfl rfl ?_))) | (((refine aw_region (id := 1) ?_)); (all_goals (refine vm rfl rfl ?_)); (all_goals (refine vc_v (by first | exact fs_lenOwn T rfl rfl | exact fs_lenRow T rfl rfl | exact fs_lenNil T rfl rfl) rfl ?_)); (all_goals (refine vc_v (by exact fs_lss rfl rfl) rfl ?_))) | (((refine aw_region (id := 3) ?_)); (all_goals (refine va rfl rfl ?_))) | (refine vc_nilp (by (first | (dsimp only [List.nil_append, List.cons_append, List.append_nil, List.length_cons, List.length_nil, List.set_cons_zero, List.set_cons_succ, List.map_cons, List.map_nil, putAt, putd, allObjs, argEnv, un_v, un_ptr, un_ep, un_pr, un_sl, un_mp, un_row, un_agg, un_tup, un_clo, Nat.zero_add, Nat.add_zero, Nat.reduceAdd, Bool.not_true, Bool.not_false]; first | done | exact rfl) | exact rfl)) ?_))
    all_goals try (exfalso; omega)
    refine aw_loop (X := {k : Nat // 1 ≤ k ∧ k ≤ l.length ∧ compN l k = l.take k}) (fun k => [(0, .sl 0 0 l.length 1), (3, .i k.1)]) (fun _ => [.arr (ints l) 1]) (fun k => l.length - k.1) ⟨1, by omega, by omega, by rw [comp_one, getD_el (by omega), List.take_succ_eq_append_getElem (by omega)]; rfl⟩ ⟨[0], rfl, by (repeat (first | exact trivial | refine ⟨rfl, ?_⟩)), ⟨.inr (sub_arr rfl rfl (ints_idf _)), trivial⟩, by decide, lt1z⟩ ?_
    rintro ⟨k, hk1, hk, hkc⟩
    dsimp only
    by_cases hlt : k < l.length
    · have e1 := at_intD (i := 0 + (k : Int).toNat) hlt (by omega)
      have e2 := at_intD (l := l) (m := k - 1) (i := 0 + ((k : Int) - 1).toNat) (by omega) (by omega)
      by_cases hd : l.getD k 0 = l.getD (k - 1) 0
      · have hc1 := comp_dup (l := l) hk1 hd
        rw [hkc] at hc1
        generalize l.getD k 0 = a at *
        generalize l.getD (k - 1) 0 = b at *
        repeat' (first | (first | (refine aw_seq ?_) | (refine aw_block ?_) | (refine aw_skip ?_) | (refine aw_ret ?_) | (refine aw_exit ?_)) | (first | (refine aw_condt rfl ?_) | (refine aw_condf rfl ?_) | (refine aw_cond rfl (fun hb => ?_) (fun hb => ?_) <;> (first | subst hb | ((try simp only [nm] at hb); try ((exfalso; omega); done))))) | (((refine aw_region (id := 4) ?_)); (all_goals (refine vm rfl rfl ?_)); (all_goals (refine vm rfl rfl ?_)); (all_goals (refine vc_v (by first | exact fs_lenOwn T rfl rfl | exact fs_lenRow T rfl rfl | exact fs_lenNil T rfl rfl) rfl ?_)); (all_goals (refine vc_v (by exact fs_lss rfl rfl) rfl ?_))) | (((refine aw_draw2k (id := 6) 61 [[], [], [0, 1], [0, 1, 2], [], [], [5], [4, 5, 6], [4, 5, 6, 7], [0, 1, 2, 3, 4, 5, 6, 7, 8]] [16, 17, 18, 19, 20, 21, 22, 23, 24, 25] [[], [16], [], [], [16, 17, 18, 19], [16, 17, 18, 19, 20], [16, 17, 18, 19, 20], [16, 17, 18, 19], [16, 17, 18, 19], []] mixedP rfl (by decide +kernel) ?_)); (all_goals first | (refine dw_v rfl rfl rfl (by first | exact fs_move rfl) ?_)); (all_goals first | (refine dw_v rfl rfl rfl (by first | exact fs_move rfl) ?_)); (all_goals first | (refine dw_v rfl rfl rfl (by first | exact fs_indexOwn T rfl rfl rfl rfl rfl (by omega) (by omega)) ?_)); (all_goals first | (refine dw_v rfl rfl rfl (by first | exact fs_load T rfl rfl rfl rfl | exact fs_load T rfl rfl (behind_ep rfl e1) rfl | exact fs_load T rfl rfl (behind_ep rfl e2) rfl) ?_)); (all_goals first | (refine dw_v rfl rfl rfl (by first | exact fs_move rfl) ?_)); (all_goals first | (refine dw_v rfl rfl rfl (by first | exact fs_move rfl) ?_)); (all_goals first | (refine dw_v rfl rfl rfl (by first | exact fs_subr rfl rfl (by omega) (by omega) | exact fs_sub rfl rfl) ?_)); (all_goals first | (refine dw_v rfl rfl rfl (by first | exact fs_indexOwn T rfl rfl rfl rfl rfl (by omega) (by omega)) ?_)); (all_goals first | (refine dw_v rfl rfl rfl (by first | exact fs_load T rfl rfl rfl rfl | exact fs_load T rfl rfl (behind_ep rfl e1) rfl | exact fs_load T rfl rfl (behind_ep rfl e2) rfl) ?_)); (all_goals first | (refine dw_v rfl rfl rfl (by first | exact fs_eqlT rfl rfl (by omega) | exact fs_eql rfl rfl) ?_)); (all_goals (refine dw_fin rfl rfl (by (first | (dsimp only [List.nil_append, List.cons_append, List.append_nil, List.length_cons, List.length_nil, List.set_cons_zero, List.set_cons_succ, List.map_cons, List.map_nil, putAt, putd, allObjs, argEnv, un_v, un_ptr, un_ep, un_pr, un_sl, un_mp, un_row, un_agg, un_tup, un_clo, Nat.zero_add, Nat.add_zero, Nat.reduceAdd, Bool.not_true, Bool.not_false]; first | done | exact rfl) | exact rfl)) ?_))) | (((refine aw_region (id := 7) ?_)); (all_goals (refine vm rfl rfl ?_)); (all_goals (refine vm rfl rfl ?_)); (all_goals (refine vc_v (by exact fs_sliceOwn T rfl rfl rfl rfl rfl rfl (by omega) (by omega) (by omega)) rfl ?_)); (all_goals (refine va rfl rfl ?_))) | (((refine aw_region (id := 8) ?_)); (all_goals (refine va rfl rfl ?_))) | (refine vc_nilp (by (first | (dsimp only [List.nil_append, List.cons_append, List.append_nil, List.length_cons, List.length_nil, List.set_cons_zero, List.set_cons_succ, List.map_cons, List.map_nil, putAt, putd, allObjs, argEnv, un_v, un_ptr, un_ep, un_pr, un_sl, un_mp, un_row, un_agg, un_tup, un_clo, Nat.zero_add, Nat.add_zero, Nat.reduceAdd, Bool.not_true, Bool.not_false]; first | done | exact rfl) | exact rfl)) ?_))
        all_goals try (exfalso; omega)
        have hl1 : (compN l (k + 1)).length = k := by rw [hc1]; simp; omega
        refine aw_loop (X := {j : Nat // 1 ≤ j ∧ k + j ≤ l.length ∧ (compN l (k + j)).length + 1 ≤ k + j}) (fun j => [(0, .sl 0 0 l.length 1), (3, .i (compN l (k + j.1)).length), (4, .sl 0 (0 + (k : Int).toNat) ((l.length : Int) - (k : Int)).toNat 1), (5, .i j.1)]) (fun j => [.arr (ints (compN l (k + j.1) ++ l.drop (compN l (k + j.1)).length)) 1]) (fun j => l.length - (k + j.1)) ⟨1, by omega, by omega, by omega⟩ ⟨[0], rfl, ⟨rfl, by dsimp only; rw [hl1]; rfl, rfl, rfl, trivial⟩, ⟨.inr (sub_arr rfl (by dsimp only; rw [hl1, hc1, List.take_append_drop]) (ints_idf _)), trivial⟩, by decide, lt1z⟩ ?_
        clear e1 e2 hd hl1 hc1
        rintro ⟨j, hj1, hj, hjc⟩
        dsimp only
        by_cases hjl : k + j < l.length
        · have e1 := at_ownD (G := compN l (k + j)) (l := l) (m := k + j) (i := 0 + (k : Int).toNat + (j : Int).toNat) (by omega) hjl (by omega)
          have e2 := at_ownD (G := compN l (k + j)) (l := l) (m := k + j - 1) (i := 0 + (k : Int).toNat + ((j : Int) - 1).toNat) (by omega) (by omega) (by omega)
          have e3 := at_own (G := compN l (k + j)) (l := l) (Nat.le_refl _) (by omega)
          have hset := set_own (G := compN l (k + j)) (l := l) (x := l.getD (k + j) 0) (by omega)
          have hal := own_len (G := compN l (k + j)) (l := l) (by omega)
          have hdup := comp_dup (l := l) (m := k + j) (by omega)
          have hnew := comp_new (l := l) (m := k + j)
          have hnl : ∀ G : List Int, (G ++ [l.getD (k + j) 0]).length = G.length + 1 := fun G => by simp
          rw [show k + j + 1 = k + (j + 1) by omega] at hdup hnew
          generalize l.getD (k + j) 0 = a at *
          generalize l.getD (k + j - 1) 0 = b at *
          generalize l[(compN l (k + j)).length] = y at *
          generalize compN l (k + j) = G at *
          by_cases hd : a = b
          · have hdup := hdup hd
            generalize hA : ints (G ++ l.drop G.length) = A at *
            repeat' (first | (first | (refine aw_seq ?_) | (refine aw_block ?_) | (refine aw_skip ?_) | (refine aw_ret ?_) | (refine aw_exit ?_)) | (first | (refine aw_condt rfl ?_) | (refine aw_condf rfl ?_) | (refine aw_cond rfl (fun hb => ?_) (fun hb => ?_) <;> (first | subst hb | ((try simp only [nm] at hb); try ((exfalso; omega); done))))) | (((refine aw_region (id := 9) ?_)); (all_goals (refine vm rfl rfl ?_)); (all_goals (refine vm rfl rfl ?_)); (all_goals (refine vc_v (by first | exact fs_lenOwn T rfl rfl | exact fs_lenRow T rfl rfl | exact fs_lenNil T rfl rfl) rfl ?_)); (all_goals (refine vc_v (by exact fs_lss rfl rfl) rfl ?_))) | (((refine aw_draw2k (id := 11) 61 [[], [], [0, 1], [0, 1, 2], [], [], [5], [4, 5, 6], [4, 5, 6, 7], [0, 1, 2, 3, 4, 5, 6, 7, 8]] [35, 36, 37, 38, 39, 40, 41, 42, 43, 44] [[], [35], [], [], [35, 36, 37, 38], [35, 36, 37, 38, 39], [35, 36, 37, 38, 39], [35, 36, 37, 38], [35, 36, 37, 38], []] mixedP rfl (by decide +kernel) ?_)); (all_goals first | (refine dw_v rfl rfl rfl (by first | exact fs_move rfl) ?_)); (all_goals first | (refine dw_v rfl rfl rfl (by first | exact fs_move rfl) ?_)); (all_goals first | (refine dw_v rfl rfl rfl (by first | exact fs_indexOwn T rfl rfl rfl rfl rfl (by omega) (by omega)) ?_)); (all_goals first | (refine dw_v rfl rfl rfl (by first | exact fs_load T rfl rfl rfl rfl | exact fs_load T rfl rfl (behind_ep rfl e1) rfl | exact fs_load T rfl rfl (behind_ep rfl e2) rfl) ?_)); (all_goals first | (refine dw_v rfl rfl rfl (by first | exact fs_move rfl) ?_)); (all_goals first | (refine dw_v rfl rfl rfl (by first | exact fs_move rfl) ?_)); (all_goals first | (refine dw_v rfl rfl rfl (by first | exact fs_subr rfl rfl (by omega) (by omega) | exact fs_sub rfl rfl) ?_)); (all_goals first | (refine dw_v rfl rfl rfl (by first | exact fs_indexOwn T rfl rfl rfl rfl rfl (by omega) (by omega)) ?_)); (all_goals first | (refine dw_v rfl rfl rfl (by first | exact fs_load T rfl rfl rfl rfl | exact fs_load T rfl rfl (behind_ep rfl e1) rfl | exact fs_load T rfl rfl (behind_ep rfl e2) rfl) ?_)); (all_goals first | (refine dw_v rfl rfl rfl (by first | exact fs_neqF rfl rfl (by omega) | exact fs_neq rfl rfl) ?_)); (all_goals (refine dw_fin rfl rfl (by (first | (dsimp only [List.nil_append, List.cons_append, List.append_nil, List.length_cons, List.length_nil, List.set_cons_zero, List.set_cons_succ, List.map_cons, List.map_nil, putAt, putd, allObjs, argEnv, un_v, un_ptr, un_ep, un_pr, un_sl, un_mp, un_row, un_agg, un_tup, un_clo, Nat.zero_add, Nat.add_zero, Nat.reduceAdd, Bool.not_true, Bool.not_false]; first | done | exact rfl) | exact rfl)) ?_))) | (((refine aw_region (id := 10) ?_)); (all_goals (refine vm rfl rfl ?_)); (all_goals (refine vc_v (by first | exact fs_addr rfl rfl (by omega) (by omega) | exact fs_add rfl rfl) rfl ?_)); (all_goals (refine va rfl rfl ?_))) | (refine vc_nilp (by (first | (dsimp only [List.nil_append, List.cons_append, List.append_nil, List.length_cons, List.length_nil, List.set_cons_zero, List.set_cons_succ, List.map_cons, List.map_nil, putAt, putd, allObjs, argEnv, un_v, un_ptr, un_ep, un_pr, un_sl, un_mp, un_row, un_agg, un_tup, un_clo, Nat.zero_add, Nat.add_zero, Nat.reduceAdd, Bool.not_true, Bool.not_false]; first | done | exact rfl) | exact rfl)) ?_))
            all_goals try (exfalso; omega)
            all_goals exact ⟨⟨j + 1, by omega, by omega, by rw [hdup]; omega⟩, by dsimp only; omega, [0], rfl, ⟨rfl, by dsimp only; rw [hdup]; rfl, rfl, rfl, trivial⟩, ⟨.inr (sub_arr rfl (by dsimp only; rw [hdup]; exact hA.symm) (ints_idf _)), trivial⟩, by decide, lt1z⟩
          · have hnew := hnew hd
            have hgl := hnl G
            generalize hA : ints (G ++ l.drop G.length) = A at *
            repeat' (first | (first | (refine aw_seq ?_) | (refine aw_block ?_) | (refine aw_skip ?_) | (refine aw_ret ?_) | (refine aw_exit ?_)) | (first | (refine aw_condt rfl ?_) | (refine aw_condf rfl ?_) | (refine aw_cond rfl (fun hb => ?_) (fun hb => ?_) <;> (first | subst hb | ((try simp only [nm] at hb); try ((exfalso; omega); done))))) | (((refine aw_region (id := 9) ?_)); (all_goals (refine vm rfl rfl ?_)); (all_goals (refine vm rfl rfl ?_)); (all_goals (refine vc_v (by first | exact fs_lenOwn T rfl rfl | exact fs_lenRow T rfl rfl | exact fs_lenNil T rfl rfl) rfl ?_)); (all_goals (refine vc_v (by exact fs_lss rfl rfl) rfl ?_))) | (((refine aw_draw2k (id := 11) 61 [[], [], [0, 1], [0, 1, 2], [], [], [5], [4, 5, 6], [4, 5, 6, 7], [0, 1, 2, 3, 4, 5, 6, 7, 8]] [35, 36, 37, 38, 39, 40, 41, 42, 43, 44] [[], [35], [], [], [35, 36, 37, 38], [35, 36, 37, 38, 39], [35, 36, 37, 38, 39], [35, 36, 37, 38], [35, 36, 37, 38], []] mixedP rfl (by decide +kernel) ?_)); (all_goals first | (refine dw_v rfl rfl rfl (by first | exact fs_move rfl) ?_)); (all_goals first | (refine dw_v rfl rfl rfl (by first | exact fs_move rfl) ?_)); (all_goals first | (refine dw_v rfl rfl rfl (by first | exact fs_indexOwn T rfl rfl rfl rfl rfl (by omega) (by omega)) ?_)); (all_goals first | (refine dw_v rfl rfl rfl (by first | exact fs_load T rfl rfl rfl rfl | exact fs_load T rfl rfl (behind_ep rfl e1) rfl | exact fs_load T rfl rfl (behind_ep rfl e2) rfl) ?_)); (all_goals first | (refine dw_v rfl rfl rfl (by first | exact fs_move rfl) ?_)); (all_goals first | (refine dw_v rfl rfl rfl (by first | exact fs_move rfl) ?_)); (all_goals first | (refine dw_v rfl rfl rfl (by first | exact fs_subr rfl rfl (by omega) (by omega) | exact fs_sub rfl rfl) ?_)); (all_goals first | (refine dw_v rfl rfl rfl (by first | exact fs_indexOwn T rfl rfl rfl rfl rfl (by omega) (by omega)) ?_)); (all_goals first | (refine dw_v rfl rfl rfl (by first | exact fs_load T rfl rfl rfl rfl | exact fs_load T rfl rfl (behind_ep rfl e1) rfl | exact fs_load T rfl rfl (behind_ep rfl e2) rfl) ?_)); (all_goals first | (refine dw_v rfl rfl rfl (by first | exact fs_neqT rfl rfl (by omega) | exact fs_neq rfl rfl) ?_)); (all_goals (refine dw_fin rfl rfl (by (first | (dsimp only [List.nil_append, List.cons_append, List.append_nil, List.length_cons, List.length_nil, List.set_cons_zero, List.set_cons_succ, List.map_cons, List.map_nil, putAt, putd, allObjs, argEnv, un_v, un_ptr, un_ep, un_pr, un_sl, un_mp, un_row, un_agg, un_tup, un_clo, Nat.zero_add, Nat.add_zero, Nat.reduceAdd, Bool.not_true, Bool.not_false]; first | done | exact rfl) | exact rfl)) ?_))) | (((refine aw_region (id := 12) ?_)); (all_goals (refine vm rfl rfl ?_)); (all_goals (refine vm rfl rfl ?_)); (all_goals (refine vm rfl rfl ?_)); (all_goals (refine vm rfl rfl ?_)); (all_goals (refine vc_v (by exact fs_indexOwn T rfl rfl rfl rfl rfl (by omega) (by omega)) rfl ?_)); (all_goals (refine vc_v (by first | exact fs_load T rfl rfl rfl rfl | exact fs_load T rfl rfl (behind_ep rfl e1) rfl | exact fs_load T rfl rfl (behind_ep rfl e2) rfl) rfl ?_)); (all_goals (refine vc_v (by exact fs_indexOwn T rfl rfl rfl rfl rfl (by omega) (by omega)) rfl ?_)); (all_goals first | (refine vc_store T rfl rfl rfl rfl rfl rfl (by decide) rfl ?_) | (refine vc_store T rfl rfl rfl rfl rfl rfl (by decide) (upd_ep rfl e3 rfl) ?_))) | (((refine aw_region (id := 13) ?_)); (all_goals (refine vm rfl rfl ?_)); (all_goals (refine vc_v (by first | exact fs_addr rfl rfl (by omega) (by omega) | exact fs_add rfl rfl) rfl ?_)); (all_goals (refine va rfl rfl ?_))) | (((refine aw_region (id := 10) ?_)); (all_goals (refine vm rfl rfl ?_)); (all_goals (refine vc_v (by first | exact fs_addr rfl rfl (by omega) (by omega) | exact fs_add rfl rfl) rfl ?_)); (all_goals (refine va rfl rfl ?_))) | (refine vc_nilp (by (first | (dsimp only [List.nil_append, List.cons_append, List.append_nil, List.length_cons, List.length_nil, List.set_cons_zero, List.set_cons_succ, List.map_cons, List.map_nil, putAt, putd, allObjs, argEnv, un_v, un_ptr, un_ep, un_pr, un_sl, un_mp, un_row, un_agg, un_tup, un_clo, Nat.zero_add, Nat.add_zero, Nat.reduceAdd, Bool.not_true, Bool.not_false]; first | done | exact rfl) | exact rfl)) ?_))
            all_goals try (exfalso; omega)
            all_goals exact ⟨⟨j + 1, by omega, by omega, by rw [hnew]; omega⟩, by dsimp only; omega, [0], rfl, ⟨rfl, by dsimp only; rw [hnew, hgl]; rfl, rfl, rfl, trivial⟩, ⟨.inr (sub_arr rfl (by dsimp only; rw [hnew]; exact hset) (ints_idf _)), trivial⟩, by decide, lt1z⟩
        · have hkj : k + j = l.length := by omega
          have hcm : compM l = compN l (k + j) := by rw [hkj]; rfl
          have hal := own_len (G := compN l (k + j)) (l := l) (by omega)
          have htk := take_own (G := compN l (k + j)) (l := l)
          rw [hcm]
          generalize compN l (k + j) = G at *
          repeat' (first | (first | (refine aw_seq ?_) | (refine aw_block ?_) | (refine aw_skip ?_) | (refine aw_ret ?_) | (refine aw_exit ?_)) | (first | (refine aw_condt rfl ?_) | (refine aw_condf rfl ?_) | (refine aw_cond rfl (fun hb => ?_) (fun hb => ?_) <;> (first | subst hb | ((try simp only [nm] at hb); try ((exfalso; omega); done))))) | (((refine aw_region (id := 9) ?_)); (all_goals (refine vm rfl rfl ?_)); (all_goals (refine vm rfl rfl ?_)); (all_goals (refine vc_v (by first | exact fs_lenOwn T rfl rfl | exact fs_lenRow T rfl rfl | exact fs_lenNil T rfl rfl) rfl ?_)); (all_goals (refine vc_v (by exact fs_lss rfl rfl) rfl ?_))) | (((refine aw_region (id := 14) ?_)); (all_goals (refine vm rfl rfl ?_)); (all_goals (refine vm rfl rfl ?_)); (all_goals (refine vc_v (by exact fs_sliceOwn T rfl rfl rfl rfl rfl rfl (by omega) (by omega) (by omega)) rfl ?_)); (all_goals (refine vc_clear T rfl rfl rfl rfl rfl (by rw [hal]; omega) ?_))) | (((refine aw_region (id := 15) ?_)); (all_goals (refine vm rfl rfl ?_)); (all_goals (refine vm rfl rfl ?_)); (all_goals (refine vc_v (by exact fs_sliceOwn T rfl rfl rfl rfl rfl rfl (by omega) (by omega) (by omega)) rfl ?_)); (all_goals (refine va rfl rfl ?_))) | (refine vc_nilp (by (first | (dsimp only [List.nil_append, List.cons_append, List.append_nil, List.length_cons, List.length_nil, List.set_cons_zero, List.set_cons_succ, List.map_cons, List.map_nil, putAt, putd, allObjs, argEnv, un_v, un_ptr, un_ep, un_pr, un_sl, un_mp, un_row, un_agg, un_tup, un_clo, Nat.zero_add, Nat.add_zero, Nat.reduceAdd, Bool.not_true, Bool.not_false]; first | done | exact rfl) | exact rfl)) ?_))
          all_goals try (exfalso; omega)
          all_goals exact ⟨.inl rfl, [0], _, rfl, (by show AV.sl 0 0 ((G.length : Int) - 0).toNat 1 = AV.sl 0 0 G.length 1; rw [show ((G.length : Int) - 0).toNat = G.length by omega]), rfl, ⟨.inr (sub_arr rfl htk (ints_idf _)), trivial⟩, by decide, lt1z⟩
      · have hnew := comp_new (l := l) hd
        rw [hkc, getD_el hlt, ← List.take_succ_eq_append_getElem hlt] at hnew
        generalize l.getD k 0 = a at *
        generalize l.getD (k - 1) 0 = b at *
        repeat' (first | (first | (refine aw_seq ?_) | (refine aw_block ?_) | (refine aw_skip ?_) | (refine aw_ret ?_) | (refine aw_exit ?_)) | (first | (refine aw_condt rfl ?_) | (refine aw_condf rfl ?_) | (refine aw_cond rfl (fun hb => ?_) (fun hb => ?_) <;> (first | subst hb | ((try simp only [nm] at hb); try ((exfalso; omega); done))))) | (((refine aw_region (id := 4) ?_)); (all_goals (refine vm rfl rfl ?_)); (all_goals (refine vm rfl rfl ?_)); (all_goals (refine vc_v (by first | exact fs_lenOwn T rfl rfl | exact fs_lenRow T rfl rfl | exact fs_lenNil T rfl rfl) rfl ?_)); (all_goals (refine vc_v (by exact fs_lss rfl rfl) rfl ?_))) | (((refine aw_draw2k (id := 6) 61 [[], [], [0, 1], [0, 1, 2], [], [], [5], [4, 5, 6], [4, 5, 6, 7], [0, 1, 2, 3, 4, 5, 6, 7, 8]] [16, 17, 18, 19, 20, 21, 22, 23, 24, 25] [[], [16], [], [], [16, 17, 18, 19], [16, 17, 18, 19, 20], [16, 17, 18, 19, 20], [16, 17, 18, 19], [16, 17, 18, 19], []] mixedP rfl (by decide +kernel) ?_)); (all_goals first | (refine dw_v rfl rfl rfl (by first | exact fs_move rfl) ?_)); (all_goals first | (refine dw_v rfl rfl rfl (by first | exact fs_move rfl) ?_)); (all_goals first | (refine dw_v rfl rfl rfl (by first | exact fs_indexOwn T rfl rfl rfl rfl rfl (by omega) (by omega)) ?_)); (all_goals first | (refine dw_v rfl rfl rfl (by first | exact fs_load T rfl rfl rfl rfl | exact fs_load T rfl rfl (behind_ep rfl e1) rfl | exact fs_load T rfl rfl (behind_ep rfl e2) rfl) ?_)); (all_goals first | (refine dw_v rfl rfl rfl (by first | exact fs_move rfl) ?_)); (all_goals first | (refine dw_v rfl rfl rfl (by first | exact fs_move rfl) ?_)); (all_goals first | (refine dw_v rfl rfl rfl (by first | exact fs_subr rfl rfl (by omega) (by omega) | exact fs_sub rfl rfl) ?_)); (all_goals first | (refine dw_v rfl rfl rfl (by first | exact fs_indexOwn T rfl rfl rfl rfl rfl (by omega) (by omega)) ?_)); (all_goals first | (refine dw_v rfl rfl rfl (by first | exact fs_load T rfl rfl rfl rfl | exact fs_load T rfl rfl (behind_ep rfl e1) rfl | exact fs_load T rfl rfl (behind_ep rfl e2) rfl) ?_)); (all_goals first | (refine dw_v rfl rfl rfl (by first | exact fs_eqlF rfl rfl (by omega) | exact fs_eql rfl rfl) ?_)); (all_goals (refine dw_fin rfl rfl (by (first | (dsimp only [List.nil_append, List.cons_append, List.append_nil, List.length_cons, List.length_nil, List.set_cons_zero, List.set_cons_succ, List.map_cons, List.map_nil, putAt, putd, allObjs, argEnv, un_v, un_ptr, un_ep, un_pr, un_sl, un_mp, un_row, un_agg, un_tup, un_clo, Nat.zero_add, Nat.add_zero, Nat.reduceAdd, Bool.not_true, Bool.not_false]; first | done | exact rfl) | exact rfl)) ?_))) | (((refine aw_region (id := 5) ?_)); (all_goals (refine vm rfl rfl ?_)); (all_goals (refine vc_v (by first | exact fs_addr rfl rfl (by omega) (by omega) | exact fs_add rfl rfl) rfl ?_)); (all_goals (refine va rfl rfl ?_))) | (refine vc_nilp (by (first | (dsimp only [List.nil_append, List.cons_append, List.append_nil, List.length_cons, List.length_nil, List.set_cons_zero, List.set_cons_succ, List.map_cons, List.map_nil, putAt, putd, allObjs, argEnv, un_v, un_ptr, un_ep, un_pr, un_sl, un_mp, un_row, un_agg, un_tup, un_clo, Nat.zero_add, Nat.add_zero, Nat.reduceAdd, Bool.not_true, Bool.not_false]; first | done | exact rfl) | exact rfl)) ?_))
        all_goals try (exfalso; omega)
        all_goals exact ⟨⟨k + 1, by omega, hlt, hnew⟩, by dsimp only; omega, [0], rfl, by (repeat (first | exact trivial | refine ⟨rfl, ?_⟩)), ⟨.inr (sub_arr rfl rfl (ints_idf _)), trivial⟩, by decide, lt1z⟩
    · obtain rfl : k = l.length := by omega
      have hcm : compM l = l := by
        show compN l l.length = l
        rw [hkc, List.take_length]
      rw [hcm]
      repeat' (first | (first | (refine aw_seq ?_) | (refine aw_block ?_) | (refine aw_skip ?_) | (refine aw_ret ?_) | (refine aw_exit ?_)) | (first | (refine aw_condt rfl ?_) | (refine aw_condf rfl ?_) | (refine aw_cond rfl (fun hb => ?_) (fun hb => ?_) <;> (first | subst hb | ((try simp only [nm] at hb); try ((exfalso; omega); done))))) | (((refine aw_region (id := 4) ?_)); (all_goals (refine vm rfl rfl ?_)); (all_goals (refine vm rfl rfl ?_)); (all_goals (refine vc_v (by first | exact fs_lenOwn T rfl rfl | exact fs_lenRow T rfl rfl | exact fs_lenNil T rfl rfl) rfl ?_)); (all_goals (refine vc_v (by exact fs_lss rfl rfl) rfl ?_))) | (((refine aw_region (id := 16) ?_)); (all_goals (refine vm rfl rfl ?_)); (all_goals (refine va rfl rfl ?_))) | (refine vc_nilp (by (first | (dsimp only [List.nil_append, List.cons_append, List.append_nil, List.length_cons, List.length_nil, List.set_cons_zero, List.set_cons_succ, List.map_cons, List.map_nil, putAt, putd, allObjs, argEnv, un_v, un_ptr, un_ep, un_pr, un_sl, un_mp, un_row, un_agg, un_tup, un_clo, Nat.zero_add, Nat.add_zero, Nat.reduceAdd, Bool.not_true, Bool.not_false]; first | done | exact rfl) | exact rfl)) ?_))
      all_goals first | (exfalso; omega) | exact ⟨.inl rfl, [0], _, rfl, rfl, rfl, ⟨.inr (sub_arr rfl rfl (ints_idf _)), trivial⟩, by decide, lt1z⟩
theorem comp_mem (l : List Int) (x : Int) : ∀ m, m ≤ l.length → (x ∈ compN l m ↔ x ∈ l.take m)
  | 0, _ => by simp [compN]
  | m + 1, hm => by
    have ih := comp_mem l x m (by omega)
    rw [List.take_succ_eq_append_getElem (by omega)]
    by_cases e : 0 < m ∧ l.getD m 0 = l.getD (m - 1) 0
    · rw [comp_dup e.1 e.2, ih, List.mem_append, List.mem_singleton]
      refine ⟨.inl, fun h => h.elim id fun h => ?_⟩
      have e2 := e.2
      rw [getD_el (by omega), getD_el (by omega)] at e2
      rw [h, e2]
      exact List.mem_take_iff_getElem.2 ⟨m - 1, by omega, rfl⟩
    · have : compN l (m + 1) = compN l m ++ [l.getD m 0] := by
        unfold compN; rw [if_neg e]; cases m <;> rfl
      rw [this, List.mem_append, List.mem_append, ih, getD_el (by omega)]
theorem comp_asc {l : List Int} (hs : l.Pairwise (· ≤ ·)) : ∀ m, m ≤ l.length → Asc (compN l m)
  | 0, _ => List.Pairwise.nil
  | m + 1, hm => by
    have ih := comp_asc hs m (by omega)
    by_cases e : 0 < m ∧ l.getD m 0 = l.getD (m - 1) 0
    · rw [comp_dup e.1 e.2]; exact ih
    · have : compN l (m + 1) = compN l m ++ [l.getD m 0] := by
        unfold compN; rw [if_neg e]; cases m <;> rfl
      rw [this]
      refine List.pairwise_append.2 ⟨ih, List.pairwise_singleton _ _, fun x hx y hy => ?_⟩
      rw [List.mem_singleton] at hy
      rw [comp_mem l x m (by omega)] at hx
      obtain ⟨i, hi, rfl⟩ := List.mem_take_iff_getElem.1 hx
      have him : i < m := by omega
      rw [hy, getD_el (by omega)]
      have h1 : l[m - 1] ≤ l[m] := List.pairwise_iff_getElem.1 hs (m - 1) m _ _ (by omega)
      have h2 : l[i] ≤ l[m - 1] := by
        by_cases ei : i = m - 1
        · subst ei; exact Int.le_refl _
        · exact List.pairwise_iff_getElem.1 hs i (m - 1) _ _ (by omega)
      have h3 : l[m] ≠ l[m - 1] := fun q => e ⟨by omega, by rw [getD_el (by omega), getD_el (by omega)]; exact q⟩
      omega
theorem asc_nodup {l : List Int} (h : Asc l) : l.Nodup := h.imp fun h => by omega
theorem asc_le {l : List Int} (h : Asc l) : l.Pairwise fun a b => a ≤ b := h.imp fun h => by omega
theorem nd_asc {l : List Int} (h : l.Nodup) : Asc (sorted l) := by
  have h1 := sorted_pw l
  have h2 := nd_sorted h
  exact (h1.and h2).imp fun h => by omega
theorem asc_eq {a b : List Int} (ha : Asc a) (hb : Asc b) (h : ∀ x, x ∈ a ↔ x ∈ b) : a = b := by
  have hp : a.Perm b := (List.perm_ext_iff_of_nodup (asc_nodup ha) (asc_nodup hb)).2 h
  rw [← sorted_id (asc_le ha), ← sorted_id (asc_le hb), sorted_perm hp]
theorem compM_sorted (l : List Int) : compM (sorted l) = sorted (dd l) := by
  refine asc_eq (comp_asc (sorted_pw l) _ (Nat.le_refl _)) (nd_asc (nd_dd l)) fun x => ?_
  show x ∈ compN _ _ ↔ _
  rw [comp_mem _ x _ (Nat.le_refl _), List.take_length, mem_sorted, mem_sorted, mem_dd]
/-- The owners as they are met. -/
def hol (m : Tb) (d : List Nat) : List Int := d.filterMap fun i => (m[i]?).map (·.2)
theorem hol_snoc {m : Tb} {d : List Nat} {i : Nat} {n o : Int} (h : m[i]? = some (n, o)) : hol m (d ++ [i]) = hol m d ++ [o] := by simp [hol, h]
theorem hol_len {m : Tb} {d : List Nat} : (hol m d).length ≤ d.length := List.length_filterMap_le _ _
theorem mem_hol {m : Tb} {d : List Nat} (hd : ∀ i, i < m.length → i ∈ d) {o : Int} : o ∈ hol m d ↔ o ∈ m.map (·.2) := by
  simp only [hol, List.mem_filterMap, List.mem_map, Option.map_eq_some_iff]
  constructor
  · rintro ⟨i, _, p, hp, he⟩; exact ⟨p, List.mem_of_getElem? hp, he⟩
  · rintro ⟨p, hp, he⟩
    obtain ⟨i, hi⟩ := List.mem_iff_getElem?.1 hp
    exact ⟨i, hd i (List.getElem?_eq_some_iff.1 hi).1, p, hi, he⟩
theorem hol_all {m : Tb} {d : List Nat} (hd : ∀ i, i < m.length → i ∈ d) : compM (sorted (hol m d)) = owsL m := by
  rw [compM_sorted]
  refine asc_eq (nd_asc (nd_dd _)) (nd_asc (nd_dd _)) fun x => ?_
  unfold owsL
  rw [mem_sorted, mem_sorted, mem_dd, mem_dd, mem_hol hd]
theorem owners_c {m : Tb} (h : Ok m) : ACall Tryd.prog 18 [.ptr 0 0] (tb m) (.sl 2 0 (owsL m).length 1) (tb m ++ [.arr (ints (owsL m)) 1]) := by
  have hml := h.len
  refine acall T Tryd.func18 rfl rfl rfl rfl ?_
  refine aw_mapOpen 1 rfl fun bs ck hb1 hb2 hb3 hb4 => ?_
  dsimp only [List.nil_append, List.cons_append, List.append_nil, List.length_cons, List.length_nil, List.set_cons_zero, List.set_cons_succ, List.map_cons, List.map_nil, putAt, putd, allObjs, argEnv, un_v, un_ptr, un_ep, un_pr, un_sl, un_mp, un_row, un_agg, un_tup, un_clo, Nat.zero_add, Nat.add_zero, Nat.reduceAdd, Bool.not_true, Bool.not_false]
  have hbl : bs.length = m.length := by rw [hb1]; simp [mkV, kk]
  repeat' (first | (first | (refine aw_seq ?_) | (refine aw_block ?_) | (refine aw_skip ?_) | (refine aw_ret ?_) | (refine aw_exit ?_)) | (first | (refine aw_condt rfl ?_) | (refine aw_condf rfl ?_) | (refine aw_cond rfl (fun hb => ?_) (fun hb => ?_) <;> (first | subst hb | ((try simp only [nm] at hb); try ((exfalso; omega); done))))) | (((refine aw_region (id := 0) ?_)); (all_goals (refine va rfl rfl ?_))) | (((refine aw_region (id := 1) ?_)); (all_goals (refine va rfl rfl ?_))) | (((refine aw_region (id := 2) ?_)); (all_goals (refine vm rfl rfl ?_)); (all_goals (refine vc_v (by exact fs_nilCheck rfl rfl) rfl ?_)); (all_goals (refine vc_v (by exact fs_fieldAddr T rfl rfl rfl) rfl ?_)); (all_goals (refine vc_v (by exact fs_load T rfl rfl rfl rfl) rfl ?_)); (all_goals first | (refine vc_n (by exact fs_range mapU rfl rfl) rfl ?_) | (refine vc_v (by fail) rfl ?_))) | (refine vc_nilp (by (first | (dsimp only [List.nil_append, List.cons_append, List.append_nil, List.length_cons, List.length_nil, List.set_cons_zero, List.set_cons_succ, List.map_cons, List.map_nil, putAt, putd, allObjs, argEnv, un_v, un_ptr, un_ep, un_pr, un_sl, un_mp, un_row, un_agg, un_tup, un_clo, Nat.zero_add, Nat.add_zero, Nat.reduceAdd, Bool.not_true, Bool.not_false]; first | done | exact rfl) | exact rfl)) ?_))
  refine aw_own 3 1 rfl (by decide) ?_
  dsimp only [List.nil_append, List.cons_append, List.append_nil, List.length_cons, List.length_nil, List.set_cons_zero, List.set_cons_succ, List.map_cons, List.map_nil, putAt, putd, allObjs, argEnv, un_v, un_ptr, un_ep, un_pr, un_sl, un_mp, un_row, un_agg, un_tup, un_clo, Nat.zero_add, Nat.add_zero, Nat.reduceAdd, Bool.not_true, Bool.not_false]
  refine aw_loop (X := {d : List Nat // d.Nodup ∧ ∀ i, i ∈ d → i < m.length}) (fun d => [(0, .ptr 0 0), (10, .ptr 2 0), (3, .sl 3 0 (hol m d.1).length 1)]) (fun d => [.cells [.mp 1], .mapB (mkV m) (mvV m) bs ck, .iter 1 ck (seenB bs d.1) ck, .arr (ints (hol m d.1)) 1]) (fun d => m.length - d.1.length) ⟨[], List.nodup_nil, fun i hi => by cases hi⟩ ⟨[0, 1, 2, 3], rfl, (by (repeat (first | exact trivial | refine ⟨rfl, ?_⟩))), ⟨.inr rfl, .inr (sub_mapB rfl (mvV_idf m)), .inr rfl, .inr rfl, trivial⟩, by decide, lt23⟩ ?_
  rintro ⟨d, hnd, hlt⟩
  dsimp only
  have hdl := nodup_le hnd hlt
  have hol1 := hol_len (m := m) (d := d)
  repeat' (first | (first | (refine aw_seq ?_) | (refine aw_block ?_) | (refine aw_skip ?_) | (refine aw_ret ?_) | (refine aw_exit ?_)) | (first | (refine aw_condt rfl ?_) | (refine aw_condf rfl ?_) | (refine aw_cond rfl (fun hb => ?_) (fun hb => ?_) <;> (first | subst hb | ((try simp only [nm] at hb); try ((exfalso; omega); done))))) | (((refine aw_region (id := 3) ?_)); (all_goals first | (refine vc_nextT rfl rfl rfl hb4 (Nat.le_refl _) rfl (fun hend => ?_) (fun i n o' b g1 g2 g3 => ?_)) | (refine vc_v (by fail) rfl ?_)); (all_goals (refine vc_v (by exact fs_extract rfl rfl) rfl ?_))) | (refine vc_nilp (by (first | (dsimp only [List.nil_append, List.cons_append, List.append_nil, List.length_cons, List.length_nil, List.set_cons_zero, List.set_cons_succ, List.map_cons, List.map_nil, putAt, putd, allObjs, argEnv, un_v, un_ptr, un_ep, un_pr, un_sl, un_mp, un_row, un_agg, un_tup, un_clo, Nat.zero_add, Nat.add_zero, Nat.reduceAdd, Bool.not_true, Bool.not_false]; first | done | exact rfl) | exact rfl)) ?_))
  · have hall := seen_all hb3 (by rw [hbl]; exact hlt) hend
    rw [hbl] at hall
    have e := hol_all hall
    have hsl : (sorted (hol m d)).length = (hol m d).length := sorted_len _
    have cC := compact_c (sorted (hol m d)) (by omega)
    rw [e, hsl] at cC
    refine aw_mapShut 1 rfl ?_
    dsimp only [List.nil_append, List.cons_append, List.append_nil, List.length_cons, List.length_nil, List.set_cons_zero, List.set_cons_succ, List.map_cons, List.map_nil, putAt, putd, allObjs, argEnv, un_v, un_ptr, un_ep, un_pr, un_sl, un_mp, un_row, un_agg, un_tup, un_clo, Nat.zero_add, Nat.add_zero, Nat.reduceAdd, Bool.not_true, Bool.not_false]
    repeat' (first | (first | (refine aw_seq ?_) | (refine aw_block ?_) | (refine aw_skip ?_) | (refine aw_ret ?_) | (refine aw_exit ?_)) | (first | (refine aw_condt rfl ?_) | (refine aw_condf rfl ?_) | (refine aw_cond rfl (fun hb => ?_) (fun hb => ?_) <;> (first | subst hb | ((try simp only [nm] at hb); try ((exfalso; omega); done))))) | (((refine aw_region (id := 6) ?_)); (all_goals (refine vm rfl rfl ?_)); (all_goals first | (refine vc_callw [3] rfl rfl (sort_c (hol m d) (by omega)) rfl rfl (by decide) ⟨.inr (sub_arr rfl rfl (ints_idf _)), trivial⟩ (by simp) rfl ?_) | (refine vc_v (by first | fail) rfl ?_) | (refine vc_n (by first | fail) rfl ?_))) | (((refine aw_region (id := 7) ?_)); (all_goals (refine vm rfl rfl ?_)); (all_goals first | (refine vc_callw [3] rfl rfl cC rfl rfl (by decide) ⟨.inr (sub_arr rfl (mapL_idfs _ (ints_idf _)) (ints_idf _)), trivial⟩ (by simp) rfl ?_) | (refine vc_v (by first | fail) rfl ?_) | (refine vc_n (by first | fail) rfl ?_)); (all_goals (refine va rfl rfl ?_))) | (refine vc_nilp (by (first | (dsimp only [List.nil_append, List.cons_append, List.append_nil, List.length_cons, List.length_nil, List.set_cons_zero, List.set_cons_succ, List.map_cons, List.map_nil, putAt, putd, allObjs, argEnv, un_v, un_ptr, un_ep, un_pr, un_sl, un_mp, un_row, un_agg, un_tup, un_clo, Nat.zero_add, Nat.add_zero, Nat.reduceAdd, Bool.not_true, Bool.not_false]; first | done | exact rfl) | exact rfl)) ?_))
    all_goals exact ⟨.inl rfl, [0, 1, 3], _, rfl, rfl, rfl, ⟨.inr rfl, .inr (sub_map rfl rfl rfl (mvV_idf m)), .inr (sub_arr rfl (mapL_idfs _ (ints_idf _)) (ints_idf _)), trivial⟩, by decide, lt3⟩
  · have hnew := seen_not g2 g3
    have hil := (List.getElem?_eq_some_iff.1 g1).1
    have hsn := seen_snoc (d := d) g2
    obtain ⟨k1, k2⟩ := at_m g1
    have hd' : (d ++ [i]).Nodup ∧ ∀ j, j ∈ d ++ [i] → j < m.length := ⟨nodup_snoc hnd hnew, fun j hj => (List.mem_append.1 hj).elim (hlt j) (fun e => by simp at e; rw [e]; exact hil)⟩
    have hdl2 := nodup_le hd'.1 hd'.2
    rw [List.length_append, List.length_singleton] at hdl2
    have hy := hol_snoc (d := d) g1
    have hyl : (hol m (d ++ [i])).length = (hol m d).length + 1 := by rw [hy]; simp
    repeat' (first | (first | (refine aw_seq ?_) | (refine aw_block ?_) | (refine aw_skip ?_) | (refine aw_ret ?_) | (refine aw_exit ?_)) | (first | (refine aw_condt rfl ?_) | (refine aw_condf rfl ?_) | (refine aw_cond rfl (fun hb => ?_) (fun hb => ?_) <;> (first | subst hb | ((try simp only [nm] at hb); try ((exfalso; omega); done))))) | (((refine aw_region (id := 4) ?_)); (all_goals (refine vc_v (by exact fs_entry rfl rfl rfl rfl g2 k1 k2) rfl ?_)); (all_goals (refine vc_v (by exact fs_extract rfl rfl) rfl ?_)); (all_goals (refine va rfl rfl ?_))) | (((refine aw_region (id := 5) ?_)); (all_goals (refine vm rfl rfl ?_)); (all_goals (refine vm rfl rfl ?_)); (all_goals (refine vc_n (by exact fs_buildSlice T rfl rfl (by decide) (by decide) rfl rfl rfl) rfl ?_)); (all_goals (refine vc_append T rfl rfl rfl rfl rfl rfl (by simp) (Elems.whole rfl rfl) rfl (by simp; omega) (by simp; omega) rfl ?_)); (all_goals (refine va rfl rfl ?_))) | (refine vc_nilp (by (first | (dsimp only [List.nil_append, List.cons_append, List.append_nil, List.length_cons, List.length_nil, List.set_cons_zero, List.set_cons_succ, List.map_cons, List.map_nil, putAt, putd, allObjs, argEnv, un_v, un_ptr, un_ep, un_pr, un_sl, un_mp, un_row, un_agg, un_tup, un_clo, Nat.zero_add, Nat.add_zero, Nat.reduceAdd, Bool.not_true, Bool.not_false]; first | done | exact rfl) | exact rfl)) ?_))
    all_goals exact ⟨⟨d ++ [i], hd'⟩, by dsimp only; rw [List.length_append, List.length_singleton]; omega, [0, 1, 2, 5], rfl, ⟨rfl, rfl, by dsimp only; rw [hyl]; rfl, trivial⟩, ⟨.inr rfl, .inr (sub_mapB rfl (mvV_idf m)), .inr (sub_iter rfl hsn), .inr (sub_arr rfl ((app_one (by simp)).trans (by dsimp only; rw [hy]; exact ints_snoc _ _)) (ints_idf _)), trivial⟩, by decide, by decide⟩
end Go.Proofs.YtgnnbmgljadokaaDoor
