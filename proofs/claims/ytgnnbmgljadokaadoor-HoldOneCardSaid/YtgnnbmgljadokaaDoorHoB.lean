/-
  Layer 17: Bytes.
-/
import Derived.Test.YtgnnbmgljadokaaDoorHoA
import Derived.Test.YtgnnbmgljadokaaDoorHo9
namespace Go.Proofs.YtgnnbmgljadokaaDoor
open Go Go.Ab Go.Ho Go.MapKept
set_option linter.unusedVariables false
set_option linter.unusedSimpArgs false
attribute [local irreducible] VC AW FStep ACall
set_option maxHeartbeats 4000000
theorem mapLU : Tryd.prog.underlying 47 = some (.map 3 23) := by kernel_rfl
theorem zSl : ∀ w, (zeroValue 23).run Tryd.prog w = .ok (.slice none 0 0) w := zero_run (by kernel_rfl)
attribute [local irreducible] Program.underlying
theorem app_last {X : Hp} {b : AB} : (X ++ [b])[(X ++ []).length]? = some b := by simp
def ksG (L : List (Int × Nat × List Int)) : List Value := (L.map (·.1)).map kI
def vsG (L : List (Int × Nat × List Int)) : List AV := L.map fun e => .sl (e.2.1 + 3) 0 e.2.2.length 1
theorem ksG_good (L : List (Int × Nat × List Int)) : ∀ q, q ∈ ksG L → IsKey (.int .i64) q := by
  intro q hq
  obtain ⟨n, _, rfl⟩ := List.mem_map.1 hq
  rfl
theorem kI_nd {l : List Int} (h : l.Nodup) : (l.map kI).Nodup := h.map _ (fun a b hab e => hab (by simpa using e))
theorem ksG_mem {L : List (Int × Nat × List Int)} {o : Int} : kI o ∈ ksG L ↔ o ∈ L.map (·.1) := by
  unfold ksG
  rw [List.mem_map]
  constructor
  · rintro ⟨a, ha, e⟩; simp at e; subst e; exact ha
  · intro h; exact ⟨o, h, rfl⟩
theorem lt4k : ∀ i : Nat, i < 2 → ([0, 1, 2, 3, 4] : List Nat)[i]? = some i := by decide
theorem lt5k : ∀ i : Nat, i < 2 → ([0, 1, 2, 3, 5] : List Nat)[i]? = some i := by decide
theorem lt2k : ∀ i : Nat, i < 2 → ([0, 1, 2] : List Nat)[i]? = some i := by decide
theorem app_at {X Y : Hp} {q : Nat} {b : AB} (h : X[q]? = some b) : (X ++ Y)[q]? = some b := by
  rw [List.getElem?_append_left (List.getElem?_eq_some_iff.1 h).1]; exact h
theorem vsG_set {L : List (Int × Nat × List Int)} {j Q : Nat} {o n : Int} {s : List Int} : (vsG L).set j (.sl (Q + 3) 0 (s.length + 1) 1) = vsG (L.set j (o, Q, s ++ [n])) := by
  unfold vsG; rw [List.map_set]; simp
theorem ksG_set {L : List (Int × Nat × List Int)} {j Q q : Nat} {o : Int} {s s' : List Int} (h : L[j]? = some (o, q, s)) : ksG (L.set j (o, Q, s')) = ksG L := by
  unfold ksG
  congr 1
  have hjl := (List.getElem?_eq_some_iff.1 h).1
  rw [List.map_set]
  apply List.ext_getElem?
  intro i
  rw [List.getElem?_set]
  split
  · rename_i e; subst e; rw [List.getElem?_map, h]; simp [hjl]
  · rfl
theorem X_old {X : Hp} {q i : Nat} {a b : AB} (hi : i < X.length) (hq : i ≠ q) : (X.set q .gone ++ [a, b])[i]? = X[i]? := by
  rw [List.getElem?_append_left (by simpa using hi), List.getElem?_set_ne (Ne.symm hq)]
theorem X_new {X : Hp} {q : Nat} {a b c : AB} : (X.set q .gone ++ [a, b])[(X ++ [c]).length]? = some b := by
  rw [List.getElem?_append_right (by simp)]; simp
theorem X_at {X : Hp} {b : AB} : (X ++ [b])[X.length]? = some b := by simp
def rowsG (L : List (Int × Nat × List Int)) : List AV := L.map fun e => AV.rowE (ints e.2.2) 1
theorem rowsG_idf : ∀ L : List (Int × Nat × List Int), AV.idfL (rowsG L) = true
  | [] => rfl
  | e :: L => by
    have := rowsG_idf L
    unfold rowsG at *
    simp only [List.map_cons, AV.idfL, AV.idf, Bool.true_and]; exact this
theorem bytes_c {m : Tb} (h : Ok m) (hl : m.length ≤ 8192) : ACall Tryd.prog 9 [.ptr 0 0] (tb m) (.s (bytesB m)) (tb m) := by
  have hkl : (kk m).length = m.length := by simp [kk]
  have hsl := ksM_len m
  have hw : ∀ x, x ∈ kk m → I64 x := fun x hx => by
    have := h.slot (h.iff.1 hx); unfold I64; omega
  refine acall T Tryd.func9 rfl rfl rfl rfl ?_
  repeat' (first | (first | (refine aw_seq ?_) | (refine aw_block ?_) | (refine aw_skip ?_) | (refine aw_ret ?_) | (refine aw_exit ?_)) | (first | (refine aw_condt rfl ?_) | (refine aw_condf rfl ?_) | (refine aw_cond rfl (fun hb => ?_) (fun hb => ?_) <;> (first | subst hb | ((try simp only [decide_eq_true_eq, decide_eq_false_iff_not, Bool.not_true, Bool.not_false, Bool.not_eq_true', Bool.not_eq_false', Bool.and_eq_true, Bool.or_eq_true, Bool.and_eq_false_iff, Bool.or_eq_false_iff, Int.not_lt, Int.not_le] at hb); try ((exfalso; omega); done))))) | (((refine aw_region (id := 0) ?_)); (all_goals (refine vc_v (by exact fs_assign rfl) rfl ?_))) | (((refine aw_region (id := 1) ?_)); (all_goals (refine vc_n (by exact fs_mapNew) rfl ?_)); (all_goals (refine vc_v (by exact fs_assign rfl) rfl ?_))) | (((refine aw_region (id := 2) ?_)); (all_goals (refine vc_v (by exact fs_move rfl) rfl ?_)); (all_goals (refine vc_v (by exact fs_nilCheck rfl rfl) rfl ?_)); (all_goals (refine vc_v (by exact fs_fieldAddr T rfl rfl rfl) rfl ?_)); (all_goals (refine vc_v (by exact fs_load T rfl rfl rfl rfl) rfl ?_)); (all_goals first | (refine vc_callw [1] rfl rfl (keysA_c (mvV_idf m)) rfl rfl (by decide) ⟨.inr (sub_map rfl rfl rfl (mvV_idf m)), trivial⟩ (by simp) rfl ?_) | (refine vc_v (by first | fail) rfl ?_) | (refine vc_n (by first | fail) rfl ?_)); (all_goals first | (refine vc_callw [3, 1] rfl rfl (keysSortedA_c h.nd hw (by omega)) rfl rfl (by decide) ⟨.inr rfl, .inr (sub_map rfl rfl (mapL_idf _ _ (mvV_idf m)) (mvV_idf m)), trivial⟩ (by simp) rfl ?_) | (refine vc_v (by first | fail) rfl ?_) | (refine vc_n (by first | fail) rfl ?_)); (all_goals (refine vc_v (by first | exact fs_lenOwn T rfl rfl | exact fs_lenRow T rfl rfl | exact fs_lenNil T rfl rfl) rfl ?_)); (all_goals (refine vc_v (by exact fs_move rfl) rfl ?_))) | (refine vc_nilp (by (first | (dsimp only [List.nil_append, List.cons_append, List.append_nil, List.length_cons, List.length_nil, List.set_cons_zero, List.set_cons_succ, List.map_cons, List.map_nil, putAt, putd, allObjs, argEnv, un_v, un_ptr, un_ep, un_pr, un_sl, un_mp, un_row, un_agg, un_tup, un_clo, Nat.zero_add, Nat.add_zero, Nat.reduceAdd, Bool.not_true, Bool.not_false]; first | done | exact rfl) | exact rfl)) ?_))
  refine aw_frz (es := ints (ksM m)) 15 rfl (congrArg (fun x => some (AB.arr x 1)) (ints_map _ _)) (by rw [ints_length, hsl, hkl]) (ints_idfF _) ?_
  refine aw_keep [(0, .ptr 0 0), (3, .mp 2), (15, .rowE (ints (ksM m)) 1), (16, .i (kk m).length), (17, .i 0)] [.cells [.mp 1], .mapO (mkV m) (mvV m), .mapO [] []] ⟨[0, 1, 2], rfl, (by (repeat (first | exact trivial | refine ⟨rfl, ?_⟩))), ⟨.inr rfl, .inr (sub_map rfl rfl (mapL_idf _ _ (mvV_idf m)) (mvV_idf m)), .inr rfl, trivial⟩, by decide, lt2k⟩ ?_
  refine aw_loopE (X := {x : Nat × List (Int × Nat × List Int) × Hp // x.1 ≤ (kk m).length ∧ Grp m x.1 x.2.1 x.2.2}) (fun x => [(0, .ptr 0 0), (3, .mp 2), (15, .rowE (ints (ksM m)) 1), (16, .i (kk m).length), (17, .i x.1.1)]) (fun x => .cells [.mp 1] :: .mapO (mkV m) (mvV m) :: .mapO (ksG x.1.2.1) (vsG x.1.2.1) :: x.1.2.2) (fun x => (kk m).length - x.1.1) ⟨(0, [], []), Nat.zero_le _, Grp.nil m _⟩ (Ent.of rfl (by (repeat (first | exact trivial | refine ⟨rfl, ?_⟩)))) ?_
  rintro ⟨⟨d, L, X⟩, hd, g⟩
  dsimp only at hd g ⊢
  by_cases hlt : d < (ksM m).length
  · have hn : (ksM m)[d] ∈ kk m := mem_sorted.1 (List.getElem_mem hlt)
    obtain ⟨i, h1, h2, h3⟩ := mk_at h hn
    have hg := ints_get hlt
    have hgl := gr_len m (own m (ksM m)[d]) d
    by_cases ho : own m (ksM m)[d] ∈ L.map (·.1)
    · obtain ⟨⟨o, q, s⟩, he, hoe⟩ := List.mem_map.1 ho
      obtain ⟨j, hj⟩ := List.mem_iff_getElem?.1 he
      dsimp only at hoe
      have hob := g.obj _ he
      have hql := (List.getElem?_eq_some_iff.1 hob).1
      have hv := (g.val _ he).1
      dsimp only at hob hql hv
      have hsl2 := gr_len m o d
      rw [← hv] at hsl2
      have hk1 : (ksG L)[j]? = some (kI o) := by unfold ksG; rw [List.getElem?_map, List.getElem?_map, hj]; rfl
      have hk2 : (vsG L)[j]? = some (.sl (q + 3) 0 s.length 1) := by unfold vsG; rw [List.getElem?_map, hj]; rfl
      have hmore := fun (X' : Hp) (q' : Nat) => g.more (X' := X') (q' := q') hlt hj hoe.symm
      rw [← hoe] at h2
      generalize (ksM m)[d] = n at *
      repeat' (first | (first | (refine aw_seq ?_) | (refine aw_block ?_) | (refine aw_skip ?_) | (refine aw_ret ?_) | (refine aw_exit ?_)) | (first | (refine aw_condt rfl ?_) | (refine aw_condf rfl ?_) | (refine aw_cond rfl (fun hb => ?_) (fun hb => ?_) <;> (first | subst hb | ((try simp only [decide_eq_true_eq, decide_eq_false_iff_not, Bool.not_true, Bool.not_false, Bool.not_eq_true', Bool.not_eq_false', Bool.and_eq_true, Bool.or_eq_true, Bool.and_eq_false_iff, Bool.or_eq_false_iff, Int.not_lt, Int.not_le] at hb); try ((exfalso; omega); done))))) | (((refine aw_region (id := 3) ?_)); (all_goals (refine vc_v (by exact fs_lss rfl rfl) rfl ?_))) | (((refine aw_region (id := 4) ?_)); (all_goals (refine vc_v (by exact fs_indexRowE T rfl rfl rfl rfl rfl (by omega) (ints_len _) hg) rfl ?_)); (all_goals (refine vc_v (by exact fs_load T rfl rfl rfl rfl) rfl ?_)); (all_goals (refine vc_v (by exact fs_assign rfl) rfl ?_))) | (((refine aw_draw4k (id := 5) 62 [[], [], [1], [1, 2], [1, 2, 3], [], [1, 2, 3, 4, 5], [], [], [8], [8, 9], [8, 9, 10], [], [8, 9, 10, 11, 12], [7, 8, 9, 10, 11, 12, 13], [], [15], [7, 8, 9, 10, 11, 12, 13, 14, 15, 16]] [21, 22, 23, 24, 25, 26, 27, 28, 29, 30, 31, 32, 33, 34, 35, 36, 37, 38] [[], [21], [21], [21], [21], [21, 22, 23, 24, 25], [21], [21, 22, 23, 24, 25, 26, 27], [21, 22, 23, 24, 25, 26, 27, 28], [21, 22, 23, 24, 25, 26, 27, 28], [21, 22, 23, 24, 25, 26, 27, 28], [21, 22, 23, 24, 25, 26, 27, 28], [21, 22, 23, 24, 25, 26, 27, 28, 29, 30, 31, 32], [21, 22, 23, 24, 25, 26, 27, 28], [21, 22, 23, 24, 25, 26, 27], [21, 22, 23, 24, 25, 26, 27, 28, 29, 30, 31, 32, 33, 34, 35], [21, 22, 23, 24, 25, 26, 27, 28, 29, 30, 31, 32, 33, 34, 35], [21, 22, 23, 24, 25, 26, 27]] [(17, q + 3)] mixedP rfl (chkS_one (by decide +kernel) rfl) ?_)); (all_goals (refine dwa_v rfl rfl rfl rfl (by first | exact fs_move rfl) ?_)); (all_goals (refine dwa_v rfl rfl rfl rfl (by first | exact fs_move rfl) ?_)); (all_goals (refine dwa_v rfl rfl rfl rfl (by first | exact fs_nilCheck rfl rfl) ?_)); (all_goals (refine dwa_v rfl rfl rfl rfl (by first | exact fs_fieldAddr T rfl rfl rfl) ?_)); (all_goals (refine dwa_v rfl rfl rfl rfl (by first | exact fs_load T rfl rfl rfl rfl) ?_)); (all_goals (refine dwa_v rfl rfl rfl rfl (by first | exact fs_move rfl) ?_)); (all_goals (refine dwa_v rfl rfl rfl rfl (by first | exact fs_mapGet1 mapU intK rfl rfl (isv_i _) rfl (mk_good m) (good_i _) (mk_nd h) h1 h2 | exact fs_mapGet1 mapLU intK rfl rfl (isv_i _) rfl (ksG_good L) (good_i _) (kI_nd g.nd) hk1 hk2) ?_)); (all_goals (refine dwa_v rfl rfl rfl rfl (by first | exact fs_move rfl) ?_)); (all_goals (refine dwa_v rfl rfl rfl rfl (by first | exact fs_move rfl) ?_)); (all_goals (refine dwa_v rfl rfl rfl rfl (by first | exact fs_nilCheck rfl rfl) ?_)); (all_goals (refine dwa_v rfl rfl rfl rfl (by first | exact fs_fieldAddr T rfl rfl rfl) ?_)); (all_goals (refine dwa_v rfl rfl rfl rfl (by first | exact fs_load T rfl rfl rfl rfl) ?_)); (all_goals (refine dwa_v rfl rfl rfl rfl (by first | exact fs_move rfl) ?_)); (all_goals (refine dwa_v rfl rfl rfl rfl (by first | exact fs_mapGet1 mapU intK rfl rfl (isv_i _) rfl (mk_good m) (good_i _) (mk_nd h) h1 h2 | exact fs_mapGet1 mapLU intK rfl rfl (isv_i _) rfl (ksG_good L) (good_i _) (kI_nd g.nd) hk1 hk2) ?_)); (all_goals (refine dwa_v rfl rfl rfl rfl (by first | exact fs_mapGet1 mapU intK rfl rfl (isv_i _) rfl (mk_good m) (good_i _) (mk_nd h) h1 h2 | exact fs_mapGet1 mapLU intK rfl rfl (isv_i _) rfl (ksG_good L) (good_i _) (kI_nd g.nd) hk1 hk2) ?_)); (all_goals (refine dwa_v rfl rfl rfl rfl (by first | exact fs_move rfl) ?_)); (all_goals (refine dwa_n rfl rfl rfl rfl (by first | exact fs_buildSlice T rfl rfl (by decide) (by decide) rfl rfl rfl) rfl ?_)); (all_goals first | (refine dwa_a1 rfl rfl rfl rfl (Nat.add_lt_add_right hql 3) (as_append T rfl rfl rfl rfl rfl (by show (X ++ [_])[q]? = _; exact app_at hob) (by simp) (Elems.whole (by show (X ++ [_])[(X ++ []).length]? = _; exact app_last) rfl) rfl (by simp; omega) (by simp; omega)) ?_)); (all_goals (refine dwa_fin rfl rfl rfl (by first | (dsimp only [applyS, List.nil_append, List.cons_append, List.append_nil, List.length_cons, List.length_nil, List.set_cons_zero, List.set_cons_succ, List.map_cons, List.map_nil, putAt, putd, allObjs, argEnv, un_v, un_ptr, un_ep, un_pr, un_sl, un_mp, un_row, un_agg, un_tup, un_clo, Nat.zero_add, Nat.add_zero, Nat.reduceAdd, Bool.not_true, Bool.not_false]; exact rfl) | exact rfl) ?_)); (all_goals (refine vc_mapPut mapLU intK rfl rfl (isv_i _) rfl rfl (ksG_good L) (good_i _) (kI_nd g.nd) hk1 ?_))) | (((refine aw_region (id := 6) ?_)); (all_goals (refine vc_v (by first | exact fs_addr rfl rfl (by omega) (by omega) | exact fs_add rfl rfl) rfl ?_)); (all_goals (refine vc_v (by exact fs_move rfl) rfl ?_))) | (refine vc_nilp (by (first | (dsimp only [List.nil_append, List.cons_append, List.append_nil, List.length_cons, List.length_nil, List.set_cons_zero, List.set_cons_succ, List.map_cons, List.map_nil, putAt, putd, allObjs, argEnv, un_v, un_ptr, un_ep, un_pr, un_sl, un_mp, un_row, un_agg, un_tup, un_clo, Nat.zero_add, Nat.add_zero, Nat.reduceAdd, Bool.not_true, Bool.not_false]; first | done | exact rfl) | exact rfl)) ?_))
      all_goals first | (exfalso; omega) | (refine ⟨⟨(d + 1, L.set j (o, (X ++ [AB.arr [[AV.i n]] 1]).length, s ++ [n]), X.set q .gone ++ [.arr [[AV.i n]] 1, .arr (ints (s ++ [n])) 1]), by dsimp only; omega, hmore _ _ (fun i hi hq => X_old hi hq) (by simp) X_new⟩, by dsimp only; omega, Ent.of ?_ (by (repeat (first | exact trivial | refine ⟨rfl, ?_⟩)))⟩)
      all_goals
        show (AB.cells [AV.mp 1] :: AB.mapO (mkV m) (mvV m) :: AB.mapO (ksG L) ((vsG L).set j (.sl ((X ++ [AB.arr [[AV.i n]] 1]).length + 3) 0 (s.length + 1) 1)) :: (X.set q .gone ++ [AB.arr [[AV.i n]] 1, AB.arr (List.take s.length (List.drop 0 (ints s)) ++ [[AV.i n]]) 1])) = _
        dsimp only
        rw [vsG_set (o := o) (n := n), ksG_set hj, (app_one (by simp)).trans (ints_snoc s n)]
    · have hno : kI (own m (ksM m)[d]) ∉ ksG L := fun e => ho (ksG_mem.1 e)
      have hmore := fun (X' : Hp) (q' : Nat) => g.new (X' := X') (q' := q') hlt ho rfl
      generalize own m (ksM m)[d] = o at *
      generalize (ksM m)[d] = n at *
      refine aw_ent _ (AB.cells [AV.mp 1] :: AB.mapO (mkV m) (mvV m) :: AB.mapO (ksG L) (vsG L) :: (X ++ [.arr [] 1])) (ent_ghost 1 (by decide)) ?_
      have hXl : (X ++ [AB.arr [] 1])[X.length]? = some (.arr [] 1) := X_at
      have hXn : X.length < (X ++ [AB.arr [] 1]).length := by simp
      have hold : ∀ i, i < X.length → (X ++ [AB.arr [] 1])[i]? = X[i]? := fun i hi => List.getElem?_append_left hi
      have hle : X.length ≤ (X ++ [AB.arr [] 1]).length := by simp
      generalize X ++ [AB.arr [] 1] = Y at *
      generalize X.length = q at *
      repeat' (first | (first | (refine aw_seq ?_) | (refine aw_block ?_) | (refine aw_skip ?_) | (refine aw_ret ?_) | (refine aw_exit ?_)) | (first | (refine aw_condt rfl ?_) | (refine aw_condf rfl ?_) | (refine aw_cond rfl (fun hb => ?_) (fun hb => ?_) <;> (first | subst hb | ((try simp only [decide_eq_true_eq, decide_eq_false_iff_not, Bool.not_true, Bool.not_false, Bool.not_eq_true', Bool.not_eq_false', Bool.and_eq_true, Bool.or_eq_true, Bool.and_eq_false_iff, Bool.or_eq_false_iff, Int.not_lt, Int.not_le] at hb); try ((exfalso; omega); done))))) | (((refine aw_region (id := 3) ?_)); (all_goals (refine vc_v (by exact fs_lss rfl rfl) rfl ?_))) | (((refine aw_region (id := 4) ?_)); (all_goals (refine vc_v (by exact fs_indexRowE T rfl rfl rfl rfl rfl (by omega) (ints_len _) hg) rfl ?_)); (all_goals (refine vc_v (by exact fs_load T rfl rfl rfl rfl) rfl ?_)); (all_goals (refine vc_v (by exact fs_assign rfl) rfl ?_))) | (((refine aw_draw4k (id := 5) 62 [[], [], [1], [1, 2], [1, 2, 3], [], [1, 2, 3, 4, 5], [], [], [8], [8, 9], [8, 9, 10], [], [8, 9, 10, 11, 12], [7, 8, 9, 10, 11, 12, 13], [], [15], [7, 8, 9, 10, 11, 12, 13, 14, 15, 16]] [21, 22, 23, 24, 25, 26, 27, 28, 29, 30, 31, 32, 33, 34, 35, 36, 37, 38] [[], [21], [21], [21], [21], [21, 22, 23, 24, 25], [21], [21, 22, 23, 24, 25, 26, 27], [21, 22, 23, 24, 25, 26, 27, 28], [21, 22, 23, 24, 25, 26, 27, 28], [21, 22, 23, 24, 25, 26, 27, 28], [21, 22, 23, 24, 25, 26, 27, 28], [21, 22, 23, 24, 25, 26, 27, 28, 29, 30, 31, 32], [21, 22, 23, 24, 25, 26, 27, 28], [21, 22, 23, 24, 25, 26, 27], [21, 22, 23, 24, 25, 26, 27, 28, 29, 30, 31, 32, 33, 34, 35], [21, 22, 23, 24, 25, 26, 27, 28, 29, 30, 31, 32, 33, 34, 35], [21, 22, 23, 24, 25, 26, 27]] [(17, q + 3)] mixedP rfl (chkS_one (by decide +kernel) rfl) ?_)); (all_goals (refine dwa_v rfl rfl rfl rfl (by first | exact fs_move rfl) ?_)); (all_goals (refine dwa_v rfl rfl rfl rfl (by first | exact fs_move rfl) ?_)); (all_goals (refine dwa_v rfl rfl rfl rfl (by first | exact fs_nilCheck rfl rfl) ?_)); (all_goals (refine dwa_v rfl rfl rfl rfl (by first | exact fs_fieldAddr T rfl rfl rfl) ?_)); (all_goals (refine dwa_v rfl rfl rfl rfl (by first | exact fs_load T rfl rfl rfl rfl) ?_)); (all_goals (refine dwa_v rfl rfl rfl rfl (by first | exact fs_move rfl) ?_)); (all_goals (refine dwa_v rfl rfl rfl rfl (by first | exact fs_mapGet1 mapU intK rfl rfl (isv_i _) rfl (mk_good m) (good_i _) (mk_nd h) h1 h2 | exact fs_mapMiss1 mapLU intK zSl (fun _ _ _ => R_nilsl (q + 3) 1) rfl rfl (isv_i _) rfl (ksG_good L) (good_i _) hno) ?_)); (all_goals (refine dwa_v rfl rfl rfl rfl (by first | exact fs_move rfl) ?_)); (all_goals (refine dwa_v rfl rfl rfl rfl (by first | exact fs_move rfl) ?_)); (all_goals (refine dwa_v rfl rfl rfl rfl (by first | exact fs_nilCheck rfl rfl) ?_)); (all_goals (refine dwa_v rfl rfl rfl rfl (by first | exact fs_fieldAddr T rfl rfl rfl) ?_)); (all_goals (refine dwa_v rfl rfl rfl rfl (by first | exact fs_load T rfl rfl rfl rfl) ?_)); (all_goals (refine dwa_v rfl rfl rfl rfl (by first | exact fs_move rfl) ?_)); (all_goals (refine dwa_v rfl rfl rfl rfl (by first | exact fs_mapGet1 mapU intK rfl rfl (isv_i _) rfl (mk_good m) (good_i _) (mk_nd h) h1 h2 | exact fs_mapMiss1 mapLU intK zSl (fun _ _ _ => R_nilsl (q + 3) 1) rfl rfl (isv_i _) rfl (ksG_good L) (good_i _) hno) ?_)); (all_goals (refine dwa_v rfl rfl rfl rfl (by first | exact fs_mapGet1 mapU intK rfl rfl (isv_i _) rfl (mk_good m) (good_i _) (mk_nd h) h1 h2 | exact fs_mapMiss1 mapLU intK zSl (fun _ _ _ => R_nilsl (q + 3) 1) rfl rfl (isv_i _) rfl (ksG_good L) (good_i _) hno) ?_)); (all_goals (refine dwa_v rfl rfl rfl rfl (by first | exact fs_move rfl) ?_)); (all_goals (refine dwa_n rfl rfl rfl rfl (by first | exact fs_buildSlice T rfl rfl (by decide) (by decide) rfl rfl rfl) rfl ?_)); (all_goals first | (refine dwa_a1 rfl rfl rfl rfl (Nat.add_lt_add_right hXn 3) (as_append T rfl rfl rfl rfl rfl (by show (Y ++ [_])[q]? = _; exact app_at hXl) (by simp) (Elems.whole (by show (Y ++ [_])[(Y ++ []).length]? = _; exact app_last) rfl) rfl (by simp) (by simp)) ?_)); (all_goals (refine dwa_fin rfl rfl rfl (by first | (dsimp only [applyS, List.nil_append, List.cons_append, List.append_nil, List.length_cons, List.length_nil, List.set_cons_zero, List.set_cons_succ, List.map_cons, List.map_nil, putAt, putd, allObjs, argEnv, un_v, un_ptr, un_ep, un_pr, un_sl, un_mp, un_row, un_agg, un_tup, un_clo, Nat.zero_add, Nat.add_zero, Nat.reduceAdd, Bool.not_true, Bool.not_false]; exact rfl) | exact rfl) ?_)); (all_goals (refine vc_mapNew mapLU intK rfl rfl (isv_i _) rfl rfl (ksG_good L) (good_i _) hno ?_))) | (((refine aw_region (id := 6) ?_)); (all_goals (refine vc_v (by first | exact fs_addr rfl rfl (by omega) (by omega) | exact fs_add rfl rfl) rfl ?_)); (all_goals (refine vc_v (by exact fs_move rfl) rfl ?_))) | (refine vc_nilp (by (first | (dsimp only [List.nil_append, List.cons_append, List.append_nil, List.length_cons, List.length_nil, List.set_cons_zero, List.set_cons_succ, List.map_cons, List.map_nil, putAt, putd, allObjs, argEnv, un_v, un_ptr, un_ep, un_pr, un_sl, un_mp, un_row, un_agg, un_tup, un_clo, Nat.zero_add, Nat.add_zero, Nat.reduceAdd, Bool.not_true, Bool.not_false]; first | done | exact rfl) | exact rfl)) ?_))
      all_goals first | (exfalso; omega) | (refine ⟨⟨(d + 1, L ++ [(o, (Y ++ [AB.arr [[AV.i n]] 1]).length, [n])], Y.set q .gone ++ [.arr [[AV.i n]] 1, .arr (ints [n]) 1]), by dsimp only; omega, hmore _ _ (fun i hi => (X_old (by omega) (by omega)).trans (hold i hi)) (by simp; omega) X_new⟩, by dsimp only; omega, Ent.of ?_ (by (repeat (first | exact trivial | refine ⟨rfl, ?_⟩)))⟩)
      all_goals
        show (AB.cells [AV.mp 1] :: AB.mapO (mkV m) (mvV m) :: AB.mapO (ksG L ++ [kI o]) (vsG L ++ [.sl ((Y ++ [AB.arr [[AV.i n]] 1]).length + 3) 0 (0 + 1) 1]) :: (Y.set q .gone ++ [AB.arr [[AV.i n]] 1, AB.arr (List.take 0 (List.drop 0 []) ++ [[AV.i n]]) 1])) = _
        simp [ksG, vsG]
  · have hde : d = (ksM m).length := by omega
    subst hde
    have hows := g.ows h
    have hcount : (ksG L).length = (owsL m).length := by rw [← hows, sorted_len]; simp [ksG]
    have hcount2 : (L.map (·.1)).length = (owsL m).length := by rw [← hows, sorted_len]
    have hol := owsL_len m
    have hI : I64 ((owsL m).length : Int) := ⟨by omega, by omega⟩
    have hrng : ∀ x, x ∈ L.map (·.1) → 0 ≤ x ∧ x ≤ 9223372036854775807 := fun x hx => owsL_rng h (by rw [← hows]; exact mem_sorted.2 hx)
    have hrow : ∀ k (hk : k < (owsL m).length), ∃ j : Nat, (ksG L)[j]? = some (kI (owsL m)[k]) ∧ (rowsG L)[j]? = some (.rowE (ints (ofL m (owsL m)[k])) 1) := fun k hk => by
      have h1 : (owsL m)[k] ∈ L.map (·.1) := mem_sorted.1 (by rw [hows]; exact List.getElem_mem hk)
      generalize (owsL m)[k] = o at *
      obtain ⟨e, he, rfl⟩ := List.mem_map.1 h1
      obtain ⟨j, hj⟩ := List.mem_iff_getElem?.1 he
      refine ⟨j, by unfold ksG; rw [List.getElem?_map, List.getElem?_map, hj]; rfl, ?_⟩
      unfold rowsG
      rw [List.getElem?_map, hj]
      show some (AV.rowE (ints e.2.2) 1) = _
      rw [(g.val e he).1, gr_all h (hrng _ h1).1]
    obtain ⟨h', e1, e2, e3, e4⟩ := ent_frzVs (k := 2) (sz := 1) (ks := ksG L) (L.map fun e => (e.2.1 + 3, ints e.2.2)) [] (h := AB.cells [AV.mp 1] :: AB.mapO (mkV m) (mvV m) :: AB.mapO (ksG L) (vsG L) :: X) (by
        show some (AB.mapO (ksG L) (vsG L)) = _
        simp [vsG, Function.comp_def]) (fun e he => by
        obtain ⟨e', he', rfl⟩ := List.mem_map.1 he
        exact g.obj e' he') (by
        rw [List.map_map]
        have : ((L.map (·.2.1)).map (fun x : Nat => x + 3)).Nodup := g.ndq.map _ (fun a b hab e => hab (by simpa using e))
        simpa [List.map_map, Function.comp_def] using this) (fun e he => by
        obtain ⟨e', he', rfl⟩ := List.mem_map.1 he
        exact ints_idfF _)
    have hnot : ∀ j, j < 3 → j ∉ (L.map fun e => (e.2.1 + 3, ints e.2.2)).map (·.1) := fun j hj hm => by
      simp at hm
      obtain ⟨a, b, c, _, e⟩ := hm
      omega
    have e0 : h'[0]? = some (.cells [.mp 1]) := by rw [e2 0 (by decide) (hnot 0 (by decide))]; rfl
    have e5 : h'[1]? = some (.mapO (mkV m) (mvV m)) := by rw [e2 1 (by decide) (hnot 1 (by decide))]; rfl
    have e6 : h'[2]? = some (.mapO (ksG L) (rowsG L)) := by rw [e3]; simp [rowsG, Function.comp_def]
    refine aw_ent _ h' (e4 _ _) ?_
    refine aw_keep [(0, .ptr 0 0), (3, .mp 2), (16, .i (kk m).length), (17, .i (ksM m).length)] [.cells [.mp 1], .mapO (mkV m) (mvV m), .mapO (ksG L) (rowsG L)] ⟨[0, 1, 2], rfl, (by (repeat (first | exact trivial | refine ⟨rfl, ?_⟩))), ⟨.inr e0, .inr (sub_map e5 rfl rfl (mvV_idf m)), .inr (sub_map e6 rfl rfl (rowsG_idf L)), trivial⟩, by decide, lt2k⟩ ?_
    have hnl := intB_len hI
    have hnum : ACall Tryd.prog 25 [.i (ksG L).length] [] (.s (intB (owsL m).length)) [] := by rw [hcount]; exact wnum_c hI (by omega)
    have hsorted := keysSortedB_c (ks := L.map (·.1)) (vs := rowsG L) g.nd (fun x hx => by have := hrng x hx; unfold I64; omega) (by omega)
    rw [hows] at hsorted
    repeat' (first | (first | (refine aw_seq ?_) | (refine aw_block ?_) | (refine aw_skip ?_) | (refine aw_ret ?_) | (refine aw_exit ?_)) | (first | (refine aw_condt rfl ?_) | (refine aw_condf rfl ?_) | (refine aw_cond rfl (fun hb => ?_) (fun hb => ?_) <;> (first | subst hb | ((try simp only [decide_eq_true_eq, decide_eq_false_iff_not, Bool.not_true, Bool.not_false, Bool.not_eq_true', Bool.not_eq_false', Bool.and_eq_true, Bool.or_eq_true, Bool.and_eq_false_iff, Bool.or_eq_false_iff, Int.not_lt, Int.not_le] at hb); try ((exfalso; omega); done))))) | (((refine aw_region (id := 3) ?_)); (all_goals (refine vc_v (by exact fs_lss rfl rfl) rfl ?_))) | (((refine aw_region (id := 7) ?_)); (all_goals (refine vc_n (by first | exact fs_allocT T rfl rfl | exact fs_alloc T rfl) rfl ?_))) | (((refine aw_region (id := 8) ?_)); (all_goals (refine vc_v (by exact fs_move rfl) rfl ?_)); (all_goals (refine vc_v (by first | exact fs_lenOwn T rfl rfl | exact fs_lenRow T rfl rfl | exact fs_lenNil T rfl rfl | exact fs_lenMap mapLU rfl rfl) rfl ?_)); (all_goals (refine vc_v (by exact fs_call0 rfl rfl (hnum) rfl rfl rfl) rfl ?_)); (all_goals first | (refine vc_callw [3] rfl rfl (write0_c _ (by omega)) rfl rfl (by decide) ⟨.inr rfl, trivial⟩ (by simp) rfl ?_) | (refine vc_v (by first | fail) rfl ?_) | (refine vc_n (by first | fail) rfl ?_))) | (((refine aw_region (id := 9) ?_)); (all_goals (refine vc_v (by exact fs_move rfl) rfl ?_)); (all_goals first | (refine vc_callw [2] rfl rfl (keysB_c (rowsG_idf L)) rfl rfl (by decide) ⟨.inr (sub_map rfl rfl rfl (rowsG_idf L)), trivial⟩ (by simp) rfl ?_) | (refine vc_v (by first | fail) rfl ?_) | (refine vc_n (by first | fail) rfl ?_)); (all_goals first | (refine vc_callw [5, 2] rfl rfl hsorted rfl rfl (by decide) ⟨.inr rfl, .inr (sub_map rfl rfl (mapL_idf _ _ (rowsG_idf L)) (rowsG_idf L)), trivial⟩ (by simp) rfl ?_) | (refine vc_v (by first | fail) rfl ?_) | (refine vc_n (by first | fail) rfl ?_)); (all_goals (refine vc_v (by first | exact fs_lenOwn T rfl rfl | exact fs_lenRow T rfl rfl | exact fs_lenNil T rfl rfl | exact fs_lenMap mapLU rfl rfl) rfl ?_)); (all_goals (refine vc_v (by exact fs_move rfl) rfl ?_))) | (refine vc_nilp (by (first | (dsimp only [List.nil_append, List.cons_append, List.append_nil, List.length_cons, List.length_nil, List.set_cons_zero, List.set_cons_succ, List.map_cons, List.map_nil, putAt, putd, allObjs, argEnv, un_v, un_ptr, un_ep, un_pr, un_sl, un_mp, un_row, un_agg, un_tup, un_clo, Nat.zero_add, Nat.add_zero, Nat.reduceAdd, Bool.not_true, Bool.not_false]; first | done | exact rfl) | exact rfl)) ?_))
    all_goals first | (exfalso; omega) | skip
    have h00 : accO m 0 = intB (owsL m).length := by simp [accO]
    refine aw_frz (es := ints (owsL m)) 46 rfl (congrArg (fun x => some (AB.arr x 1)) (ints_map _ _)) (by rw [ints_length, hcount2]) (ints_idfF _) ?_
    refine aw_keep [(0, .ptr 0 0), (3, .mp 2), (6, .ptr 3 0), (46, .rowE (ints (owsL m)) 1), (47, .i (L.map (·.1)).length), (48, .i 0)] [.cells [.mp 1], .mapO (mkV m) (mvV m), .mapO (ksG L) (rowsG L), .cells [.ptr 3 0, .sl 4 0 (intB (owsL m).length).length 1], .buf 5 (intB (owsL m).length)] ⟨[0, 1, 2, 3, 4], rfl, (by (repeat (first | exact trivial | refine ⟨rfl, ?_⟩))), ⟨.inr rfl, .inr (sub_map rfl rfl rfl (mvV_idf m)), .inr (sub_map rfl rfl (mapL_idf _ _ (rowsG_idf L)) (rowsG_idf L)), .inr rfl, .inr rfl, trivial⟩, by decide, lt4k⟩ ?_
    refine aw_loop (X := {k : Nat // k ≤ (owsL m).length}) (fun k => [(0, .ptr 0 0), (3, .mp 2), (6, .ptr 3 0), (46, .rowE (ints (owsL m)) 1), (47, .i (L.map (·.1)).length), (48, .i k.1)]) (fun k => [.cells [.mp 1], .mapO (mkV m) (mvV m), .mapO (ksG L) (rowsG L), .cells [.ptr 3 0, .sl 4 0 (accO m k.1).length 1], .buf 5 (accO m k.1)]) (fun k => (owsL m).length - k.1) ⟨0, by omega⟩ ⟨[0, 1, 2, 3, 4], rfl, (by (repeat (first | exact trivial | refine ⟨rfl, ?_⟩))), ⟨.inr rfl, .inr (sub_map rfl rfl rfl (mvV_idf m)), .inr (sub_map rfl rfl rfl (rowsG_idf L)), .inr (by rw [h00]; rfl), .inr (by rw [h00]; rfl), trivial⟩, by decide, lt4k⟩ ?_
    rintro ⟨k, hk⟩
    dsimp only
    have hbk := accO_len h hl k
    by_cases hlt : k < (owsL m).length
    · obtain ⟨j, hj1, hj2⟩ := hrow k hlt
      have ho := owsL_rng h (List.getElem_mem hlt)
      have hel := entB_len h (List.getElem_mem hlt) hl
      have hbn := accO_len h hl (k + 1)
      have hnx := accO_next hlt
      have hg := ints_get hlt
      have hnl : (accO m (k + 1)).length = (accO m k).length + (entB m (owsL m)[k]).length := by rw [hnx, List.length_append]
      rw [hnx] at hbn
      have hofl := ofL_len (m := m) (o := (owsL m)[k])
      generalize (owsL m)[k] = o at *
      have hci := wint_c (n := o) ⟨by omega, ho.2⟩
      have hil := intB_len (n := o) ⟨by omega, ho.2⟩
      have hcn := nums_c (l := ofL m o) (fun x hx => ofL_I64 h hx) (by omega)
      have hent : entB m o = intB o ++ numsB (ofL m o) := rfl
      have hentl : (entB m o).length = (intB o).length + (numsB (ofL m o)).length := by rw [hent, List.length_append]
      repeat' (first | (first | (refine aw_seq ?_) | (refine aw_block ?_) | (refine aw_skip ?_) | (refine aw_ret ?_) | (refine aw_exit ?_)) | (first | (refine aw_condt rfl ?_) | (refine aw_condf rfl ?_) | (refine aw_cond rfl (fun hb => ?_) (fun hb => ?_) <;> (first | subst hb | ((try simp only [decide_eq_true_eq, decide_eq_false_iff_not, Bool.not_true, Bool.not_false, Bool.not_eq_true', Bool.not_eq_false', Bool.and_eq_true, Bool.or_eq_true, Bool.and_eq_false_iff, Bool.or_eq_false_iff, Int.not_lt, Int.not_le] at hb); try ((exfalso; omega); done))))) | (((refine aw_region (id := 10) ?_)); (all_goals (refine vc_v (by first | exact fs_addS rfl rfl (by omega) | exact fs_lss rfl rfl) rfl ?_))) | (((refine aw_region (id := 11) ?_)); (all_goals (refine vc_v (by exact fs_indexRowE T rfl rfl rfl rfl rfl (by omega) (ints_len _) hg) rfl ?_)); (all_goals (refine vc_v (by exact fs_load T rfl rfl rfl rfl) rfl ?_)); (all_goals (refine vc_v (by exact fs_assign rfl) rfl ?_))) | (((refine aw_drawT (id := 12) 7 62 [[], [0], [], [], [2, 3], [0, 1, 2, 3, 4], [0, 1, 2, 3, 4, 5], [0, 1, 2, 3, 4, 5, 6]] [[], [0], [], [], [2, 3], [0, 1, 2, 3, 4], [0, 1, 2, 3, 4, 5]] [52, 53, 54, 55, 56, 57, 58] [[], [], [52, 53], [52, 53, 54], [52, 53], [], []] mixedP rfl (by decide +kernel) (by decide +kernel) ?_)); (all_goals (dsimp only [List.take, List.drop])); (all_goals first | (refine dw_v rfl rfl rfl (by first | exact fs_move rfl) ?_)); (all_goals first | (refine dw_v rfl rfl rfl (by first | exact fs_call0 rfl rfl (hci) rfl rfl rfl) ?_) | (refine dw_n rfl rfl rfl (by first | exact fs_call0 rfl rfl (hci) rfl rfl rfl) rfl ?_)); (all_goals first | (refine dw_v rfl rfl rfl (by first | exact fs_move rfl) ?_)); (all_goals first | (refine dw_v rfl rfl rfl (by first | exact fs_move rfl) ?_)); (all_goals first | (refine dw_v rfl rfl rfl (by first | exact fs_mapGet1 mapLU intK rfl rfl (isv_i _) rfl (ksG_good L) (good_i _) (kI_nd g.nd) hj1 hj2) ?_)); (all_goals first | (refine dw_v rfl rfl rfl (by first | exact fs_call0 rfl rfl (hcn) rfl rfl rfl) ?_) | (refine dw_n rfl rfl rfl (by first | exact fs_call0 rfl rfl (hcn) rfl rfl rfl) rfl ?_)); (all_goals first | (refine dw_v rfl rfl rfl (by first | exact fs_addS rfl rfl (by omega) | exact fs_addr rfl rfl (by omega) (by omega) | exact fs_add rfl rfl) ?_)); (all_goals (refine dw_fin rfl rfl (by (first | (dsimp only [List.nil_append, List.cons_append, List.append_nil, List.length_cons, List.length_nil, List.set_cons_zero, List.set_cons_succ, List.map_cons, List.map_nil, putAt, putd, allObjs, argEnv, un_v, un_ptr, un_ep, un_pr, un_sl, un_mp, un_row, un_agg, un_tup, un_clo, Nat.zero_add, Nat.add_zero, Nat.reduceAdd, Bool.not_true, Bool.not_false]; first | done | exact rfl) | exact rfl)) ?_)); (all_goals (refine vc_nil ?_)); (all_goals first | (refine vc_callw [3, 4] rfl rfl (write_c (accO m k) (entB m o) (by omega)) rfl rfl (by decide) ⟨.inr rfl, .inr rfl, trivial⟩ (by simp) rfl ?_) | (refine vc_v (by first | fail) rfl ?_) | (refine vc_n (by first | fail) rfl ?_))) | (((refine aw_region (id := 13) ?_)); (all_goals (refine vc_v (by first | exact fs_addS rfl rfl (by omega) | exact fs_addr rfl rfl (by omega) (by omega) | exact fs_add rfl rfl) rfl ?_)); (all_goals (refine vc_v (by exact fs_move rfl) rfl ?_))) | (refine vc_nilp (by (first | (dsimp only [List.nil_append, List.cons_append, List.append_nil, List.length_cons, List.length_nil, List.set_cons_zero, List.set_cons_succ, List.map_cons, List.map_nil, putAt, putd, allObjs, argEnv, un_v, un_ptr, un_ep, un_pr, un_sl, un_mp, un_row, un_agg, un_tup, un_clo, Nat.zero_add, Nat.add_zero, Nat.reduceAdd, Bool.not_true, Bool.not_false]; first | done | exact rfl) | exact rfl)) ?_))
      all_goals first | (exfalso; omega) | exact ⟨⟨k + 1, hlt⟩, by dsimp only; omega, [0, 1, 2, 3, 5], rfl, (by (repeat (first | exact trivial | refine ⟨rfl, ?_⟩))), ⟨.inr rfl, .inr (sub_map rfl rfl rfl (mvV_idf m)), .inr (sub_map rfl rfl rfl (rowsG_idf L)), .inr (by dsimp only; rw [hnl]; rfl), .inr (by dsimp only; rw [hnx]; rfl), trivial⟩, by decide, lt5k⟩
    · have hkl : k = (owsL m).length := by omega
      subst hkl
      repeat' (first | (first | (refine aw_seq ?_) | (refine aw_block ?_) | (refine aw_skip ?_) | (refine aw_ret ?_) | (refine aw_exit ?_)) | (first | (refine aw_condt rfl ?_) | (refine aw_condf rfl ?_) | (refine aw_cond rfl (fun hb => ?_) (fun hb => ?_) <;> (first | subst hb | ((try simp only [decide_eq_true_eq, decide_eq_false_iff_not, Bool.not_true, Bool.not_false, Bool.not_eq_true', Bool.not_eq_false', Bool.and_eq_true, Bool.or_eq_true, Bool.and_eq_false_iff, Bool.or_eq_false_iff, Int.not_lt, Int.not_le] at hb); try ((exfalso; omega); done))))) | (((refine aw_region (id := 10) ?_)); (all_goals (refine vc_v (by exact fs_lss rfl rfl) rfl ?_))) | (((refine aw_region (id := 14) ?_)); (all_goals first | (refine vc_callw [3, 4] rfl rfl (string_c (accO m (owsL m).length) (accO_ne _ _) (by omega)) rfl rfl (by decide) ⟨.inr rfl, .inr rfl, trivial⟩ (by simp) rfl ?_) | (refine vc_v (by first | fail) rfl ?_) | (refine vc_n (by first | fail) rfl ?_)); (all_goals (refine vc_v (by exact fs_assign rfl) rfl ?_))) | (refine vc_nilp (by (first | (dsimp only [List.nil_append, List.cons_append, List.append_nil, List.length_cons, List.length_nil, List.set_cons_zero, List.set_cons_succ, List.map_cons, List.map_nil, putAt, putd, allObjs, argEnv, un_v, un_ptr, un_ep, un_pr, un_sl, un_mp, un_row, un_agg, un_tup, un_clo, Nat.zero_add, Nat.add_zero, Nat.reduceAdd, Bool.not_true, Bool.not_false]; first | done | exact rfl) | exact rfl)) ?_))
      all_goals first | (exfalso; omega) | exact ⟨.inl rfl, [0, 1], _, rfl, rfl, rfl, ⟨.inr rfl, .inr (sub_map rfl rfl rfl (mvV_idf m)), trivial⟩, by decide, lt2⟩
end Go.Proofs.YtgnnbmgljadokaaDoor
