/-
  Layer 17: tables after operations; the documentation's examples.
-/
import Derived.Test.YtgnnbmgljadokaaGreatDoorHoC
namespace Go.Proofs.YtgnnbmgljadokaaGreatDoor
open Go Go.Ab Go.Ho Go.MapKept
set_option linter.unusedVariables false
set_option linter.unusedSimpArgs false
attribute [local irreducible] VC AW FStep ACall
set_option maxHeartbeats 4000000
def OkOp (x : OP) : Prop := I64 x.2.1 ∧ I64 x.2.2.1 ∧ x.2.2.2.length ≤ 20
theorem putL_lenk (m : Tb) (l : List Int) (o : Int) : ∀ k, (putL m l o k).length ≤ m.length + k
  | 0 => by simp [putL]
  | k + 1 => by
    by_cases hk : k < l.length
    · rw [putL_next hk]
      have := putL_lenk m l o k
      unfold put
      split <;> simp <;> omega
    · have e : putL m l o (k + 1) = putL m l o k := by unfold putL; rw [List.take_of_length_le (by omega), List.take_of_length_le (by omega)]
      have := putL_lenk m l o k
      rw [e]; omega
theorem del_len (m : Tb) (n : Int) : (del m n).length ≤ m.length := List.length_filter_le _ _
theorem delF_len : ∀ (l : List Int) (m : Tb), (l.foldl del m).length ≤ m.length
  | [], m => Nat.le_refl _
  | n :: l, m => Nat.le_trans (delF_len l (del m n)) (del_len m n)
theorem ask_0 {m : Tb} {o : Int} {l : List Int} : askE m o l = 0 ↔ 0 ≤ o ∧ (∀ n, n ∈ l → 0 ≤ n ∧ n < 8192) ∧ ∀ n, n ∈ l → own m n < 0 ∨ own m n = o := by
  have := chkP_0 (m := m) (o := o) (l := l) (p := fun x => decide (x < 0) || decide (x = o)) (wrong := 15) (by decide)
  simpa [askE] using this
theorem free_0 {m : Tb} {o : Int} {l : List Int} : freeE m o l = 0 ↔ 0 ≤ o ∧ (∀ n, n ∈ l → 0 ≤ n ∧ n < 8192) ∧ ∀ n, n ∈ l → own m n = o := by
  have := chkP_0 (m := m) (o := o) (l := l) (p := fun x => decide (x = o)) (wrong := 4) (by decide)
  simpa [freeE] using this
theorem give_0 {m : Tb} {a b : Int} {l : List Int} : giveE m a b l = 0 ↔ 0 ≤ min a b ∧ (∀ n, n ∈ l → 0 ≤ n ∧ n < 8192) ∧ ∀ n, n ∈ l → own m n = a := by
  have := chkP_0 (m := m) (o := min a b) (l := l) (p := fun x => decide (x = a)) (wrong := 4) (by decide)
  simpa [giveE] using this
theorem Ok.askT {m : Tb} (h : Ok m) {o : Int} {l : List Int} (ho : o ≤ 9223372036854775807) : Ok (askT m o l) := by
  unfold Go.Proofs.YtgnnbmgljadokaaGreatDoor.askT
  split
  · rename_i e
    obtain ⟨h1, h2, _⟩ := ask_0.1 e
    exact Ok.putL h h2 ⟨h1, ho⟩ _
  · exact h
theorem Ok.giveT {m : Tb} (h : Ok m) {a b : Int} {l : List Int} (ho : b ≤ 9223372036854775807) : Ok (giveT m a b l) := by
  unfold Go.Proofs.YtgnnbmgljadokaaGreatDoor.giveT
  split
  · rename_i e
    obtain ⟨h1, h2, _⟩ := give_0.1 e
    exact Ok.putL h h2 ⟨by omega, ho⟩ _
  · exact h
theorem Ok.freeT {m : Tb} (h : Ok m) {o : Int} {l : List Int} : Ok (freeT m o l) := by
  unfold Go.Proofs.YtgnnbmgljadokaaGreatDoor.freeT
  split
  · exact Ok.delL h _
  · exact h
theorem Ok.doT {m : Tb} (h : Ok m) {x : OP} (hx : OkOp x) : Ok (doT m x) := by
  unfold Go.Proofs.YtgnnbmgljadokaaGreatDoor.doT
  have h1 := hx.1.2
  have h2 := hx.2.1.2
  split
  · exact Ok.freeT h
  · split
    · exact Ok.giveT h h2
    · split
      · exact Ok.delL h _
      · split
        · exact h
        · exact Ok.askT h h1
theorem doT_len {m : Tb} {x : OP} (hx : OkOp x) : (doT m x).length ≤ m.length + 20 := by
  have h3 := hx.2.2
  have h4 : ∀ o, (putL m x.2.2.2 o x.2.2.2.length).length ≤ m.length + 20 := fun o => by have := putL_lenk m x.2.2.2 o x.2.2.2.length; omega
  have h5 : ∀ l k, (delL m l k).length ≤ m.length + 20 := fun l k => by have := delF_len (l.take k) m; unfold delL; omega
  unfold doT freeT giveT askT dropT
  split
  · split
    · exact h5 _ _
    · omega
  · split
    · split
      · exact h4 _
      · omega
    · split
      · exact h5 _ _
      · split
        · omega
        · split
          · exact h4 _
          · omega
def mkT (l : List OP) : Tb := l.foldl doT []
theorem mkT_ok : ∀ {l : List OP}, (∀ x, x ∈ l → OkOp x) → Ok (mkT l) ∧ (mkT l).length ≤ 20 * l.length := by
  have key : ∀ (l : List OP) (m : Tb), Ok m → (∀ x, x ∈ l → OkOp x) → Ok (l.foldl doT m) ∧ (l.foldl doT m).length ≤ m.length + 20 * l.length := by
    intro l
    induction l with
    | nil => intro m h _; exact ⟨h, by simp⟩
    | cons x l ih =>
      intro m h hx
      have h1 := hx x List.mem_cons_self
      obtain ⟨h2, h3⟩ := ih (doT m x) (Ok.doT h h1) fun y hy => hx y (List.mem_cons_of_mem _ hy)
      have h4 := doT_len (m := m) h1
      exact ⟨h2, by simp only [List.foldl_cons, List.length_cons]; omega⟩
  intro l hl
  have := key l [] Ok.nil hl
  simpa [mkT] using this
theorem mkT_next {l : List OP} {k : Nat} (hk : k < l.length) : mkT (l.take (k + 1)) = doT (mkT (l.take k)) l[k] := by
  unfold mkT
  rw [List.take_succ_eq_append_getElem hk, List.foldl_append]; rfl
theorem ptrU : Tryz.prog.underlying 25 = some (.pointer 59) := by kernel_rfl
theorem doT_5 {m : Tb} {x : OP} (h : doQ x = 5) : doT m x = m := by
  unfold doT; simp [h]
theorem made_c {l : List OP} (hl : l.length ≤ 1000000) (hx : ∀ x, x ∈ l → OkOp x) : ACall Tryz.prog 7 [.rowE (opsA l) 4] [] (.ptr 0 0) (tb (mkT l)) := by
  have hal := opsA_length l
  have h0 : tb (mkT (l.take 0)) = tb [] := rfl
  refine acall T Tryz.func7 rfl rfl rfl rfl ?_
  repeat' (first | (first | (refine aw_seq ?_) | (refine aw_block ?_) | (refine aw_skip ?_) | (refine aw_ret ?_) | (refine aw_exit ?_)) | (first | (refine aw_condt rfl ?_) | (refine aw_condf rfl ?_) | (refine aw_cond rfl (fun hb => ?_) (fun hb => ?_) <;> (first | subst hb | ((try simp only [decide_eq_true_eq, decide_eq_false_iff_not, Bool.not_true, Bool.not_false, Bool.not_eq_true', Bool.not_eq_false', Bool.and_eq_true, Bool.or_eq_true, Bool.and_eq_false_iff, Bool.or_eq_false_iff, Int.not_lt, Int.not_le] at hb); try ((exfalso; omega); done))))) | (((refine aw_region (id := 0) ?_)); (all_goals (refine vc_v (by exact fs_assign rfl) rfl ?_))) | (((refine aw_region (id := 1) ?_)); (all_goals first | (refine vc_callw [] rfl rfl new_c rfl rfl (by decide) trivial (by simp) rfl ?_) | (refine vc_v (by first | fail) rfl ?_) | (refine vc_n (by first | fail) rfl ?_)); (all_goals (refine vc_v (by exact fs_assign rfl) rfl ?_))) | (((refine aw_region (id := 2) ?_)); (all_goals (refine vc_v (by exact fs_assign rfl) rfl ?_))) | (refine vc_nilp (by (first | (dsimp only [List.nil_append, List.cons_append, List.append_nil, List.length_cons, List.length_nil, List.set_cons_zero, List.set_cons_succ, List.map_cons, List.map_nil, putAt, putd, allObjs, argEnv, un_v, un_ptr, un_ep, un_pr, un_sl, un_mp, un_row, un_agg, un_tup, un_clo, Nat.zero_add, Nat.add_zero, Nat.reduceAdd, Bool.not_true, Bool.not_false]; first | done | exact rfl) | exact rfl)) ?_))
  refine aw_loop (X := {k : Nat // k ≤ l.length}) (fun k => [(0, .rowE (opsA l) 4), (3, .ptr 0 0), (4, .i k.1)]) (fun k => tb (mkT (l.take k.1))) (fun k => l.length - k.1) ⟨0, by omega⟩ ⟨[0, 1], rfl, (by (repeat (first | exact trivial | refine ⟨rfl, ?_⟩))), ⟨.inr rfl, .inr rfl, trivial⟩, by decide, fun i hi => absurd hi (Nat.not_lt_zero _)⟩ ?_
  rintro ⟨k, hk⟩
  dsimp only
  have hok := (mkT_ok (l := l.take k) fun x h => hx x (List.mem_of_mem_take h)).1
  by_cases hlt : k < l.length
  · have q1 := opsA_get hlt
    have hxo := hx _ (List.getElem_mem hlt)
    have hnx := mkT_next hlt
    generalize mkT (l.take k) = m at *
    generalize l[k] = x at *
    by_cases hq : doQ x = 5
    · have hd := doCopy_c hok hq
      rw [doT_5 hq] at hnx
      repeat' (first | (first | (refine aw_seq ?_) | (refine aw_block ?_) | (refine aw_skip ?_) | (refine aw_ret ?_) | (refine aw_exit ?_)) | (first | (refine aw_condt rfl ?_) | (refine aw_condf rfl ?_) | (refine aw_cond rfl (fun hb => ?_) (fun hb => ?_) <;> (first | subst hb | ((try simp only [decide_eq_true_eq, decide_eq_false_iff_not, Bool.not_true, Bool.not_false, Bool.not_eq_true', Bool.not_eq_false', Bool.and_eq_true, Bool.or_eq_true, Bool.and_eq_false_iff, Bool.or_eq_false_iff, Int.not_lt, Int.not_le] at hb); try ((exfalso; omega); done))))) | (((refine aw_region (id := 3) ?_)); (all_goals (refine vc_v (by exact fs_move rfl) rfl ?_)); (all_goals (refine vc_v (by exact fs_move rfl) rfl ?_)); (all_goals (refine vc_v (by first | exact fs_lenOwn T rfl rfl | exact fs_lenRow T rfl rfl | exact fs_lenNil T rfl rfl) rfl ?_)); (all_goals (refine vc_v (by exact fs_lss rfl rfl) rfl ?_)); (all_goals (refine vc_v (by exact fs_move rfl) rfl ?_)); (all_goals first | (refine vc_gt rfl rfl ?_ rfl; (refine vc_v (by exact fs_move rfl) rfl ?_)) | (refine vc_gf rfl rfl ?_ rfl) | (refine vc_gu rfl rfl ?_ rfl) | (refine vc_split rfl rfl (fun hb => ?_) (fun hb => ?_) <;> (first | subst hb | (rw [hb]; (try simp only [decide_eq_true_eq, decide_eq_false_iff_not, Bool.not_true, Bool.not_false, Bool.not_eq_true', Bool.not_eq_false', Bool.and_eq_true, Bool.or_eq_true, Bool.and_eq_false_iff, Bool.or_eq_false_iff, Int.not_lt, Int.not_le] at hb); try ((exfalso; omega); done))) <;> first | (refine vc_gt rfl rfl ?_ rfl; (refine vc_v (by exact fs_move rfl) rfl ?_)) | (refine vc_gf rfl rfl ?_ rfl) | (refine vc_gu rfl rfl ?_ rfl))); (all_goals first | (refine vc_gt rfl rfl ?_ rfl; (refine vc_v (by first | exact fs_neq rfl rfl | exact fs_ptrNeqNilT ptrU rfl rfl rfl) rfl ?_)) | (refine vc_gf rfl rfl ?_ rfl) | (refine vc_gu rfl rfl ?_ rfl)); (all_goals (refine vc_v (by first | exact fs_pickt rfl rfl | exact fs_pickf rfl rfl | exact fs_pick rfl rfl rfl) rfl ?_))) | (((refine aw_region (id := 5) ?_)); (all_goals (refine vc_v (by exact fs_move rfl) rfl ?_)); (all_goals (refine vc_v (by exact fs_move rfl) rfl ?_)); (all_goals (refine vc_v (by exact fs_move rfl) rfl ?_)); (all_goals (refine vc_v (by exact fs_indexRowE T rfl rfl rfl rfl rfl (by omega) (opsA_len l) q1) rfl ?_)); (all_goals (refine vc_v (by exact fs_load T rfl rfl rfl rfl) rfl ?_)); (all_goals first | (refine vc_callw [0, 1] rfl rfl hd rfl rfl (by decide) ⟨.inr rfl, .inr (sub_map rfl rfl rfl (mvV_idf _)), trivial⟩ (by simp) rfl ?_) | (refine vc_v (by first | fail) rfl ?_) | (refine vc_n (by first | fail) rfl ?_)); (all_goals (refine vc_v (by exact fs_move rfl) rfl ?_)); (all_goals (refine vc_v (by exact fs_extract rfl rfl) rfl ?_)); (all_goals (refine vc_v (by exact fs_extract rfl rfl) rfl ?_)); (all_goals (refine vc_v (by exact fs_extract rfl rfl) rfl ?_)); (all_goals (refine vc_v (by exact fs_assign rfl) rfl ?_))) | (((refine aw_region (id := 4) ?_)); (all_goals (refine vc_v (by exact fs_move rfl) rfl ?_)); (all_goals (refine vc_v (by first | exact fs_addr rfl rfl (by omega) (by omega) | exact fs_add rfl rfl) rfl ?_)); (all_goals (refine vc_v (by exact fs_assign rfl) rfl ?_))) | (refine vc_nilp (by (first | (dsimp only [List.nil_append, List.cons_append, List.append_nil, List.length_cons, List.length_nil, List.set_cons_zero, List.set_cons_succ, List.map_cons, List.map_nil, putAt, putd, allObjs, argEnv, un_v, un_ptr, un_ep, un_pr, un_sl, un_mp, un_row, un_agg, un_tup, un_clo, Nat.zero_add, Nat.add_zero, Nat.reduceAdd, Bool.not_true, Bool.not_false]; first | done | exact rfl) | exact rfl)) ?_))
      all_goals first | (exfalso; omega) | exact ⟨⟨k + 1, hlt⟩, by dsimp only; omega, [2, 3], rfl, (by (repeat (first | exact trivial | refine ⟨rfl, ?_⟩))), ⟨.inr rfl, .inr (sub_map rfl (by rw [hnx]) ((mapL_idf _ _ (mvV_idf _)).trans (by rw [hnx])) (mvV_idf _)), trivial⟩, by decide, fun i hi => absurd hi (Nat.not_lt_zero _)⟩
    · have hd := do_c hok (x := x) ⟨hxo.1.2, hxo.2.1.2, by have := hxo.2.2; omega⟩ hq
      repeat' (first | (first | (refine aw_seq ?_) | (refine aw_block ?_) | (refine aw_skip ?_) | (refine aw_ret ?_) | (refine aw_exit ?_)) | (first | (refine aw_condt rfl ?_) | (refine aw_condf rfl ?_) | (refine aw_cond rfl (fun hb => ?_) (fun hb => ?_) <;> (first | subst hb | ((try simp only [decide_eq_true_eq, decide_eq_false_iff_not, Bool.not_true, Bool.not_false, Bool.not_eq_true', Bool.not_eq_false', Bool.and_eq_true, Bool.or_eq_true, Bool.and_eq_false_iff, Bool.or_eq_false_iff, Int.not_lt, Int.not_le] at hb); try ((exfalso; omega); done))))) | (((refine aw_region (id := 3) ?_)); (all_goals (refine vc_v (by exact fs_move rfl) rfl ?_)); (all_goals (refine vc_v (by exact fs_move rfl) rfl ?_)); (all_goals (refine vc_v (by first | exact fs_lenOwn T rfl rfl | exact fs_lenRow T rfl rfl | exact fs_lenNil T rfl rfl) rfl ?_)); (all_goals (refine vc_v (by exact fs_lss rfl rfl) rfl ?_)); (all_goals (refine vc_v (by exact fs_move rfl) rfl ?_)); (all_goals first | (refine vc_gt rfl rfl ?_ rfl; (refine vc_v (by exact fs_move rfl) rfl ?_)) | (refine vc_gf rfl rfl ?_ rfl) | (refine vc_gu rfl rfl ?_ rfl) | (refine vc_split rfl rfl (fun hb => ?_) (fun hb => ?_) <;> (first | subst hb | (rw [hb]; (try simp only [decide_eq_true_eq, decide_eq_false_iff_not, Bool.not_true, Bool.not_false, Bool.not_eq_true', Bool.not_eq_false', Bool.and_eq_true, Bool.or_eq_true, Bool.and_eq_false_iff, Bool.or_eq_false_iff, Int.not_lt, Int.not_le] at hb); try ((exfalso; omega); done))) <;> first | (refine vc_gt rfl rfl ?_ rfl; (refine vc_v (by exact fs_move rfl) rfl ?_)) | (refine vc_gf rfl rfl ?_ rfl) | (refine vc_gu rfl rfl ?_ rfl))); (all_goals first | (refine vc_gt rfl rfl ?_ rfl; (refine vc_v (by first | exact fs_neq rfl rfl | exact fs_ptrNeqNilT ptrU rfl rfl rfl) rfl ?_)) | (refine vc_gf rfl rfl ?_ rfl) | (refine vc_gu rfl rfl ?_ rfl)); (all_goals (refine vc_v (by first | exact fs_pickt rfl rfl | exact fs_pickf rfl rfl | exact fs_pick rfl rfl rfl) rfl ?_))) | (((refine aw_region (id := 5) ?_)); (all_goals (refine vc_v (by exact fs_move rfl) rfl ?_)); (all_goals (refine vc_v (by exact fs_move rfl) rfl ?_)); (all_goals (refine vc_v (by exact fs_move rfl) rfl ?_)); (all_goals (refine vc_v (by exact fs_indexRowE T rfl rfl rfl rfl rfl (by omega) (opsA_len l) q1) rfl ?_)); (all_goals (refine vc_v (by exact fs_load T rfl rfl rfl rfl) rfl ?_)); (all_goals first | (refine vc_callw [0, 1] rfl rfl hd rfl rfl (by decide) ⟨.inr rfl, .inr (sub_map rfl rfl rfl (mvV_idf _)), trivial⟩ (by simp) rfl ?_) | (refine vc_v (by first | fail) rfl ?_) | (refine vc_n (by first | fail) rfl ?_)); (all_goals (refine vc_v (by exact fs_move rfl) rfl ?_)); (all_goals (refine vc_v (by exact fs_extract rfl rfl) rfl ?_)); (all_goals (refine vc_v (by exact fs_extract rfl rfl) rfl ?_)); (all_goals (refine vc_v (by exact fs_extract rfl rfl) rfl ?_)); (all_goals (refine vc_v (by exact fs_assign rfl) rfl ?_))) | (((refine aw_region (id := 4) ?_)); (all_goals (refine vc_v (by exact fs_move rfl) rfl ?_)); (all_goals (refine vc_v (by first | exact fs_addr rfl rfl (by omega) (by omega) | exact fs_add rfl rfl) rfl ?_)); (all_goals (refine vc_v (by exact fs_assign rfl) rfl ?_))) | (refine vc_nilp (by (first | (dsimp only [List.nil_append, List.cons_append, List.append_nil, List.length_cons, List.length_nil, List.set_cons_zero, List.set_cons_succ, List.map_cons, List.map_nil, putAt, putd, allObjs, argEnv, un_v, un_ptr, un_ep, un_pr, un_sl, un_mp, un_row, un_agg, un_tup, un_clo, Nat.zero_add, Nat.add_zero, Nat.reduceAdd, Bool.not_true, Bool.not_false]; first | done | exact rfl) | exact rfl)) ?_))
      all_goals first | (exfalso; omega) | exact ⟨⟨k + 1, hlt⟩, by dsimp only; omega, [0, 1], rfl, (by (repeat (first | exact trivial | refine ⟨rfl, ?_⟩))), ⟨.inr rfl, .inr (sub_map rfl (by rw [hnx]) ((mapL_idf _ _ (mvV_idf _)).trans (by rw [hnx])) (mvV_idf _)), trivial⟩, by decide, fun i hi => absurd hi (Nat.not_lt_zero _)⟩
  · have hkl : k = l.length := by omega
    subst hkl
    rw [List.take_length]
    repeat' (first | (first | (refine aw_seq ?_) | (refine aw_block ?_) | (refine aw_skip ?_) | (refine aw_ret ?_) | (refine aw_exit ?_)) | (first | (refine aw_condt rfl ?_) | (refine aw_condf rfl ?_) | (refine aw_cond rfl (fun hb => ?_) (fun hb => ?_) <;> (first | subst hb | ((try simp only [decide_eq_true_eq, decide_eq_false_iff_not, Bool.not_true, Bool.not_false, Bool.not_eq_true', Bool.not_eq_false', Bool.and_eq_true, Bool.or_eq_true, Bool.and_eq_false_iff, Bool.or_eq_false_iff, Int.not_lt, Int.not_le] at hb); try ((exfalso; omega); done))))) | (((refine aw_region (id := 3) ?_)); (all_goals (refine vc_v (by exact fs_move rfl) rfl ?_)); (all_goals (refine vc_v (by exact fs_move rfl) rfl ?_)); (all_goals (refine vc_v (by first | exact fs_lenOwn T rfl rfl | exact fs_lenRow T rfl rfl | exact fs_lenNil T rfl rfl) rfl ?_)); (all_goals (refine vc_v (by exact fs_lss rfl rfl) rfl ?_)); (all_goals (refine vc_v (by exact fs_move rfl) rfl ?_)); (all_goals first | (refine vc_gt rfl rfl ?_ rfl; (refine vc_v (by exact fs_move rfl) rfl ?_)) | (refine vc_gf rfl rfl ?_ rfl) | (refine vc_gu rfl rfl ?_ rfl) | (refine vc_split rfl rfl (fun hb => ?_) (fun hb => ?_) <;> (first | subst hb | (rw [hb]; (try simp only [decide_eq_true_eq, decide_eq_false_iff_not, Bool.not_true, Bool.not_false, Bool.not_eq_true', Bool.not_eq_false', Bool.and_eq_true, Bool.or_eq_true, Bool.and_eq_false_iff, Bool.or_eq_false_iff, Int.not_lt, Int.not_le] at hb); try ((exfalso; omega); done))) <;> first | (refine vc_gt rfl rfl ?_ rfl; (refine vc_v (by exact fs_move rfl) rfl ?_)) | (refine vc_gf rfl rfl ?_ rfl) | (refine vc_gu rfl rfl ?_ rfl))); (all_goals first | (refine vc_gt rfl rfl ?_ rfl; (refine vc_v (by first | exact fs_neq rfl rfl | exact fs_ptrNeqNilT ptrU rfl rfl rfl) rfl ?_)) | (refine vc_gf rfl rfl ?_ rfl) | (refine vc_gu rfl rfl ?_ rfl)); (all_goals (refine vc_v (by first | exact fs_pickt rfl rfl | exact fs_pickf rfl rfl | exact fs_pick rfl rfl rfl) rfl ?_))) | (((refine aw_region (id := 6) ?_)); (all_goals (refine vc_v (by exact fs_move rfl) rfl ?_)); (all_goals (refine vc_v (by exact fs_assign rfl) rfl ?_))) | (refine vc_nilp (by (first | (dsimp only [List.nil_append, List.cons_append, List.append_nil, List.length_cons, List.length_nil, List.set_cons_zero, List.set_cons_succ, List.map_cons, List.map_nil, putAt, putd, allObjs, argEnv, un_v, un_ptr, un_ep, un_pr, un_sl, un_mp, un_row, un_agg, un_tup, un_clo, Nat.zero_add, Nat.add_zero, Nat.reduceAdd, Bool.not_true, Bool.not_false]; first | done | exact rfl) | exact rfl)) ?_))
    all_goals first | (exfalso; omega) | exact ⟨.inl rfl, [0, 1], _, rfl, rfl, rfl, ⟨.inr rfl, .inr (sub_map rfl rfl rfl (mvV_idf _)), trivial⟩, by decide, fun i hi => absurd hi (Nat.not_lt_zero _)⟩
theorem itoa1 (n : Nat) (h : n < 10) : Go.Lib.itoa (n : Int) = [UInt8.ofNat (48 + n)] := by rw [Go.Lib.itoa_nonneg, Go.Lib.decDigits_one h]
def exT : Tb := [(4, 1), (5, 2)]
theorem exOf1 : ofL exT 1 = [4] := sorted_id (l := [4]) (by simp)
theorem exOf2 : ofL exT 2 = [5] := sorted_id (l := [5]) (by simp)
theorem exOws : owsL exT = [1, 2] := sorted_id (l := [1, 2]) (by simp)
theorem exBytes : bytesB exT = [50, 59, 49, 59, 49, 91, 52, 59, 93, 50, 59, 49, 91, 53, 59, 93] := by
  unfold bytesB accO
  rw [exOws]
  simp only [entB, exOf1, exOf2, List.take, List.length_cons, List.length_nil, List.map_cons, List.map_nil, List.flatten_cons, List.flatten_nil, numsB, accB, intB]
  have e1 := itoa1 1 (by decide)
  have e2 := itoa1 2 (by decide)
  have e4 := itoa1 4 (by decide)
  have e5 := itoa1 5 (by decide)
  simp at e1 e2 e4 e5
  simp [e1, e2, e4, e5]
end Go.Proofs.YtgnnbmgljadokaaGreatDoor
