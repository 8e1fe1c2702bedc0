/-
  Layer 37: sequences, All.
-/
import Derived.Test.YtgibgknkfcbopaaPm8
import Derived.Test.YtgibgknkfcbopaaAb39
namespace Go.Proofs.Ytgibgknkfcbopaa
open Go Go.Ab Go.Pm
set_option linter.unusedVariables false
set_option linter.unusedSimpArgs false
attribute [local irreducible] VC AW FStep ACall AY VY AIter DW BoolT
set_option maxHeartbeats 8000000

abbrev seqC (l : List Nat) : AV := .clo (.func 46) [] [.pr [.rowE (ints (nats l)) 1] 0]
theorem seqs_c (l : List Nat) : ACall Try.prog 40 [.rowE (ints (nats l)) 1] [] (seqC l) [] := by
  refine acall_frzC rfl ?_
  refine acall T Try.func40 rfl rfl rfl rfl ?_
  repeat' (first | (first | (refine aw_seq ?_) | (refine aw_block ?_) | (refine aw_skip ?_) | (refine aw_ret ?_) | (refine aw_exit ?_)) | (first | (refine aw_condt rfl ?_) | (refine aw_condf rfl ?_) | (refine aw_cond rfl (fun hb => ?_) (fun hb => ?_) <;> (first | subst hb | ((try simp only [decide_eq_true_eq, decide_eq_false_iff_not, Bool.not_true, Bool.not_false, Bool.not_eq_true', Bool.not_eq_false', Bool.and_eq_true, Bool.or_eq_true, Bool.and_eq_false_iff, Bool.or_eq_false_iff, Int.not_lt, Int.not_le] at hb); try ((exfalso; omega); done))))) | (((refine aw_region (id := 0) ?_)); (all_goals (refine vc_n (by exact fs_box rfl rfl) rfl ?_)); (all_goals (refine vc_v (by exact fs_assign rfl) rfl ?_)); (all_goals (refine vc_nilp (by (first | (dsimp only [List.nil_append, List.cons_append, List.append_nil, List.length_cons, List.length_nil, List.set_cons_zero, List.set_cons_succ, List.map_cons, List.map_nil, putAt, putd, allObjs, argEnv, un_v, un_ptr, un_ep, un_pr, un_sl, un_mp, un_row, un_agg, un_tup, un_clo, Nat.zero_add, Nat.add_zero, Nat.reduceAdd, Bool.not_true, Bool.not_false]; first | done | exact rfl) | exact rfl)) ?_))) | (((refine aw_region (id := 1) ?_)); (all_goals (refine vc_v (by exact fs_makeFunc rfl rfl) rfl ?_)); (all_goals (refine vc_v (by exact fs_assign rfl) rfl ?_)); (all_goals (refine vc_nilp (by (first | (dsimp only [List.nil_append, List.cons_append, List.append_nil, List.length_cons, List.length_nil, List.set_cons_zero, List.set_cons_succ, List.map_cons, List.map_nil, putAt, putd, allObjs, argEnv, un_v, un_ptr, un_ep, un_pr, un_sl, un_mp, un_row, un_agg, un_tup, un_clo, Nat.zero_add, Nat.add_zero, Nat.reduceAdd, Bool.not_true, Bool.not_false]; first | done | exact rfl) | exact rfl)) ?_))))
  exact ⟨.inl rfl, [0], _, rfl, rfl, rfl, ⟨.inr rfl, trivial⟩, by decide, fun i hi => absurd hi (Nat.not_lt_zero _)⟩
def seqI (m : Nat) (l : List Nat) (k : Nat) : List AV := [.rowE (ints (nats (unr m l k))) 1]
theorem seqI_step {m : Nat} {l : List Nat} {i k : Nat} (hk : k < fact m) : seqI (m + 1) l (i * fact m + k) = [.rowE ([[AV.i (at' l i : Nat)]] ++ ints (nats (unr m (l.eraseIdx i) k))) 1] := by
  unfold seqI
  rw [unr_succ]
  have h1 : (i * fact m + k) / fact m = i := by
    rw [Nat.mul_comm, Nat.mul_add_div (fact_pos m), Nat.div_eq_of_lt hk]; omega
  have h2 : (i * fact m + k) % fact m = k := by
    rw [Nat.mul_comm, Nat.mul_add_mod, Nat.mod_eq_of_lt hk]
  rw [h1, h2]; rfl
theorem nil_row {sz : Nat} : ∀ (S : Nat → Prop) w ρ ys, RL S w [AV.nils] ρ ys → RL S w [AV.rowE [] sz] ρ ys := fun S w ρ ys h => by
  simp only [RL] at h
  obtain ⟨y, zs, rfl, h1, h2⟩ := h
  unfold RL
  refine ⟨y, zs, rfl, R_nils_row h1, ?_⟩
  simp only [RL]; exact h2
theorem lt2z : ∀ i : Nat, i < 2 → ([0, 1] : List Nat)[i]? = some i := by decide
theorem seq_it : ∀ (m : Nat) (l : List Nat), l.length = m → m ≤ 1000 → AIter Try.prog 46 [] [.pr [.rowE (ints (nats l)) 1] 0] [] (seqI m l) (fact m) := by
  intro m
  induction m with
  | zero =>
    intro l hl hm
    have e1 := nats_length l
    refine aiter T Try.func46 rfl rfl rfl rfl ?_
    intro J A y hJ hy
    repeat' (first | (first | (refine ay_seq ?_) | (refine ay_block ?_) | (refine ay_skip ?_) | (refine ay_ret ?_) | (refine ay_exit ?_)) | (first | (refine ay_condt rfl ?_) | (refine ay_condf rfl ?_) | (refine ay_cond rfl (fun hb => ?_) (fun hb => ?_) <;> (first | subst hb | ((try simp only [decide_eq_true_eq, decide_eq_false_iff_not, Bool.not_true, Bool.not_false, Bool.not_eq_true', Bool.not_eq_false', Bool.and_eq_true, Bool.or_eq_true, Bool.and_eq_false_iff, Bool.or_eq_false_iff, Int.not_lt, Int.not_le] at hb); try ((exfalso; omega); done))))) | (((refine ay_aw hJ (aw_region (id := 0) ?_))); (all_goals (refine vc_n (by exact fs_box rfl rfl) rfl ?_)); (all_goals (refine vc_nilp (by (first | (dsimp only [List.nil_append, List.cons_append, List.append_nil, List.length_cons, List.length_nil, List.set_cons_zero, List.set_cons_succ, List.map_cons, List.map_nil, putAt, putd, allObjs, argEnv, un_v, un_ptr, un_ep, un_pr, un_sl, un_mp, un_row, un_agg, un_tup, un_clo, Nat.zero_add, Nat.add_zero, Nat.reduceAdd, Bool.not_true, Bool.not_false]; first | done | exact rfl) | exact rfl)) ?_))) | (((refine ay_aw hJ (aw_region (id := 1) ?_))); (all_goals (refine vc_v (by exact fs_load T rfl rfl rfl rfl) rfl ?_)); (all_goals (refine vc_v (by first | exact fs_lenOwn T rfl rfl | exact fs_lenRow T rfl rfl | exact fs_lenNil T rfl rfl) rfl ?_)); (all_goals (refine vc_v (by exact fs_eql rfl rfl) rfl ?_)); (all_goals (refine vc_nilp (by (first | (dsimp only [List.nil_append, List.cons_append, List.append_nil, List.length_cons, List.length_nil, List.set_cons_zero, List.set_cons_succ, List.map_cons, List.map_nil, putAt, putd, allObjs, argEnv, un_v, un_ptr, un_ep, un_pr, un_sl, un_mp, un_row, un_agg, un_tup, un_clo, Nat.zero_add, Nat.add_zero, Nat.reduceAdd, Bool.not_true, Bool.not_false]; first | done | exact rfl) | exact rfl)) ?_))))
    all_goals first | (exfalso; omega) | skip
    refine (ay_region (id := 2) ?_)
    refine vy_cut 1 hJ ?_
    dsimp only [List.take, List.drop]
    refine vc_v (by exact fs_load T rfl rfl rfl rfl) rfl ?_
    refine vc_nil ?_
    refine vy_yieldW hJ hy rfl rfl rfl (fact_pos 0) rfl (nil_row (sz := 1)) rfl ?_
    intro yes
    refine vy_vc hJ ?_
    refine vc_nil ?_
    refine ay_ret ?_
    exact ⟨.inl rfl, fun _ => rfl, [], rfl⟩
  | succ m ih =>
    intro l hl hm
    have e1 := nats_length l
    have hF : fact (m + 1) = fact m * (m + 1) := rfl
    refine aiter T Try.func46 rfl rfl rfl rfl ?_
    intro J A y hJ hy
    repeat' (first | (first | (refine ay_seq ?_) | (refine ay_block ?_) | (refine ay_skip ?_) | (refine ay_ret ?_) | (refine ay_exit ?_)) | (first | (refine ay_condt rfl ?_) | (refine ay_condf rfl ?_) | (refine ay_cond rfl (fun hb => ?_) (fun hb => ?_) <;> (first | subst hb | ((try simp only [decide_eq_true_eq, decide_eq_false_iff_not, Bool.not_true, Bool.not_false, Bool.not_eq_true', Bool.not_eq_false', Bool.and_eq_true, Bool.or_eq_true, Bool.and_eq_false_iff, Bool.or_eq_false_iff, Int.not_lt, Int.not_le] at hb); try ((exfalso; omega); done))))) | (((refine ay_aw hJ (aw_region (id := 0) ?_))); (all_goals (refine vc_n (by exact fs_box rfl rfl) rfl ?_)); (all_goals (refine vc_nilp (by (first | (dsimp only [List.nil_append, List.cons_append, List.append_nil, List.length_cons, List.length_nil, List.set_cons_zero, List.set_cons_succ, List.map_cons, List.map_nil, putAt, putd, allObjs, argEnv, un_v, un_ptr, un_ep, un_pr, un_sl, un_mp, un_row, un_agg, un_tup, un_clo, Nat.zero_add, Nat.add_zero, Nat.reduceAdd, Bool.not_true, Bool.not_false]; first | done | exact rfl) | exact rfl)) ?_))) | (((refine ay_aw hJ (aw_region (id := 1) ?_))); (all_goals (refine vc_v (by exact fs_load T rfl rfl rfl rfl) rfl ?_)); (all_goals (refine vc_v (by first | exact fs_lenOwn T rfl rfl | exact fs_lenRow T rfl rfl | exact fs_lenNil T rfl rfl) rfl ?_)); (all_goals (refine vc_v (by exact fs_eql rfl rfl) rfl ?_)); (all_goals (refine vc_nilp (by (first | (dsimp only [List.nil_append, List.cons_append, List.append_nil, List.length_cons, List.length_nil, List.set_cons_zero, List.set_cons_succ, List.map_cons, List.map_nil, putAt, putd, allObjs, argEnv, un_v, un_ptr, un_ep, un_pr, un_sl, un_mp, un_row, un_agg, un_tup, un_clo, Nat.zero_add, Nat.add_zero, Nat.reduceAdd, Bool.not_true, Bool.not_false]; first | done | exact rfl) | exact rfl)) ?_))) | (((refine ay_aw hJ (aw_region (id := 3) ?_))); (all_goals (refine vc_v (by exact fs_load T rfl rfl rfl rfl) rfl ?_)); (all_goals (refine vc_v (by first | exact fs_lenOwn T rfl rfl | exact fs_lenRow T rfl rfl | exact fs_lenNil T rfl rfl) rfl ?_)); (all_goals (refine vc_v (by exact fs_move rfl) rfl ?_)); (all_goals (refine vc_nilp (by (first | (dsimp only [List.nil_append, List.cons_append, List.append_nil, List.length_cons, List.length_nil, List.set_cons_zero, List.set_cons_succ, List.map_cons, List.map_nil, putAt, putd, allObjs, argEnv, un_v, un_ptr, un_ep, un_pr, un_sl, un_mp, un_row, un_agg, un_tup, un_clo, Nat.zero_add, Nat.add_zero, Nat.reduceAdd, Bool.not_true, Bool.not_false]; first | done | exact rfl) | exact rfl)) ?_))))
    all_goals first | (exfalso; omega) | skip
    refine ay_loop (X := {i : Nat // i ≤ m + 1}) (fun i => [(1, .pr [.rowE (ints (nats l)) 1] 0), (2, .ptr 0 0), (12, .rowE (ints (nats l)) 1), (13, .i (ints (nats l)).length), (14, .i (i.1 : Int))]) (fun _ => [.cells [.clo (.yield y) [] []]]) (fun i => (i.1 * fact m, false)) (fun i => m + 1 - i.1) ⟨0, Nat.zero_le _⟩ (by rw [Nat.zero_mul]) ⟨[0], rfl, ⟨rfl, rfl, rfl, rfl, rfl, trivial⟩, ⟨.inr rfl, trivial⟩, by decide, fun i hi => absurd hi (Nat.not_lt_zero _)⟩ ?_
    rintro ⟨i, hi⟩
    dsimp only
    by_cases hlt : i < m + 1
    · have q1 := nt_gI (l := l) (j := (i : Int)) (i := i) (by omega) rfl
      have hcl := clone_o (nats l) (by rw [nats_len]; omega)
      rw [nats_len] at hcl
      have hd := delete_c (nats l) i (i + 1) (by omega) (by rw [nats_len]; omega) (fun e => by have := congrArg List.length e; rw [nats_len, hl] at this; simp at this)
      rw [nats_len, nats_take, nats_drop, ← List.map_append, eraseIdx_two, show ((i + 1 : Nat) : Int) = (i : Int) + 1 from rfl] at hd
      have hel : (l.eraseIdx i).length = m := by rw [List.length_eraseIdx_of_lt (by omega)]; omega
      have hlen2 : l.length - (i + 1 - i) = m := by omega
      rw [hlen2] at hd
      have hel2 := nats_length (l.eraseIdx i)
      rw [hel] at hel2
      have hsq := seqs_c (l.eraseIdx i)
      have hI := ih (l.eraseIdx i) hel (by omega)
      have hst := fun k (hk : k < fact m) => seqI_step (l := l) (i := i) hk
      generalize at' l i = x at *
      generalize hE : l.eraseIdx i = l' at *
      have hrf := ints_rf (nats l)
      have hfz : ∀ θ : Nat → Nat, (ints (nats l')).map (AV.mapL θ) = ints (nats l') := fun θ => ints_map θ _
      repeat' (first | (first | (refine ay_seq ?_) | (refine ay_block ?_) | (refine ay_skip ?_) | (refine ay_ret ?_) | (refine ay_exit ?_)) | (first | (refine ay_condt rfl ?_) | (refine ay_condf rfl ?_) | (refine ay_cond rfl (fun hb => ?_) (fun hb => ?_) <;> (first | subst hb | ((try simp only [decide_eq_true_eq, decide_eq_false_iff_not, Bool.not_true, Bool.not_false, Bool.not_eq_true', Bool.not_eq_false', Bool.and_eq_true, Bool.or_eq_true, Bool.and_eq_false_iff, Bool.or_eq_false_iff, Int.not_lt, Int.not_le] at hb); try ((exfalso; omega); done))))) | (((refine ay_aw hJ (aw_region (id := 4) ?_))); (all_goals (refine vc_v (by exact fs_lss rfl rfl) rfl ?_)); (all_goals (refine vc_nilp (by (first | (dsimp only [List.nil_append, List.cons_append, List.append_nil, List.length_cons, List.length_nil, List.set_cons_zero, List.set_cons_succ, List.map_cons, List.map_nil, putAt, putd, allObjs, argEnv, un_v, un_ptr, un_ep, un_pr, un_sl, un_mp, un_row, un_agg, un_tup, un_clo, Nat.zero_add, Nat.add_zero, Nat.reduceAdd, Bool.not_true, Bool.not_false]; first | done | exact rfl) | exact rfl)) ?_))) | (((refine ay_aw hJ (aw_region (id := 5) ?_))); (all_goals (refine vc_v (by exact fs_move rfl) rfl ?_)); (all_goals (refine vc_v (by exact fs_indexRowE T rfl rfl rfl rfl rfl (by omega) (ints_len _) q1) rfl ?_)); (all_goals (refine vc_v (by exact fs_load T rfl rfl rfl rfl) rfl ?_)); (all_goals (refine vc_n (by exact fs_alloc T rfl) rfl ?_)); (all_goals (refine vc_v (by exact fs_assign rfl) rfl ?_)); (all_goals (refine vc_store T rfl rfl rfl rfl rfl rfl (by decide) rfl ?_)); (all_goals (refine vc_nilp (by (first | (dsimp only [List.nil_append, List.cons_append, List.append_nil, List.length_cons, List.length_nil, List.set_cons_zero, List.set_cons_succ, List.map_cons, List.map_nil, putAt, putd, allObjs, argEnv, un_v, un_ptr, un_ep, un_pr, un_sl, un_mp, un_row, un_agg, un_tup, un_clo, Nat.zero_add, Nat.add_zero, Nat.reduceAdd, Bool.not_true, Bool.not_false]; first | done | exact rfl) | exact rfl)) ?_))) | (((refine ay_aw hJ (aw_region (id := 6) ?_))); (all_goals (refine vc_v (by exact fs_load T rfl rfl rfl rfl) rfl ?_)); (all_goals first | (refine vc_v (by first | exact fs_call rfl rfl hcl (.inr ⟨rfl, rfl, by simp [ints_rf]⟩)) rfl ?_) | (refine vc_n (by first | exact fs_call rfl rfl hcl (.inr ⟨rfl, rfl, by simp [ints_rf]⟩)) rfl ?_)); (all_goals (refine vc_v (by exact fs_move rfl) rfl ?_)); (all_goals (refine vc_v (by exact fs_move rfl) rfl ?_)); (all_goals (refine vc_v (by first | exact fs_addr rfl rfl (by omega) (by omega) | exact fs_add rfl rfl) rfl ?_)); (all_goals first | (refine vc_callw [2] rfl rfl hd rfl rfl (by decide) ⟨.inr (sub_arr rfl (ints_map _ _) (ints_idf _)), trivial⟩ (by simp) rfl ?_; refine vc_frz 24 (k := 2) (es := ints (nats l')) rfl (by show some (AB.arr ((ints (nats l')).map (AV.mapL _)) 1) = _; rw [hfz]) hel2.symm (ints_idfF _) ?_) | (refine vc_v (by first | fail) rfl ?_) | (refine vc_n (by first | fail) rfl ?_)); (all_goals (refine vc_v (by exact fs_assign rfl) rfl ?_)); (all_goals (refine vc_nilp (by (first | (dsimp only [List.nil_append, List.cons_append, List.append_nil, List.length_cons, List.length_nil, List.set_cons_zero, List.set_cons_succ, List.map_cons, List.map_nil, putAt, putd, allObjs, argEnv, un_v, un_ptr, un_ep, un_pr, un_sl, un_mp, un_row, un_agg, un_tup, un_clo, Nat.zero_add, Nat.add_zero, Nat.reduceAdd, Bool.not_true, Bool.not_false]; first | done | exact rfl) | exact rfl)) ?_))) | (((refine ay_aw hJ (aw_region (id := 7) ?_))); (all_goals (refine vc_v (by exact fs_move rfl) rfl ?_)); (all_goals (refine vc_v (by exact fs_call0 rfl rfl hsq rfl rfl rfl) rfl ?_)); (all_goals (refine vc_nilp (by (first | (dsimp only [List.nil_append, List.cons_append, List.append_nil, List.length_cons, List.length_nil, List.set_cons_zero, List.set_cons_succ, List.map_cons, List.map_nil, putAt, putd, allObjs, argEnv, un_v, un_ptr, un_ep, un_pr, un_sl, un_mp, un_row, un_agg, un_tup, un_clo, Nat.zero_add, Nat.add_zero, Nat.reduceAdd, Bool.not_true, Bool.not_false]; first | done | exact rfl) | exact rfl)) ?_))))
      all_goals first | (exfalso; omega) | skip
      have hFi : i * fact m + fact m ≤ fact (m + 1) := by
        have h1 := Nat.mul_le_mul_right (fact m) (Nat.succ_le_of_lt hlt)
        rw [Nat.succ_mul] at h1
        rw [hF, Nat.mul_comm (fact m)]; exact h1
      refine ay_range hJ [0, 1] [(1, .pr [.rowE (ints (nats l)) 1] 0), (2, .ptr 0 0), (4, .ptr 1 0), (12, .rowE (ints (nats l)) 1), (13, .i (ints (nats l)).length), (14, .i (i : Int))] (fun _ => [.cells [.clo (.yield y) [] []], .cells [.i (x : Int)]]) (fun k => (i * fact m + k, false)) 2 rfl hI rfl rfl (by rw [Nat.add_zero]) rfl ⟨rfl, rfl, rfl, rfl, rfl, rfl, trivial⟩ ⟨.inr rfl, .inr rfl, trivial⟩ (by decide) (fun i hi => absurd hi (Nat.not_lt_zero _)) (Nat.zero_le _) (Nat.le_of_ble_eq_true rfl) rfl (by decide) (fun k hk => ⟨rfl, rfl⟩) ?_ ?_
      · intro k hk
        have hit := hst k hk
        have hul : (unr m l' k).length = m := unr_len m _ _
        have hsi : seqI m l' k = [.rowE (ints (nats (unr m l' k))) 1] := rfl
        rw [hsi]
        generalize unr m l' k = tl at *
        have htl := nats_length tl
        refine ay_aw hJ (aw_region (id := 8) ?_)
        refine vc_v (by exact fs_assign rfl) rfl ?_
        refine vc_nil ?_
        refine ⟨rfl, ?_⟩
        refine ay_block ?_
        refine ay_seq ?_
        refine ay_drawT hJ 5 36 [[], [], [1], [], [1, 2, 3], [0, 1, 2, 3, 4], [0, 1, 2, 3, 4, 5]] [[], [], [1], [], [1, 2, 3]] [28, 29, 30, 31, 32] [[], [28], [28], [28, 29, 30], [28]] mixedP rfl (by decide +kernel) (by decide +kernel) ?_
        dsimp only [List.take, List.drop]
        refine dw_v rfl rfl rfl (by exact fs_load T rfl rfl rfl rfl) ?_
        refine dw_v rfl rfl rfl (by exact fs_load T rfl rfl rfl rfl) ?_
        refine dw_n rfl rfl rfl (by exact fs_buildLit T rfl rfl (by decide) (by decide) rfl rfl rfl) rfl ?_
        refine dw_v rfl rfl rfl (by exact fs_move rfl) ?_
        cases tl with
        | nil =>
          refine dw_v rfl rfl rfl (by exact fs_appendLit0 T rfl rfl rfl rfl rfl rfl rfl (by simp) (.row (ints_len _))) ?_
          refine dw_fin rfl rfl (by (first | (dsimp only [List.nil_append, List.cons_append, List.append_nil, List.length_cons, List.length_nil, List.set_cons_zero, List.set_cons_succ, List.map_cons, List.map_nil, putAt, putd, allObjs, argEnv, un_v, un_ptr, un_ep, un_pr, un_sl, un_mp, un_row, un_agg, un_tup, un_clo, Nat.zero_add, Nat.add_zero, Nat.reduceAdd, Bool.not_true, Bool.not_false]; first | done | exact rfl) | exact rfl)) ?_
          refine vc_litArr 2 rfl ?_
          refine vc_frz 32 rfl rfl rfl rfl ?_
          refine vc_nil ?_
          refine vy_yield hJ hy rfl rfl rfl (by omega) hit rfl ?_
          intro yes
          refine vy_vc hJ ?_
          refine vc_v (by exact fs_not rfl) rfl ?_
          refine vc_nil ?_
          refine ay_cond rfl (fun hb => ?_) (fun hb => ?_)
          · refine ay_ret ?_
            refine ⟨⟨_, rfl⟩, [.cells [.clo (.yield y) [] []], .cells [.i (x : Int)]], ⟨[0, 1], rfl, trivial, ⟨.inr rfl, .inr rfl, trivial⟩, by decide, lt2z⟩, ?_⟩
            exact ⟨.inl rfl, fun h => (by rw [hb] at h; cases h), [], rfl⟩
          · refine ay_skip ?_
            have : (!yes) = false := hb
            refine ⟨by rw [this]; rfl, [0, 1], rfl, trivial, ⟨.inr rfl, .inr rfl, trivial⟩, by decide, lt2z⟩
        | cons z tl =>
          refine dw_n rfl rfl rfl (by exact fs_appendLit T rfl rfl rfl rfl rfl rfl rfl (by simp) (by simp) (.row (ints_len _)) (by simp at hul ⊢; omega) (by simp at hul ⊢; omega)) rfl ?_
          refine dw_fin rfl rfl (by (first | (dsimp only [List.nil_append, List.cons_append, List.append_nil, List.length_cons, List.length_nil, List.set_cons_zero, List.set_cons_succ, List.map_cons, List.map_nil, putAt, putd, allObjs, argEnv, un_v, un_ptr, un_ep, un_pr, un_sl, un_mp, un_row, un_agg, un_tup, un_clo, Nat.zero_add, Nat.add_zero, Nat.reduceAdd, Bool.not_true, Bool.not_false]; first | done | exact rfl) | exact rfl)) ?_
          refine vc_frz 32 (es := [[AV.i (x : Int)]] ++ ints (nats (z :: tl))) rfl rfl (by simp; omega) (ints_idfF (nats (x :: z :: tl))) ?_
          refine vc_nil ?_
          refine vy_yield hJ hy rfl rfl rfl (by omega) hit rfl ?_
          intro yes
          refine vy_vc hJ ?_
          refine vc_v (by exact fs_not rfl) rfl ?_
          refine vc_nil ?_
          refine ay_cond rfl (fun hb => ?_) (fun hb => ?_)
          · refine ay_ret ?_
            refine ⟨⟨_, rfl⟩, [.cells [.clo (.yield y) [] []], .cells [.i (x : Int)]], ⟨[0, 1], rfl, trivial, ⟨.inr rfl, .inr rfl, trivial⟩, by decide, lt2z⟩, ?_⟩
            exact ⟨.inl rfl, fun h => (by rw [hb] at h; cases h), [], rfl⟩
          · refine ay_skip ?_
            have : (!yes) = false := hb
            refine ⟨by rw [this]; rfl, [0, 1], rfl, trivial, ⟨.inr rfl, .inr rfl, trivial⟩, by decide, lt2z⟩
      · repeat' (first | (first | (refine ay_seq ?_) | (refine ay_block ?_) | (refine ay_skip ?_) | (refine ay_ret ?_) | (refine ay_exit ?_)) | (first | (refine ay_condt rfl ?_) | (refine ay_condf rfl ?_) | (refine ay_cond rfl (fun hb => ?_) (fun hb => ?_) <;> (first | subst hb | ((try simp only [decide_eq_true_eq, decide_eq_false_iff_not, Bool.not_true, Bool.not_false, Bool.not_eq_true', Bool.not_eq_false', Bool.and_eq_true, Bool.or_eq_true, Bool.and_eq_false_iff, Bool.or_eq_false_iff, Int.not_lt, Int.not_le] at hb); try ((exfalso; omega); done))))) | (((refine ay_aw hJ (aw_region (id := 10) ?_))); (all_goals (refine vc_v (by first | exact fs_addr rfl rfl (by omega) (by omega) | exact fs_add rfl rfl) rfl ?_)); (all_goals (refine vc_v (by exact fs_move rfl) rfl ?_)); (all_goals (refine vc_nilp (by (first | (dsimp only [List.nil_append, List.cons_append, List.append_nil, List.length_cons, List.length_nil, List.set_cons_zero, List.set_cons_succ, List.map_cons, List.map_nil, putAt, putd, allObjs, argEnv, un_v, un_ptr, un_ep, un_pr, un_sl, un_mp, un_row, un_agg, un_tup, un_clo, Nat.zero_add, Nat.add_zero, Nat.reduceAdd, Bool.not_true, Bool.not_false]; first | done | exact rfl) | exact rfl)) ?_))))
        all_goals first | (exfalso; omega) | skip
        exact ⟨⟨i + 1, hlt⟩, by dsimp only; omega, by dsimp only; rw [Nat.succ_mul], [0], rfl, ⟨rfl, rfl, rfl, rfl, rfl, trivial⟩, ⟨.inr rfl, trivial⟩, by decide, fun i hi => absurd hi (Nat.not_lt_zero _)⟩
    · obtain rfl : i = m + 1 := by omega
      repeat' (first | (first | (refine ay_seq ?_) | (refine ay_block ?_) | (refine ay_skip ?_) | (refine ay_ret ?_) | (refine ay_exit ?_)) | (first | (refine ay_condt rfl ?_) | (refine ay_condf rfl ?_) | (refine ay_cond rfl (fun hb => ?_) (fun hb => ?_) <;> (first | subst hb | ((try simp only [decide_eq_true_eq, decide_eq_false_iff_not, Bool.not_true, Bool.not_false, Bool.not_eq_true', Bool.not_eq_false', Bool.and_eq_true, Bool.or_eq_true, Bool.and_eq_false_iff, Bool.or_eq_false_iff, Int.not_lt, Int.not_le] at hb); try ((exfalso; omega); done))))) | (((refine ay_aw hJ (aw_region (id := 4) ?_))); (all_goals (refine vc_v (by exact fs_lss rfl rfl) rfl ?_)); (all_goals (refine vc_nilp (by (first | (dsimp only [List.nil_append, List.cons_append, List.append_nil, List.length_cons, List.length_nil, List.set_cons_zero, List.set_cons_succ, List.map_cons, List.map_nil, putAt, putd, allObjs, argEnv, un_v, un_ptr, un_ep, un_pr, un_sl, un_mp, un_row, un_agg, un_tup, un_clo, Nat.zero_add, Nat.add_zero, Nat.reduceAdd, Bool.not_true, Bool.not_false]; first | done | exact rfl) | exact rfl)) ?_))))
      all_goals first | (exfalso; omega) | skip
      exact ⟨.inr rfl, fun _ => by show (m + 1) * fact m = _; rw [hF, Nat.mul_comm], [], rfl⟩
end Go.Proofs.Ytgibgknkfcbopaa
