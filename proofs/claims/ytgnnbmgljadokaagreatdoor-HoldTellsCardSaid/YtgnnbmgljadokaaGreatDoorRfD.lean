/-
  Layer 1: the reference's reader: numbers, lists, the end.
-/
import Derived.Test.YtgnnbmgljadokaaGreatDoorRfC
namespace Go.Proofs.YtgnnbmgljadokaaGreatDoor
open Go Go.Ab Go.Wr
set_option linter.unusedVariables false
set_option linter.unusedSimpArgs false
attribute [local irreducible] VC AW FStep ACall SlT IntT StrT
set_option maxHeartbeats 4000000
theorem numP_lo {r : List UInt8} {e : UInt8} (he : e.toNat ≠ 45 ∧ (e.toNat < 48 ∨ 57 < e.toNat)) : numP r e 0 = match numP r e (-9223372036854775808) with
    | some p => if p.1 < 0 then none else some p
    | none => none := by
  cases h : numP r e (-9223372036854775808) with
  | none =>
    cases h2 : numP r e 0 with
    | none => rfl
    | some p =>
      have h3 := numP_some h2
      have h4 := numP_mk (r' := p.2) (e := e) (lo := -9223372036854775808) (n := p.1) h3.2.2 h3.2.2.1 he
      rw [← h3.1, h] at h4
      cases h4
  | some p =>
    have h3 := numP_some h
    by_cases h0 : p.1 < 0
    · simp only [if_pos h0]
      cases h2 : numP r e 0 with
      | none => rfl
      | some q =>
        have h4 := numP_some h2
        have h5 := numP_mk (r' := q.2) (e := e) (lo := -9223372036854775808) (n := q.1) h4.2.2 h4.2.2.1 he
        rw [← h4.1, h] at h5
        cases h5
        have := h4.2.1
        omega
    · simp only [if_neg h0]
      have h4 := numP_mk (r' := p.2) (e := e) (lo := 0) (n := p.1) h3.2.2 (by omega) he
      rw [← h3.1] at h4
      exact h4
theorem qahead_c (s : St) (e : UInt8) (hl : (s.getD []).length ≤ 100000000) :
    ACall Tryz.prog 80 [.ptr 0 0, .v (.int .u8 e.toNat)] (rdH s) (.i (numS s e (-9223372036854775808)).1) (rdH (numS s e (-9223372036854775808)).2) := by
  have h := ahead_c (s.getD []) s.isNone e hl
  cases s with
  | none =>
    rw [numS_none]
    rw [show (none : St).getD [] = [] from rfl, numP_nil] at h
    exact h
  | some r =>
    rw [show (some r : St).getD [] = r from rfl] at h
    cases hp : numP r e (-9223372036854775808) with
    | none => rw [numS_fail hp]; rw [hp] at h; exact h
    | some p => rw [numS_some hp]; rw [hp] at h; exact h
theorem qnumber_c (s : St) (e : UInt8) (he : e.toNat ≠ 45 ∧ (e.toNat < 48 ∨ 57 < e.toNat)) (hl : (s.getD []).length ≤ 100000000) :
    ACall Tryz.prog 79 [.ptr 0 0, .v (.int .u8 e.toNat)] (rdH s) (.i (numS s e 0).1) (rdH (numS s e 0).2) := by
  have hc := qahead_c s e hl
  have hlo := numP_lo (r := s.getD []) he
  have key : numS s e 0 = if (numS s e (-9223372036854775808)).1 < 0 then (0, none) else numS s e (-9223372036854775808) := by
    cases s with
    | none => rw [numS_none, numS_none]; rfl
    | some r =>
      rw [show (some r : St).getD [] = r from rfl] at hlo
      cases hp : numP r e (-9223372036854775808) with
      | none =>
        rw [hp] at hlo
        rw [numS_fail hp, numS_fail hlo]; rfl
      | some p =>
        rw [hp] at hlo
        rw [numS_some hp]
        by_cases h0 : p.1 < 0
        · simp only [if_pos h0] at hlo ⊢
          exact numS_fail hlo
        · simp only [if_neg h0] at hlo ⊢
          exact numS_some hlo
  rw [key]
  generalize numS s e (-9223372036854775808) = q at *
  obtain ⟨n, t⟩ := q
  have hf := qfail_c (t.getD []) t.isNone
  dsimp only at hc ⊢
  refine acall T Tryz.func79 rfl rfl rfl rfl ?_
  by_cases h0 : n < 0
  · rw [if_pos h0]
    repeat' (first | refine wS ?_ | refine wB ?_ | refine wK ?_ | refine wR ?_ | refine wE ?_ | refine aw_condt rfl ?_ | refine aw_condf rfl ?_ | (refine wC rfl (fun hb => ?_) (fun hb => ?_) <;> (first | subst hb | ((try simp only [nm] at hb); try (exfalso; omega)))) | (((refine rg 0 ?_)); (all_goals (refine va rfl rfl ?_))) | (((refine rg 1 ?_)); (all_goals (refine vm rfl rfl ?_; refine vm rfl rfl ?_)); (all_goals first | (refine vc_callw [0] rfl rfl hc rfl rfl (by decide) ⟨.inr rfl, trivial⟩ (by simp) rfl ?_) | (refine vc_v (by first | fail) rfl ?_) | (refine vc_n (by first | fail) rfl ?_)); (all_goals (refine va rfl rfl ?_))) | (((refine rg 2 ?_)); (all_goals (refine vm rfl rfl ?_; refine vc_v (by first | exact fs_lssT rfl rfl h0 | exact fs_lss rfl rfl) rfl ?_))) | (((refine rg 3 ?_)); (all_goals (refine vm rfl rfl ?_)); (all_goals first | (refine vc_callw [0] rfl rfl hf rfl rfl (by decide) ⟨.inr rfl, trivial⟩ (by simp) rfl ?_) | (refine vc_v (by first | fail) rfl ?_) | (refine vc_n (by first | fail) rfl ?_)); (all_goals (refine va rfl rfl ?_))) | (refine vc_nilp (by (first | (dsimp only [ln1, ln2, List.append_nil, ln4, ln5, ln6, ln7, ln8, ln9, putAt, putd, allObjs, argEnv, un_v, un_ptr, un_ep, un_pr, un_sl, un_mp, un_row, un_agg, un_tup, un_clo, Nat.zero_add, lnb, Nat.reduceAdd, lnc, lnd]; first | done | exact rfl) | exact rfl)) ?_))
    all_goals first | (exfalso; omega) | exact ⟨.inl rfl, [0], _, rfl, rfl, rfl, ⟨.inr rfl, trivial⟩, by decide, lt1z⟩
  · rw [if_neg h0]
    repeat' (first | refine wS ?_ | refine wB ?_ | refine wK ?_ | refine wR ?_ | refine wE ?_ | refine aw_condt rfl ?_ | refine aw_condf rfl ?_ | (refine wC rfl (fun hb => ?_) (fun hb => ?_) <;> (first | subst hb | ((try simp only [nm] at hb); try (exfalso; omega)))) | (((refine rg 0 ?_)); (all_goals (refine va rfl rfl ?_))) | (((refine rg 1 ?_)); (all_goals (refine vm rfl rfl ?_; refine vm rfl rfl ?_)); (all_goals first | (refine vc_callw [0] rfl rfl hc rfl rfl (by decide) ⟨.inr rfl, trivial⟩ (by simp) rfl ?_) | (refine vc_v (by first | fail) rfl ?_) | (refine vc_n (by first | fail) rfl ?_)); (all_goals (refine va rfl rfl ?_))) | (((refine rg 2 ?_)); (all_goals (refine vm rfl rfl ?_; refine vc_v (by first | exact fs_lssF rfl rfl (by omega) | exact fs_lss rfl rfl) rfl ?_))) | (((refine rg 4 ?_)); (all_goals (refine vm rfl rfl ?_; refine va rfl rfl ?_))) | (refine vc_nilp (by (first | (dsimp only [ln1, ln2, List.append_nil, ln4, ln5, ln6, ln7, ln8, ln9, putAt, putd, allObjs, argEnv, un_v, un_ptr, un_ep, un_pr, un_sl, un_mp, un_row, un_agg, un_tup, un_clo, Nat.zero_add, lnb, Nat.reduceAdd, lnc, lnd]; first | done | exact rfl) | exact rfl)) ?_))
    all_goals first | (exfalso; omega) | exact ⟨.inl rfl, [0], _, rfl, rfl, rfl, ⟨.inr rfl, trivial⟩, by decide, lt1z⟩
theorem qrint_c (s : St) (hl : (s.getD []).length ≤ 100000000) : ACall Tryz.prog 57 [.ptr 0 0] (rdH s) (.i (intS s).1) (rdH (intS s).2) := by
  have hc := qahead_c s 59 hl
  refine acall T Tryz.func57 rfl rfl rfl rfl ?_
  repeat' (first | refine wS ?_ | refine wB ?_ | refine wK ?_ | refine wR ?_ | refine wE ?_ | refine aw_condt rfl ?_ | refine aw_condf rfl ?_ | (refine wC rfl (fun hb => ?_) (fun hb => ?_) <;> (first | subst hb | ((try simp only [nm] at hb); try (exfalso; omega)))) | (((refine rg 0 ?_)); (all_goals (refine va rfl rfl ?_))) | (((refine rg 1 ?_)); (all_goals (refine vm rfl rfl ?_)); (all_goals first | (refine vc_callw [0] rfl rfl hc rfl rfl (by decide) ⟨.inr rfl, trivial⟩ (by simp) rfl ?_) | (refine vc_v (by first | fail) rfl ?_) | (refine vc_n (by first | fail) rfl ?_)); (all_goals (refine va rfl rfl ?_))) | (refine vc_nilp (by (first | (dsimp only [ln1, ln2, List.append_nil, ln4, ln5, ln6, ln7, ln8, ln9, putAt, putd, allObjs, argEnv, un_v, un_ptr, un_ep, un_pr, un_sl, un_mp, un_row, un_agg, un_tup, un_clo, Nat.zero_add, lnb, Nat.reduceAdd, lnc, lnd]; first | done | exact rfl) | exact rfl)) ?_))
  all_goals exact ⟨.inl rfl, [0], _, rfl, rfl, rfl, ⟨.inr rfl, trivial⟩, by decide, lt1z⟩
theorem qrnum_c (s : St) (hl : (s.getD []).length ≤ 100000000) : ACall Tryz.prog 55 [.ptr 0 0] (rdH s) (.i (numS s 59 0).1) (rdH (numS s 59 0).2) := by
  have hc := qnumber_c s 59 (by decide) hl
  refine acall T Tryz.func55 rfl rfl rfl rfl ?_
  repeat' (first | refine wS ?_ | refine wB ?_ | refine wK ?_ | refine wR ?_ | refine wE ?_ | refine aw_condt rfl ?_ | refine aw_condf rfl ?_ | (refine wC rfl (fun hb => ?_) (fun hb => ?_) <;> (first | subst hb | ((try simp only [nm] at hb); try (exfalso; omega)))) | (((refine rg 0 ?_)); (all_goals (refine va rfl rfl ?_))) | (((refine rg 1 ?_)); (all_goals (refine vm rfl rfl ?_)); (all_goals first | (refine vc_callw [0] rfl rfl hc rfl rfl (by decide) ⟨.inr rfl, trivial⟩ (by simp) rfl ?_) | (refine vc_v (by first | fail) rfl ?_) | (refine vc_n (by first | fail) rfl ?_)); (all_goals (refine va rfl rfl ?_))) | (refine vc_nilp (by (first | (dsimp only [ln1, ln2, List.append_nil, ln4, ln5, ln6, ln7, ln8, ln9, putAt, putd, allObjs, argEnv, un_v, un_ptr, un_ep, un_pr, un_sl, un_mp, un_row, un_agg, un_tup, un_clo, Nat.zero_add, lnb, Nat.reduceAdd, lnc, lnd]; first | done | exact rfl) | exact rfl)) ?_))
  all_goals exact ⟨.inl rfl, [0], _, rfl, rfl, rfl, ⟨.inr rfl, trivial⟩, by decide, lt1z⟩
theorem qleft_c (s : St) : ACall Tryz.prog 56 [.ptr 0 0] (rdH s) (.i (s.getD []).length) (rdH s) := by
  refine acall T Tryz.func56 rfl rfl rfl rfl ?_
  repeat' (first | refine wS ?_ | refine wB ?_ | refine wK ?_ | refine wR ?_ | refine wE ?_ | refine aw_condt rfl ?_ | refine aw_condf rfl ?_ | (refine wC rfl (fun hb => ?_) (fun hb => ?_) <;> (first | subst hb | ((try simp only [nm] at hb); try (exfalso; omega)))) | (((refine rg 0 ?_)); (all_goals (refine va rfl rfl ?_))) | (((refine rg 1 ?_)); (all_goals (refine vm rfl rfl ?_; refine vN rfl rfl rfl ?_; refine vF T rfl rfl rfl rfl ?_; refine vL T rfl rfl rfl rfl rfl ?_; refine vc_v (by first | exact fs_lenOwn T rfl rfl | exact fs_lenRow T rfl rfl | exact fs_lenNil T rfl rfl | exact fs_lenS strT rfl) rfl ?_; refine va rfl rfl ?_))) | (refine vc_nilp (by (first | (dsimp only [ln1, ln2, List.append_nil, ln4, ln5, ln6, ln7, ln8, ln9, putAt, putd, allObjs, argEnv, un_v, un_ptr, un_ep, un_pr, un_sl, un_mp, un_row, un_agg, un_tup, un_clo, Nat.zero_add, lnb, Nat.reduceAdd, lnc, lnd]; first | done | exact rfl) | exact rfl)) ?_))
  all_goals exact ⟨.inl rfl, [0], _, rfl, rfl, rfl, ⟨.inr rfl, trivial⟩, by decide, lt1z⟩
theorem qdone_c (s : St) : ACall Tryz.prog 59 [.ptr 0 0] (rdH s) (.b (decide (s = some []))) (rdH s) := by
  refine acall T Tryz.func59 rfl rfl rfl rfl ?_
  match s with
  | none =>
    repeat' (first | refine wS ?_ | refine wB ?_ | refine wK ?_ | refine wR ?_ | refine wE ?_ | refine aw_condt rfl ?_ | refine aw_condf rfl ?_ | (refine wC rfl (fun hb => ?_) (fun hb => ?_) <;> (first | subst hb | ((try simp only [nm] at hb); try (exfalso; omega)))) | (((refine rg 0 ?_)); (all_goals (refine va rfl rfl ?_))) | (((refine rg 1 ?_)); (all_goals (refine vm rfl rfl ?_; refine vN rfl rfl rfl ?_; refine vF T rfl rfl rfl rfl ?_; refine vL T rfl rfl rfl rfl rfl ?_; refine vc_v (by exact fs_not rfl) rfl ?_; refine vm rfl rfl ?_)); (all_goals first | (refine vc_gt rfl rfl ?_ rfl; (refine vm rfl rfl ?_)) | (refine vc_gf rfl rfl ?_ rfl) | (refine vc_gu rfl rfl ?_ rfl)); (all_goals first | (refine vc_gt rfl rfl ?_ rfl; (refine vN rfl rfl rfl ?_)) | (refine vc_gf rfl rfl ?_ rfl) | (refine vc_gu rfl rfl ?_ rfl)); (all_goals first | (refine vc_gt rfl rfl ?_ rfl; (refine vF T rfl rfl rfl rfl ?_)) | (refine vc_gf rfl rfl ?_ rfl) | (refine vc_gu rfl rfl ?_ rfl)); (all_goals first | (refine vc_gt rfl rfl ?_ rfl; (refine vL T rfl rfl rfl rfl rfl ?_)) | (refine vc_gf rfl rfl ?_ rfl) | (refine vc_gu rfl rfl ?_ rfl)); (all_goals first | (refine vc_gt rfl rfl ?_ rfl; (refine vc_v (by exact fs_eql rfl rfl) rfl ?_)) | (refine vc_gf rfl rfl ?_ rfl) | (refine vc_gu rfl rfl ?_ rfl)); (all_goals (refine vc_v (by first | exact fs_pickt rfl rfl | exact fs_pickf rfl rfl | exact fs_pick rfl rfl rfl) rfl ?_; refine va rfl rfl ?_))) | (refine vc_nilp (by (first | (dsimp only [ln1, ln2, List.append_nil, ln4, ln5, ln6, ln7, ln8, ln9, putAt, putd, allObjs, argEnv, un_v, un_ptr, un_ep, un_pr, un_sl, un_mp, un_row, un_agg, un_tup, un_clo, Nat.zero_add, lnb, Nat.reduceAdd, lnc, lnd]; first | done | exact rfl) | exact rfl)) ?_))
    all_goals exact ⟨.inl rfl, [0], _, rfl, rfl, rfl, ⟨.inr rfl, trivial⟩, by decide, lt1z⟩
  | some r =>
    rw [show decide ((some r : St) = some []) = decide (r = []) from by simp]
    repeat' (first | refine wS ?_ | refine wB ?_ | refine wK ?_ | refine wR ?_ | refine wE ?_ | refine aw_condt rfl ?_ | refine aw_condf rfl ?_ | (refine wC rfl (fun hb => ?_) (fun hb => ?_) <;> (first | subst hb | ((try simp only [nm] at hb); try (exfalso; omega)))) | (((refine rg 0 ?_)); (all_goals (refine va rfl rfl ?_))) | (((refine rg 1 ?_)); (all_goals (refine vm rfl rfl ?_; refine vN rfl rfl rfl ?_; refine vF T rfl rfl rfl rfl ?_; refine vL T rfl rfl rfl rfl rfl ?_; refine vc_v (by exact fs_not rfl) rfl ?_; refine vm rfl rfl ?_)); (all_goals first | (refine vc_gt rfl rfl ?_ rfl; (refine vm rfl rfl ?_)) | (refine vc_gf rfl rfl ?_ rfl) | (refine vc_gu rfl rfl ?_ rfl)); (all_goals first | (refine vc_gt rfl rfl ?_ rfl; (refine vN rfl rfl rfl ?_)) | (refine vc_gf rfl rfl ?_ rfl) | (refine vc_gu rfl rfl ?_ rfl)); (all_goals first | (refine vc_gt rfl rfl ?_ rfl; (refine vF T rfl rfl rfl rfl ?_)) | (refine vc_gf rfl rfl ?_ rfl) | (refine vc_gu rfl rfl ?_ rfl)); (all_goals first | (refine vc_gt rfl rfl ?_ rfl; (refine vL T rfl rfl rfl rfl rfl ?_)) | (refine vc_gf rfl rfl ?_ rfl) | (refine vc_gu rfl rfl ?_ rfl)); (all_goals first | (refine vc_gt rfl rfl ?_ rfl; (refine vc_v (by first | exact fs_eql rfl rfl | exact fs_eqlS (a := r) (b := []) rfl rfl) rfl ?_)) | (refine vc_gf rfl rfl ?_ rfl) | (refine vc_gu rfl rfl ?_ rfl)); (all_goals (refine vc_v (by first | exact fs_pickt rfl rfl | exact fs_pickf rfl rfl | exact fs_pick rfl rfl rfl) rfl ?_; refine va rfl rfl ?_))) | (refine vc_nilp (by (first | (dsimp only [ln1, ln2, List.append_nil, ln4, ln5, ln6, ln7, ln8, ln9, putAt, putd, allObjs, argEnv, un_v, un_ptr, un_ep, un_pr, un_sl, un_mp, un_row, un_agg, un_tup, un_clo, Nat.zero_add, lnb, Nat.reduceAdd, lnc, lnd]; first | done | exact rfl) | exact rfl)) ?_))
    all_goals exact ⟨.inl rfl, [0], _, rfl, rfl, rfl, ⟨.inr rfl, trivial⟩, by decide, lt1z⟩
theorem qclose_c (s : St) (e : UInt8) (hl : (s.getD []).length ≤ 100000000) : ACall Tryz.prog 81 [.ptr 0 0, .v (.int .u8 e.toNat)] (rdH s) (.b (closeS s e).isSome) (rdH (closeS s e)) := by
  have hf := qfail_c (s.getD []) s.isNone
  refine acall T Tryz.func81 rfl rfl rfl rfl ?_
  match s with
  | none =>
    repeat' (first | refine wS ?_ | refine wB ?_ | refine wK ?_ | refine wR ?_ | refine wE ?_ | refine aw_condt rfl ?_ | refine aw_condf rfl ?_ | (refine wC rfl (fun hb => ?_) (fun hb => ?_) <;> (first | subst hb | ((try simp only [nm] at hb); try (exfalso; omega)))) | (((refine rg 0 ?_)); (all_goals (refine va rfl rfl ?_))) | (((refine rg 1 ?_)); (all_goals (refine vm rfl rfl ?_; refine vN rfl rfl rfl ?_; refine vF T rfl rfl rfl rfl ?_; refine vL T rfl rfl rfl rfl rfl ?_; refine vc_v (by first | exact fs_lenOwn T rfl rfl | exact fs_lenRow T rfl rfl | exact fs_lenNil T rfl rfl | exact fs_lenS strT rfl) rfl ?_; refine vc_v (by first | exact fs_eqlT rfl rfl rfl | exact fs_eql rfl rfl) rfl ?_))) | (((refine rg 2 ?_)); (all_goals (refine vm rfl rfl ?_)); (all_goals first | (refine vc_callw [0] rfl rfl hf rfl rfl (by decide) ⟨.inr rfl, trivial⟩ (by simp) rfl ?_) | (refine vc_v (by first | fail) rfl ?_) | (refine vc_n (by first | fail) rfl ?_))) | (((refine rg 3 ?_)); (all_goals (refine va rfl rfl ?_))) | (refine vc_nilp (by (first | (dsimp only [ln1, ln2, List.append_nil, ln4, ln5, ln6, ln7, ln8, ln9, putAt, putd, allObjs, argEnv, un_v, un_ptr, un_ep, un_pr, un_sl, un_mp, un_row, un_agg, un_tup, un_clo, Nat.zero_add, lnb, Nat.reduceAdd, lnc, lnd]; first | done | exact rfl) | exact rfl)) ?_))
    all_goals exact ⟨.inl rfl, [0], _, rfl, rfl, rfl, ⟨.inr rfl, trivial⟩, by decide, lt1z⟩
  | some [] =>
    repeat' (first | refine wS ?_ | refine wB ?_ | refine wK ?_ | refine wR ?_ | refine wE ?_ | refine aw_condt rfl ?_ | refine aw_condf rfl ?_ | (refine wC rfl (fun hb => ?_) (fun hb => ?_) <;> (first | subst hb | ((try simp only [nm] at hb); try (exfalso; omega)))) | (((refine rg 0 ?_)); (all_goals (refine va rfl rfl ?_))) | (((refine rg 1 ?_)); (all_goals (refine vm rfl rfl ?_; refine vN rfl rfl rfl ?_; refine vF T rfl rfl rfl rfl ?_; refine vL T rfl rfl rfl rfl rfl ?_; refine vc_v (by first | exact fs_lenOwn T rfl rfl | exact fs_lenRow T rfl rfl | exact fs_lenNil T rfl rfl | exact fs_lenS strT rfl) rfl ?_; refine vc_v (by first | exact fs_eqlT rfl rfl rfl | exact fs_eql rfl rfl) rfl ?_))) | (((refine rg 2 ?_)); (all_goals (refine vm rfl rfl ?_)); (all_goals first | (refine vc_callw [0] rfl rfl hf rfl rfl (by decide) ⟨.inr rfl, trivial⟩ (by simp) rfl ?_) | (refine vc_v (by first | fail) rfl ?_) | (refine vc_n (by first | fail) rfl ?_))) | (((refine rg 3 ?_)); (all_goals (refine va rfl rfl ?_))) | (refine vc_nilp (by (first | (dsimp only [ln1, ln2, List.append_nil, ln4, ln5, ln6, ln7, ln8, ln9, putAt, putd, allObjs, argEnv, un_v, un_ptr, un_ep, un_pr, un_sl, un_mp, un_row, un_agg, un_tup, un_clo, Nat.zero_add, lnb, Nat.reduceAdd, lnc, lnd]; first | done | exact rfl) | exact rfl)) ?_))
    all_goals exact ⟨.inl rfl, [0], _, rfl, rfl, rfl, ⟨.inr rfl, trivial⟩, by decide, lt1z⟩
  | some (c :: r) =>
    have hl0 : ((some (c :: r) : St).getD []).length = r.length + 1 := rfl
    have hn0 : (((c :: r).length : Nat) : Int) ≠ 0 := by simp; omega
    have h1 : (c :: r)[(0 : Int).toNat]? = some c := rfl
    by_cases h : c = e
    · subst h
      rw [show closeS (some (c :: r)) c = some r from if_pos rfl]
      have e3 : ((c :: r).take (((c :: r).length : Nat) : Int).toNat).drop (1 : Int).toNat = r := by rw [Int.toNat_natCast, List.take_length]; rfl
      have hlc : (1 : Int) ≤ (((c :: r).length : Nat) : Int) := by rw [List.length_cons]; omega
      repeat' (first | refine wS ?_ | refine wB ?_ | refine wK ?_ | refine wR ?_ | refine wE ?_ | refine aw_condt rfl ?_ | refine aw_condf rfl ?_ | (refine wC rfl (fun hb => ?_) (fun hb => ?_) <;> (first | subst hb | ((try simp only [nm] at hb); try (exfalso; omega)))) | (((refine rg 0 ?_)); (all_goals (refine va rfl rfl ?_))) | (((refine rg 1 ?_)); (all_goals (refine vm rfl rfl ?_; refine vN rfl rfl rfl ?_; refine vF T rfl rfl rfl rfl ?_; refine vL T rfl rfl rfl rfl rfl ?_; refine vc_v (by first | exact fs_lenOwn T rfl rfl | exact fs_lenRow T rfl rfl | exact fs_lenNil T rfl rfl | exact fs_lenS strT rfl) rfl ?_; refine vc_v (by first | exact fs_eqlF rfl rfl hn0 | exact fs_neqKF rfl rfl rfl | exact fs_eql rfl rfl) rfl ?_))) | (((refine rg 4 ?_)); (all_goals (refine vm rfl rfl ?_; refine vN rfl rfl rfl ?_; refine vF T rfl rfl rfl rfl ?_; refine vL T rfl rfl rfl rfl rfl ?_; refine vc_v (by exact fs_indexS strT rfl rfl (by decide) h1) rfl ?_; refine vm rfl rfl ?_; refine vc_v (by first | exact fs_eqlF rfl rfl hn0 | exact fs_neqKF rfl rfl rfl | exact fs_neq rfl rfl) rfl ?_))) | (((refine rg 7 ?_)); (all_goals (refine vm rfl rfl ?_; refine vm rfl rfl ?_; refine vN rfl rfl rfl ?_; refine vF T rfl rfl rfl rfl ?_; refine vL T rfl rfl rfl rfl rfl ?_; refine vc_v (by exact fs_sliceSe strT rfl rfl rfl (by decide) hlc (by omega) e3) rfl ?_; refine vN rfl rfl rfl ?_; refine vF T rfl rfl rfl rfl ?_; refine vc_store T rfl rfl rfl rfl rfl rfl (by decide) rfl ?_))) | (((refine rg 8 ?_)); (all_goals (refine va rfl rfl ?_))) | (refine vc_nilp (by (first | (dsimp only [ln1, ln2, List.append_nil, ln4, ln5, ln6, ln7, ln8, ln9, putAt, putd, allObjs, argEnv, un_v, un_ptr, un_ep, un_pr, un_sl, un_mp, un_row, un_agg, un_tup, un_clo, Nat.zero_add, lnb, Nat.reduceAdd, lnc, lnd]; first | done | exact rfl) | exact rfl)) ?_))
      all_goals exact ⟨.inl rfl, [0], _, rfl, rfl, rfl, ⟨.inr rfl, trivial⟩, by decide, lt1z⟩
    · rw [show closeS (some (c :: r)) e = none from if_neg h]
      have hne : (c.toNat : Int) ≠ (e.toNat : Int) := fun q => h (UInt8.toNat_inj.1 (by omega))
      repeat' (first | refine wS ?_ | refine wB ?_ | refine wK ?_ | refine wR ?_ | refine wE ?_ | refine aw_condt rfl ?_ | refine aw_condf rfl ?_ | (refine wC rfl (fun hb => ?_) (fun hb => ?_) <;> (first | subst hb | ((try simp only [nm] at hb); try (exfalso; omega)))) | (((refine rg 0 ?_)); (all_goals (refine va rfl rfl ?_))) | (((refine rg 1 ?_)); (all_goals (refine vm rfl rfl ?_; refine vN rfl rfl rfl ?_; refine vF T rfl rfl rfl rfl ?_; refine vL T rfl rfl rfl rfl rfl ?_; refine vc_v (by first | exact fs_lenOwn T rfl rfl | exact fs_lenRow T rfl rfl | exact fs_lenNil T rfl rfl | exact fs_lenS strT rfl) rfl ?_; refine vc_v (by first | exact fs_eqlF rfl rfl hn0 | exact fs_neqKT rfl rfl hne | exact fs_eql rfl rfl) rfl ?_))) | (((refine rg 4 ?_)); (all_goals (refine vm rfl rfl ?_; refine vN rfl rfl rfl ?_; refine vF T rfl rfl rfl rfl ?_; refine vL T rfl rfl rfl rfl rfl ?_; refine vc_v (by exact fs_indexS strT rfl rfl (by decide) h1) rfl ?_; refine vm rfl rfl ?_; refine vc_v (by first | exact fs_eqlF rfl rfl hn0 | exact fs_neqKT rfl rfl hne | exact fs_neq rfl rfl) rfl ?_))) | (((refine rg 5 ?_)); (all_goals (refine vm rfl rfl ?_)); (all_goals first | (refine vc_callw [0] rfl rfl hf rfl rfl (by decide) ⟨.inr rfl, trivial⟩ (by simp) rfl ?_) | (refine vc_v (by first | fail) rfl ?_) | (refine vc_n (by first | fail) rfl ?_))) | (((refine rg 6 ?_)); (all_goals (refine va rfl rfl ?_))) | (refine vc_nilp (by (first | (dsimp only [ln1, ln2, List.append_nil, ln4, ln5, ln6, ln7, ln8, ln9, putAt, putd, allObjs, argEnv, un_v, un_ptr, un_ep, un_pr, un_sl, un_mp, un_row, un_agg, un_tup, un_clo, Nat.zero_add, lnb, Nat.reduceAdd, lnc, lnd]; first | done | exact rfl) | exact rfl)) ?_))
      all_goals exact ⟨.inl rfl, [0], _, rfl, rfl, rfl, ⟨.inr rfl, trivial⟩, by decide, lt1z⟩
theorem qrnums_c (s : St) (hl : (s.getD []).length ≤ 100000000) :
    ACall Tryz.prog 58 [.ptr 0 0] (rdH s) (.sl 1 0 (numsS s).1.length 1) (rdH (numsS s).2 ++ [.arr (ints (numsS s).1) 1]) := by
  have hc := qnumber_c s 91 (by decide) hl
  have hn0 := numS_ge s 91
  have hn1 := (numS_I64 s 91 0).2
  have hlen := numS_getD s 91 0
  have htot : numsS s = (if (closeS (itemsL (numS s 91 0).1.toNat (numS s 91 0).2).2 93).isNone then ([], none) else ((itemsL (numS s 91 0).1.toNat (numS s 91 0).2).1, closeS (itemsL (numS s 91 0).1.toNat (numS s 91 0).2).2 93)) := rfl
  rw [htot]
  clear htot
  generalize (numS s 91 0).1 = n at *
  generalize (numS s 91 0).2 = s1 at *
  have hil := itemsL_len n.toNat s1
  refine acall T Tryz.func58 rfl rfl rfl rfl ?_
  repeat' (first | refine wS ?_ | refine wB ?_ | refine wK ?_ | refine wR ?_ | refine wE ?_ | refine aw_condt rfl ?_ | refine aw_condf rfl ?_ | (refine wC rfl (fun hb => ?_) (fun hb => ?_) <;> (first | subst hb | ((try simp only [nm] at hb); try (exfalso; omega)))) | (((refine rg 0 ?_)); (all_goals (refine va rfl rfl ?_))) | (((refine rg 1 ?_)); (all_goals (refine vm rfl rfl ?_)); (all_goals first | (refine vc_callw [0] rfl rfl hc rfl rfl (by decide) ⟨.inr rfl, trivial⟩ (by simp) rfl ?_) | (refine vc_v (by first | fail) rfl ?_) | (refine vc_n (by first | fail) rfl ?_)); (all_goals (refine va rfl rfl ?_))) | (((refine rg 2 ?_)); (all_goals (refine va rfl rfl ?_))) | (((refine rg 3 ?_)); (all_goals (refine va rfl rfl ?_))) | (refine vc_nilp (by (first | (dsimp only [ln1, ln2, List.append_nil, ln4, ln5, ln6, ln7, ln8, ln9, putAt, putd, allObjs, argEnv, un_v, un_ptr, un_ep, un_pr, un_sl, un_mp, un_row, un_agg, un_tup, un_clo, Nat.zero_add, lnb, Nat.reduceAdd, lnc, lnd]; first | done | exact rfl) | exact rfl)) ?_))
  refine aw_own 4 1 rfl (by decide) ?_
  refine aw_loop (X := {p : List Int × Nat × St // itemsL n.toNat s1 = (p.1 ++ (itemsL p.2.1 p.2.2).1, (itemsL p.2.1 p.2.2).2) ∧ p.2.1 ≤ n.toNat ∧ (p.2.2.getD []).length ≤ (s1.getD []).length}) (fun p => [(0, .ptr 0 0), (3, .i n), (4, .sl 1 0 p.1.1.length 1), (5, .i (n - (p.1.2.1 : Int)))]) (fun p => [.cells [.s (p.1.2.2.getD []), .b p.1.2.2.isNone], .arr (ints p.1.1) 1]) (fun p => p.1.2.1) ⟨([], n.toNat, s1), by simp, Nat.le_refl _, Nat.le_refl _⟩ ⟨[0, 1], rfl, ⟨rfl, rfl, rfl, congrArg (fun x => some (AV.i x)) (show (0 : Int) = n - (n.toNat : Int) by omega), trivial⟩, ⟨.inr rfl, .inr rfl, trivial⟩, by decide, lt1q⟩ ?_
  rintro ⟨⟨out, k, t⟩, h1, h2, h3⟩
  dsimp only at h1 h2 h3 ⊢
  have hend : (k = 0 ∨ t = none) → itemsL n.toNat s1 = (out, t) := fun h => by
    rw [h1]
    rcases h with h | h
    · subst h; simp [itemsL]
    · subst h; rw [itemsL_none]; simp
  cases t with
  | none =>
    have he := hend (.inr rfl)
    rw [he]
    by_cases hk : n - (k : Int) < n
    · repeat' (first | refine wS ?_ | refine wB ?_ | refine wK ?_ | refine wR ?_ | refine wE ?_ | refine aw_condt rfl ?_ | refine aw_condf rfl ?_ | (refine wC rfl (fun hb => ?_) (fun hb => ?_) <;> (first | subst hb | ((try simp only [nm] at hb); try (exfalso; omega)))) | (((refine rg 4 ?_)); (all_goals (refine vm rfl rfl ?_; refine vm rfl rfl ?_; refine vc_v (by first | exact fs_lssT rfl rfl hk | exact fs_lss rfl rfl) rfl ?_; refine vm rfl rfl ?_)); (all_goals first | (refine vc_gt rfl rfl ?_ rfl; (refine vm rfl rfl ?_)) | (refine vc_gf rfl rfl ?_ rfl) | (refine vc_gu rfl rfl ?_ rfl)); (all_goals first | (refine vc_gt rfl rfl ?_ rfl; (refine vN rfl rfl rfl ?_)) | (refine vc_gf rfl rfl ?_ rfl) | (refine vc_gu rfl rfl ?_ rfl)); (all_goals first | (refine vc_gt rfl rfl ?_ rfl; (refine vF T rfl rfl rfl rfl ?_)) | (refine vc_gf rfl rfl ?_ rfl) | (refine vc_gu rfl rfl ?_ rfl)); (all_goals first | (refine vc_gt rfl rfl ?_ rfl; (refine vL T rfl rfl rfl rfl rfl ?_)) | (refine vc_gf rfl rfl ?_ rfl) | (refine vc_gu rfl rfl ?_ rfl)); (all_goals first | (refine vc_gt rfl rfl ?_ rfl; (refine vc_v (by first | exact fs_lssT rfl rfl hk | exact fs_not rfl) rfl ?_)) | (refine vc_gf rfl rfl ?_ rfl) | (refine vc_gu rfl rfl ?_ rfl)); (all_goals (refine vc_v (by first | exact fs_pickt rfl rfl | exact fs_pickf rfl rfl | exact fs_pick rfl rfl rfl) rfl ?_))) | (((refine rg 7 ?_)); (all_goals (refine vm rfl rfl ?_; refine vN rfl rfl rfl ?_; refine vF T rfl rfl rfl rfl ?_; refine vL T rfl rfl rfl rfl rfl ?_; refine vm rfl rfl ?_)); (all_goals first | (refine vc_gt rfl rfl ?_ rfl; (refine vm rfl rfl ?_)) | (refine vc_gf rfl rfl ?_ rfl) | (refine vc_gu rfl rfl ?_ rfl)); (all_goals first | (refine vc_gt rfl rfl ?_ rfl; first | (refine vc_v (by first | fail) rfl ?_) | (refine vc_n (by first | fail) rfl ?_)) | (refine vc_gf rfl rfl ?_ rfl) | (refine vc_gu rfl rfl ?_ rfl)); (all_goals first | (refine vc_gt rfl rfl ?_ rfl; (refine vc_v (by first | exact fs_lssT rfl rfl hk | exact fs_not rfl) rfl ?_)) | (refine vc_gf rfl rfl ?_ rfl) | (refine vc_gu rfl rfl ?_ rfl)); (all_goals (refine vc_v (by first | exact fs_pickt rfl rfl | exact fs_pickf rfl rfl | exact fs_pick rfl rfl rfl) rfl ?_))) | (refine vc_nilp (by (first | (dsimp only [ln1, ln2, List.append_nil, ln4, ln5, ln6, ln7, ln8, ln9, putAt, putd, allObjs, argEnv, un_v, un_ptr, un_ep, un_pr, un_sl, un_mp, un_row, un_agg, un_tup, un_clo, Nat.zero_add, lnb, Nat.reduceAdd, lnc, lnd]; first | done | exact rfl) | exact rfl)) ?_))
      all_goals try (exfalso; omega)
      all_goals (refine aw_region (id := 8) ?_; refine vc_v (by exact fs_assign rfl) rfl ?_; refine vc_own 2 1 rfl (by decide) ?_; refine vc_nil ?_)
      all_goals repeat' (first | (refine aw_seq ?_) | (refine aw_block ?_) | (refine aw_skip ?_) | (refine aw_ret ?_) | (refine aw_exit ?_))
      all_goals exact ⟨.inl rfl, [0, 2], _, rfl, rfl, rfl, ⟨.inr rfl, .inr rfl, trivial⟩, by decide, lt1z2⟩
    · repeat' (first | refine wS ?_ | refine wB ?_ | refine wK ?_ | refine wR ?_ | refine wE ?_ | refine aw_condt rfl ?_ | refine aw_condf rfl ?_ | (refine wC rfl (fun hb => ?_) (fun hb => ?_) <;> (first | subst hb | ((try simp only [nm] at hb); try (exfalso; omega)))) | (((refine rg 4 ?_)); (all_goals (refine vm rfl rfl ?_; refine vm rfl rfl ?_; refine vc_v (by first | exact fs_lssF rfl rfl (by omega) | exact fs_lss rfl rfl) rfl ?_; refine vm rfl rfl ?_)); (all_goals first | (refine vc_gt rfl rfl ?_ rfl; (refine vm rfl rfl ?_)) | (refine vc_gf rfl rfl ?_ rfl) | (refine vc_gu rfl rfl ?_ rfl)); (all_goals first | (refine vc_gt rfl rfl ?_ rfl; (refine vN rfl rfl rfl ?_)) | (refine vc_gf rfl rfl ?_ rfl) | (refine vc_gu rfl rfl ?_ rfl)); (all_goals first | (refine vc_gt rfl rfl ?_ rfl; (refine vF T rfl rfl rfl rfl ?_)) | (refine vc_gf rfl rfl ?_ rfl) | (refine vc_gu rfl rfl ?_ rfl)); (all_goals first | (refine vc_gt rfl rfl ?_ rfl; (refine vL T rfl rfl rfl rfl rfl ?_)) | (refine vc_gf rfl rfl ?_ rfl) | (refine vc_gu rfl rfl ?_ rfl)); (all_goals first | (refine vc_gt rfl rfl ?_ rfl; (refine vc_v (by first | exact fs_lssF rfl rfl (by omega) | exact fs_not rfl) rfl ?_)) | (refine vc_gf rfl rfl ?_ rfl) | (refine vc_gu rfl rfl ?_ rfl)); (all_goals (refine vc_v (by first | exact fs_pickt rfl rfl | exact fs_pickf rfl rfl | exact fs_pick rfl rfl rfl) rfl ?_))) | (((refine rg 7 ?_)); (all_goals (refine vm rfl rfl ?_; refine vN rfl rfl rfl ?_; refine vF T rfl rfl rfl rfl ?_; refine vL T rfl rfl rfl rfl rfl ?_; refine vm rfl rfl ?_)); (all_goals first | (refine vc_gt rfl rfl ?_ rfl; (refine vm rfl rfl ?_)) | (refine vc_gf rfl rfl ?_ rfl) | (refine vc_gu rfl rfl ?_ rfl)); (all_goals first | (refine vc_gt rfl rfl ?_ rfl; first | (refine vc_v (by first | fail) rfl ?_) | (refine vc_n (by first | fail) rfl ?_)) | (refine vc_gf rfl rfl ?_ rfl) | (refine vc_gu rfl rfl ?_ rfl)); (all_goals first | (refine vc_gt rfl rfl ?_ rfl; (refine vc_v (by first | exact fs_lssF rfl rfl (by omega) | exact fs_not rfl) rfl ?_)) | (refine vc_gf rfl rfl ?_ rfl) | (refine vc_gu rfl rfl ?_ rfl)); (all_goals (refine vc_v (by first | exact fs_pickt rfl rfl | exact fs_pickf rfl rfl | exact fs_pick rfl rfl rfl) rfl ?_))) | (refine vc_nilp (by (first | (dsimp only [ln1, ln2, List.append_nil, ln4, ln5, ln6, ln7, ln8, ln9, putAt, putd, allObjs, argEnv, un_v, un_ptr, un_ep, un_pr, un_sl, un_mp, un_row, un_agg, un_tup, un_clo, Nat.zero_add, lnb, Nat.reduceAdd, lnc, lnd]; first | done | exact rfl) | exact rfl)) ?_))
      all_goals try (exfalso; omega)
      all_goals (refine aw_region (id := 8) ?_; refine vc_v (by exact fs_assign rfl) rfl ?_; refine vc_own 2 1 rfl (by decide) ?_; refine vc_nil ?_)
      all_goals repeat' (first | (refine aw_seq ?_) | (refine aw_block ?_) | (refine aw_skip ?_) | (refine aw_ret ?_) | (refine aw_exit ?_))
      all_goals exact ⟨.inl rfl, [0, 2], _, rfl, rfl, rfl, ⟨.inr rfl, .inr rfl, trivial⟩, by decide, lt1z2⟩
  | some r =>
    have hlr : ((some r : St).getD []).length = r.length := rfl
    cases k with
    | succ k =>
      have hi := qrint_c (some r) (by omega)
      have hs : itemsL (k + 1) (some r) = ((intS (some r)).1 :: (itemsL k (intS (some r)).2).1, (itemsL k (intS (some r)).2).2) := rfl
      rw [hs] at h1
      have hle := numS_getD (some r) 59 (-9223372036854775808)
      change ((intS (some r)).2.getD []).length ≤ _ at hle
      have hol : out.length ≤ 100000000 := by
        have := hil
        rw [h1] at this
        simp only [List.length_append] at this
        omega
      generalize (intS (some r)).1 = v at *
      generalize (intS (some r)).2 = t' at *
      repeat' (first | refine wS ?_ | refine wB ?_ | refine wK ?_ | refine wR ?_ | refine wE ?_ | refine aw_condt rfl ?_ | refine aw_condf rfl ?_ | (refine wC rfl (fun hb => ?_) (fun hb => ?_) <;> (first | subst hb | ((try simp only [nm] at hb); try (exfalso; omega)))) | (((refine rg 4 ?_)); (all_goals (refine vm rfl rfl ?_; refine vm rfl rfl ?_; refine vc_v (by first | exact fs_lssT rfl rfl (by omega) | exact fs_lss rfl rfl) rfl ?_; refine vm rfl rfl ?_)); (all_goals first | (refine vc_gt rfl rfl ?_ rfl; (refine vm rfl rfl ?_)) | (refine vc_gf rfl rfl ?_ rfl) | (refine vc_gu rfl rfl ?_ rfl)); (all_goals first | (refine vc_gt rfl rfl ?_ rfl; (refine vN rfl rfl rfl ?_)) | (refine vc_gf rfl rfl ?_ rfl) | (refine vc_gu rfl rfl ?_ rfl)); (all_goals first | (refine vc_gt rfl rfl ?_ rfl; (refine vF T rfl rfl rfl rfl ?_)) | (refine vc_gf rfl rfl ?_ rfl) | (refine vc_gu rfl rfl ?_ rfl)); (all_goals first | (refine vc_gt rfl rfl ?_ rfl; (refine vL T rfl rfl rfl rfl rfl ?_)) | (refine vc_gf rfl rfl ?_ rfl) | (refine vc_gu rfl rfl ?_ rfl)); (all_goals first | (refine vc_gt rfl rfl ?_ rfl; (refine vc_v (by first | exact fs_lssT rfl rfl (by omega) | exact fs_not rfl) rfl ?_)) | (refine vc_gf rfl rfl ?_ rfl) | (refine vc_gu rfl rfl ?_ rfl)); (all_goals (refine vc_v (by first | exact fs_pickt rfl rfl | exact fs_pickf rfl rfl | exact fs_pick rfl rfl rfl) rfl ?_))) | (((refine rg 6 ?_)); (all_goals (refine vm rfl rfl ?_; refine vm rfl rfl ?_)); (all_goals first | (refine vc_callw [0] rfl rfl hi rfl rfl (by decide) ⟨.inr rfl, trivial⟩ (by simp) rfl ?_) | (refine vc_v (by first | fail) rfl ?_) | (refine vc_n (by first | fail) rfl ?_)); (all_goals (refine vc_n (by exact fs_buildSlice T rfl rfl (by decide) (by decide) rfl rfl rfl) rfl ?_; refine vc_append T rfl rfl rfl rfl rfl rfl (by simp) (Elems.whole rfl rfl) rfl (by simp; omega) (by simp; omega) rfl ?_; refine va rfl rfl ?_))) | (((refine rg 5 ?_)); (all_goals (refine vm rfl rfl ?_; refine vc_v (by first | exact fs_lssT rfl rfl (by omega) | exact fs_addr rfl rfl (by omega) (by omega) | exact fs_add rfl rfl) rfl ?_; refine va rfl rfl ?_))) | (refine vc_nilp (by (first | (dsimp only [ln1, ln2, List.append_nil, ln4, ln5, ln6, ln7, ln8, ln9, putAt, putd, allObjs, argEnv, un_v, un_ptr, un_ep, un_pr, un_sl, un_mp, un_row, un_agg, un_tup, un_clo, Nat.zero_add, lnb, Nat.reduceAdd, lnc, lnd]; first | done | exact rfl) | exact rfl)) ?_))
      all_goals first | (exfalso; omega) | exact ⟨⟨(out ++ [v], k, t'), by rw [h1]; simp, by dsimp only; omega, by dsimp only; omega⟩, by dsimp only; omega, [0, 3], rfl, ⟨rfl, rfl, by dsimp only; rw [show (out ++ [v]).length = out.length + 1 by simp]; rfl, congrArg (fun x => some (AV.i x)) (show n - ((k + 1 : Nat) : Int) + 1 = n - (k : Int) by omega), trivial⟩, ⟨.inr rfl, .inr (sub_arr rfl ((app_one (by simp)).trans (by dsimp only; exact ints_snoc _ _)) (ints_idf _)), trivial⟩, by decide, lt1z3⟩
    | zero =>
      have he := hend (.inl rfl)
      rw [he]
      have cC := qclose_c (some r) 93 (by omega)
      dsimp only
      cases hcl : closeS (some r) 93 with
      | none =>
        rw [hcl] at cC
        repeat' (first | refine wS ?_ | refine wB ?_ | refine wK ?_ | refine wR ?_ | refine wE ?_ | refine aw_condt rfl ?_ | refine aw_condf rfl ?_ | (refine wC rfl (fun hb => ?_) (fun hb => ?_) <;> (first | subst hb | ((try simp only [nm] at hb); try (exfalso; omega)))) | (((refine rg 4 ?_)); (all_goals (refine vm rfl rfl ?_; refine vm rfl rfl ?_; refine vc_v (by first | exact fs_lssF rfl rfl (by omega) | exact fs_lss rfl rfl) rfl ?_; refine vm rfl rfl ?_)); (all_goals first | (refine vc_gt rfl rfl ?_ rfl; (refine vm rfl rfl ?_)) | (refine vc_gf rfl rfl ?_ rfl) | (refine vc_gu rfl rfl ?_ rfl)); (all_goals first | (refine vc_gt rfl rfl ?_ rfl; (refine vN rfl rfl rfl ?_)) | (refine vc_gf rfl rfl ?_ rfl) | (refine vc_gu rfl rfl ?_ rfl)); (all_goals first | (refine vc_gt rfl rfl ?_ rfl; (refine vF T rfl rfl rfl rfl ?_)) | (refine vc_gf rfl rfl ?_ rfl) | (refine vc_gu rfl rfl ?_ rfl)); (all_goals first | (refine vc_gt rfl rfl ?_ rfl; (refine vL T rfl rfl rfl rfl rfl ?_)) | (refine vc_gf rfl rfl ?_ rfl) | (refine vc_gu rfl rfl ?_ rfl)); (all_goals first | (refine vc_gt rfl rfl ?_ rfl; (refine vc_v (by first | exact fs_lssF rfl rfl (by omega) | exact fs_not rfl) rfl ?_)) | (refine vc_gf rfl rfl ?_ rfl) | (refine vc_gu rfl rfl ?_ rfl)); (all_goals (refine vc_v (by first | exact fs_pickt rfl rfl | exact fs_pickf rfl rfl | exact fs_pick rfl rfl rfl) rfl ?_))) | (((refine rg 7 ?_)); (all_goals (refine vm rfl rfl ?_; refine vN rfl rfl rfl ?_; refine vF T rfl rfl rfl rfl ?_; refine vL T rfl rfl rfl rfl rfl ?_; refine vm rfl rfl ?_)); (all_goals first | (refine vc_gt rfl rfl ?_ rfl; (refine vm rfl rfl ?_)) | (refine vc_gf rfl rfl ?_ rfl) | (refine vc_gu rfl rfl ?_ rfl)); (all_goals first | (refine vc_gt rfl rfl ?_ rfl; first | (refine vc_callw [0] rfl rfl cC rfl rfl (by decide) ⟨.inr rfl, trivial⟩ (by simp) rfl ?_) | (refine vc_v (by first | fail) rfl ?_) | (refine vc_n (by first | fail) rfl ?_)) | (refine vc_gf rfl rfl ?_ rfl) | (refine vc_gu rfl rfl ?_ rfl)); (all_goals first | (refine vc_gt rfl rfl ?_ rfl; (refine vc_v (by first | exact fs_lssF rfl rfl (by omega) | exact fs_not rfl) rfl ?_)) | (refine vc_gf rfl rfl ?_ rfl) | (refine vc_gu rfl rfl ?_ rfl)); (all_goals (refine vc_v (by first | exact fs_pickt rfl rfl | exact fs_pickf rfl rfl | exact fs_pick rfl rfl rfl) rfl ?_))) | (refine vc_nilp (by (first | (dsimp only [ln1, ln2, List.append_nil, ln4, ln5, ln6, ln7, ln8, ln9, putAt, putd, allObjs, argEnv, un_v, un_ptr, un_ep, un_pr, un_sl, un_mp, un_row, un_agg, un_tup, un_clo, Nat.zero_add, lnb, Nat.reduceAdd, lnc, lnd]; first | done | exact rfl) | exact rfl)) ?_))
        all_goals try (exfalso; omega)
        all_goals (refine aw_region (id := 8) ?_; refine vc_v (by exact fs_assign rfl) rfl ?_; refine vc_own 2 1 rfl (by decide) ?_; refine vc_nil ?_)
        all_goals repeat' (first | (refine aw_seq ?_) | (refine aw_block ?_) | (refine aw_skip ?_) | (refine aw_ret ?_) | (refine aw_exit ?_))
        all_goals exact ⟨.inl rfl, [0, 2], _, rfl, rfl, rfl, ⟨.inr rfl, .inr rfl, trivial⟩, by decide, lt1z2⟩
      | some r' =>
        rw [hcl] at cC
        repeat' (first | refine wS ?_ | refine wB ?_ | refine wK ?_ | refine wR ?_ | refine wE ?_ | refine aw_condt rfl ?_ | refine aw_condf rfl ?_ | (refine wC rfl (fun hb => ?_) (fun hb => ?_) <;> (first | subst hb | ((try simp only [nm] at hb); try (exfalso; omega)))) | (((refine rg 4 ?_)); (all_goals (refine vm rfl rfl ?_; refine vm rfl rfl ?_; refine vc_v (by first | exact fs_lssF rfl rfl (by omega) | exact fs_lss rfl rfl) rfl ?_; refine vm rfl rfl ?_)); (all_goals first | (refine vc_gt rfl rfl ?_ rfl; (refine vm rfl rfl ?_)) | (refine vc_gf rfl rfl ?_ rfl) | (refine vc_gu rfl rfl ?_ rfl)); (all_goals first | (refine vc_gt rfl rfl ?_ rfl; (refine vN rfl rfl rfl ?_)) | (refine vc_gf rfl rfl ?_ rfl) | (refine vc_gu rfl rfl ?_ rfl)); (all_goals first | (refine vc_gt rfl rfl ?_ rfl; (refine vF T rfl rfl rfl rfl ?_)) | (refine vc_gf rfl rfl ?_ rfl) | (refine vc_gu rfl rfl ?_ rfl)); (all_goals first | (refine vc_gt rfl rfl ?_ rfl; (refine vL T rfl rfl rfl rfl rfl ?_)) | (refine vc_gf rfl rfl ?_ rfl) | (refine vc_gu rfl rfl ?_ rfl)); (all_goals first | (refine vc_gt rfl rfl ?_ rfl; (refine vc_v (by first | exact fs_lssF rfl rfl (by omega) | exact fs_not rfl) rfl ?_)) | (refine vc_gf rfl rfl ?_ rfl) | (refine vc_gu rfl rfl ?_ rfl)); (all_goals (refine vc_v (by first | exact fs_pickt rfl rfl | exact fs_pickf rfl rfl | exact fs_pick rfl rfl rfl) rfl ?_))) | (((refine rg 7 ?_)); (all_goals (refine vm rfl rfl ?_; refine vN rfl rfl rfl ?_; refine vF T rfl rfl rfl rfl ?_; refine vL T rfl rfl rfl rfl rfl ?_; refine vm rfl rfl ?_)); (all_goals first | (refine vc_gt rfl rfl ?_ rfl; (refine vm rfl rfl ?_)) | (refine vc_gf rfl rfl ?_ rfl) | (refine vc_gu rfl rfl ?_ rfl)); (all_goals first | (refine vc_gt rfl rfl ?_ rfl; first | (refine vc_callw [0] rfl rfl cC rfl rfl (by decide) ⟨.inr rfl, trivial⟩ (by simp) rfl ?_) | (refine vc_v (by first | fail) rfl ?_) | (refine vc_n (by first | fail) rfl ?_)) | (refine vc_gf rfl rfl ?_ rfl) | (refine vc_gu rfl rfl ?_ rfl)); (all_goals first | (refine vc_gt rfl rfl ?_ rfl; (refine vc_v (by first | exact fs_lssF rfl rfl (by omega) | exact fs_not rfl) rfl ?_)) | (refine vc_gf rfl rfl ?_ rfl) | (refine vc_gu rfl rfl ?_ rfl)); (all_goals (refine vc_v (by first | exact fs_pickt rfl rfl | exact fs_pickf rfl rfl | exact fs_pick rfl rfl rfl) rfl ?_))) | (((refine rg 9 ?_)); (all_goals (refine vm rfl rfl ?_; refine va rfl rfl ?_))) | (refine vc_nilp (by (first | (dsimp only [ln1, ln2, List.append_nil, ln4, ln5, ln6, ln7, ln8, ln9, putAt, putd, allObjs, argEnv, un_v, un_ptr, un_ep, un_pr, un_sl, un_mp, un_row, un_agg, un_tup, un_clo, Nat.zero_add, lnb, Nat.reduceAdd, lnc, lnd]; first | done | exact rfl) | exact rfl)) ?_))
        all_goals try (exfalso; omega)
        all_goals exact ⟨.inl rfl, [0, 1], _, rfl, rfl, rfl, ⟨.inr rfl, .inr (sub_arr rfl rfl (ints_idf _)), trivial⟩, by decide, lt1q⟩
end Go.Proofs.YtgnnbmgljadokaaGreatDoor
