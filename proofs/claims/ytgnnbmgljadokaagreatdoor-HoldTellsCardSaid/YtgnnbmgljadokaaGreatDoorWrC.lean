/-
  Layer 1: wire's reader: lists of numbers, the end.
-/
import Derived.Test.YtgnnbmgljadokaaGreatDoorWrB
namespace Go.Proofs.YtgnnbmgljadokaaGreatDoor
open Go Go.Ab Go.Wr
set_option linter.unusedVariables false
set_option linter.unusedSimpArgs false
attribute [local irreducible] VC AW FStep ACall
set_option maxHeartbeats 4000000
theorem cut_some {c e : UInt8} {r : List UInt8} (h : c = e) : Lib.hasPrefix (c :: r) [e] = true ∧ Lib.trimPrefix (c :: r) [e] = r := by
  subst h
  simp [Lib.hasPrefix, Lib.trimPrefix, List.isPrefixOf]
theorem cut_none {r : List UInt8} {e : UInt8} (h : ∀ r', r ≠ e :: r') : Lib.hasPrefix r [e] = false ∧ Lib.trimPrefix r [e] = r := by
  have h1 : Lib.hasPrefix r [e] = false := by
    cases r with
    | nil => rfl
    | cons c r =>
      have : e ≠ c := fun q => h r (by rw [q])
      simp [Lib.hasPrefix, List.isPrefixOf, this]
  exact ⟨h1, by simp [Lib.trimPrefix, h1]⟩
theorem closeT_c (c : UInt8) (r : List UInt8) (b : Bool) : ACall Tryz.prog 92 [.ptr 0 0, .s [c]] [.cells [.s (c :: r), .b b]] (.tup []) [.cells [.s r, .b b]] := by
  obtain ⟨h1, h2⟩ := cut_some (c := c) (e := c) (r := r) rfl
  have hc := cut_c (c :: r) [c]
  rw [h1, h2] at hc
  refine acall T Tryz.func92 rfl rfl rfl rfl ?_
  repeat' (first | refine wS ?_ | refine wB ?_ | refine wK ?_ | refine wR ?_ | refine wE ?_ | refine aw_condt rfl ?_ | refine aw_condf rfl ?_ | (refine wC rfl (fun hb => ?_) (fun hb => ?_) <;> (first | subst hb | ((try simp only [nm] at hb); try (exfalso; omega)))) | (((refine rg 0 ?_)); (all_goals (refine vm rfl rfl ?_; refine vN rfl rfl rfl ?_; refine vF T rfl rfl rfl rfl ?_; refine vL T rfl rfl rfl rfl rfl ?_; refine vm rfl rfl ?_; refine vc_v (by exact fs_call0 rfl rfl (hc) rfl rfl rfl) rfl ?_; refine vm rfl rfl ?_; refine vX rfl rfl rfl ?_; refine vX rfl rfl rfl ?_; refine va rfl rfl ?_; refine va rfl rfl ?_))) | (((refine rg 1 ?_)); (all_goals (refine vm rfl rfl ?_; refine vm rfl rfl ?_; refine vN rfl rfl rfl ?_; refine vF T rfl rfl rfl rfl ?_; refine vc_store T rfl rfl rfl rfl rfl rfl (by decide) rfl ?_))) | (((refine rg 2 ?_)); (all_goals (refine vm rfl rfl ?_; refine vc_v (by exact fs_not rfl) rfl ?_))) | (refine vc_nilp (by (first | (dsimp only [ln1, ln2, List.append_nil, ln4, ln5, ln6, ln7, ln8, ln9, putAt, putd, allObjs, argEnv, un_v, un_ptr, un_ep, un_pr, un_sl, un_mp, un_row, un_agg, un_tup, un_clo, Nat.zero_add, lnb, Nat.reduceAdd, lnc, lnd]; first | done | exact rfl) | exact rfl)) ?_))
  all_goals exact ⟨.inr rfl, [0], _, rfl, rfl, rfl, ⟨.inr rfl, trivial⟩, by decide, lt1z⟩
theorem closeF_c (r : List UInt8) (b : Bool) (e : UInt8) (h : ∀ r', r ≠ e :: r') : ACall Tryz.prog 92 [.ptr 0 0, .s [e]] [.cells [.s r, .b b]] (.tup []) [.cells [.s [], .b true]] := by
  obtain ⟨h1, h2⟩ := cut_none h
  have hc := cut_c r [e]
  rw [h1, h2] at hc
  have hf := fail_c r b
  refine acall T Tryz.func92 rfl rfl rfl rfl ?_
  repeat' (first | refine wS ?_ | refine wB ?_ | refine wK ?_ | refine wR ?_ | refine wE ?_ | refine aw_condt rfl ?_ | refine aw_condf rfl ?_ | (refine wC rfl (fun hb => ?_) (fun hb => ?_) <;> (first | subst hb | ((try simp only [nm] at hb); try (exfalso; omega)))) | (((refine rg 0 ?_)); (all_goals (refine vm rfl rfl ?_; refine vN rfl rfl rfl ?_; refine vF T rfl rfl rfl rfl ?_; refine vL T rfl rfl rfl rfl rfl ?_; refine vm rfl rfl ?_; refine vc_v (by exact fs_call0 rfl rfl (hc) rfl rfl rfl) rfl ?_; refine vm rfl rfl ?_; refine vX rfl rfl rfl ?_; refine vX rfl rfl rfl ?_; refine va rfl rfl ?_; refine va rfl rfl ?_))) | (((refine rg 1 ?_)); (all_goals (refine vm rfl rfl ?_; refine vm rfl rfl ?_; refine vN rfl rfl rfl ?_; refine vF T rfl rfl rfl rfl ?_; refine vc_store T rfl rfl rfl rfl rfl rfl (by decide) rfl ?_))) | (((refine rg 2 ?_)); (all_goals (refine vm rfl rfl ?_; refine vc_v (by exact fs_not rfl) rfl ?_))) | (((refine rg 3 ?_)); (all_goals (refine vm rfl rfl ?_)); (all_goals first | (refine vc_callw [0] rfl rfl hf rfl rfl (by decide) ⟨.inr rfl, trivial⟩ (by simp) rfl ?_) | (refine vc_v (by first | fail) rfl ?_) | (refine vc_n (by first | fail) rfl ?_))) | (refine vc_nilp (by (first | (dsimp only [ln1, ln2, List.append_nil, ln4, ln5, ln6, ln7, ln8, ln9, putAt, putd, allObjs, argEnv, un_v, un_ptr, un_ep, un_pr, un_sl, un_mp, un_row, un_agg, un_tup, un_clo, Nat.zero_add, lnb, Nat.reduceAdd, lnc, lnd]; first | done | exact rfl) | exact rfl)) ?_))
  all_goals exact ⟨.inr rfl, [0], _, rfl, rfl, rfl, ⟨.inr rfl, trivial⟩, by decide, lt1z⟩
theorem close_c (s : St) (e : UInt8) : ACall Tryz.prog 92 [.ptr 0 0, .s [e]] (rdH s) (.tup []) (rdH (closeS s e)) := by
  match s with
  | none => exact closeF_c [] true e (fun r' h => by cases h)
  | some [] => exact closeF_c [] false e (fun r' h => by cases h)
  | some (c :: r) =>
    by_cases h : c = e
    · subst h
      have := closeT_c c r false
      rw [show closeS (some (c :: r)) c = some r from if_pos rfl]
      exact this
    · have := closeF_c (c :: r) false e (fun r' q => h (by cases q; rfl))
      rw [show closeS (some (c :: r)) e = none from if_neg h]
      exact this
theorem int_c (s : St) (hl : (s.getD []).length ≤ 1000000000) : ACall Tryz.prog 40 [.ptr 0 0] (rdH s) (.i (intS s).1) (rdH (intS s).2) := by
  have hc := number_c s 59 (-9223372036854775808) hl
  refine acall T Tryz.func40 rfl rfl rfl rfl ?_
  repeat' (first | refine wS ?_ | refine wB ?_ | refine wK ?_ | refine wR ?_ | refine wE ?_ | refine aw_condt rfl ?_ | refine aw_condf rfl ?_ | (refine wC rfl (fun hb => ?_) (fun hb => ?_) <;> (first | subst hb | ((try simp only [nm] at hb); try (exfalso; omega)))) | (((refine rg 0 ?_)); (all_goals (refine va rfl rfl ?_))) | (((refine rg 1 ?_)); (all_goals (refine vm rfl rfl ?_)); (all_goals first | (refine vc_callw [0] rfl rfl hc rfl rfl (by decide) ⟨.inr rfl, trivial⟩ (by simp) rfl ?_) | (refine vc_v (by first | fail) rfl ?_) | (refine vc_n (by first | fail) rfl ?_)); (all_goals (refine va rfl rfl ?_))) | (refine vc_nilp (by (first | (dsimp only [ln1, ln2, List.append_nil, ln4, ln5, ln6, ln7, ln8, ln9, putAt, putd, allObjs, argEnv, un_v, un_ptr, un_ep, un_pr, un_sl, un_mp, un_row, un_agg, un_tup, un_clo, Nat.zero_add, lnb, Nat.reduceAdd, lnc, lnd]; first | done | exact rfl) | exact rfl)) ?_))
  all_goals exact ⟨.inl rfl, [0], _, rfl, rfl, rfl, ⟨.inr rfl, trivial⟩, by decide, lt1z⟩
theorem num_c (s : St) (hl : (s.getD []).length ≤ 1000000000) : ACall Tryz.prog 38 [.ptr 0 0] (rdH s) (.i (numS s 59 0).1) (rdH (numS s 59 0).2) := by
  have hc := number_c s 59 0 hl
  refine acall T Tryz.func38 rfl rfl rfl rfl ?_
  repeat' (first | refine wS ?_ | refine wB ?_ | refine wK ?_ | refine wR ?_ | refine wE ?_ | refine aw_condt rfl ?_ | refine aw_condf rfl ?_ | (refine wC rfl (fun hb => ?_) (fun hb => ?_) <;> (first | subst hb | ((try simp only [nm] at hb); try (exfalso; omega)))) | (((refine rg 0 ?_)); (all_goals (refine va rfl rfl ?_))) | (((refine rg 1 ?_)); (all_goals (refine vm rfl rfl ?_)); (all_goals first | (refine vc_callw [0] rfl rfl hc rfl rfl (by decide) ⟨.inr rfl, trivial⟩ (by simp) rfl ?_) | (refine vc_v (by first | fail) rfl ?_) | (refine vc_n (by first | fail) rfl ?_)); (all_goals (refine va rfl rfl ?_))) | (refine vc_nilp (by (first | (dsimp only [ln1, ln2, List.append_nil, ln4, ln5, ln6, ln7, ln8, ln9, putAt, putd, allObjs, argEnv, un_v, un_ptr, un_ep, un_pr, un_sl, un_mp, un_row, un_agg, un_tup, un_clo, Nat.zero_add, lnb, Nat.reduceAdd, lnc, lnd]; first | done | exact rfl) | exact rfl)) ?_))
  all_goals exact ⟨.inl rfl, [0], _, rfl, rfl, rfl, ⟨.inr rfl, trivial⟩, by decide, lt1z⟩
theorem left_c (s : St) : ACall Tryz.prog 39 [.ptr 0 0] (rdH s) (.i (s.getD []).length) (rdH s) := by
  refine acall T Tryz.func39 rfl rfl rfl rfl ?_
  repeat' (first | refine wS ?_ | refine wB ?_ | refine wK ?_ | refine wR ?_ | refine wE ?_ | refine aw_condt rfl ?_ | refine aw_condf rfl ?_ | (refine wC rfl (fun hb => ?_) (fun hb => ?_) <;> (first | subst hb | ((try simp only [nm] at hb); try (exfalso; omega)))) | (((refine rg 0 ?_)); (all_goals (refine va rfl rfl ?_))) | (((refine rg 1 ?_)); (all_goals (refine vm rfl rfl ?_; refine vN rfl rfl rfl ?_; refine vF T rfl rfl rfl rfl ?_; refine vL T rfl rfl rfl rfl rfl ?_; refine vc_v (by first | exact fs_lenOwn T rfl rfl | exact fs_lenRow T rfl rfl | exact fs_lenNil T rfl rfl | exact fs_lenS strT rfl) rfl ?_; refine va rfl rfl ?_))) | (refine vc_nilp (by (first | (dsimp only [ln1, ln2, List.append_nil, ln4, ln5, ln6, ln7, ln8, ln9, putAt, putd, allObjs, argEnv, un_v, un_ptr, un_ep, un_pr, un_sl, un_mp, un_row, un_agg, un_tup, un_clo, Nat.zero_add, lnb, Nat.reduceAdd, lnc, lnd]; first | done | exact rfl) | exact rfl)) ?_))
  all_goals exact ⟨.inl rfl, [0], _, rfl, rfl, rfl, ⟨.inr rfl, trivial⟩, by decide, lt1z⟩
theorem done_c (s : St) : ACall Tryz.prog 42 [.ptr 0 0] (rdH s) (.b (decide (s = some []))) (rdH s) := by
  refine acall T Tryz.func42 rfl rfl rfl rfl ?_
  match s with
  | none =>
    repeat' (first | refine wS ?_ | refine wB ?_ | refine wK ?_ | refine wR ?_ | refine wE ?_ | refine aw_condt rfl ?_ | refine aw_condf rfl ?_ | (refine wC rfl (fun hb => ?_) (fun hb => ?_) <;> (first | subst hb | ((try simp only [nm] at hb); try (exfalso; omega)))) | (((refine rg 0 ?_)); (all_goals (refine va rfl rfl ?_))) | (((refine rg 1 ?_)); (all_goals (refine vm rfl rfl ?_; refine vN rfl rfl rfl ?_; refine vF T rfl rfl rfl rfl ?_; refine vL T rfl rfl rfl rfl rfl ?_; refine vc_v (by exact fs_not rfl) rfl ?_; refine vm rfl rfl ?_)); (all_goals first | (refine vc_gt rfl rfl ?_ rfl; (refine vm rfl rfl ?_)) | (refine vc_gf rfl rfl ?_ rfl) | (refine vc_gu rfl rfl ?_ rfl) | (refine vc_split rfl rfl (fun hb => ?_) (fun hb => ?_) <;> (first | subst hb | (rw [hb]; (try simp only [nm] at hb); try ((exfalso; omega); done))) <;> first | (refine vc_gt rfl rfl ?_ rfl; (refine vm rfl rfl ?_)) | (refine vc_gf rfl rfl ?_ rfl) | (refine vc_gu rfl rfl ?_ rfl))); (all_goals first | (refine vc_gt rfl rfl ?_ rfl; (refine vN rfl rfl rfl ?_)) | (refine vc_gf rfl rfl ?_ rfl) | (refine vc_gu rfl rfl ?_ rfl)); (all_goals first | (refine vc_gt rfl rfl ?_ rfl; (refine vF T rfl rfl rfl rfl ?_)) | (refine vc_gf rfl rfl ?_ rfl) | (refine vc_gu rfl rfl ?_ rfl)); (all_goals first | (refine vc_gt rfl rfl ?_ rfl; (refine vL T rfl rfl rfl rfl rfl ?_)) | (refine vc_gf rfl rfl ?_ rfl) | (refine vc_gu rfl rfl ?_ rfl)); (all_goals first | (refine vc_gt rfl rfl ?_ rfl; (refine vc_v (by exact fs_eql rfl rfl) rfl ?_)) | (refine vc_gf rfl rfl ?_ rfl) | (refine vc_gu rfl rfl ?_ rfl)); (all_goals (refine vc_v (by first | exact fs_pickt rfl rfl | exact fs_pickf rfl rfl | exact fs_pick rfl rfl rfl) rfl ?_; refine va rfl rfl ?_))) | (refine vc_nilp (by (first | (dsimp only [ln1, ln2, List.append_nil, ln4, ln5, ln6, ln7, ln8, ln9, putAt, putd, allObjs, argEnv, un_v, un_ptr, un_ep, un_pr, un_sl, un_mp, un_row, un_agg, un_tup, un_clo, Nat.zero_add, lnb, Nat.reduceAdd, lnc, lnd]; first | done | exact rfl) | exact rfl)) ?_))
    all_goals exact ⟨.inl rfl, [0], _, rfl, rfl, rfl, ⟨.inr rfl, trivial⟩, by decide, lt1z⟩
  | some r =>
    rw [show decide ((some r : St) = some []) = decide (r = []) from by simp]
    repeat' (first | refine wS ?_ | refine wB ?_ | refine wK ?_ | refine wR ?_ | refine wE ?_ | refine aw_condt rfl ?_ | refine aw_condf rfl ?_ | (refine wC rfl (fun hb => ?_) (fun hb => ?_) <;> (first | subst hb | ((try simp only [nm] at hb); try (exfalso; omega)))) | (((refine rg 0 ?_)); (all_goals (refine va rfl rfl ?_))) | (((refine rg 1 ?_)); (all_goals (refine vm rfl rfl ?_; refine vN rfl rfl rfl ?_; refine vF T rfl rfl rfl rfl ?_; refine vL T rfl rfl rfl rfl rfl ?_; refine vc_v (by exact fs_not rfl) rfl ?_; refine vm rfl rfl ?_)); (all_goals first | (refine vc_gt rfl rfl ?_ rfl; (refine vm rfl rfl ?_)) | (refine vc_gf rfl rfl ?_ rfl) | (refine vc_gu rfl rfl ?_ rfl) | (refine vc_split rfl rfl (fun hb => ?_) (fun hb => ?_) <;> (first | subst hb | (rw [hb]; (try simp only [nm] at hb); try ((exfalso; omega); done))) <;> first | (refine vc_gt rfl rfl ?_ rfl; (refine vm rfl rfl ?_)) | (refine vc_gf rfl rfl ?_ rfl) | (refine vc_gu rfl rfl ?_ rfl))); (all_goals first | (refine vc_gt rfl rfl ?_ rfl; (refine vN rfl rfl rfl ?_)) | (refine vc_gf rfl rfl ?_ rfl) | (refine vc_gu rfl rfl ?_ rfl)); (all_goals first | (refine vc_gt rfl rfl ?_ rfl; (refine vF T rfl rfl rfl rfl ?_)) | (refine vc_gf rfl rfl ?_ rfl) | (refine vc_gu rfl rfl ?_ rfl)); (all_goals first | (refine vc_gt rfl rfl ?_ rfl; (refine vL T rfl rfl rfl rfl rfl ?_)) | (refine vc_gf rfl rfl ?_ rfl) | (refine vc_gu rfl rfl ?_ rfl)); (all_goals first | (refine vc_gt rfl rfl ?_ rfl; (refine vc_v (by first | exact fs_eql rfl rfl | exact fs_eqlS (a := r) (b := []) rfl rfl) rfl ?_)) | (refine vc_gf rfl rfl ?_ rfl) | (refine vc_gu rfl rfl ?_ rfl)); (all_goals (refine vc_v (by first | exact fs_pickt rfl rfl | exact fs_pickf rfl rfl | exact fs_pick rfl rfl rfl) rfl ?_; refine va rfl rfl ?_))) | (refine vc_nilp (by (first | (dsimp only [ln1, ln2, List.append_nil, ln4, ln5, ln6, ln7, ln8, ln9, putAt, putd, allObjs, argEnv, un_v, un_ptr, un_ep, un_pr, un_sl, un_mp, un_row, un_agg, un_tup, un_clo, Nat.zero_add, lnb, Nat.reduceAdd, lnc, lnd]; first | done | exact rfl) | exact rfl)) ?_))
    all_goals exact ⟨.inl rfl, [0], _, rfl, rfl, rfl, ⟨.inr rfl, trivial⟩, by decide, lt1z⟩
theorem lt1q : ∀ i : Nat, i < 1 → ([0, 1] : List Nat)[i]? = some i := by decide
theorem lt1z2 : ∀ i : Nat, i < 1 → ([0, 2] : List Nat)[i]? = some i := by decide
theorem lt1z3 : ∀ i : Nat, i < 1 → ([0, 3] : List Nat)[i]? = some i := by decide
theorem intS_len (r : List UInt8) : (intS (some r)).2 = none ∨ ∃ r', (intS (some r)).2 = some r' ∧ r'.length + 2 ≤ r.length := by
  cases h : (intS (some r)).2 with
  | none => exact .inl rfl
  | some r' =>
    obtain ⟨r0, e, _, h3⟩ := numS_len h
    cases e
    exact .inr ⟨r', rfl, h3⟩
theorem itemsL_len : ∀ (k : Nat) (s : St), 2 * (itemsL k s).1.length + ((itemsL k s).2.getD []).length ≤ (s.getD []).length + 2
  | 0, s => by simp [itemsL]
  | k + 1, none => by simp [itemsL]
  | k + 1, some r => by
    have ih := itemsL_len k (intS (some r)).2
    show 2 * ((intS (some r)).1 :: (itemsL k (intS (some r)).2).1).length + ((itemsL k (intS (some r)).2).2.getD []).length ≤ r.length + 2
    rw [List.length_cons]
    rcases intS_len r with h | ⟨r', h, hl⟩
    · rw [h, itemsL_none]
      simp
    · rw [h] at ih ⊢
      have e : ((some r' : St).getD []).length = r'.length := rfl
      omega
theorem numS_lenLe {s : St} {e : UInt8} {lo : Int} : (numS s e lo).2 = none ∨ ((numS s e lo).2.getD []).length + 2 ≤ (s.getD []).length := by
  cases h : (numS s e lo).2 with
  | none => exact .inl rfl
  | some r =>
    obtain ⟨r0, rfl, _, h3⟩ := numS_len h
    exact .inr h3
theorem numsS_len (s : St) : 2 * (numsS s).1.length + ((numsS s).2.getD []).length ≤ (s.getD []).length := by
  unfold numsS
  dsimp only
  split
  · simp
  · rename_i ht
    have hi := itemsL_len (numS s 91 0).1.toNat (numS s 91 0).2
    have hc : ∀ t : St, ((closeS t 93).getD []).length ≤ (t.getD []).length := fun t => by
      match t with
      | none => simp [closeS]
      | some [] => simp [closeS]
      | some (c :: r) =>
        unfold closeS
        dsimp only
        split <;> simp
    have h2 := hc (itemsL (numS s 91 0).1.toNat (numS s 91 0).2).2
    rcases numS_lenLe (s := s) (e := 91) (lo := 0) with h | h
    · exfalso
      rw [h, itemsL_none] at ht
      exact ht rfl
    · dsimp only
      omega
theorem numS_ge (s : St) (e : UInt8) : 0 ≤ (numS s e 0).1 := by
  unfold numS
  split
  · rename_i n r h
    have := (numP_some h).2.1
    split <;> simp <;> omega
  · simp
theorem items_c (s : St) (hl : (s.getD []).length ≤ 100000000) :
    ACall Tryz.prog 72 [.ptr 0 0, .clo (.func 40) [.ptr 0 0] []] (rdH s) (.sl 1 0 (numsS s).1.length 1) (rdH (numsS s).2 ++ [.arr (ints (numsS s).1) 1]) := by
  have hc := number_c s 91 0 (by omega)
  have hn0 := numS_ge s 91
  have hn1 := (numS_I64 s 91 0).2
  have hlen := numS_getD s 91 0
  have htot : numsS s = (if (closeS (itemsL (numS s 91 0).1.toNat (numS s 91 0).2).2 93).isNone then ([], none) else ((itemsL (numS s 91 0).1.toNat (numS s 91 0).2).1, closeS (itemsL (numS s 91 0).1.toNat (numS s 91 0).2).2 93)) := rfl
  rw [htot]
  clear htot
  generalize (numS s 91 0).1 = n at *
  generalize (numS s 91 0).2 = s1 at *
  have hil := itemsL_len n.toNat s1
  refine acall T Tryz.func72 rfl rfl rfl rfl ?_
  repeat' (first | refine wS ?_ | refine wB ?_ | refine wK ?_ | refine wR ?_ | refine wE ?_ | refine aw_condt rfl ?_ | refine aw_condf rfl ?_ | (refine wC rfl (fun hb => ?_) (fun hb => ?_) <;> (first | subst hb | ((try simp only [nm] at hb); try (exfalso; omega)))) | (((refine rg 0 ?_)); (all_goals (refine va rfl rfl ?_))) | (((refine rg 1 ?_)); (all_goals (refine va rfl rfl ?_))) | (((refine rg 2 ?_)); (all_goals (refine vm rfl rfl ?_)); (all_goals first | (refine vc_callw [0] rfl rfl hc rfl rfl (by decide) ⟨.inr rfl, trivial⟩ (by simp) rfl ?_) | (refine vc_v (by first | fail) rfl ?_) | (refine vc_n (by first | fail) rfl ?_)); (all_goals (refine va rfl rfl ?_))) | (refine vc_nilp (by (first | (dsimp only [ln1, ln2, List.append_nil, ln4, ln5, ln6, ln7, ln8, ln9, putAt, putd, allObjs, argEnv, un_v, un_ptr, un_ep, un_pr, un_sl, un_mp, un_row, un_agg, un_tup, un_clo, Nat.zero_add, lnb, Nat.reduceAdd, lnc, lnd]; first | done | exact rfl) | exact rfl)) ?_))
  refine aw_own 5 1 rfl (by decide) ?_
  refine aw_loop (X := {p : List Int × Nat × St // itemsL n.toNat s1 = (p.1 ++ (itemsL p.2.1 p.2.2).1, (itemsL p.2.1 p.2.2).2) ∧ p.2.1 ≤ n.toNat ∧ (p.2.2.getD []).length ≤ (s1.getD []).length}) (fun p => [(0, .ptr 0 0), (1, .clo (.func 40) [.ptr 0 0] []), (5, .sl 1 0 p.1.1.length 1), (6, .i (p.1.2.1 : Int))]) (fun p => [.cells [.s (p.1.2.2.getD []), .b p.1.2.2.isNone], .arr (ints p.1.1) 1]) (fun p => p.1.2.1) ⟨([], n.toNat, s1), by simp, Nat.le_refl _, Nat.le_refl _⟩ ⟨[0, 1], rfl, (by dsimp only; rw [Int.toNat_of_nonneg hn0]; (repeat (first | exact trivial | refine ⟨rfl, ?_⟩))), ⟨.inr rfl, .inr rfl, trivial⟩, by decide, lt1q⟩ ?_
  rintro ⟨⟨out, k, t⟩, h1, h2, h3⟩
  dsimp only at h1 h2 h3 ⊢
  have hend : (k = 0 ∨ t = none) → itemsL n.toNat s1 = (out, t) := fun h => by
    rw [h1]
    rcases h with h | h
    · subst h; simp [itemsL]
    · subst h; rw [itemsL_none]; simp
  cases t with
  | none =>
    have he := hend (.inr rfl)
    rw [he]
    have cC := close_c none 93
    by_cases hk : 0 < (k : Int)
    · repeat' (first | refine wS ?_ | refine wB ?_ | refine wK ?_ | refine wR ?_ | refine wE ?_ | refine aw_condt rfl ?_ | refine aw_condf rfl ?_ | (refine wC rfl (fun hb => ?_) (fun hb => ?_) <;> (first | subst hb | ((try simp only [nm] at hb); try (exfalso; omega)))) | (((refine rg 3 ?_)); (all_goals (refine vm rfl rfl ?_; refine vc_v (by exact fs_gtr rfl rfl) rfl ?_; refine vm rfl rfl ?_)); (all_goals first | (refine vc_gt rfl rfl ?_ rfl; (refine vm rfl rfl ?_)) | (refine vc_gf rfl rfl ?_ rfl) | (refine vc_gu rfl rfl ?_ rfl) | (refine vc_split rfl rfl (fun hb => ?_) (fun hb => ?_) <;> (first | subst hb | (rw [hb]; (try simp only [nm] at hb); try ((exfalso; omega); done))) <;> first | (refine vc_gt rfl rfl ?_ rfl; (refine vm rfl rfl ?_)) | (refine vc_gf rfl rfl ?_ rfl) | (refine vc_gu rfl rfl ?_ rfl))); (all_goals first | (refine vc_gt rfl rfl ?_ rfl; (refine vN rfl rfl rfl ?_)) | (refine vc_gf rfl rfl ?_ rfl) | (refine vc_gu rfl rfl ?_ rfl)); (all_goals first | (refine vc_gt rfl rfl ?_ rfl; (refine vF T rfl rfl rfl rfl ?_)) | (refine vc_gf rfl rfl ?_ rfl) | (refine vc_gu rfl rfl ?_ rfl)); (all_goals first | (refine vc_gt rfl rfl ?_ rfl; (refine vL T rfl rfl rfl rfl rfl ?_)) | (refine vc_gf rfl rfl ?_ rfl) | (refine vc_gu rfl rfl ?_ rfl)); (all_goals first | (refine vc_gt rfl rfl ?_ rfl; (refine vc_v (by exact fs_not rfl) rfl ?_)) | (refine vc_gf rfl rfl ?_ rfl) | (refine vc_gu rfl rfl ?_ rfl)); (all_goals (refine vc_v (by first | exact fs_pickt rfl rfl | exact fs_pickf rfl rfl | exact fs_pick rfl rfl rfl) rfl ?_))) | (((refine rg 6 ?_)); (all_goals (refine vm rfl rfl ?_)); (all_goals first | (refine vc_callw [0] rfl rfl cC rfl rfl (by decide) ⟨.inr rfl, trivial⟩ (by simp) rfl ?_) | (refine vc_v (by first | fail) rfl ?_) | (refine vc_n (by first | fail) rfl ?_))) | (((refine rg 7 ?_)); (all_goals (refine vm rfl rfl ?_; refine vN rfl rfl rfl ?_; refine vF T rfl rfl rfl rfl ?_; refine vL T rfl rfl rfl rfl rfl ?_))) | (refine vc_nilp (by (first | (dsimp only [ln1, ln2, List.append_nil, ln4, ln5, ln6, ln7, ln8, ln9, putAt, putd, allObjs, argEnv, un_v, un_ptr, un_ep, un_pr, un_sl, un_mp, un_row, un_agg, un_tup, un_clo, Nat.zero_add, lnb, Nat.reduceAdd, lnc, lnd]; first | done | exact rfl) | exact rfl)) ?_))
      all_goals try (exfalso; omega)
      all_goals (refine aw_region (id := 8) ?_; refine vc_v (by exact fs_assign rfl) rfl ?_; refine vc_own 4 1 rfl (by decide) ?_; refine vc_nil ?_)
      all_goals repeat' (first | (refine aw_seq ?_) | (refine aw_block ?_) | (refine aw_skip ?_) | (refine aw_ret ?_) | (refine aw_exit ?_))
      all_goals exact ⟨.inl rfl, [0, 2], _, rfl, rfl, rfl, ⟨.inr rfl, .inr rfl, trivial⟩, by decide, lt1z2⟩
    · repeat' (first | refine wS ?_ | refine wB ?_ | refine wK ?_ | refine wR ?_ | refine wE ?_ | refine aw_condt rfl ?_ | refine aw_condf rfl ?_ | (refine wC rfl (fun hb => ?_) (fun hb => ?_) <;> (first | subst hb | ((try simp only [nm] at hb); try (exfalso; omega)))) | (((refine rg 3 ?_)); (all_goals (refine vm rfl rfl ?_; refine vc_v (by exact fs_gtr rfl rfl) rfl ?_; refine vm rfl rfl ?_)); (all_goals first | (refine vc_gt rfl rfl ?_ rfl; (refine vm rfl rfl ?_)) | (refine vc_gf rfl rfl ?_ rfl) | (refine vc_gu rfl rfl ?_ rfl) | (refine vc_split rfl rfl (fun hb => ?_) (fun hb => ?_) <;> (first | subst hb | (rw [hb]; (try simp only [nm] at hb); try ((exfalso; omega); done))) <;> first | (refine vc_gt rfl rfl ?_ rfl; (refine vm rfl rfl ?_)) | (refine vc_gf rfl rfl ?_ rfl) | (refine vc_gu rfl rfl ?_ rfl))); (all_goals first | (refine vc_gt rfl rfl ?_ rfl; (refine vN rfl rfl rfl ?_)) | (refine vc_gf rfl rfl ?_ rfl) | (refine vc_gu rfl rfl ?_ rfl)); (all_goals first | (refine vc_gt rfl rfl ?_ rfl; (refine vF T rfl rfl rfl rfl ?_)) | (refine vc_gf rfl rfl ?_ rfl) | (refine vc_gu rfl rfl ?_ rfl)); (all_goals first | (refine vc_gt rfl rfl ?_ rfl; (refine vL T rfl rfl rfl rfl rfl ?_)) | (refine vc_gf rfl rfl ?_ rfl) | (refine vc_gu rfl rfl ?_ rfl)); (all_goals first | (refine vc_gt rfl rfl ?_ rfl; (refine vc_v (by exact fs_not rfl) rfl ?_)) | (refine vc_gf rfl rfl ?_ rfl) | (refine vc_gu rfl rfl ?_ rfl)); (all_goals (refine vc_v (by first | exact fs_pickt rfl rfl | exact fs_pickf rfl rfl | exact fs_pick rfl rfl rfl) rfl ?_))) | (((refine rg 6 ?_)); (all_goals (refine vm rfl rfl ?_)); (all_goals first | (refine vc_callw [0] rfl rfl cC rfl rfl (by decide) ⟨.inr rfl, trivial⟩ (by simp) rfl ?_) | (refine vc_v (by first | fail) rfl ?_) | (refine vc_n (by first | fail) rfl ?_))) | (((refine rg 7 ?_)); (all_goals (refine vm rfl rfl ?_; refine vN rfl rfl rfl ?_; refine vF T rfl rfl rfl rfl ?_; refine vL T rfl rfl rfl rfl rfl ?_))) | (refine vc_nilp (by (first | (dsimp only [ln1, ln2, List.append_nil, ln4, ln5, ln6, ln7, ln8, ln9, putAt, putd, allObjs, argEnv, un_v, un_ptr, un_ep, un_pr, un_sl, un_mp, un_row, un_agg, un_tup, un_clo, Nat.zero_add, lnb, Nat.reduceAdd, lnc, lnd]; first | done | exact rfl) | exact rfl)) ?_))
      all_goals try (exfalso; omega)
      all_goals (refine aw_region (id := 8) ?_; refine vc_v (by exact fs_assign rfl) rfl ?_; refine vc_own 4 1 rfl (by decide) ?_; refine vc_nil ?_)
      all_goals repeat' (first | (refine aw_seq ?_) | (refine aw_block ?_) | (refine aw_skip ?_) | (refine aw_ret ?_) | (refine aw_exit ?_))
      all_goals exact ⟨.inl rfl, [0, 2], _, rfl, rfl, rfl, ⟨.inr rfl, .inr rfl, trivial⟩, by decide, lt1z2⟩
  | some r =>
    cases k with
    | succ k =>
      have hi := int_c (some r) (by have : ((some r : St).getD []).length = r.length := rfl; omega)
      have hs : itemsL (k + 1) (some r) = ((intS (some r)).1 :: (itemsL k (intS (some r)).2).1, (itemsL k (intS (some r)).2).2) := rfl
      rw [hs] at h1
      have hle := numS_getD (some r) 59 (-9223372036854775808)
      change ((intS (some r)).2.getD []).length ≤ _ at hle
      have hol : out.length ≤ 100000000 := by
        have := hil
        rw [h1] at this
        simp only [List.length_append] at this
        omega
      generalize (intS (some r)).1 = v at *
      generalize (intS (some r)).2 = t' at *
      repeat' (first | refine wS ?_ | refine wB ?_ | refine wK ?_ | refine wR ?_ | refine wE ?_ | refine aw_condt rfl ?_ | refine aw_condf rfl ?_ | (refine wC rfl (fun hb => ?_) (fun hb => ?_) <;> (first | subst hb | ((try simp only [nm] at hb); try (exfalso; omega)))) | (((refine rg 3 ?_)); (all_goals (refine vm rfl rfl ?_; refine vc_v (by exact fs_gtr rfl rfl) rfl ?_; refine vm rfl rfl ?_)); (all_goals first | (refine vc_gt rfl rfl ?_ rfl; (refine vm rfl rfl ?_)) | (refine vc_gf rfl rfl ?_ rfl) | (refine vc_gu rfl rfl ?_ rfl) | (refine vc_split rfl rfl (fun hb => ?_) (fun hb => ?_) <;> (first | subst hb | (rw [hb]; (try simp only [nm] at hb); try ((exfalso; omega); done))) <;> first | (refine vc_gt rfl rfl ?_ rfl; (refine vm rfl rfl ?_)) | (refine vc_gf rfl rfl ?_ rfl) | (refine vc_gu rfl rfl ?_ rfl))); (all_goals first | (refine vc_gt rfl rfl ?_ rfl; (refine vN rfl rfl rfl ?_)) | (refine vc_gf rfl rfl ?_ rfl) | (refine vc_gu rfl rfl ?_ rfl)); (all_goals first | (refine vc_gt rfl rfl ?_ rfl; (refine vF T rfl rfl rfl rfl ?_)) | (refine vc_gf rfl rfl ?_ rfl) | (refine vc_gu rfl rfl ?_ rfl)); (all_goals first | (refine vc_gt rfl rfl ?_ rfl; (refine vL T rfl rfl rfl rfl rfl ?_)) | (refine vc_gf rfl rfl ?_ rfl) | (refine vc_gu rfl rfl ?_ rfl)); (all_goals first | (refine vc_gt rfl rfl ?_ rfl; (refine vc_v (by exact fs_not rfl) rfl ?_)) | (refine vc_gf rfl rfl ?_ rfl) | (refine vc_gu rfl rfl ?_ rfl)); (all_goals (refine vc_v (by first | exact fs_pickt rfl rfl | exact fs_pickf rfl rfl | exact fs_pick rfl rfl rfl) rfl ?_))) | (((refine rg 5 ?_)); (all_goals (refine vm rfl rfl ?_; refine vm rfl rfl ?_)); (all_goals first | (refine vc_callw [0] rfl rfl hi rfl rfl (by decide) ⟨.inr rfl, trivial⟩ (by simp) rfl ?_) | (refine vc_v (by first | fail) rfl ?_) | (refine vc_n (by first | fail) rfl ?_)); (all_goals (refine vc_n (by exact fs_buildSlice T rfl rfl (by decide) (by decide) rfl rfl rfl) rfl ?_; refine vc_append T rfl rfl rfl rfl rfl rfl (by simp) (Elems.whole rfl rfl) rfl (by simp; omega) (by simp; omega) rfl ?_; refine va rfl rfl ?_))) | (((refine rg 4 ?_)); (all_goals (refine vm rfl rfl ?_; refine vc_v (by first | exact fs_subr rfl rfl (by omega) (by omega) | exact fs_sub rfl rfl) rfl ?_; refine va rfl rfl ?_))) | (refine vc_nilp (by (first | (dsimp only [ln1, ln2, List.append_nil, ln4, ln5, ln6, ln7, ln8, ln9, putAt, putd, allObjs, argEnv, un_v, un_ptr, un_ep, un_pr, un_sl, un_mp, un_row, un_agg, un_tup, un_clo, Nat.zero_add, lnb, Nat.reduceAdd, lnc, lnd]; first | done | exact rfl) | exact rfl)) ?_))
      all_goals first | (exfalso; omega) | exact ⟨⟨(out ++ [v], k, t'), by rw [h1]; simp, by dsimp only; omega, by dsimp only; omega⟩, by dsimp only; omega, [0, 3], rfl, ⟨rfl, rfl, by dsimp only; rw [show (out ++ [v]).length = out.length + 1 by simp]; rfl, congrArg (fun x => some (AV.i x)) (show ((k + 1 : Nat) : Int) - 1 = (k : Int) by omega), trivial⟩, ⟨.inr rfl, .inr (sub_arr rfl ((app_one (by simp)).trans (by dsimp only; exact ints_snoc _ _)) (ints_idf _)), trivial⟩, by decide, lt1z3⟩
    | zero =>
      have he := hend (.inl rfl)
      rw [he]
      have cC := close_c (some r) 93
      have hk : ¬ 0 < ((0 : Nat) : Int) := by decide
      dsimp only
      cases hcl : closeS (some r) 93 with
      | none =>
        rw [hcl] at cC
        repeat' (first | refine wS ?_ | refine wB ?_ | refine wK ?_ | refine wR ?_ | refine wE ?_ | refine aw_condt rfl ?_ | refine aw_condf rfl ?_ | (refine wC rfl (fun hb => ?_) (fun hb => ?_) <;> (first | subst hb | ((try simp only [nm] at hb); try (exfalso; omega)))) | (((refine rg 3 ?_)); (all_goals (refine vm rfl rfl ?_; refine vc_v (by exact fs_gtr rfl rfl) rfl ?_; refine vm rfl rfl ?_)); (all_goals first | (refine vc_gt rfl rfl ?_ rfl; (refine vm rfl rfl ?_)) | (refine vc_gf rfl rfl ?_ rfl) | (refine vc_gu rfl rfl ?_ rfl) | (refine vc_split rfl rfl (fun hb => ?_) (fun hb => ?_) <;> (first | subst hb | (rw [hb]; (try simp only [nm] at hb); try ((exfalso; omega); done))) <;> first | (refine vc_gt rfl rfl ?_ rfl; (refine vm rfl rfl ?_)) | (refine vc_gf rfl rfl ?_ rfl) | (refine vc_gu rfl rfl ?_ rfl))); (all_goals first | (refine vc_gt rfl rfl ?_ rfl; (refine vN rfl rfl rfl ?_)) | (refine vc_gf rfl rfl ?_ rfl) | (refine vc_gu rfl rfl ?_ rfl)); (all_goals first | (refine vc_gt rfl rfl ?_ rfl; (refine vF T rfl rfl rfl rfl ?_)) | (refine vc_gf rfl rfl ?_ rfl) | (refine vc_gu rfl rfl ?_ rfl)); (all_goals first | (refine vc_gt rfl rfl ?_ rfl; (refine vL T rfl rfl rfl rfl rfl ?_)) | (refine vc_gf rfl rfl ?_ rfl) | (refine vc_gu rfl rfl ?_ rfl)); (all_goals first | (refine vc_gt rfl rfl ?_ rfl; (refine vc_v (by exact fs_not rfl) rfl ?_)) | (refine vc_gf rfl rfl ?_ rfl) | (refine vc_gu rfl rfl ?_ rfl)); (all_goals (refine vc_v (by first | exact fs_pickt rfl rfl | exact fs_pickf rfl rfl | exact fs_pick rfl rfl rfl) rfl ?_))) | (((refine rg 6 ?_)); (all_goals (refine vm rfl rfl ?_)); (all_goals first | (refine vc_callw [0] rfl rfl cC rfl rfl (by decide) ⟨.inr rfl, trivial⟩ (by simp) rfl ?_) | (refine vc_v (by first | fail) rfl ?_) | (refine vc_n (by first | fail) rfl ?_))) | (((refine rg 7 ?_)); (all_goals (refine vm rfl rfl ?_; refine vN rfl rfl rfl ?_; refine vF T rfl rfl rfl rfl ?_; refine vL T rfl rfl rfl rfl rfl ?_))) | (refine vc_nilp (by (first | (dsimp only [ln1, ln2, List.append_nil, ln4, ln5, ln6, ln7, ln8, ln9, putAt, putd, allObjs, argEnv, un_v, un_ptr, un_ep, un_pr, un_sl, un_mp, un_row, un_agg, un_tup, un_clo, Nat.zero_add, lnb, Nat.reduceAdd, lnc, lnd]; first | done | exact rfl) | exact rfl)) ?_))
        all_goals try (exfalso; omega)
        all_goals (refine aw_region (id := 8) ?_; refine vc_v (by exact fs_assign rfl) rfl ?_; refine vc_own 4 1 rfl (by decide) ?_; refine vc_nil ?_)
        all_goals repeat' (first | (refine aw_seq ?_) | (refine aw_block ?_) | (refine aw_skip ?_) | (refine aw_ret ?_) | (refine aw_exit ?_))
        all_goals exact ⟨.inl rfl, [0, 2], _, rfl, rfl, rfl, ⟨.inr rfl, .inr rfl, trivial⟩, by decide, lt1z2⟩
      | some r' =>
        rw [hcl] at cC
        repeat' (first | refine wS ?_ | refine wB ?_ | refine wK ?_ | refine wR ?_ | refine wE ?_ | refine aw_condt rfl ?_ | refine aw_condf rfl ?_ | (refine wC rfl (fun hb => ?_) (fun hb => ?_) <;> (first | subst hb | ((try simp only [nm] at hb); try (exfalso; omega)))) | (((refine rg 3 ?_)); (all_goals (refine vm rfl rfl ?_; refine vc_v (by exact fs_gtr rfl rfl) rfl ?_; refine vm rfl rfl ?_)); (all_goals first | (refine vc_gt rfl rfl ?_ rfl; (refine vm rfl rfl ?_)) | (refine vc_gf rfl rfl ?_ rfl) | (refine vc_gu rfl rfl ?_ rfl) | (refine vc_split rfl rfl (fun hb => ?_) (fun hb => ?_) <;> (first | subst hb | (rw [hb]; (try simp only [nm] at hb); try ((exfalso; omega); done))) <;> first | (refine vc_gt rfl rfl ?_ rfl; (refine vm rfl rfl ?_)) | (refine vc_gf rfl rfl ?_ rfl) | (refine vc_gu rfl rfl ?_ rfl))); (all_goals first | (refine vc_gt rfl rfl ?_ rfl; (refine vN rfl rfl rfl ?_)) | (refine vc_gf rfl rfl ?_ rfl) | (refine vc_gu rfl rfl ?_ rfl)); (all_goals first | (refine vc_gt rfl rfl ?_ rfl; (refine vF T rfl rfl rfl rfl ?_)) | (refine vc_gf rfl rfl ?_ rfl) | (refine vc_gu rfl rfl ?_ rfl)); (all_goals first | (refine vc_gt rfl rfl ?_ rfl; (refine vL T rfl rfl rfl rfl rfl ?_)) | (refine vc_gf rfl rfl ?_ rfl) | (refine vc_gu rfl rfl ?_ rfl)); (all_goals first | (refine vc_gt rfl rfl ?_ rfl; (refine vc_v (by exact fs_not rfl) rfl ?_)) | (refine vc_gf rfl rfl ?_ rfl) | (refine vc_gu rfl rfl ?_ rfl)); (all_goals (refine vc_v (by first | exact fs_pickt rfl rfl | exact fs_pickf rfl rfl | exact fs_pick rfl rfl rfl) rfl ?_))) | (((refine rg 6 ?_)); (all_goals (refine vm rfl rfl ?_)); (all_goals first | (refine vc_callw [0] rfl rfl cC rfl rfl (by decide) ⟨.inr rfl, trivial⟩ (by simp) rfl ?_) | (refine vc_v (by first | fail) rfl ?_) | (refine vc_n (by first | fail) rfl ?_))) | (((refine rg 7 ?_)); (all_goals (refine vm rfl rfl ?_; refine vN rfl rfl rfl ?_; refine vF T rfl rfl rfl rfl ?_; refine vL T rfl rfl rfl rfl rfl ?_))) | (((refine rg 9 ?_)); (all_goals (refine vm rfl rfl ?_; refine va rfl rfl ?_))) | (refine vc_nilp (by (first | (dsimp only [ln1, ln2, List.append_nil, ln4, ln5, ln6, ln7, ln8, ln9, putAt, putd, allObjs, argEnv, un_v, un_ptr, un_ep, un_pr, un_sl, un_mp, un_row, un_agg, un_tup, un_clo, Nat.zero_add, lnb, Nat.reduceAdd, lnc, lnd]; first | done | exact rfl) | exact rfl)) ?_))
        all_goals try (exfalso; omega)
        all_goals exact ⟨.inl rfl, [0, 1], _, rfl, rfl, rfl, ⟨.inr rfl, .inr (sub_arr rfl rfl (ints_idf _)), trivial⟩, by decide, lt1q⟩
theorem rnums_c (s : St) (hl : (s.getD []).length ≤ 100000000) :
    ACall Tryz.prog 41 [.ptr 0 0] (rdH s) (.sl 1 0 (numsS s).1.length 1) (rdH (numsS s).2 ++ [.arr (ints (numsS s).1) 1]) := by
  have hc := items_c s hl
  refine acall T Tryz.func41 rfl rfl rfl rfl ?_
  repeat' (first | refine wS ?_ | refine wB ?_ | refine wK ?_ | refine wR ?_ | refine wE ?_ | refine aw_condt rfl ?_ | refine aw_condf rfl ?_ | (refine wC rfl (fun hb => ?_) (fun hb => ?_) <;> (first | subst hb | ((try simp only [nm] at hb); try (exfalso; omega)))) | (((refine rg 0 ?_)); (all_goals (refine va rfl rfl ?_))) | (((refine rg 1 ?_)); (all_goals (refine vm rfl rfl ?_; refine vm rfl rfl ?_; refine vc_v (by exact fs_makeFunc rfl rfl) rfl ?_)); (all_goals first | (refine vc_callw [0] rfl rfl hc rfl rfl (by decide) ⟨.inr rfl, trivial⟩ (by simp) rfl ?_) | (refine vc_v (by first | fail) rfl ?_) | (refine vc_n (by first | fail) rfl ?_)); (all_goals (refine va rfl rfl ?_))) | (refine vc_nilp (by (first | (dsimp only [ln1, ln2, List.append_nil, ln4, ln5, ln6, ln7, ln8, ln9, putAt, putd, allObjs, argEnv, un_v, un_ptr, un_ep, un_pr, un_sl, un_mp, un_row, un_agg, un_tup, un_clo, Nat.zero_add, lnb, Nat.reduceAdd, lnc, lnd]; first | done | exact rfl) | exact rfl)) ?_))
  all_goals exact ⟨.inl rfl, [0, 1], _, rfl, rfl, rfl, ⟨.inr rfl, .inr (sub_arr rfl (mapL_idfs _ (ints_idf _)) (ints_idf _)), trivial⟩, by decide, lt1q⟩
end Go.Proofs.YtgnnbmgljadokaaGreatDoor
