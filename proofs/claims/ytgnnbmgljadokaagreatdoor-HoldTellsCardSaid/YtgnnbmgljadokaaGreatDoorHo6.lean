/-
  Layer 17: what is asked before slots change their owners.
-/
import Derived.Test.YtgnnbmgljadokaaGreatDoorHo5
import Derived.Test.YtgnnbmgljadokaaGreatDoorAb50
namespace Go.Proofs.YtgnnbmgljadokaaGreatDoor
open Go Go.Ab Go.Ho Go.MapKept
set_option linter.unusedVariables false
set_option linter.unusedSimpArgs false
attribute [local irreducible] VC AW FStep ACall
set_option maxHeartbeats 4000000

abbrev tbR (m : Tb) : AV := .pr [.mrow (mkV m) (mvV m)] 0
def slotB (n : Int) : Bool := decide (0 ≤ n ∧ n < 8192)
theorem slot_c (n : Int) : ACall Tryz.prog 84 [.i n] [] (.b (slotB n)) [] := by
  refine acall T Tryz.func84 rfl rfl rfl rfl ?_
  by_cases h1 : 0 ≤ n
  · by_cases h2 : n < 8192
    · have e : slotB n = true := decide_eq_true ⟨h1, h2⟩
      rw [e]
      repeat' (first | refine wS ?_ | refine wB ?_ | refine wK ?_ | refine wR ?_ | refine wE ?_ | refine aw_condt rfl ?_ | refine aw_condf rfl ?_ | (refine wC rfl (fun hb => ?_) (fun hb => ?_) <;> (first | subst hb | ((try simp only [nm] at hb); try (exfalso; omega)))) | (((refine rg 0 ?_)); (all_goals (refine va rfl rfl ?_))) | (((refine rg 1 ?_)); (all_goals (refine vm rfl rfl ?_; refine vc_v (by exact fs_geq rfl rfl) rfl ?_; refine vm rfl rfl ?_)); (all_goals first | (refine vc_gt rfl rfl ?_ rfl; (refine vm rfl rfl ?_)) | (refine vc_gf rfl rfl ?_ rfl) | (refine vc_gu rfl rfl ?_ rfl) | (refine vc_split rfl rfl (fun hb => ?_) (fun hb => ?_) <;> (first | subst hb | (rw [hb]; (try simp only [nm] at hb); try ((exfalso; omega); done))) <;> first | (refine vc_gt rfl rfl ?_ rfl; (refine vm rfl rfl ?_)) | (refine vc_gf rfl rfl ?_ rfl) | (refine vc_gu rfl rfl ?_ rfl))); (all_goals first | (refine vc_gt rfl rfl ?_ rfl; (refine vc_v (by exact fs_lss rfl rfl) rfl ?_)) | (refine vc_gf rfl rfl ?_ rfl) | (refine vc_gu rfl rfl ?_ rfl)); (all_goals (refine vc_v (by first | exact fs_pickt rfl rfl | exact fs_pickf rfl rfl | exact fs_pick rfl rfl rfl) rfl ?_; refine va rfl rfl ?_))) | (refine vc_nilp (by (first | (dsimp only [ln1, ln2, List.append_nil, ln4, ln5, ln6, ln7, ln8, ln9, putAt, putd, allObjs, argEnv, un_v, un_ptr, un_ep, un_pr, un_sl, un_mp, un_row, un_agg, un_tup, un_clo, Nat.zero_add, lnb, Nat.reduceAdd, lnc, lnd]; first | done | exact rfl) | exact rfl)) ?_))
      all_goals first | (exfalso; omega) | exact ret_plain (.inl rfl) rfl rfl | exact ret_plain (.inl rfl) rfl (by simp [oneOf, h1, h2]; rfl)
    · have e : slotB n = false := decide_eq_false (fun h => h2 h.2)
      rw [e]
      repeat' (first | refine wS ?_ | refine wB ?_ | refine wK ?_ | refine wR ?_ | refine wE ?_ | refine aw_condt rfl ?_ | refine aw_condf rfl ?_ | (refine wC rfl (fun hb => ?_) (fun hb => ?_) <;> (first | subst hb | ((try simp only [nm] at hb); try (exfalso; omega)))) | (((refine rg 0 ?_)); (all_goals (refine va rfl rfl ?_))) | (((refine rg 1 ?_)); (all_goals (refine vm rfl rfl ?_; refine vc_v (by exact fs_geq rfl rfl) rfl ?_; refine vm rfl rfl ?_)); (all_goals first | (refine vc_gt rfl rfl ?_ rfl; (refine vm rfl rfl ?_)) | (refine vc_gf rfl rfl ?_ rfl) | (refine vc_gu rfl rfl ?_ rfl) | (refine vc_split rfl rfl (fun hb => ?_) (fun hb => ?_) <;> (first | subst hb | (rw [hb]; (try simp only [nm] at hb); try ((exfalso; omega); done))) <;> first | (refine vc_gt rfl rfl ?_ rfl; (refine vm rfl rfl ?_)) | (refine vc_gf rfl rfl ?_ rfl) | (refine vc_gu rfl rfl ?_ rfl))); (all_goals first | (refine vc_gt rfl rfl ?_ rfl; (refine vc_v (by exact fs_lss rfl rfl) rfl ?_)) | (refine vc_gf rfl rfl ?_ rfl) | (refine vc_gu rfl rfl ?_ rfl)); (all_goals (refine vc_v (by first | exact fs_pickt rfl rfl | exact fs_pickf rfl rfl | exact fs_pick rfl rfl rfl) rfl ?_; refine va rfl rfl ?_))) | (refine vc_nilp (by (first | (dsimp only [ln1, ln2, List.append_nil, ln4, ln5, ln6, ln7, ln8, ln9, putAt, putd, allObjs, argEnv, un_v, un_ptr, un_ep, un_pr, un_sl, un_mp, un_row, un_agg, un_tup, un_clo, Nat.zero_add, lnb, Nat.reduceAdd, lnc, lnd]; first | done | exact rfl) | exact rfl)) ?_))
      all_goals first | (exfalso; omega) | exact ret_plain (.inl rfl) rfl rfl | exact ret_plain (.inl rfl) rfl (by simp [oneOf, h1, h2]; rfl)
  · have e : slotB n = false := decide_eq_false (fun h => h1 h.1)
    rw [e]
    repeat' (first | refine wS ?_ | refine wB ?_ | refine wK ?_ | refine wR ?_ | refine wE ?_ | refine aw_condt rfl ?_ | refine aw_condf rfl ?_ | (refine wC rfl (fun hb => ?_) (fun hb => ?_) <;> (first | subst hb | ((try simp only [nm] at hb); try (exfalso; omega)))) | (((refine rg 0 ?_)); (all_goals (refine va rfl rfl ?_))) | (((refine rg 1 ?_)); (all_goals (refine vm rfl rfl ?_; refine vc_v (by exact fs_geq rfl rfl) rfl ?_; refine vm rfl rfl ?_)); (all_goals first | (refine vc_gt rfl rfl ?_ rfl; (refine vm rfl rfl ?_)) | (refine vc_gf rfl rfl ?_ rfl) | (refine vc_gu rfl rfl ?_ rfl) | (refine vc_split rfl rfl (fun hb => ?_) (fun hb => ?_) <;> (first | subst hb | (rw [hb]; (try simp only [nm] at hb); try ((exfalso; omega); done))) <;> first | (refine vc_gt rfl rfl ?_ rfl; (refine vm rfl rfl ?_)) | (refine vc_gf rfl rfl ?_ rfl) | (refine vc_gu rfl rfl ?_ rfl))); (all_goals first | (refine vc_gt rfl rfl ?_ rfl; (refine vc_v (by exact fs_lss rfl rfl) rfl ?_)) | (refine vc_gf rfl rfl ?_ rfl) | (refine vc_gu rfl rfl ?_ rfl)); (all_goals (refine vc_v (by first | exact fs_pickt rfl rfl | exact fs_pickf rfl rfl | exact fs_pick rfl rfl rfl) rfl ?_; refine va rfl rfl ?_))) | (refine vc_nilp (by (first | (dsimp only [ln1, ln2, List.append_nil, ln4, ln5, ln6, ln7, ln8, ln9, putAt, putd, allObjs, argEnv, un_v, un_ptr, un_ep, un_pr, un_sl, un_mp, un_row, un_agg, un_tup, un_clo, Nat.zero_add, lnb, Nat.reduceAdd, lnc, lnd]; first | done | exact rfl) | exact rfl)) ?_))
    all_goals first | (exfalso; omega) | exact ret_plain (.inl rfl) rfl rfl | exact ret_plain (.inl rfl) rfl (by simp [oneOf, h1]; rfl)
theorem chk1_c (n : Int) : ACall Tryz.prog 83 [.i n] [] (.b (!slotB n)) [] := by
  have hc := slot_c n
  refine acall T Tryz.func83 rfl rfl rfl rfl ?_
  repeat' (first | refine wS ?_ | refine wB ?_ | refine wK ?_ | refine wR ?_ | refine wE ?_ | refine aw_condt rfl ?_ | refine aw_condf rfl ?_ | (refine wC rfl (fun hb => ?_) (fun hb => ?_) <;> (first | subst hb | ((try simp only [nm] at hb); try (exfalso; omega)))) | (((refine rg 0 ?_)); (all_goals (refine va rfl rfl ?_))) | (((refine rg 1 ?_)); (all_goals (refine vm rfl rfl ?_; refine vc_v (by exact fs_call0 rfl rfl (hc) rfl rfl rfl) rfl ?_; refine vc_v (by exact fs_not rfl) rfl ?_; refine va rfl rfl ?_))) | (refine vc_nilp (by (first | (dsimp only [ln1, ln2, List.append_nil, ln4, ln5, ln6, ln7, ln8, ln9, putAt, putd, allObjs, argEnv, un_v, un_ptr, un_ep, un_pr, un_sl, un_mp, un_row, un_agg, un_tup, un_clo, Nat.zero_add, lnb, Nat.reduceAdd, lnc, lnd]; first | done | exact rfl) | exact rfl)) ?_))
  all_goals exact ret_plain (.inl rfl) rfl rfl
theorem clo_map {θ : Nat → Nat} {f : Fn} {caps : List AV} (hi : AV.idfL caps = true) : (AV.clo f [] caps).map θ = .clo f [] caps := by
  show AV.clo f (AV.mapL θ []) (AV.mapL θ caps) = _
  rw [mapL_idf θ caps hi]; rfl
theorem index_c {l : List Int} {F : FuncId} {caps : List AV} {p : Int → Bool} (hl : l.length ≤ 100000000) (hi : AV.idfL caps = true) (hF : ∀ x, ACall Tryz.prog F (.i x :: caps) [] (.b (p x)) []) : ∃ r : Int, (0 ≤ r ↔ l.any p = true) ∧
    ACall Tryz.prog 106 [.rowE (ints l) 1, .clo (.func F) [] caps] [] (.i r) [] := by
  have hlen : (ints l).length = l.length := by simp
  have go : ∀ r : Int, (∀ k : Nat, k ≤ l.length → (∀ j, j < k → ∀ x, l[j]? = some x → p x = false) → (k = l.length → r = -1) ∧ (∀ x, l[k]? = some x → p x = true → r = k)) → ACall Tryz.prog 106 [.rowE (ints l) 1, .clo (.func F) [] caps] [] (.i r) [] := by
    intro r hr
    refine acall T Tryz.func106 rfl rfl rfl rfl ?_
    repeat' (first | refine wS ?_ | refine wB ?_ | refine wK ?_ | refine wR ?_ | refine wE ?_ | refine aw_condt rfl ?_ | refine aw_condf rfl ?_ | (refine wC rfl (fun hb => ?_) (fun hb => ?_) <;> (first | subst hb | ((try simp only [nm] at hb); try (exfalso; omega)))) | (((refine rg 0 ?_)); (all_goals (refine va rfl rfl ?_))) | (((refine rg 1 ?_)); (all_goals (refine vm rfl rfl ?_; refine vc_v (by first | exact fs_lenOwn T rfl rfl | exact fs_lenRow T rfl rfl | exact fs_lenNil T rfl rfl) rfl ?_; refine vm rfl rfl ?_))) | (refine vc_nilp (by (first | (dsimp only [ln1, ln2, List.append_nil, ln4, ln5, ln6, ln7, ln8, ln9, putAt, putd, allObjs, argEnv, un_v, un_ptr, un_ep, un_pr, un_sl, un_mp, un_row, un_agg, un_tup, un_clo, Nat.zero_add, lnb, Nat.reduceAdd, lnc, lnd]; first | done | exact rfl) | exact rfl)) ?_))
    refine aw_loop (X := {k : Nat // k ≤ l.length ∧ ∀ j, j < k → ∀ x, l[j]? = some x → p x = false}) (fun k => [(0, .rowE (ints l) 1), (1, .clo (.func F) [] caps), (7, .i (ints l).length), (8, .i k.1)]) (fun _ => []) (fun k => l.length - k.1) ⟨0, by omega, fun j hj => absurd hj (Nat.not_lt_zero _)⟩ ⟨[], rfl, ⟨rfl, by rw [clo_map hi]; rfl, rfl, rfl, trivial⟩, trivial, List.nodup_nil, fun i hi => absurd hi (Nat.not_lt_zero _)⟩ ?_
    rintro ⟨k, hk, hkp⟩
    dsimp only
    have hrk := hr k hk hkp
    by_cases hlt : k < l.length
    · have hg := ints_get hlt
      have hc := hF l[k]
      have hgk : l[k]? = some l[k] := List.getElem?_eq_getElem hlt
      have hstep : p l[k] = false → ∀ j, j < k + 1 → ∀ x, l[j]? = some x → p x = false := fun hpf j hj x hx => by
        rcases Nat.lt_or_ge j k with h1 | h1
        · exact hkp j h1 x hx
        · obtain rfl : j = k := by omega
          rw [hgk] at hx; cases hx; exact hpf
      generalize l[k] = x at *
      cases hpx : p x with
      | true =>
        rw [hpx] at hc
        have hrr := hrk.2 x hgk hpx
        subst hrr
        repeat' (first | refine wS ?_ | refine wB ?_ | refine wK ?_ | refine wR ?_ | refine wE ?_ | refine aw_condt rfl ?_ | refine aw_condf rfl ?_ | (refine wC rfl (fun hb => ?_) (fun hb => ?_) <;> (first | subst hb | ((try simp only [nm] at hb); try (exfalso; omega)))) | (((refine rg 2 ?_)); (all_goals (refine vc_v (by exact fs_lss rfl rfl) rfl ?_))) | (((refine rg 3 ?_)); (all_goals (refine vm rfl rfl ?_; refine va rfl rfl ?_))) | (((refine rg 4 ?_)); (all_goals (refine vm rfl rfl ?_; refine vm rfl rfl ?_; refine vm rfl rfl ?_; refine vc_v (by exact fs_indexRowE T rfl rfl rfl rfl rfl (by omega) (ints_len _) hg) rfl ?_; refine vL T rfl rfl rfl rfl rfl ?_; refine vc_v (by exact fs_call0 rfl rfl hc rfl (by simp [AV.idfL, AV.idf, hi]) rfl) rfl ?_))) | (((refine rg 5 ?_)); (all_goals (refine vm rfl rfl ?_; refine va rfl rfl ?_))) | (refine vc_nilp (by (first | (dsimp only [ln1, ln2, List.append_nil, ln4, ln5, ln6, ln7, ln8, ln9, putAt, putd, allObjs, argEnv, un_v, un_ptr, un_ep, un_pr, un_sl, un_mp, un_row, un_agg, un_tup, un_clo, Nat.zero_add, lnb, Nat.reduceAdd, lnc, lnd]; first | done | exact rfl) | exact rfl)) ?_))
        all_goals first | (exfalso; omega) | exact ret_plain (.inl rfl) rfl rfl
      | false =>
        rw [hpx] at hc
        repeat' (first | refine wS ?_ | refine wB ?_ | refine wK ?_ | refine wR ?_ | refine wE ?_ | refine aw_condt rfl ?_ | refine aw_condf rfl ?_ | (refine wC rfl (fun hb => ?_) (fun hb => ?_) <;> (first | subst hb | ((try simp only [nm] at hb); try (exfalso; omega)))) | (((refine rg 2 ?_)); (all_goals (refine vc_v (by exact fs_lss rfl rfl) rfl ?_))) | (((refine rg 3 ?_)); (all_goals (refine vm rfl rfl ?_; refine va rfl rfl ?_))) | (((refine rg 4 ?_)); (all_goals (refine vm rfl rfl ?_; refine vm rfl rfl ?_; refine vm rfl rfl ?_; refine vc_v (by exact fs_indexRowE T rfl rfl rfl rfl rfl (by omega) (ints_len _) hg) rfl ?_; refine vL T rfl rfl rfl rfl rfl ?_; refine vc_v (by exact fs_call0 rfl rfl hc rfl (by simp [AV.idfL, AV.idf, hi]) rfl) rfl ?_))) | (((refine rg 6 ?_)); (all_goals (refine vc_v (by first | exact fs_addr rfl rfl (by omega) (by omega) | exact fs_add rfl rfl) rfl ?_; refine vm rfl rfl ?_))) | (refine vc_nilp (by (first | (dsimp only [ln1, ln2, List.append_nil, ln4, ln5, ln6, ln7, ln8, ln9, putAt, putd, allObjs, argEnv, un_v, un_ptr, un_ep, un_pr, un_sl, un_mp, un_row, un_agg, un_tup, un_clo, Nat.zero_add, lnb, Nat.reduceAdd, lnc, lnd]; first | done | exact rfl) | exact rfl)) ?_))
        all_goals first | (exfalso; omega) | exact ⟨⟨k + 1, hlt, hstep hpx⟩, by dsimp only; omega, ⟨[], rfl, ⟨rfl, by rw [clo_map hi]; rfl, rfl, rfl, trivial⟩, trivial, List.nodup_nil, fun _ h => absurd h (Nat.not_lt_zero _)⟩⟩
    · have hrr := hrk.1 (by omega)
      subst hrr
      repeat' (first | refine wS ?_ | refine wB ?_ | refine wK ?_ | refine wR ?_ | refine wE ?_ | refine aw_condt rfl ?_ | refine aw_condf rfl ?_ | (refine wC rfl (fun hb => ?_) (fun hb => ?_) <;> (first | subst hb | ((try simp only [nm] at hb); try (exfalso; omega)))) | (((refine rg 2 ?_)); (all_goals (refine vc_v (by exact fs_lss rfl rfl) rfl ?_))) | (((refine rg 7 ?_)); (all_goals (refine va rfl rfl ?_))) | (refine vc_nilp (by (first | (dsimp only [ln1, ln2, List.append_nil, ln4, ln5, ln6, ln7, ln8, ln9, putAt, putd, allObjs, argEnv, un_v, un_ptr, un_ep, un_pr, un_sl, un_mp, un_row, un_agg, un_tup, un_clo, Nat.zero_add, lnb, Nat.reduceAdd, lnc, lnd]; first | done | exact rfl) | exact rfl)) ?_))
      all_goals first | (exfalso; omega) | exact ret_plain (.inl rfl) rfl rfl
  by_cases hex : ∃ (k : Nat) (x : Int), l[k]? = some x ∧ p x = true ∧ ∀ j, j < k → ∀ x, l[j]? = some x → p x = false
  · obtain ⟨k0, x0, h1, h2, h3⟩ := hex
    refine ⟨k0, ⟨fun _ => List.any_eq_true.2 ⟨x0, List.mem_of_getElem? h1, h2⟩, fun _ => by omega⟩, go _ fun k hk hkp => ⟨fun e => ?_, fun x hx hpx => ?_⟩⟩
    · have := (List.getElem?_eq_some_iff.1 h1).1
      have := hkp k0 (by omega) x0 h1
      rw [h2] at this; cases this
    · rcases Nat.lt_trichotomy k k0 with h | h | h
      · have := h3 k h x hx; rw [hpx] at this; cases this
      · rw [h]
      · have := hkp k0 h x0 h1; rw [h2] at this; cases this
  · have hno : ∀ k : Nat, ∀ j : Nat, j < k → ∀ x : Int, l[j]? = some x → p x = false := by
      intro k
      induction k with
      | zero => exact fun j hj => absurd hj (Nat.not_lt_zero _)
      | succ k ih =>
        intro j hj x hx
        rcases Nat.lt_or_ge j k with h | h
        · exact ih j h x hx
        · obtain rfl : j = k := by omega
          cases hpx : p x with
          | false => rfl
          | true => exact absurd ⟨j, x, hx, hpx, ih⟩ hex
    refine ⟨-1, ⟨fun h => by omega, fun h => ?_⟩, go _ fun k hk hkp => ⟨fun _ => rfl, fun x hx hpx => ?_⟩⟩
    · obtain ⟨x, hx, hpx⟩ := List.any_eq_true.1 h
      obtain ⟨j, hj⟩ := List.mem_iff_getElem?.1 hx
      have := hno (j + 1) j (by omega) x hj
      rw [hpx] at this; cases this
    · have := hno (k + 1) k (by omega) x hx
      rw [hpx] at this; cases this
theorem contains_c {l : List Int} {F : FuncId} {caps : List AV} {p : Int → Bool} (hl : l.length ≤ 100000000) (hi : AV.idfL caps = true) (hF : ∀ x, ACall Tryz.prog F (.i x :: caps) [] (.b (p x)) []) :
    ACall Tryz.prog 82 [.rowE (ints l) 1, .clo (.func F) [] caps] [] (.b (l.any p)) [] := by
  obtain ⟨r, hr, hc⟩ := index_c hl hi hF
  have e : decide (r ≥ 0) = l.any p := by
    rw [Bool.eq_iff_iff, decide_eq_true_eq]; exact hr
  rw [← e]
  refine acall T Tryz.func82 rfl rfl rfl rfl ?_
  repeat' (first | refine wS ?_ | refine wB ?_ | refine wK ?_ | refine wR ?_ | refine wE ?_ | refine aw_condt rfl ?_ | refine aw_condf rfl ?_ | (refine wC rfl (fun hb => ?_) (fun hb => ?_) <;> (first | subst hb | ((try simp only [nm] at hb); try (exfalso; omega)))) | (((refine rg 0 ?_)); (all_goals (refine va rfl rfl ?_))) | (((refine rg 1 ?_)); (all_goals (refine vm rfl rfl ?_; refine vm rfl rfl ?_; refine vc_v (by exact fs_call0 rfl rfl hc rfl (by simp [AV.idfL, AV.idf, hi]) rfl) rfl ?_; refine vc_v (by exact fs_geq rfl rfl) rfl ?_; refine va rfl rfl ?_))) | (refine vc_nilp (by (first | (dsimp only [ln1, ln2, List.append_nil, ln4, ln5, ln6, ln7, ln8, ln9, putAt, putd, allObjs, argEnv, un_v, un_ptr, un_ep, un_pr, un_sl, un_mp, un_row, un_agg, un_tup, un_clo, Nat.zero_add, lnb, Nat.reduceAdd, lnc, lnd]; first | done | exact rfl) | exact rfl)) ?_))
  all_goals first | (exfalso; omega) | exact ret_plain (.inl rfl) rfl rfl
theorem ownerR_c {m : Tb} (h : Ok m) (n : Int) : ACall Tryz.prog 15 [tbR m, .i n] [] (.i (own m n)) [] := by
  refine acall T Tryz.func15 rfl rfl rfl rfl ?_
  by_cases hn : n ∈ kk m
  · obtain ⟨i, h1, h2, _⟩ := mk_at h hn
    repeat' (first | refine wS ?_ | refine wB ?_ | refine wK ?_ | refine wR ?_ | refine wE ?_ | refine aw_condt rfl ?_ | refine aw_condf rfl ?_ | (refine wC rfl (fun hb => ?_) (fun hb => ?_) <;> (first | subst hb | ((try simp only [nm] at hb); try (exfalso; omega)))) | (((refine rg 0 ?_)); (all_goals (refine va rfl rfl ?_))) | (((refine rg 1 ?_)); (all_goals (refine vm rfl rfl ?_; refine vN rfl rfl rfl ?_; refine vF T rfl rfl rfl rfl ?_; refine vL T rfl rfl rfl rfl rfl ?_; refine vm rfl rfl ?_; refine vc_v (by exact fs_mapGetR mapU intK rfl rfl (isv_i _) (mk_good m) (good_i _) (mk_nd h) h1 h2 rfl) rfl ?_; refine vm rfl rfl ?_; refine vX rfl rfl rfl ?_; refine vX rfl rfl rfl ?_; refine va rfl rfl ?_; refine va rfl rfl ?_))) | (((refine rg 2 ?_)); (all_goals (refine vm rfl rfl ?_))) | (((refine rg 3 ?_)); (all_goals (refine vm rfl rfl ?_; refine va rfl rfl ?_))) | (((refine rg 4 ?_)); (all_goals (refine va rfl rfl ?_))) | (refine vc_nilp (by (first | (dsimp only [ln1, ln2, List.append_nil, ln4, ln5, ln6, ln7, ln8, ln9, putAt, putd, allObjs, argEnv, un_v, un_ptr, un_ep, un_pr, un_sl, un_mp, un_row, un_agg, un_tup, un_clo, Nat.zero_add, lnb, Nat.reduceAdd, lnc, lnd]; first | done | exact rfl) | exact rfl)) ?_))
    all_goals exact ret_plain (.inl rfl) rfl rfl
  · rw [own_not hn]
    repeat' (first | refine wS ?_ | refine wB ?_ | refine wK ?_ | refine wR ?_ | refine wE ?_ | refine aw_condt rfl ?_ | refine aw_condf rfl ?_ | (refine wC rfl (fun hb => ?_) (fun hb => ?_) <;> (first | subst hb | ((try simp only [nm] at hb); try (exfalso; omega)))) | (((refine rg 0 ?_)); (all_goals (refine va rfl rfl ?_))) | (((refine rg 1 ?_)); (all_goals (refine vm rfl rfl ?_; refine vN rfl rfl rfl ?_; refine vF T rfl rfl rfl rfl ?_; refine vL T rfl rfl rfl rfl rfl ?_; refine vm rfl rfl ?_; refine vc_v (by exact fs_mapMissR (zA := .i 0) mapU intK zInt (fun _ _ _ => R_v_mk _) rfl rfl (isv_i _) (mk_good m) (good_i _) (fun e => hn (mk_mem.1 e))) rfl ?_; refine vm rfl rfl ?_; refine vX rfl rfl rfl ?_; refine vX rfl rfl rfl ?_; refine va rfl rfl ?_; refine va rfl rfl ?_))) | (((refine rg 2 ?_)); (all_goals (refine vm rfl rfl ?_))) | (((refine rg 3 ?_)); (all_goals (refine vm rfl rfl ?_; refine va rfl rfl ?_))) | (((refine rg 4 ?_)); (all_goals (refine va rfl rfl ?_))) | (refine vc_nilp (by (first | (dsimp only [ln1, ln2, List.append_nil, ln4, ln5, ln6, ln7, ln8, ln9, putAt, putd, allObjs, argEnv, un_v, un_ptr, un_ep, un_pr, un_sl, un_mp, un_row, un_agg, un_tup, un_clo, Nat.zero_add, lnb, Nat.reduceAdd, lnc, lnd]; first | done | exact rfl) | exact rfl)) ?_))
    all_goals exact ret_plain (.inl rfl) rfl rfl
theorem chk2_c {m : Tb} (h : Ok m) {F : FuncId} {caps : List AV} {p : Int → Bool} (hi : AV.idfL caps = true) (hF : ∀ x, ACall Tryz.prog F (.i x :: caps) [] (.b (p x)) []) (n : Int) :
    ACall Tryz.prog 85 [.i n, .pr [.clo (.func F) [] caps] 0, .pr [tbR m] 0] [] (.b (!p (own m n))) [] := by
  have hc := ownerR_c h n
  have hf := hF (own m n)
  refine acall T Tryz.func85 rfl rfl rfl rfl ?_
  repeat' (first | refine wS ?_ | refine wB ?_ | refine wK ?_ | refine wR ?_ | refine wE ?_ | refine aw_condt rfl ?_ | refine aw_condf rfl ?_ | (refine wC rfl (fun hb => ?_) (fun hb => ?_) <;> (first | subst hb | ((try simp only [nm] at hb); try (exfalso; omega)))) | (((refine rg 0 ?_)); (all_goals (refine va rfl rfl ?_))) | (((refine aw_draw2k (id := 1) 11 [[], [], [], [1, 2], [0, 1, 2, 3], [0, 1, 2, 3, 4]] [5, 6, 7, 8, 9, 10] [[], [5], [5, 6], [5], [], []] mixedP rfl (by decide +kernel) ?_)); (all_goals first | (refine dw_v rfl rfl rfl (by first | exact fs_load T rfl rfl rfl rfl) ?_)); (all_goals first | (refine dw_v rfl rfl rfl (by first | exact fs_load T rfl rfl rfl rfl) ?_)); (all_goals first | (refine dw_v rfl rfl rfl (by first | exact fs_move rfl) ?_)); (all_goals first | (refine dw_v rfl rfl rfl (by first | exact fs_call0 rfl rfl (hc) rfl rfl rfl) ?_) | (refine dw_n rfl rfl rfl (by first | exact fs_call0 rfl rfl (hc) rfl rfl rfl) rfl ?_)); (all_goals first | (refine dw_v rfl rfl rfl (by first | exact fs_call0 rfl rfl hf rfl (by simp [AV.idfL, AV.idf, hi]) rfl) ?_) | (refine dw_n rfl rfl rfl (by first | exact fs_call0 rfl rfl hf rfl (by simp [AV.idfL, AV.idf, hi]) rfl) rfl ?_)); (all_goals first | (refine dw_v rfl rfl rfl (by first | exact fs_not rfl) ?_)); (all_goals (refine dw_fin rfl rfl (by (first | (dsimp only [ln1, ln2, List.append_nil, ln4, ln5, ln6, ln7, ln8, ln9, putAt, putd, allObjs, argEnv, un_v, un_ptr, un_ep, un_pr, un_sl, un_mp, un_row, un_agg, un_tup, un_clo, Nat.zero_add, lnb, Nat.reduceAdd, lnc, lnd]; first | done | exact rfl) | exact rfl)) ?_; refine va rfl rfl ?_))) | (refine vc_nilp (by (first | (dsimp only [ln1, ln2, List.append_nil, ln4, ln5, ln6, ln7, ln8, ln9, putAt, putd, allObjs, argEnv, un_v, un_ptr, un_ep, un_pr, un_sl, un_mp, un_row, un_agg, un_tup, un_clo, Nat.zero_add, lnb, Nat.reduceAdd, lnc, lnd]; first | done | exact rfl) | exact rfl)) ?_))
  all_goals exact ret_plain (.inl rfl) rfl rfl
def chkP (m : Tb) (o : Int) (l : List Int) (p : Int → Bool) (wrong : Int) : Int := if o < 0 ∨ l.any (fun n => !slotB n) = true then 1 else if l.any (fun n => !p (own m n)) = true then wrong else 0
theorem check_c {m : Tb} (h : Ok m) {o : Int} {l : List Int} {wrong : Int} (hl : l.length ≤ 100000000) {F : FuncId} {caps : List AV} {p : Int → Bool} (hi : AV.idfL caps = true) (hV : ∀ Z : Hp, ViewL Z caps caps) (hF : ∀ x, ACall Tryz.prog F (.i x :: caps) [] (.b (p x)) []) :
    ACall Tryz.prog 60 [tbR m, .i o, .rowE (ints l) 1, .i wrong, .clo (.func F) [] caps] [] (.i (chkP m o l p wrong)) [] := by
  have h1 := contains_c (l := l) (F := 83) (caps := []) (p := fun n => !slotB n) hl rfl chk1_c
  have h2 := contains_c (l := l) (F := 85) (caps := [.pr [.clo (.func F) [] caps] 0, .pr [tbR m] 0]) (p := fun n => !p (own m n)) hl rfl (chk2_c h hi hF)
  unfold chkP
  refine acall T Tryz.func60 rfl rfl rfl rfl ?_
  have hv : ∀ Z : Hp, ViewL (.cells [tbR m] :: .cells [.clo (.func F) [] caps] :: Z) [.rowE (ints l) 1, .clo (.func 85) [] [.ptr 1 0, .ptr 0 0]] [.rowE (ints l) 1, .clo (.func 85) [] [.pr [.clo (.func F) [] caps] 0, .pr [tbR m] 0]] := fun Z => .cons (.row _ _ _) (.cons (.clo .nil (.cons (.ptr rfl (.cons (.clo .nil (hV _)) .nil)) (.cons (.ptr rfl (.cons (.pr _ _) .nil)) .nil))) .nil)
  by_cases ho : o < 0
  · rw [if_pos (.inl ho)]
    repeat' (first | refine wS ?_ | refine wB ?_ | refine wK ?_ | refine wR ?_ | refine wE ?_ | refine aw_condt rfl ?_ | refine aw_condf rfl ?_ | (refine wC rfl (fun hb => ?_) (fun hb => ?_) <;> (first | subst hb | ((try simp only [nm] at hb); try (exfalso; omega)))) | (((refine rg 0 ?_)); (all_goals (refine vc_n (by exact fs_box rfl rfl) rfl ?_; refine vc_n (by exact fs_box rfl rfl) rfl ?_; refine va rfl rfl ?_))) | (((refine rg 1 ?_)); (all_goals (refine vm rfl rfl ?_; refine vc_v (by exact fs_lss rfl rfl) rfl ?_; refine vm rfl rfl ?_)); (all_goals first | (refine vc_gt rfl rfl ?_ rfl; (refine vm rfl rfl ?_)) | (refine vc_gf rfl rfl ?_ rfl) | (refine vc_gu rfl rfl ?_ rfl) | (refine vc_split rfl rfl (fun hb => ?_) (fun hb => ?_) <;> (first | subst hb | (rw [hb]; (try simp only [nm] at hb); try ((exfalso; omega); done))) <;> first | (refine vc_gt rfl rfl ?_ rfl; (refine vm rfl rfl ?_)) | (refine vc_gf rfl rfl ?_ rfl) | (refine vc_gu rfl rfl ?_ rfl))); (all_goals first | (refine vc_gt rfl rfl ?_ rfl; (refine vc_v (by exact fs_call0 rfl rfl h1 rfl rfl rfl) rfl ?_)) | (refine vc_gf rfl rfl ?_ rfl) | (refine vc_gu rfl rfl ?_ rfl)); (all_goals (refine vc_v (by first | exact fs_pickt rfl rfl | exact fs_pickf rfl rfl | exact fs_pick rfl rfl rfl) rfl ?_))) | (((refine rg 2 ?_)); (all_goals (refine va rfl rfl ?_))) | (((refine rg 3 ?_)); (all_goals (refine vm rfl rfl ?_; refine vc_v (by exact fs_makeFunc rfl rfl) rfl ?_; refine vc_v (by exact fs_call0 rfl rfl h1 rfl rfl rfl) rfl ?_))) | (((refine rg 4 ?_)); (all_goals (refine vm rfl rfl ?_; refine va rfl rfl ?_))) | (((refine rg 5 ?_)); (all_goals (refine va rfl rfl ?_))) | (refine vc_nilp (by (first | (dsimp only [ln1, ln2, List.append_nil, ln4, ln5, ln6, ln7, ln8, ln9, putAt, putd, allObjs, argEnv, un_v, un_ptr, un_ep, un_pr, un_sl, un_mp, un_row, un_agg, un_tup, un_clo, Nat.zero_add, lnb, Nat.reduceAdd, lnc, lnd]; first | done | exact rfl) | exact rfl)) ?_))
    all_goals first | (exfalso; omega) | exact ret_plain (.inl rfl) rfl rfl
  · cases ha : l.any (fun n => !slotB n) with
    | true =>
      rw [if_pos (.inr rfl)]
      rw [ha] at h1
      repeat' (first | refine wS ?_ | refine wB ?_ | refine wK ?_ | refine wR ?_ | refine wE ?_ | refine aw_condt rfl ?_ | refine aw_condf rfl ?_ | (refine wC rfl (fun hb => ?_) (fun hb => ?_) <;> (first | subst hb | ((try simp only [nm] at hb); try (exfalso; omega)))) | (((refine rg 0 ?_)); (all_goals (refine vc_n (by exact fs_box rfl rfl) rfl ?_; refine vc_n (by exact fs_box rfl rfl) rfl ?_; refine va rfl rfl ?_))) | (((refine rg 1 ?_)); (all_goals (refine vm rfl rfl ?_; refine vc_v (by exact fs_lss rfl rfl) rfl ?_; refine vm rfl rfl ?_)); (all_goals first | (refine vc_gt rfl rfl ?_ rfl; (refine vm rfl rfl ?_)) | (refine vc_gf rfl rfl ?_ rfl) | (refine vc_gu rfl rfl ?_ rfl) | (refine vc_split rfl rfl (fun hb => ?_) (fun hb => ?_) <;> (first | subst hb | (rw [hb]; (try simp only [nm] at hb); try ((exfalso; omega); done))) <;> first | (refine vc_gt rfl rfl ?_ rfl; (refine vm rfl rfl ?_)) | (refine vc_gf rfl rfl ?_ rfl) | (refine vc_gu rfl rfl ?_ rfl))); (all_goals first | (refine vc_gt rfl rfl ?_ rfl; (refine vc_v (by exact fs_call0 rfl rfl h1 rfl rfl rfl) rfl ?_)) | (refine vc_gf rfl rfl ?_ rfl) | (refine vc_gu rfl rfl ?_ rfl)); (all_goals (refine vc_v (by first | exact fs_pickt rfl rfl | exact fs_pickf rfl rfl | exact fs_pick rfl rfl rfl) rfl ?_))) | (((refine rg 2 ?_)); (all_goals (refine va rfl rfl ?_))) | (((refine rg 3 ?_)); (all_goals (refine vm rfl rfl ?_; refine vc_v (by exact fs_makeFunc rfl rfl) rfl ?_; refine vc_v (by exact fs_call0 rfl rfl h1 rfl rfl rfl) rfl ?_))) | (((refine rg 4 ?_)); (all_goals (refine vm rfl rfl ?_; refine va rfl rfl ?_))) | (((refine rg 5 ?_)); (all_goals (refine va rfl rfl ?_))) | (refine vc_nilp (by (first | (dsimp only [ln1, ln2, List.append_nil, ln4, ln5, ln6, ln7, ln8, ln9, putAt, putd, allObjs, argEnv, un_v, un_ptr, un_ep, un_pr, un_sl, un_mp, un_row, un_agg, un_tup, un_clo, Nat.zero_add, lnb, Nat.reduceAdd, lnc, lnd]; first | done | exact rfl) | exact rfl)) ?_))
      all_goals first | (exfalso; omega) | exact ret_plain (.inl rfl) rfl rfl
    | false =>
      rw [if_neg (by simp [ho])]
      rw [ha] at h1
      cases hb : l.any (fun n => !p (own m n)) with
      | true =>
        rw [if_pos rfl]
        rw [hb] at h2
        repeat' (first | refine wS ?_ | refine wB ?_ | refine wK ?_ | refine wR ?_ | refine wE ?_ | refine aw_condt rfl ?_ | refine aw_condf rfl ?_ | (refine wC rfl (fun hb => ?_) (fun hb => ?_) <;> (first | subst hb | ((try simp only [nm] at hb); try (exfalso; omega)))) | (((refine rg 0 ?_)); (all_goals (refine vc_n (by exact fs_box rfl rfl) rfl ?_; refine vc_n (by exact fs_box rfl rfl) rfl ?_; refine va rfl rfl ?_))) | (((refine rg 1 ?_)); (all_goals (refine vm rfl rfl ?_; refine vc_v (by exact fs_lss rfl rfl) rfl ?_; refine vm rfl rfl ?_)); (all_goals first | (refine vc_gt rfl rfl ?_ rfl; (refine vm rfl rfl ?_)) | (refine vc_gf rfl rfl ?_ rfl) | (refine vc_gu rfl rfl ?_ rfl) | (refine vc_split rfl rfl (fun hb => ?_) (fun hb => ?_) <;> (first | subst hb | (rw [hb]; (try simp only [nm] at hb); try ((exfalso; omega); done))) <;> first | (refine vc_gt rfl rfl ?_ rfl; (refine vm rfl rfl ?_)) | (refine vc_gf rfl rfl ?_ rfl) | (refine vc_gu rfl rfl ?_ rfl))); (all_goals first | (refine vc_gt rfl rfl ?_ rfl; first | (refine vc_v (by first | first | exact fs_call0 rfl rfl h1 rfl rfl rfl | exact fs_callb0 rfl rfl h2 (hv _) rfl rfl) rfl ?_) | (refine vc_n (by first | first | exact fs_call0 rfl rfl h1 rfl rfl rfl | exact fs_callb0 rfl rfl h2 (hv _) rfl rfl) rfl ?_)) | (refine vc_gf rfl rfl ?_ rfl) | (refine vc_gu rfl rfl ?_ rfl)); (all_goals (refine vc_v (by first | exact fs_pickt rfl rfl | exact fs_pickf rfl rfl | exact fs_pick rfl rfl rfl) rfl ?_))) | (((refine rg 2 ?_)); (all_goals (refine va rfl rfl ?_))) | (((refine rg 3 ?_)); (all_goals (refine vm rfl rfl ?_; refine vc_v (by exact fs_makeFunc rfl rfl) rfl ?_)); (all_goals first | (refine vc_v (by first | first | exact fs_call0 rfl rfl h1 rfl rfl rfl | exact fs_callb0 rfl rfl h2 (hv _) rfl rfl) rfl ?_) | (refine vc_n (by first | first | exact fs_call0 rfl rfl h1 rfl rfl rfl | exact fs_callb0 rfl rfl h2 (hv _) rfl rfl) rfl ?_))) | (((refine rg 4 ?_)); (all_goals (refine vm rfl rfl ?_; refine va rfl rfl ?_))) | (((refine rg 5 ?_)); (all_goals (refine va rfl rfl ?_))) | (refine vc_nilp (by (first | (dsimp only [ln1, ln2, List.append_nil, ln4, ln5, ln6, ln7, ln8, ln9, putAt, putd, allObjs, argEnv, un_v, un_ptr, un_ep, un_pr, un_sl, un_mp, un_row, un_agg, un_tup, un_clo, Nat.zero_add, lnb, Nat.reduceAdd, lnc, lnd]; first | done | exact rfl) | exact rfl)) ?_))
        all_goals first | (exfalso; omega) | exact ret_plain (.inl rfl) rfl rfl
      | false =>
        rw [if_neg (by simp)]
        rw [hb] at h2
        repeat' (first | refine wS ?_ | refine wB ?_ | refine wK ?_ | refine wR ?_ | refine wE ?_ | refine aw_condt rfl ?_ | refine aw_condf rfl ?_ | (refine wC rfl (fun hb => ?_) (fun hb => ?_) <;> (first | subst hb | ((try simp only [nm] at hb); try (exfalso; omega)))) | (((refine rg 0 ?_)); (all_goals (refine vc_n (by exact fs_box rfl rfl) rfl ?_; refine vc_n (by exact fs_box rfl rfl) rfl ?_; refine va rfl rfl ?_))) | (((refine rg 1 ?_)); (all_goals (refine vm rfl rfl ?_; refine vc_v (by exact fs_lss rfl rfl) rfl ?_; refine vm rfl rfl ?_)); (all_goals first | (refine vc_gt rfl rfl ?_ rfl; (refine vm rfl rfl ?_)) | (refine vc_gf rfl rfl ?_ rfl) | (refine vc_gu rfl rfl ?_ rfl) | (refine vc_split rfl rfl (fun hb => ?_) (fun hb => ?_) <;> (first | subst hb | (rw [hb]; (try simp only [nm] at hb); try ((exfalso; omega); done))) <;> first | (refine vc_gt rfl rfl ?_ rfl; (refine vm rfl rfl ?_)) | (refine vc_gf rfl rfl ?_ rfl) | (refine vc_gu rfl rfl ?_ rfl))); (all_goals first | (refine vc_gt rfl rfl ?_ rfl; first | (refine vc_v (by first | first | exact fs_call0 rfl rfl h1 rfl rfl rfl | exact fs_callb0 rfl rfl h2 (hv _) rfl rfl) rfl ?_) | (refine vc_n (by first | first | exact fs_call0 rfl rfl h1 rfl rfl rfl | exact fs_callb0 rfl rfl h2 (hv _) rfl rfl) rfl ?_)) | (refine vc_gf rfl rfl ?_ rfl) | (refine vc_gu rfl rfl ?_ rfl)); (all_goals (refine vc_v (by first | exact fs_pickt rfl rfl | exact fs_pickf rfl rfl | exact fs_pick rfl rfl rfl) rfl ?_))) | (((refine rg 2 ?_)); (all_goals (refine va rfl rfl ?_))) | (((refine rg 3 ?_)); (all_goals (refine vm rfl rfl ?_; refine vc_v (by exact fs_makeFunc rfl rfl) rfl ?_)); (all_goals first | (refine vc_v (by first | first | exact fs_call0 rfl rfl h1 rfl rfl rfl | exact fs_callb0 rfl rfl h2 (hv _) rfl rfl) rfl ?_) | (refine vc_n (by first | first | exact fs_call0 rfl rfl h1 rfl rfl rfl | exact fs_callb0 rfl rfl h2 (hv _) rfl rfl) rfl ?_))) | (((refine rg 4 ?_)); (all_goals (refine vm rfl rfl ?_; refine va rfl rfl ?_))) | (((refine rg 5 ?_)); (all_goals (refine va rfl rfl ?_))) | (refine vc_nilp (by (first | (dsimp only [ln1, ln2, List.append_nil, ln4, ln5, ln6, ln7, ln8, ln9, putAt, putd, allObjs, argEnv, un_v, un_ptr, un_ep, un_pr, un_sl, un_mp, un_row, un_agg, un_tup, un_clo, Nat.zero_add, lnb, Nat.reduceAdd, lnc, lnd]; first | done | exact rfl) | exact rfl)) ?_))
        all_goals first | (exfalso; omega) | exact ret_plain (.inl rfl) rfl rfl
end Go.Proofs.YtgnnbmgljadokaaGreatDoor
