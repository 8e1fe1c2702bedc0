/-
  Layer 17: asking, freeing, giving and dropping slots.
-/
import Derived.Test.YtgnnbmgljadokaaGreatDoorHo6
namespace Go.Proofs.YtgnnbmgljadokaaGreatDoor
open Go Go.Ab Go.Ho Go.MapKept
set_option linter.unusedVariables false
set_option linter.unusedSimpArgs false
attribute [local irreducible] VC AW FStep ACall
set_option maxHeartbeats 4000000

theorem mvV_view (Z : Hp) (m : Tb) : ViewL Z (mvV m) (mvV m) := by
  have e : mvV m = (m.map fun p => Value.int .i64 p.2).map .v := by unfold mvV; rw [List.map_map, List.map_map]; rfl
  rw [e]; exact ViewL.vs _
theorem tb_view {Z : Hp} {m : Tb} (h0 : Z[0]? = some (.cells [.mp 1])) (h1 : Z[1]? = some (.mapO (mkV m) (mvV m))) : View Z (.ptr 0 0) (tbR m) := .ptr h0 (.cons (.mp h1 (mvV_view Z m)) .nil)
theorem pri_view (o : Int) (Z : Hp) : ViewL Z [.pr [.i o] 0] [.pr [.i o] 0] := .cons (.pr _ _) .nil
theorem chk_view {m : Tb} {o x : Int} {l : List Int} {wrong : Int} {F : FuncId} : ViewL (tb m ++ [.cells [.i o]]) [.ptr 0 0, .i x, .rowE (ints l) 1, .i wrong, .clo (.func F) [] [.ptr 2 0]] [tbR m, .i x, .rowE (ints l) 1, .i wrong, .clo (.func F) [] [.pr [.i o] 0]] :=
  .cons (tb_view rfl rfl) (.cons (.v _) (.cons (.row _ _ _) (.cons (.v _) (.cons (.clo .nil (.cons (.ptr rfl (.cons (.v _) .nil)) .nil)) .nil))))
theorem askF_c (o x : Int) : ACall Tryz.prog 61 [.i x, .pr [.i o] 0] [] (.b (decide (x < 0) || decide (x = o))) [] := by
  refine acall T Tryz.func61 rfl rfl rfl rfl ?_
  by_cases h1 : x < 0
  · rw [decide_eq_true h1]
    repeat' (first | refine wS ?_ | refine wB ?_ | refine wK ?_ | refine wR ?_ | refine wE ?_ | refine aw_condt rfl ?_ | refine aw_condf rfl ?_ | (refine wC rfl (fun hb => ?_) (fun hb => ?_) <;> (first | subst hb | ((try simp only [nm] at hb); try (exfalso; omega)))) | (((refine rg 0 ?_)); (all_goals (refine va rfl rfl ?_))) | (((refine rg 1 ?_)); (all_goals (refine vm rfl rfl ?_; refine vc_v (by exact fs_lss rfl rfl) rfl ?_; refine vm rfl rfl ?_)); (all_goals first | (refine vc_gt rfl rfl ?_ rfl; (refine vm rfl rfl ?_)) | (refine vc_gf rfl rfl ?_ rfl) | (refine vc_gu rfl rfl ?_ rfl) | (refine vc_split rfl rfl (fun hb => ?_) (fun hb => ?_) <;> (first | subst hb | (rw [hb]; (try simp only [nm] at hb); try ((exfalso; omega); done))) <;> first | (refine vc_gt rfl rfl ?_ rfl; (refine vm rfl rfl ?_)) | (refine vc_gf rfl rfl ?_ rfl) | (refine vc_gu rfl rfl ?_ rfl))); (all_goals first | (refine vc_gt rfl rfl ?_ rfl; (refine vL T rfl rfl rfl rfl rfl ?_)) | (refine vc_gf rfl rfl ?_ rfl) | (refine vc_gu rfl rfl ?_ rfl)); (all_goals first | (refine vc_gt rfl rfl ?_ rfl; (refine vc_v (by exact fs_eql rfl rfl) rfl ?_)) | (refine vc_gf rfl rfl ?_ rfl) | (refine vc_gu rfl rfl ?_ rfl)); (all_goals (refine vc_v (by first | exact fs_pickt rfl rfl | exact fs_pickf rfl rfl | exact fs_pick rfl rfl rfl) rfl ?_; refine va rfl rfl ?_))) | (refine vc_nilp (by (first | (dsimp only [ln1, ln2, List.append_nil, ln4, ln5, ln6, ln7, ln8, ln9, putAt, putd, allObjs, argEnv, un_v, un_ptr, un_ep, un_pr, un_sl, un_mp, un_row, un_agg, un_tup, un_clo, Nat.zero_add, lnb, Nat.reduceAdd, lnc, lnd]; first | done | exact rfl) | exact rfl)) ?_))
    all_goals first | (exfalso; omega) | exact ret_plain (.inl rfl) rfl rfl
  · rw [decide_eq_false h1]
    repeat' (first | refine wS ?_ | refine wB ?_ | refine wK ?_ | refine wR ?_ | refine wE ?_ | refine aw_condt rfl ?_ | refine aw_condf rfl ?_ | (refine wC rfl (fun hb => ?_) (fun hb => ?_) <;> (first | subst hb | ((try simp only [nm] at hb); try (exfalso; omega)))) | (((refine rg 0 ?_)); (all_goals (refine va rfl rfl ?_))) | (((refine rg 1 ?_)); (all_goals (refine vm rfl rfl ?_; refine vc_v (by exact fs_lss rfl rfl) rfl ?_; refine vm rfl rfl ?_)); (all_goals first | (refine vc_gt rfl rfl ?_ rfl; (refine vm rfl rfl ?_)) | (refine vc_gf rfl rfl ?_ rfl) | (refine vc_gu rfl rfl ?_ rfl) | (refine vc_split rfl rfl (fun hb => ?_) (fun hb => ?_) <;> (first | subst hb | (rw [hb]; (try simp only [nm] at hb); try ((exfalso; omega); done))) <;> first | (refine vc_gt rfl rfl ?_ rfl; (refine vm rfl rfl ?_)) | (refine vc_gf rfl rfl ?_ rfl) | (refine vc_gu rfl rfl ?_ rfl))); (all_goals first | (refine vc_gt rfl rfl ?_ rfl; (refine vL T rfl rfl rfl rfl rfl ?_)) | (refine vc_gf rfl rfl ?_ rfl) | (refine vc_gu rfl rfl ?_ rfl)); (all_goals first | (refine vc_gt rfl rfl ?_ rfl; (refine vc_v (by exact fs_eql rfl rfl) rfl ?_)) | (refine vc_gf rfl rfl ?_ rfl) | (refine vc_gu rfl rfl ?_ rfl)); (all_goals (refine vc_v (by first | exact fs_pickt rfl rfl | exact fs_pickf rfl rfl | exact fs_pick rfl rfl rfl) rfl ?_; refine va rfl rfl ?_))) | (refine vc_nilp (by (first | (dsimp only [ln1, ln2, List.append_nil, ln4, ln5, ln6, ln7, ln8, ln9, putAt, putd, allObjs, argEnv, un_v, un_ptr, un_ep, un_pr, un_sl, un_mp, un_row, un_agg, un_tup, un_clo, Nat.zero_add, lnb, Nat.reduceAdd, lnc, lnd]; first | done | exact rfl) | exact rfl)) ?_))
    all_goals first | (exfalso; omega) | exact ret_plain (.inl rfl) rfl rfl
theorem freeF_c (o x : Int) : ACall Tryz.prog 73 [.i x, .pr [.i o] 0] [] (.b (decide (x = o))) [] := by
  refine acall T Tryz.func73 rfl rfl rfl rfl ?_
  repeat' (first | refine wS ?_ | refine wB ?_ | refine wK ?_ | refine wR ?_ | refine wE ?_ | refine aw_condt rfl ?_ | refine aw_condf rfl ?_ | (refine wC rfl (fun hb => ?_) (fun hb => ?_) <;> (first | subst hb | ((try simp only [nm] at hb); try (exfalso; omega)))) | (((refine rg 0 ?_)); (all_goals (refine va rfl rfl ?_))) | (((refine rg 1 ?_)); (all_goals (refine vm rfl rfl ?_; refine vL T rfl rfl rfl rfl rfl ?_; refine vc_v (by exact fs_eql rfl rfl) rfl ?_; refine va rfl rfl ?_))) | (refine vc_nilp (by (first | (dsimp only [ln1, ln2, List.append_nil, ln4, ln5, ln6, ln7, ln8, ln9, putAt, putd, allObjs, argEnv, un_v, un_ptr, un_ep, un_pr, un_sl, un_mp, un_row, un_agg, un_tup, un_clo, Nat.zero_add, lnb, Nat.reduceAdd, lnc, lnd]; first | done | exact rfl) | exact rfl)) ?_))
  all_goals first | (exfalso; omega) | exact ret_plain (.inl rfl) rfl rfl
theorem giveF_c (o x : Int) : ACall Tryz.prog 63 [.i x, .pr [.i o] 0] [] (.b (decide (x = o))) [] := by
  refine acall T Tryz.func63 rfl rfl rfl rfl ?_
  repeat' (first | refine wS ?_ | refine wB ?_ | refine wK ?_ | refine wR ?_ | refine wE ?_ | refine aw_condt rfl ?_ | refine aw_condf rfl ?_ | (refine wC rfl (fun hb => ?_) (fun hb => ?_) <;> (first | subst hb | ((try simp only [nm] at hb); try (exfalso; omega)))) | (((refine rg 0 ?_)); (all_goals (refine va rfl rfl ?_))) | (((refine rg 1 ?_)); (all_goals (refine vm rfl rfl ?_; refine vL T rfl rfl rfl rfl rfl ?_; refine vc_v (by exact fs_eql rfl rfl) rfl ?_; refine va rfl rfl ?_))) | (refine vc_nilp (by (first | (dsimp only [ln1, ln2, List.append_nil, ln4, ln5, ln6, ln7, ln8, ln9, putAt, putd, allObjs, argEnv, un_v, un_ptr, un_ep, un_pr, un_sl, un_mp, un_row, un_agg, un_tup, un_clo, Nat.zero_add, lnb, Nat.reduceAdd, lnc, lnd]; first | done | exact rfl) | exact rfl)) ?_))
  all_goals first | (exfalso; omega) | exact ret_plain (.inl rfl) rfl rfl
theorem chkP_0 {m : Tb} {o : Int} {l : List Int} {p : Int → Bool} {wrong : Int} (hw : wrong ≠ 0) : chkP m o l p wrong = 0 ↔ 0 ≤ o ∧ (∀ n, n ∈ l → 0 ≤ n ∧ n < 8192) ∧ ∀ n, n ∈ l → p (own m n) = true := by
  unfold chkP
  by_cases ho : o < 0
  · rw [if_pos (.inl ho)]
    constructor
    · intro h; cases h
    · rintro ⟨h, _⟩; omega
  · by_cases hs : l.any (fun n => !slotB n) = true
    · rw [if_pos (.inr hs)]
      obtain ⟨n, hn, hp⟩ := List.any_eq_true.1 hs
      constructor
      · intro h; cases h
      · rintro ⟨_, h, _⟩
        have := h n hn
        simp [slotB, this] at hp
    · rw [if_neg (fun h => h.elim ho hs)]
      have hs' : ∀ n, n ∈ l → 0 ≤ n ∧ n < 8192 := fun n hn => by
        by_cases h : slotB n = true
        · exact of_decide_eq_true h
        · exact absurd (List.any_eq_true.2 ⟨n, hn, by simpa using h⟩) hs
      by_cases hp : l.any (fun n => !p (own m n)) = true
      · rw [if_pos hp]
        obtain ⟨n, hn, hp⟩ := List.any_eq_true.1 hp
        constructor
        · intro h; exact absurd h hw
        · rintro ⟨_, _, h⟩
          rw [h n hn] at hp; cases hp
      · rw [if_neg hp]
        refine ⟨fun _ => ⟨by omega, hs', fun n hn => ?_⟩, fun _ => rfl⟩
        by_cases h : p (own m n) = true
        · exact h
        · exact absurd (List.any_eq_true.2 ⟨n, hn, by simpa using h⟩) hp
def askE (m : Tb) (o : Int) (l : List Int) : Int := chkP m o l (fun x => decide (x < 0) || decide (x = o)) 15
def askT (m : Tb) (o : Int) (l : List Int) : Tb := if askE m o l = 0 then putL m l o l.length else m
theorem ask_c {m : Tb} (h : Ok m) {o : Int} {l : List Int} (ho : o ≤ 9223372036854775807) (hl : l.length ≤ 100000000) :
    ACall Tryz.prog 26 [.ptr 0 0, .i o, .rowE (ints l) 1] (tb m) (.i (askE m o l)) (tb (askT m o l)) := by
  have hc := check_c h (o := o) (l := l) (wrong := 15) hl rfl (pri_view o) (fun x => askF_c o x)
  have h0 := chkP_0 (m := m) (o := o) (l := l) (p := fun x => decide (x < 0) || decide (x = o)) (wrong := 15) (by decide)
  unfold askT
  change chkP m o l (fun x => decide (x < 0) || decide (x = o)) 15 = 0 ↔ _ at h0
  rw [show chkP m o l (fun x => decide (x < 0) || decide (x = o)) 15 = askE m o l from rfl] at hc h0
  generalize askE m o l = e at *
  refine acall T Tryz.func26 rfl rfl rfl rfl ?_
  by_cases he : e = 0
  · subst he
    obtain ⟨h1, h2, h3⟩ := h0.1 rfl
    have hs := set_c h h2 ⟨h1, ho⟩ hl
    rw [if_pos rfl]
    repeat' (first | refine wS ?_ | refine wB ?_ | refine wK ?_ | refine wR ?_ | refine wE ?_ | refine aw_condt rfl ?_ | refine aw_condf rfl ?_ | (refine wC rfl (fun hb => ?_) (fun hb => ?_) <;> (first | subst hb | ((try simp only [nm] at hb); try (exfalso; omega)))) | (((refine rg 0 ?_)); (all_goals (refine vc_n (by exact fs_box rfl rfl) rfl ?_; refine va rfl rfl ?_))) | (((refine rg 1 ?_)); (all_goals (refine vm rfl rfl ?_; refine vL T rfl rfl rfl rfl rfl ?_; refine vm rfl rfl ?_; refine vc_v (by exact fs_makeFunc rfl rfl) rfl ?_; refine vc_v (by exact fs_callb0 rfl rfl hc chk_view rfl rfl) rfl ?_; refine va rfl rfl ?_))) | (((refine rg 2 ?_)); (all_goals (refine vm rfl rfl ?_; refine vc_v (by exact fs_eql rfl rfl) rfl ?_))) | (((refine rg 3 ?_)); (all_goals (refine vm rfl rfl ?_; refine vL T rfl rfl rfl rfl rfl ?_; refine vm rfl rfl ?_)); (all_goals first | (refine vc_callw [0, 1] rfl rfl hs rfl rfl (by decide) ⟨.inr rfl, .inr (sub_map rfl rfl rfl (mvV_idf _)), trivial⟩ (by simp) rfl ?_) | (refine vc_v (by first | fail) rfl ?_) | (refine vc_n (by first | fail) rfl ?_))) | (((refine rg 4 ?_)); (all_goals (refine vm rfl rfl ?_; refine va rfl rfl ?_))) | (refine vc_nilp (by (first | (dsimp only [ln1, ln2, List.append_nil, ln4, ln5, ln6, ln7, ln8, ln9, putAt, putd, allObjs, argEnv, un_v, un_ptr, un_ep, un_pr, un_sl, un_mp, un_row, un_agg, un_tup, un_clo, Nat.zero_add, lnb, Nat.reduceAdd, lnc, lnd]; first | done | exact rfl) | exact rfl)) ?_))
    all_goals first | (exfalso; omega) | exact ⟨.inl rfl, [0, 1], _, rfl, rfl, rfl, ⟨.inr rfl, .inr (sub_map rfl rfl (mapL_idf _ _ (mvV_idf _)) (mvV_idf _)), trivial⟩, by decide, lt2⟩
  · rw [if_neg he]
    repeat' (first | refine wS ?_ | refine wB ?_ | refine wK ?_ | refine wR ?_ | refine wE ?_ | refine aw_condt rfl ?_ | refine aw_condf rfl ?_ | (refine wC rfl (fun hb => ?_) (fun hb => ?_) <;> (first | subst hb | ((try simp only [nm] at hb); try (exfalso; omega)))) | (((refine rg 0 ?_)); (all_goals (refine vc_n (by exact fs_box rfl rfl) rfl ?_; refine va rfl rfl ?_))) | (((refine rg 1 ?_)); (all_goals (refine vm rfl rfl ?_; refine vL T rfl rfl rfl rfl rfl ?_; refine vm rfl rfl ?_; refine vc_v (by exact fs_makeFunc rfl rfl) rfl ?_; refine vc_v (by exact fs_callb0 rfl rfl hc chk_view rfl rfl) rfl ?_; refine va rfl rfl ?_))) | (((refine rg 2 ?_)); (all_goals (refine vm rfl rfl ?_; refine vc_v (by exact fs_eql rfl rfl) rfl ?_))) | (((refine rg 3 ?_)); (all_goals (refine vm rfl rfl ?_; refine vL T rfl rfl rfl rfl rfl ?_; refine vm rfl rfl ?_)); (all_goals first | (refine vc_v (by first | fail) rfl ?_) | (refine vc_n (by first | fail) rfl ?_))) | (((refine rg 4 ?_)); (all_goals (refine vm rfl rfl ?_; refine va rfl rfl ?_))) | (refine vc_nilp (by (first | (dsimp only [ln1, ln2, List.append_nil, ln4, ln5, ln6, ln7, ln8, ln9, putAt, putd, allObjs, argEnv, un_v, un_ptr, un_ep, un_pr, un_sl, un_mp, un_row, un_agg, un_tup, un_clo, Nat.zero_add, lnb, Nat.reduceAdd, lnc, lnd]; first | done | exact rfl) | exact rfl)) ?_))
    all_goals first | (exfalso; omega) | exact ⟨.inl rfl, [0, 1], _, rfl, rfl, rfl, ⟨.inr rfl, .inr (sub_map rfl rfl rfl (mvV_idf _)), trivial⟩, by decide, lt2⟩
def giveE (m : Tb) (a b : Int) (l : List Int) : Int := chkP m (min a b) l (fun x => decide (x = a)) 4
def giveT (m : Tb) (a b : Int) (l : List Int) : Tb := if giveE m a b l = 0 then putL m l b l.length else m
theorem give_c {m : Tb} (h : Ok m) {a b : Int} {l : List Int} (hb : b ≤ 9223372036854775807) (hl : l.length ≤ 100000000) :
    ACall Tryz.prog 27 [.ptr 0 0, .i a, .i b, .rowE (ints l) 1] (tb m) (.i (giveE m a b l)) (tb (giveT m a b l)) := by
  have hc := check_c h (o := min a b) (l := l) (wrong := 4) hl rfl (pri_view a) (fun x => giveF_c a x)
  have h0 := chkP_0 (m := m) (o := min a b) (l := l) (p := fun x => decide (x = a)) (wrong := 4) (by decide)
  unfold giveT
  rw [show chkP m (min a b) l (fun x => decide (x = a)) 4 = giveE m a b l from rfl] at hc h0
  generalize giveE m a b l = e at *
  refine acall T Tryz.func27 rfl rfl rfl rfl ?_
  by_cases he : e = 0
  · subst he
    obtain ⟨h1, h2, h3⟩ := h0.1 rfl
    have hs := set_c h h2 (o := b) ⟨by omega, hb⟩ hl
    rw [if_pos rfl]
    repeat' (first | refine wS ?_ | refine wB ?_ | refine wK ?_ | refine wR ?_ | refine wE ?_ | refine aw_condt rfl ?_ | refine aw_condf rfl ?_ | (refine wC rfl (fun hb => ?_) (fun hb => ?_) <;> (first | subst hb | ((try simp only [nm] at hb); try (exfalso; omega)))) | (((refine rg 0 ?_)); (all_goals (refine vc_n (by exact fs_box rfl rfl) rfl ?_; refine va rfl rfl ?_))) | (((refine rg 1 ?_)); (all_goals (refine vm rfl rfl ?_; refine vL T rfl rfl rfl rfl rfl ?_; refine vm rfl rfl ?_; refine vc_v (by exact fs_min rfl rfl) rfl ?_; refine vm rfl rfl ?_; refine vc_v (by exact fs_makeFunc rfl rfl) rfl ?_; refine vc_v (by exact fs_callb0 rfl rfl hc chk_view rfl rfl) rfl ?_; refine va rfl rfl ?_))) | (((refine rg 2 ?_)); (all_goals (refine vm rfl rfl ?_; refine vc_v (by exact fs_eql rfl rfl) rfl ?_))) | (((refine rg 3 ?_)); (all_goals (refine vm rfl rfl ?_; refine vm rfl rfl ?_; refine vm rfl rfl ?_)); (all_goals first | (refine vc_callw [0, 1] rfl rfl hs rfl rfl (by decide) ⟨.inr rfl, .inr (sub_map rfl rfl rfl (mvV_idf _)), trivial⟩ (by simp) rfl ?_) | (refine vc_v (by first | fail) rfl ?_) | (refine vc_n (by first | fail) rfl ?_))) | (((refine rg 4 ?_)); (all_goals (refine vm rfl rfl ?_; refine va rfl rfl ?_))) | (refine vc_nilp (by (first | (dsimp only [ln1, ln2, List.append_nil, ln4, ln5, ln6, ln7, ln8, ln9, putAt, putd, allObjs, argEnv, un_v, un_ptr, un_ep, un_pr, un_sl, un_mp, un_row, un_agg, un_tup, un_clo, Nat.zero_add, lnb, Nat.reduceAdd, lnc, lnd]; first | done | exact rfl) | exact rfl)) ?_))
    all_goals first | (exfalso; omega) | exact ⟨.inl rfl, [0, 1], _, rfl, rfl, rfl, ⟨.inr rfl, .inr (sub_map rfl rfl (mapL_idf _ _ (mvV_idf _)) (mvV_idf _)), trivial⟩, by decide, lt2⟩
  · rw [if_neg he]
    repeat' (first | refine wS ?_ | refine wB ?_ | refine wK ?_ | refine wR ?_ | refine wE ?_ | refine aw_condt rfl ?_ | refine aw_condf rfl ?_ | (refine wC rfl (fun hb => ?_) (fun hb => ?_) <;> (first | subst hb | ((try simp only [nm] at hb); try (exfalso; omega)))) | (((refine rg 0 ?_)); (all_goals (refine vc_n (by exact fs_box rfl rfl) rfl ?_; refine va rfl rfl ?_))) | (((refine rg 1 ?_)); (all_goals (refine vm rfl rfl ?_; refine vL T rfl rfl rfl rfl rfl ?_; refine vm rfl rfl ?_; refine vc_v (by exact fs_min rfl rfl) rfl ?_; refine vm rfl rfl ?_; refine vc_v (by exact fs_makeFunc rfl rfl) rfl ?_; refine vc_v (by exact fs_callb0 rfl rfl hc chk_view rfl rfl) rfl ?_; refine va rfl rfl ?_))) | (((refine rg 2 ?_)); (all_goals (refine vm rfl rfl ?_; refine vc_v (by exact fs_eql rfl rfl) rfl ?_))) | (((refine rg 3 ?_)); (all_goals (refine vm rfl rfl ?_; refine vm rfl rfl ?_; refine vm rfl rfl ?_)); (all_goals first | (refine vc_v (by first | fail) rfl ?_) | (refine vc_n (by first | fail) rfl ?_))) | (((refine rg 4 ?_)); (all_goals (refine vm rfl rfl ?_; refine va rfl rfl ?_))) | (refine vc_nilp (by (first | (dsimp only [ln1, ln2, List.append_nil, ln4, ln5, ln6, ln7, ln8, ln9, putAt, putd, allObjs, argEnv, un_v, un_ptr, un_ep, un_pr, un_sl, un_mp, un_row, un_agg, un_tup, un_clo, Nat.zero_add, lnb, Nat.reduceAdd, lnc, lnd]; first | done | exact rfl) | exact rfl)) ?_))
    all_goals first | (exfalso; omega) | exact ⟨.inl rfl, [0, 1], _, rfl, rfl, rfl, ⟨.inr rfl, .inr (sub_map rfl rfl rfl (mvV_idf _)), trivial⟩, by decide, lt2⟩
end Go.Proofs.YtgnnbmgljadokaaGreatDoor
