/-
  Layer 17: freeing and dropping.
-/
import Derived.Test.YtgnnbmgljadokaaGreatDoorHo7
namespace Go.Proofs.YtgnnbmgljadokaaGreatDoor
open Go Go.Ab Go.Ho Go.MapKept
set_option linter.unusedVariables false
set_option linter.unusedSimpArgs false
attribute [local irreducible] VC AW FStep ACall
set_option maxHeartbeats 4000000

def delL (m : Tb) (l : List Int) (k : Nat) : Tb := (l.take k).foldl del m
theorem delL_next {m : Tb} {l : List Int} {k : Nat} (hk : k < l.length) : delL m l (k + 1) = del (delL m l k) l[k] := by
  unfold delL
  rw [List.take_succ_eq_append_getElem hk, List.foldl_append]; rfl
theorem Ok.delF : ∀ {l : List Int} {m : Tb}, Ok m → Ok (l.foldl del m)
  | [], _, h => h
  | n :: l, _, h => Ok.delF (l := l) (h.del n)
theorem Ok.delL {m : Tb} (h : Ok m) {l : List Int} (k : Nat) : Ok (delL m l k) := Ok.delF h
theorem own_delF : ∀ {l : List Int} {m : Tb}, Ok m → ∀ k, own (l.foldl del m) k = if k ∈ l then -1 else own m k
  | [], _, _, k => by simp
  | n :: l, m, h, k => by
    show own (l.foldl del (del m n)) k = _
    rw [own_delF (h.del n), own_del h.nd]
    by_cases h1 : k ∈ l
    · simp [h1]
    · by_cases h2 : k = n
      · subst h2; simp
      · simp [h1, h2]
def freeE (m : Tb) (o : Int) (l : List Int) : Int := chkP m o l (fun x => decide (x = o)) 4
def freeT (m : Tb) (o : Int) (l : List Int) : Tb := if freeE m o l = 0 then delL m l l.length else m
theorem free_c {m : Tb} (h : Ok m) {o : Int} {l : List Int} (hl : l.length ≤ 100000000) :
    ACall Tryz.prog 43 [.ptr 0 0, .i o, .rowE (ints l) 1] (tb m) (.i (freeE m o l)) (tb (freeT m o l)) := by
  have hlen : (ints l).length = l.length := by simp
  have hc := check_c h (o := o) (l := l) (wrong := 4) hl rfl (pri_view o) (fun x => freeF_c o x)
  unfold freeT
  rw [show chkP m o l (fun x => decide (x = o)) 4 = freeE m o l from rfl] at hc
  generalize freeE m o l = e at *
  refine acall T Tryz.func43 rfl rfl rfl rfl ?_
  by_cases he : e = 0
  · subst he
    rw [if_pos rfl]
    repeat' (first | refine wS ?_ | refine wB ?_ | refine wK ?_ | refine wR ?_ | refine wE ?_ | refine aw_condt rfl ?_ | refine aw_condf rfl ?_ | (refine wC rfl (fun hb => ?_) (fun hb => ?_) <;> (first | subst hb | ((try simp only [nm] at hb); try (exfalso; omega)))) | (((refine rg 0 ?_)); (all_goals (refine vc_n (by exact fs_box rfl rfl) rfl ?_; refine va rfl rfl ?_))) | (((refine rg 1 ?_)); (all_goals (refine vm rfl rfl ?_; refine vL T rfl rfl rfl rfl rfl ?_; refine vm rfl rfl ?_; refine vc_v (by exact fs_makeFunc rfl rfl) rfl ?_; refine vc_v (by exact fs_callb0 rfl rfl hc chk_view rfl rfl) rfl ?_; refine va rfl rfl ?_))) | (((refine rg 2 ?_)); (all_goals (refine vm rfl rfl ?_; refine vc_v (by exact fs_eql rfl rfl) rfl ?_))) | (((refine rg 3 ?_)); (all_goals (refine vm rfl rfl ?_; refine vc_v (by first | exact fs_lenOwn T rfl rfl | exact fs_lenRow T rfl rfl | exact fs_lenNil T rfl rfl) rfl ?_; refine vm rfl rfl ?_))) | (refine vc_nilp (by (first | (dsimp only [ln1, ln2, List.append_nil, ln4, ln5, ln6, ln7, ln8, ln9, putAt, putd, allObjs, argEnv, un_v, un_ptr, un_ep, un_pr, un_sl, un_mp, un_row, un_agg, un_tup, un_clo, Nat.zero_add, lnb, Nat.reduceAdd, lnc, lnd]; first | done | exact rfl) | exact rfl)) ?_))
    refine aw_loop (X := {k : Nat // k ≤ l.length}) (fun k => [(0, .ptr 0 0), (7, .i 0), (17, .rowE (ints l) 1), (18, .i (ints l).length), (19, .i k.1)]) (fun k => tb (delL m l k.1)) (fun k => l.length - k.1) ⟨0, by omega⟩ ⟨[0, 1], rfl, (by (repeat (first | exact trivial | refine ⟨rfl, ?_⟩))), ⟨.inr rfl, .inr (sub_map rfl rfl rfl (mvV_idf _)), trivial⟩, by decide, lt2⟩ ?_
    rintro ⟨k, hk⟩
    dsimp only
    by_cases hlt : k < l.length
    · have hok := Ok.delL h (l := l) k
      have hg := ints_get hlt
      have hnx := delL_next (m := m) hlt
      generalize l[k] = n at *
      generalize delL m l k = m1 at *
      by_cases hn : n ∈ kk m1
      · obtain ⟨i, h1, h2, h3⟩ := mk_at hok hn
        obtain ⟨e1, e2⟩ := mk_del hok h3
        repeat' (first | refine wS ?_ | refine wB ?_ | refine wK ?_ | refine wR ?_ | refine wE ?_ | refine aw_condt rfl ?_ | refine aw_condf rfl ?_ | (refine wC rfl (fun hb => ?_) (fun hb => ?_) <;> (first | subst hb | ((try simp only [nm] at hb); try (exfalso; omega)))) | (((refine rg 4 ?_)); (all_goals (refine vc_v (by exact fs_lss rfl rfl) rfl ?_))) | (((refine rg 5 ?_)); (all_goals (refine vc_v (by exact fs_indexRowE T rfl rfl rfl rfl rfl (by omega) (ints_len _) hg) rfl ?_; refine vL T rfl rfl rfl rfl rfl ?_; refine va rfl rfl ?_))) | (((refine rg 6 ?_)); (all_goals (refine vm rfl rfl ?_; refine vN rfl rfl rfl ?_; refine vF T rfl rfl rfl rfl ?_; refine vL T rfl rfl rfl rfl rfl ?_; refine vm rfl rfl ?_; refine vc_mapDel mapU intK rfl rfl (isv_i _) rfl (mk_good m1) (good_i _) (mk_nd hok) h1 ?_))) | (((refine rg 7 ?_)); (all_goals (refine vc_v (by first | exact fs_addr rfl rfl (by omega) (by omega) | exact fs_add rfl rfl) rfl ?_; refine vm rfl rfl ?_))) | (refine vc_nilp (by (first | (dsimp only [ln1, ln2, List.append_nil, ln4, ln5, ln6, ln7, ln8, ln9, putAt, putd, allObjs, argEnv, un_v, un_ptr, un_ep, un_pr, un_sl, un_mp, un_row, un_agg, un_tup, un_clo, Nat.zero_add, lnb, Nat.reduceAdd, lnc, lnd]; first | done | exact rfl) | exact rfl)) ?_))
        all_goals first | (exfalso; omega) | exact ⟨⟨k + 1, hlt⟩, by dsimp only; omega, [0, 1], rfl, (by (repeat (first | exact trivial | refine ⟨rfl, ?_⟩))), ⟨.inr rfl, .inr (sub_map rfl (by rw [hnx]; exact e1) (by rw [hnx]; exact e2) (mvV_idf _)), trivial⟩, by decide, lt2⟩
      · have e1 := del_not hn
        repeat' (first | refine wS ?_ | refine wB ?_ | refine wK ?_ | refine wR ?_ | refine wE ?_ | refine aw_condt rfl ?_ | refine aw_condf rfl ?_ | (refine wC rfl (fun hb => ?_) (fun hb => ?_) <;> (first | subst hb | ((try simp only [nm] at hb); try (exfalso; omega)))) | (((refine rg 4 ?_)); (all_goals (refine vc_v (by exact fs_lss rfl rfl) rfl ?_))) | (((refine rg 5 ?_)); (all_goals (refine vc_v (by exact fs_indexRowE T rfl rfl rfl rfl rfl (by omega) (ints_len _) hg) rfl ?_; refine vL T rfl rfl rfl rfl rfl ?_; refine va rfl rfl ?_))) | (((refine rg 6 ?_)); (all_goals (refine vm rfl rfl ?_; refine vN rfl rfl rfl ?_; refine vF T rfl rfl rfl rfl ?_; refine vL T rfl rfl rfl rfl rfl ?_; refine vm rfl rfl ?_; refine vc_mapDelNone mapU intK rfl rfl (isv_i _) rfl (mk_good m1) (good_i _) (fun e => hn (mk_mem.1 e)) ?_))) | (((refine rg 7 ?_)); (all_goals (refine vc_v (by first | exact fs_addr rfl rfl (by omega) (by omega) | exact fs_add rfl rfl) rfl ?_; refine vm rfl rfl ?_))) | (refine vc_nilp (by (first | (dsimp only [ln1, ln2, List.append_nil, ln4, ln5, ln6, ln7, ln8, ln9, putAt, putd, allObjs, argEnv, un_v, un_ptr, un_ep, un_pr, un_sl, un_mp, un_row, un_agg, un_tup, un_clo, Nat.zero_add, lnb, Nat.reduceAdd, lnc, lnd]; first | done | exact rfl) | exact rfl)) ?_))
        all_goals first | (exfalso; omega) | exact ⟨⟨k + 1, hlt⟩, by dsimp only; omega, [0, 1], rfl, (by (repeat (first | exact trivial | refine ⟨rfl, ?_⟩))), ⟨.inr rfl, .inr (sub_map rfl (by rw [hnx, e1]) (by rw [hnx, e1]) (mvV_idf _)), trivial⟩, by decide, lt2⟩
    · have hkl : k = l.length := by omega
      subst hkl
      repeat' (first | refine wS ?_ | refine wB ?_ | refine wK ?_ | refine wR ?_ | refine wE ?_ | refine aw_condt rfl ?_ | refine aw_condf rfl ?_ | (refine wC rfl (fun hb => ?_) (fun hb => ?_) <;> (first | subst hb | ((try simp only [nm] at hb); try (exfalso; omega)))) | (((refine rg 4 ?_)); (all_goals (refine vc_v (by exact fs_lss rfl rfl) rfl ?_))) | (((refine rg 8 ?_)); (all_goals (refine vm rfl rfl ?_; refine va rfl rfl ?_))) | (refine vc_nilp (by (first | (dsimp only [ln1, ln2, List.append_nil, ln4, ln5, ln6, ln7, ln8, ln9, putAt, putd, allObjs, argEnv, un_v, un_ptr, un_ep, un_pr, un_sl, un_mp, un_row, un_agg, un_tup, un_clo, Nat.zero_add, lnb, Nat.reduceAdd, lnc, lnd]; first | done | exact rfl) | exact rfl)) ?_))
      all_goals first | (exfalso; omega) | exact ⟨.inl rfl, [0, 1], _, rfl, rfl, rfl, ⟨.inr rfl, .inr (sub_map rfl rfl rfl (mvV_idf _)), trivial⟩, by decide, lt2⟩
  · rw [if_neg he]
    repeat' (first | refine wS ?_ | refine wB ?_ | refine wK ?_ | refine wR ?_ | refine wE ?_ | refine aw_condt rfl ?_ | refine aw_condf rfl ?_ | (refine wC rfl (fun hb => ?_) (fun hb => ?_) <;> (first | subst hb | ((try simp only [nm] at hb); try (exfalso; omega)))) | (((refine rg 0 ?_)); (all_goals (refine vc_n (by exact fs_box rfl rfl) rfl ?_; refine va rfl rfl ?_))) | (((refine rg 1 ?_)); (all_goals (refine vm rfl rfl ?_; refine vL T rfl rfl rfl rfl rfl ?_; refine vm rfl rfl ?_; refine vc_v (by exact fs_makeFunc rfl rfl) rfl ?_; refine vc_v (by exact fs_callb0 rfl rfl hc chk_view rfl rfl) rfl ?_; refine va rfl rfl ?_))) | (((refine rg 2 ?_)); (all_goals (refine vm rfl rfl ?_; refine vc_v (by exact fs_eql rfl rfl) rfl ?_))) | (((refine rg 8 ?_)); (all_goals (refine vm rfl rfl ?_; refine va rfl rfl ?_))) | (refine vc_nilp (by (first | (dsimp only [ln1, ln2, List.append_nil, ln4, ln5, ln6, ln7, ln8, ln9, putAt, putd, allObjs, argEnv, un_v, un_ptr, un_ep, un_pr, un_sl, un_mp, un_row, un_agg, un_tup, un_clo, Nat.zero_add, lnb, Nat.reduceAdd, lnc, lnd]; first | done | exact rfl) | exact rfl)) ?_))
    all_goals first | (exfalso; omega) | exact ⟨.inl rfl, [0, 1], _, rfl, rfl, rfl, ⟨.inr rfl, .inr (sub_map rfl rfl rfl (mvV_idf _)), trivial⟩, by decide, lt2⟩
def dropT (m : Tb) (o : Int) : Tb := delL m (ofL m o) (ofL m o).length
theorem drop_c {m : Tb} (h : Ok m) (o : Int) : ACall Tryz.prog 44 [.ptr 0 0, .i o] (tb m) (.i (ofL m o).length) (tb (dropT m o)) := by
  have hc := of_c h o
  unfold dropT
  have hl : (ofL m o).length ≤ 100000000 := Nat.le_trans ofL_len (Nat.le_trans h.len (by decide))
  generalize ofL m o = l at *
  have hlen : (ints l).length = l.length := by simp
  refine acall T Tryz.func44 rfl rfl rfl rfl ?_
  repeat' (first | refine wS ?_ | refine wB ?_ | refine wK ?_ | refine wR ?_ | refine wE ?_ | refine aw_condt rfl ?_ | refine aw_condf rfl ?_ | (refine wC rfl (fun hb => ?_) (fun hb => ?_) <;> (first | subst hb | ((try simp only [nm] at hb); try (exfalso; omega)))) | (((refine rg 0 ?_)); (all_goals (refine va rfl rfl ?_))) | (((refine rg 1 ?_)); (all_goals (refine vm rfl rfl ?_; refine vm rfl rfl ?_)); (all_goals first | (refine vc_callw [0, 1] rfl rfl hc rfl rfl (by decide) ⟨.inr rfl, .inr (sub_map rfl rfl rfl (mvV_idf _)), trivial⟩ (by simp) rfl ?_) | (refine vc_v (by first | fail) rfl ?_) | (refine vc_n (by first | fail) rfl ?_)); (all_goals (refine va rfl rfl ?_))) | (refine vc_nilp (by (first | (dsimp only [ln1, ln2, List.append_nil, ln4, ln5, ln6, ln7, ln8, ln9, putAt, putd, allObjs, argEnv, un_v, un_ptr, un_ep, un_pr, un_sl, un_mp, un_row, un_agg, un_tup, un_clo, Nat.zero_add, lnb, Nat.reduceAdd, lnc, lnd]; first | done | exact rfl) | exact rfl)) ?_))
  refine aw_frz (es := ints l) 5 rfl (congrArg (fun x => some (AB.arr x 1)) (ints_map _ l)) hlen.symm (ints_idfF l) ?_
  repeat' (first | refine wS ?_ | refine wB ?_ | refine wK ?_ | refine wR ?_ | refine wE ?_ | refine aw_condt rfl ?_ | refine aw_condf rfl ?_ | (refine wC rfl (fun hb => ?_) (fun hb => ?_) <;> (first | subst hb | ((try simp only [nm] at hb); try (exfalso; omega)))) | (((refine rg 2 ?_)); (all_goals (refine vm rfl rfl ?_; refine vc_v (by first | exact fs_lenOwn T rfl rfl | exact fs_lenRow T rfl rfl | exact fs_lenNil T rfl rfl) rfl ?_; refine vm rfl rfl ?_))) | (refine vc_nilp (by (first | (dsimp only [ln1, ln2, List.append_nil, ln4, ln5, ln6, ln7, ln8, ln9, putAt, putd, allObjs, argEnv, un_v, un_ptr, un_ep, un_pr, un_sl, un_mp, un_row, un_agg, un_tup, un_clo, Nat.zero_add, lnb, Nat.reduceAdd, lnc, lnd]; first | done | exact rfl) | exact rfl)) ?_))
  refine aw_loop (X := {k : Nat // k ≤ l.length}) (fun k => [(0, .ptr 0 0), (5, .rowE (ints l) 1), (11, .rowE (ints l) 1), (12, .i (ints l).length), (13, .i k.1)]) (fun k => tb (delL m l k.1)) (fun k => l.length - k.1) ⟨0, by omega⟩ ⟨[0, 1], rfl, (by (repeat (first | exact trivial | refine ⟨rfl, ?_⟩))), ⟨.inr rfl, .inr (sub_map rfl (by rfl) (by exact mapL_idf _ _ (mvV_idf _)) (mvV_idf _)), trivial⟩, by decide, lt2⟩ ?_
  rintro ⟨k, hk⟩
  dsimp only
  by_cases hlt : k < l.length
  · have hok := Ok.delL h (l := l) k
    have hg := ints_get hlt
    have hnx := delL_next (m := m) hlt
    generalize l[k] = n at *
    generalize delL m l k = m1 at *
    by_cases hn : n ∈ kk m1
    · obtain ⟨i, h1, h2, h3⟩ := mk_at hok hn
      obtain ⟨e1, e2⟩ := mk_del hok h3
      repeat' (first | refine wS ?_ | refine wB ?_ | refine wK ?_ | refine wR ?_ | refine wE ?_ | refine aw_condt rfl ?_ | refine aw_condf rfl ?_ | (refine wC rfl (fun hb => ?_) (fun hb => ?_) <;> (first | subst hb | ((try simp only [nm] at hb); try (exfalso; omega)))) | (((refine rg 3 ?_)); (all_goals (refine vc_v (by exact fs_lss rfl rfl) rfl ?_))) | (((refine rg 4 ?_)); (all_goals (refine vc_v (by exact fs_indexRowE T rfl rfl rfl rfl rfl (by omega) (ints_len _) hg) rfl ?_; refine vL T rfl rfl rfl rfl rfl ?_; refine va rfl rfl ?_))) | (((refine rg 5 ?_)); (all_goals (refine vm rfl rfl ?_; refine vN rfl rfl rfl ?_; refine vF T rfl rfl rfl rfl ?_; refine vL T rfl rfl rfl rfl rfl ?_; refine vm rfl rfl ?_; refine vc_mapDel mapU intK rfl rfl (isv_i _) rfl (mk_good m1) (good_i _) (mk_nd hok) h1 ?_))) | (((refine rg 6 ?_)); (all_goals (refine vc_v (by first | exact fs_addr rfl rfl (by omega) (by omega) | exact fs_add rfl rfl) rfl ?_; refine vm rfl rfl ?_))) | (refine vc_nilp (by (first | (dsimp only [ln1, ln2, List.append_nil, ln4, ln5, ln6, ln7, ln8, ln9, putAt, putd, allObjs, argEnv, un_v, un_ptr, un_ep, un_pr, un_sl, un_mp, un_row, un_agg, un_tup, un_clo, Nat.zero_add, lnb, Nat.reduceAdd, lnc, lnd]; first | done | exact rfl) | exact rfl)) ?_))
      all_goals first | (exfalso; omega) | exact ⟨⟨k + 1, hlt⟩, by dsimp only; omega, [0, 1], rfl, (by (repeat (first | exact trivial | refine ⟨rfl, ?_⟩))), ⟨.inr rfl, .inr (sub_map rfl (by rw [hnx]; exact e1) (by rw [hnx]; exact e2) (mvV_idf _)), trivial⟩, by decide, lt2⟩
    · have e1 := del_not hn
      repeat' (first | refine wS ?_ | refine wB ?_ | refine wK ?_ | refine wR ?_ | refine wE ?_ | refine aw_condt rfl ?_ | refine aw_condf rfl ?_ | (refine wC rfl (fun hb => ?_) (fun hb => ?_) <;> (first | subst hb | ((try simp only [nm] at hb); try (exfalso; omega)))) | (((refine rg 3 ?_)); (all_goals (refine vc_v (by exact fs_lss rfl rfl) rfl ?_))) | (((refine rg 4 ?_)); (all_goals (refine vc_v (by exact fs_indexRowE T rfl rfl rfl rfl rfl (by omega) (ints_len _) hg) rfl ?_; refine vL T rfl rfl rfl rfl rfl ?_; refine va rfl rfl ?_))) | (((refine rg 5 ?_)); (all_goals (refine vm rfl rfl ?_; refine vN rfl rfl rfl ?_; refine vF T rfl rfl rfl rfl ?_; refine vL T rfl rfl rfl rfl rfl ?_; refine vm rfl rfl ?_; refine vc_mapDelNone mapU intK rfl rfl (isv_i _) rfl (mk_good m1) (good_i _) (fun e => hn (mk_mem.1 e)) ?_))) | (((refine rg 6 ?_)); (all_goals (refine vc_v (by first | exact fs_addr rfl rfl (by omega) (by omega) | exact fs_add rfl rfl) rfl ?_; refine vm rfl rfl ?_))) | (refine vc_nilp (by (first | (dsimp only [ln1, ln2, List.append_nil, ln4, ln5, ln6, ln7, ln8, ln9, putAt, putd, allObjs, argEnv, un_v, un_ptr, un_ep, un_pr, un_sl, un_mp, un_row, un_agg, un_tup, un_clo, Nat.zero_add, lnb, Nat.reduceAdd, lnc, lnd]; first | done | exact rfl) | exact rfl)) ?_))
      all_goals first | (exfalso; omega) | exact ⟨⟨k + 1, hlt⟩, by dsimp only; omega, [0, 1], rfl, (by (repeat (first | exact trivial | refine ⟨rfl, ?_⟩))), ⟨.inr rfl, .inr (sub_map rfl (by rw [hnx, e1]) (by rw [hnx, e1]) (mvV_idf _)), trivial⟩, by decide, lt2⟩
  · have hkl : k = l.length := by omega
    subst hkl
    repeat' (first | refine wS ?_ | refine wB ?_ | refine wK ?_ | refine wR ?_ | refine wE ?_ | refine aw_condt rfl ?_ | refine aw_condf rfl ?_ | (refine wC rfl (fun hb => ?_) (fun hb => ?_) <;> (first | subst hb | ((try simp only [nm] at hb); try (exfalso; omega)))) | (((refine rg 3 ?_)); (all_goals (refine vc_v (by exact fs_lss rfl rfl) rfl ?_))) | (((refine rg 7 ?_)); (all_goals (refine vm rfl rfl ?_; refine vc_v (by first | exact fs_lenOwn T rfl rfl | exact fs_lenRow T rfl rfl | exact fs_lenNil T rfl rfl) rfl ?_; refine va rfl rfl ?_))) | (refine vc_nilp (by (first | (dsimp only [ln1, ln2, List.append_nil, ln4, ln5, ln6, ln7, ln8, ln9, putAt, putd, allObjs, argEnv, un_v, un_ptr, un_ep, un_pr, un_sl, un_mp, un_row, un_agg, un_tup, un_clo, Nat.zero_add, lnb, Nat.reduceAdd, lnc, lnd]; first | done | exact rfl) | exact rfl)) ?_))
    all_goals first | (exfalso; omega) | exact ⟨.inl rfl, [0, 1], _, rfl, (by rw [hlen]; rfl), rfl, ⟨.inr rfl, .inr (sub_map rfl rfl rfl (mvV_idf _)), trivial⟩, by decide, lt2⟩
end Go.Proofs.YtgnnbmgljadokaaGreatDoor
