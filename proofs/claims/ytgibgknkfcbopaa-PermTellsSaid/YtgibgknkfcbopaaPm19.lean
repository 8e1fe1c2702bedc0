/-
  Layer 37: the reference's Unrank and All.
-/
import Derived.Test.YtgibgknkfcbopaaPm18
import Derived.Test.YtgibgknkfcbopaaAb39
namespace Go.Ab
open Go
set_option linter.unusedVariables false
set_option linter.unusedSimpArgs false
set_option maxHeartbeats 1000000
section
variable {P : Program} {env : Env} {h : Hp} {d : Option Nat} {ty : TypeId} {pos : String} {af : Array Edge} {g : Option (Nat × Bool)}
/-- A region that draws its order, but runs its operations in their order behind the first k. -/
theorem aw_drawT {n : Nat × Nat} {Q : Exit → Env → Hp → Prop} {id : Nat} {l : List Oper} (k nt : Nat) (presl pres : List (List Nat)) (ds : List Nat) (bads : List (List Nat)) (hm : P.follows .mixedOrders = true) (hn : n.1 = nt) (hc : chkTail l presl k = true) (hok : chkDraw (l.take k) pres ds bads nt = true)
    (hv : DW P n (l.take k) pres ds bads (dropE ds env) h 0 (dropE ds env) [] (fun v h => VC P n l.toArray (l.drop k) v h (fun v h => Q .normal v h))) (hnd : noDef (l.take k) = true := by rfl) (hnd2 : noDef (l.drop k) = true := by rfl) : AW P n (.region id l.toArray true) env h Q := by
  intro c ρ S a w QQ s hQ
  have hkl := (chkTail_ok hc).2.1
  have hany := any_draw2 pres ds bads (by rw [hn]; exact hok) hv c ρ S a w (fun e a w => e = .normal ∧ wpListIn (rd c.r) 0 P l.toArray (fun e a w => e = .normal ∧ QQ .normal a w) (l.drop k) a w) s fun env' h' ρ' S' a' w' kv s' =>
    ⟨rfl, wpList_in (fun e a w h => h.1) hnd2 (kv c ρ' S' a' w' _ s' fun env2 h2 ρ2 S2 a2 w2 k2 s2 => ⟨rfl, hQ .normal env2 h2 ρ2 S2 a2 w2 k2 s2⟩)⟩
  have hrep : ∀ m j, (Array.replicate m false).getD j false = false := fun m j => by
    simp only [Array.getD]
    split <;> simp
  refine wpIn_mono (wpIn_region_any (Q := fun e a w => e = .normal ∧ QQ .normal a w) hm (any_split_in hc hnd (fun e a w h => h.1) (fun a w h => h.2) (l.take k).toArray.size l.toArray.size _ (Array.replicate (l.take k).toArray.size false) (List.range k) a _ (by simp) (by simp; omega) (fun j hj => by rw [hrep, hrep]) (fun j hj => hrep _ _) (fun i o ho hi => by rw [hrep] at hi; cases hi) (fun j hj _ => List.mem_range.2 hj) (by simp; omega) (by simp; omega) hany)) fun e a w he => by obtain ⟨rfl, h3⟩ := he; exact h3
/-- What an empty literal's slice is in the model. -/
theorem litE_val {ρ : Pl} {S : Nat → Prop} {a : Act} {w : World} {k sz : Nat} {y : Value} (p : Pre ρ S env h a w) (hkk : h[k]? = some (.lit [] sz)) (hy : R S w (.sl k 0 0 sz) ρ y) : ∃ a1, y = .slice a1 0 0 := by
  have hB := p.blk k _ hkk
  simp only [RB] at hB
  obtain ⟨hes, hs0, b, ys, h1, ⟨c, e, h2, h3, h4⟩, h5⟩ := hB
  simp only [R] at hy
  obtain ⟨a1, cap, rfl, hc, hy⟩ := hy
  rcases hy with ⟨_, rfl⟩ | ⟨b', o', h6, rfl, h7, c', e', h8, h9⟩
  · exact ⟨a1, rfl⟩
  · rw [h1] at h6
    cases h6
    rw [h2] at h8
    cases h8
    have hcap : cap = 0 := by
      rw [h3] at h9
      simp only [Nat.zero_add, List.length_nil] at h9
      have := Nat.le_of_mul_le_mul_right h9 hs0
      omega
    subst hcap
    exact ⟨_, rfl⟩
/-- 'append' to an empty literal. -/
theorem fs_appendLitE (T : Tab P) {t e k sz : Nat} {i : TI} {x y : Operand} {v : AV} {news : List (List AV)} (hx : evu env x = some (.sl k 0 0 sz)) (hy : evu env y = some v) (ht : T.elem t = some e) (he : T.ti e = some i) (hs : i.size = sz) (hs0 : 0 < sz)
    (hkk : h[k]? = some (.lit [] sz)) (hnw : news ≠ []) (hn : Elems h v news sz) (hb : (0 + news.length) * i.bytes ≤ 140737488355328) (h63 : 0 + news.length ≤ 9223372036854775807) :
    FStep P ⟨d, .call { callee := .builtin .append, args := #[x, y], argTypes := #[t, t] }, ty, pos, af, g⟩ env h 1 (fun p => .sl p 0 (0 + news.length) sz) (fun _ => [.arr news sz]) := by
  refine fs_new fun ρ S a w p => ?_
  obtain ⟨a1, x1⟩ := litE_val p hkk (p.evu hx)
  obtain ⟨a2, c2, zs, y1, y2, y3, y4, y5, y6, y7⟩ := elems_val p.blk (p.evu hy) hn
  obtain ⟨inf, z, t1, t2, t3, t4, t5, t6, t7⟩ := T.tiOk e i he
  have hnl : ∀ q, q ∈ news → q.length = sz := by
    cases hn with
    | sl hk2 _ =>
      have := p.blk _ _ hk2
      simp only [RB] at this
      exact fun q hq => this.1 q (List.mem_of_mem_drop (List.mem_of_mem_take hq))
    | row h => exact h
    | nil => exact fun q hq => by cases hq
  have hn0 : 0 < news.length := List.length_pos_iff.2 hnw
  have hr := run_append_new (P := P) (w := w) (t := t) (ty := ty) (c2 := c2) (a := a1) (len := 0) (cap := 0) (m := news.length) (ys := []) (T.elemOk _ _ ht) t1 t4 (by simp) (.inl rfl) (by rw [t2, hs]; exact y5) y7 (by omega) (by rw [t3]; exact hb) h63
  have hgc := grownCap_ge w (0 + news.length) 0 e
  have hgm := grownCap_le_maxLen w (0 + news.length) 0 e (by simp only [maxLen]; omega)
  have hzs : z.cells.size = sz := by rw [← hs, ← t6, ← t5]; simp
  obtain ⟨g1, g2⟩ := grown_cells (ys := []) (len := 0) hzs (by simp) y5 hgc
  refine ⟨(([] : List Value).toArray ++ zs.toArray ++ Builtin.zeroCells z.cells (grownCap w (0 + news.length) 0 e - (0 + news.length))), e, .slice (some ⟨w.heap.size, 0, none⟩) (0 + news.length) (grownCap w (0 + news.length) 0 e), true, ?_, fun pos hpos w' hw' lt => ⟨?_, ?_⟩⟩
  · rw [← x1, ← y1] at hr
    simp [execOp, resolve, invoke, builtin, hr]
  · simp only [R]
    exact ⟨_, _, rfl, hgm, .inr ⟨w.heap.size, 0, by simp [Pl.with], by simp, hgc, _, e, hw', by rw [Nat.zero_add, Nat.zero_add]; exact g1⟩⟩
  · simp only [RB]
    exact ⟨hnl, hs0, .inr ⟨w.heap.size, 0, zs, rfl, ⟨_, e, hw', fun j u hj => by have := g2 j u hj; simpa using this⟩, y6.later lt⟩⟩
/-- Nothing is appended to an empty literal. -/
theorem fs_appendLitE0 (T : Tab P) {t e k sz : Nat} {i : TI} {x y : Operand} {v : AV} (hx : evu env x = some (.sl k 0 0 sz)) (hy : evu env y = some v) (ht : T.elem t = some e) (he : T.ti e = some i) (hs : i.size = sz)
    (hkk : h[k]? = some (.lit [] sz)) (hn : Elems h v [] sz) :
    FStep P ⟨d, .call { callee := .builtin .append, args := #[x, y], argTypes := #[t, t] }, ty, pos, af, g⟩ env h 0 (fun _ => .sl k 0 0 sz) (fun _ => []) := by
  refine fs_val fun ρ S a w p => ?_
  obtain ⟨a1, x1⟩ := litE_val p hkk (p.evu hx)
  obtain ⟨a2, c2, zs, y1, y2, y3, y4, y5, y6, y7⟩ := elems_val p.blk (p.evu hy) hn
  obtain ⟨inf, z, t1, t2, t3, t4, t5, t6, t7⟩ := T.tiOk e i he
  have hr := run_append_same (P := P) (w := w) (t := t) (ty := ty) (a2 := a2) (c2 := c2) (T.elemOk _ _ ht) t1 (a := a1) (Nat.le_refl 0)
  refine ⟨_, ?_, p.evu hx⟩
  have y1' : a.eval y = .slice a2 0 c2 := y1
  rw [← y1', ← x1] at hr
  simp [execOp, resolve, invoke, builtin, hr]
end
end Go.Ab
namespace Go.Proofs.Ytgibgknkfcbopaa
open Go Go.Ab Go.Pm
set_option linter.unusedVariables false
set_option linter.unusedSimpArgs false
attribute [local irreducible] VC AW FStep ACall BoolT
set_option maxHeartbeats 4000000
theorem refunrank_no (n k : Int) (h : ¬ (0 ≤ k ∧ k < countM n)) : ACall Try.prog 32 [.i n, .i k] [] (.rowE (ints (nats [])) 1) [] := by
  refine acall_nils ?_
  have h1 := refcount_c n
  have hn : n < 0 → countM n = 0 := fun hn => if_neg (by omega)
  have hn2 : n > 20 → countM n = 0 := fun hn => if_neg (by omega)
  generalize countM n = C at *
  refine acall T Try.func32 rfl rfl rfl rfl ?_
  repeat' (first | (first | (refine aw_seq ?_) | (refine aw_block ?_) | (refine aw_skip ?_) | (refine aw_ret ?_) | (refine aw_exit ?_)) | (first | (refine aw_condt rfl ?_) | (refine aw_condf rfl ?_) | (refine aw_cond rfl (fun hb => ?_) (fun hb => ?_) <;> (first | subst hb | ((try simp only [decide_eq_true_eq, decide_eq_false_iff_not, Bool.not_true, Bool.not_false, Bool.not_eq_true', Bool.not_eq_false', Bool.and_eq_true, Bool.or_eq_true, Bool.and_eq_false_iff, Bool.or_eq_false_iff, Int.not_lt, Int.not_le] at hb); try ((exfalso; omega); done))))) | (((refine aw_region (id := 0) ?_)); (all_goals (refine vc_v (by exact fs_assign rfl) rfl ?_)); (all_goals (refine vc_nilp (by (first | (dsimp only [List.nil_append, List.cons_append, List.append_nil, List.length_cons, List.length_nil, List.set_cons_zero, List.set_cons_succ, List.map_cons, List.map_nil, putAt, putd, allObjs, argEnv, un_v, un_ptr, un_ep, un_pr, un_sl, un_mp, un_row, un_agg, un_tup, un_clo, Nat.zero_add, Nat.add_zero, Nat.reduceAdd, Bool.not_true, Bool.not_false]; first | done | exact rfl) | exact rfl)) ?_))) | (((refine aw_region (id := 1) ?_)); (all_goals (refine vc_v (by exact fs_move rfl) rfl ?_)); (all_goals (refine vc_v (by exact fs_lss rfl rfl) rfl ?_)); (all_goals (refine vc_v (by exact fs_move rfl) rfl ?_)); (all_goals first | (refine vc_gt rfl rfl ?_ rfl; (refine vc_v (by exact fs_move rfl) rfl ?_)) | (refine vc_gf rfl rfl ?_ rfl) | (refine vc_gu rfl rfl ?_ rfl) | (refine vc_split rfl rfl (fun hb => ?_) (fun hb => ?_) <;> (first | subst hb | (rw [hb]; (try simp only [decide_eq_true_eq, decide_eq_false_iff_not, Bool.not_true, Bool.not_false, Bool.not_eq_true', Bool.not_eq_false', Bool.and_eq_true, Bool.or_eq_true, Bool.and_eq_false_iff, Bool.or_eq_false_iff, Int.not_lt, Int.not_le] at hb); try ((exfalso; omega); done))) <;> first | (refine vc_gt rfl rfl ?_ rfl; (refine vc_v (by exact fs_move rfl) rfl ?_)) | (refine vc_gf rfl rfl ?_ rfl) | (refine vc_gu rfl rfl ?_ rfl))); (all_goals first | (refine vc_gt rfl rfl ?_ rfl; (refine vc_v (by exact fs_gtr rfl rfl) rfl ?_)) | (refine vc_gf rfl rfl ?_ rfl) | (refine vc_gu rfl rfl ?_ rfl)); (all_goals (refine vc_v (by first | exact fs_pickt rfl rfl | exact fs_pickf rfl rfl | exact fs_pick rfl rfl rfl) rfl ?_)); (all_goals (refine vc_v (by exact fs_move rfl) rfl ?_)); (all_goals first | (refine vc_gt rfl rfl ?_ rfl; (refine vc_v (by exact fs_move rfl) rfl ?_)) | (refine vc_gf rfl rfl ?_ rfl) | (refine vc_gu rfl rfl ?_ rfl) | (refine vc_split rfl rfl (fun hb => ?_) (fun hb => ?_) <;> (first | subst hb | (rw [hb]; (try simp only [decide_eq_true_eq, decide_eq_false_iff_not, Bool.not_true, Bool.not_false, Bool.not_eq_true', Bool.not_eq_false', Bool.and_eq_true, Bool.or_eq_true, Bool.and_eq_false_iff, Bool.or_eq_false_iff, Int.not_lt, Int.not_le] at hb); try ((exfalso; omega); done))) <;> first | (refine vc_gt rfl rfl ?_ rfl; (refine vc_v (by exact fs_move rfl) rfl ?_)) | (refine vc_gf rfl rfl ?_ rfl) | (refine vc_gu rfl rfl ?_ rfl))); (all_goals first | (refine vc_gt rfl rfl ?_ rfl; (refine vc_v (by exact fs_lss rfl rfl) rfl ?_)) | (refine vc_gf rfl rfl ?_ rfl) | (refine vc_gu rfl rfl ?_ rfl)); (all_goals (refine vc_v (by first | exact fs_pickt rfl rfl | exact fs_pickf rfl rfl | exact fs_pick rfl rfl rfl) rfl ?_)); (all_goals (refine vc_v (by exact fs_move rfl) rfl ?_)); (all_goals first | (refine vc_gt rfl rfl ?_ rfl; (refine vc_v (by exact fs_move rfl) rfl ?_)) | (refine vc_gf rfl rfl ?_ rfl) | (refine vc_gu rfl rfl ?_ rfl) | (refine vc_split rfl rfl (fun hb => ?_) (fun hb => ?_) <;> (first | subst hb | (rw [hb]; (try simp only [decide_eq_true_eq, decide_eq_false_iff_not, Bool.not_true, Bool.not_false, Bool.not_eq_true', Bool.not_eq_false', Bool.and_eq_true, Bool.or_eq_true, Bool.and_eq_false_iff, Bool.or_eq_false_iff, Int.not_lt, Int.not_le] at hb); try ((exfalso; omega); done))) <;> first | (refine vc_gt rfl rfl ?_ rfl; (refine vc_v (by exact fs_move rfl) rfl ?_)) | (refine vc_gf rfl rfl ?_ rfl) | (refine vc_gu rfl rfl ?_ rfl))); (all_goals first | (refine vc_gt rfl rfl ?_ rfl; (refine vc_v (by exact fs_move rfl) rfl ?_)) | (refine vc_gf rfl rfl ?_ rfl) | (refine vc_gu rfl rfl ?_ rfl)); (all_goals first | (refine vc_gt rfl rfl ?_ rfl; (refine vc_v (by exact fs_call0 rfl rfl h1 rfl rfl rfl) rfl ?_)) | (refine vc_gf rfl rfl ?_ rfl) | (refine vc_gu rfl rfl ?_ rfl)); (all_goals first | (refine vc_gt rfl rfl ?_ rfl; (refine vc_v (by exact fs_geq rfl rfl) rfl ?_)) | (refine vc_gf rfl rfl ?_ rfl) | (refine vc_gu rfl rfl ?_ rfl)); (all_goals (refine vc_v (by first | exact fs_pickt rfl rfl | exact fs_pickf rfl rfl | exact fs_pick rfl rfl rfl) rfl ?_)); (all_goals (refine vc_nilp (by (first | (dsimp only [List.nil_append, List.cons_append, List.append_nil, List.length_cons, List.length_nil, List.set_cons_zero, List.set_cons_succ, List.map_cons, List.map_nil, putAt, putd, allObjs, argEnv, un_v, un_ptr, un_ep, un_pr, un_sl, un_mp, un_row, un_agg, un_tup, un_clo, Nat.zero_add, Nat.add_zero, Nat.reduceAdd, Bool.not_true, Bool.not_false]; first | done | exact rfl) | exact rfl)) ?_))) | (((refine aw_region (id := 2) ?_)); (all_goals (refine vc_v (by exact fs_assign rfl) rfl ?_)); (all_goals (refine vc_nilp (by (first | (dsimp only [List.nil_append, List.cons_append, List.append_nil, List.length_cons, List.length_nil, List.set_cons_zero, List.set_cons_succ, List.map_cons, List.map_nil, putAt, putd, allObjs, argEnv, un_v, un_ptr, un_ep, un_pr, un_sl, un_mp, un_row, un_agg, un_tup, un_clo, Nat.zero_add, Nat.add_zero, Nat.reduceAdd, Bool.not_true, Bool.not_false]; first | done | exact rfl) | exact rfl)) ?_))))
  all_goals first | (exfalso; omega) | exact ret_plain (.inl rfl) rfl rfl
theorem refunrank_in (n k : Nat) (hn : n ≤ 20) (hk : k < fact n) : ACall Try.prog 32 [.i (n : Int), .i (k : Int)] [] (.rowE (ints (nats (unrank n k))) 1) [] := by
  have h1 := refcount_c (n : Int)
  rw [countM_nat hn] at h1
  have h2 := refident_o (n : Int) (by omega)
  rw [Int.toNat_natCast] at h2
  have hul : (unrank n k).length = n := unr_len n _ _
  refine acall_frz (by simp [hul] : n = (ints (nats (unrank n k))).length) (ints_idfF _) ?_
  refine acall T Try.func32 rfl rfl rfl rfl ?_
  repeat' (first | (first | (refine aw_seq ?_) | (refine aw_block ?_) | (refine aw_skip ?_) | (refine aw_ret ?_) | (refine aw_exit ?_)) | (first | (refine aw_condt rfl ?_) | (refine aw_condf rfl ?_) | (refine aw_cond rfl (fun hb => ?_) (fun hb => ?_) <;> (first | subst hb | ((try simp only [decide_eq_true_eq, decide_eq_false_iff_not, Bool.not_true, Bool.not_false, Bool.not_eq_true', Bool.not_eq_false', Bool.and_eq_true, Bool.or_eq_true, Bool.and_eq_false_iff, Bool.or_eq_false_iff, Int.not_lt, Int.not_le] at hb); try ((exfalso; omega); done))))) | (((refine aw_region (id := 0) ?_)); (all_goals (refine vc_v (by exact fs_assign rfl) rfl ?_)); (all_goals (refine vc_nilp (by (first | (dsimp only [List.nil_append, List.cons_append, List.append_nil, List.length_cons, List.length_nil, List.set_cons_zero, List.set_cons_succ, List.map_cons, List.map_nil, putAt, putd, allObjs, argEnv, un_v, un_ptr, un_ep, un_pr, un_sl, un_mp, un_row, un_agg, un_tup, un_clo, Nat.zero_add, Nat.add_zero, Nat.reduceAdd, Bool.not_true, Bool.not_false]; first | done | exact rfl) | exact rfl)) ?_))) | (((refine aw_region (id := 1) ?_)); (all_goals (refine vc_v (by exact fs_move rfl) rfl ?_)); (all_goals (refine vc_v (by exact fs_lss rfl rfl) rfl ?_)); (all_goals (refine vc_v (by exact fs_move rfl) rfl ?_)); (all_goals first | (refine vc_gt rfl rfl ?_ rfl; (refine vc_v (by exact fs_move rfl) rfl ?_)) | (refine vc_gf rfl rfl ?_ rfl) | (refine vc_gu rfl rfl ?_ rfl) | (refine vc_split rfl rfl (fun hb => ?_) (fun hb => ?_) <;> (first | subst hb | (rw [hb]; (try simp only [decide_eq_true_eq, decide_eq_false_iff_not, Bool.not_true, Bool.not_false, Bool.not_eq_true', Bool.not_eq_false', Bool.and_eq_true, Bool.or_eq_true, Bool.and_eq_false_iff, Bool.or_eq_false_iff, Int.not_lt, Int.not_le] at hb); try ((exfalso; omega); done))) <;> first | (refine vc_gt rfl rfl ?_ rfl; (refine vc_v (by exact fs_move rfl) rfl ?_)) | (refine vc_gf rfl rfl ?_ rfl) | (refine vc_gu rfl rfl ?_ rfl))); (all_goals first | (refine vc_gt rfl rfl ?_ rfl; (refine vc_v (by exact fs_gtr rfl rfl) rfl ?_)) | (refine vc_gf rfl rfl ?_ rfl) | (refine vc_gu rfl rfl ?_ rfl)); (all_goals (refine vc_v (by first | exact fs_pickt rfl rfl | exact fs_pickf rfl rfl | exact fs_pick rfl rfl rfl) rfl ?_)); (all_goals (refine vc_v (by exact fs_move rfl) rfl ?_)); (all_goals first | (refine vc_gt rfl rfl ?_ rfl; (refine vc_v (by exact fs_move rfl) rfl ?_)) | (refine vc_gf rfl rfl ?_ rfl) | (refine vc_gu rfl rfl ?_ rfl) | (refine vc_split rfl rfl (fun hb => ?_) (fun hb => ?_) <;> (first | subst hb | (rw [hb]; (try simp only [decide_eq_true_eq, decide_eq_false_iff_not, Bool.not_true, Bool.not_false, Bool.not_eq_true', Bool.not_eq_false', Bool.and_eq_true, Bool.or_eq_true, Bool.and_eq_false_iff, Bool.or_eq_false_iff, Int.not_lt, Int.not_le] at hb); try ((exfalso; omega); done))) <;> first | (refine vc_gt rfl rfl ?_ rfl; (refine vc_v (by exact fs_move rfl) rfl ?_)) | (refine vc_gf rfl rfl ?_ rfl) | (refine vc_gu rfl rfl ?_ rfl))); (all_goals first | (refine vc_gt rfl rfl ?_ rfl; (refine vc_v (by exact fs_lss rfl rfl) rfl ?_)) | (refine vc_gf rfl rfl ?_ rfl) | (refine vc_gu rfl rfl ?_ rfl)); (all_goals (refine vc_v (by first | exact fs_pickt rfl rfl | exact fs_pickf rfl rfl | exact fs_pick rfl rfl rfl) rfl ?_)); (all_goals (refine vc_v (by exact fs_move rfl) rfl ?_)); (all_goals first | (refine vc_gt rfl rfl ?_ rfl; (refine vc_v (by exact fs_move rfl) rfl ?_)) | (refine vc_gf rfl rfl ?_ rfl) | (refine vc_gu rfl rfl ?_ rfl) | (refine vc_split rfl rfl (fun hb => ?_) (fun hb => ?_) <;> (first | subst hb | (rw [hb]; (try simp only [decide_eq_true_eq, decide_eq_false_iff_not, Bool.not_true, Bool.not_false, Bool.not_eq_true', Bool.not_eq_false', Bool.and_eq_true, Bool.or_eq_true, Bool.and_eq_false_iff, Bool.or_eq_false_iff, Int.not_lt, Int.not_le] at hb); try ((exfalso; omega); done))) <;> first | (refine vc_gt rfl rfl ?_ rfl; (refine vc_v (by exact fs_move rfl) rfl ?_)) | (refine vc_gf rfl rfl ?_ rfl) | (refine vc_gu rfl rfl ?_ rfl))); (all_goals first | (refine vc_gt rfl rfl ?_ rfl; (refine vc_v (by exact fs_move rfl) rfl ?_)) | (refine vc_gf rfl rfl ?_ rfl) | (refine vc_gu rfl rfl ?_ rfl)); (all_goals first | (refine vc_gt rfl rfl ?_ rfl; (refine vc_v (by exact fs_call0 rfl rfl h1 rfl rfl rfl) rfl ?_)) | (refine vc_gf rfl rfl ?_ rfl) | (refine vc_gu rfl rfl ?_ rfl)); (all_goals first | (refine vc_gt rfl rfl ?_ rfl; (refine vc_v (by exact fs_geq rfl rfl) rfl ?_)) | (refine vc_gf rfl rfl ?_ rfl) | (refine vc_gu rfl rfl ?_ rfl)); (all_goals (refine vc_v (by first | exact fs_pickt rfl rfl | exact fs_pickf rfl rfl | exact fs_pick rfl rfl rfl) rfl ?_)); (all_goals (refine vc_nilp (by (first | (dsimp only [List.nil_append, List.cons_append, List.append_nil, List.length_cons, List.length_nil, List.set_cons_zero, List.set_cons_succ, List.map_cons, List.map_nil, putAt, putd, allObjs, argEnv, un_v, un_ptr, un_ep, un_pr, un_sl, un_mp, un_row, un_agg, un_tup, un_clo, Nat.zero_add, Nat.add_zero, Nat.reduceAdd, Bool.not_true, Bool.not_false]; first | done | exact rfl) | exact rfl)) ?_))) | (((refine aw_region (id := 3) ?_)); (all_goals (refine vc_v (by exact fs_move rfl) rfl ?_)); (all_goals first | (refine vc_v (by first | exact fs_call rfl rfl h2 (.inr ⟨rfl, rfl, by simp [ints_rf]⟩)) rfl ?_) | (refine vc_n (by first | exact fs_call rfl rfl h2 (.inr ⟨rfl, rfl, by simp [ints_rf]⟩)) rfl ?_)); (all_goals (refine vc_v (by exact fs_assign rfl) rfl ?_)); (all_goals (refine vc_nilp (by (first | (dsimp only [List.nil_append, List.cons_append, List.append_nil, List.length_cons, List.length_nil, List.set_cons_zero, List.set_cons_succ, List.map_cons, List.map_nil, putAt, putd, allObjs, argEnv, un_v, un_ptr, un_ep, un_pr, un_sl, un_mp, un_row, un_agg, un_tup, un_clo, Nat.zero_add, Nat.add_zero, Nat.reduceAdd, Bool.not_true, Bool.not_false]; first | done | exact rfl) | exact rfl)) ?_))) | (((refine aw_region (id := 4) ?_)); (all_goals (refine vc_v (by exact fs_assign rfl) rfl ?_)); (all_goals (refine vc_nilp (by (first | (dsimp only [List.nil_append, List.cons_append, List.append_nil, List.length_cons, List.length_nil, List.set_cons_zero, List.set_cons_succ, List.map_cons, List.map_nil, putAt, putd, allObjs, argEnv, un_v, un_ptr, un_ep, un_pr, un_sl, un_mp, un_row, un_agg, un_tup, un_clo, Nat.zero_add, Nat.add_zero, Nat.reduceAdd, Bool.not_true, Bool.not_false]; first | done | exact rfl) | exact rfl)) ?_))) | (((refine aw_region (id := 5) ?_)); (all_goals (refine vc_v (by exact fs_move rfl) rfl ?_)); (all_goals (refine vc_v (by first | exact fs_subr rfl rfl (by omega) (by omega) | exact fs_sub rfl rfl) rfl ?_)); (all_goals (refine vc_v (by exact fs_assign rfl) rfl ?_)); (all_goals (refine vc_nilp (by (first | (dsimp only [List.nil_append, List.cons_append, List.append_nil, List.length_cons, List.length_nil, List.set_cons_zero, List.set_cons_succ, List.map_cons, List.map_nil, putAt, putd, allObjs, argEnv, un_v, un_ptr, un_ep, un_pr, un_sl, un_mp, un_row, un_agg, un_tup, un_clo, Nat.zero_add, Nat.add_zero, Nat.reduceAdd, Bool.not_true, Bool.not_false]; first | done | exact rfl) | exact rfl)) ?_))))
  all_goals try (exfalso; omega)
  refine aw_own 6 1 rfl (by decide) ?_
  refine aw_loop (X := {x : Nat × List Nat × Nat × List Nat // x.1 ≤ 20 ∧ x.2.1.length = x.1 ∧ x.2.2.1 < fact x.1 ∧ x.2.2.2 ++ unr x.1 x.2.1 x.2.2.1 = unrank n k}) (fun x => [(1, .i (x.1.2.2.1 : Int)), (5, .sl 0 0 x.1.2.1.length 1), (6, .sl 1 0 x.1.2.2.2.length 1), (7, .i ((x.1.1 : Int) - 1))]) (fun x => [.arr (ints (nats x.1.2.1)) 1, .arr (ints (nats x.1.2.2.2)) 1]) (fun x => x.1.1) ⟨(n, List.range n, k, []), hn, by simp, hk, rfl⟩ ⟨[0, 1], rfl, ⟨rfl, by show some (AV.sl 0 0 n 1) = some (AV.sl 0 0 (List.range n).length 1); rw [List.length_range], rfl, rfl, trivial⟩, ⟨.inr (sub_arr rfl (ints_map _ _) (ints_idf _)), .inr rfl, trivial⟩, by decide, fun i hi => absurd hi (Nat.not_lt_zero _)⟩ ?_
  rintro ⟨⟨m, left, c, out⟩, hm, hl, hc, hx⟩
  dsimp only at hm hl hc hx ⊢
  have hol : out.length ≤ n := by rw [← hul, ← hx]; simp
  have hll := nats_length left
  have hoo := nats_length out
  cases m with
  | zero =>
    have hxe : out = unrank n k := by rw [← hx]; simp [unr]
    have : n = out.length := by rw [hxe, hul]
    repeat' (first | (first | (refine aw_seq ?_) | (refine aw_block ?_) | (refine aw_skip ?_) | (refine aw_ret ?_) | (refine aw_exit ?_)) | (first | (refine aw_condt rfl ?_) | (refine aw_condf rfl ?_) | (refine aw_cond rfl (fun hb => ?_) (fun hb => ?_) <;> (first | subst hb | ((try simp only [decide_eq_true_eq, decide_eq_false_iff_not, Bool.not_true, Bool.not_false, Bool.not_eq_true', Bool.not_eq_false', Bool.and_eq_true, Bool.or_eq_true, Bool.and_eq_false_iff, Bool.or_eq_false_iff, Int.not_lt, Int.not_le] at hb); try ((exfalso; omega); done))))) | (((refine aw_region (id := 6) ?_)); (all_goals (refine vc_v (by exact fs_move rfl) rfl ?_)); (all_goals (refine vc_v (by exact fs_geq rfl rfl) rfl ?_)); (all_goals (refine vc_nilp (by (first | (dsimp only [List.nil_append, List.cons_append, List.append_nil, List.length_cons, List.length_nil, List.set_cons_zero, List.set_cons_succ, List.map_cons, List.map_nil, putAt, putd, allObjs, argEnv, un_v, un_ptr, un_ep, un_pr, un_sl, un_mp, un_row, un_agg, un_tup, un_clo, Nat.zero_add, Nat.add_zero, Nat.reduceAdd, Bool.not_true, Bool.not_false]; first | done | exact rfl) | exact rfl)) ?_))) | (((refine aw_region (id := 12) ?_)); (all_goals (refine vc_v (by exact fs_move rfl) rfl ?_)); (all_goals (refine vc_v (by exact fs_assign rfl) rfl ?_)); (all_goals (refine vc_nilp (by (first | (dsimp only [List.nil_append, List.cons_append, List.append_nil, List.length_cons, List.length_nil, List.set_cons_zero, List.set_cons_succ, List.map_cons, List.map_nil, putAt, putd, allObjs, argEnv, un_v, un_ptr, un_ep, un_pr, un_sl, un_mp, un_row, un_agg, un_tup, un_clo, Nat.zero_add, Nat.add_zero, Nat.reduceAdd, Bool.not_true, Bool.not_false]; first | done | exact rfl) | exact rfl)) ?_))))
    all_goals first | (exfalso; omega) | exact ⟨.inl rfl, [1], _, rfl, by show AV.sl 1 0 out.length 1 = AV.sl 1 0 n 1; rw [← this], rfl, ⟨.inr (sub_arr rfl (by rw [hxe]) (ints_idf _)), trivial⟩, by decide, fun i hi => absurd hi (Nat.not_lt_zero _)⟩
  | succ m =>
    have hp := fact_pos m
    have hF : fact (m + 1) = fact m * (m + 1) := rfl
    have hF20 : fact (m + 1) ≤ 2432902008176640000 := fact_20 hm
    have hFm : fact m ≤ 2432902008176640000 := fact_20 (by omega)
    have hat : c / fact m < m + 1 := by rw [Nat.div_lt_iff_lt_mul hp, Nat.mul_comm]; exact hc
    have hmod : c % fact m < fact m := Nat.mod_lt _ hp
    rw [unr_succ] at hx
    have h3 := refcount_c (m : Int)
    rw [countM_nat (by omega)] at h3
    have hm3 : (((m + 1 : Nat) : Int) - 1) = (m : Int) := by omega
    rw [hm3]
    have hq : ((c : Int) / (fact m : Int)) = ((c / fact m : Nat) : Int) := by simp
    have hr : ((c : Int) % (fact m : Int)) = ((c % fact m : Nat) : Int) := by simp
    have q1 := nt_gO (l := left) (j := ((c / fact m : Nat) : Int)) (i := c / fact m) (by omega) rfl
    have hsl1 : ((ints (nats left)).drop 0).take (c / fact m) = ints (nats (left.take (c / fact m))) := by rw [List.drop_zero]; simp [ints, nats, List.map_take]
    have hsl2 : ((ints (nats left)).drop (c / fact m + 1)).take (left.length - (c / fact m + 1)) = ints (nats (left.drop (c / fact m + 1))) := by
      rw [List.take_of_length_le (by simp)]
      simp [ints, nats, List.map_drop]
    have hel : (left.eraseIdx (c / fact m)).length = m := by rw [List.length_eraseIdx_of_lt (by omega)]; omega
    have htk : (left.take (c / fact m)).length = c / fact m := by rw [List.length_take]; omega
    have hee : left.take (c / fact m) ++ left.drop (c / fact m + 1) = left.eraseIdx (c / fact m) := eraseIdx_two
    rw [← List.singleton_append, ← List.append_assoc] at hx
    generalize at' left (c / fact m) = y at *
    generalize hE : left.eraseIdx (c / fact m) = left' at *
    generalize hQ : c / fact m = Q at *
    generalize hR : c % fact m = R at *
    generalize hG : fact m = G at *
    repeat' (first | (first | (refine aw_seq ?_) | (refine aw_block ?_) | (refine aw_skip ?_) | (refine aw_ret ?_) | (refine aw_exit ?_)) | (first | (refine aw_condt rfl ?_) | (refine aw_condf rfl ?_) | (refine aw_cond rfl (fun hb => ?_) (fun hb => ?_) <;> (first | subst hb | ((try simp only [decide_eq_true_eq, decide_eq_false_iff_not, Bool.not_true, Bool.not_false, Bool.not_eq_true', Bool.not_eq_false', Bool.and_eq_true, Bool.or_eq_true, Bool.and_eq_false_iff, Bool.or_eq_false_iff, Int.not_lt, Int.not_le] at hb); try ((exfalso; omega); done))))) | (((refine aw_region (id := 6) ?_)); (all_goals (refine vc_v (by exact fs_move rfl) rfl ?_)); (all_goals (refine vc_v (by first | exact hq ▸ fs_quor rfl rfl (by omega) (by omega) (by omega) | exact hr ▸ fs_remr rfl rfl (by omega) (by omega) | exact fs_geq rfl rfl) rfl ?_)); (all_goals (refine vc_nilp (by (first | (dsimp only [List.nil_append, List.cons_append, List.append_nil, List.length_cons, List.length_nil, List.set_cons_zero, List.set_cons_succ, List.map_cons, List.map_nil, putAt, putd, allObjs, argEnv, un_v, un_ptr, un_ep, un_pr, un_sl, un_mp, un_row, un_agg, un_tup, un_clo, Nat.zero_add, Nat.add_zero, Nat.reduceAdd, Bool.not_true, Bool.not_false]; first | done | exact rfl) | exact rfl)) ?_))) | (((refine aw_region (id := 8) ?_)); (all_goals (refine vc_v (by exact fs_move rfl) rfl ?_)); (all_goals (refine vc_v (by exact fs_move rfl) rfl ?_)); (all_goals (refine vc_v (by exact fs_call0 rfl rfl h3 rfl rfl rfl) rfl ?_)); (all_goals (refine vc_v (by first | exact hq ▸ fs_quor rfl rfl (by omega) (by omega) (by omega) | exact hr ▸ fs_remr rfl rfl (by omega) (by omega) | exact fs_quor rfl rfl (by omega) (by omega) (by omega)) rfl ?_)); (all_goals (refine vc_v (by exact fs_assign rfl) rfl ?_)); (all_goals (refine vc_nilp (by (first | (dsimp only [List.nil_append, List.cons_append, List.append_nil, List.length_cons, List.length_nil, List.set_cons_zero, List.set_cons_succ, List.map_cons, List.map_nil, putAt, putd, allObjs, argEnv, un_v, un_ptr, un_ep, un_pr, un_sl, un_mp, un_row, un_agg, un_tup, un_clo, Nat.zero_add, Nat.add_zero, Nat.reduceAdd, Bool.not_true, Bool.not_false]; first | done | exact rfl) | exact rfl)) ?_))) | (((refine aw_region (id := 9) ?_)); (all_goals (refine vc_v (by exact fs_move rfl) rfl ?_)); (all_goals (refine vc_v (by exact fs_move rfl) rfl ?_)); (all_goals (refine vc_v (by exact fs_call0 rfl rfl h3 rfl rfl rfl) rfl ?_)); (all_goals (refine vc_v (by first | exact hq ▸ fs_quor rfl rfl (by omega) (by omega) (by omega) | exact hr ▸ fs_remr rfl rfl (by omega) (by omega) | exact fs_remr rfl rfl (by omega) (by omega)) rfl ?_)); (all_goals (refine vc_v (by exact fs_assign rfl) rfl ?_)); (all_goals (refine vc_nilp (by (first | (dsimp only [List.nil_append, List.cons_append, List.append_nil, List.length_cons, List.length_nil, List.set_cons_zero, List.set_cons_succ, List.map_cons, List.map_nil, putAt, putd, allObjs, argEnv, un_v, un_ptr, un_ep, un_pr, un_sl, un_mp, un_row, un_agg, un_tup, un_clo, Nat.zero_add, Nat.add_zero, Nat.reduceAdd, Bool.not_true, Bool.not_false]; first | done | exact rfl) | exact rfl)) ?_))) | (((refine aw_region (id := 10) ?_)); (all_goals (refine vc_v (by exact fs_move rfl) rfl ?_)); (all_goals (refine vc_v (by exact fs_move rfl) rfl ?_)); (all_goals (refine vc_v (by exact fs_move rfl) rfl ?_)); (all_goals (refine vc_v (by exact fs_indexOwn T rfl rfl rfl rfl rfl (by omega) (by omega)) rfl ?_)); (all_goals (refine vc_v (by first | exact fs_load T rfl rfl rfl rfl | exact fs_load T rfl rfl (behind_ep rfl q1) rfl) rfl ?_)); (all_goals (refine vc_n (by exact fs_buildSlice T rfl rfl (by decide) (by decide) rfl rfl rfl) rfl ?_)); (all_goals (refine vc_append T rfl rfl rfl rfl rfl rfl (by simp) (Elems.whole rfl rfl) rfl (by simp; omega) (by simp; omega) rfl ?_)); (all_goals (refine vc_v (by exact fs_assign rfl) rfl ?_)); (all_goals (refine vc_nilp (by (first | (dsimp only [List.nil_append, List.cons_append, List.append_nil, List.length_cons, List.length_nil, List.set_cons_zero, List.set_cons_succ, List.map_cons, List.map_nil, putAt, putd, allObjs, argEnv, un_v, un_ptr, un_ep, un_pr, un_sl, un_mp, un_row, un_agg, un_tup, un_clo, Nat.zero_add, Nat.add_zero, Nat.reduceAdd, Bool.not_true, Bool.not_false]; first | done | exact rfl) | exact rfl)) ?_))))
    all_goals try (exfalso; omega)
    refine aw_sub (env' := [(1, .i (R : Int)), (5, .sl 0 0 left.length 1), (6, .sl 1 0 (out.length + 1) 1), (7, .i (m : Int)), (8, .i (Q : Int))]) (h' := [.arr (ints (nats left)) 1, .arr (ints (nats (out ++ [y]))) 1]) ⟨[0, 3], rfl, ⟨rfl, rfl, rfl, rfl, rfl, trivial⟩, ⟨.inr (sub_arr rfl rfl (ints_idf _)), .inr (sub_arr rfl ((app_one hoo.symm).trans (nats_snoc _ _)) (ints_idf _)), trivial⟩, by decide, fun i hi => absurd hi (Nat.not_lt_zero _)⟩ ?_
    have en1 : ∀ rest, Elems (AB.arr (ints (nats left)) 1 :: rest) (.sl 0 (0 + Int.toNat 0) ((Q : Int) - 0).toNat 1) (ints (nats (left.take Q))) 1 := fun rest => by
      have := Elems.sl (h := AB.arr (ints (nats left)) 1 :: rest) (k := 0) (off := 0) (len := Q) rfl (by omega)
      rwa [hsl1] at this
    have en2 : ∀ rest, Elems (AB.arr (ints (nats left)) 1 :: rest) (.sl 0 (0 + ((Q : Int) + 1).toNat) ((left.length : Int) - ((Q : Int) + 1)).toNat 1) (ints (nats (left.drop (Q + 1)))) 1 := fun rest => by
      have := Elems.sl (h := AB.arr (ints (nats left)) 1 :: rest) (k := 0) (off := Q + 1) (len := left.length - (Q + 1)) rfl (by omega)
      rw [hsl2] at this
      rw [show 0 + ((Q : Int) + 1).toNat = Q + 1 by omega, show ((left.length : Int) - ((Q : Int) + 1)).toNat = left.length - (Q + 1) by omega]
      exact this
    have el1 : (ints (nats (left.take Q))).length = Q := by simp; omega
    have el2 : (ints (nats (left.drop (Q + 1)))).length = m - Q := by simp; omega
    have ei : ints (nats (left.take Q)) ++ ints (nats (left.drop (Q + 1))) = ints (nats left') := by rw [← hee]; simp [ints, nats]
    have el0 : (ints (nats left')).length = m := by rw [← ei, List.length_append, el1, el2]; omega
    have hBo : (ints (nats (left.drop (Q + 1)))).flatten.all AV.one = true := ints_one _
    generalize ints (nats (left.take Q)) = A at *
    generalize ints (nats (left.drop (Q + 1))) = B at *
    refine aw_drawT 9 59 [[], [], [], [1, 2], [0, 1, 2, 3], [], [], [6], [5, 6, 7], [0, 1, 2, 3, 4, 5, 6, 7, 8], [0, 1, 2, 3, 4, 5, 6, 7, 8, 9]] [[], [], [], [1, 2], [0, 1, 2, 3], [], [], [6], [5, 6, 7]] [48, 49, 50, 51, 52, 53, 54, 55, 56] [[], [48], [48, 49], [48], [], [48, 49, 50, 51, 52], [48, 49, 50, 51, 52, 53], [48, 49, 50, 51, 52, 53], [48, 49, 50, 51, 52]] mixedP rfl (by decide +kernel) (by decide +kernel) ?_
    dsimp only [List.take, List.drop]
    refine dw_n rfl rfl rfl (by exact fs_buildLit T rfl rfl (by decide) (by decide) rfl rfl rfl) rfl ?_
    refine dw_v rfl rfl rfl (by exact fs_move rfl) ?_
    refine dw_v rfl rfl rfl (by exact fs_move rfl) ?_
    refine dw_v rfl rfl rfl (by exact fs_sliceOwn T rfl rfl rfl rfl rfl rfl (by omega) (by omega) (by omega)) ?_
    by_cases hA : A = []
    · subst hA
      have hQ0 : Q = 0 := by simpa using el1.symm
      refine dw_v rfl rfl rfl (by exact fs_appendLitE0 T rfl rfl rfl rfl rfl rfl (en1 _)) ?_
      refine dw_v rfl rfl rfl (by exact fs_move rfl) ?_
      refine dw_v rfl rfl rfl (by exact fs_move rfl) ?_
      refine dw_v rfl rfl rfl (by exact fs_addr rfl rfl (by omega) (by omega)) ?_
      refine dw_v rfl rfl rfl (by exact fs_sliceOwn T rfl rfl rfl rfl rfl rfl (by omega) (by omega) (by omega)) ?_
      refine dw_fin rfl rfl (by (first | (dsimp only [List.nil_append, List.cons_append, List.append_nil, List.length_cons, List.length_nil, List.set_cons_zero, List.set_cons_succ, List.map_cons, List.map_nil, putAt, putd, allObjs, argEnv, un_v, un_ptr, un_ep, un_pr, un_sl, un_mp, un_row, un_agg, un_tup, un_clo, Nat.zero_add, Nat.add_zero, Nat.reduceAdd, Bool.not_true, Bool.not_false]; first | done | exact rfl) | exact rfl)) ?_
      refine vc_litArr 2 rfl ?_
      refine vc_nil ?_
      refine vc_append T rfl rfl rfl rfl rfl rfl (by simp) (en2 _) hBo (by dsimp only; omega) (by omega) rfl ?_
      refine vc_v (by exact fs_assign rfl) rfl ?_
      refine vc_nil ?_
      repeat' (first | (first | (refine aw_seq ?_) | (refine aw_block ?_) | (refine aw_skip ?_) | (refine aw_ret ?_) | (refine aw_exit ?_)) | (first | (refine aw_condt rfl ?_) | (refine aw_condf rfl ?_) | (refine aw_cond rfl (fun hb => ?_) (fun hb => ?_) <;> (first | subst hb | ((try simp only [decide_eq_true_eq, decide_eq_false_iff_not, Bool.not_true, Bool.not_false, Bool.not_eq_true', Bool.not_eq_false', Bool.and_eq_true, Bool.or_eq_true, Bool.and_eq_false_iff, Bool.or_eq_false_iff, Int.not_lt, Int.not_le] at hb); try ((exfalso; omega); done))))) | (((refine aw_region (id := 7) ?_)); (all_goals (refine vc_v (by exact fs_move rfl) rfl ?_)); (all_goals (refine vc_v (by first | exact fs_subr rfl rfl (by omega) (by omega) | exact fs_sub rfl rfl) rfl ?_)); (all_goals (refine vc_v (by exact fs_assign rfl) rfl ?_)); (all_goals (refine vc_nilp (by (first | (dsimp only [List.nil_append, List.cons_append, List.append_nil, List.length_cons, List.length_nil, List.set_cons_zero, List.set_cons_succ, List.map_cons, List.map_nil, putAt, putd, allObjs, argEnv, un_v, un_ptr, un_ep, un_pr, un_sl, un_mp, un_row, un_agg, un_tup, un_clo, Nat.zero_add, Nat.add_zero, Nat.reduceAdd, Bool.not_true, Bool.not_false]; first | done | exact rfl) | exact rfl)) ?_))))
      all_goals try (exfalso; omega)
      all_goals exact ⟨⟨(m, left', R, out ++ [y]), by omega, hel, by dsimp only; rw [hG]; exact hmod, hx⟩, by dsimp only; omega, [3, 1], rfl, ⟨rfl, by show some (AV.sl 3 0 (0 + B.length) 1) = some (AV.sl 3 0 left'.length 1); rw [show 0 + B.length = left'.length by omega], by dsimp only; simp; rfl, rfl, trivial⟩, ⟨.inr (sub_arr rfl (ei) (ints_idf _)), .inr (sub_arr rfl rfl (ints_idf _)), trivial⟩, by decide, fun i hi => absurd hi (Nat.not_lt_zero _)⟩
    · have hA0 : 0 < A.length := List.length_pos_iff.2 hA
      refine dw_n rfl rfl rfl (by exact fs_appendLitE T rfl rfl rfl rfl rfl (by decide) rfl hA (en1 _) (by dsimp only; omega) (by omega)) rfl ?_
      refine dw_v rfl rfl rfl (by exact fs_move rfl) ?_
      refine dw_v rfl rfl rfl (by exact fs_move rfl) ?_
      refine dw_v rfl rfl rfl (by exact fs_addr rfl rfl (by omega) (by omega)) ?_
      refine dw_v rfl rfl rfl (by exact fs_sliceOwn T rfl rfl rfl rfl rfl rfl (by omega) (by omega) (by omega)) ?_
      refine dw_fin rfl rfl (by (first | (dsimp only [List.nil_append, List.cons_append, List.append_nil, List.length_cons, List.length_nil, List.set_cons_zero, List.set_cons_succ, List.map_cons, List.map_nil, putAt, putd, allObjs, argEnv, un_v, un_ptr, un_ep, un_pr, un_sl, un_mp, un_row, un_agg, un_tup, un_clo, Nat.zero_add, Nat.add_zero, Nat.reduceAdd, Bool.not_true, Bool.not_false]; first | done | exact rfl) | exact rfl)) ?_
      refine vc_nil ?_
      refine vc_append T rfl rfl rfl rfl rfl rfl (by omega) (en2 _) hBo (by dsimp only; omega) (by omega) rfl ?_
      refine vc_v (by exact fs_assign rfl) rfl ?_
      refine vc_nil ?_
      repeat' (first | (first | (refine aw_seq ?_) | (refine aw_block ?_) | (refine aw_skip ?_) | (refine aw_ret ?_) | (refine aw_exit ?_)) | (first | (refine aw_condt rfl ?_) | (refine aw_condf rfl ?_) | (refine aw_cond rfl (fun hb => ?_) (fun hb => ?_) <;> (first | subst hb | ((try simp only [decide_eq_true_eq, decide_eq_false_iff_not, Bool.not_true, Bool.not_false, Bool.not_eq_true', Bool.not_eq_false', Bool.and_eq_true, Bool.or_eq_true, Bool.and_eq_false_iff, Bool.or_eq_false_iff, Int.not_lt, Int.not_le] at hb); try ((exfalso; omega); done))))) | (((refine aw_region (id := 7) ?_)); (all_goals (refine vc_v (by exact fs_move rfl) rfl ?_)); (all_goals (refine vc_v (by first | exact fs_subr rfl rfl (by omega) (by omega) | exact fs_sub rfl rfl) rfl ?_)); (all_goals (refine vc_v (by exact fs_assign rfl) rfl ?_)); (all_goals (refine vc_nilp (by (first | (dsimp only [List.nil_append, List.cons_append, List.append_nil, List.length_cons, List.length_nil, List.set_cons_zero, List.set_cons_succ, List.map_cons, List.map_nil, putAt, putd, allObjs, argEnv, un_v, un_ptr, un_ep, un_pr, un_sl, un_mp, un_row, un_agg, un_tup, un_clo, Nat.zero_add, Nat.add_zero, Nat.reduceAdd, Bool.not_true, Bool.not_false]; first | done | exact rfl) | exact rfl)) ?_))))
      all_goals try (exfalso; omega)
      all_goals exact ⟨⟨(m, left', R, out ++ [y]), by omega, hel, by dsimp only; rw [hG]; exact hmod, hx⟩, by dsimp only; omega, [4, 1], rfl, ⟨rfl, by show some (AV.sl 4 0 ((0 + A.length) + B.length) 1) = some (AV.sl 4 0 left'.length 1); rw [show (0 + A.length) + B.length = left'.length by omega], by dsimp only; simp; rfl, rfl, trivial⟩, ⟨.inr (sub_arr rfl (by simp [ei]) (ints_idf _)), .inr (sub_arr rfl rfl (ints_idf _)), trivial⟩, by decide, fun i hi => absurd hi (Nat.not_lt_zero _)⟩
theorem refunrank_c (n k : Int) : ACall Try.prog 32 [.i n, .i k] [] (.rowE (ints (nats (unrankM n k))) 1) [] := by
  unfold unrankM
  by_cases h : 0 ≤ k ∧ k < countM n
  · rw [if_pos h]
    have hn : 0 ≤ n ∧ n ≤ 20 := by
      apply Classical.byContradiction
      intro hn
      have : countM n = 0 := if_neg hn
      omega
    have hC : countM n = (fact n.toNat : Int) := if_pos hn
    have := refunrank_in n.toNat k.toNat (by omega) (by omega)
    rwa [Int.toNat_of_nonneg hn.1, Int.toNat_of_nonneg h.1] at this
  · rw [if_neg h]
    exact refunrank_no n k h
end Go.Proofs.Ytgibgknkfcbopaa
