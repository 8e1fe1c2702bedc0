/-
  A logic of values for the walk: clear of a slice of integers: what is behind it is forgotten.
-/
import Derived.Test.YtgibgknkfcbopaaAb31
import Derived.Lib.SliceRun
namespace Go.Ab
open Go
set_option linter.unusedVariables false
set_option linter.unusedSimpArgs false
set_option maxHeartbeats 1000000
theorem flat_take {es : List (List AV)} {sz : Nat} (h : ∀ e, e ∈ es → e.length = sz) (m : Nat) : (es.take m).flatten = es.flatten.take (m * sz) := by
  induction es generalizing m with
  | nil => simp
  | cons a l ih =>
    have ha := h a List.mem_cons_self
    cases m with
    | zero => simp
    | succ m =>
      rw [List.take_succ_cons, List.flatten_cons, List.flatten_cons, ih (fun e he => h e (List.mem_cons_of_mem _ he)), List.take_append]
      rw [List.take_of_length_le (l := a) (by rw [ha, Nat.add_mul]; omega), ha, Nat.add_mul, Nat.one_mul, Nat.add_sub_cancel]
theorem RB_take {S : Nat → Prop} {w : World} {ρ : Pl} {p : Option (Nat × Nat)} {es : List (List AV)} {sz : Nat} (m : Nat) (h : RB S w ρ p (.arr es sz)) : RB S w ρ p (.arr (es.take m) sz) := by
  obtain ⟨h1, h2, h3⟩ := h
  refine ⟨fun e he => h1 e (List.mem_of_mem_take he), h2, ?_⟩
  rcases h3 with h3 | ⟨b, o, ys, h4, ⟨c, e, h5, h6⟩, h7⟩
  · exact .inl (by rw [h3]; simp)
  · refine .inr ⟨b, o, ys.take (m * sz), h4, ⟨c, e, h5, fun j y hj => h6 j y ?_⟩, by rw [flat_take h1]; exact RL_take h7 _⟩
    rw [List.getElem?_take] at hj
    split at hj
    · exact hj
    · cases hj
section
variable {P : Program} {env : Env} {h : Hp} {n : Nat × Nat} {ops : Array Oper} {rest : List Oper} {K : Env → Hp → Prop} {ty : TypeId} {pos : String} {af : Array Edge}
theorem vc_clear (T : Tab P) {t e k off len : Nat} {i : TI} {x : Operand} {es : List (List AV)} (hx : evu env x = some (.sl k off len 1)) (ht : T.elem t = some e) (he : T.ti e = some i) (hz : i.zero = [.int .i64 0]) (hkk : h[k]? = some (.arr es 1)) (hle : off + len ≤ es.length)
    (hk : VC P n ops rest env (h.set k (.arr (es.take off) 1)) K) : VC P n ops (⟨none, .call { callee := .builtin .clear, args := #[x], argTypes := #[t] }, ty, pos, af, none⟩ :: rest) env h K := by
  intro c ρ S a w Q s hQ
  refine wpList_plain rfl fun K' hK' => ?_
  have p := s.pre
  have hxv := p.evu hx
  simp only [R] at hxv
  obtain ⟨ad, cap, hev, _, hxv⟩ := hxv
  obtain ⟨inf, z, t1, t2, t3, t4, t5, t6, t7⟩ := T.tiOk e i he
  have hund : P.underlying t = some (.slice e) := T.elemOk _ _ ht
  have hzv : ∀ w, (zeroValue e).run P w = .ok z w := fun w => by simp [zeroValue, typeInfo, t1, t4]
  have hzc : z.cells = #[.int .i64 0] := by
    rw [hz] at t5
    exact Array.toList_inj.1 t5
  have ev1 : ∀ r w', (Builtin.clear_ #[t] ty #[a.eval x]).run P w = .ok r w' → (execOp a.eval ⟨none, .call { callee := .builtin .clear, args := #[x], argTypes := #[t] }, ty, pos, af, none⟩).run P w = .ok (.value r) w' := fun r w' hr => by
    simp [execOp, resolve, invoke, builtin, hr]
  have fin : ∀ {r : Value} {w' : World}, (Builtin.clear_ #[t] ty #[a.eval x]).run P w = .ok r w' → HS c ρ S (h.set k (.arr (es.take off) 1)) w' ∧ Later ρ ρ S S w w' → Oper.wp P ⟨none, .call { callee := .builtin .clear, args := #[x], argTypes := #[t] }, ty, pos, af, none⟩ a w K' Q := fun {r w'} hr ⟨g1, g2⟩ => by
    unfold Oper.wp
    rw [ev1 r w' hr]
    exact hK' _ _ (hk c ρ S _ _ Q ⟨by rw [size_put]; exact s.size, by rw [defers_put]; exact s.defers.later g2, fun tt uu huu => (s.env tt uu huu).later g2, g1, s.cm⟩ hQ)
  have stay : HS c ρ S (h.set k (.arr (es.take off) 1)) w ∧ Later ρ ρ S S w w := ⟨s.hs.alter hkk (RB_take off) (by simp), ⟨fun _ _ h => h, fun _ h => h, fun _ _ => rfl, fun _ _ _ _ _ h => h⟩⟩
  cases len with
  | zero =>
    refine fin (r := .tuple #[]) ?_ stay
    rw [hev]
    cases ad <;> simp [Builtin.clear_, run_underlying hund]
  | succ m =>
    rcases hxv with ⟨h0, _⟩ | ⟨b, o, hp, ha, hlc, hroom⟩
    · cases h0
    · have hB := p.blk k _ hkk
      obtain ⟨hes, hs0, hB⟩ := hB
      rcases hB with hB | ⟨b', o', ys, h4, ⟨cc, ct, h5, h6⟩, h7⟩
      · subst hB; simp at hle
      rw [hp] at h4
      cases h4
      have hyl := RL_length h7
      have hfl := length_flatten_of hes
      have hlast := h6 (ys.length - 1) (ys[ys.length - 1]'(by omega)) (List.getElem?_eq_getElem _)
      have hsz := (Array.getElem?_eq_some_iff.1 hlast).1
      have hzs : (Builtin.zeroCells z.cells (m + 1)).toList = List.replicate (m + 1) (.int .i64 0) := by
        rw [hzc]
        simp [Builtin.zeroCells]
        apply List.ext_getElem
        · simp
        · intro i h1 h2
          simp [Nat.mod_one]
      have hst := run_storeCells_at P b (o + off) ct (List.replicate (m + 1) (Value.int .i64 0)) 0 cc w h5 (by rw [List.length_replicate]; omega) (by intro v hv; rw [List.eq_of_mem_replicate hv]; rfl)
      rw [Nat.mul_one] at ha
      subst ha
      refine fin (r := .tuple #[]) (w' := w.setRow b (cc.toList.take (o + off + 0) ++ List.replicate (m + 1) (Value.int .i64 0) ++ cc.toList.drop (o + off + 0 + (List.replicate (m + 1) (Value.int .i64 0)).length)).toArray) ?_ (s.hs.upd hkk (by simp) hp (ext_setRow h5 ?_) fun l => ?_)
      · rw [hev]
        simp only [Builtin.clear_]
        simp [run_underlying hund, hzv, hzs, hst]
      · simp; omega
      · refine ⟨fun e he => hes e (List.mem_of_mem_take he), Nat.one_pos, .inr ⟨b, o, ys.take off, rfl, ⟨_, ct, setRow_heap w b cc _ ct _ h5, fun j y hj => ?_⟩, ?_⟩⟩
        · rw [List.getElem?_take] at hj
          split at hj
          · rename_i hjo
            have := h6 j y hj
            have hjl := (Array.getElem?_eq_some_iff.1 this).1
            rw [List.getElem?_toArray, List.append_assoc, List.getElem?_append_left (by simp; omega), List.getElem?_take, if_pos (by omega)]
            simpa using this
          · cases hj
        · rw [flat_take hes, Nat.mul_one]
          exact RL_take (h7.later l) off
end
end Go.Ab
