/-
  A logic of values for the walk, seventeenth part: calls that are handed objects of the caller's to write.
-/
import Derived.Test.YtgibgknkfcbopaaAb16
namespace Go.Ab
open Go
set_option linter.unusedVariables false
set_option linter.unusedSimpArgs false

/-- These objects in these places. -/
def putH : Hp → List Nat → List AB → Hp
  | h, j :: L, b :: bs => putH (h.set j b) L bs
  | h, _, _ => h
theorem putH_length : ∀ (L : List Nat) (bs : List AB) (h : Hp), (putH h L bs).length = h.length
  | [], _, _ => by simp [putH]
  | _ :: _, [], _ => by simp [putH]
  | j :: L, b :: bs, h => by simp only [putH]; rw [putH_length L bs]; simp
theorem putH_other {k : Nat} : ∀ (L : List Nat) (bs : List AB) (h : Hp), k ∉ L → (putH h L bs)[k]? = h[k]?
  | [], _, _, _ => by simp [putH]
  | _ :: _, [], _, _ => by simp [putH]
  | j :: L, b :: bs, h, hk => by
    simp only [List.mem_cons, not_or] at hk
    simp only [putH]
    rw [putH_other L bs _ hk.2, List.getElem?_set, if_neg (fun e => hk.1 e.symm)]
theorem putH_at : ∀ {L : List Nat} {bs : List AB} {h : Hp} {i j : Nat} {b : AB}, L.Nodup → L[i]? = some j → bs[i]? = some b → j < h.length → (putH h L bs)[j]? = some b
  | j0 :: L, b0 :: bs, h, 0, j, b, hnd, hi, hb, hj => by
    simp at hi hb
    subst hi; subst hb
    simp only [putH]
    rw [putH_other L bs _ (List.nodup_cons.1 hnd).1, List.getElem?_set, if_pos rfl, if_pos hj]
  | j0 :: L, b0 :: bs, h, i + 1, j, b, hnd, hi, hb, hj => by
    simp only [putH]
    exact putH_at (List.nodup_cons.1 hnd).2 (by simpa using hi) (by simpa using hb) (by simpa using hj)
  | [], _, _, _, _, _, _, hi, _, _ => by simp at hi
  | _ :: _, [], _, _, _, _, _, _, hb, _ => by simp at hb

/-- Where the callee's objects lie among the caller's behind the call. -/
def backL (L : List Nat) (N m k : Nat) : Nat := match L[k]? with
  | some j => j
  | none => N + (k - m)

section
variable {P : Program} {n : Nat × Nat} {ops : Array Oper} {rest : List Oper} {env : Env} {h : Hp} {K : Env → Hp → Prop}
variable {d : Option Nat} {ty : TypeId} {pos : String} {af : Array Edge}

/-- A guard that is not decided: two ways. -/
theorem vc_split {op : Op} {j t : Nat} {want b : Bool} (hj : (ops[j]?).bind (·.dst) = some t) (hl : look env t = some (.b b)) (ht : b = true → VC P n ops (⟨d, op, ty, pos, af, some (j, want)⟩ :: rest) env h K) (hf : b = false → VC P n ops (⟨d, op, ty, pos, af, some (j, want)⟩ :: rest) env h K) : VC P n ops (⟨d, op, ty, pos, af, some (j, want)⟩ :: rest) env h K := by
  cases b
  · exact hf rfl
  · exact ht rfl

/-- The end of a region, with the frame and the objects as they read. -/
theorem vc_niln {ops : Array Oper} {env' : Env} {h' : Hp} (he : env = env') (hh : h = h') (hk : K env' h') : VC P n ops [] env h K := by
  subst he; subst hh
  exact vc_nil hk
theorem vc_norm {ops : Array Oper} {env' : Env} {h' : Hp} (he : env = env') (hh : h = h') (hk : VC P n ops rest env' h' K) : VC P n ops rest env h K := by
  subst he; subst hh
  exact hk
theorem un_v (x : Value) : (AV.v x).un = .v x := rfl
theorem un_ptr (k o : Nat) : (AV.ptr k o).un = .ptr k o := rfl
theorem un_ep (k i o s : Nat) : (AV.ep k i o s).un = .ep k i o s := rfl
theorem un_pr (c : List AV) (o : Nat) : (AV.pr c o).un = .pr c o := rfl
theorem un_sl (k o l s : Nat) : (AV.sl k o l s).un = .sl k o l s := rfl
theorem un_mp (k : Nat) : (AV.mp k).un = .mp k := rfl
theorem un_row (c : List AV) (l s : Nat) : (AV.row c l s).un = .row c l s := rfl
theorem un_agg (c : List AV) : (AV.agg c).un = .agg c := rfl
theorem un_tup (c : List AV) : (AV.tup c).un = .tup c := rfl
theorem un_clo (f : Fn) (a b : List AV) : (AV.clo f a b).un = .clo f a b := rfl
theorem un_ifc (t : TypeId) (a : AV) : (AV.ifc t a).un = .ifc t a := rfl

theorem HS.hand {c : Ctx} {ρ : Pl} {S : Nat → Prop} {w : World} {hin : Hp} {L : List Nat} (s : HS c ρ S h w) (hL : L.length = hin.length) (hnd : L.Nodup) (hh : SubH (th L h.length) h 0 hin) :
    HS (ctx0 w (fun k => ρ (th L h.length k)) S hin) (fun k => ρ (th L h.length k)) S hin w := by
  have s0 : HS { c with m := 0 } ρ S h w := ⟨s.dom, s.rng, s.blk, s.live, s.inj, s.stab, s.ext, s.st0, s.st1, Nat.zero_le _, fun k hk => absurd hk (Nat.not_lt_zero _)⟩
  have s1 := s0.sub hL hh hnd (fun i hi => absurd hi (Nat.not_lt_zero _))
  refine ⟨s1.dom, s1.rng, s1.blk, fun k b p hb hg hp => ⟨.inr ⟨k, b, p.2, hb, hg, hp⟩, (s1.live k b p hb hg hp).2⟩, s1.inj, s1.stab, Ext.refl _ _, fun _ h => h, fun _ h => .inl h, Nat.le_refl _, fun _ _ => rfl⟩

theorem vc_callw (L : List Nat) {x : Operand} {f : FuncId} {fs cs us xs : List AV} {args : List Operand} {ats : Array TypeId} {res : AV} {hin hout : Hp} (hx : evu env x = some (.clo (.func f) fs cs)) (ha : evL env args = some us)
    (hc : ACall P f xs hin res hout) (hxs : fs ++ us ++ cs = AV.mapL (th L h.length) xs) (hL : L.length = hin.length) (hnd : L.Nodup) (hh : SubH (th L h.length) h 0 hin) (hng : ∀ b, b ∈ hin → b ≠ .gone) (hd : okd d n = true)
    (hk : VC P n ops rest (putd d (res.map (backL L h.length hin.length)) env) (putH h L ((hout.take hin.length).map (AB.map (backL L h.length hin.length))) ++ (hout.drop hin.length).map (AB.map (backL L h.length hin.length))) K) :
    VC P n ops (⟨d, .call { callee := .value x, args := args.toArray, argTypes := ats }, ty, pos, af, none⟩ :: rest) env h K := by
  intro c ρ S a w Q s hQ
  refine wpList_plain rfl fun K' hK' => ?_
  have p := s.pre
  have hxv := p.evu hx
  simp only [R] at hxv
  obtain ⟨ys, zs, e1, h1, h2⟩ := hxv
  have hall : RL S w (fs ++ us ++ cs) ρ (ys.toList ++ args.map a.eval ++ zs.toList) := RL_append (RL_append h1 (evL_val p ha)) h2
  rw [hxs] at hall
  have hargs := RL_map (th L h.length) ρ _ _ hall
  obtain ⟨hf, hc⟩ := hc
  have hs0 := s.hs.hand hL hnd hh
  have hcall := hc _ S w _ hs0 hargs
  unfold Oper.wp
  have hrun : (execOp a.eval ⟨d, .call { callee := .value x, args := args.toArray, argTypes := ats }, ty, pos, af, none⟩).run P w = .ok (.enter f (ys.toList ++ args.map a.eval ++ zs.toList).toArray) w := by
    have e2 : (ys ++ (args.toArray.map a.eval) ++ zs) = (ys.toList ++ args.map a.eval ++ zs.toList).toArray := by
      apply Array.ext'; simp
    simp only [execOp, resolve, e1, Deferred.ofValue, Sem.run_bind, Sem.run_pure, Result.andThen_ok, invoke]
    rw [e2]
    exact run_call hf
  rw [hrun]
  simp only [Oper.upon]
  refine hcall.mono ?_
  rintro e w' ⟨y, ρ', S', rfl, hs, hy⟩
  simp only
  refine hK' _ _ (hk c (fun k => if k < h.length then ρ k else ρ' (hin.length + (k - h.length))) S' _ w' Q ?_ hQ)
  -- the objects handed over
  have hin_at : ∀ {i : Nat} {b : AB}, hin[i]? = some b → ∃ j, L[i]? = some j ∧ j < h.length ∧ h[j]? = some (b.map (th L h.length)) ∧ b.map (th L h.length) ≠ .gone := fun {i b} hb => by
    have hne := hng b (List.mem_of_getElem? hb)
    have hlt : i < L.length := by rw [hL]; exact (List.getElem?_eq_some_iff.1 hb).1
    have hj := List.getElem?_eq_getElem hlt
    have hth : th L h.length i = L[i] := by simp [th, hj]
    rcases hh.get i b hb with hg | hg
    · exact absurd hg hne
    · rw [Nat.zero_add, hth] at hg
      exact ⟨L[i], hj, (List.getElem?_eq_some_iff.1 hg).1, hg, by cases b <;> simp [AB.map] at * ⟩
  have hmle := hs.mle
  have hmle' : hin.length ≤ hout.length := hmle
  have thL : ∀ {i j : Nat}, L[i]? = some j → th L h.length i = j := fun hi => by simp [th, hi]
  have keep : ∀ {i j : Nat}, i < hin.length → L[i]? = some j → ρ' i = ρ j := fun {i j} hi hj => by
    have := hs.keep i hi
    simp only [ctx0] at this
    rw [this, thL hj]
  -- where the callee may write
  have hM : ∀ b, (ctx0 w (fun k => ρ (th L h.length k)) S hin).M b → w.heap.size ≤ b ∨ ∃ (i j : Nat) (o : Nat) (x : AB), hin[i]? = some x ∧ L[i]? = some j ∧ ρ j = some (b, o) := fun b hb => by
    rcases hb with hb | ⟨k, x, o, hb, _, hp⟩
    · exact .inl hb
    · obtain ⟨j, h3, _⟩ := hin_at hb
      exact .inr ⟨k, j, o, x, hb, h3, by rw [← thL h3]; exact hp⟩
  have hcM : ∀ b, (ctx0 w (fun k => ρ (th L h.length k)) S hin).M b → c.M b := fun b hb => by
    rcases hM b hb with hb | ⟨i, j, o, x, h3, h4, h5⟩
    · exact c.new b (Nat.le_trans s.hs.ext.size hb)
    · obtain ⟨j', h6, _, h7, h8⟩ := hin_at h3
      rw [h4] at h6; cases h6
      exact (s.hs.live j _ _ h7 h8 h5).1
  have hlow : ∀ b, b < w.heap.size → (ctx0 w (fun k => ρ (th L h.length k)) S hin).M b → ∃ (i j : Nat) (o : Nat) (x : AB), hin[i]? = some x ∧ L[i]? = some j ∧ ρ j = some (b, o) := fun b hlt hb => by
    rcases hM b hb with hb | hb
    · omega
    · exact hb
  -- a live object that was not handed over: its block is left alone
  have other : ∀ {k : Nat} {b : AB} {q : Nat × Nat}, h[k]? = some b → b ≠ .gone → k ∉ L → ρ k = some q → ¬ (ctx0 w (fun k => ρ (th L h.length k)) S hin).M q.1 := fun {k b q} hb hg hkL hq hm => by
    obtain ⟨i, j, o, x, h3, h4, h5⟩ := hlow q.1 (s.hs.rng k q hq) hm
    obtain ⟨j', h6, _, h7, h8⟩ := hin_at h3
    rw [h4] at h6; cases h6
    have := s.hs.inj k j _ _ q _ hb h7 hg h8 hq h5 rfl
    subst this
    exact hkL (List.mem_of_getElem? h4)
  have stM : ∀ b, S b → ¬ (ctx0 w (fun k => ρ (th L h.length k)) S hin).M b := fun b hb hm => by
    obtain ⟨i, j, o, x, h3, h4, h5⟩ := hlow b (s.hs.stab b hb) hm
    obtain ⟨j', h6, _, h7, h8⟩ := hin_at h3
    rw [h4] at h6; cases h6
    exact (s.hs.live j _ _ h7 h8 h5).2 hb
  have same : ∀ b, b < w.heap.size → ¬ (ctx0 w (fun k => ρ (th L h.length k)) S hin).M b → w'.heap[b]? = w.heap[b]? := fun b hb hm => hs.ext.same b hb hm
  have l : Later ρ (fun k => if k < h.length then ρ k else ρ' (hin.length + (k - h.length))) S S' w w' := by
    refine ⟨fun k q hq => ?_, hs.st0, fun b hb => same b (s.hs.stab b hb) (stM b hb), fun _ _ _ _ _ hr => hs.ext.room hr⟩
    have hlt : k < h.length := by
      rcases Nat.lt_or_ge k h.length with h3 | h3
      · exact h3
      · rw [s.hs.dom k h3] at hq; cases hq
    simp only [if_pos hlt]; exact hq
  -- the callee's places, seen by the caller
  have pl : ∀ k q, ρ' k = some q → (fun k => if k < h.length then ρ k else ρ' (hin.length + (k - h.length))) (backL L h.length hin.length k) = some q := fun k q hq => by
    by_cases hk : k < hin.length
    · have hj := List.getElem?_eq_getElem (l := L) (i := k) (by omega)
      have hb := List.getElem?_eq_getElem hk
      obtain ⟨j, h3, h4, _⟩ := hin_at hb
      have hbk : backL L h.length hin.length k = j := by simp [backL, h3]
      rw [hbk]
      simp only [if_pos h4]
      rw [← keep hk h3]; exact hq
    · have hbk : backL L h.length hin.length k = h.length + (k - hin.length) := by
        unfold backL
        rw [List.getElem?_eq_none (by omega)]
      rw [hbk]
      simp only
      rw [if_neg (by omega), show hin.length + (h.length + (k - hin.length) - h.length) = k by omega]
      exact hq
  have shift : ∀ {x : AV} {y : Value}, R S' w' x ρ' y → R S' w' (x.map (backL L h.length hin.length)) (fun k => if k < h.length then ρ k else ρ' (hin.length + (k - h.length))) y := fun {x y} hx => R_map' _ _ x y (R_later (fun _ h => h) (fun _ _ => rfl) x ρ' _ y pl (fun _ _ _ _ _ h => h) hx)
  have shiftB : ∀ {b : AB} {pp}, RB S' w' ρ' pp b → RB S' w' (fun k => if k < h.length then ρ k else ρ' (hin.length + (k - h.length))) pp (b.map (backL L h.length hin.length)) := fun {b pp} hb => RB_map' _ _ (RB.later (ρ := ρ') (S := S') ⟨pl, fun _ h => h, fun _ _ => rfl, fun _ _ _ _ _ h => h⟩ (fun _ _ _ => rfl) hb)
  -- what stands at a place behind the call
  have get : ∀ {k : Nat} {b : AB}, (putH h L ((hout.take hin.length).map (AB.map (backL L h.length hin.length))) ++ (hout.drop hin.length).map (AB.map (backL L h.length hin.length)))[k]? = some b →
      (k < h.length ∧ k ∉ L ∧ h[k]? = some b) ∨ (∃ (i : Nat) (b' : AB), hout[i]? = some b' ∧ b = b'.map (backL L h.length hin.length) ∧ backL L h.length hin.length i = k ∧ (if k < h.length then ρ k else ρ' (hin.length + (k - h.length))) = ρ' i ∧ ((i < hin.length ∧ L[i]? = some k) ∨ (hin.length ≤ i ∧ k = h.length + (i - hin.length)))) := fun {k b} hb => by
    by_cases hk : k < h.length
    · rw [List.getElem?_append_left (by rw [putH_length]; exact hk)] at hb
      by_cases hkL : k ∈ L
      · obtain ⟨i, hi⟩ := List.mem_iff_getElem?.1 hkL
        have hiL : i < hin.length := by rw [← hL]; exact (List.getElem?_eq_some_iff.1 hi).1
        have hb' := List.getElem?_eq_getElem (l := hout) (i := i) (by omega)
        rw [putH_at (b := (hout[i]'(by omega)).map (backL L h.length hin.length)) hnd hi (by simp [hiL, hb']) hk] at hb
        simp only [Option.some.injEq] at hb
        exact .inr ⟨i, _, hb', hb.symm, by simp [backL, hi], by rw [if_pos hk]; exact (keep hiL hi).symm, .inl ⟨hiL, hi⟩⟩
      · rw [putH_other _ _ _ hkL] at hb
        exact .inl ⟨hk, hkL, hb⟩
    · rw [List.getElem?_append_right (by rw [putH_length]; omega), putH_length, List.getElem?_map, List.getElem?_drop] at hb
      obtain ⟨b', h3, h4⟩ := Option.map_eq_some_iff.1 hb
      refine .inr ⟨hin.length + (k - h.length), b', h3, h4.symm, ?_, by rw [if_neg hk], .inr ⟨by omega, by omega⟩⟩
      unfold backL
      rw [List.getElem?_eq_none (by omega)]
      simp only; omega
  have mapg : ∀ {θ : Nat → Nat} {b : AB}, b.map θ ≠ .gone → b ≠ .gone := fun hb e => hb (by rw [e]; rfl)
  refine ⟨by rw [size_put]; exact s.size, by rw [defers_put]; exact s.defers.later l, env_put s.size hd (fun t u hu => (s.env t u hu).later l) (shift hy), ?_, s.cm⟩
  refine ⟨fun k hk => ?_, fun k q hq => ?_, fun k b hb => ?_, fun k b q hb hg hq => ?_, fun k k' b b' q q' hb hb' hg hg' hq hq' e => ?_, hs.stab, s.hs.ext.trans hs.ext (fun b hb hlt => hcM b hb), fun b hb => hs.st0 b (s.hs.st0 b hb), fun b hb => ?_, ?_, fun k hk => ?_⟩
  · simp only [List.length_append, putH_length, List.length_map, List.length_drop] at hk
    rw [if_neg (by omega)]
    exact hs.dom _ (by omega)
  · split at hq
    · exact Nat.lt_of_lt_of_le (s.hs.rng k q hq) hs.ext.size
    · exact hs.rng _ q hq
  · rcases get hb with ⟨h3, h4, h5⟩ | ⟨i, b', h3, rfl, h4, h5, h6⟩
    · simp only [if_pos h3]
      by_cases hg : b = .gone
      · subst hg; trivial
      · exact RB.later l (fun b1 o1 hp => same b1 (s.hs.rng k _ hp) (other h5 hg h4 hp)) (s.hs.blk k b h5)
    · rw [h5]
      exact shiftB (hs.blk i b' h3)
  · rcases get hb with ⟨h3, h4, h5⟩ | ⟨i, b', h3, rfl, h4, h5, h6⟩
    · simp only [if_pos h3] at hq
      obtain ⟨h7, h8⟩ := s.hs.live k b q h5 hg hq
      refine ⟨h7, fun hs' => ?_⟩
      rcases hs.st1 _ hs' with h9 | h9
      · exact h8 h9
      · exact other h5 hg h4 hq h9
    · rw [h5] at hq
      obtain ⟨h7, h8⟩ := hs.live i b' q h3 (mapg hg) hq
      exact ⟨hcM _ h7, h8⟩
  · rcases get hb with ⟨h3, h4, h5⟩ | ⟨i, b1, h3, rfl, h4, h5, h6⟩ <;> rcases get hb' with ⟨h3', h4', h5'⟩ | ⟨i', b1', h3', rfl, h4', h5', h6'⟩
    · simp only [if_pos h3] at hq
      simp only [if_pos h3'] at hq'
      exact s.hs.inj k k' b b' q q' h5 h5' hg hg' hq hq' e
    · simp only [if_pos h3] at hq
      rw [h5'] at hq'
      have hl := (hs.live i' b1' q' h3' (mapg hg') hq').1
      rw [← e] at hl
      exact absurd hl (other h5 hg h4 hq)
    · simp only [if_pos h3'] at hq'
      rw [h5] at hq
      have hl := (hs.live i b1 q h3 (mapg hg) hq).1
      rw [e] at hl
      exact absurd hl (other h5' hg' h4' hq')
    · rw [h5] at hq
      rw [h5'] at hq'
      have := hs.inj i i' b1 b1' q q' h3 h3' (mapg hg) (mapg hg') hq hq' e
      subst this
      rw [← h4, ← h4']
  · rcases hs.st1 b hb with hb' | hb'
    · exact s.hs.st1 b hb'
    · exact .inr (hcM b hb')
  · simp only [List.length_append, putH_length]
    exact Nat.le_trans s.hs.mle (Nat.le_add_right _ _)
  · have hlt := Nat.lt_of_lt_of_le hk s.hs.mle
    simp only [if_pos hlt]
    exact s.hs.keep k hk
end
end Go.Ab
