/-
  A logic of values for the walk: calls among floating operations that are handed objects, of which one may change, and that make one object more.
-/
import Derived.Test.YtgnnbmgljadokaaDoorAb51
namespace Go.Ab
open Go
set_option linter.unusedVariables false
set_option linter.unusedSimpArgs false
/-- Where the callee's objects lie among the caller's behind the call: its new one lies at 'pos'. -/
def backP (L : List Nat) (pos k : Nat) : Nat := match L[k]? with
  | some j => j
  | none => pos
theorem HS.callP {c : Ctx} {ρ ρ' : Pl} {S S' : Nat → Prop} {H hin hout : Hp} {w w' : World} {L : List Nat} {pos : Nat} {b1 : AB} (s : HS c ρ S H w) (hL : L.length = hin.length) (hnd : L.Nodup) (hh : SubH (th L H.length) H 0 hin) (hng : ∀ b, b ∈ hin → b ≠ .gone)
    (hlen : hout.length = hin.length) (hp0 : ρ pos = Option.none) (hp1 : H[pos]? = some .gone) (hpm : c.m ≤ pos)
    (hs : HS (ctx0 w (fun k => ρ (th L H.length k)) S hin) ρ' S' (hout ++ [b1]) w') :
    ∃ ρ3 : Pl, HS c ρ3 S' ((putH H L (hout.map (AB.map (backP L pos)))).set pos (b1.map (backP L pos))) w' ∧ Later ρ ρ3 S S' w w' ∧ (∀ {x : AV} {y : Value}, R S' w' x ρ' y → R S' w' (x.map (backP L pos)) ρ3 y) ∧ ∀ j, j ≠ pos → ρ3 j = ρ j := by
  have hin_at : ∀ {i : Nat} {b : AB}, hin[i]? = some b → ∃ j, L[i]? = some j ∧ j < H.length ∧ H[j]? = some (b.map (th L H.length)) ∧ b.map (th L H.length) ≠ .gone := fun {i b} hb => by
    have hne := hng b (List.mem_of_getElem? hb)
    have hlt : i < L.length := by rw [hL]; exact (List.getElem?_eq_some_iff.1 hb).1
    have hj := List.getElem?_eq_getElem hlt
    have hth : th L H.length i = L[i] := by simp [th, hj]
    rcases hh.get i b hb with hg | hg
    · exact absurd hg hne
    · rw [Nat.zero_add, hth] at hg
      exact ⟨L[i], hj, (List.getElem?_eq_some_iff.1 hg).1, hg, by cases b <;> simp [AB.map] at * ⟩
  have thL : ∀ {i j : Nat}, L[i]? = some j → th L H.length i = j := fun hi => by simp [th, hi]
  have keep : ∀ {i j : Nat}, i < hin.length → L[i]? = some j → ρ' i = ρ j := fun {i j} hi hj => by
    have := hs.keep i hi
    simp only [ctx0] at this
    rw [this, thL hj]
  have hM : ∀ b, (ctx0 w (fun k => ρ (th L H.length k)) S hin).M b → w.heap.size ≤ b ∨ ∃ (i j : Nat) (o : Nat) (x : AB), hin[i]? = some x ∧ L[i]? = some j ∧ ρ j = some (b, o) := fun b hb => by
    rcases hb with hb | ⟨k, x, o, hb, _, hp⟩
    · exact .inl hb
    · obtain ⟨j, h3, _⟩ := hin_at hb
      exact .inr ⟨k, j, o, x, hb, h3, by rw [← thL h3]; exact hp⟩
  have hcM : ∀ b, (ctx0 w (fun k => ρ (th L H.length k)) S hin).M b → c.M b := fun b hb => by
    rcases hM b hb with hb | ⟨i, j, o, x, h3, h4, h5⟩
    · exact c.new b (Nat.le_trans s.ext.size hb)
    · obtain ⟨j', h6, _, h7, h8⟩ := hin_at h3
      rw [h4] at h6; cases h6
      exact (s.live j _ _ h7 h8 h5).1
  have hlow : ∀ b, b < w.heap.size → (ctx0 w (fun k => ρ (th L H.length k)) S hin).M b → ∃ (i j : Nat) (o : Nat) (x : AB), hin[i]? = some x ∧ L[i]? = some j ∧ ρ j = some (b, o) := fun b hlt hb => by
    rcases hM b hb with hb | hb
    · omega
    · exact hb
  have other : ∀ {k : Nat} {b : AB} {q : Nat × Nat}, H[k]? = some b → b ≠ .gone → k ∉ L → ρ k = some q → ¬ (ctx0 w (fun k => ρ (th L H.length k)) S hin).M q.1 := fun {k b q} hb hg hkL hq hm => by
    obtain ⟨i, j, o, x, h3, h4, h5⟩ := hlow q.1 (s.rng k q hq) hm
    obtain ⟨j', h6, _, h7, h8⟩ := hin_at h3
    rw [h4] at h6; cases h6
    have := s.inj k j _ _ q _ hb h7 hg h8 hq h5 rfl
    subst this
    exact hkL (List.mem_of_getElem? h4)
  have stM : ∀ b, S b → ¬ (ctx0 w (fun k => ρ (th L H.length k)) S hin).M b := fun b hb hm => by
    obtain ⟨i, j, o, x, h3, h4, h5⟩ := hlow b (s.stab b hb) hm
    obtain ⟨j', h6, _, h7, h8⟩ := hin_at h3
    rw [h4] at h6; cases h6
    exact (s.live j _ _ h7 h8 h5).2 hb
  have same : ∀ b, b < w.heap.size → ¬ (ctx0 w (fun k => ρ (th L H.length k)) S hin).M b → w'.heap[b]? = w.heap[b]? := fun b hb hm => hs.ext.same b hb hm
  have hposL : pos ∉ L := fun hm => by
    obtain ⟨i, hi⟩ := List.mem_iff_getElem?.1 hm
    have hlt : i < hin.length := by rw [← hL]; exact (List.getElem?_eq_some_iff.1 hi).1
    obtain ⟨j, h3, _, h4, h5⟩ := hin_at (List.getElem?_eq_getElem hlt)
    rw [hi] at h3; cases h3
    rw [hp1] at h4
    exact h5 (Option.some.inj h4).symm
  have hposH : pos < H.length := (List.getElem?_eq_some_iff.1 hp1).1
  let ρ3 : Pl := fun j => if j = pos then ρ' hin.length else ρ j
  have r3p : ρ3 pos = ρ' hin.length := if_pos rfl
  have r3o : ∀ j, j ≠ pos → ρ3 j = ρ j := fun j hj => if_neg hj
  have l : Later ρ ρ3 S S' w w' := by
    refine ⟨fun k q hq => ?_, hs.st0, fun b hb => same b (s.stab b hb) (stM b hb), fun _ _ _ _ _ hr => hs.ext.room hr⟩
    rw [r3o k (fun e => by rw [e, hp0] at hq; cases hq)]; exact hq
  have pl : ∀ k q, ρ' k = some q → ρ3 (backP L pos k) = some q := fun k q hq => by
    by_cases hk : k < hin.length
    · obtain ⟨j, h3, _, _⟩ := hin_at (List.getElem?_eq_getElem hk)
      have hbk : backP L pos k = j := by simp [backP, h3]
      have hjp : j ≠ pos := fun e => hposL (e ▸ List.mem_of_getElem? h3)
      rw [hbk, r3o j hjp, ← keep hk h3]; exact hq
    · by_cases hk2 : k = hin.length
      · have hbk : backP L pos k = pos := by unfold backP; rw [List.getElem?_eq_none (by omega)]
        rw [hbk, r3p, ← hk2]; exact hq
      · have := hs.dom k (by rw [List.length_append, hlen, List.length_singleton]; omega)
        rw [this] at hq; cases hq
  have shift : ∀ {x : AV} {y : Value}, R S' w' x ρ' y → R S' w' (x.map (backP L pos)) ρ3 y := fun {x y} hx => R_map' _ _ x y (R_later (fun _ h => h) (fun _ _ => rfl) x ρ' _ y pl (fun _ _ _ _ _ h => h) hx)
  have shiftB : ∀ {b : AB} {pp}, RB S' w' ρ' pp b → RB S' w' ρ3 pp (b.map (backP L pos)) := fun {b pp} hb => RB_map' _ _ (RB.later (ρ := ρ') (S := S') ⟨pl, fun _ h => h, fun _ _ => rfl, fun _ _ _ _ _ h => h⟩ (fun _ _ _ => rfl) hb)
  have get : ∀ {k : Nat} {b : AB}, ((putH H L (hout.map (AB.map (backP L pos)))).set pos (b1.map (backP L pos)))[k]? = some b →
      (k ≠ pos ∧ k ∉ L ∧ H[k]? = some b) ∨ (∃ (i : Nat) (b' : AB), (hout ++ [b1])[i]? = some b' ∧ b = b'.map (backP L pos) ∧ backP L pos i = k ∧ ρ3 k = ρ' i) := fun {k b} hb => by
    rw [List.getElem?_set] at hb
    by_cases hk : pos = k
    · rw [if_pos hk, if_pos (by rw [putH_length]; exact hposH)] at hb
      cases hb
      refine .inr ⟨hin.length, b1, by rw [← hlen]; simp, rfl, ?_, by rw [← hk]; exact r3p⟩
      unfold backP
      rw [List.getElem?_eq_none (by omega)]
      exact hk
    · rw [if_neg hk] at hb
      by_cases hkL : k ∈ L
      · obtain ⟨i, hi⟩ := List.mem_iff_getElem?.1 hkL
        have hiL : i < hin.length := by rw [← hL]; exact (List.getElem?_eq_some_iff.1 hi).1
        have hb' := List.getElem?_eq_getElem (l := hout) (i := i) (by omega)
        have hkl : k < H.length := by
          have := (List.getElem?_eq_some_iff.1 hb).1
          rwa [putH_length] at this
        rw [putH_at (b := (hout[i]'(by omega)).map (backP L pos)) hnd hi (by simp [hb']) hkl] at hb
        simp only [Option.some.injEq] at hb
        exact .inr ⟨i, _, by rw [List.getElem?_append_left (by omega)]; exact hb', hb.symm, by simp [backP, hi], by rw [r3o k (fun e => hk e.symm)]; exact (keep hiL hi).symm⟩
      · rw [putH_other _ _ _ hkL] at hb
        exact .inl ⟨fun e => hk e.symm, hkL, hb⟩
  have mapg : ∀ {θ : Nat → Nat} {b : AB}, b.map θ ≠ .gone → b ≠ .gone := fun hb e => hb (by rw [e]; rfl)
  refine ⟨ρ3, ⟨fun k hk => ?_, fun k q hq => ?_, fun k b hb => ?_, fun k b q hb hg hq => ?_, fun k k' b b' q q' hb hb' hg hg' hq hq' e => ?_, hs.stab, s.ext.trans hs.ext (fun b hb hlt => hcM b hb), fun b hb => hs.st0 b (s.st0 b hb), fun b hb => ?_, ?_, fun k hk => ?_, hs.glob⟩, l, shift, r3o⟩
  · rw [List.length_set, putH_length] at hk
    rw [r3o k (by omega)]
    exact s.dom k hk
  · by_cases hk : k = pos
    · rw [hk, r3p] at hq; exact hs.rng _ q hq
    · rw [r3o k hk] at hq; exact Nat.lt_of_lt_of_le (s.rng k q hq) hs.ext.size
  · rcases get hb with ⟨h3, h4, h5⟩ | ⟨i, b', h3, rfl, h4, h5⟩
    · rw [r3o k h3]
      by_cases hg : b = .gone
      · subst hg; trivial
      · exact RB.later l (fun b1 o1 hp => same b1 (s.rng k _ hp) (other h5 hg h4 hp)) (s.blk k b h5)
    · rw [h5]
      exact shiftB (hs.blk i b' h3)
  · rcases get hb with ⟨h3, h4, h5⟩ | ⟨i, b', h3, rfl, h4, h5⟩
    · rw [r3o k h3] at hq
      obtain ⟨h7, h8⟩ := s.live k b q h5 hg hq
      refine ⟨h7, fun hs' => ?_⟩
      rcases hs.st1 _ hs' with h9 | h9
      · exact h8 h9
      · exact other h5 hg h4 hq h9
    · rw [h5] at hq
      obtain ⟨h7, h8⟩ := hs.live i b' q h3 (mapg hg) hq
      exact ⟨hcM _ h7, h8⟩
  · rcases get hb with ⟨h3, h4, h5⟩ | ⟨i, b1, h3, rfl, h4, h5⟩ <;> rcases get hb' with ⟨h3', h4', h5'⟩ | ⟨i', b1', h3', rfl, h4', h5'⟩
    · rw [r3o k h3] at hq
      rw [r3o k' h3'] at hq'
      exact s.inj k k' b b' q q' h5 h5' hg hg' hq hq' e
    · rw [r3o k h3] at hq
      rw [h5'] at hq'
      have hl := (hs.live i' b1' q' h3' (mapg hg') hq').1
      rw [← e] at hl
      exact absurd hl (other h5 hg h4 hq)
    · rw [r3o k' h3'] at hq'
      rw [h5] at hq
      have hl := (hs.live i b1 q h3 (mapg hg) hq).1
      rw [e] at hl
      exact absurd hl (other h5' hg' h4' hq')
    · rw [h5] at hq
      rw [h5'] at hq'
      have := hs.inj i i' b1 b1' q q' h3 h3' (mapg hg) (mapg hg') hq hq' e
      subst this
      rw [← h4, ← h4']
  · rcases hs.st1 b hb with hb' | hb'
    · exact s.st1 b hb'
    · exact .inr (hcM b hb')
  · rw [List.length_set, putH_length]; exact s.mle
  · rw [r3o k (by omega)]
    exact s.keep k hk
theorem SubH.up {θ : Nat → Nat} {h H : Hp} (hb : ∀ (j : Nat) b, h[j]? = some b → b ≠ .gone → H[j]? = some b) : ∀ {hin : Hp} {i : Nat}, (∀ b, b ∈ hin → b ≠ .gone) → SubH θ h i hin → SubH θ H i hin
  | [], _, _, _ => trivial
  | b :: r, i, hng, hs => by
    refine ⟨?_, SubH.up hb (fun x hx => hng x (List.mem_cons_of_mem _ hx)) hs.2⟩
    rcases hs.1 with h1 | h1
    · exact .inl h1
    · refine .inr (hb _ _ h1 ?_)
      have := hng b List.mem_cons_self
      cases b <;> simp [AB.map] at *
section
variable {P : Program} {env : Env} {h : Hp} {d : Option Nat} {ty : TypeId} {pos : String} {af : Array Edge}
/-- A call that is handed the objects L, of which k may change, and that makes one object more. -/
theorem as_callk (L : List Nat) {pp k : Nat} {nb b1 u1 : AB} {uu : AV} {dd : Nat} {x : Operand} {f : FuncId} {fs cs us xs : List AV} {args : List Operand} {ats : Array TypeId} {res : AV} {hin hout : Hp} (hx : evu env x = some (.clo (.func f) fs cs)) (ha : evL env args = some us)
    (hc : ACall P f xs hin res (hout ++ [b1])) (hxs : ∀ N, fs ++ us ++ cs = AV.mapL (th L N) xs) (hL : L.length = hin.length) (hnd : L.Nodup) (hh : ∀ N, SubH (th L N) h 0 hin) (hng : ∀ b, b ∈ hin → b ≠ .gone) (hlen : hout.length = hin.length)
    (hput : ∀ H : Hp, (∀ (j : Nat) b, h[j]? = some b → b ≠ .gone → H[j]? = some b) → putH H L (hout.map (AB.map (backP L pp))) = H.set k nb) (hu : res.map (backP L pp) = uu) (hb1 : b1.map (backP L pp) = u1) :
    AStep P ⟨some dd, .call { callee := .value x, args := args.toArray, argTypes := ats }, ty, pos, af, none⟩ env h pp k nb uu [u1] := by
  intro c ρ S a w H g p hbel hpp K' Q hK'
  obtain ⟨hr0, hH0, hm0⟩ : ρ pp = none ∧ H[pp]? = some .gone ∧ c.m ≤ pp := by
    rcases hpp with h0 | h0
    · cases h0
    · exact h0
  have hxv := p.evu hx
  simp only [R] at hxv
  obtain ⟨ys, zs, e1, h1, h2⟩ := hxv
  have hall : RL S w (fs ++ us ++ cs) ρ (ys.toList ++ args.map a.eval ++ zs.toList) := RL_append (RL_append h1 (evL_val p ha)) h2
  rw [hxs H.length] at hall
  have hargs := RL_map (th L H.length) ρ _ _ hall
  obtain ⟨hf, hc⟩ := hc
  have hsub := SubH.up hbel hng (hh H.length)
  have hs0 := g.hand hL hnd hsub
  have hcall := hc _ S w _ hs0 hargs
  unfold Oper.wp
  have hrun : (execOp a.eval ⟨some dd, .call { callee := .value x, args := args.toArray, argTypes := ats }, ty, pos, af, none⟩).run P w = .ok (.enter f (ys.toList ++ args.map a.eval ++ zs.toList).toArray) w := by
    have e2 : (ys ++ (args.toArray.map a.eval) ++ zs) = (ys.toList ++ args.map a.eval ++ zs.toList).toArray := by
      apply Array.ext'; simp
    simp only [execOp, resolve, e1, Deferred.ofValue, Sem.run_bind, Sem.run_pure, Result.andThen_ok, invoke]
    rw [e2]
    exact run_call hf
  rw [hrun]
  simp only [Oper.upon]
  refine hcall.mono ?_
  rintro e w' ⟨y, ρ', S', rfl, hs, hy⟩
  simp only
  obtain ⟨ρ3, g1, g2, g3, g4⟩ := g.callP hL hnd hsub hng hlen hr0 hH0 hm0 hs
  rw [hput H hbel, hb1] at g1
  exact hK' _ ρ3 S' w' g1 g2 (hu ▸ g3 hy) (fun j hj => g4 j (hj (by simp)))
end
end Go.Ab
