/-
  A logic of values for the walk, twenty-eighth part: the statement 'for .. := range f'.
-/
import Derived.Test.YtgibgknkfcbopaaAb27
namespace Go.Ab
open Go
set_option linter.unusedVariables false
set_option linter.unusedSimpArgs false

theorem SubH.live {θ : Nat → Nat} {h h' : Hp} {ρ : Pl} (hs : SubH θ h 0 h') {k : Nat} {x : AB} {p : Nat × Nat} (hx : h'[k]? = some x) (hg : x ≠ .gone) (hp : ρ (θ k) = some p) : ∃ y, h[θ k]? = some y ∧ y ≠ .gone := by
  have := hs.get k x hx
  rw [Nat.zero_add] at this
  exact ⟨_, this.resolve_left hg, by cases x <;> simp [AB.map] at *⟩
theorem th_mem {L : List Nat} {N k : Nat} (hk : k < L.length) : th L N k ∈ L := by
  unfold th
  rw [List.getElem?_eq_getElem hk]
  exact List.getElem_mem hk

theorem jump_wp {P : Program} {r : Option Nat} {Q : Exit → Act → World → Prop} {a : Act} {w : World} {e : Exit} {cd : Code} (h : jumpOf e = some cd) (hq : Q e a w) : cd.wpIn (rd r) 0 P Q a w := by
  cases e <;> simp [jumpOf] at h <;> subst h
  · exact wpIn_exit hq
  · exact wpIn_goto hq
  · exact wpIn_ret hq

/-- A loop over an iterator. LI: the objects that the iterator is handed; LA: those that the rounds keep. -/
theorem aw_range {P : Program} {n : Nat × Nat} {env : Env} {h : Hp} {Q : Exit → Env → Hp → Prop} {g : Operand} {ps : List Nat} {assign body : Code} {f : FuncId} {fs cs fs' cs' : List AV} {hit : Hp} {items : Nat → List AV} {N : Nat}
    (LI LA : List Nat) (E : Env) (HA : Nat → Hp) (m0 : Nat) (hx : evu env g = some (.clo (.func f) fs cs)) (hI : AIter P f fs' cs' hit items N)
    (hfs : AV.mapL (th LI h.length) fs' = fs) (hcs : AV.mapL (th LI h.length) cs' = cs) (hLI : LI.length = hit.length) (hHI : SubH (th LI h.length) h 0 hit) (hIn : LI.Nodup)
    (hLA : LA.length = (HA 0).length) (hEA : SubE (th LA h.length) env E) (hHA : SubH (th LA h.length) h 0 (HA 0)) (hAn : LA.Nodup) (hAk : ∀ i, i < n.2 → LA[i]? = some i) (hdis : ∀ x, x ∈ LI → x ∉ LA) (hn2 : n.2 ≤ m0) (hm0 : m0 ≤ (HA 0).length)
    (hlow : lowE m0 E = true) (hpl : ∀ t, t ∈ ps → t < n.1) (hit' : ∀ k, k < N → (items k).length = ps.length ∧ AV.idfL (items k) = true)
    (hround : ∀ k, k < N → AW P (n.1, m0) assign (roundEnv ps (items k) E) (HA k) (fun e v h => e = .normal ∧ AW P (n.1, m0) body v h (QR m0 E HA Q k)))
    (hafter : Q .normal E (HA N)) : AW P n (.rangeFunc g ps.toArray assign body) env h Q := by
  intro c ρ S a w QQ s hQ
  have p := s.pre
  refine wpIn_rangeFunc fun fn _ => ?_
  have hlo : c.lo ≤ w.heap.size := Nat.le_trans c.lole s.hs.ext.size
  obtain ⟨l, bd, mk, w1, T, henter, hl1, hlw, hll1, x01, hT, hmk⟩ := enter_loop (P := P) s.defers s.hs.stab hlo fn a.tmps ps.toArray assign body
  -- the function's value
  have hxv := p.evu hx
  simp only [R] at hxv
  obtain ⟨ys, zs, e1, hy1, hz1⟩ := hxv
  let ρA : Pl := fun k => ρ (th LA h.length k)
  let ρI : Pl := fun k => ρ (th LI h.length k)
  have hMnew : ∀ b, w1.heap.size ≤ b → liveB h ρ b ∨ (w.heap.size ≤ b ∧ ¬ T b) := fun b hb => .inr ⟨Nat.le_trans x01.size hb, fun ht => by have := (hT b ht).2.2; omega⟩
  let cA : Ctx := { w0 := w1, M := fun b => liveB h ρ b ∨ (w.heap.size ≤ b ∧ ¬ T b), new := hMnew, S0 := fun b => S b ∨ T b, ρ0 := ρA, m := m0, lo := c.lo, lole := Nat.le_trans hlo x01.size, r := some l }
  have hlnT : ¬ T l := fun ht => (hT l ht).2.1 rfl
  have hlnS : ∀ b, S b → b ≠ l := fun b hb e => by have := s.hs.stab b hb; omega
  -- the caller's objects, as the rounds keep them
  have hsA0 : HS c ρA S (HA 0) w := s.hs.sub hLA hHA hAn (fun i hi => hAk i (s.cm ▸ hi))
  obtain ⟨hsA1, later1⟩ := hsA0.world x01 (fun _ _ h => h) (fun _ _ _ _ _ _ h => h) (fun _ _ h => h.elim)
  have liveA : ∀ (k : Nat) x q, (HA 0)[k]? = some x → x ≠ .gone → ρA k = some q → liveB h ρ q.1 := fun k x q a1 a2 a3 => by
    obtain ⟨y, b1, b2⟩ := hHA.live (ρ := ρ) a1 a2 a3
    exact ⟨_, y, q.2, b1, b2, a3⟩
  have liveI : ∀ (k : Nat) x q, hit[k]? = some x → x ≠ .gone → ρI k = some q → liveB h ρ q.1 := fun k x q a1 a2 a3 => by
    obtain ⟨y, b1, b2⟩ := hHI.live (ρ := ρ) a1 a2 a3
    exact ⟨_, y, q.2, b1, b2, a3⟩
  have liveLt : ∀ b, liveB h ρ b → b < w.heap.size := fun b ⟨k, x, o, _, _, hp⟩ => s.hs.rng k _ hp
  have liveS : ∀ b, liveB h ρ b → ¬ S b := fun b ⟨k, x, o, a1, a2, a3⟩ => (s.hs.live k x _ a1 a2 a3).2
  have hsA2 : HS c ρA (fun b => S b ∨ T b) (HA 0) w1 := hsA1.more (fun _ h => .inl h) (fun b hb => by
    rcases hb with hb | hb
    · exact hsA1.stab b hb
    · exact (hT b hb).2.2) (fun k x q a1 a2 a3 hb => by
    have h1 := liveA k x q a1 a2 a3
    rcases hb with hb | hb
    · exact liveS _ h1 hb
    · have := (hT _ hb).1; have := liveLt _ h1; omega) (fun b hb => by
    rcases hb with hb | hb
    · exact s.hs.st1 b hb
    · exact .inr (c.new b (Nat.le_trans s.hs.ext.size (hT b hb).1)))
  have hsA : HS cA ρA (fun b => S b ∨ T b) (HA 0) w1 := hsA2.re cA (fun k x q a1 a2 a3 => .inl (liveA k x q a1 a2 a3)) (Ext.refl _ _) (fun _ h => h) (fun _ h => .inl h) hm0 (fun _ _ => rfl)
  -- the record
  obtain ⟨rec0, hrec⟩ : ∃ rec0 : Loop, rec0 = { state := .ready, pending := none, fn := fn, tmps := a.tmps, params := ps.toArray, assign := assign, body := body, defers := bd } := ⟨_, rfl⟩
  rw [← hrec] at hl1
  have hSA : ∀ b, (S b ∨ T b) → b < w1.heap.size ∧ ¬ (liveB h ρ b ∨ (w.heap.size ≤ b ∧ ¬ T b)) := fun b hb => by
    rcases hb with hb | hb
    · refine ⟨Nat.lt_of_lt_of_le (s.hs.stab b hb) x01.size, fun hm => ?_⟩
      rcases hm with hm | hm
      · exact liveS b hm hb
      · have := s.hs.stab b hb; omega
    · refine ⟨(hT b hb).2.2, fun hm => ?_⟩
      rcases hm with hm | hm
      · have := liveLt b hm; have := (hT b hb).1; omega
      · exact hm.2 hb
  have hMl : cA.M l := .inr ⟨hlw, hlnT⟩
  have hS0l : ¬ cA.S0 l := fun h => by
    rcases h with h | h
    · exact hlnS l h rfl
    · exact hlnT h
  have henvE : ∀ t x, look E t = some x → R (fun b => S b ∨ T b) w1 x ρA (a.tmps.getD t undef) := fun t x hx => by
    have h1 := R_map _ ρ _ _ (s.env t _ (hEA.look t x hx))
    exact R_S (fun _ h => .inl h) (h1.later later1)
  have hyield : JYield P l (JR cA l rec0 E HA Q) (fun b => cA.S0 b ∨ cA.M b) items N := by
    refine round_yield (cA := cA) (n1 := n.1) (m0 := m0) (ps := ps) rfl hMl hS0l hSA (by rw [hrec]) (by rw [hrec]) (by rw [hrec]) (by rw [hrec]; exact s.size) hpl hit' (fun t x hx => by rw [hrec]; exact henvE t x hx) hlow (fun k hk => by rw [hrec]; exact hround k hk)
  have hJok : JOk (JR cA l rec0 E HA Q) := jr_ok
  let W0 : Nat → Prop := fun b => liveB (HA 0) ρA b ∨ b = l
  let N0 : Nat → Prop := fun b => liveB (HA 0) ρA b ∨ (S b ∨ T b) ∨ b = l ∨ ¬ cA.M b
  have hJ0 : JR cA l rec0 E HA Q (0, false) W0 N0 w1 := ⟨ρA, _, HA 0, rec0, hsA, hl1, hS0l, fun k x q a1 a2 a3 e => by have := liveLt _ (liveA k x q a1 a2 a3); omega, fun b => Iff.rfl, fun b => Iff.rfl, fun _ => ⟨rfl, rfl⟩, fun h => by cases h⟩
  -- the iterator's call
  have hAnew : ∀ b, w1.heap.size ≤ b → cA.S0 b ∨ cA.M b := fun b hb => .inr (hMnew b hb)
  let c0 : Ctx := { w0 := w, M := fun b => liveB h ρ b ∨ w.heap.size ≤ b, new := fun b hb => .inr hb, S0 := S, ρ0 := fun _ => none, m := 0, lo := w.heap.size, lole := Nat.le_refl _, r := none }
  have hs0 : HS c0 ρ S h w := s.hs.re c0 (fun k x q a1 a2 a3 => .inl ⟨k, x, q.2, a1, a2, a3⟩) (Ext.refl _ _) (fun _ h => h) (fun _ h => .inl h) (Nat.zero_le _) (fun k hk => absurd hk (Nat.not_lt_zero _))
  have hsI0 : HS c0 ρI S hit w := hs0.sub hLI hHI hIn (fun i hi => absurd hi (Nat.not_lt_zero _))
  obtain ⟨hsI1, _⟩ := hsI0.world x01 (fun _ _ h => h) (fun _ _ _ _ _ _ h => h) (fun _ _ h => h.elim)
  have hsI : HS (ctxI w1 ρI S hit (fun b => cA.S0 b ∨ cA.M b) hAnew) ρI S hit w1 := hsI1.re _ (fun k x q a1 a2 a3 => .inr (.inl (liveI k x q a1 a2 a3))) (Ext.refl _ _) (fun _ h => h) (fun _ h => .inl h) (Nat.le_refl _) (fun _ _ => rfl)
  have hargs : RL S w1 (fs' ++ [.clo (.yield l) [] []] ++ cs') ρI (ys.toList ++ [Value.func (.yield l) #[] #[]] ++ zs.toList) := by
    have lI : Later ρI ρI S S w w1 := ⟨fun _ _ h => h, fun _ h => h, fun b hb => x01.same b (s.hs.stab b hb) (fun h => h), fun _ _ _ _ _ hr => x01.room hr⟩
    rw [← hfs] at hy1
    rw [← hcs] at hz1
    exact RL_append (RL_append ((RL_map _ ρ _ _ hy1).later lI) (by simp only [RL]; exact ⟨_, _, rfl, by simp only [R, RL]; exact ⟨#[], #[], rfl, rfl, rfl⟩, rfl⟩)) ((RL_map _ ρ _ _ hz1).later lI)
  have hcall := hI.2 _ _ l hJok hyield ρI S w1 _ W0 N0 hAnew hsI hargs hJ0 (fun k x q a1 a2 a3 hn => by
    have hlv := liveI k x q a1 a2 a3
    rcases hn with ⟨k', x', o', b1, b2, b3⟩ | hn | hn | hn
    · obtain ⟨y, d1, d2⟩ := hHI.live (ρ := ρ) a1 a2 a3
      obtain ⟨y', d3, d4⟩ := hHA.live (ρ := ρ) b1 b2 b3
      have he := s.hs.inj _ _ _ _ _ _ d1 d3 d2 d4 a3 b3 rfl
      have hkI : k < LI.length := by rw [hLI]; exact (List.getElem?_eq_some_iff.1 a1).1
      have hkA : k' < LA.length := by rw [hLA]; exact (List.getElem?_eq_some_iff.1 b1).1
      exact hdis _ (th_mem (N := h.length) hkI) (he ▸ th_mem (N := h.length) hkA)
    · rcases hn with hn | hn
      · exact liveS _ hlv hn
      · have := (hT _ hn).1; have := liveLt _ hlv; omega
    · have := liveLt _ hlv; omega
    · exact hn (.inl hlv)) (fun b hb => ⟨.inl (.inl hb), fun hw => by
    rcases hw with ⟨k', x', o', b1, b2, b3⟩ | hw
    · exact liveS b (liveA k' x' (b, o') b1 b2 b3) hb
    · exact hlnS b hb hw⟩) (fun b hw => by
    rcases hw with ⟨k', x', o', b1, b2, b3⟩ | rfl
    · exact .inr (.inl (liveA k' x' (b, o') b1 b2 b3))
    · exact .inr hMl)
  have hrun := run_call (P := P) (f := f) (args := (ys.toList ++ [Value.func (.yield l) #[] #[]] ++ zs.toList).toArray) (w := w1) hI.1
  refine ⟨l, mk, w1, { target := .fn (.func f) zs, args := ys ++ #[Value.func (.yield l) #[] #[]] }, w1, f, (ys.toList ++ [Value.func (.yield l) #[] #[]] ++ zs.toList).toArray, w1, henter, ?_, fun _ _ => trivial, ?_, (fun h => (by cases h)), ?_⟩
  · simp only [resolve]
    rw [e1]
    simp [Deferred.ofValue, Act.eval]
  · have e2 : (ys ++ #[Value.func (.yield l) #[] #[]] ++ zs : Array Value) = (ys.toList ++ [Value.func (.yield l) #[] #[]] ++ zs.toList).toArray := by
      apply Array.ext'; simp
    simp only [invoke]
    rw [e2]
    exact hrun
  refine (rd_calls (r := c.r) (n := 0 - 1) hcall).mono ?_
  rintro e w5 ⟨y, g', W5, N5, rfl, ⟨ρ5, S5, hh, rec5, s5, hl5, hSl5, hll5, hW5, hN5, hg1, hg2⟩, hgN⟩
  -- behind the loop
  have hbusy : rec5.state ≠ .busy := by
    cases hb : g'.2 with
    | false => rw [(hg1 hb).2, hrec]; simp
    | true =>
      obtain ⟨e, cd, _, hr, _⟩ := hg2 hb
      rw [hr]; simp
  refine ⟨_, _, run_endLoop hl5 hbusy, ?_⟩
  obtain ⟨s6, hr6⟩ := s5.put hl5 (fun _ _ _ e => by cases e) (fun _ _ e => by cases e) (.loop { rec5 with state := .exhausted }) (fun _ => hMl) hS0l
  have hAc : ∀ b, cA.M b → c.M b := fun b hb => by
    rcases hb with ⟨k, x, o, a1, a2, a3⟩ | hb
    · exact (s.hs.live k x _ a1 a2 a3).1
    · exact c.new b (Nat.le_trans s.hs.ext.size hb.1)
  have s7 : HS c ρ5 (fun b => S5 b ∧ b ≠ l) hh (w5.putObj l (.loop { rec5 with state := .exhausted })) := s6.re c (fun k x q a1 a2 a3 => hAc _ (s6.live k x q a1 a2 a3).1) (s.hs.ext.trans (((x01.mono (N := cA.M) fun _ _ h => h.elim)).trans s6.ext (fun _ h _ => h)) fun b hb _ => hAc b hb) (fun b hb => ⟨s5.st0 b (.inl (s.hs.st0 b hb)), hlnS b (s.hs.st0 b hb)⟩) (fun b hb => by
    rcases s5.st1 b hb.1 with (h | h) | h
    · exact s.hs.st1 b h
    · exact .inr (c.new b (Nat.le_trans s.hs.ext.size (hT b h).1))
    · exact .inr (hAc b h)) (Nat.le_trans (by rw [s.cm]; exact hn2) s5.mle) (fun k hk => by
    have hk2 : k < n.2 := s.cm ▸ hk
    have h1 := s5.keep k (Nat.lt_of_lt_of_le hk2 hn2)
    rw [h1]
    show ρ (th LA h.length k) = _
    have : th LA h.length k = k := by unfold th; rw [hAk k hk2]
    rw [this]; exact s.hs.keep k hk)
  have hsame : ∀ b, (S b ∨ T b) → (w5.putObj l (.loop { rec5 with state := .exhausted })).heap[b]? = w1.heap[b]? := fun b hb => s6.ext.same b (hSA b hb).1 (hSA b hb).2
  have s8 : Sim n c ρ5 (fun b => S5 b ∧ b ≠ l) E hh { a with defers := mk ++ a.defers } (w5.putObj l (.loop { rec5 with state := .exhausted })) := by
    refine ⟨s.size, hmk _ _ (fun b hb => ⟨s5.st0 b (.inl hb), hlnS b hb⟩) (fun b hb => ⟨s5.st0 b (.inr hb), (hT b hb).2.1⟩) hsame, fun t x hx => ?_, s7, s.cm⟩
    have h1 := R_low (ρ' := ρ5) (m := m0) (fun q hq => s5.keep q hq) x _ (lowE_look hlow hx) (henvE t x hx)
    exact R_later (fun b hb => ⟨s5.st0 b hb, fun e => hS0l (e ▸ hb)⟩) hsame x ρ5 ρ5 _ (fun _ _ h => h) (fun _ _ _ _ _ hr => s6.ext.room hr) h1
  generalize w5.putObj l (.loop { rec5 with state := .exhausted }) = w6 at s8 ⊢
  cases hb : g'.2 with
  | false =>
    obtain ⟨rfl, hr5⟩ := hg1 hb
    rw [hgN hb] at s8
    have : rec5.pending = none := by rw [hr5, hrec]
    rw [this]
    exact hQ .normal E (HA N) ρ5 _ _ _ hafter s8
  | true =>
    obtain ⟨e, cd, he, hr, hq⟩ := hg2 hb
    have : rec5.pending = some cd := by rw [hr]
    rw [this]
    exact jump_wp he (hQ e E hh ρ5 _ _ _ hq s8)
end Go.Ab
