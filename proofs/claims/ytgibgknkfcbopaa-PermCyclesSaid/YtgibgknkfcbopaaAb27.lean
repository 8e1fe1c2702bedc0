/-
  A logic of values for the walk, twenty-seventh part: a loop over an iterator.
-/
import Derived.Test.YtgibgknkfcbopaaAb26
namespace Go.Ab
open Go
set_option linter.unusedVariables false
set_option linter.unusedSimpArgs false

/-- How a loop over a function begins: its record is laid, and, outside of rounds, a block for deferred calls. -/
theorem enter_loop {P : Program} {c : Ctx} {S : Nat → Prop} {l0 : List Deferred} {w : World} (m : Marks c S l0 w) (hS : ∀ b, S b → b < w.heap.size) (hlo : c.lo ≤ w.heap.size) (fn : FuncId) (tmps : Array Value) (ps : Array Tmp) (assign body : Code) :
    ∃ (l bd : Nat) (mk : List Deferred) (w1 : World) (T : Nat → Prop), (Instr.enterLoop fn tmps ps assign body c.r).run P w = .ok (l, mk) w1 ∧
      w1.heap[l]? = some (.loop { state := .ready, pending := none, fn := fn, tmps := tmps, params := ps, assign := assign, body := body, defers := bd }) ∧ w.heap.size ≤ l ∧ l < w1.heap.size ∧ Ext (fun _ => False) w w1 ∧
      (∀ b, T b → w.heap.size ≤ b ∧ b ≠ l ∧ b < w1.heap.size) ∧
      (∀ S' w', (∀ b, S b → S' b) → (∀ b, T b → S' b) → (∀ b, S b ∨ T b → w'.heap[b]? = w1.heap[b]?) → Marks c S' (mk ++ l0) w') := by
  obtain ⟨⟨D, hD1, hD2, hD3⟩, hr⟩ := m
  cases hc : c.r with
  | none =>
    have hx : Ext (fun _ => False) w ((w.alloc (.deferred (some []))).alloc (.loop { state := .ready, pending := none, fn := fn, tmps := tmps, params := ps, assign := assign, body := body, defers := w.heap.size })) := (ext_alloc w _ _).trans (ext_alloc _ _ (fun _ => False)) (fun _ h _ => h)
    refine ⟨w.heap.size + 1, w.heap.size, [mark w.heap.size], _, fun b => b = w.heap.size, run_enterLoop_outer _ _ _ _ _, ?_, by omega, by simp, hx, fun b hb => by subst hb; simp; omega, fun S' w' h1 h2 h3 => ⟨⟨w.heap.size :: D, by rw [hD1]; rfl, ?_, fun b hb => ?_⟩, fun q hq => by rw [hc] at hq; cases hq⟩⟩
    · have := World.alloc_heap_new (w.alloc (.deferred (some []))) (.loop { state := .ready, pending := none, fn := fn, tmps := tmps, params := ps, assign := assign, body := body, defers := w.heap.size })
      rwa [World.size_alloc] at this
    · rw [List.nodup_cons]
      exact ⟨fun hm => by have := hS _ (hD3 _ hm).1; omega, hD2⟩
    · rcases List.mem_cons.1 hb with rfl | hb
      · refine ⟨h2 _ rfl, ?_, hlo⟩
        rw [h3 _ (.inr rfl)]
        exact (RowKit.Below.heap_alloc _ _ _ (by simp)).trans (World.alloc_heap_new w _)
      · obtain ⟨q1, q2, q3⟩ := hD3 b hb
        exact ⟨h1 _ q1, by rw [h3 _ (.inl q1), hx.same b (hS b q1) (by simp)]; exact q2, q3⟩
  | some q =>
    obtain ⟨hq1, r0, hq2⟩ := hr q hc
    have hx : Ext (fun _ => False) w (w.alloc (.loop { state := .ready, pending := none, fn := fn, tmps := tmps, params := ps, assign := assign, body := body, defers := r0.defers })) := ext_alloc w _ _
    have hrun : (Instr.enterLoop fn tmps ps assign body (some q)).run P w = .ok (w.heap.size, []) (w.alloc (.loop { state := .ready, pending := none, fn := fn, tmps := tmps, params := ps, assign := assign, body := body, defers := r0.defers })) := by
      unfold Instr.enterLoop
      simp only [Sem.run_bind, run_getLoop hq2, run_newObj_alloc, Result.andThen, Sem.run_pure]
    refine ⟨w.heap.size, r0.defers, [], _, fun _ => False, hrun, World.alloc_heap_new w _, Nat.le_refl _, by simp, hx, fun b hb => hb.elim, fun S' w' h1 h2 h3 => ⟨⟨D, hD1, hD2, fun b hb => ?_⟩, fun q' hq' => ?_⟩⟩
    · obtain ⟨q1, q2, q3⟩ := hD3 b hb
      exact ⟨h1 _ q1, by rw [h3 _ (.inl q1), hx.same b (hS b q1) (by simp)]; exact q2, q3⟩
    · obtain ⟨g1, rec, g2⟩ := hr q' hq'
      exact ⟨h1 _ g1, rec, by rw [h3 _ (.inl g1), hx.same q' (hS q' g1) (by simp)]; exact g2⟩

/-- The loop's state between two rounds. -/
def JR (cA : Ctx) (l : Nat) (rec0 : Loop) (E : Env) (HA : Nat → Hp) (Q : Exit → Env → Hp → Prop) : JT := fun g W N w =>
  ∃ ρ S hh rec, HS cA ρ S hh w ∧ w.heap[l]? = some (.loop rec) ∧ ¬ S l ∧ (∀ (k : Nat) x p, hh[k]? = some x → x ≠ .gone → ρ k = some p → p.1 ≠ l) ∧ (∀ b, W b ↔ liveB hh ρ b ∨ b = l) ∧ (∀ b, N b ↔ liveB hh ρ b ∨ S b ∨ b = l ∨ ¬ cA.M b) ∧
    (g.2 = false → hh = HA g.1 ∧ rec = rec0) ∧ (g.2 = true → ∃ e cd, jumpOf e = some cd ∧ rec = { rec0 with state := .done, pending := some cd } ∧ Q e E hh)

section
variable {cA : Ctx} {l : Nat} {rec0 : Loop} {E : Env} {HA : Nat → Hp} {Q : Exit → Env → Hp → Prop}
theorem jr_ok : JOk (JR cA l rec0 E HA Q) := by
  refine ⟨fun {g W N w w'} j x => ?_, fun {g W N w} j b hb => ?_, fun {g W N w} j b hb => ?_⟩
  · obtain ⟨ρ, S, hh, rec, s, h1, h2, h3, h4, h5, h6⟩ := j
    obtain ⟨s', _⟩ := s.world x (fun b hb h => h ((h5 b).2 (.inr (.inl hb)))) (fun k y p a1 a2 a3 h => h ((h5 _).2 (.inl ⟨k, y, p.2, a1, a2, a3⟩))) (fun b hb hn => Classical.byContradiction fun hM => hn ((h5 b).2 (.inr (.inr (.inr hM)))))
    exact ⟨ρ, S, hh, rec, s', by rw [x.same l (Array.getElem?_eq_some_iff.1 h1).1 (fun h => h ((h5 l).2 (.inr (.inr (.inl rfl)))))]; exact h1, h2, h3, h4, h5, h6⟩
  · obtain ⟨ρ, S, hh, rec, s, h1, h2, h3, h4, h5, h6⟩ := j
    exact (h5 b).2 (((h4 b).1 hb).elim .inl fun h => .inr (.inr (.inl h)))
  · obtain ⟨ρ, S, hh, rec, s, h1, h2, h3, h4, h5, h6⟩ := j
    rcases (h5 b).1 hb with ⟨k, x, o, _, _, hp⟩ | hb | rfl | hb
    · exact s.rng k _ hp
    · exact s.stab b hb
    · exact (Array.getElem?_eq_some_iff.1 h1).1
    · apply Classical.byContradiction
      intro hge
      exact hb (cA.new b (by have := s.ext.size; omega))

/-- What is asked at a round's end. -/
def QR (m0 : Nat) (E : Env) (HA : Nat → Hp) (Q : Exit → Env → Hp → Prop) (k : Nat) : Exit → Env → Hp → Prop
  | .normal, v, h => Sub m0 v h [] (HA (k + 1))
  | e, v, h => (∃ cd, jumpOf e = some cd) ∧ ∃ hx, Sub m0 v h [] hx ∧ Q e E hx

/-- One round. -/
theorem round_yield {P : Program} {n1 m0 : Nat} {items : Nat → List AV} {N : Nat} {ps : List Nat} (hm : cA.m = m0) (hMl : cA.M l) (hS0l : ¬ cA.S0 l) (hS0 : ∀ b, cA.S0 b → b < cA.w0.heap.size ∧ ¬ cA.M b) (hst : rec0.state = .ready) (hpe : rec0.pending = none) (hps : rec0.params = ps.toArray)
    (hsz : rec0.tmps.size = n1) (hpl : ∀ t, t ∈ ps → t < n1) (hit : ∀ k, k < N → (items k).length = ps.length ∧ AV.idfL (items k) = true)
    (hE : ∀ t x, look E t = some x → R cA.S0 cA.w0 x cA.ρ0 (rec0.tmps.getD t undef)) (hlow : lowE m0 E = true)
    (hround : ∀ k, k < N → AW P (n1, m0) rec0.assign (roundEnv ps (items k) E) (HA k) (fun e v h => e = .normal ∧ AW P (n1, m0) rec0.body v h (QR m0 E HA Q k))) :
    JYield P l (JR cA l rec0 E HA Q) (fun b => cA.S0 b ∨ cA.M b) items N := by
  intro k hk W Nn w Sb vs j hSb hv
  obtain ⟨ρ, S, hh, rec, s, hl, hSl, hll, hW, hN, hg, _⟩ := j
  obtain ⟨rfl, rfl⟩ := hg rfl
  dsimp only at s hll hW hN
  have hlt : l < w.heap.size := (Array.getElem?_eq_some_iff.1 hl).1
  have hvl := RL_length hv
  obtain ⟨hil, hiidf⟩ := hit k hk
  -- what no longer changes, in a round
  have hS2lt : ∀ b, (S b ∨ Sb b ∨ b = l) → b < w.heap.size := fun b hb => by
    rcases hb with hb | hb | rfl
    · exact s.stab b hb
    · obtain ⟨_, _, cc, e, fz, h⟩ := hSb b hb
      exact (Array.getElem?_eq_some_iff.1 h).1
    · exact hlt
  have hlive : ∀ (q : Nat) y p, (HA k)[q]? = some y → y ≠ .gone → ρ q = some p → liveB (HA k) ρ p.1 := fun q y p a1 a2 a3 => ⟨q, y, p.2, a1, a2, a3⟩
  have hS2live : ∀ (q : Nat) y p, (HA k)[q]? = some y → y ≠ .gone → ρ q = some p → ¬ (S p.1 ∨ Sb p.1 ∨ p.1 = l) := fun q y p a1 a2 a3 hb => by
    rcases hb with hb | hb | hb
    · exact (s.live q y p a1 a2 a3).2 hb
    · exact (hSb _ hb).2.1 ((hW _).2 (.inl (hlive q y p a1 a2 a3)))
    · exact hll q y p a1 a2 a3 hb
  have s2 : HS cA ρ (fun b => S b ∨ Sb b ∨ b = l) (HA k) w := s.more (fun _ h => .inl h) hS2lt hS2live (fun b hb => by
    rcases hb with hb | hb | rfl
    · exact s.st1 b hb
    · exact (hSb b hb).1
    · exact .inr hMl)
  let cR : Ctx := { w0 := w, M := fun b => liveB (HA k) ρ b ∨ w.heap.size ≤ b, new := fun b hb => .inr hb, S0 := fun b => S b ∨ Sb b ∨ b = l, ρ0 := cA.ρ0, m := cA.m, lo := w.heap.size, lole := Nat.le_refl _, r := some l }
  have sR : HS cR ρ (fun b => S b ∨ Sb b ∨ b = l) (HA k) w := s2.re cR (fun q y p a1 a2 a3 => .inl (hlive q y p a1 a2 a3)) (Ext.refl _ _) (fun _ h => h) (fun _ h => .inl h) s2.mle s2.keep
  have hMnl : ¬ (liveB (HA k) ρ l ∨ w.heap.size ≤ l) := fun h => by
    rcases h with ⟨q, y, o, a1, a2, a3⟩ | h
    · exact hll q y _ a1 a2 a3 rfl
    · omega
  -- the frame
  have hE2 : ∀ t x, look E t = some x → R (fun b => S b ∨ Sb b ∨ b = l) w x ρ (rec.tmps.getD t undef) := fun t x hx => by
    have h1 := R_low (ρ' := ρ) (m := m0) (fun q hq => s.keep q (by omega)) x _ (lowE_look hlow hx) (hE t x hx)
    exact R_later (fun b hb => .inl (s.st0 b hb)) (fun b hb => s.ext.same b (hS0 b hb).1 (hS0 b hb).2) x ρ ρ _ (fun _ _ h => h) (fun _ _ _ _ _ hr => s.ext.room hr) h1
  have hv2 : RL (fun b => S b ∨ Sb b ∨ b = l) w (items k) ρ vs := RL_idf _ _ _ _ hiidf (RL_later (fun b hb => .inr (.inl hb)) (fun _ _ => rfl) _ _ _ _ (fun _ _ h => h) (fun _ _ _ _ _ h => h) hv)
  obtain ⟨hf1, hf2⟩ := fold_env ps (items k) vs E rec.tmps (fun t ht => by rw [hsz]; exact hpl t ht) hv2 hE2 hil.symm
  have hfold : (rec.params.zip vs.toArray).foldl (fun tmps (x : Nat × Value) => tmps.setIfInBounds x.1 x.2) rec.tmps = (ps.zip vs).foldl (fun tm (p : Nat × Value) => tm.setIfInBounds p.1 p.2) rec.tmps := by
    rw [hps, ← Array.foldl_toList]
    congr 1
    simp
  refine ⟨rec.fn, _, rec.assign, rec.body, run_yield hl (by rw [hps]; simp [hvl, hil]), ?_⟩
  rw [show (rec.params.zip vs.toArray).foldl (fun tmps (x : Tmp × Value) => match x with | (t, a) => tmps.setIfInBounds t a) rec.tmps = (ps.zip vs).foldl (fun tm (p : Nat × Value) => tm.setIfInBounds p.1 p.2) rec.tmps from hfold]
  refine roundIn_of_wpIn (F := Fence.wide) trivial ?_
  refine hround k hk cR ρ _ ⟨_, []⟩ w _ ⟨by rw [hf1]; exact hsz, ⟨⟨[], rfl, List.nodup_nil, fun _ h => by cases h⟩, fun q hq => ?_⟩, hf2, sR, hm⟩ ?_
  · cases hq
    exact ⟨.inr (.inr rfl), rec, hl⟩
  intro e env' h' ρ' S' a' w' hq s'
  obtain ⟨rfl, hbody⟩ := hq
  have x1 : Ext cR.M w w' := s'.hs.ext
  have hl1 : w'.heap[l]? = some (.loop rec) := by rw [x1.same l hlt hMnl]; exact hl
  refine ⟨_, run_beginRound hl1 hst, ?_⟩
  generalize hb1 : ({ rec with state := .busy } : Loop) = recb
  -- the record is busy
  have hS'l : S' l := s'.hs.st0 l (.inr (.inr rfl))
  let cZ : Ctx := { w0 := w, M := fun b => (liveB (HA k) ρ b ∨ w.heap.size ≤ b) ∨ b = l, new := fun b hb => .inl (.inr hb), S0 := fun b => S b ∨ Sb b, ρ0 := cA.ρ0, m := cA.m, lo := w.heap.size, lole := Nat.le_refl _, r := some l }
  have hZ0 : ¬ cZ.S0 l := fun h => by
    rcases h with h | h
    · exact hSl h
    · exact (hSb _ h).2.1 ((hW l).2 (.inr rfl))
  have hst1 : ∀ b, S' b → cZ.S0 b ∨ cZ.M b := fun b hb => by
    rcases s'.hs.st1 b hb with (h | h | h) | h
    · exact .inl (.inl h)
    · exact .inl (.inr h)
    · exact .inr (.inr h)
    · exact .inr (.inl h)
  have sZ : HS cZ ρ' S' h' w' := s'.hs.re cZ (fun q y p a1 a2 a3 => .inl (s'.hs.live q y p a1 a2 a3).1) (x1.mono fun b _ hb => .inl hb) (fun b hb => s'.hs.st0 b (by rcases hb with hb | hb; exact .inl hb; exact .inr (.inl hb))) hst1 s'.hs.mle s'.hs.keep
  obtain ⟨sP, hP⟩ := sZ.put hl1 (fun _ _ _ e => by cases e) (fun _ _ e => by cases e) (.loop recb) (fun _ => .inr rfl) hZ0
  have hsz2 : w.heap.size ≤ (w'.putObj l (.loop recb)).heap.size := by rw [World.putObj_size]; exact x1.size
  let cB : Ctx := { w0 := w'.putObj l (.loop recb), M := fun b => liveB (HA k) ρ b ∨ w.heap.size ≤ b, new := fun b hb => .inr (Nat.le_trans hsz2 hb), S0 := S', ρ0 := cA.ρ0, m := cA.m, lo := w.heap.size, lole := hsz2, r := some l }
  have sM : HS cZ ρ' S' h' (w'.putObj l (.loop recb)) := sP.more (fun b hb => hb.1) (fun b hb => by rw [World.putObj_size]; exact s'.hs.stab b hb) (fun q y p a1 a2 a3 => (s'.hs.live q y p a1 a2 a3).2) hst1
  have sB : HS cB ρ' S' h' (w'.putObj l (.loop recb)) := sM.re cB (fun q y p a1 a2 a3 => (s'.hs.live q y p a1 a2 a3).1) (Ext.refl _ _) (fun _ h => h) (fun _ h => .inl h) s'.hs.mle s'.hs.keep
  have hl2 : (w'.putObj l (.loop recb)).heap[l]? = some (.loop recb) := World.putObj_heap_same (Array.getElem?_eq_some_iff.1 hl1).1
  have hmarks : Marks cB S' a'.defers (w'.putObj l (.loop recb)) := by
    obtain ⟨⟨D, d1, d2, d3⟩, _⟩ := s'.defers
    refine ⟨⟨D, d1, d2, fun b hb => ?_⟩, fun q hq => ?_⟩
    · obtain ⟨q1, q2, q3⟩ := d3 b hb
      exact ⟨q1, by rw [put_other (fun e => by rw [e, hl1] at q2; cases q2)]; exact q2, q3⟩
    · cases hq
      exact ⟨hS'l, recb, hl2⟩
  refine hbody cB ρ' S' a' _ _ ⟨s'.size, hmarks, fun t x hx => R_S (fun b hb => hb.1) (hP _ _ (s'.env t x hx)), sB, hm⟩ ?_
  intro e env3 h3 ρ3 S3 a3 w3 hq3 s3
  have x2 : Ext (fun b => b = l) w' (w'.putObj l (.loop recb)) := ext_put hl1 (fun _ _ _ e => by cases e)
  have x3 : Ext cB.M (w'.putObj l (.loop recb)) w3 := s3.hs.ext
  have hl3 : w3.heap[l]? = some (.loop recb) := by rw [x3.same l (Array.getElem?_eq_some_iff.1 hl2).1 hMnl]; exact hl2
  have x13 : Ext cZ.M w w3 := ((x1.mono fun b _ hb => .inl hb).trans (x2.mono fun b _ hb => .inr hb) (fun _ h _ => h)).trans (x3.mono fun b _ hb => .inl hb) (fun _ h _ => h)
  -- the round's end, whichever way
  have fin : ∀ (jump : Option Code) (hx : Hp), Sub m0 env3 h3 [] hx → ((jump = none ∧ hx = HA (k + 1)) ∨ ∃ e cd, jumpOf e = some cd ∧ jump = some cd ∧ Q e E hx) →
      ∃ v w4, (Instr.endRound l jump).run P w3 = .ok v w4 ∧ ∃ (b : Bool) (W' N' : Nat → Prop), Ending.returned v = .returned (.bool b) ∧ JR cA l rec E HA Q (k + 1, !b) W' N' w4 ∧ Ext W w w4 ∧ (∀ x, W' x → W x ∨ w.heap.size ≤ x) ∧ (∀ x, N' x → Nn x ∨ Sb x ∨ w.heap.size ≤ x) := by
    intro jump hx hsub hj
    obtain ⟨L, q1, _, q3, q4, q5⟩ := hsub
    have s4 : HS cB (fun k => ρ3 (th L h3.length k)) S3 hx w3 := s3.hs.sub q1 q3 q4 (fun i hi => q5 i (by have hi : i < cA.m := hi; omega))
    have st3 : ∀ b, S3 b → cZ.S0 b ∨ cZ.M b := fun b hb => by
      rcases s3.hs.st1 b hb with h | h
      · exact hst1 b h
      · exact .inr (.inl h)
    have s5 : HS cZ (fun k => ρ3 (th L h3.length k)) S3 hx w3 := s4.re cZ (fun q y p a1 a2 a3 => .inl (s4.live q y p a1 a2 a3).1) x13 (fun b hb => s3.hs.st0 b (s'.hs.st0 b (by rcases hb with hb | hb; exact .inl hb; exact .inr (.inl hb)))) st3 s4.mle s4.keep
    obtain ⟨s6, _⟩ := s5.put hl3 (fun _ _ _ e => by cases e) (fun _ _ e => by cases e) (.loop { recb with state := if jump.isNone then .ready else .done, pending := jump }) (fun _ => .inr rfl) hZ0
    have hZA : ∀ b, cZ.M b → cA.M b := fun b hb => by
      rcases hb with (⟨q, y, o, a1, a2, a3⟩ | hb) | rfl
      · exact (s.live q y _ a1 a2 a3).1
      · exact cA.new b (Nat.le_trans s.ext.size hb)
      · exact hMl
    have s7 := s6.re cA (fun q y p a1 a2 a3 => hZA _ (s6.live q y p a1 a2 a3).1) (s.ext.trans s6.ext fun b hb _ => hZA b hb) (fun b hb => ⟨s3.hs.st0 b (s'.hs.st0 b (.inl (s.st0 b hb))), fun e => hS0l (e ▸ hb)⟩) (fun b hb => by
      rcases st3 b hb.1 with (h | h) | h
      · exact s.st1 b h
      · exact (hSb b h).1
      · exact .inr (hZA b h)) s6.mle s6.keep
    have hZW : ∀ b, cZ.M b → W b ∨ w.heap.size ≤ b := fun b hb => by
      rcases hb with (hb | hb) | rfl
      · exact .inl ((hW b).2 (.inl hb))
      · exact .inr hb
      · exact .inl ((hW _).2 (.inr rfl))
    have hWN : ∀ b, W b → Nn b := fun b hb => (hN b).2 (((hW b).1 hb).elim .inl fun h => .inr (.inr (.inl h)))
    have hS3l : S3 l := s3.hs.st0 l hS'l
    refine ⟨_, _, run_endRound jump hl3, jump.isNone, fun b => liveB hx (fun k => ρ3 (th L h3.length k)) b ∨ b = l, fun b => liveB hx (fun k => ρ3 (th L h3.length k)) b ∨ (S3 b ∧ b ≠ l) ∨ b = l ∨ ¬ cA.M b, rfl, ?_, ?_, fun b hb => ?_, fun b hb => ?_⟩
    · refine ⟨_, _, hx, _, s7, World.putObj_heap_same (Array.getElem?_eq_some_iff.1 hl3).1, fun h => h.2 rfl, fun q y p a1 a2 a3 e => (s4.live q y p a1 a2 a3).2 (e ▸ hS3l), fun b => Iff.rfl, fun b => Iff.rfl, fun h => ?_, fun h => ?_⟩
      · rcases hj with ⟨rfl, rfl⟩ | ⟨e, cd, _, rfl, _⟩
        · refine ⟨rfl, ?_⟩
          rw [← hb1]
          cases rec
          simp only at hst hpe
          subst hst hpe
          rfl
        · cases h
      · rcases hj with ⟨rfl, rfl⟩ | ⟨e, cd, he, rfl, hq⟩
        · cases h
        · exact ⟨e, cd, he, by rw [← hb1]; rfl, hq⟩
    · exact s6.ext.mono fun b hb hm => by
        rcases hZW b hm with h | h
        · exact h
        · have hb : b < w.heap.size := hb
          omega
    · rcases hb with ⟨q, y, o, a1, a2, a3⟩ | rfl
      · exact hZW _ (s6.live q y _ a1 a2 a3).1
      · exact .inl ((hW _).2 (.inr rfl))
    · rcases hb with ⟨q, y, o, a1, a2, a3⟩ | hb | rfl | hb
      · exact (hZW _ (s6.live q y _ a1 a2 a3).1).elim (fun h => .inl (hWN _ h)) fun h => .inr (.inr h)
      · rcases st3 b hb.1 with (h | h) | h
        · exact .inl ((hN b).2 (.inr (.inl h)))
        · exact .inr (.inl h)
        · exact (hZW _ h).elim (fun h => .inl (hWN _ h)) fun h => .inr (.inr h)
      · exact .inl ((hN _).2 (.inr (.inr (.inl rfl))))
      · exact .inl ((hN b).2 (.inr (.inr (.inr hb))))
  cases e with
  | normal => exact fin none _ hq3 (.inl ⟨rfl, rfl⟩)
  | ret =>
    obtain ⟨_, hx, hs, hq⟩ := hq3
    exact fin (some .ret) hx hs (.inr ⟨.ret, .ret, rfl, rfl, hq⟩)
  | exit id =>
    obtain ⟨_, hx, hs, hq⟩ := hq3
    exact fin (some (.exit id)) hx hs (.inr ⟨.exit id, .exit id, rfl, rfl, hq⟩)
  | goto t =>
    obtain ⟨_, hx, hs, hq⟩ := hq3
    exact fin (some (.goto t)) hx hs (.inr ⟨.goto t, .goto t, rfl, rfl, hq⟩)
  | panic ch =>
    obtain ⟨⟨cd, hcd⟩, _⟩ := hq3
    cases hcd
  | outgrown =>
    obtain ⟨⟨cd, hcd⟩, _⟩ := hq3
    cases hcd
end
end Go.Ab
