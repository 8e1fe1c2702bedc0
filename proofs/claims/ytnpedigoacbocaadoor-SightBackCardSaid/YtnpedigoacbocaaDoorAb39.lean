/-
  A logic of values for the walk, texts 37, 38, 39.
-/
import Derived.Test.YtnpedigoacbocaaDoorAb28

/-! A logic of values for the walk: a loop over an iterator, whose rounds call an outer yield. -/
namespace Go.Ab
open Go
set_option linter.unusedVariables false
set_option linter.unusedSimpArgs false
set_option maxHeartbeats 1000000

/-- The loop's state between two rounds, beside what the outer loop keeps. -/
def JRY (cA : Ctx) (l : Nat) (rec0 : Loop) (E : Env) (HA : Nat → Hp) (GO : Nat → Nat × Bool) (J : JT) (A : Nat → Prop) (Q : Nat × Bool → Exit → Env → Hp → Prop) : JT := fun g W N w =>
  ∃ ρ S hh rec gO WO NO, HS cA ρ S hh w ∧ w.heap[l]? = some (.loop rec) ∧ ¬ S l ∧ (∀ (k : Nat) x p, hh[k]? = some x → x ≠ .gone → ρ k = some p → p.1 ≠ l) ∧ (∀ b, W b ↔ liveB hh ρ b ∨ b = l ∨ WO b) ∧ (∀ b, N b ↔ liveB hh ρ b ∨ S b ∨ b = l ∨ ¬ cA.M b ∨ NO b) ∧
    (g.2 = false → hh = HA g.1 ∧ rec = rec0 ∧ gO = GO g.1) ∧ (g.2 = true → ∃ e cd, jumpOf e = some cd ∧ rec = { rec0 with state := .done, pending := some cd } ∧ Q gO e E hh) ∧
    JS1 J A gO cA ρ S hh w WO NO ∧ ¬ NO l

section
variable {cA : Ctx} {l : Nat} {rec0 : Loop} {E : Env} {HA : Nat → Hp} {GO : Nat → Nat × Bool} {J : JT} {A : Nat → Prop} {Q : Nat × Bool → Exit → Env → Hp → Prop}
/-- The outer state, in a later world in which only blocks are other that it does not lean on. -/
theorem JS1.later {g : Nat × Bool} {c c' : Ctx} {ρ ρ' : Pl} {S S' W N N' : Nat → Prop} {h h' : Hp} {w w' : World} (hJ : JOk J) (j : JS1 J A g c ρ S h w W N) (x : Ext (fun b => ¬ N' b) w w') (hN : ∀ b, N b → N' b)
    (hl : ∀ (k : Nat) x p, h'[k]? = some x → x ≠ .gone → ρ' k = some p → ¬ N p.1) (hst : ∀ b, S' b → ¬ W b) (hc : ∀ b, S' b → c'.lo ≤ b → N b → isData w b) (hwm : ∀ b, W b → c'.M b) (haS : ∀ b, S' b → A b) (haM : ∀ b, c'.M b → A b) (hnn : ∀ b, N b → c'.nb b ∨ c'.S0 b ∨ c'.M b) : JS1 J A g c' ρ' S' h' w' W N := by
  refine ⟨hJ.st j.j (x.mono fun b _ hb h => hb (hN b h)), hl, hst, fun b hb h1 h2 => ?_, hwm, haS, haM, hnn⟩
  obtain ⟨cc, e, h4⟩ := hc b hb h1 h2
  exact ⟨cc, e, by rw [x.same b (hJ.lt j.j b h2) (fun h => h (hN b h2))]; exact h4⟩
theorem jry_ok (hJ : JOk J) : JOk (JRY cA l rec0 E HA GO J A Q) := by
  refine ⟨fun {g W N w w'} j x => ?_, fun {g W N w} j b hb => ?_, fun {g W N w} j b hb => ?_⟩
  · obtain ⟨ρ, S, hh, rec, gO, WO, NO, s, h1, h2, h3, h4, h5, h6, h7, jo, hlo⟩ := j
    obtain ⟨s', _⟩ := s.world x (fun b hb h => h ((h5 b).2 (.inr (.inl hb)))) (fun k y p a1 a2 a3 h => h ((h5 _).2 (.inl ⟨k, y, p.2, a1, a2, a3⟩))) (fun b hb hn => Classical.byContradiction fun hM => hn ((h5 b).2 (.inr (.inr (.inr (.inl hM))))))
    exact ⟨ρ, S, hh, rec, gO, WO, NO, s', by rw [x.same l (Array.getElem?_eq_some_iff.1 h1).1 (fun h => h ((h5 l).2 (.inr (.inr (.inl rfl)))))]; exact h1, h2, h3, h4, h5, h6, h7, jo.later hJ x (fun b hb => (h5 b).2 (.inr (.inr (.inr (.inr hb))))) jo.live jo.st jo.cell jo.wm jo.accS jo.accM jo.nn, hlo⟩
  · obtain ⟨ρ, S, hh, rec, gO, WO, NO, s, h1, h2, h3, h4, h5, h6, h7, jo, hlo⟩ := j
    refine (h5 b).2 ?_
    rcases (h4 b).1 hb with h | h | h
    · exact .inl h
    · exact .inr (.inr (.inl h))
    · exact .inr (.inr (.inr (.inr (hJ.sub jo.j b h))))
  · obtain ⟨ρ, S, hh, rec, gO, WO, NO, s, h1, h2, h3, h4, h5, h6, h7, jo, hlo⟩ := j
    rcases (h5 b).1 hb with ⟨k, x, o, _, _, hp⟩ | hb | rfl | hb | hb
    · exact s.rng k _ hp
    · exact s.stab b hb
    · exact (Array.getElem?_eq_some_iff.1 h1).1
    · apply Classical.byContradiction
      intro hge
      exact hb (cA.new b (by have := s.ext.size; omega))
    · exact hJ.lt jo.j b hb

/-- What is asked at a round's end. -/
def QRY (m0 : Nat) (E : Env) (HA : Nat → Hp) (GO : Nat → Nat × Bool) (Q : Nat × Bool → Exit → Env → Hp → Prop) (k : Nat) : Nat × Bool → Exit → Env → Hp → Prop
  | g, .normal, v, h => g = GO (k + 1) ∧ Sub m0 v h [] (HA (k + 1))
  | g, e, v, h => (∃ cd, jumpOf e = some cd) ∧ ∃ hx, Sub m0 v h [] hx ∧ Q g e E hx

/-- One round. -/
theorem round_yieldY {P : Program} {n1 m0 : Nat} {items : Nat → List AV} {N : Nat} {ps : List Nat} (hJ : JOk J) (hm : cA.m = m0) (hMl : cA.M l) (hS0l : ¬ cA.S0 l) (hS0 : ∀ b, cA.S0 b → b < cA.w0.heap.size ∧ ¬ cA.M b) (hlol : cA.lo ≤ l) (haS0 : ∀ b, cA.S0 b → A b)
    (hst : rec0.state = .ready) (hpe : rec0.pending = none) (hps : rec0.params = ps.toArray)
    (hsz : rec0.tmps.size = n1) (hpl : ∀ t, t ∈ ps → t < n1) (hit : ∀ k, k < N → (items k).length = ps.length ∧ AV.idfL (items k) = true)
    (hE : ∀ t x, look E t = some x → R cA.S0 cA.w0 x cA.ρ0 (rec0.tmps.getD t undef)) (hlow : lowE m0 E = true)
    (hround : ∀ k, k < N → AY P J A (n1, m0) rec0.assign (GO k) (roundEnv ps (items k) E) (HA k) (fun g e v h => e = .normal ∧ AY P J A (n1, m0) rec0.body g v h (QRY m0 E HA GO Q k))) :
    JYield P l (JRY cA l rec0 E HA GO J A Q) (fun b => cA.S0 b ∨ cA.M b) items N := by
  intro k hk W Nn w Sb vs j hSb hv
  obtain ⟨ρ, S, hh, rec, gO, WO, NO, s, hl, hSl, hll, hW, hN, hg, _, jo, hNl⟩ := j
  obtain ⟨rfl, rfl, rfl⟩ := hg rfl
  dsimp only at s hll hW hN jo
  have hlt : l < w.heap.size := (Array.getElem?_eq_some_iff.1 hl).1
  have hvl := RL_length hv
  obtain ⟨hil, hiidf⟩ := hit k hk
  have hWOl : ¬ WO l := fun h => hNl (hJ.sub jo.j l h)
  have hS2lt : ∀ b, (S b ∨ Sb b ∨ b = l) → b < w.heap.size := fun b hb => by
    rcases hb with hb | hb | rfl
    · exact s.stab b hb
    · obtain ⟨_, _, cc, e, h⟩ := hSb b hb
      exact (Array.getElem?_eq_some_iff.1 h).1
    · exact hlt
  have hlive : ∀ (q : Nat) y p, (HA k)[q]? = some y → y ≠ .gone → ρ q = some p → liveB (HA k) ρ p.1 := fun q y p a1 a2 a3 => ⟨q, y, p.2, a1, a2, a3⟩
  have hS2live : ∀ (q : Nat) y p, (HA k)[q]? = some y → y ≠ .gone → ρ q = some p → ¬ (S p.1 ∨ Sb p.1 ∨ p.1 = l) := fun q y p a1 a2 a3 hb => by
    rcases hb with hb | hb | hb
    · exact (s.live q y p a1 a2 a3).2 hb
    · exact (hSb _ hb).2.1 ((hW _).2 (.inl (hlive q y p a1 a2 a3)))
    · exact hll q y p a1 a2 a3 hb
  have s2 : HS cA ρ (fun b => S b ∨ Sb b ∨ b = l) (HA k) w := s.more (fun _ h => .inl h) hS2lt hS2live (fun b hb => by
    rcases hb with hb | hb | rfl
    · exact s.st1 b hb
    · exact (hSb b hb).1
    · exact .inr hMl)
  let cR : Ctx := { w0 := w, M := fun b => (liveB (HA k) ρ b ∨ w.heap.size ≤ b) ∨ WO b, new := fun b hb => .inl (.inr hb), S0 := fun b => S b ∨ Sb b ∨ b = l, ρ0 := cA.ρ0, m := cA.m, lo := cA.lo, lole := Nat.le_trans cA.lole s.ext.size, r := some l, nb := NO }
  have sR : HS cR ρ (fun b => S b ∨ Sb b ∨ b = l) (HA k) w := s2.re cR (fun q y p a1 a2 a3 => .inl (.inl (hlive q y p a1 a2 a3))) (Ext.refl _ _) (fun _ h => h) (fun _ h => .inl h) s2.mle s2.keep
  have hcRA : ∀ b, cR.M b → cA.M b := fun b hb => by
    rcases hb with (⟨q, y, o, a1, a2, a3⟩ | hb) | hb
    · exact (s.live q y _ a1 a2 a3).1
    · exact cA.new b (Nat.le_trans s.ext.size hb)
    · exact jo.wm b hb
  have hMnl : ¬ ((liveB (HA k) ρ l ∨ w.heap.size ≤ l) ∨ WO l) := fun h => by
    rcases h with (⟨q, y, o, a1, a2, a3⟩ | h) | h
    · exact hll q y _ a1 a2 a3 rfl
    · omega
    · exact hWOl h
  have haR : ∀ b, (S b ∨ Sb b ∨ b = l) → A b := fun b hb => by
    rcases hb with hb | hb | rfl
    · exact jo.accS b hb
    · rcases (hSb b hb).1 with h | h
      · exact haS0 b h
      · exact jo.accM b h
    · exact jo.accM _ hMl
  have jR : JS J A (GO k) cR ρ (fun b => S b ∨ Sb b ∨ b = l) (HA k) w := ⟨WO, NO, jo.j, jo.live, fun b hb hw => by
    rcases hb with hb | hb | rfl
    · exact jo.st b hb hw
    · exact (hSb b hb).2.1 ((hW _).2 (.inr (.inr hw)))
    · exact hWOl hw, fun b hb h1 h2 => by
    rcases hb with hb | hb | rfl
    · exact jo.cell b hb h1 h2
    · exact (hSb b hb).2.2
    · exact absurd h2 hNl, fun b hb => .inr hb, haR, fun b hb => jo.accM b (hcRA b hb), fun b hb => .inl hb⟩
  have hE2 : ∀ t x, look E t = some x → R (fun b => S b ∨ Sb b ∨ b = l) w x ρ (rec.tmps.getD t undef) := fun t x hx => by
    have h1 := R_low (ρ' := ρ) (m := m0) (fun q hq => s.keep q (by omega)) x _ (lowE_look hlow hx) (hE t x hx)
    exact R_later (fun b hb => .inl (s.st0 b hb)) (fun b hb => s.ext.same b (hS0 b hb).1 (hS0 b hb).2) x ρ ρ _ (fun _ _ h => h) (fun _ _ _ _ _ hr => s.ext.room hr) h1
  have hv2 : RL (fun b => S b ∨ Sb b ∨ b = l) w (items k) ρ vs := RL_idf _ _ _ _ hiidf (RL_later (fun b hb => .inr (.inl hb)) (fun _ _ => rfl) _ _ _ _ (fun _ _ h => h) (fun _ _ _ _ _ h => h) hv)
  obtain ⟨hf1, hf2⟩ := fold_env ps (items k) vs E rec.tmps (fun t ht => by rw [hsz]; exact hpl t ht) hv2 hE2 hil.symm
  have hfold : (rec.params.zip vs.toArray).foldl (fun tmps (x : Nat × Value) => tmps.setIfInBounds x.1 x.2) rec.tmps = (ps.zip vs).foldl (fun tm (p : Nat × Value) => tm.setIfInBounds p.1 p.2) rec.tmps := by
    rw [hps, ← Array.foldl_toList]
    congr 1
    simp
  refine ⟨rec.fn, _, rec.assign, rec.body, run_yield hl (by rw [hps]; simp [hvl, hil]), ?_⟩
  rw [show (rec.params.zip vs.toArray).foldl (fun tmps (x : Tmp × Value) => match x with | (t, a) => tmps.setIfInBounds t a) rec.tmps = (ps.zip vs).foldl (fun tm (p : Nat × Value) => tm.setIfInBounds p.1 p.2) rec.tmps from hfold]
  refine roundIn_of_wpIn (F := Fence.wide) trivial ?_
  refine hround k hk cR ρ _ ⟨_, []⟩ w _ ⟨by rw [hf1]; exact hsz, ⟨⟨[], rfl, List.nodup_nil, fun _ h => by cases h⟩, fun q hq => ?_⟩, hf2, sR, hm⟩ jR ?_
  · cases hq
    exact ⟨.inr (.inr rfl), rec, hl⟩
  intro g1 e env' h' ρ' S' a' w' hq s' js'
  obtain ⟨rfl, hbody⟩ := hq
  obtain ⟨W1, N1, j1⟩ := js'
  have x1 : Ext cR.M w w' := s'.hs.ext
  have hl1 : w'.heap[l]? = some (.loop rec) := by rw [x1.same l hlt hMnl]; exact hl
  refine ⟨_, run_beginRound hl1 hst, ?_⟩
  generalize hb1 : ({ rec with state := .busy } : Loop) = recb
  have hS'l : S' l := s'.hs.st0 l (.inr (.inr rfl))
  have hN1l : ¬ N1 l := fun h => by
    obtain ⟨cc, e, h4⟩ := j1.cell l hS'l hlol h
    rw [hl1] at h4; cases h4; cases e
  let cZ : Ctx := { w0 := w, M := fun b => ((liveB (HA k) ρ b ∨ w.heap.size ≤ b) ∨ WO b) ∨ b = l, new := fun b hb => .inl (.inl (.inr hb)), S0 := fun b => S b ∨ Sb b, ρ0 := cA.ρ0, m := cA.m, lo := cA.lo, lole := Nat.le_trans cA.lole s.ext.size, r := some l }
  have hZ0 : ¬ cZ.S0 l := fun h => by
    rcases h with h | h
    · exact hSl h
    · exact (hSb _ h).2.1 ((hW l).2 (.inr (.inl rfl)))
  have hst1 : ∀ b, S' b → cZ.S0 b ∨ cZ.M b := fun b hb => by
    rcases s'.hs.st1 b hb with (h | h | h) | h
    · exact .inl (.inl h)
    · exact .inl (.inr h)
    · exact .inr (.inr h)
    · exact .inr (.inl h)
  have sZ : HS cZ ρ' S' h' w' := s'.hs.re cZ (fun q y p a1 a2 a3 => .inl (s'.hs.live q y p a1 a2 a3).1) (x1.mono fun b _ hb => .inl hb) (fun b hb => s'.hs.st0 b (by rcases hb with hb | hb; exact .inl hb; exact .inr (.inl hb))) hst1 s'.hs.mle s'.hs.keep
  obtain ⟨sP, hP⟩ := sZ.put hl1 (fun _ _ _ e => by cases e) rfl (.loop recb) (fun _ => .inr rfl) hZ0
  have hsz2 : w.heap.size ≤ (w'.putObj l (.loop recb)).heap.size := by rw [World.putObj_size]; exact x1.size
  let cB : Ctx := { w0 := w'.putObj l (.loop recb), M := fun b => (liveB (HA k) ρ b ∨ w.heap.size ≤ b) ∨ WO b, new := fun b hb => .inl (.inr (Nat.le_trans hsz2 hb)), S0 := S', ρ0 := cA.ρ0, m := cA.m, lo := cA.lo, lole := Nat.le_trans (Nat.le_trans cA.lole s.ext.size) hsz2, r := some l, nb := NO }
  have sM : HS cZ ρ' S' h' (w'.putObj l (.loop recb)) := sP.more (fun b hb => hb.1) (fun b hb => by rw [World.putObj_size]; exact s'.hs.stab b hb) (fun q y p a1 a2 a3 => (s'.hs.live q y p a1 a2 a3).2) hst1
  have sB : HS cB ρ' S' h' (w'.putObj l (.loop recb)) := sM.re cB (fun q y p a1 a2 a3 => (s'.hs.live q y p a1 a2 a3).1) (Ext.refl _ _) (fun _ h => h) (fun _ h => .inl h) s'.hs.mle s'.hs.keep
  have hl2 : (w'.putObj l (.loop recb)).heap[l]? = some (.loop recb) := World.putObj_heap_same (Array.getElem?_eq_some_iff.1 hl1).1
  have hmarks : Marks cB S' a'.defers (w'.putObj l (.loop recb)) := by
    obtain ⟨⟨D, d1, d2, d3⟩, _⟩ := s'.defers
    refine ⟨⟨D, d1, d2, fun b hb => ?_⟩, fun q hq => ?_⟩
    · obtain ⟨q1, q2, q3⟩ := d3 b hb
      exact ⟨q1, by rw [put_other (fun e => by rw [e, hl1] at q2; cases q2)]; exact q2, q3⟩
    · cases hq
      exact ⟨hS'l, recb, hl2⟩
  have x2 : Ext (fun b => b = l) w' (w'.putObj l (.loop recb)) := ext_put hl1 (fun _ _ _ e => by cases e)
  have jB : JS J A g1 cB ρ' S' h' (w'.putObj l (.loop recb)) := ⟨W1, N1, j1.later hJ (N' := N1) (x2.mono fun b _ hb h => hN1l (hb ▸ h)) (fun _ h => h) j1.live j1.st j1.cell j1.wm j1.accS j1.accM (fun b hb => by
    rcases j1.nn b hb with h | h | h
    · exact .inl h
    · exact .inr (.inl (s'.hs.st0 b h))
    · exact .inr (.inr h))⟩
  refine hbody cB ρ' S' a' _ _ ⟨s'.size, hmarks, fun t x hx => R_S (fun b hb => hb.1) (hP _ _ (s'.env t x hx)), sB, hm⟩ jB ?_
  intro g3 e env3 h3 ρ3 S3 a3 w3 hq3 s3 js3
  obtain ⟨W3, N3, j3⟩ := js3
  have x3 : Ext cB.M (w'.putObj l (.loop recb)) w3 := s3.hs.ext
  have hl3 : w3.heap[l]? = some (.loop recb) := by rw [x3.same l (Array.getElem?_eq_some_iff.1 hl2).1 hMnl]; exact hl2
  have x13 : Ext cZ.M w w3 := ((x1.mono fun b _ hb => .inl hb).trans (x2.mono fun b _ hb => .inr hb) (fun _ h _ => h)).trans (x3.mono fun b _ hb => .inl hb) (fun _ h _ => h)
  have hS3l : S3 l := s3.hs.st0 l hS'l
  have hN3l : ¬ N3 l := fun h => by
    obtain ⟨cc, e, h4⟩ := j3.cell l hS3l hlol h
    rw [hl3] at h4; cases h4; cases e
  have fin : ∀ (jump : Option Code) (hx : Hp), Sub m0 env3 h3 [] hx → ((jump = none ∧ hx = HA (k + 1) ∧ g3 = GO (k + 1)) ∨ ∃ e cd, jumpOf e = some cd ∧ jump = some cd ∧ Q g3 e E hx) →
      ∃ v w4, (Instr.endRound l jump).run P w3 = .ok v w4 ∧ ∃ (b : Bool) (W' N' : Nat → Prop), Ending.returned v = .returned (.bool b) ∧ JRY cA l rec E HA GO J A Q (k + 1, !b) W' N' w4 ∧ Ext W w w4 ∧ (∀ x, W' x → W x ∨ w.heap.size ≤ x) ∧ (∀ x, N' x → Nn x ∨ Sb x ∨ w.heap.size ≤ x) := by
    intro jump hx hsub hj
    obtain ⟨L, q1, _, q3, q4, q5⟩ := hsub
    have s4 : HS cB (fun k => ρ3 (th L h3.length k)) S3 hx w3 := s3.hs.sub q1 q3 q4 (fun i hi => q5 i (by have hi : i < cA.m := hi; omega))
    have j4 : JS1 J A g3 cB (fun k => ρ3 (th L h3.length k)) S3 hx w3 W3 N3 := by
      refine ⟨j3.j, fun k x p hx hg hp => ?_, j3.st, j3.cell, j3.wm, j3.accS, j3.accM, j3.nn⟩
      have h1 := q3.get k x hx
      rw [Nat.zero_add] at h1
      exact j3.live _ _ p (h1.resolve_left hg) (by cases x <;> simp [AB.map] at *) hp
    have st3 : ∀ b, S3 b → cZ.S0 b ∨ cZ.M b := fun b hb => by
      rcases s3.hs.st1 b hb with h | h
      · exact hst1 b h
      · exact .inr (.inl h)
    have s5 : HS cZ (fun k => ρ3 (th L h3.length k)) S3 hx w3 := s4.re cZ (fun q y p a1 a2 a3 => .inl (s4.live q y p a1 a2 a3).1) x13 (fun b hb => s3.hs.st0 b (s'.hs.st0 b (by rcases hb with hb | hb; exact .inl hb; exact .inr (.inl hb)))) st3 s4.mle s4.keep
    obtain ⟨s6, _⟩ := s5.put hl3 (fun _ _ _ e => by cases e) rfl (.loop { recb with state := if jump.isNone then .ready else .done, pending := jump }) (fun _ => .inr rfl) hZ0
    have hZA : ∀ b, cZ.M b → cA.M b := fun b hb => by
      rcases hb with hb | rfl
      · exact hcRA b hb
      · exact hMl
    have s7 := s6.re cA (fun q y p a1 a2 a3 => hZA _ (s6.live q y p a1 a2 a3).1) (s.ext.trans s6.ext fun b hb _ => hZA b hb) (fun b hb => ⟨s3.hs.st0 b (s'.hs.st0 b (.inl (s.st0 b hb))), fun e => hS0l (e ▸ hb)⟩) (fun b hb => by
      rcases st3 b hb.1 with (h | h) | h
      · exact s.st1 b h
      · exact (hSb b h).1
      · exact .inr (hZA b h)) s6.mle s6.keep
    have hZW : ∀ b, cZ.M b → W b ∨ w.heap.size ≤ b := fun b hb => by
      rcases hb with ((hb | hb) | hb) | rfl
      · exact .inl ((hW b).2 (.inl hb))
      · exact .inr hb
      · exact .inl ((hW b).2 (.inr (.inr hb)))
      · exact .inl ((hW _).2 (.inr (.inl rfl)))
    have hWN : ∀ b, W b → Nn b := fun b hb => (hN b).2 (by
      rcases (hW b).1 hb with h | h | h
      · exact .inl h
      · exact .inr (.inr (.inl h))
      · exact .inr (.inr (.inr (.inr (hJ.sub jo.j b h)))))
    have hSN : ∀ b, S3 b → Nn b ∨ Sb b ∨ w.heap.size ≤ b := fun b hb => by
      rcases st3 b hb with (h | h) | h
      · exact .inl ((hN b).2 (.inr (.inl h)))
      · exact .inr (.inl h)
      · exact (hZW _ h).elim (fun h => .inl (hWN _ h)) fun h => .inr (.inr h)
    have hN3 : ∀ b, N3 b → NO b ∨ S3 b ∨ cR.M b := fun b hb => by
      rcases j3.nn b hb with h | h | h
      · exact .inl h
      · exact .inr (.inl (s3.hs.st0 b h))
      · exact .inr (.inr h)
    have j5 : JS1 J A g3 cA (fun k => ρ3 (th L h3.length k)) (fun b => S3 b ∧ b ≠ l) hx (w3.putObj l (.loop { recb with state := if jump.isNone then .ready else .done, pending := jump })) W3 N3 :=
      j4.later hJ (N' := N3) ((ext_put hl3 (fun _ _ _ e => by cases e)).mono fun b _ hb h => hN3l (hb ▸ h)) (fun _ h => h) j4.live (fun b hb => j4.st b hb.1) (fun b hb h1 h2 => j4.cell b hb.1 h1 h2) (fun b hb => hcRA b (j4.wm b hb)) (fun b hb => j4.accS b hb.1) jo.accM (fun b hb => by
        rcases hN3 b hb with h | h | h
        · exact jo.nn b h
        · rcases st3 b h with (h | h) | h
          · exact .inr (s.st1 b h)
          · exact .inr (hSb b h).1
          · exact .inr (.inr (hZA b h))
        · exact .inr (.inr (hcRA b h)))
    refine ⟨_, _, run_endRound jump hl3, jump.isNone, fun b => liveB hx (fun k => ρ3 (th L h3.length k)) b ∨ b = l ∨ W3 b, fun b => liveB hx (fun k => ρ3 (th L h3.length k)) b ∨ (S3 b ∧ b ≠ l) ∨ b = l ∨ ¬ cA.M b ∨ N3 b, rfl, ?_, ?_, fun b hb => ?_, fun b hb => ?_⟩
    · refine ⟨_, _, hx, _, g3, W3, N3, s7, World.putObj_heap_same (Array.getElem?_eq_some_iff.1 hl3).1, fun h => h.2 rfl, fun q y p a1 a2 a3 e => (s4.live q y p a1 a2 a3).2 (e ▸ hS3l), fun b => Iff.rfl, fun b => Iff.rfl, fun h => ?_, fun h => ?_, j5, hN3l⟩
      · rcases hj with ⟨rfl, rfl, rfl⟩ | ⟨e, cd, _, rfl, _⟩
        · refine ⟨rfl, ?_, rfl⟩
          rw [← hb1]
          cases rec
          simp only at hst hpe
          subst hst hpe
          rfl
        · cases h
      · rcases hj with ⟨rfl, rfl, rfl⟩ | ⟨e, cd, he, rfl, hq⟩
        · cases h
        · exact ⟨e, cd, he, by rw [← hb1]; rfl, hq⟩
    · exact s6.ext.mono fun b hb hm => by
        rcases hZW b hm with h | h
        · exact h
        · have hb : b < w.heap.size := hb
          omega
    · rcases hb with ⟨q, y, o, a1, a2, a3⟩ | rfl | hb
      · exact hZW _ (s6.live q y _ a1 a2 a3).1
      · exact .inl ((hW _).2 (.inr (.inl rfl)))
      · exact hZW _ (.inl (j3.wm b hb))
    · rcases hb with ⟨q, y, o, a1, a2, a3⟩ | hb | rfl | hb | hb
      · exact (hZW _ (s6.live q y _ a1 a2 a3).1).elim (fun h => .inl (hWN _ h)) fun h => .inr (.inr h)
      · exact hSN b hb.1
      · exact .inl ((hN _).2 (.inr (.inr (.inl rfl))))
      · exact .inl ((hN b).2 (.inr (.inr (.inr (.inl hb)))))
      · rcases hN3 b hb with h | h | h
        · exact .inl ((hN b).2 (.inr (.inr (.inr (.inr h)))))
        · exact hSN b h
        · exact (hZW _ (.inl h)).elim (fun h => .inl (hWN _ h)) fun h => .inr (.inr h)
  cases e with
  | normal => exact fin none _ hq3.2 (.inl ⟨rfl, rfl, hq3.1⟩)
  | ret =>
    obtain ⟨_, hx, hs, hq⟩ := hq3
    exact fin (some .ret) hx hs (.inr ⟨.ret, .ret, rfl, rfl, hq⟩)
  | exit id =>
    obtain ⟨_, hx, hs, hq⟩ := hq3
    exact fin (some (.exit id)) hx hs (.inr ⟨.exit id, .exit id, rfl, rfl, hq⟩)
  | goto t =>
    obtain ⟨_, hx, hs, hq⟩ := hq3
    exact fin (some (.goto t)) hx hs (.inr ⟨.goto t, .goto t, rfl, rfl, hq⟩)
  | panic ch =>
    obtain ⟨⟨cd, hcd⟩, _⟩ := hq3
    cases hcd
  | outgrown =>
    obtain ⟨⟨cd, hcd⟩, _⟩ := hq3
    cases hcd
end

/-- A loop over an iterator that is handed no object, whose rounds call an outer yield. LA: the objects that the rounds keep. -/
theorem ay_range {P : Program} {J : JT} {A : Nat → Prop} {n : Nat × Nat} {gst : Nat × Bool} {env : Env} {h : Hp} {Q : Nat × Bool → Exit → Env → Hp → Prop} {g : Operand} {ps : List Nat} {assign body : Code} {f : FuncId} {fs cs fs' cs' : List AV} {items : Nat → List AV} {N : Nat}
    (hJ : JOk J) (LA : List Nat) (E : Env) (HA : Nat → Hp) (GO : Nat → Nat × Bool) (m0 : Nat) (hx : evu env g = some (.clo (.func f) fs cs)) (hI : AIter P f fs' cs' [] items N)
    (hfs : AV.mapL (th [] h.length) fs' = fs) (hcs : AV.mapL (th [] h.length) cs' = cs) (hG : gst = GO 0)
    (hLA : LA.length = (HA 0).length) (hEA : SubE (th LA h.length) env E) (hHA : SubH (th LA h.length) h 0 (HA 0)) (hAn : LA.Nodup) (hAk : ∀ i, i < n.2 → LA[i]? = some i) (hn2 : n.2 ≤ m0) (hm0 : m0 ≤ (HA 0).length)
    (hlow : lowE m0 E = true) (hpl : ∀ t, t ∈ ps → t < n.1) (hit' : ∀ k, k < N → (items k).length = ps.length ∧ AV.idfL (items k) = true)
    (hround : ∀ k, k < N → AY P J A (n.1, m0) assign (GO k) (roundEnv ps (items k) E) (HA k) (fun g e v h => e = .normal ∧ AY P J A (n.1, m0) body g v h (QRY m0 E HA GO Q k)))
    (hafter : Q (GO N) .normal E (HA N)) : AY P J A n (.rangeFunc g ps.toArray assign body) gst env h Q := by
  subst hG
  intro c ρ S a w QQ s ⟨WO, NO, jo⟩ hQ
  have p := s.pre
  refine wpIn_rangeFunc fun fn _ => ?_
  have hlo : c.lo ≤ w.heap.size := Nat.le_trans c.lole s.hs.ext.size
  obtain ⟨l, bd, mk, w1, T, henter, hl1, hlw, hll1, x01, hT, hmk⟩ := enter_loop (P := P) s.defers s.hs.stab hlo fn a.tmps ps.toArray assign body
  have hxv := p.evu hx
  simp only [R] at hxv
  obtain ⟨ys, zs, e1, hy1, hz1⟩ := hxv
  let ρA : Pl := fun k => ρ (th LA h.length k)
  have hNlt : ∀ b, NO b → b < w.heap.size := hJ.lt jo.j
  have hWlt : ∀ b, WO b → b < w.heap.size := fun b hb => hNlt b (hJ.sub jo.j b hb)
  have hMnew : ∀ b, w1.heap.size ≤ b → (liveB h ρ b ∨ (w.heap.size ≤ b ∧ ¬ T b)) ∨ WO b := fun b hb => .inl (.inr ⟨Nat.le_trans x01.size hb, fun ht => by have := (hT b ht).2.2; omega⟩)
  let cA : Ctx := { w0 := w1, M := fun b => (liveB h ρ b ∨ (w.heap.size ≤ b ∧ ¬ T b)) ∨ WO b, new := hMnew, S0 := fun b => S b ∨ T b, ρ0 := ρA, m := m0, lo := c.lo, lole := Nat.le_trans hlo x01.size, r := some l, nb := fun b => c.nb b ∨ c.S0 b ∨ c.M b }
  have hlnT : ¬ T l := fun ht => (hT l ht).2.1 rfl
  have hlnS : ∀ b, S b → b ≠ l := fun b hb e => by have := s.hs.stab b hb; omega
  have hsA0 : HS c ρA S (HA 0) w := s.hs.sub hLA hHA hAn (fun i hi => hAk i (s.cm ▸ hi))
  obtain ⟨hsA1, later1⟩ := hsA0.world x01 (fun _ _ h => h) (fun _ _ _ _ _ _ h => h) (fun _ _ h => h.elim)
  have liveA : ∀ (k : Nat) x q, (HA 0)[k]? = some x → x ≠ .gone → ρA k = some q → liveB h ρ q.1 := fun k x q a1 a2 a3 => by
    obtain ⟨y, b1, b2⟩ := hHA.live (ρ := ρ) a1 a2 a3
    exact ⟨_, y, q.2, b1, b2, a3⟩
  have liveLt : ∀ b, liveB h ρ b → b < w.heap.size := fun b ⟨k, x, o, _, _, hp⟩ => s.hs.rng k _ hp
  have liveS : ∀ b, liveB h ρ b → ¬ S b := fun b ⟨k, x, o, a1, a2, a3⟩ => (s.hs.live k x _ a1 a2 a3).2
  have liveN : ∀ b, liveB h ρ b → ¬ NO b := fun b ⟨k, x, o, a1, a2, a3⟩ => jo.live k x _ a1 a2 a3
  have hsA2 : HS c ρA (fun b => S b ∨ T b) (HA 0) w1 := hsA1.more (fun _ h => .inl h) (fun b hb => by
    rcases hb with hb | hb
    · exact hsA1.stab b hb
    · exact (hT b hb).2.2) (fun k x q a1 a2 a3 hb => by
    have h1 := liveA k x q a1 a2 a3
    rcases hb with hb | hb
    · exact liveS _ h1 hb
    · have := (hT _ hb).1; have := liveLt _ h1; omega) (fun b hb => by
    rcases hb with hb | hb
    · exact s.hs.st1 b hb
    · exact .inr (c.new b (Nat.le_trans s.hs.ext.size (hT b hb).1)))
  have hsA : HS cA ρA (fun b => S b ∨ T b) (HA 0) w1 := hsA2.re cA (fun k x q a1 a2 a3 => .inl (.inl (liveA k x q a1 a2 a3))) (Ext.refl _ _) (fun _ h => h) (fun _ h => .inl h) hm0 (fun _ _ => rfl)
  obtain ⟨rec0, hrec⟩ : ∃ rec0 : Loop, rec0 = { state := .ready, pending := none, fn := fn, tmps := a.tmps, params := ps.toArray, assign := assign, body := body, defers := bd } := ⟨_, rfl⟩
  rw [← hrec] at hl1
  have hSA : ∀ b, (S b ∨ T b) → b < w1.heap.size ∧ ¬ ((liveB h ρ b ∨ (w.heap.size ≤ b ∧ ¬ T b)) ∨ WO b) := fun b hb => by
    rcases hb with hb | hb
    · refine ⟨Nat.lt_of_lt_of_le (s.hs.stab b hb) x01.size, fun hm => ?_⟩
      rcases hm with (hm | hm) | hm
      · exact liveS b hm hb
      · have := s.hs.stab b hb; omega
      · exact jo.st b hb hm
    · refine ⟨(hT b hb).2.2, fun hm => ?_⟩
      rcases hm with (hm | hm) | hm
      · have := liveLt b hm; have := (hT b hb).1; omega
      · exact hm.2 hb
      · have := hWlt b hm; have := (hT b hb).1; omega
  have hMl : cA.M l := .inl (.inr ⟨hlw, hlnT⟩)
  have hS0l : ¬ cA.S0 l := fun h => by
    rcases h with h | h
    · exact hlnS l h rfl
    · exact hlnT h
  have hNl : ¬ NO l := fun h => by have := hNlt l h; omega
  have hAc : ∀ b, cA.M b → c.M b := fun b hb => by
    rcases hb with (⟨k, x, o, a1, a2, a3⟩ | hb) | hb
    · exact (s.hs.live k x _ a1 a2 a3).1
    · exact c.new b (Nat.le_trans s.hs.ext.size hb.1)
    · exact jo.wm b hb
  have haS0 : ∀ b, cA.S0 b → A b := fun b hb => by
    rcases hb with hb | hb
    · exact jo.accS b hb
    · exact jo.accM b (c.new b (Nat.le_trans s.hs.ext.size (hT b hb).1))
  have henvE : ∀ t x, look E t = some x → R (fun b => S b ∨ T b) w1 x ρA (a.tmps.getD t undef) := fun t x hx => by
    have h1 := R_map _ ρ _ _ (s.env t _ (hEA.look t x hx))
    exact R_S (fun _ h => .inl h) (h1.later later1)
  have hyield : JYield P l (JRY cA l rec0 E HA GO J A Q) (fun b => cA.S0 b ∨ cA.M b) items N := by
    refine round_yieldY (cA := cA) (n1 := n.1) (m0 := m0) (ps := ps) hJ rfl hMl hS0l hSA (Nat.le_trans hlo hlw) haS0 (by rw [hrec]) (by rw [hrec]) (by rw [hrec]) (by rw [hrec]; exact s.size) hpl hit' (fun t x hx => by rw [hrec]; exact henvE t x hx) hlow (fun k hk => by rw [hrec]; exact hround k hk)
  have hJok : JOk (JRY cA l rec0 E HA GO J A Q) := jry_ok hJ
  have hlw1 : ∀ b, NO b → w1.heap[b]? = w.heap[b]? := fun b hb => x01.same b (hNlt b hb) (fun h => h)
  have jA : JS1 J A (GO 0) cA ρA (fun b => S b ∨ T b) (HA 0) w1 WO NO := by
    refine jo.later hJ (N' := NO) (x01.mono fun _ _ h => h.elim) (fun _ h => h) (fun k x q a1 a2 a3 => liveN _ (liveA k x q a1 a2 a3)) (fun b hb hw => ?_) (fun b hb h1 h2 => ?_) (fun b hb => .inr hb) haS0 (fun b hb => jo.accM b (hAc b hb)) (fun b hb => .inl (jo.nn b hb))
    · exact (hSA b hb).2 (.inr hw)
    · rcases hb with hb | hb
      · exact jo.cell b hb h1 h2
      · have := hNlt b h2; have := (hT b hb).1; omega
  let W0 : Nat → Prop := fun b => liveB (HA 0) ρA b ∨ b = l ∨ WO b
  let N0 : Nat → Prop := fun b => liveB (HA 0) ρA b ∨ (S b ∨ T b) ∨ b = l ∨ ¬ cA.M b ∨ NO b
  have hJ0 : JRY cA l rec0 E HA GO J A Q (0, false) W0 N0 w1 := ⟨ρA, _, HA 0, rec0, GO 0, WO, NO, hsA, hl1, hS0l, fun k x q a1 a2 a3 e => by have := liveLt _ (liveA k x q a1 a2 a3); omega, fun b => Iff.rfl, fun b => Iff.rfl, fun _ => ⟨rfl, rfl, rfl⟩, (fun h => nomatch h), jA, hNl⟩
  have hAnew : ∀ b, w1.heap.size ≤ b → cA.S0 b ∨ cA.M b := fun b hb => .inr (hMnew b hb)
  have hsI : HS (ctxI w1 (fun _ => none) S [] (fun b => cA.S0 b ∨ cA.M b) hAnew) (fun _ => none) S [] w1 := by
    refine ⟨fun _ _ => rfl, (fun _ _ h => nomatch h), (fun k b h => by simp at h), (fun k b p h => by simp at h), (fun k k' b b' p p' h => by simp at h), fun b hb => Nat.lt_of_lt_of_le (s.hs.stab b hb) x01.size, Ext.refl _ _, fun _ h => h, fun _ h => .inl h, Nat.zero_le _, fun _ h => absurd h (Nat.not_lt_zero _), s.hs.glob.later (⟨fun _ _ h => h, fun _ h => h, fun b hb => x01.same b (s.hs.stab b hb) (fun h => h), fun _ _ _ _ _ hr => x01.room hr⟩ : Later (fun _ => none) (fun _ => none) S S w w1)⟩
  have hargs : RL S w1 (fs' ++ [.clo (.yield l) [] []] ++ cs') (fun _ => none) (ys.toList ++ [Value.func (.yield l) #[] #[]] ++ zs.toList) := by
    have lI : Later (fun _ => none) (fun _ => none) S S w w1 := ⟨fun _ _ h => h, fun _ h => h, fun b hb => x01.same b (s.hs.stab b hb) (fun h => h), fun _ _ _ _ _ hr => x01.room hr⟩
    have hρ : (fun k => ρ (th [] h.length k)) = fun _ => (none : Option (Nat × Nat)) := funext fun k => by
      have : th [] h.length k = h.length := by simp [th]
      rw [this]
      exact s.hs.dom _ (Nat.le_refl _)
    rw [← hfs] at hy1
    rw [← hcs] at hz1
    have g1 := RL_map _ ρ _ _ hy1
    have g2 := RL_map _ ρ _ _ hz1
    rw [hρ] at g1 g2
    exact RL_append (RL_append (g1.later lI) (by simp only [RL]; exact ⟨_, _, rfl, by simp only [R, RL]; exact ⟨#[], #[], rfl, rfl, rfl⟩, rfl⟩)) (g2.later lI)
  have hcall := hI.2 _ _ l hJok hyield (fun _ => none) S w1 _ W0 N0 hAnew hsI hargs hJ0 (fun k x q a1 => by simp at a1) (fun b hb => ⟨.inl (.inl hb), fun hw => by
    rcases hw with ⟨k', x', o', b1, b2, b3⟩ | hw | hw
    · exact liveS b (liveA k' x' (b, o') b1 b2 b3) hb
    · exact hlnS b hb hw
    · exact jo.st b hb hw⟩) (fun b hw => by
    rcases hw with ⟨k', x', o', b1, b2, b3⟩ | rfl | hw
    · exact .inr (.inl (.inl (liveA k' x' (b, o') b1 b2 b3)))
    · exact .inr hMl
    · exact .inr (.inr hw))
  have hrun := run_call (P := P) (f := f) (args := (ys.toList ++ [Value.func (.yield l) #[] #[]] ++ zs.toList).toArray) (w := w1) hI.1
  refine ⟨l, mk, w1, { target := .fn (.func f) zs, args := ys ++ #[Value.func (.yield l) #[] #[]] }, w1, f, (ys.toList ++ [Value.func (.yield l) #[] #[]] ++ zs.toList).toArray, w1, henter, ?_, fun _ _ => trivial, ?_, (fun h => (by cases h)), ?_⟩
  · simp only [resolve]
    rw [e1]
    simp [Deferred.ofValue, Act.eval]
  · have e2 : (ys ++ #[Value.func (.yield l) #[] #[]] ++ zs : Array Value) = (ys.toList ++ [Value.func (.yield l) #[] #[]] ++ zs.toList).toArray := by
      apply Array.ext'; simp
    simp only [invoke]
    rw [e2]
    exact hrun
  refine (rd_calls (r := c.r) (n := 0 - 1) hcall).mono ?_
  rintro e w5 ⟨y, g', W5, N5, rfl, ⟨ρ5, S5, hh, rec5, g5, WO5, NO5, s5, hl5, hSl5, hll5, hW5, hN5, hg1, hg2, j5, hNl5⟩, hgN⟩
  have hbusy : rec5.state ≠ .busy := by
    cases hb : g'.2 with
    | false => rw [(hg1 hb).2.1, hrec]; simp
    | true =>
      obtain ⟨e, cd, _, hr, _⟩ := hg2 hb
      rw [hr]; simp
  refine ⟨_, _, run_endLoop hl5 hbusy, ?_⟩
  obtain ⟨s6, hr6⟩ := s5.put hl5 (fun _ _ _ e => by cases e) rfl (.loop { rec5 with state := .exhausted }) (fun _ => hMl) hS0l
  have hS5 : ∀ b, S5 b → c.S0 b ∨ c.M b := fun b hb => by
    rcases s5.st1 b hb with (h | h) | h
    · exact s.hs.st1 b h
    · exact .inr (c.new b (Nat.le_trans s.hs.ext.size (hT b h).1))
    · exact .inr (hAc b h)
  have s7 : HS c ρ5 (fun b => S5 b ∧ b ≠ l) hh (w5.putObj l (.loop { rec5 with state := .exhausted })) := s6.re c (fun k x q a1 a2 a3 => hAc _ (s6.live k x q a1 a2 a3).1) (s.hs.ext.trans (((x01.mono (N := cA.M) fun _ _ h => h.elim)).trans s6.ext (fun _ h _ => h)) fun b hb _ => hAc b hb) (fun b hb => ⟨s5.st0 b (.inl (s.hs.st0 b hb)), hlnS b (s.hs.st0 b hb)⟩) (fun b hb => hS5 b hb.1) (Nat.le_trans (by rw [s.cm]; exact hn2) s5.mle) (fun k hk => by
    have hk2 : k < n.2 := s.cm ▸ hk
    have h1 := s5.keep k (Nat.lt_of_lt_of_le hk2 hn2)
    rw [h1]
    show ρ (th LA h.length k) = _
    have : th LA h.length k = k := by unfold th; rw [hAk k hk2]
    rw [this]; exact s.hs.keep k hk)
  have hsame : ∀ b, (S b ∨ T b) → (w5.putObj l (.loop { rec5 with state := .exhausted })).heap[b]? = w1.heap[b]? := fun b hb => s6.ext.same b (hSA b hb).1 (hSA b hb).2
  have s8 : Sim n c ρ5 (fun b => S5 b ∧ b ≠ l) E hh { a with defers := mk ++ a.defers } (w5.putObj l (.loop { rec5 with state := .exhausted })) := by
    refine ⟨s.size, hmk _ _ (fun b hb => ⟨s5.st0 b (.inl hb), hlnS b hb⟩) (fun b hb => ⟨s5.st0 b (.inr hb), (hT b hb).2.1⟩) hsame, fun t x hx => ?_, s7, s.cm⟩
    have h1 := R_low (ρ' := ρ5) (m := m0) (fun q hq => s5.keep q hq) x _ (lowE_look hlow hx) (henvE t x hx)
    exact R_later (fun b hb => ⟨s5.st0 b hb, fun e => hS0l (e ▸ hb)⟩) hsame x ρ5 ρ5 _ (fun _ _ h => h) (fun _ _ _ _ _ hr => s6.ext.room hr) h1
  have j8 : JS J A g5 c ρ5 (fun b => S5 b ∧ b ≠ l) hh (w5.putObj l (.loop { rec5 with state := .exhausted })) :=
    ⟨WO5, NO5, j5.later hJ (N' := NO5) ((ext_put hl5 (fun _ _ _ e => by cases e)).mono fun b _ hb h => hNl5 (hb ▸ h)) (fun _ h => h) j5.live (fun b hb => j5.st b hb.1) (fun b hb h1 h2 => j5.cell b hb.1 h1 h2) (fun b hb => hAc b (j5.wm b hb)) (fun b hb => j5.accS b hb.1) jo.accM (fun b hb => by
      rcases j5.nn b hb with h | (h | h) | h
      · exact h
      · exact .inr (s.hs.st1 b h)
      · exact .inr (.inr (c.new b (Nat.le_trans s.hs.ext.size (hT b h).1)))
      · exact .inr (.inr (hAc b h)))⟩
  generalize w5.putObj l (.loop { rec5 with state := .exhausted }) = w6 at s8 j8 ⊢
  cases hb : g'.2 with
  | false =>
    obtain ⟨rfl, hr5, rfl⟩ := hg1 hb
    rw [hgN hb] at s8 j8
    have : rec5.pending = none := by rw [hr5, hrec]
    rw [this]
    exact hQ (GO N) .normal E (HA N) ρ5 _ _ _ hafter s8 j8
  | true =>
    obtain ⟨e, cd, he, hr, hq⟩ := hg2 hb
    have : rec5.pending = some cd := by rw [hr]
    rw [this]
    exact jump_wp he (hQ g5 e E hh ρ5 _ _ _ hq s8 j8)
end Go.Ab

/-! A logic of values for the walk: a region that draws its order, and calls yield behind what may come in any order. -/
namespace Go.Ab
open Go
set_option linter.unusedVariables false
set_option linter.unusedSimpArgs false
set_option maxHeartbeats 1000000

/-- The first k operations come in any order, the others one after the other behind them. -/
def chkTail (l : List Oper) (pres : List (List Nat)) (k : Nat) : Bool :=
  okDraw l.toArray pres && Nat.ble k l.length && (List.range l.length).all fun i => match Nat.blt i k with
    | true => match l[i]? with
      | some o => match o.guard with
        | some (j, _) => Nat.blt j k
        | none => true
      | none => true
    | false => (List.range i).all fun j => (pres.getD i []).any (Nat.beq j)
section
variable {P : Program} {r : Option Nat} {Q Q1 : Exit → Act → World → Prop} {l : List Oper} {pres : List (List Nat)} {k : Nat}
theorem chkTail_ok (h : chkTail l pres k = true) : okDraw l.toArray pres = true ∧ k ≤ l.length ∧ (∀ i, i < k → ∀ o j b, l[i]? = some o → o.guard = some (j, b) → j < k) ∧ ∀ i, k ≤ i → i < l.length → ∀ j, j < i → j ∈ pres.getD i [] := by
  unfold chkTail at h
  simp only [Bool.and_eq_true] at h
  obtain ⟨⟨h1, h2⟩, h3⟩ := h
  have h2 := Nat.le_of_ble_eq_true h2
  rw [List.all_eq_true] at h3
  refine ⟨h1, h2, fun i hi o j b ho hg => ?_, fun i hi hl j hj => ?_⟩
  · have := h3 i (List.mem_range.2 (by omega))
    rw [show Nat.blt i k = true from Nat.ble_eq_true_of_le hi] at this
    simp only [ho, hg] at this
    exact Nat.le_of_ble_eq_true this
  · have := h3 i (List.mem_range.2 hl)
    have hb : Nat.blt i k = false := by
      rw [← Bool.not_eq_true]; intro hb; have := Nat.le_of_ble_eq_true hb; omega
    rw [hb] at this
    simp only [List.all_eq_true] at this
    have := this j (List.mem_range.2 hj)
    rw [List.any_eq_true] at this
    obtain ⟨x, hx, hxe⟩ := this
    rw [Nat.eq_of_beq_eq_true hxe]; exact hx
/-- What stands before an operation whose own predecessors have come up has come up. -/
theorem pre_listed (hok : okDraw l.toArray pres = true) {listed : Array Bool} (hcl : ∀ (i : Nat) o, l.toArray[i]? = some o → listed.getD i false = true → ∀ e, e ∈ o.after → Region.binds .any e = true → listed.getD e.on false = true) :
    ∀ (i : Nat) o, l.toArray[i]? = some o → (∀ e, e ∈ o.after → Region.binds .any e = true → listed.getD e.on false = true) → ∀ j, j ∈ pres.getD i [] → listed.getD j false = true := by
  intro i
  induction i using Nat.strongRecOn with
  | _ i ih =>
    intro o ho hall j hj
    have hlt : i < l.toArray.size := (Array.getElem?_eq_some_iff.1 ho).1
    have h := List.all_eq_true.1 hok i (by simpa using hlt)
    rw [ho] at h
    simp only [Bool.and_eq_true] at h
    have h2 := h.2
    cases hp : pres[i]? with
    | none => rw [List.getD_eq_getElem?_getD, hp] at hj; simp at hj
    | some pre =>
      rw [List.getD_eq_getElem?_getD, hp] at hj
      rw [hp] at h2
      simp only [List.all_eq_true, Bool.and_eq_true, decide_eq_true_eq] at h2
      obtain ⟨h3, h4⟩ := h2 j hj
      rw [List.any_eq_true] at h4
      obtain ⟨e, he, h5⟩ := h4
      rw [Bool.and_eq_true, Bool.or_eq_true] at h5
      obtain ⟨hb, h6⟩ := h5
      have he' : e ∈ o.after := by simpa using he
      have hel := hall e he' hb
      rcases h6 with h6 | h6
      · rw [← Nat.eq_of_beq_eq_true h6]; exact hel
      · rw [List.any_eq_true] at h6
        obtain ⟨x, hx, hxe⟩ := h6
        rw [Nat.eq_of_beq_eq_true hxe]
        have hei := okDraw_lt hok ho e he' hb
        exact ih e.on hei _ (Array.getElem?_eq_getElem (by omega)) (fun e2 he2 hb2 => hcl e.on _ (Array.getElem?_eq_getElem (by omega)) hel e2 he2 hb2) x hx
theorem tail_in (hc : chkTail l pres k = true) : ∀ (m k' fuel : Nat) (listed : Array Bool) (a : Act) (w : World), k' + m = l.length → k ≤ k' → m ≤ fuel → listed.size = l.length → (∀ j, j < l.length → listed.getD j false = decide (j < k')) →
    wpListIn (rd r) 0 P l.toArray Q (l.drop k') a w → wpAnyIn (rd r) 0 P .any l.toArray Q fuel listed a w := by
  obtain ⟨hok, hkl, _, hpre⟩ := chkTail_ok hc
  intro m
  induction m with
  | zero =>
    intro k' fuel listed a w hk hkk hf hsz hl h
    rw [List.drop_of_length_le (by omega)] at h
    have hre : Region.ready .any l.toArray listed = [] := by
      rw [List.eq_nil_iff_forall_not_mem]
      intro i hi
      obtain ⟨h1, o, ho, _⟩ := mem_ready.1 hi
      have hil : i < l.length := by have := (Array.getElem?_eq_some_iff.1 ho).1; simpa using this
      have e : listed.getD i true = listed.getD i false := by simp [Array.getD, hsz, hil]
      rw [e, hl i hil] at h1
      have : ¬ i < k' := by simpa using h1
      omega
    cases fuel with
    | zero => exact ⟨hre, h⟩
    | succ f => exact ⟨fun _ => h, fun i hi => by rw [hre] at hi; cases hi⟩
  | succ m ih =>
    intro k' fuel listed a w hk hkk hf hsz hl h
    obtain ⟨f, rfl⟩ : ∃ f, fuel = f + 1 := ⟨fuel - 1, by omega⟩
    have hlt : k' < l.length := by omega
    have ho : l.toArray[k']? = some l[k'] := by simp [List.getElem?_eq_getElem hlt]
    have hin : k' ∈ Region.ready .any l.toArray listed := mem_ready.2 ⟨by
      have e : listed.getD k' true = listed.getD k' false := by simp [Array.getD, hsz, hlt]
      rw [e, hl k' hlt]; simp, l[k'], ho, fun e he hb => by
      have := okDraw_lt hok ho e he hb
      rw [hl e.on (by omega)]; simpa using this⟩
    refine ⟨(fun hr => by rw [hr] at hin; cases hin), fun i hi => ?_⟩
    obtain ⟨h1, o, hoi, hall⟩ := mem_ready.1 hi
    have hil : i < l.length := by have := (Array.getElem?_eq_some_iff.1 hoi).1; simpa using this
    have hcl : ∀ (i : Nat) o, l.toArray[i]? = some o → listed.getD i false = true → ∀ e, e ∈ o.after → Region.binds .any e = true → listed.getD e.on false = true := fun i o ho hi e he hb => by
      have hil : i < l.length := by have := (Array.getElem?_eq_some_iff.1 ho).1; simpa using this
      have := okDraw_lt hok ho e he hb
      rw [hl i hil] at hi
      have : i < k' := by simpa using hi
      rw [hl e.on (by omega)]; simp; omega
    have hik : i = k' := by
      have e : listed.getD i true = listed.getD i false := by simp [Array.getD, hsz, hil]
      rw [e, hl i hil] at h1
      have h2 : ¬ i < k' := by simpa using h1
      rcases Nat.lt_or_ge k' i with h3 | h3
      · have := pre_listed hok hcl i o hoi hall k' (hpre i (by omega) hil k' h3)
        rw [hl k' hlt] at this
        simp at this
      · omega
    subst hik
    rw [List.drop_eq_getElem_cons hlt] at h
    unfold wpListIn at h
    unfold wpOpIn
    rw [ho]
    have nx : ∀ a w, wpListIn (rd r) 0 P l.toArray Q (l.drop (i + 1)) a w → wpAnyIn (rd r) 0 P .any l.toArray Q f (listed.setIfInBounds i true) a w := fun a w h' =>
      ih (i + 1) f _ a w (by omega) (by omega) (by omega) (by simpa using hsz) (fun j hj => by
        by_cases hij : i = j
        · subst hij
          simp [Array.getD, hsz, hlt]
        · rw [getD_set_ne false hij, hl j hj]
          simp; omega) h'
    simp only
    split at h
    · rename_i hw
      rw [if_pos hw]
      exact Oper.wpIn_mono nx h
    · rename_i hw
      rw [if_neg hw]
      exact ⟨h.1, nx _ _ h.2⟩
theorem any_split_in (hc : chkTail l pres k = true) (hnd : noDef (l.take k) = true) (hq1 : ∀ e a w, Q1 e a w → e = .normal) (hrest : ∀ a w, Q1 .normal a w → wpListIn (rd r) 0 P l.toArray Q (l.drop k) a w) :
    ∀ (fuel' fuel : Nat) (listed listedf : Array Bool) (U : List Nat) (a : Act) (w : World), listed.size = l.length → listedf.size = k → (∀ j, j < k → listed.getD j false = listedf.getD j false) → (∀ j, k ≤ j → listed.getD j false = false) →
      (∀ (i : Nat) o, l.toArray[i]? = some o → listed.getD i false = true → ∀ e, e ∈ o.after → Region.binds .any e = true → listed.getD e.on false = true) →
      (∀ j, j < k → listed.getD j false = false → j ∈ U) → U.length ≤ fuel' → fuel' + (l.length - k) ≤ fuel →
      wpAny P .any (l.take k).toArray Q1 fuel' listedf a w → wpAnyIn (rd r) 0 P .any l.toArray Q fuel listed a w := by
  obtain ⟨hok, hkl, hgd, hpre⟩ := chkTail_ok hc
  have hlk : (l.take k).toArray.size = k := by simp; omega
  have done : ∀ (fuel : Nat) (listed : Array Bool) (a : Act) (w : World), listed.size = l.length → (∀ j, k ≤ j → listed.getD j false = false) → (∀ j, j < k → listed.getD j false = true) → l.length - k ≤ fuel → Q1 .normal a w → wpAnyIn (rd r) 0 P .any l.toArray Q fuel listed a w := fun fuel listed a w hsz ht hf hfu hq =>
    tail_in hc (l.length - k) k fuel listed a w (by omega) (Nat.le_refl _) hfu hsz (fun j hj => by
      by_cases h : j < k
      · rw [hf j h]; simp [h]
      · rw [ht j (by omega)]; simp [h]) (hrest a w hq)
  intro fuel'
  induction fuel' with
  | zero =>
    intro fuel listed listedf U a w hsz hszf hlf ht hcl hU hUl hfu h
    have hU0 : U = [] := List.eq_nil_of_length_eq_zero (by omega)
    subst hU0
    exact done fuel listed a w hsz ht (fun j hj => by
      cases hb : listed.getD j false with
      | true => rfl
      | false => exact absurd (hU j hj hb) (by simp)) (by omega) h.2
  | succ fuel' ih =>
    intro fuel listed listedf U a w hsz hszf hlf ht hcl hU hUl hfu h
    by_cases hfl : ∀ j, j < k → listed.getD j false = true
    · refine done fuel listed a w hsz ht hfl (by omega) (h.1 ?_)
      rw [List.eq_nil_iff_forall_not_mem]
      intro i hi
      obtain ⟨h1, o, ho, _⟩ := mem_ready.1 hi
      have hil : i < k := by have := (Array.getElem?_eq_some_iff.1 ho).1; omega
      have e : listedf.getD i true = listedf.getD i false := by simp [Array.getD, hszf, hil]
      rw [e, ← hlf i hil, hfl i hil] at h1
      cases h1
    · obtain ⟨j0, hj0, hjf⟩ : ∃ j, j < k ∧ listed.getD j false = false := by
        apply Classical.byContradiction
        intro hn
        apply hfl
        intro j hj
        cases hb : listed.getD j false with
        | true => rfl
        | false => exact absurd ⟨j, hj, hb⟩ hn
      obtain ⟨f, rfl⟩ : ∃ f, fuel = f + 1 := ⟨fuel - 1, by omega⟩
      have hex : Region.ready .any l.toArray listed ≠ [] := by
        have least : ∃ j, j < k ∧ listed.getD j false = false ∧ ∀ i, i < j → listed.getD i false = true := by
          have : ∀ b j, j ≤ b → j < k → listed.getD j false = false → ∃ j, j < k ∧ listed.getD j false = false ∧ ∀ i, i < j → listed.getD i false = true := by
            intro b
            induction b with
            | zero => exact fun j hj h5 h6 => ⟨j, h5, h6, fun k hk => by omega⟩
            | succ b ihb =>
              intro j hj h5 h6
              by_cases hk : ∃ k, k < j ∧ listed.getD k false = false
              · obtain ⟨k, hk1, hk2⟩ := hk
                exact ihb k (by omega) (by omega) hk2
              · refine ⟨j, h5, h6, fun k hk' => ?_⟩
                cases hb : listed.getD k false with
                | true => rfl
                | false => exact absurd ⟨k, hk', hb⟩ hk
          exact this j0 j0 (Nat.le_refl _) hj0 hjf
        obtain ⟨j, h5, h6, h7⟩ := least
        intro he
        have hlt : j < l.toArray.size := by simp; omega
        have : j ∈ Region.ready .any l.toArray listed := mem_ready.2 ⟨by
          have e : listed.getD j true = listed.getD j false := by simp only [Array.getD, hsz, show j < l.length by omega, dif_pos]
          rw [e, h6], _, Array.getElem?_eq_getElem hlt, fun e he hb => h7 _ (okDraw_lt hok (Array.getElem?_eq_getElem hlt) e he hb)⟩
        rw [he] at this; cases this
      refine ⟨fun h5 => absurd h5 hex, fun i hi => ?_⟩
      obtain ⟨h1, o, hoi, hall⟩ := mem_ready.1 hi
      have hil : i < l.length := by have := (Array.getElem?_eq_some_iff.1 hoi).1; simpa using this
      have hik : i < k := by
        apply Classical.byContradiction
        intro hge
        have := pre_listed hok hcl i o hoi hall j0 (hpre i (by omega) hil j0 (by omega))
        rw [hjf] at this; cases this
      have ei : listed.getD i true = listed.getD i false := by simp [Array.getD, hsz, hil]
      have eif : listedf.getD i true = listedf.getD i false := by simp [Array.getD, hszf, hik]
      have hil0 : listed.getD i false = false := by rw [← ei]; exact h1
      have hof : (l.take k).toArray[i]? = some o := by
        have : l[i]? = some o := by simpa using hoi
        simp [List.getElem?_take, hik, this]
      have hif : i ∈ Region.ready .any (l.take k).toArray listedf := mem_ready.2 ⟨by rw [eif, ← hlf i hik]; exact hil0, o, hof, fun e he hb => by
        have hlt := okDraw_lt hok hoi e he hb
        rw [← hlf e.on (by omega)]; exact hall e he hb⟩
      have hop := h.2 i hif
      unfold wpOp at hop
      unfold wpOpIn
      rw [hof] at hop
      rw [hoi]
      simp only at hop ⊢
      have hoi' : l[i]? = some o := by simpa using hoi
      have hwant : Region.wanted o (yielded (l.take k).toArray a.tmps) = Region.wanted o (yielded l.toArray a.tmps) := by
        unfold Region.wanted
        cases hg : o.guard with
        | none => rfl
        | some g =>
          obtain ⟨j, b⟩ := g
          have hj := hgd i hik o j b hoi' hg
          simp only
          unfold yielded
          have : (l.take k).toArray[j]? = l.toArray[j]? := by simp [List.getElem?_take, hj]
          rw [this]
      have nx : ∀ a w, wpAny P .any (l.take k).toArray Q1 fuel' (listedf.setIfInBounds i true) a w → wpAnyIn (rd r) 0 P .any l.toArray Q f (listed.setIfInBounds i true) a w := fun a' w' h' => by
        refine ih f _ _ (U.erase i) a' w' (by simpa using hsz) (by simpa using hszf) (fun j hj => ?_) (fun j hj => ?_) (fun i2 o2 ho2 hi2 e he hb => ?_) (fun j hj hjl => ?_) ?_ (by omega) h'
        · by_cases hij : i = j
          · subst hij; simp [Array.getD, hsz, hszf, hil, hik]
          · rw [getD_set_ne false hij, getD_set_ne false hij]; exact hlf j hj
        · rw [getD_set_ne false (by omega)]; exact ht j hj
        · by_cases hij : i = i2
          · subst hij
            rw [hoi] at ho2; cases ho2
            exact getD_set_true (hall e he hb)
          · rw [getD_set_ne false hij] at hi2
            exact getD_set_true (hcl i2 o2 ho2 hi2 e he hb)
        · by_cases hij : i = j
          · subst hij; simp [Array.getD, hsz, hil] at hjl
          · rw [getD_set_ne false hij] at hjl
            exact (List.mem_erase_of_ne (Ne.symm hij)).2 (hU j hj hjl)
        · have := List.length_erase_of_mem (hU i hik hil0)
          have hpos : 0 < U.length := List.length_pos_of_mem (hU i hik hil0)
          omega
      have hnd1 : noDef1 o = true := noDef_get hnd (i := i) (by simp [List.getElem?_take, hik, hoi'])
      split at hop
      · rename_i hw
        rw [if_pos (by rw [← hwant]; exact hw)]
        rcases hop with hop | ⟨_, a', w', hop⟩
        · exact op_monoQ (Q := Q1) hq1 (Oper.wpIn_mono nx (op_in hnd1 hop))
        · have := hq1 _ _ _ hop; cases this
      · rename_i hw
        rw [if_neg (by rw [← hwant]; exact hw)]
        exact ⟨fun _ _ => trivial, nx _ _ hop⟩
end

/-- A region that draws its order, and calls yield behind its first k operations. -/
theorem ay_drawT {P : Program} {J : JT} {A : Nat → Prop} {n : Nat × Nat} {g : Nat × Bool} {env : Env} {h : Hp} {Q : Nat × Bool → Exit → Env → Hp → Prop} {id : Nat} {l : List Oper} (hJ : JOk J) (k nt : Nat) (presl pres : List (List Nat)) (ds : List Nat) (bads : List (List Nat)) (hm : P.follows .mixedOrders = true) (hn : n.1 = nt) (hc : chkTail l presl k = true) (hok : chkDraw (l.take k) pres ds bads nt = true)
    (hv : DW P n (l.take k) pres ds bads (dropE ds env) h 0 (dropE ds env) [] (fun v h => VY P J A n l.toArray (l.drop k) g v h (fun g v h => Q g .normal v h))) (hnd : noDef (l.take k) = true := by rfl) : AY P J A n (.region id l.toArray true) g env h Q := by
  intro c ρ S a w QQ s ⟨W, N, j⟩ hQ
  have hkl := (chkTail_ok hc).2.1
  have hnl := hJ.lt j.j
  have hany := any_draw2 pres ds bads (by rw [hn]; exact hok) hv (c.re w S N hnl s.hs.ext.size) ρ S a w (fun e a w => e = .normal ∧ wpListIn (rd c.r) 0 P l.toArray (fun e a w => e = .normal ∧ QQ .normal a w) (l.drop k) a w) (s.re j hnl s.hs.ext.size) fun env' h' ρ' S' a' w' kv s' => by
    obtain ⟨h1, h2⟩ := s.un hJ j hnl s.hs.ext.size s'
    exact ⟨rfl, kv c ρ' S' a' w' _ h1 ⟨W, N, h2⟩ (fun e a w h => h.1) fun g' env2 h2 ρ2 S2 a2 w2 k2 s2 j2 => ⟨rfl, hQ g' .normal env2 h2 ρ2 S2 a2 w2 k2 s2 j2⟩⟩
  have hrep : ∀ m j, (Array.replicate m false).getD j false = false := fun m j => by
    simp only [Array.getD]
    split <;> simp
  refine wpIn_mono (wpIn_region_any (Q := fun e a w => e = .normal ∧ QQ .normal a w) hm (any_split_in hc hnd (fun e a w h => h.1) (fun a w h => h.2) (l.take k).toArray.size l.toArray.size _ (Array.replicate (l.take k).toArray.size false) (List.range k) a _ (by simp) (by simp; omega) (fun j hj => by rw [hrep, hrep]) (fun j hj => hrep _ _) (fun i o ho hi => by rw [hrep] at hi; cases hi) (fun j hj _ => List.mem_range.2 hj) (by simp; omega) (by simp; omega) hany)) fun e a w he => by obtain ⟨rfl, h3⟩ := he; exact h3

/-- A call of yield, at values that are among those that the contract names. -/
theorem vy_yieldW {P : Program} {J : JT} {A : Nat → Prop} {n : Nat × Nat} {ops : Array Oper} {env : Env} {h : Hp} {K : Nat × Bool → Env → Hp → Prop} {d : Option Nat} {x : Operand} {l k N : Nat} {us us' : List AV} {args : List Operand} {ats : Array TypeId} {ty : TypeId} {pos : String} {af : Array Edge} {items : Nat → List AV} {rest : List Oper} (hJ : JOk J) (hy : JYield P l J A items N) (hx : evu env x = some (.clo (.yield l) [] [])) (ha : evL env args = some us) (hi : AV.idfL us = true) (hk : k < N) (hit : items k = us') (hu : ∀ (S : Nat → Prop) w ρ ys, RL S w us ρ ys → RL S w us' ρ ys) (hd : okd d n = true)
    (hb : ∀ b : Bool, VY P J A n ops rest (k + 1, !b) (putd d (.b b) env) h K) : VY P J A n ops (⟨d, .call { callee := .value x, args := args.toArray, argTypes := ats }, ty, pos, af, none⟩ :: rest) (k, false) env h K := by
  have hy' : JYield P l J A (fun j => if j = k then us else items j) N := fun k2 hk2 W Nn w S vs j hS hv => hy k2 hk2 W Nn w S vs j hS (by
    dsimp only at hv
    by_cases e : k2 = k
    · subst e; rw [if_pos rfl] at hv; rw [hit]; exact hu _ _ _ _ hv
    · rw [if_neg e] at hv; exact hv)
  exact vy_yield hJ hy' hx ha hi hk (if_pos rfl) hd hb
end Go.Ab

/-! A logic of values for the walk: a slice's literal is a block that holds just its elements, so what is appended to it goes into a new block; and a slice that nobody writes any more, in code that calls yield. -/
namespace Go.Ab
open Go
set_option linter.unusedVariables false
set_option linter.unusedSimpArgs false
set_option maxHeartbeats 1000000
section
variable {P : Program} {env : Env} {h : Hp} {d : Option Nat} {ty : TypeId} {pos : String} {af : Array Edge} {g : Option (Nat × Bool)}
theorem fs_buildLit (T : Tab P) {t e len : Nat} {i : TI} {l : List (Nat × Operand)} {as : List (Nat × List AV)} {es : List (List AV)} (ht : T.elem t = some e) (he : T.ti e = some i) (hs : 0 < i.size) (hn : len * i.size ≤ 16777216) (hl : evParts env l = some as) (hz : fillE (List.replicate len (i.zero.map .v)) as = some es) (hes : es.length = len) :
    FStep P ⟨d, .buildSlice t len l.toArray, ty, pos, af, g⟩ env h 1 (fun p => .sl p 0 len i.size) (fun _ => [.lit es i.size]) := by
  obtain ⟨inf, z, a1, a2, a3, a4, a5, a6, a7⟩ := T.tiOk e i he
  have hrep : ∀ e, e ∈ List.replicate len (i.zero.map AV.v) → e.length = i.size := fun e he => by rw [List.eq_of_mem_replicate he]; simp [a6]
  obtain ⟨f1, f2, f3⟩ := fillE_flat hrep hz
  refine fs_new fun ρ S a w p => ?_
  have hcells : RL S w (List.replicate len (i.zero.map AV.v)).flatten ρ (madeCells z.cells (len * i.size)).toList := by
    have h1 : (List.replicate len (i.zero.map AV.v)).flatten = ((List.replicate len i.zero).flatten).map AV.v := by
      rw [List.map_flatten, List.map_replicate]
    have h2 : (madeCells z.cells (len * i.size)).toList = (List.replicate len i.zero).flatten := by
      apply List.ext_getElem?
      intro j
      by_cases hj : j < len * i.size
      · have hlen : (List.replicate len i.zero).flatten.length = len * i.size := by
          rw [length_flatten_of (sz := i.size) (fun e he => by rw [List.eq_of_mem_replicate he]; exact a6)]; simp
        obtain ⟨y, hy⟩ : ∃ y, (List.replicate len i.zero).flatten[j]? = some y := ⟨_, List.getElem?_eq_getElem (by rw [hlen]; exact hj)⟩
        rw [hy]
        obtain ⟨_, c2⟩ := flatten_replicate_get i.zero len j y hy
        have := madeCells_get (z := z.cells) (n := len * i.size) (j := j) (y := y) hj (by
          have hzs : z.cells.size = i.zero.length := by rw [← a5]; simp
          rw [hzs, a5]; exact c2)
        simpa using this
      · rw [List.getElem?_eq_none (by simp [size_madeCells]; omega), List.getElem?_eq_none]
        rw [length_flatten_of (sz := i.size) (fun e he => by rw [List.eq_of_mem_replicate he]; exact a6)]
        simp; omega
    rw [h1, h2]
    exact RL_vs _
  obtain ⟨us, u1, u2⟩ := fill_val (parts_val p hl) hcells f1
  have ul := RL_length u2
  have hus : us.size = es.length * i.size := by
    rw [length_flatten_of f2] at ul
    simpa using ul
  have hlm : len ≤ maxLen := by
    have : len * 1 ≤ len * i.size := Nat.mul_le_mul_left _ hs
    have hm : (16777216 : Nat) ≤ maxLen := by decide
    omega
  refine ⟨us, e, .slice (some ⟨w.heap.size, 0, none⟩) len len, false, ?_, fun pos hpos w' hw' lt => ⟨?_, ?_⟩⟩
  · have hn' : ¬ (len * i.size > 2 ^ 24) := by omega
    have hparts : (l.toArray.map fun (i, x) => (i, a.eval x)).toList = l.map fun (i, x) => (i, a.eval x) := by simp
    have hmade : ∀ zz : Array Value, (len * i.size = 0 ∨ zz = z.cells) → ((Array.range (len * i.size)).map fun x => zz[x % zz.size]!) = madeCells z.cells (len * i.size) := fun zz hzz => by
      rcases hzz with h0 | h0
      · simp [h0, madeCells]
      · rw [h0]; rfl
    by_cases h0 : len * i.size = 0
    · have hm := hmade #[] (.inl h0)
      simp only [execOp, Instr.buildSlice, Sem.run_bind, run_underlying (T.elemOk _ _ ht), Result.andThen_ok, Go.sizeOf, typeInfo, run_program, a1, Sem.run_pure, a2, hn', if_false]
      rw [if_pos h0]
      simp only [Sem.run_bind, Sem.run_pure, Result.andThen_ok]
      rw [hm, hparts, u1]
      simp [newRow]
    · have hm := hmade z.cells (.inr rfl)
      simp only [execOp, Instr.buildSlice, Sem.run_bind, run_underlying (T.elemOk _ _ ht), Result.andThen_ok, Go.sizeOf, typeInfo, run_program, a1, Sem.run_pure, a2, hn', if_false]
      rw [if_neg h0]
      simp only [Sem.run_bind, zeroValue, typeInfo, run_program, a1, a4, Sem.run_pure, Result.andThen_ok]
      rw [hm, hparts, u1]
      simp [newRow]
  · simp only [R]
    refine ⟨_, len, rfl, hlm, .inr ⟨w.heap.size, 0, by simp [Pl.with], by simp, Nat.le_refl _, us, e, _, hw', ?_⟩⟩
    rw [hus, hes]; simp
  · simp only [RB]
    exact ⟨f2, hs, _, us.toList, rfl, ⟨us, e, hw', hus, fun j y hy => by rw [Nat.zero_add]; simpa using hy⟩, u2.later lt⟩
/-- What a literal's slice is in the model. -/
theorem lit_val {ρ : Pl} {S : Nat → Prop} {a : Act} {w : World} {k sz : Nat} {es : List (List AV)} {y : Value} (p : Pre ρ S env h a w) (hkk : h[k]? = some (.lit es sz)) (h0 : es ≠ []) (hy : R S w (.sl k 0 es.length sz) ρ y) :
    ∃ b ys, y = .slice (some ⟨b, 0, none⟩) es.length es.length ∧ lies w b 0 ys ∧ ys.length = es.length * sz ∧ RL S w es.flatten ρ ys ∧ (∀ e, e ∈ es → e.length = sz) ∧ 0 < sz := by
  have hB := p.blk k _ hkk
  simp only [RB] at hB
  obtain ⟨hes, hs0, b, ys, h1, ⟨c, e, h2, h3, h4⟩, h5⟩ := hB
  simp only [R] at hy
  obtain ⟨a1, cap, rfl, hc, hy⟩ := hy
  have hl0 : 0 < es.length := List.length_pos_iff.2 h0
  rcases hy with ⟨h6, _⟩ | ⟨b', o', h6, rfl, h7, c', e', fz', h8, h9⟩
  · omega
  · rw [h1] at h6
    cases h6
    rw [h2] at h8
    cases h8
    have hcap : cap = es.length := by
      rw [h3] at h9
      simp only [Nat.zero_add] at h9
      have := Nat.le_of_mul_le_mul_right h9 hs0
      omega
    subst hcap
    exact ⟨b, ys, by simp, ⟨c, e, _, h2, h4⟩, by rw [RL_length h5, length_flatten_of hes], h5, hes, hs0⟩
/-- 'append' to a literal. -/
theorem fs_appendLit (T : Tab P) {t e k len sz : Nat} {i : TI} {x y : Operand} {v : AV} {es news : List (List AV)} (hx : evu env x = some (.sl k 0 len sz)) (hy : evu env y = some v) (ht : T.elem t = some e) (he : T.ti e = some i) (hs : i.size = sz)
    (hkk : h[k]? = some (.lit es sz)) (hlen : len = es.length) (h0 : es ≠ []) (hnw : news ≠ []) (hn : Elems h v news sz) (hb : (len + news.length) * i.bytes ≤ 140737488355328) (h63 : len + news.length ≤ 9223372036854775807) :
    FStep P ⟨d, .call { callee := .builtin .append, args := #[x, y], argTypes := #[t, t] }, ty, pos, af, g⟩ env h 1 (fun p => .sl p 0 (len + news.length) sz) (fun _ => [.arr (es ++ news) sz]) := by
  subst hlen
  refine fs_new fun ρ S a w p => ?_
  obtain ⟨b, ys, x1, x7, x5, x6, hes, hs0⟩ := lit_val p hkk h0 (p.evu hx)
  obtain ⟨a2, c2, zs, y1, y2, y3, y4, y5, y6, y7⟩ := elems_val p.blk (p.evu hy) hn
  obtain ⟨inf, z, t1, t2, t3, t4, t5, t6, t7⟩ := T.tiOk e i he
  have hnl : ∀ q, q ∈ news → q.length = sz := by
    cases hn with
    | sl hk2 _ =>
      have := p.blk _ _ hk2
      simp only [RB] at this
      exact fun q hq => this.1 q (List.mem_of_mem_drop (List.mem_of_mem_take hq))
    | row h => exact h
    | nil => exact fun q hq => by cases hq
  have hn0 : 0 < news.length := List.length_pos_iff.2 hnw
  have hr := run_append_new (P := P) (w := w) (t := t) (ty := ty) (c2 := c2) (a := some ⟨b, 0, none⟩) (len := es.length) (cap := es.length) (m := news.length) (T.elemOk _ _ ht) t1 t4 (by rw [t2, hs]; exact x5) (.inr ⟨b, 0, rfl, x7⟩) (by rw [t2, hs]; exact y5) y7 (by omega) (by rw [t3]; exact hb) h63
  have hgc := grownCap_ge w (es.length + news.length) es.length e
  have hgm := grownCap_le_maxLen w (es.length + news.length) es.length e (by simp only [maxLen]; omega)
  have hzs : z.cells.size = sz := by rw [← hs, ← t6, ← t5]; simp
  obtain ⟨g1, g2⟩ := grown_cells hzs x5 y5 hgc
  refine ⟨(ys.toArray ++ zs.toArray ++ Builtin.zeroCells z.cells (grownCap w (es.length + news.length) es.length e - (es.length + news.length))), e, .slice (some ⟨w.heap.size, 0, none⟩) (es.length + news.length) (grownCap w (es.length + news.length) es.length e), true, ?_, fun pos hpos w' hw' lt => ⟨?_, ?_⟩⟩
  · rw [← x1, ← y1] at hr
    simp [execOp, resolve, invoke, builtin, hr]
  · simp only [R]
    exact ⟨_, _, rfl, hgm, .inr ⟨w.heap.size, 0, by simp [Pl.with], by simp, hgc, _, e, _, hw', by rw [Nat.zero_add, Nat.zero_add]; exact g1⟩⟩
  · simp only [RB]
    refine ⟨fun q hq => ?_, hs0, .inr ⟨w.heap.size, 0, ys ++ zs, rfl, ⟨_, e, hw', fun j u hj => by rw [Nat.zero_add]; exact g2 j u hj⟩, ?_⟩⟩
    · rcases List.mem_append.1 hq with hq | hq
      · exact hes q hq
      · exact hnl q hq
    · rw [List.flatten_append]
      exact RL_append (x6.later lt) (y6.later lt)
/-- Nothing is appended. -/
theorem fs_appendLit0 (T : Tab P) {t e k len sz : Nat} {i : TI} {x y : Operand} {v : AV} {es : List (List AV)} (hx : evu env x = some (.sl k 0 len sz)) (hy : evu env y = some v) (ht : T.elem t = some e) (he : T.ti e = some i) (hs : i.size = sz)
    (hkk : h[k]? = some (.lit es sz)) (hlen : len = es.length) (h0 : es ≠ []) (hn : Elems h v [] sz) :
    FStep P ⟨d, .call { callee := .builtin .append, args := #[x, y], argTypes := #[t, t] }, ty, pos, af, g⟩ env h 0 (fun _ => .sl k 0 len sz) (fun _ => []) := by
  subst hlen
  refine fs_val fun ρ S a w p => ?_
  obtain ⟨b, ys, x1, x7, x5, x6, hes, hs0⟩ := lit_val p hkk h0 (p.evu hx)
  obtain ⟨a2, c2, zs, y1, y2, y3, y4, y5, y6, y7⟩ := elems_val p.blk (p.evu hy) hn
  obtain ⟨inf, z, t1, t2, t3, t4, t5, t6, t7⟩ := T.tiOk e i he
  have hr := run_append_same (P := P) (w := w) (t := t) (ty := ty) (a2 := a2) (c2 := c2) (T.elemOk _ _ ht) t1 (a := some ⟨b, 0, none⟩) (Nat.le_refl es.length)
  refine ⟨_, ?_, p.evu hx⟩
  have y1' : a.eval y = .slice a2 0 c2 := y1
  rw [← y1', ← x1] at hr
  simp [execOp, resolve, invoke, builtin, hr]
/-- A literal's slice that nobody writes any more. -/
theorem vc_litArr {n : Nat × Nat} {ops : Array Oper} {rest : List Oper} {K : Env → Hp → Prop} (k : Nat) {sz : Nat} {es : List (List AV)} (hk : h[k]? = some (.lit es sz)) (hv : VC P n ops rest env (h.set k (.arr es sz)) K) : VC P n ops rest env h K := by
  intro c ρ S a w Q s hQ
  refine hv c ρ S a w Q ⟨s.size, s.defers, s.env, s.hs.alter hk (fun hb => ?_) (by simp), s.cm⟩ hQ
  simp only [RB] at hb ⊢
  obtain ⟨h0, h00, b, ys, h1, ⟨c, e, h2, _, h3⟩, h4⟩ := hb
  exact ⟨h0, h00, .inr ⟨b, 0, ys, h1, ⟨c, e, h2, h3⟩, h4⟩⟩
end
end Go.Ab
