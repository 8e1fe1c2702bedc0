/-
  A logic of values for the walk, texts 25, 26, 27, 28.
-/
import Derived.Test.YtgnnbmgljadokaaGreatDoorAb24
import Derived.RangeFuncSeq

/-! A logic of values for the walk, twenty-fifth part: iterators: code that calls yield, beside what the loop that ranges over it keeps. -/
namespace Go.Ab
open Go
set_option linter.unusedVariables false
set_option linter.unusedSimpArgs false

/-! ### A heap in another world, under other promises -/
theorem RB_S {S S' : Nat → Prop} {w : World} {ρ : Pl} {p : Option (Nat × Nat)} {x : AB} (hS : ∀ b, S b → S' b) (h : RB S w ρ p x) : RB S' w ρ p x :=
  RB_cells (fun b _ _ hb _ => hS b hb) (fun _ _ _ h => h) h
theorem HS.re {c : Ctx} {ρ : Pl} {S : Nat → Prop} {h : Hp} {w : World} (s : HS c ρ S h w) (c' : Ctx) (hM : ∀ (k : Nat) x p, h[k]? = some x → x ≠ .gone → ρ k = some p → c'.M p.1) (hext : Ext c'.M c'.w0 w) (h0 : ∀ b, c'.S0 b → S b) (h1 : ∀ b, S b → c'.S0 b ∨ c'.M b) (hm : c'.m ≤ h.length) (hk : ∀ k, k < c'.m → ρ k = c'.ρ0 k) : HS c' ρ S h w :=
  ⟨s.dom, s.rng, s.blk, fun k b p hb hg hp => ⟨hM k b p hb hg hp, (s.live k b p hb hg hp).2⟩, s.inj, s.stab, hext, h0, h1, hm, hk, s.glob⟩
theorem HS.world {c : Ctx} {ρ : Pl} {S N : Nat → Prop} {h : Hp} {w w' : World} (s : HS c ρ S h w) (x : Ext N w w') (hS : ∀ b, S b → ¬ N b) (hl : ∀ (k : Nat) y p, h[k]? = some y → y ≠ .gone → ρ k = some p → ¬ N p.1) (hM : ∀ b, b < c.w0.heap.size → N b → c.M b) : HS c ρ S h w' ∧ Later ρ ρ S S w w' := by
  have l : Later ρ ρ S S w w' := ⟨fun _ _ h => h, fun _ h => h, fun b hb => x.same b (s.stab b hb) (hS b hb), fun _ _ _ _ _ hr => x.room hr⟩
  refine ⟨⟨s.dom, fun k p hp => Nat.lt_of_lt_of_le (s.rng k p hp) x.size, fun k b hb => ?_, s.live, s.inj, fun b hb => Nat.lt_of_lt_of_le (s.stab b hb) x.size, s.ext.trans x (fun b hb hlt => hM b hlt hb), s.st0, s.st1, s.mle, s.keep, s.glob.later l⟩, l⟩
  by_cases hg : b = .gone
  · subst hg; trivial
  · exact RB.later l (fun b' o hp => x.same b' (s.rng k _ hp) (hl k b _ hb hg hp)) (s.blk k b hb)
theorem HS.more {c : Ctx} {ρ : Pl} {S S' : Nat → Prop} {h : Hp} {w : World} (s : HS c ρ S h w) (hS : ∀ b, S b → S' b) (hlt : ∀ b, S' b → b < w.heap.size) (hl : ∀ (k : Nat) y p, h[k]? = some y → y ≠ .gone → ρ k = some p → ¬ S' p.1) (h1 : ∀ b, S' b → c.S0 b ∨ c.M b) : HS c ρ S' h w :=
  ⟨s.dom, s.rng, fun k b hb => RB_S hS (s.blk k b hb), fun k b p hb hg hp => ⟨(s.live k b p hb hg hp).1, hl k b p hb hg hp⟩, s.inj, hlt, s.ext, fun b hb => hS b (s.st0 b hb), h1, s.mle, s.keep, s.glob.st hS⟩
theorem ext_put {w : World} {l : Nat} {o o' : Obj} (hl : w.heap[l]? = some o) (hn : ∀ c e fz, o ≠ .cells c e fz) : Ext (fun b => b = l) w (w.putObj l o') :=
  ⟨rfl, rfl, rfl, by rw [World.putObj_size]; exact Nat.le_refl _, fun b _ hb => put_other hb, fun b c e fz hc => ⟨c, fz, by
    have : b ≠ l := fun e' => by rw [e', hl] at hc; cases hc; exact hn _ _ _ rfl
    rw [put_other this]; exact hc, rfl⟩⟩
theorem HS.put {c : Ctx} {ρ : Pl} {S : Nat → Prop} {h : Hp} {w : World} {l : Nat} {o : Obj} (s : HS c ρ S h w) (hl : w.heap[l]? = some o) (hn : ∀ c e fz, o ≠ .cells c e fz) (hm : walkO o = false) (o' : Obj) (hM : l < c.w0.heap.size → c.M l) (h0 : ¬ c.S0 l) :
    HS c ρ (fun b => S b ∧ b ≠ l) h (w.putObj l o') ∧ ∀ x y, R S w x ρ y → R (fun b => S b ∧ b ≠ l) (w.putObj l o') x ρ y := by
  have hmm : ∀ (b : Nat) q, dataO q = true → w.heap[b]? = some q → b ≠ l := fun b q hq hb e' => by
    rw [e', hl] at hb; cases hb
    cases o <;> first | (cases hq; done) | exact hn _ _ _ rfl | (rw [walkO] at hm; cases hm)
  have a1 : ∀ (b : Nat) q, dataO q = true → S b → w.heap[b]? = some q → S b ∧ b ≠ l := fun b q hq h1 h2 => ⟨h1, hmm b q hq h2⟩
  have a2 : ∀ (b : Nat) q, dataO q = true → w.heap[b]? = some q → (w.putObj l o').heap[b]? = some q := fun b q hq h2 => by rw [put_other (hmm b q hq h2)]; exact h2
  refine ⟨⟨s.dom, fun k p hp => by rw [World.putObj_size]; exact s.rng k p hp, fun k b hb => RB_cells a1 a2 (s.blk k b hb), fun k b p hb hg hp => ⟨(s.live k b p hb hg hp).1, fun h => (s.live k b p hb hg hp).2 h.1⟩, s.inj, fun b hb => by rw [World.putObj_size]; exact s.stab b hb.1, s.ext.trans (ext_put hl hn) (fun b hb hlt => by subst hb; exact hM hlt), fun b hb => ⟨s.st0 b hb, fun e => h0 (e ▸ hb)⟩, fun b hb => s.st1 b hb.1, s.mle, s.keep, s.glob.cells a1 a2⟩, fun x y hx => R_cells a1 a2 x ρ y hx⟩

/-! ### What the loop keeps -/
abbrev JT := Nat × Bool → (Nat → Prop) → (Nat → Prop) → World → Prop
structure JOk (J : JT) : Prop where
  st : ∀ {g W N w w'}, J g W N w → Ext (fun b => ¬ N b) w w' → J g W N w'
  sub : ∀ {g W N w}, J g W N w → ∀ b, W b → N b
  lt : ∀ {g W N w}, J g W N w → ∀ b, N b → b < w.heap.size
structure JS1 (J : JT) (A : Nat → Prop) (g : Nat × Bool) (c : Ctx) (ρ : Pl) (S : Nat → Prop) (h : Hp) (w : World) (W N : Nat → Prop) : Prop where
  j : J g W N w
  live : ∀ (k : Nat) x p, h[k]? = some x → x ≠ .gone → ρ k = some p → ¬ N p.1
  st : ∀ b, S b → ¬ W b
  cell : ∀ b, S b → c.lo ≤ b → N b → isData w b
  wm : ∀ b, W b → c.M b
  accS : ∀ b, S b → A b
  accM : ∀ b, c.M b → A b
  nn : ∀ b, N b → c.nb b ∨ c.S0 b ∨ c.M b
def JS (J : JT) (A : Nat → Prop) (g : Nat × Bool) (c : Ctx) (ρ : Pl) (S : Nat → Prop) (h : Hp) (w : World) : Prop := ∃ W N, JS1 J A g c ρ S h w W N

def Ctx.re (c : Ctx) (w : World) (S N : Nat → Prop) (hn : ∀ b, N b → b < w.heap.size) (hs : c.w0.heap.size ≤ w.heap.size) : Ctx where
  w0 := w
  M := fun b => c.M b ∧ ¬ N b
  new := fun b hb => ⟨c.new b (Nat.le_trans hs hb), fun h => by have := hn b h; omega⟩
  S0 := S
  ρ0 := c.ρ0
  m := c.m
  lo := c.lo
  lole := Nat.le_trans c.lole hs
  r := c.r
  nb := c.nb
section
variable {P : Program} {J : JT} {A : Nat → Prop} {g : Nat × Bool} {n : Nat × Nat} {c : Ctx} {ρ : Pl} {S W N : Nat → Prop} {env : Env} {h : Hp} {a : Act} {w : World}
theorem Sim.re (s : Sim n c ρ S env h a w) (j : JS1 J A g c ρ S h w W N) (hn : ∀ b, N b → b < w.heap.size) (hs : c.w0.heap.size ≤ w.heap.size) : Sim n (c.re w S N hn hs) ρ S env h a w :=
  ⟨s.size, s.defers, s.env, s.hs.re _ (fun k x p hx hg hp => ⟨(s.hs.live k x p hx hg hp).1, j.live k x p hx hg hp⟩) (Ext.refl _ _) (fun _ h => h) (fun _ h => .inl h) s.hs.mle s.hs.keep, s.cm⟩
theorem Sim.un {ρ' : Pl} {S' : Nat → Prop} {env' : Env} {h' : Hp} {a' : Act} {w' : World} (hJ : JOk J) (s : Sim n c ρ S env h a w) (j : JS1 J A g c ρ S h w W N) (hn : ∀ b, N b → b < w.heap.size) (hs : c.w0.heap.size ≤ w.heap.size) (s' : Sim n (c.re w S N hn hs) ρ' S' env' h' a' w') :
    Sim n c ρ' S' env' h' a' w' ∧ JS1 J A g c ρ' S' h' w' W N := by
  have hx : Ext (fun b => c.M b ∧ ¬ N b) w w' := s'.hs.ext
  have hl : ∀ (k : Nat) x p, h'[k]? = some x → x ≠ .gone → ρ' k = some p → c.M p.1 ∧ ¬ N p.1 := fun k x p a1 a2 a3 => (s'.hs.live k x p a1 a2 a3).1
  have hst : ∀ b, S' b → S b ∨ (c.M b ∧ ¬ N b) := fun b hb => s'.hs.st1 b hb
  refine ⟨⟨s'.size, s'.defers, s'.env, s'.hs.re c (fun k x p a1 a2 a3 => (hl k x p a1 a2 a3).1) (s.hs.ext.trans hx fun b hb _ => hb.1) (fun b hb => s'.hs.st0 b (s.hs.st0 b hb)) (fun b hb => (hst b hb).elim (s.hs.st1 b) fun h => .inr h.1) s'.hs.mle s'.hs.keep, s'.cm⟩, ?_⟩
  refine ⟨hJ.st j.j (hx.mono fun b _ hb => hb.2), fun k x p a1 a2 a3 => (hl k x p a1 a2 a3).2, fun b hb hw => ?_, fun b hb h1 h2 => ?_, j.wm, fun b hb => (hst b hb).elim (j.accS b) fun h => j.accM b h.1, j.accM, j.nn⟩
  · rcases hst b hb with h1 | h1
    · exact j.st b h1 hw
    · exact h1.2 (hJ.sub j.j b hw)
  · rcases hst b hb with h3 | h3
    · obtain ⟨cc, e, h4⟩ := j.cell b h3 h1 h2
      exact ⟨cc, e, by rw [hx.same b (hn b h2) fun h => h.2 h2]; exact h4⟩
    · exact absurd h2 h3.2
theorem JS.sub {L : List Nat} {h' : Hp} (s : HS c ρ S h w) (hl : L.length = h'.length) (hh : SubH (th L h.length) h 0 h') (j : JS J A g c ρ S h w) : JS J A g c (fun k => ρ (th L h.length k)) S h' w := by
  obtain ⟨W, N, j⟩ := j
  refine ⟨W, N, j.j, fun k x p hx hg hp => ?_, j.st, j.cell, j.wm, j.accS, j.accM, j.nn⟩
  have h1 := hh.get k x hx
  rw [Nat.zero_add] at h1
  exact j.live _ _ p (h1.resolve_left hg) (by cases x <;> simp [AB.map] at *) hp
end

section
variable {P : Program} {J : JT} {A : Nat → Prop} {n : Nat × Nat} {g : Nat × Bool} {env : Env} {h : Hp} {Q : Nat × Bool → Exit → Env → Hp → Prop}
end

theorem op_monoQ {F : Fence} {m : Nat} {P : Program} {o : Oper} {a : Act} {w : World} {K : Act → World → Prop} {Q Q' : Exit → Act → World → Prop} (hq : ∀ e a w, Q e a w → e = .normal) (h : o.wpIn F m P a w K Q) : o.wpIn F m P a w K Q' := by
  refine ⟨h.1, ?_⟩
  have h := h.2
  have hp : ∀ {ch a w} {p : Prop}, Q (.panic ch) a w → p := fun hh => by have := hq _ _ _ hh; cases this
  have ho : ∀ {p : Prop}, LetsOut Q → p := fun ⟨_, _, hh⟩ => by have := hq _ _ _ hh; cases this
  generalize (o.semAt F.round a.eval).run P w = r at h ⊢
  cases r with
  | ok x w' =>
    cases x <;> simp only [Oper.uponIn] at h ⊢ <;>
      first
        | exact h
        | exact ⟨h.1, h.2.mono (fun e w'' he => by cases e <;> first | exact he | exact hp he | exact ho he)⟩
  | halt x w' => cases x <;> simp only [Oper.uponIn] at h ⊢ <;> first | exact h | exact hp h
section
variable {P : Program} {J : JT} {A : Nat → Prop} {n : Nat × Nat} {g : Nat × Bool} {ops : Array Oper} {env : Env} {h : Hp} {K : Nat × Bool → Env → Hp → Prop}
end
end Go.Ab

/-! A logic of values for the walk, twenty-sixth part: an iterator's contract, and a loop over it. -/
namespace Go.Ab
open Go
set_option linter.unusedVariables false
set_option linter.unusedSimpArgs false

/-! ### The iterator -/
/-! ### Values that name the first m objects only -/
mutual
def AV.low (m : Nat) : AV → Bool
  | .v _ | .any | .row .. | .mrow .. | .pr .. => true
  | .ptr k _ | .ep k _ _ _ | .sl k _ _ _ | .mp k => Nat.blt k m
  | .agg cs | .tup cs => AV.lowL m cs
  | .clo _ cs ds => AV.lowL m cs && AV.lowL m ds
  | .cond _ x => AV.low m x
  | .ifc _ x => AV.low m x
def AV.lowL (m : Nat) : List AV → Bool
  | [] => true
  | x :: xs => AV.low m x && AV.lowL m xs
end
theorem blt_lt {k m : Nat} (h : Nat.blt k m = true) : k < m := Nat.le_of_ble_eq_true h
mutual
theorem R_low {S : Nat → Prop} {w : World} {ρ ρ' : Pl} {m : Nat} (hρ : ∀ k, k < m → ρ' k = ρ k) : ∀ (x : AV) (y : Value), x.low m = true → R S w x ρ y → R S w x ρ' y
  | .v x, y, _, h => by simpa only [R] using h
  | .any, _, _, _ => by simp [R]
  | .pr cs off, y, _, h => by simpa only [R] using h
  | .row cs len sz, y, _, h => by simpa only [R] using h
  | .mrow ks vs, y, _, h => by simpa only [R] using h
  | .ptr k off, y, hi, h => by
    simp only [R, AV.low] at *
    rw [hρ k (blt_lt hi)]; exact h
  | .ep k i off sz, y, hi, h => by
    simp only [R, AV.low] at *
    rw [hρ k (blt_lt hi)]; exact h
  | .sl k off len sz, y, hi, h => by
    simp only [R, AV.low] at *
    rw [hρ k (blt_lt hi)]; exact h
  | .mp k, y, hi, h => by
    simp only [R, AV.low] at *
    rw [hρ k (blt_lt hi)]; exact h
  | .agg cs, y, hi, h => by
    simp only [R, AV.low] at *
    obtain ⟨ys, h1, h2⟩ := h
    exact ⟨ys, h1, RL_low hρ cs _ hi h2⟩
  | .tup cs, y, hi, h => by
    simp only [R, AV.low] at *
    obtain ⟨ys, h1, h2⟩ := h
    exact ⟨ys, h1, RL_low hρ cs _ hi h2⟩
  | .clo f cs ds, y, hi, h => by
    simp only [R, AV.low, Bool.and_eq_true] at *
    obtain ⟨ys, zs, h1, h2, h3⟩ := h
    exact ⟨ys, zs, h1, RL_low hρ cs _ hi.1 h2, RL_low hρ ds _ hi.2 h3⟩
  | .cond b x, y, hi, h => by
    simp only [R, AV.low] at *
    exact fun hb => R_low hρ x y hi (h hb)
  | .ifc t x, y, hi, h => by
    simp only [R, AV.low] at *
    obtain ⟨z, h1, h2⟩ := h
    exact ⟨z, h1, R_low hρ x z hi h2⟩
theorem RL_low {S : Nat → Prop} {w : World} {ρ ρ' : Pl} {m : Nat} (hρ : ∀ k, k < m → ρ' k = ρ k) : ∀ (xs : List AV) (ys : List Value), AV.lowL m xs = true → RL S w xs ρ ys → RL S w xs ρ' ys
  | [], ys, _, h => by simpa only [RL] using h
  | x :: xs, ys, hi, h => by
    simp only [RL, AV.lowL, Bool.and_eq_true] at *
    obtain ⟨y, zs, h1, h2, h3⟩ := h
    exact ⟨y, zs, h1, R_low hρ x y hi.1 h2, RL_low hρ xs zs hi.2 h3⟩
end
end Go.Ab

/-! A logic of values for the walk, twenty-seventh part: a loop over an iterator. -/
namespace Go.Ab
open Go
set_option linter.unusedVariables false
set_option linter.unusedSimpArgs false

section
variable {cA : Ctx} {l : Nat} {rec0 : Loop} {E : Env} {HA : Nat → Hp} {Q : Exit → Env → Hp → Prop}
end
end Go.Ab

/-! A logic of values for the walk, twenty-eighth part: the statement 'for .. := range f'. -/
namespace Go.Ab
open Go
set_option linter.unusedVariables false
set_option linter.unusedSimpArgs false

theorem SubH.live {θ : Nat → Nat} {h h' : Hp} {ρ : Pl} (hs : SubH θ h 0 h') {k : Nat} {x : AB} {p : Nat × Nat} (hx : h'[k]? = some x) (hg : x ≠ .gone) (hp : ρ (θ k) = some p) : ∃ y, h[θ k]? = some y ∧ y ≠ .gone := by
  have := hs.get k x hx
  rw [Nat.zero_add] at this
  exact ⟨_, this.resolve_left hg, by cases x <;> simp [AB.map] at *⟩
end Go.Ab
