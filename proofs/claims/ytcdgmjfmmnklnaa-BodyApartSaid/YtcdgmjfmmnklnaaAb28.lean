/-
  A logic of values for the walk, texts 25, 26, 27, 28.
-/
import Derived.Test.YtcdgmjfmmnklnaaAb24
import Derived.RangeFuncSeq

/-! A logic of values for the walk, twenty-fifth part: iterators: code that calls yield, beside what the loop that ranges over it keeps. -/
namespace Go.Ab
open Go
set_option linter.unusedVariables false
set_option linter.unusedSimpArgs false

/-! ### A heap in another world, under other promises -/
theorem R_S {S S' : Nat → Prop} {w : World} {ρ : Pl} {x : AV} {y : Value} (hS : ∀ b, S b → S' b) (h : R S w x ρ y) : R S' w x ρ y :=
  R_later hS (fun _ _ => rfl) x ρ ρ y (fun _ _ h => h) (fun _ _ _ _ _ h => h) h
theorem RB_S {S S' : Nat → Prop} {w : World} {ρ : Pl} {p : Option (Nat × Nat)} {x : AB} (hS : ∀ b, S b → S' b) (h : RB S w ρ p x) : RB S' w ρ p x :=
  RB_cells (fun b _ _ hb _ => hS b hb) (fun _ _ _ h => h) h
theorem HS.re {c : Ctx} {ρ : Pl} {S : Nat → Prop} {h : Hp} {w : World} (s : HS c ρ S h w) (c' : Ctx) (hM : ∀ (k : Nat) x p, h[k]? = some x → x ≠ .gone → ρ k = some p → c'.M p.1) (hext : Ext c'.M c'.w0 w) (h0 : ∀ b, c'.S0 b → S b) (h1 : ∀ b, S b → c'.S0 b ∨ c'.M b) (hm : c'.m ≤ h.length) (hk : ∀ k, k < c'.m → ρ k = c'.ρ0 k) : HS c' ρ S h w :=
  ⟨s.dom, s.rng, s.blk, fun k b p hb hg hp => ⟨hM k b p hb hg hp, (s.live k b p hb hg hp).2⟩, s.inj, s.stab, hext, h0, h1, hm, hk, s.glob⟩
theorem HS.world {c : Ctx} {ρ : Pl} {S N : Nat → Prop} {h : Hp} {w w' : World} (s : HS c ρ S h w) (x : Ext N w w') (hS : ∀ b, S b → ¬ N b) (hl : ∀ (k : Nat) y p, h[k]? = some y → y ≠ .gone → ρ k = some p → ¬ N p.1) (hM : ∀ b, b < c.w0.heap.size → N b → c.M b) : HS c ρ S h w' ∧ Later ρ ρ S S w w' := by
  have l : Later ρ ρ S S w w' := ⟨fun _ _ h => h, fun _ h => h, fun b hb => x.same b (s.stab b hb) (hS b hb), fun _ _ _ _ _ hr => x.room hr⟩
  refine ⟨⟨s.dom, fun k p hp => Nat.lt_of_lt_of_le (s.rng k p hp) x.size, fun k b hb => ?_, s.live, s.inj, fun b hb => Nat.lt_of_lt_of_le (s.stab b hb) x.size, s.ext.trans x (fun b hb hlt => hM b hlt hb), s.st0, s.st1, s.mle, s.keep, s.glob.later l⟩, l⟩
  by_cases hg : b = .gone
  · subst hg; trivial
  · exact RB.later l (fun b' o hp => x.same b' (s.rng k _ hp) (hl k b _ hb hg hp)) (s.blk k b hb)
theorem HS.more {c : Ctx} {ρ : Pl} {S S' : Nat → Prop} {h : Hp} {w : World} (s : HS c ρ S h w) (hS : ∀ b, S b → S' b) (hlt : ∀ b, S' b → b < w.heap.size) (hl : ∀ (k : Nat) y p, h[k]? = some y → y ≠ .gone → ρ k = some p → ¬ S' p.1) (h1 : ∀ b, S' b → c.S0 b ∨ c.M b) : HS c ρ S' h w :=
  ⟨s.dom, s.rng, fun k b hb => RB_S hS (s.blk k b hb), fun k b p hb hg hp => ⟨(s.live k b p hb hg hp).1, hl k b p hb hg hp⟩, s.inj, hlt, s.ext, fun b hb => hS b (s.st0 b hb), h1, s.mle, s.keep, s.glob.st hS⟩
theorem ext_put {w : World} {l : Nat} {o o' : Obj} (hl : w.heap[l]? = some o) (hn : ∀ c e fz, o ≠ .cells c e fz) : Ext (fun b => b = l) w (w.putObj l o') :=
  ⟨rfl, rfl, rfl, by rw [World.putObj_size]; exact Nat.le_refl _, fun b _ hb => put_other hb, fun b c e fz hc => ⟨c, fz, by
    have : b ≠ l := fun e' => by rw [e', hl] at hc; cases hc; exact hn _ _ _ rfl
    rw [put_other this]; exact hc, rfl⟩⟩
theorem HS.put {c : Ctx} {ρ : Pl} {S : Nat → Prop} {h : Hp} {w : World} {l : Nat} {o : Obj} (s : HS c ρ S h w) (hl : w.heap[l]? = some o) (hn : ∀ c e fz, o ≠ .cells c e fz) (hm : walkO o = false) (o' : Obj) (hM : l < c.w0.heap.size → c.M l) (h0 : ¬ c.S0 l) :
    HS c ρ (fun b => S b ∧ b ≠ l) h (w.putObj l o') ∧ ∀ x y, R S w x ρ y → R (fun b => S b ∧ b ≠ l) (w.putObj l o') x ρ y := by
  have hmm : ∀ (b : Nat) q, dataO q = true → w.heap[b]? = some q → b ≠ l := fun b q hq hb e' => by
    rw [e', hl] at hb; cases hb
    cases o <;> first | (cases hq; done) | exact hn _ _ _ rfl | (rw [walkO] at hm; cases hm)
  have a1 : ∀ (b : Nat) q, dataO q = true → S b → w.heap[b]? = some q → S b ∧ b ≠ l := fun b q hq h1 h2 => ⟨h1, hmm b q hq h2⟩
  have a2 : ∀ (b : Nat) q, dataO q = true → w.heap[b]? = some q → (w.putObj l o').heap[b]? = some q := fun b q hq h2 => by rw [put_other (hmm b q hq h2)]; exact h2
  refine ⟨⟨s.dom, fun k p hp => by rw [World.putObj_size]; exact s.rng k p hp, fun k b hb => RB_cells a1 a2 (s.blk k b hb), fun k b p hb hg hp => ⟨(s.live k b p hb hg hp).1, fun h => (s.live k b p hb hg hp).2 h.1⟩, s.inj, fun b hb => by rw [World.putObj_size]; exact s.stab b hb.1, s.ext.trans (ext_put hl hn) (fun b hb hlt => by subst hb; exact hM hlt), fun b hb => ⟨s.st0 b hb, fun e => h0 (e ▸ hb)⟩, fun b hb => s.st1 b hb.1, s.mle, s.keep, s.glob.cells a1 a2⟩, fun x y hx => R_cells a1 a2 x ρ y hx⟩

/-! ### What the loop keeps -/
abbrev JT := Nat × Bool → (Nat → Prop) → (Nat → Prop) → World → Prop
structure JOk (J : JT) : Prop where
  st : ∀ {g W N w w'}, J g W N w → Ext (fun b => ¬ N b) w w' → J g W N w'
  sub : ∀ {g W N w}, J g W N w → ∀ b, W b → N b
  lt : ∀ {g W N w}, J g W N w → ∀ b, N b → b < w.heap.size
structure JS1 (J : JT) (A : Nat → Prop) (g : Nat × Bool) (c : Ctx) (ρ : Pl) (S : Nat → Prop) (h : Hp) (w : World) (W N : Nat → Prop) : Prop where
  j : J g W N w
  live : ∀ (k : Nat) x p, h[k]? = some x → x ≠ .gone → ρ k = some p → ¬ N p.1
  st : ∀ b, S b → ¬ W b
  cell : ∀ b, S b → c.lo ≤ b → N b → isData w b
  wm : ∀ b, W b → c.M b
  accS : ∀ b, S b → A b
  accM : ∀ b, c.M b → A b
  nn : ∀ b, N b → c.nb b ∨ c.S0 b ∨ c.M b
def JS (J : JT) (A : Nat → Prop) (g : Nat × Bool) (c : Ctx) (ρ : Pl) (S : Nat → Prop) (h : Hp) (w : World) : Prop := ∃ W N, JS1 J A g c ρ S h w W N

def Ctx.re (c : Ctx) (w : World) (S N : Nat → Prop) (hn : ∀ b, N b → b < w.heap.size) (hs : c.w0.heap.size ≤ w.heap.size) : Ctx where
  w0 := w
  M := fun b => c.M b ∧ ¬ N b
  new := fun b hb => ⟨c.new b (Nat.le_trans hs hb), fun h => by have := hn b h; omega⟩
  S0 := S
  ρ0 := c.ρ0
  m := c.m
  lo := c.lo
  lole := Nat.le_trans c.lole hs
  r := c.r
  nb := c.nb
section
variable {P : Program} {J : JT} {A : Nat → Prop} {g : Nat × Bool} {n : Nat × Nat} {c : Ctx} {ρ : Pl} {S W N : Nat → Prop} {env : Env} {h : Hp} {a : Act} {w : World}
theorem Sim.re (s : Sim n c ρ S env h a w) (j : JS1 J A g c ρ S h w W N) (hn : ∀ b, N b → b < w.heap.size) (hs : c.w0.heap.size ≤ w.heap.size) : Sim n (c.re w S N hn hs) ρ S env h a w :=
  ⟨s.size, s.defers, s.env, s.hs.re _ (fun k x p hx hg hp => ⟨(s.hs.live k x p hx hg hp).1, j.live k x p hx hg hp⟩) (Ext.refl _ _) (fun _ h => h) (fun _ h => .inl h) s.hs.mle s.hs.keep, s.cm⟩
theorem Sim.un {ρ' : Pl} {S' : Nat → Prop} {env' : Env} {h' : Hp} {a' : Act} {w' : World} (hJ : JOk J) (s : Sim n c ρ S env h a w) (j : JS1 J A g c ρ S h w W N) (hn : ∀ b, N b → b < w.heap.size) (hs : c.w0.heap.size ≤ w.heap.size) (s' : Sim n (c.re w S N hn hs) ρ' S' env' h' a' w') :
    Sim n c ρ' S' env' h' a' w' ∧ JS1 J A g c ρ' S' h' w' W N := by
  have hx : Ext (fun b => c.M b ∧ ¬ N b) w w' := s'.hs.ext
  have hl : ∀ (k : Nat) x p, h'[k]? = some x → x ≠ .gone → ρ' k = some p → c.M p.1 ∧ ¬ N p.1 := fun k x p a1 a2 a3 => (s'.hs.live k x p a1 a2 a3).1
  have hst : ∀ b, S' b → S b ∨ (c.M b ∧ ¬ N b) := fun b hb => s'.hs.st1 b hb
  refine ⟨⟨s'.size, s'.defers, s'.env, s'.hs.re c (fun k x p a1 a2 a3 => (hl k x p a1 a2 a3).1) (s.hs.ext.trans hx fun b hb _ => hb.1) (fun b hb => s'.hs.st0 b (s.hs.st0 b hb)) (fun b hb => (hst b hb).elim (s.hs.st1 b) fun h => .inr h.1) s'.hs.mle s'.hs.keep, s'.cm⟩, ?_⟩
  refine ⟨hJ.st j.j (hx.mono fun b _ hb => hb.2), fun k x p a1 a2 a3 => (hl k x p a1 a2 a3).2, fun b hb hw => ?_, fun b hb h1 h2 => ?_, j.wm, fun b hb => (hst b hb).elim (j.accS b) fun h => j.accM b h.1, j.accM, j.nn⟩
  · rcases hst b hb with h1 | h1
    · exact j.st b h1 hw
    · exact h1.2 (hJ.sub j.j b hw)
  · rcases hst b hb with h3 | h3
    · obtain ⟨cc, e, h4⟩ := j.cell b h3 h1 h2
      exact ⟨cc, e, by rw [hx.same b (hn b h2) fun h => h.2 h2]; exact h4⟩
    · exact absurd h2 h3.2
theorem JS.sub {L : List Nat} {h' : Hp} (s : HS c ρ S h w) (hl : L.length = h'.length) (hh : SubH (th L h.length) h 0 h') (j : JS J A g c ρ S h w) : JS J A g c (fun k => ρ (th L h.length k)) S h' w := by
  obtain ⟨W, N, j⟩ := j
  refine ⟨W, N, j.j, fun k x p hx hg hp => ?_, j.st, j.cell, j.wm, j.accS, j.accM, j.nn⟩
  have h1 := hh.get k x hx
  rw [Nat.zero_add] at h1
  exact j.live _ _ p (h1.resolve_left hg) (by cases x <;> simp [AB.map] at *) hp
end

def JYield (P : Program) (l : Nat) (J : JT) (A : Nat → Prop) (items : Nat → List AV) (N : Nat) : Prop :=
  ∀ k, k < N → ∀ W Nn w S vs, J (k, false) W Nn w → (∀ b, S b → A b ∧ ¬ W b ∧ isData w b) → RL S w (items k) (fun _ => none) vs →
    YieldAt Fence.wide 0 P l vs.toArray w fun e w' => ∃ (b : Bool) (W' N' : Nat → Prop), e = .returned (.bool b) ∧ J (k + 1, !b) W' N' w' ∧ Ext W w w' ∧ (∀ x, W' x → W x ∨ w.heap.size ≤ x) ∧ (∀ x, N' x → Nn x ∨ S x ∨ w.heap.size ≤ x)

def AY (P : Program) (J : JT) (A : Nat → Prop) (n : Nat × Nat) (code : Code) (g : Nat × Bool) (env : Env) (h : Hp) (Q : Nat × Bool → Exit → Env → Hp → Prop) : Prop :=
  ∀ c ρ S a w QQ, Sim n c ρ S env h a w → JS J A g c ρ S h w → (∀ g' e env' h' ρ' S' a' w', Q g' e env' h' → Sim n c ρ' S' env' h' a' w' → JS J A g' c ρ' S' h' w' → QQ e a' w') → code.wpIn (rd c.r) 0 P QQ a w
def VY (P : Program) (J : JT) (A : Nat → Prop) (n : Nat × Nat) (ops : Array Oper) (rest : List Oper) (g : Nat × Bool) (env : Env) (h : Hp) (K : Nat × Bool → Env → Hp → Prop) : Prop :=
  ∀ c ρ S a w Q, Sim n c ρ S env h a w → JS J A g c ρ S h w → (∀ e a w, Q e a w → e = Exit.normal) → (∀ g' env' h' ρ' S' a' w', K g' env' h' → Sim n c ρ' S' env' h' a' w' → JS J A g' c ρ' S' h' w' → Q .normal a' w') → wpListIn (rd c.r) 0 P ops Q rest a w
def nextY (K : Nat × Bool → Env → Hp → Prop) (Q : Nat × Bool → Exit → Env → Hp → Prop) : Nat × Bool → Exit → Env → Hp → Prop
  | g, .normal, v, h => K g v h
  | g, e, v, h => Q g e v h
def blockY (id : Nat) (Q : Nat × Bool → Exit → Env → Hp → Prop) : Nat × Bool → Exit → Env → Hp → Prop
  | g, .exit id', v, h => if id' = id then Q g .normal v h else Q g (.exit id') v h
  | g, e, v, h => Q g e v h

section
variable {P : Program} {J : JT} {A : Nat → Prop} {n : Nat × Nat} {g : Nat × Bool} {env : Env} {h : Hp} {Q : Nat × Bool → Exit → Env → Hp → Prop}
theorem ay_aw {code : Code} (hJ : JOk J) (hv : AW P n code env h (fun e v h => Q g e v h)) : AY P J A n code g env h Q := by
  intro c ρ S a w QQ s ⟨W, N, j⟩ hQ
  have hn := hJ.lt j.j
  refine hv (c.re w S N hn s.hs.ext.size) ρ S a w QQ (s.re j hn s.hs.ext.size) fun e env' h' ρ' S' a' w' hq s' => ?_
  obtain ⟨h1, h2⟩ := s.un hJ j hn s.hs.ext.size s'
  exact hQ g e env' h' ρ' S' a' w' hq h1 ⟨W, N, h2⟩
theorem ay_seq {x y : Code} (hx : AY P J A n x g env h (nextY (fun g v h => AY P J A n y g v h Q) Q)) : AY P J A n (.seq x y) g env h Q := by
  intro c ρ S a w QQ s j hQ
  refine wpIn_seq (hx c ρ S a w _ s j fun g' e env' h' ρ' S' a' w' k s' j' => ?_)
  cases e with
  | normal => exact k c ρ' S' a' w' QQ s' j' hQ
  | _ => exact hQ g' _ env' h' ρ' S' a' w' k s' j'
theorem ay_skip (hk : Q g .normal env h) : AY P J A n .skip g env h Q := fun _ _ _ _ _ _ s j hQ => wpIn_skip (hQ _ _ _ _ _ _ _ _ hk s j)
theorem ay_exit {id : Nat} (hk : Q g (.exit id) env h) : AY P J A n (.exit id) g env h Q := fun _ _ _ _ _ _ s j hQ => wpIn_exit (hQ _ _ _ _ _ _ _ _ hk s j)
theorem ay_ret (hk : Q g .ret env h) : AY P J A n .ret g env h Q := fun _ _ _ _ _ _ s j hQ => wpIn_ret (hQ _ _ _ _ _ _ _ _ hk s j)
theorem ay_block {id : Nat} {x : Code} (hx : AY P J A n x g env h (blockY id Q)) : AY P J A n (.block id x) g env h Q := by
  intro c ρ S a w QQ s j hQ
  refine wpIn_block (hx c ρ S a w _ s j fun g' e env' h' ρ' S' a' w' k s' j' => ?_)
  cases e with
  | exit id' =>
    by_cases hid : id' = id
    · simp only [blockY, hid, if_true] at k
      simp only [Exit.inBlock, hid, if_true]
      exact hQ g' _ env' h' ρ' S' a' w' k s' j'
    · simp only [blockY, hid, if_false] at k
      simp only [Exit.inBlock, hid, if_false]
      exact hQ g' _ env' h' ρ' S' a' w' k s' j'
  | _ => exact hQ g' _ env' h' ρ' S' a' w' k s' j'
theorem ay_cond {x : Operand} {b : Bool} {p q : Code} (hx : ev env x = some (.b b)) (ht : b = true → AY P J A n p g env h Q) (hf : b = false → AY P J A n q g env h Q) : AY P J A n (.cond x p q) g env h Q := by
  intro c ρ S a w QQ s j hQ
  have hb := s.ev hx
  simp only [R] at hb
  exact wpIn_cond_split hb (fun h1 => ht h1 c ρ S a w QQ s j hQ) (fun h1 => hf h1 c ρ S a w QQ s j hQ)
theorem ay_condt {x : Operand} {p q : Code} (hx : ev env x = some (.b true)) (ht : AY P J A n p g env h Q) : AY P J A n (.cond x p q) g env h Q :=
  ay_cond hx (fun _ => ht) (fun e => by cases e)
theorem ay_condf {x : Operand} {p q : Code} (hx : ev env x = some (.b false)) (hf : AY P J A n q g env h Q) : AY P J A n (.cond x p q) g env h Q :=
  ay_cond hx (fun e => by cases e) (fun _ => hf)
theorem ay_sub {code : Code} {env' : Env} {h' : Hp} (hs : Sub n.2 env h env' h') (hk : AY P J A n code g env' h' Q) : AY P J A n code g env h Q := by
  intro c ρ S a w QQ s j hQ
  obtain ⟨L, h1, h2, h3, h4, h5⟩ := hs
  exact hk c _ S a w QQ ⟨s.size, s.defers, fun t x hx => R_map _ ρ _ _ (s.env t _ (h2.look t x hx)), s.hs.sub h1 h3 h4 (fun i hi => h5 i (s.cm ▸ hi)), s.cm⟩ (JS.sub s.hs h1 h3 j) hQ
theorem ay_loop {body : Code} {X : Type} (E : X → Env) (H : X → Hp) (G : X → Nat × Bool) (μ : X → Nat) (x0 : X) (hg : g = G x0) (h0 : Sub n.2 env h (E x0) (H x0))
    (round : ∀ x, AY P J A n body (G x) (E x) (H x) (nextY (fun g v h => ∃ x', μ x' < μ x ∧ g = G x' ∧ Sub n.2 v h (E x') (H x')) Q)) : AY P J A n (.loop body) g env h Q := by
  subst hg
  refine ay_sub h0 ?_
  intro c ρ S a w QQ s0 j0 hQ b k cs hro hb hr
  have key : ∀ m x, μ x = m → ∀ ρ S a w, Sim n c ρ S (E x) (H x) a w → JS J A (G x) c ρ S (H x) w → ∃ e a' w', QQ e a' w' ∧ ArrivesIn (Machine.fenced P (rd c.r)) P (lone (b.atR a (.code body :: .inLoop body :: k)) cs w) b k cs e a' w' := by
    intro m
    induction m using Nat.strongRecOn with
    | _ m ih =>
      intro x hx ρ S a w s j
      obtain ⟨e, a₁, w₁, hq, harr⟩ := round x c ρ S a w (fun e a' w' => ∃ g' env' h' ρ' S', nextY (fun g v h => ∃ x', μ x' < μ x ∧ g = G x' ∧ Sub n.2 v h (E x') (H x')) Q g' e env' h' ∧ Sim n c ρ' S' env' h' a' w' ∧ JS J A g' c ρ' S' h' w') s j (fun g' e env' h' ρ' S' a' w' hq s' j' => ⟨g', env', h', ρ', S', hq, s', j'⟩) b (.inLoop body :: k) cs hro hb hr
      obtain ⟨g', env', h', ρ', S', hq, s', j'⟩ := hq
      cases e with
      | normal =>
        obtain ⟨x', hlt, rfl, L, h1, h2, h3, h4, h5⟩ := hq
        have s2 : Sim n c (fun k => ρ' (th L h'.length k)) S' (E x') (H x') a₁ w₁ := ⟨s'.size, s'.defers, fun t x hx => R_map _ ρ' _ _ (s'.env t _ (h2.look t x hx)), s'.hs.sub h1 h3 h4 (fun i hi => h5 i (s'.cm ▸ hi)), s'.cm⟩
        obtain ⟨e₂, a₂, w₂, hq₂, harr₂⟩ := ih (μ x') (hx ▸ hlt) x' rfl _ S' a₁ w₁ s2 (JS.sub s'.hs h1 h3 j')
        exact ⟨e₂, a₂, w₂, hq₂, .of_steps (StepsIn.trans harr (.one (fenced_calm hb hr rfl) stepR_inLoop)) harr₂⟩
      | exit id => exact ⟨_, a₁, w₁, hQ _ _ env' h' ρ' S' a₁ w₁ hq s' j', .pass (x := .inLoop body) rfl (fun _ _ => .inl (by simp)) harr⟩
      | goto l => exact ⟨_, a₁, w₁, hQ _ _ env' h' ρ' S' a₁ w₁ hq s' j', .pass (x := .inLoop body) rfl (fun _ _ => .inl (by simp)) harr⟩
      | ret => exact ⟨_, a₁, w₁, hQ _ _ env' h' ρ' S' a₁ w₁ hq s' j', .pass (x := .inLoop body) rfl (fun _ _ => .inl (by simp)) harr⟩
      | panic ch => exact ⟨_, a₁, w₁, hQ _ _ env' h' ρ' S' a₁ w₁ hq s' j', .pass (x := .inLoop body) rfl (fun _ _ => .inl (by simp)) harr⟩
      | outgrown => exact ⟨_, a₁, w₁, hQ _ _ env' h' ρ' S' a₁ w₁ hq s' j', .pass (x := .inLoop body) rfl (fun _ _ => .inl (by simp)) harr⟩
  obtain ⟨e, a', w', hq, harr⟩ := key _ x0 rfl ρ S a w s0 j0
  exact ⟨e, a', w', hq, .of_steps (.one (fenced_calm hb hr rfl) stepR_loop) harr⟩
theorem ay_region {id : Nat} {l : List Oper} (hv : VY P J A n l.toArray l g env h (fun g v h => Q g .normal v h)) : AY P J A n (.region id l.toArray false) g env h Q := by
  intro c ρ S a w QQ s j hQ
  exact wpIn_mono (wpIn_region_lit (hv c ρ S a w (fun e a w => e = .normal ∧ QQ .normal a w) s j (fun e a w h => h.1) fun g' env' h' ρ' S' a' w' k s' j' => ⟨rfl, hQ g' .normal env' h' ρ' S' a' w' k s' j'⟩)) fun e a w he => by obtain ⟨rfl, h3⟩ := he; exact h3
end

theorem op_monoQ {F : Fence} {m : Nat} {P : Program} {o : Oper} {a : Act} {w : World} {K : Act → World → Prop} {Q Q' : Exit → Act → World → Prop} (hq : ∀ e a w, Q e a w → e = .normal) (h : o.wpIn F m P a w K Q) : o.wpIn F m P a w K Q' := by
  refine ⟨h.1, ?_⟩
  have h := h.2
  have hp : ∀ {ch a w} {p : Prop}, Q (.panic ch) a w → p := fun hh => by have := hq _ _ _ hh; cases this
  have ho : ∀ {p : Prop}, LetsOut Q → p := fun ⟨_, _, hh⟩ => by have := hq _ _ _ hh; cases this
  generalize (o.semAt F.round a.eval).run P w = r at h ⊢
  cases r with
  | ok x w' =>
    cases x <;> simp only [Oper.uponIn] at h ⊢ <;>
      first
        | exact h
        | exact ⟨h.1, h.2.mono (fun e w'' he => by cases e <;> first | exact he | exact hp he | exact ho he)⟩
  | halt x w' => cases x <;> simp only [Oper.uponIn] at h ⊢ <;> first | exact h | exact hp h
theorem wpListIn_app {F : Fence} {m : Nat} {P : Program} {ops : Array Oper} {Q : Exit → Act → World → Prop} {l2 : List Oper} : ∀ {l1 : List Oper} {a : Act} {w : World}, wpListIn F m P ops (fun e a w => e = .normal ∧ wpListIn F m P ops Q l2 a w) l1 a w → wpListIn F m P ops Q (l1 ++ l2) a w
  | [], _, _, h => h.2
  | o :: l1, a, w, h => by
    show wpListIn F m P ops Q (o :: (l1 ++ l2)) a w
    unfold wpListIn at h ⊢
    split at h
    · rename_i hw
      rw [if_pos hw]
      exact op_monoQ (Q := fun e a w => e = .normal ∧ wpListIn F m P ops Q l2 a w) (fun e a w h => h.1) (Oper.wpIn_mono (fun a w h => wpListIn_app h) h)
    · rename_i hw
      rw [if_neg hw]
      exact ⟨h.1, wpListIn_app h.2⟩
section
variable {P : Program} {J : JT} {A : Nat → Prop} {n : Nat × Nat} {g : Nat × Bool} {ops : Array Oper} {env : Env} {h : Hp} {K : Nat × Bool → Env → Hp → Prop}
theorem vy_app {l1 l2 : List Oper} (hJ : JOk J) (hnd : noDef l1 = true) (hv : VC P n ops l1 env h (fun v h => VY P J A n ops l2 g v h K)) : VY P J A n ops (l1 ++ l2) g env h K := by
  intro c ρ S a w Q s ⟨W, N, j⟩ hq hQ
  have hn := hJ.lt j.j
  refine wpListIn_app (wpList_in (fun e a w h => h.1) hnd (hv (c.re w S N hn s.hs.ext.size) ρ S a w (fun e a w => e = .normal ∧ wpListIn (rd c.r) 0 P ops Q l2 a w) (s.re j hn s.hs.ext.size) fun env' h' ρ' S' a' w' k s' => ⟨rfl, ?_⟩))
  obtain ⟨h1, h2⟩ := s.un hJ j hn s.hs.ext.size s'
  exact k c ρ' S' a' w' Q h1 ⟨W, N, h2⟩ hq hQ
theorem vy_cut (k : Nat) {rest : List Oper} (hJ : JOk J) (hv : VC P n ops (rest.take k) env h (fun v h => VY P J A n ops (rest.drop k) g v h K)) (hnd : noDef (rest.take k) = true := by rfl) : VY P J A n ops rest g env h K := by
  have := vy_app hJ hnd hv
  rwa [List.take_append_drop] at this
theorem vy_vc {rest : List Oper} (hJ : JOk J) (hv : VC P n ops rest env h (fun v h => K g v h)) (hnd : noDef rest = true := by rfl) : VY P J A n ops rest g env h K := by
  have := vy_app (l1 := rest) (l2 := []) (A := A) (g := g) (K := K) hJ hnd (hv.mono fun e h k => (fun c ρ S a w Q s j hq hQ => hQ g e h ρ S a w k s j))
  rwa [List.append_nil] at this
theorem vy_yield {d : Option Nat} {x : Operand} {l k N : Nat} {us : List AV} {args : List Operand} {ats : Array TypeId} {ty : TypeId} {pos : String} {af : Array Edge} {items : Nat → List AV} {rest : List Oper} (hJ : JOk J) (hy : JYield P l J A items N) (hx : evu env x = some (.clo (.yield l) [] [])) (ha : evL env args = some us) (hi : AV.idfL us = true) (hk : k < N) (hit : items k = us) (hd : okd d n = true)
    (hb : ∀ b : Bool, VY P J A n ops rest (k + 1, !b) (putd d (.b b) env) h K) : VY P J A n ops (⟨d, .call { callee := .value x, args := args.toArray, argTypes := ats }, ty, pos, af, none⟩ :: rest) (k, false) env h K := by
  intro c ρ S a w Q s ⟨W, Nn, j⟩ hq hQ
  refine wpListIn_plain rfl fun K' hK' => ?_
  have p := s.pre
  have hxv := p.evu hx
  simp only [R, RL] at hxv
  obtain ⟨ys, zs, e1, h1, h2⟩ := hxv
  have e2 : ys = #[] := by cases ys; simp_all
  have e3 : zs = #[] := by cases zs; simp_all
  subst e2 e3
  have hargs := evL_val p ha
  have hS1 : ∀ b, (S b ∧ isData w b) → A b ∧ ¬ W b ∧ isData w b := fun b hb => ⟨j.accS b hb.1, j.st b hb.1, hb.2⟩
  have hargs1 : RL (fun b => S b ∧ isData w b) w (items k) (fun _ => none) (args.map a.eval) := by
    rw [hit]
    exact RL_idf ρ _ _ _ hi (RL_cells (fun b cc e q1 q2 => ⟨q1, cc, e, q2⟩) (fun _ _ _ h => h) _ _ _ hargs)
  obtain ⟨fn, tmps, assign, body, hrun, hround⟩ := hy k hk W Nn w _ _ j.j hS1 hargs1
  refine ⟨fun _ _ => trivial, ?_⟩
  rw [noDef1_sem rfl]
  have hr2 : (execOp a.eval ⟨d, .call { callee := .value x, args := args.toArray, argTypes := ats }, ty, pos, af, none⟩).run P w = .ok (.round l fn tmps assign body) w := by
    have e4 : (#[] ++ (args.toArray.map a.eval)) = (args.map a.eval).toArray := by
      apply Array.ext'; simp
    simp only [execOp, resolve, e1, Deferred.ofValue, Sem.run_bind, Sem.run_pure, Result.andThen_ok, invoke]
    rw [e4]
    exact hrun
  rw [hr2]
  refine ⟨fun h => (by cases h), ?_⟩
  have hround : RoundIn (rd c.r) (0 - 1) P l fn tmps assign body w _ := hround
  refine hround.mono ?_
  rintro e w' ⟨b, W', N', rfl, j1, hx, hW', hN'⟩
  have hWlt : ∀ b, W b → b < w.heap.size := fun b hb => hJ.lt j.j b (hJ.sub j.j b hb)
  obtain ⟨hs', l'⟩ := s.hs.world hx j.st (fun k y p a1 a2 a3 hw => j.live k y p a1 a2 a3 (hJ.sub j.j _ hw)) (fun b _ hb => j.wm b hb)
  refine hK' _ _ (hb b c ρ S (a.put d (.bool b)) w' Q ⟨by rw [size_put]; exact s.size, by rw [defers_put]; exact s.defers.later l', env_put s.size hd (fun t u hu => (s.env t u hu).later l') (R_v_mk _), hs', s.cm⟩ ⟨W', N', j1, fun k y p a1 a2 a3 hn => ?_, fun b hb hw => ?_, fun b hb h1 h2 => ?_, fun b hb => ?_, j.accS, j.accM, fun b hb => ?_⟩ hq hQ)
  · rcases hN' _ hn with hn | hn | hn
    · exact j.live k y p a1 a2 a3 hn
    · exact (s.hs.live k y p a1 a2 a3).2 hn.1
    · have := s.hs.rng k p a3; omega
  · rcases hW' _ hw with hw | hw
    · exact j.st b hb hw
    · have := s.hs.stab b hb; omega
  · have same := hx.same b (s.hs.stab b hb) (j.st b hb)
    rcases hN' _ h2 with h2 | h2 | h2
    · obtain ⟨cc, e, h4⟩ := j.cell b hb h1 h2
      exact ⟨cc, e, by rw [same]; exact h4⟩
    · obtain ⟨cc, e, h4⟩ := h2.2
      exact ⟨cc, e, by rw [same]; exact h4⟩
    · have := s.hs.stab b hb; omega
  · rcases hW' _ hb with hb | hb
    · exact j.wm b hb
    · exact c.new b (Nat.le_trans s.hs.ext.size hb)
  · rcases hN' _ hb with hb | hb | hb
    · exact j.nn b hb
    · exact .inr (s.hs.st1 b hb.1)
    · exact .inr (.inr (c.new b (Nat.le_trans s.hs.ext.size hb)))
end
end Go.Ab

/-! A logic of values for the walk, twenty-sixth part: an iterator's contract, and a loop over it. -/
namespace Go.Ab
open Go
set_option linter.unusedVariables false
set_option linter.unusedSimpArgs false

/-! ### The iterator -/
def ctxI (w : World) (ρ : Pl) (S : Nat → Prop) (hit : Hp) (A : Nat → Prop) (hA : ∀ b, w.heap.size ≤ b → A b) : Ctx where
  w0 := w
  M := A
  new := hA
  S0 := S
  ρ0 := ρ
  m := hit.length
  lo := w.heap.size
  lole := Nat.le_refl _
  r := none
def AIter (P : Program) (f : FuncId) (fs cs : List AV) (hit : Hp) (items : Nat → List AV) (N : Nat) : Prop :=
  (∃ fn, P.funcs[f]? = some fn ∧ (fn.name == "runtime.NumGoroutine") = false ∧ fn.body.isNone = false) ∧
  ∀ (J : JT) (A : Nat → Prop) (l : Nat), JOk J → JYield P l J A items N → ∀ ρ S w vs W Nn (hA : ∀ b, w.heap.size ≤ b → A b), HS (ctxI w ρ S hit A hA) ρ S hit w → RL S w (fs ++ [.clo (.yield l) [] []] ++ cs) ρ vs → J (0, false) W Nn w →
    (∀ (k : Nat) x p, hit[k]? = some x → x ≠ .gone → ρ k = some p → ¬ Nn p.1) → (∀ b, S b → A b ∧ ¬ W b) → (∀ b, W b → A b) →
    Calls P f vs.toArray w fun e w' => ∃ y g W' N', e = .returned y ∧ J g W' N' w' ∧ (g.2 = false → g.1 = N)

theorem leaves_shut2 {P : Program} {fn : Func} {tmps : Array Value} {RR : Ending → World → Prop} {c : Ctx} {ρ : Pl} {h : Hp} (hlo : c.w0.heap.size ≤ c.lo) (h0 : ∀ b, c.S0 b → b < c.w0.heap.size) : ∀ (D : List Nat) (S : Nat → Prop) (w : World), HS c ρ S h w → D.Nodup → (∀ b, b ∈ D → S b ∧ w.heap[b]? = some (.deferred (some [])) ∧ c.lo ≤ b) →
    (∀ S' w', HS c ρ S' h w' → (∀ x y, R S w x ρ y → R S' w' x ρ y) → Ext (fun b => b ∈ D) w w' → ∃ v, (results fn tmps).run P w' = .ok v w' ∧ RR (.returned v) w') → LeavesInM Fence.wide 0 P fn tmps RR (D.map mark) .returning w
  | [], S, w, s, _, _, hk => by
    have := hk S w s (fun _ _ h => h) (Ext.refl _ _)
    simpa only [List.map_nil, LeavesInM, LeavesIn] using this
  | m :: D, S, w, s, hnd, hD, hk => by
    rw [List.nodup_cons] at hnd
    obtain ⟨h1, h2, h3⟩ := hD m (by simp)
    obtain ⟨g1, g2⟩ := s.shut1 h2 (by omega) h1 h0
    simp only [List.map_cons, LeavesInM]
    refine ⟨by simp, .inl ⟨m, _, rfl, run_takeDeferred h2, leaves_shut2 hlo h0 D _ _ g1 hnd.2 (fun b hb => ?_) fun S' w' s' hr hx => hk S' w' s' (fun x y hx => hr x y (g2 x y hx)) ?_⟩⟩
    · have hne : b ≠ m := fun e => hnd.1 (e ▸ hb)
      obtain ⟨q1, q2, q3⟩ := hD b (by simp [hb])
      exact ⟨⟨q1, hne⟩, by rw [put_other hne]; exact q2, q3⟩
    · exact ((ext_put h2 (fun _ _ _ e => by cases e)).mono fun b _ hb => by simp [hb]).trans hx (fun b hb _ => by simp [hb])

theorem aiter {P : Program} (T : Tab P) {f : FuncId} {fn : Func} {code : Code} {n N : Nat} {fs cs : List AV} {hit : Hp} {items : Nat → List AV} (hf : P.funcs[f]? = some fn) (hb : fn.body = some code) (hnm : (fn.name == "runtime.NumGoroutine") = false) (hn : fn.ntmps = n) (ha : Nat.ble (fs.length + 1 + cs.length) n = true)
    (haw : ∀ J A l, JOk J → JYield P l J A items N → AY P J A (n, hit.length) code (0, false) (argEnv 0 (fs ++ [.clo (.yield l) [] []] ++ cs)) hit (fun g e v h => (e = .ret ∨ e = .normal) ∧ (g.2 = false → g.1 = N) ∧ ∃ xs, retAV T v h fn.results.toList = some xs)) : AIter P f fs cs hit items N := by
  refine ⟨⟨fn, hf, hnm, by rw [hb]; rfl⟩, ?_⟩
  intro J A l hJ hy ρ S w vs W Nn hA hs hargs j0 hd1 hd2 hd3
  have hlen := RL_length hargs
  have hle := Nat.le_of_ble_eq_true ha
  refine (callsIn_wide (n := 0)).1 (callsIn_of_wp_marks (F := Fence.wide) hf hb trivial ?_ rfl)
  refine haw J A l hJ hy (ctxI w ρ S hit A hA) ρ S _ w _ ⟨?_, Marks.nil rfl _ _, fun t x hx => ?_, hs, rfl⟩ ⟨W, Nn, j0, hd1, fun b hb => (hd2 b hb).2, fun b hb hlo => ?_, hd3, fun b hb => (hd2 b hb).1, fun b hb => hb, fun _ _ => .inl trivial⟩ ?_
  · simp at hlen; simp [hn]; omega
  · obtain ⟨_, h1⟩ := argEnv_look hx
    simp only [Nat.sub_zero] at h1
    obtain ⟨y, h2, h3⟩ := RL_get hargs t x h1
    have hlt : t < vs.length := (List.getElem?_eq_some_iff.1 h2).1
    have : (vs.toArray ++ Array.replicate (fn.ntmps - vs.toArray.size) undef).getD t undef = y := by
      rw [Array.getD_eq_getD_getElem?, Array.getElem?_append_left (by simpa using hlt)]
      simp [h2]
    rw [this]; exact h3
  · have := hs.stab b hb
    have hlo : w.heap.size ≤ b := hlo
    omega
  · intro g e env' h' ρ' S' a' w' hq s ⟨W', N', j⟩
    obtain ⟨he, hg, xs, h1⟩ := hq
    obtain ⟨⟨D, hD1, hD2, hD3⟩, _⟩ := s.defers
    have hl : LeavesInM Fence.wide 0 P fn a'.tmps (fun e w' => ∃ y g W' N', e = Ending.returned y ∧ J g W' N' w' ∧ (g.2 = false → g.1 = N)) a'.defers .returning w' := by
      rw [hD1]
      refine leaves_shut2 (c := ctxI w ρ S hit A hA) (Nat.le_refl _) (fun b hb => hs.stab b hb) D S' w' s.hs hD2 hD3 fun S2 w2 s2 hr hx => ?_
      obtain ⟨ys, h7, h8⟩ := results_val T s2.blk (fun t x hx => hr _ _ (s.env t x hx)) h1
      have hm : (fn.results.mapM (resultOf a'.tmps)).run P w2 = .ok ys.toArray w2 := by
        rw [Array.mapM_eq_mapM_toList]
        simp only [Sem.run_map, h7, Result.andThen_ok]
      refine ⟨_, by rw [results_eq]; simp only [Sem.run_bind, hm, Result.andThen_ok, Sem.run_pure]; rfl, _, g, W', N', rfl, hJ.st j.j (hx.mono fun b _ hb hn => ?_), hg⟩
      obtain ⟨q1, q2, q3⟩ := hD3 b hb
      obtain ⟨cc, e, q4⟩ := j.cell b q1 q3 hn
      rw [q2] at q4; cases q4; cases e
    rcases he with rfl | rfl
    · exact hl
    · exact hl

/-! ### Values that name the first m objects only -/
mutual
def AV.low (m : Nat) : AV → Bool
  | .v _ | .any | .row .. | .mrow .. | .pr .. => true
  | .ptr k _ | .ep k _ _ _ | .sl k _ _ _ | .mp k => Nat.blt k m
  | .agg cs | .tup cs => AV.lowL m cs
  | .clo _ cs ds => AV.lowL m cs && AV.lowL m ds
  | .cond _ x => AV.low m x
  | .ifc _ x => AV.low m x
def AV.lowL (m : Nat) : List AV → Bool
  | [] => true
  | x :: xs => AV.low m x && AV.lowL m xs
end
theorem blt_lt {k m : Nat} (h : Nat.blt k m = true) : k < m := Nat.le_of_ble_eq_true h
mutual
theorem R_low {S : Nat → Prop} {w : World} {ρ ρ' : Pl} {m : Nat} (hρ : ∀ k, k < m → ρ' k = ρ k) : ∀ (x : AV) (y : Value), x.low m = true → R S w x ρ y → R S w x ρ' y
  | .v x, y, _, h => by simpa only [R] using h
  | .any, _, _, _ => by simp [R]
  | .pr cs off, y, _, h => by simpa only [R] using h
  | .row cs len sz, y, _, h => by simpa only [R] using h
  | .mrow ks vs, y, _, h => by simpa only [R] using h
  | .ptr k off, y, hi, h => by
    simp only [R, AV.low] at *
    rw [hρ k (blt_lt hi)]; exact h
  | .ep k i off sz, y, hi, h => by
    simp only [R, AV.low] at *
    rw [hρ k (blt_lt hi)]; exact h
  | .sl k off len sz, y, hi, h => by
    simp only [R, AV.low] at *
    rw [hρ k (blt_lt hi)]; exact h
  | .mp k, y, hi, h => by
    simp only [R, AV.low] at *
    rw [hρ k (blt_lt hi)]; exact h
  | .agg cs, y, hi, h => by
    simp only [R, AV.low] at *
    obtain ⟨ys, h1, h2⟩ := h
    exact ⟨ys, h1, RL_low hρ cs _ hi h2⟩
  | .tup cs, y, hi, h => by
    simp only [R, AV.low] at *
    obtain ⟨ys, h1, h2⟩ := h
    exact ⟨ys, h1, RL_low hρ cs _ hi h2⟩
  | .clo f cs ds, y, hi, h => by
    simp only [R, AV.low, Bool.and_eq_true] at *
    obtain ⟨ys, zs, h1, h2, h3⟩ := h
    exact ⟨ys, zs, h1, RL_low hρ cs _ hi.1 h2, RL_low hρ ds _ hi.2 h3⟩
  | .cond b x, y, hi, h => by
    simp only [R, AV.low] at *
    exact fun hb => R_low hρ x y hi (h hb)
  | .ifc t x, y, hi, h => by
    simp only [R, AV.low] at *
    obtain ⟨z, h1, h2⟩ := h
    exact ⟨z, h1, R_low hρ x z hi h2⟩
theorem RL_low {S : Nat → Prop} {w : World} {ρ ρ' : Pl} {m : Nat} (hρ : ∀ k, k < m → ρ' k = ρ k) : ∀ (xs : List AV) (ys : List Value), AV.lowL m xs = true → RL S w xs ρ ys → RL S w xs ρ' ys
  | [], ys, _, h => by simpa only [RL] using h
  | x :: xs, ys, hi, h => by
    simp only [RL, AV.lowL, Bool.and_eq_true] at *
    obtain ⟨y, zs, h1, h2, h3⟩ := h
    exact ⟨y, zs, h1, R_low hρ x y hi.1 h2, RL_low hρ xs zs hi.2 h3⟩
end
def lowE (m : Nat) : Env → Bool
  | [] => true
  | (_, x) :: r => x.low m && lowE m r
theorem lowE_look {m : Nat} : ∀ {env : Env}, lowE m env = true → ∀ {t x}, look env t = some x → x.low m = true
  | [], _, _, _, h => by cases h
  | (k, u) :: r, hl, t, x, h => by
    simp only [lowE, Bool.and_eq_true] at hl
    rw [look_cons] at h
    split at h
    · cases h; exact hl.1
    · exact lowE_look hl.2 h

def roundEnv : List Nat → List AV → Env → Env
  | t :: ts, x :: xs, E => roundEnv ts xs ((t, x) :: E)
  | _, _, E => E
def jumpOf : Exit → Option Code
  | .ret => some .ret
  | .exit id => some (.exit id)
  | .goto t => some (.goto t)
  | _ => none
theorem fold_env {S : Nat → Prop} {w : World} {ρ : Pl} : ∀ (ts : List Nat) (xs : List AV) (vs : List Value) (E : Env) (tm : Array Value), (∀ t, t ∈ ts → t < tm.size) → RL S w xs ρ vs → (∀ t x, look E t = some x → R S w x ρ (tm.getD t undef)) → ts.length = xs.length →
    ((ts.zip vs).foldl (fun tm (p : Nat × Value) => tm.setIfInBounds p.1 p.2) tm).size = tm.size ∧ ∀ t x, look (roundEnv ts xs E) t = some x → R S w x ρ (((ts.zip vs).foldl (fun tm (p : Nat × Value) => tm.setIfInBounds p.1 p.2) tm).getD t undef)
  | [], _, _, E, tm, _, _, hE, _ => ⟨rfl, by intro t x hx; simpa [roundEnv] using hE t x (by simpa [roundEnv] using hx)⟩
  | t0 :: ts, [], _, E, tm, _, _, hE, hl => by simp at hl
  | t0 :: ts, x0 :: xs, vs, E, tm, hlt, hv, hE, hl => by
    simp only [RL] at hv
    obtain ⟨y, zs, rfl, h1, h2⟩ := hv
    have h0 := hlt t0 (by simp)
    obtain ⟨h3, h4⟩ := fold_env ts xs zs ((t0, x0) :: E) (tm.setIfInBounds t0 y) (fun t ht => by simpa using hlt t (by simp [ht])) h2 (fun t x hx => by
      rw [look_cons] at hx
      split at hx
      · rename_i e
        subst e; cases hx
        simp [Array.getD, h0]; exact h1
      · rename_i e
        have := hE t x hx
        rwa [show (tm.setIfInBounds t0 y).getD t undef = tm.getD t undef by
          simp only [Array.getD_eq_getD_getElem?]; rw [Array.getElem?_setIfInBounds_ne e]]) (by simpa using hl)
    exact ⟨by simpa using h3, fun t x hx => by simpa [roundEnv] using h4 t x (by simpa [roundEnv] using hx)⟩
end Go.Ab

/-! A logic of values for the walk, twenty-seventh part: a loop over an iterator. -/
namespace Go.Ab
open Go
set_option linter.unusedVariables false
set_option linter.unusedSimpArgs false

theorem enter_loop {P : Program} {c : Ctx} {S : Nat → Prop} {l0 : List Deferred} {w : World} (m : Marks c S l0 w) (hS : ∀ b, S b → b < w.heap.size) (hlo : c.lo ≤ w.heap.size) (fn : FuncId) (tmps : Array Value) (ps : Array Tmp) (assign body : Code) :
    ∃ (l bd : Nat) (mk : List Deferred) (w1 : World) (T : Nat → Prop), (Instr.enterLoop fn tmps ps assign body c.r).run P w = .ok (l, mk) w1 ∧
      w1.heap[l]? = some (.loop { state := .ready, pending := none, fn := fn, tmps := tmps, params := ps, assign := assign, body := body, defers := bd }) ∧ w.heap.size ≤ l ∧ l < w1.heap.size ∧ Ext (fun _ => False) w w1 ∧
      (∀ b, T b → w.heap.size ≤ b ∧ b ≠ l ∧ b < w1.heap.size) ∧
      (∀ S' w', (∀ b, S b → S' b) → (∀ b, T b → S' b) → (∀ b, S b ∨ T b → w'.heap[b]? = w1.heap[b]?) → Marks c S' (mk ++ l0) w') := by
  obtain ⟨⟨D, hD1, hD2, hD3⟩, hr⟩ := m
  cases hc : c.r with
  | none =>
    have hx : Ext (fun _ => False) w ((w.alloc (.deferred (some []))).alloc (.loop { state := .ready, pending := none, fn := fn, tmps := tmps, params := ps, assign := assign, body := body, defers := w.heap.size })) := (ext_alloc w _ _).trans (ext_alloc _ _ (fun _ => False)) (fun _ h _ => h)
    refine ⟨w.heap.size + 1, w.heap.size, [mark w.heap.size], _, fun b => b = w.heap.size, run_enterLoop_outer _ _ _ _ _, ?_, by omega, by simp, hx, fun b hb => by subst hb; simp; omega, fun S' w' h1 h2 h3 => ⟨⟨w.heap.size :: D, by rw [hD1]; rfl, ?_, fun b hb => ?_⟩, fun q hq => by rw [hc] at hq; cases hq⟩⟩
    · have := World.alloc_heap_new (w.alloc (.deferred (some []))) (.loop { state := .ready, pending := none, fn := fn, tmps := tmps, params := ps, assign := assign, body := body, defers := w.heap.size })
      rwa [World.size_alloc] at this
    · rw [List.nodup_cons]
      exact ⟨fun hm => by have := hS _ (hD3 _ hm).1; omega, hD2⟩
    · rcases List.mem_cons.1 hb with rfl | hb
      · refine ⟨h2 _ rfl, ?_, hlo⟩
        rw [h3 _ (.inr rfl)]
        exact (RowKit.Below.heap_alloc _ _ _ (by simp)).trans (World.alloc_heap_new w _)
      · obtain ⟨q1, q2, q3⟩ := hD3 b hb
        exact ⟨h1 _ q1, by rw [h3 _ (.inl q1), hx.same b (hS b q1) (by simp)]; exact q2, q3⟩
  | some q =>
    obtain ⟨hq1, r0, hq2⟩ := hr q hc
    have hx : Ext (fun _ => False) w (w.alloc (.loop { state := .ready, pending := none, fn := fn, tmps := tmps, params := ps, assign := assign, body := body, defers := r0.defers })) := ext_alloc w _ _
    have hrun : (Instr.enterLoop fn tmps ps assign body (some q)).run P w = .ok (w.heap.size, []) (w.alloc (.loop { state := .ready, pending := none, fn := fn, tmps := tmps, params := ps, assign := assign, body := body, defers := r0.defers })) := by
      unfold Instr.enterLoop
      simp only [Sem.run_bind, run_getLoop hq2, run_newObj_alloc, Result.andThen, Sem.run_pure]
    refine ⟨w.heap.size, r0.defers, [], _, fun _ => False, hrun, World.alloc_heap_new w _, Nat.le_refl _, by simp, hx, fun b hb => hb.elim, fun S' w' h1 h2 h3 => ⟨⟨D, hD1, hD2, fun b hb => ?_⟩, fun q' hq' => ?_⟩⟩
    · obtain ⟨q1, q2, q3⟩ := hD3 b hb
      exact ⟨h1 _ q1, by rw [h3 _ (.inl q1), hx.same b (hS b q1) (by simp)]; exact q2, q3⟩
    · obtain ⟨g1, rec, g2⟩ := hr q' hq'
      exact ⟨h1 _ g1, rec, by rw [h3 _ (.inl g1), hx.same q' (hS q' g1) (by simp)]; exact g2⟩

def JR (cA : Ctx) (l : Nat) (rec0 : Loop) (E : Env) (HA : Nat → Hp) (Q : Exit → Env → Hp → Prop) : JT := fun g W N w =>
  ∃ ρ S hh rec, HS cA ρ S hh w ∧ w.heap[l]? = some (.loop rec) ∧ ¬ S l ∧ (∀ (k : Nat) x p, hh[k]? = some x → x ≠ .gone → ρ k = some p → p.1 ≠ l) ∧ (∀ b, W b ↔ liveB hh ρ b ∨ b = l) ∧ (∀ b, N b ↔ liveB hh ρ b ∨ S b ∨ b = l ∨ ¬ cA.M b) ∧
    (g.2 = false → hh = HA g.1 ∧ rec = rec0) ∧ (g.2 = true → ∃ e cd, jumpOf e = some cd ∧ rec = { rec0 with state := .done, pending := some cd } ∧ Q e E hh)

section
variable {cA : Ctx} {l : Nat} {rec0 : Loop} {E : Env} {HA : Nat → Hp} {Q : Exit → Env → Hp → Prop}
theorem jr_ok : JOk (JR cA l rec0 E HA Q) := by
  refine ⟨fun {g W N w w'} j x => ?_, fun {g W N w} j b hb => ?_, fun {g W N w} j b hb => ?_⟩
  · obtain ⟨ρ, S, hh, rec, s, h1, h2, h3, h4, h5, h6⟩ := j
    obtain ⟨s', _⟩ := s.world x (fun b hb h => h ((h5 b).2 (.inr (.inl hb)))) (fun k y p a1 a2 a3 h => h ((h5 _).2 (.inl ⟨k, y, p.2, a1, a2, a3⟩))) (fun b hb hn => Classical.byContradiction fun hM => hn ((h5 b).2 (.inr (.inr (.inr hM)))))
    exact ⟨ρ, S, hh, rec, s', by rw [x.same l (Array.getElem?_eq_some_iff.1 h1).1 (fun h => h ((h5 l).2 (.inr (.inr (.inl rfl)))))]; exact h1, h2, h3, h4, h5, h6⟩
  · obtain ⟨ρ, S, hh, rec, s, h1, h2, h3, h4, h5, h6⟩ := j
    exact (h5 b).2 (((h4 b).1 hb).elim .inl fun h => .inr (.inr (.inl h)))
  · obtain ⟨ρ, S, hh, rec, s, h1, h2, h3, h4, h5, h6⟩ := j
    rcases (h5 b).1 hb with ⟨k, x, o, _, _, hp⟩ | hb | rfl | hb
    · exact s.rng k _ hp
    · exact s.stab b hb
    · exact (Array.getElem?_eq_some_iff.1 h1).1
    · apply Classical.byContradiction
      intro hge
      exact hb (cA.new b (by have := s.ext.size; omega))

def QR (m0 : Nat) (E : Env) (HA : Nat → Hp) (Q : Exit → Env → Hp → Prop) (k : Nat) : Exit → Env → Hp → Prop
  | .normal, v, h => Sub m0 v h [] (HA (k + 1))
  | e, v, h => (∃ cd, jumpOf e = some cd) ∧ ∃ hx, Sub m0 v h [] hx ∧ Q e E hx

theorem round_yield {P : Program} {n1 m0 : Nat} {items : Nat → List AV} {N : Nat} {ps : List Nat} (hm : cA.m = m0) (hMl : cA.M l) (hS0l : ¬ cA.S0 l) (hS0 : ∀ b, cA.S0 b → b < cA.w0.heap.size ∧ ¬ cA.M b) (hst : rec0.state = .ready) (hpe : rec0.pending = none) (hps : rec0.params = ps.toArray)
    (hsz : rec0.tmps.size = n1) (hpl : ∀ t, t ∈ ps → t < n1) (hit : ∀ k, k < N → (items k).length = ps.length ∧ AV.idfL (items k) = true)
    (hE : ∀ t x, look E t = some x → R cA.S0 cA.w0 x cA.ρ0 (rec0.tmps.getD t undef)) (hlow : lowE m0 E = true)
    (hround : ∀ k, k < N → AW P (n1, m0) rec0.assign (roundEnv ps (items k) E) (HA k) (fun e v h => e = .normal ∧ AW P (n1, m0) rec0.body v h (QR m0 E HA Q k))) :
    JYield P l (JR cA l rec0 E HA Q) (fun b => cA.S0 b ∨ cA.M b) items N := by
  intro k hk W Nn w Sb vs j hSb hv
  obtain ⟨ρ, S, hh, rec, s, hl, hSl, hll, hW, hN, hg, _⟩ := j
  obtain ⟨rfl, rfl⟩ := hg rfl
  dsimp only at s hll hW hN
  have hlt : l < w.heap.size := (Array.getElem?_eq_some_iff.1 hl).1
  have hvl := RL_length hv
  obtain ⟨hil, hiidf⟩ := hit k hk
  -- what no longer changes, in a round
  have hS2lt : ∀ b, (S b ∨ Sb b ∨ b = l) → b < w.heap.size := fun b hb => by
    rcases hb with hb | hb | rfl
    · exact s.stab b hb
    · obtain ⟨_, _, cc, e, h⟩ := hSb b hb
      exact (Array.getElem?_eq_some_iff.1 h).1
    · exact hlt
  have hlive : ∀ (q : Nat) y p, (HA k)[q]? = some y → y ≠ .gone → ρ q = some p → liveB (HA k) ρ p.1 := fun q y p a1 a2 a3 => ⟨q, y, p.2, a1, a2, a3⟩
  have hS2live : ∀ (q : Nat) y p, (HA k)[q]? = some y → y ≠ .gone → ρ q = some p → ¬ (S p.1 ∨ Sb p.1 ∨ p.1 = l) := fun q y p a1 a2 a3 hb => by
    rcases hb with hb | hb | hb
    · exact (s.live q y p a1 a2 a3).2 hb
    · exact (hSb _ hb).2.1 ((hW _).2 (.inl (hlive q y p a1 a2 a3)))
    · exact hll q y p a1 a2 a3 hb
  have s2 : HS cA ρ (fun b => S b ∨ Sb b ∨ b = l) (HA k) w := s.more (fun _ h => .inl h) hS2lt hS2live (fun b hb => by
    rcases hb with hb | hb | rfl
    · exact s.st1 b hb
    · exact (hSb b hb).1
    · exact .inr hMl)
  let cR : Ctx := { w0 := w, M := fun b => liveB (HA k) ρ b ∨ w.heap.size ≤ b, new := fun b hb => .inr hb, S0 := fun b => S b ∨ Sb b ∨ b = l, ρ0 := cA.ρ0, m := cA.m, lo := w.heap.size, lole := Nat.le_refl _, r := some l }
  have sR : HS cR ρ (fun b => S b ∨ Sb b ∨ b = l) (HA k) w := s2.re cR (fun q y p a1 a2 a3 => .inl (hlive q y p a1 a2 a3)) (Ext.refl _ _) (fun _ h => h) (fun _ h => .inl h) s2.mle s2.keep
  have hMnl : ¬ (liveB (HA k) ρ l ∨ w.heap.size ≤ l) := fun h => by
    rcases h with ⟨q, y, o, a1, a2, a3⟩ | h
    · exact hll q y _ a1 a2 a3 rfl
    · omega
  -- the frame
  have hE2 : ∀ t x, look E t = some x → R (fun b => S b ∨ Sb b ∨ b = l) w x ρ (rec.tmps.getD t undef) := fun t x hx => by
    have h1 := R_low (ρ' := ρ) (m := m0) (fun q hq => s.keep q (by omega)) x _ (lowE_look hlow hx) (hE t x hx)
    exact R_later (fun b hb => .inl (s.st0 b hb)) (fun b hb => s.ext.same b (hS0 b hb).1 (hS0 b hb).2) x ρ ρ _ (fun _ _ h => h) (fun _ _ _ _ _ hr => s.ext.room hr) h1
  have hv2 : RL (fun b => S b ∨ Sb b ∨ b = l) w (items k) ρ vs := RL_idf _ _ _ _ hiidf (RL_later (fun b hb => .inr (.inl hb)) (fun _ _ => rfl) _ _ _ _ (fun _ _ h => h) (fun _ _ _ _ _ h => h) hv)
  obtain ⟨hf1, hf2⟩ := fold_env ps (items k) vs E rec.tmps (fun t ht => by rw [hsz]; exact hpl t ht) hv2 hE2 hil.symm
  have hfold : (rec.params.zip vs.toArray).foldl (fun tmps (x : Nat × Value) => tmps.setIfInBounds x.1 x.2) rec.tmps = (ps.zip vs).foldl (fun tm (p : Nat × Value) => tm.setIfInBounds p.1 p.2) rec.tmps := by
    rw [hps, ← Array.foldl_toList]
    congr 1
    simp
  refine ⟨rec.fn, _, rec.assign, rec.body, run_yield hl (by rw [hps]; simp [hvl, hil]), ?_⟩
  rw [show (rec.params.zip vs.toArray).foldl (fun tmps (x : Tmp × Value) => match x with | (t, a) => tmps.setIfInBounds t a) rec.tmps = (ps.zip vs).foldl (fun tm (p : Nat × Value) => tm.setIfInBounds p.1 p.2) rec.tmps from hfold]
  refine roundIn_of_wpIn (F := Fence.wide) trivial ?_
  refine hround k hk cR ρ _ ⟨_, []⟩ w _ ⟨by rw [hf1]; exact hsz, ⟨⟨[], rfl, List.nodup_nil, fun _ h => by cases h⟩, fun q hq => ?_⟩, hf2, sR, hm⟩ ?_
  · cases hq
    exact ⟨.inr (.inr rfl), rec, hl⟩
  intro e env' h' ρ' S' a' w' hq s'
  obtain ⟨rfl, hbody⟩ := hq
  have x1 : Ext cR.M w w' := s'.hs.ext
  have hl1 : w'.heap[l]? = some (.loop rec) := by rw [x1.same l hlt hMnl]; exact hl
  refine ⟨_, run_beginRound hl1 hst, ?_⟩
  generalize hb1 : ({ rec with state := .busy } : Loop) = recb
  -- the record is busy
  have hS'l : S' l := s'.hs.st0 l (.inr (.inr rfl))
  let cZ : Ctx := { w0 := w, M := fun b => (liveB (HA k) ρ b ∨ w.heap.size ≤ b) ∨ b = l, new := fun b hb => .inl (.inr hb), S0 := fun b => S b ∨ Sb b, ρ0 := cA.ρ0, m := cA.m, lo := w.heap.size, lole := Nat.le_refl _, r := some l }
  have hZ0 : ¬ cZ.S0 l := fun h => by
    rcases h with h | h
    · exact hSl h
    · exact (hSb _ h).2.1 ((hW l).2 (.inr rfl))
  have hst1 : ∀ b, S' b → cZ.S0 b ∨ cZ.M b := fun b hb => by
    rcases s'.hs.st1 b hb with (h | h | h) | h
    · exact .inl (.inl h)
    · exact .inl (.inr h)
    · exact .inr (.inr h)
    · exact .inr (.inl h)
  have sZ : HS cZ ρ' S' h' w' := s'.hs.re cZ (fun q y p a1 a2 a3 => .inl (s'.hs.live q y p a1 a2 a3).1) (x1.mono fun b _ hb => .inl hb) (fun b hb => s'.hs.st0 b (by rcases hb with hb | hb; exact .inl hb; exact .inr (.inl hb))) hst1 s'.hs.mle s'.hs.keep
  obtain ⟨sP, hP⟩ := sZ.put hl1 (fun _ _ _ e => by cases e) rfl (.loop recb) (fun _ => .inr rfl) hZ0
  have hsz2 : w.heap.size ≤ (w'.putObj l (.loop recb)).heap.size := by rw [World.putObj_size]; exact x1.size
  let cB : Ctx := { w0 := w'.putObj l (.loop recb), M := fun b => liveB (HA k) ρ b ∨ w.heap.size ≤ b, new := fun b hb => .inr (Nat.le_trans hsz2 hb), S0 := S', ρ0 := cA.ρ0, m := cA.m, lo := w.heap.size, lole := hsz2, r := some l }
  have sM : HS cZ ρ' S' h' (w'.putObj l (.loop recb)) := sP.more (fun b hb => hb.1) (fun b hb => by rw [World.putObj_size]; exact s'.hs.stab b hb) (fun q y p a1 a2 a3 => (s'.hs.live q y p a1 a2 a3).2) hst1
  have sB : HS cB ρ' S' h' (w'.putObj l (.loop recb)) := sM.re cB (fun q y p a1 a2 a3 => (s'.hs.live q y p a1 a2 a3).1) (Ext.refl _ _) (fun _ h => h) (fun _ h => .inl h) s'.hs.mle s'.hs.keep
  have hl2 : (w'.putObj l (.loop recb)).heap[l]? = some (.loop recb) := World.putObj_heap_same (Array.getElem?_eq_some_iff.1 hl1).1
  have hmarks : Marks cB S' a'.defers (w'.putObj l (.loop recb)) := by
    obtain ⟨⟨D, d1, d2, d3⟩, _⟩ := s'.defers
    refine ⟨⟨D, d1, d2, fun b hb => ?_⟩, fun q hq => ?_⟩
    · obtain ⟨q1, q2, q3⟩ := d3 b hb
      exact ⟨q1, by rw [put_other (fun e => by rw [e, hl1] at q2; cases q2)]; exact q2, q3⟩
    · cases hq
      exact ⟨hS'l, recb, hl2⟩
  refine hbody cB ρ' S' a' _ _ ⟨s'.size, hmarks, fun t x hx => R_S (fun b hb => hb.1) (hP _ _ (s'.env t x hx)), sB, hm⟩ ?_
  intro e env3 h3 ρ3 S3 a3 w3 hq3 s3
  have x2 : Ext (fun b => b = l) w' (w'.putObj l (.loop recb)) := ext_put hl1 (fun _ _ _ e => by cases e)
  have x3 : Ext cB.M (w'.putObj l (.loop recb)) w3 := s3.hs.ext
  have hl3 : w3.heap[l]? = some (.loop recb) := by rw [x3.same l (Array.getElem?_eq_some_iff.1 hl2).1 hMnl]; exact hl2
  have x13 : Ext cZ.M w w3 := ((x1.mono fun b _ hb => .inl hb).trans (x2.mono fun b _ hb => .inr hb) (fun _ h _ => h)).trans (x3.mono fun b _ hb => .inl hb) (fun _ h _ => h)
  -- the round's end, whichever way
  have fin : ∀ (jump : Option Code) (hx : Hp), Sub m0 env3 h3 [] hx → ((jump = none ∧ hx = HA (k + 1)) ∨ ∃ e cd, jumpOf e = some cd ∧ jump = some cd ∧ Q e E hx) →
      ∃ v w4, (Instr.endRound l jump).run P w3 = .ok v w4 ∧ ∃ (b : Bool) (W' N' : Nat → Prop), Ending.returned v = .returned (.bool b) ∧ JR cA l rec E HA Q (k + 1, !b) W' N' w4 ∧ Ext W w w4 ∧ (∀ x, W' x → W x ∨ w.heap.size ≤ x) ∧ (∀ x, N' x → Nn x ∨ Sb x ∨ w.heap.size ≤ x) := by
    intro jump hx hsub hj
    obtain ⟨L, q1, _, q3, q4, q5⟩ := hsub
    have s4 : HS cB (fun k => ρ3 (th L h3.length k)) S3 hx w3 := s3.hs.sub q1 q3 q4 (fun i hi => q5 i (by have hi : i < cA.m := hi; omega))
    have st3 : ∀ b, S3 b → cZ.S0 b ∨ cZ.M b := fun b hb => by
      rcases s3.hs.st1 b hb with h | h
      · exact hst1 b h
      · exact .inr (.inl h)
    have s5 : HS cZ (fun k => ρ3 (th L h3.length k)) S3 hx w3 := s4.re cZ (fun q y p a1 a2 a3 => .inl (s4.live q y p a1 a2 a3).1) x13 (fun b hb => s3.hs.st0 b (s'.hs.st0 b (by rcases hb with hb | hb; exact .inl hb; exact .inr (.inl hb)))) st3 s4.mle s4.keep
    obtain ⟨s6, _⟩ := s5.put hl3 (fun _ _ _ e => by cases e) rfl (.loop { recb with state := if jump.isNone then .ready else .done, pending := jump }) (fun _ => .inr rfl) hZ0
    have hZA : ∀ b, cZ.M b → cA.M b := fun b hb => by
      rcases hb with (⟨q, y, o, a1, a2, a3⟩ | hb) | rfl
      · exact (s.live q y _ a1 a2 a3).1
      · exact cA.new b (Nat.le_trans s.ext.size hb)
      · exact hMl
    have s7 := s6.re cA (fun q y p a1 a2 a3 => hZA _ (s6.live q y p a1 a2 a3).1) (s.ext.trans s6.ext fun b hb _ => hZA b hb) (fun b hb => ⟨s3.hs.st0 b (s'.hs.st0 b (.inl (s.st0 b hb))), fun e => hS0l (e ▸ hb)⟩) (fun b hb => by
      rcases st3 b hb.1 with (h | h) | h
      · exact s.st1 b h
      · exact (hSb b h).1
      · exact .inr (hZA b h)) s6.mle s6.keep
    have hZW : ∀ b, cZ.M b → W b ∨ w.heap.size ≤ b := fun b hb => by
      rcases hb with (hb | hb) | rfl
      · exact .inl ((hW b).2 (.inl hb))
      · exact .inr hb
      · exact .inl ((hW _).2 (.inr rfl))
    have hWN : ∀ b, W b → Nn b := fun b hb => (hN b).2 (((hW b).1 hb).elim .inl fun h => .inr (.inr (.inl h)))
    have hS3l : S3 l := s3.hs.st0 l hS'l
    refine ⟨_, _, run_endRound jump hl3, jump.isNone, fun b => liveB hx (fun k => ρ3 (th L h3.length k)) b ∨ b = l, fun b => liveB hx (fun k => ρ3 (th L h3.length k)) b ∨ (S3 b ∧ b ≠ l) ∨ b = l ∨ ¬ cA.M b, rfl, ?_, ?_, fun b hb => ?_, fun b hb => ?_⟩
    · refine ⟨_, _, hx, _, s7, World.putObj_heap_same (Array.getElem?_eq_some_iff.1 hl3).1, fun h => h.2 rfl, fun q y p a1 a2 a3 e => (s4.live q y p a1 a2 a3).2 (e ▸ hS3l), fun b => Iff.rfl, fun b => Iff.rfl, fun h => ?_, fun h => ?_⟩
      · rcases hj with ⟨rfl, rfl⟩ | ⟨e, cd, _, rfl, _⟩
        · refine ⟨rfl, ?_⟩
          rw [← hb1]
          cases rec
          simp only at hst hpe
          subst hst hpe
          rfl
        · cases h
      · rcases hj with ⟨rfl, rfl⟩ | ⟨e, cd, he, rfl, hq⟩
        · cases h
        · exact ⟨e, cd, he, by rw [← hb1]; rfl, hq⟩
    · exact s6.ext.mono fun b hb hm => by
        rcases hZW b hm with h | h
        · exact h
        · have hb : b < w.heap.size := hb
          omega
    · rcases hb with ⟨q, y, o, a1, a2, a3⟩ | rfl
      · exact hZW _ (s6.live q y _ a1 a2 a3).1
      · exact .inl ((hW _).2 (.inr rfl))
    · rcases hb with ⟨q, y, o, a1, a2, a3⟩ | hb | rfl | hb
      · exact (hZW _ (s6.live q y _ a1 a2 a3).1).elim (fun h => .inl (hWN _ h)) fun h => .inr (.inr h)
      · rcases st3 b hb.1 with (h | h) | h
        · exact .inl ((hN b).2 (.inr (.inl h)))
        · exact .inr (.inl h)
        · exact (hZW _ h).elim (fun h => .inl (hWN _ h)) fun h => .inr (.inr h)
      · exact .inl ((hN _).2 (.inr (.inr (.inl rfl))))
      · exact .inl ((hN b).2 (.inr (.inr (.inr hb))))
  cases e with
  | normal => exact fin none _ hq3 (.inl ⟨rfl, rfl⟩)
  | ret =>
    obtain ⟨_, hx, hs, hq⟩ := hq3
    exact fin (some .ret) hx hs (.inr ⟨.ret, .ret, rfl, rfl, hq⟩)
  | exit id =>
    obtain ⟨_, hx, hs, hq⟩ := hq3
    exact fin (some (.exit id)) hx hs (.inr ⟨.exit id, .exit id, rfl, rfl, hq⟩)
  | goto t =>
    obtain ⟨_, hx, hs, hq⟩ := hq3
    exact fin (some (.goto t)) hx hs (.inr ⟨.goto t, .goto t, rfl, rfl, hq⟩)
  | panic ch =>
    obtain ⟨⟨cd, hcd⟩, _⟩ := hq3
    cases hcd
  | outgrown =>
    obtain ⟨⟨cd, hcd⟩, _⟩ := hq3
    cases hcd
end
end Go.Ab

/-! A logic of values for the walk, twenty-eighth part: the statement 'for .. := range f'. -/
namespace Go.Ab
open Go
set_option linter.unusedVariables false
set_option linter.unusedSimpArgs false

theorem SubH.live {θ : Nat → Nat} {h h' : Hp} {ρ : Pl} (hs : SubH θ h 0 h') {k : Nat} {x : AB} {p : Nat × Nat} (hx : h'[k]? = some x) (hg : x ≠ .gone) (hp : ρ (θ k) = some p) : ∃ y, h[θ k]? = some y ∧ y ≠ .gone := by
  have := hs.get k x hx
  rw [Nat.zero_add] at this
  exact ⟨_, this.resolve_left hg, by cases x <;> simp [AB.map] at *⟩
theorem th_mem {L : List Nat} {N k : Nat} (hk : k < L.length) : th L N k ∈ L := by
  unfold th
  rw [List.getElem?_eq_getElem hk]
  exact List.getElem_mem hk

theorem jump_wp {P : Program} {r : Option Nat} {Q : Exit → Act → World → Prop} {a : Act} {w : World} {e : Exit} {cd : Code} (h : jumpOf e = some cd) (hq : Q e a w) : cd.wpIn (rd r) 0 P Q a w := by
  cases e <;> simp [jumpOf] at h <;> subst h
  · exact wpIn_exit hq
  · exact wpIn_goto hq
  · exact wpIn_ret hq

theorem aw_range {P : Program} {n : Nat × Nat} {env : Env} {h : Hp} {Q : Exit → Env → Hp → Prop} {g : Operand} {ps : List Nat} {assign body : Code} {f : FuncId} {fs cs fs' cs' : List AV} {hit : Hp} {items : Nat → List AV} {N : Nat}
    (LI LA : List Nat) (E : Env) (HA : Nat → Hp) (m0 : Nat) (hx : evu env g = some (.clo (.func f) fs cs)) (hI : AIter P f fs' cs' hit items N)
    (hfs : AV.mapL (th LI h.length) fs' = fs) (hcs : AV.mapL (th LI h.length) cs' = cs) (hLI : LI.length = hit.length) (hHI : SubH (th LI h.length) h 0 hit) (hIn : LI.Nodup)
    (hLA : LA.length = (HA 0).length) (hEA : SubE (th LA h.length) env E) (hHA : SubH (th LA h.length) h 0 (HA 0)) (hAn : LA.Nodup) (hAk : ∀ i, i < n.2 → LA[i]? = some i) (hdis : ∀ x, x ∈ LI → x ∉ LA) (hn2 : n.2 ≤ m0) (hm0 : m0 ≤ (HA 0).length)
    (hlow : lowE m0 E = true) (hpl : ∀ t, t ∈ ps → t < n.1) (hit' : ∀ k, k < N → (items k).length = ps.length ∧ AV.idfL (items k) = true)
    (hround : ∀ k, k < N → AW P (n.1, m0) assign (roundEnv ps (items k) E) (HA k) (fun e v h => e = .normal ∧ AW P (n.1, m0) body v h (QR m0 E HA Q k)))
    (hafter : Q .normal E (HA N)) : AW P n (.rangeFunc g ps.toArray assign body) env h Q := by
  intro c ρ S a w QQ s hQ
  have p := s.pre
  refine wpIn_rangeFunc fun fn _ => ?_
  have hlo : c.lo ≤ w.heap.size := Nat.le_trans c.lole s.hs.ext.size
  obtain ⟨l, bd, mk, w1, T, henter, hl1, hlw, hll1, x01, hT, hmk⟩ := enter_loop (P := P) s.defers s.hs.stab hlo fn a.tmps ps.toArray assign body
  -- the function's value
  have hxv := p.evu hx
  simp only [R] at hxv
  obtain ⟨ys, zs, e1, hy1, hz1⟩ := hxv
  let ρA : Pl := fun k => ρ (th LA h.length k)
  let ρI : Pl := fun k => ρ (th LI h.length k)
  have hMnew : ∀ b, w1.heap.size ≤ b → liveB h ρ b ∨ (w.heap.size ≤ b ∧ ¬ T b) := fun b hb => .inr ⟨Nat.le_trans x01.size hb, fun ht => by have := (hT b ht).2.2; omega⟩
  let cA : Ctx := { w0 := w1, M := fun b => liveB h ρ b ∨ (w.heap.size ≤ b ∧ ¬ T b), new := hMnew, S0 := fun b => S b ∨ T b, ρ0 := ρA, m := m0, lo := c.lo, lole := Nat.le_trans hlo x01.size, r := some l }
  have hlnT : ¬ T l := fun ht => (hT l ht).2.1 rfl
  have hlnS : ∀ b, S b → b ≠ l := fun b hb e => by have := s.hs.stab b hb; omega
  -- the caller's objects, as the rounds keep them
  have hsA0 : HS c ρA S (HA 0) w := s.hs.sub hLA hHA hAn (fun i hi => hAk i (s.cm ▸ hi))
  obtain ⟨hsA1, later1⟩ := hsA0.world x01 (fun _ _ h => h) (fun _ _ _ _ _ _ h => h) (fun _ _ h => h.elim)
  have liveA : ∀ (k : Nat) x q, (HA 0)[k]? = some x → x ≠ .gone → ρA k = some q → liveB h ρ q.1 := fun k x q a1 a2 a3 => by
    obtain ⟨y, b1, b2⟩ := hHA.live (ρ := ρ) a1 a2 a3
    exact ⟨_, y, q.2, b1, b2, a3⟩
  have liveI : ∀ (k : Nat) x q, hit[k]? = some x → x ≠ .gone → ρI k = some q → liveB h ρ q.1 := fun k x q a1 a2 a3 => by
    obtain ⟨y, b1, b2⟩ := hHI.live (ρ := ρ) a1 a2 a3
    exact ⟨_, y, q.2, b1, b2, a3⟩
  have liveLt : ∀ b, liveB h ρ b → b < w.heap.size := fun b ⟨k, x, o, _, _, hp⟩ => s.hs.rng k _ hp
  have liveS : ∀ b, liveB h ρ b → ¬ S b := fun b ⟨k, x, o, a1, a2, a3⟩ => (s.hs.live k x _ a1 a2 a3).2
  have hsA2 : HS c ρA (fun b => S b ∨ T b) (HA 0) w1 := hsA1.more (fun _ h => .inl h) (fun b hb => by
    rcases hb with hb | hb
    · exact hsA1.stab b hb
    · exact (hT b hb).2.2) (fun k x q a1 a2 a3 hb => by
    have h1 := liveA k x q a1 a2 a3
    rcases hb with hb | hb
    · exact liveS _ h1 hb
    · have := (hT _ hb).1; have := liveLt _ h1; omega) (fun b hb => by
    rcases hb with hb | hb
    · exact s.hs.st1 b hb
    · exact .inr (c.new b (Nat.le_trans s.hs.ext.size (hT b hb).1)))
  have hsA : HS cA ρA (fun b => S b ∨ T b) (HA 0) w1 := hsA2.re cA (fun k x q a1 a2 a3 => .inl (liveA k x q a1 a2 a3)) (Ext.refl _ _) (fun _ h => h) (fun _ h => .inl h) hm0 (fun _ _ => rfl)
  -- the record
  obtain ⟨rec0, hrec⟩ : ∃ rec0 : Loop, rec0 = { state := .ready, pending := none, fn := fn, tmps := a.tmps, params := ps.toArray, assign := assign, body := body, defers := bd } := ⟨_, rfl⟩
  rw [← hrec] at hl1
  have hSA : ∀ b, (S b ∨ T b) → b < w1.heap.size ∧ ¬ (liveB h ρ b ∨ (w.heap.size ≤ b ∧ ¬ T b)) := fun b hb => by
    rcases hb with hb | hb
    · refine ⟨Nat.lt_of_lt_of_le (s.hs.stab b hb) x01.size, fun hm => ?_⟩
      rcases hm with hm | hm
      · exact liveS b hm hb
      · have := s.hs.stab b hb; omega
    · refine ⟨(hT b hb).2.2, fun hm => ?_⟩
      rcases hm with hm | hm
      · have := liveLt b hm; have := (hT b hb).1; omega
      · exact hm.2 hb
  have hMl : cA.M l := .inr ⟨hlw, hlnT⟩
  have hS0l : ¬ cA.S0 l := fun h => by
    rcases h with h | h
    · exact hlnS l h rfl
    · exact hlnT h
  have henvE : ∀ t x, look E t = some x → R (fun b => S b ∨ T b) w1 x ρA (a.tmps.getD t undef) := fun t x hx => by
    have h1 := R_map _ ρ _ _ (s.env t _ (hEA.look t x hx))
    exact R_S (fun _ h => .inl h) (h1.later later1)
  have hyield : JYield P l (JR cA l rec0 E HA Q) (fun b => cA.S0 b ∨ cA.M b) items N := by
    refine round_yield (cA := cA) (n1 := n.1) (m0 := m0) (ps := ps) rfl hMl hS0l hSA (by rw [hrec]) (by rw [hrec]) (by rw [hrec]) (by rw [hrec]; exact s.size) hpl hit' (fun t x hx => by rw [hrec]; exact henvE t x hx) hlow (fun k hk => by rw [hrec]; exact hround k hk)
  have hJok : JOk (JR cA l rec0 E HA Q) := jr_ok
  let W0 : Nat → Prop := fun b => liveB (HA 0) ρA b ∨ b = l
  let N0 : Nat → Prop := fun b => liveB (HA 0) ρA b ∨ (S b ∨ T b) ∨ b = l ∨ ¬ cA.M b
  have hJ0 : JR cA l rec0 E HA Q (0, false) W0 N0 w1 := ⟨ρA, _, HA 0, rec0, hsA, hl1, hS0l, fun k x q a1 a2 a3 e => by have := liveLt _ (liveA k x q a1 a2 a3); omega, fun b => Iff.rfl, fun b => Iff.rfl, fun _ => ⟨rfl, rfl⟩, fun h => by cases h⟩
  -- the iterator's call
  have hAnew : ∀ b, w1.heap.size ≤ b → cA.S0 b ∨ cA.M b := fun b hb => .inr (hMnew b hb)
  let c0 : Ctx := { w0 := w, M := fun b => liveB h ρ b ∨ w.heap.size ≤ b, new := fun b hb => .inr hb, S0 := S, ρ0 := fun _ => none, m := 0, lo := w.heap.size, lole := Nat.le_refl _, r := none }
  have hs0 : HS c0 ρ S h w := s.hs.re c0 (fun k x q a1 a2 a3 => .inl ⟨k, x, q.2, a1, a2, a3⟩) (Ext.refl _ _) (fun _ h => h) (fun _ h => .inl h) (Nat.zero_le _) (fun k hk => absurd hk (Nat.not_lt_zero _))
  have hsI0 : HS c0 ρI S hit w := hs0.sub hLI hHI hIn (fun i hi => absurd hi (Nat.not_lt_zero _))
  obtain ⟨hsI1, _⟩ := hsI0.world x01 (fun _ _ h => h) (fun _ _ _ _ _ _ h => h) (fun _ _ h => h.elim)
  have hsI : HS (ctxI w1 ρI S hit (fun b => cA.S0 b ∨ cA.M b) hAnew) ρI S hit w1 := hsI1.re _ (fun k x q a1 a2 a3 => .inr (.inl (liveI k x q a1 a2 a3))) (Ext.refl _ _) (fun _ h => h) (fun _ h => .inl h) (Nat.le_refl _) (fun _ _ => rfl)
  have hargs : RL S w1 (fs' ++ [.clo (.yield l) [] []] ++ cs') ρI (ys.toList ++ [Value.func (.yield l) #[] #[]] ++ zs.toList) := by
    have lI : Later ρI ρI S S w w1 := ⟨fun _ _ h => h, fun _ h => h, fun b hb => x01.same b (s.hs.stab b hb) (fun h => h), fun _ _ _ _ _ hr => x01.room hr⟩
    rw [← hfs] at hy1
    rw [← hcs] at hz1
    exact RL_append (RL_append ((RL_map _ ρ _ _ hy1).later lI) (by simp only [RL]; exact ⟨_, _, rfl, by simp only [R, RL]; exact ⟨#[], #[], rfl, rfl, rfl⟩, rfl⟩)) ((RL_map _ ρ _ _ hz1).later lI)
  have hcall := hI.2 _ _ l hJok hyield ρI S w1 _ W0 N0 hAnew hsI hargs hJ0 (fun k x q a1 a2 a3 hn => by
    have hlv := liveI k x q a1 a2 a3
    rcases hn with ⟨k', x', o', b1, b2, b3⟩ | hn | hn | hn
    · obtain ⟨y, d1, d2⟩ := hHI.live (ρ := ρ) a1 a2 a3
      obtain ⟨y', d3, d4⟩ := hHA.live (ρ := ρ) b1 b2 b3
      have he := s.hs.inj _ _ _ _ _ _ d1 d3 d2 d4 a3 b3 rfl
      have hkI : k < LI.length := by rw [hLI]; exact (List.getElem?_eq_some_iff.1 a1).1
      have hkA : k' < LA.length := by rw [hLA]; exact (List.getElem?_eq_some_iff.1 b1).1
      exact hdis _ (th_mem (N := h.length) hkI) (he ▸ th_mem (N := h.length) hkA)
    · rcases hn with hn | hn
      · exact liveS _ hlv hn
      · have := (hT _ hn).1; have := liveLt _ hlv; omega
    · have := liveLt _ hlv; omega
    · exact hn (.inl hlv)) (fun b hb => ⟨.inl (.inl hb), fun hw => by
    rcases hw with ⟨k', x', o', b1, b2, b3⟩ | hw
    · exact liveS b (liveA k' x' (b, o') b1 b2 b3) hb
    · exact hlnS b hb hw⟩) (fun b hw => by
    rcases hw with ⟨k', x', o', b1, b2, b3⟩ | rfl
    · exact .inr (.inl (liveA k' x' (b, o') b1 b2 b3))
    · exact .inr hMl)
  have hrun := run_call (P := P) (f := f) (args := (ys.toList ++ [Value.func (.yield l) #[] #[]] ++ zs.toList).toArray) (w := w1) hI.1
  refine ⟨l, mk, w1, { target := .fn (.func f) zs, args := ys ++ #[Value.func (.yield l) #[] #[]] }, w1, f, (ys.toList ++ [Value.func (.yield l) #[] #[]] ++ zs.toList).toArray, w1, henter, ?_, fun _ _ => trivial, ?_, (fun h => (by cases h)), ?_⟩
  · simp only [resolve]
    rw [e1]
    simp [Deferred.ofValue, Act.eval]
  · have e2 : (ys ++ #[Value.func (.yield l) #[] #[]] ++ zs : Array Value) = (ys.toList ++ [Value.func (.yield l) #[] #[]] ++ zs.toList).toArray := by
      apply Array.ext'; simp
    simp only [invoke]
    rw [e2]
    exact hrun
  refine (rd_calls (r := c.r) (n := 0 - 1) hcall).mono ?_
  rintro e w5 ⟨y, g', W5, N5, rfl, ⟨ρ5, S5, hh, rec5, s5, hl5, hSl5, hll5, hW5, hN5, hg1, hg2⟩, hgN⟩
  -- behind the loop
  have hbusy : rec5.state ≠ .busy := by
    cases hb : g'.2 with
    | false => rw [(hg1 hb).2, hrec]; simp
    | true =>
      obtain ⟨e, cd, _, hr, _⟩ := hg2 hb
      rw [hr]; simp
  refine ⟨_, _, run_endLoop hl5 hbusy, ?_⟩
  obtain ⟨s6, hr6⟩ := s5.put hl5 (fun _ _ _ e => by cases e) rfl (.loop { rec5 with state := .exhausted }) (fun _ => hMl) hS0l
  have hAc : ∀ b, cA.M b → c.M b := fun b hb => by
    rcases hb with ⟨k, x, o, a1, a2, a3⟩ | hb
    · exact (s.hs.live k x _ a1 a2 a3).1
    · exact c.new b (Nat.le_trans s.hs.ext.size hb.1)
  have s7 : HS c ρ5 (fun b => S5 b ∧ b ≠ l) hh (w5.putObj l (.loop { rec5 with state := .exhausted })) := s6.re c (fun k x q a1 a2 a3 => hAc _ (s6.live k x q a1 a2 a3).1) (s.hs.ext.trans (((x01.mono (N := cA.M) fun _ _ h => h.elim)).trans s6.ext (fun _ h _ => h)) fun b hb _ => hAc b hb) (fun b hb => ⟨s5.st0 b (.inl (s.hs.st0 b hb)), hlnS b (s.hs.st0 b hb)⟩) (fun b hb => by
    rcases s5.st1 b hb.1 with (h | h) | h
    · exact s.hs.st1 b h
    · exact .inr (c.new b (Nat.le_trans s.hs.ext.size (hT b h).1))
    · exact .inr (hAc b h)) (Nat.le_trans (by rw [s.cm]; exact hn2) s5.mle) (fun k hk => by
    have hk2 : k < n.2 := s.cm ▸ hk
    have h1 := s5.keep k (Nat.lt_of_lt_of_le hk2 hn2)
    rw [h1]
    show ρ (th LA h.length k) = _
    have : th LA h.length k = k := by unfold th; rw [hAk k hk2]
    rw [this]; exact s.hs.keep k hk)
  have hsame : ∀ b, (S b ∨ T b) → (w5.putObj l (.loop { rec5 with state := .exhausted })).heap[b]? = w1.heap[b]? := fun b hb => s6.ext.same b (hSA b hb).1 (hSA b hb).2
  have s8 : Sim n c ρ5 (fun b => S5 b ∧ b ≠ l) E hh { a with defers := mk ++ a.defers } (w5.putObj l (.loop { rec5 with state := .exhausted })) := by
    refine ⟨s.size, hmk _ _ (fun b hb => ⟨s5.st0 b (.inl hb), hlnS b hb⟩) (fun b hb => ⟨s5.st0 b (.inr hb), (hT b hb).2.1⟩) hsame, fun t x hx => ?_, s7, s.cm⟩
    have h1 := R_low (ρ' := ρ5) (m := m0) (fun q hq => s5.keep q hq) x _ (lowE_look hlow hx) (henvE t x hx)
    exact R_later (fun b hb => ⟨s5.st0 b hb, fun e => hS0l (e ▸ hb)⟩) hsame x ρ5 ρ5 _ (fun _ _ h => h) (fun _ _ _ _ _ hr => s6.ext.room hr) h1
  generalize w5.putObj l (.loop { rec5 with state := .exhausted }) = w6 at s8 ⊢
  cases hb : g'.2 with
  | false =>
    obtain ⟨rfl, hr5⟩ := hg1 hb
    rw [hgN hb] at s8
    have : rec5.pending = none := by rw [hr5, hrec]
    rw [this]
    exact hQ .normal E (HA N) ρ5 _ _ _ hafter s8
  | true =>
    obtain ⟨e, cd, he, hr, hq⟩ := hg2 hb
    have : rec5.pending = some cd := by rw [hr]
    rw [this]
    exact jump_wp he (hQ e E hh ρ5 _ _ _ hq s8)
end Go.Ab
