/-
  A logic of values for the walk, twenty-fifth part: iterators: code that calls yield, beside what the loop that ranges over it keeps.
-/
import Derived.Test.YtgibgknkfcbopaaAb24
import Derived.RangeFuncSeq
namespace Go.Ab
open Go
set_option linter.unusedVariables false
set_option linter.unusedSimpArgs false

/-! ### A heap in another world, under other promises -/
theorem R_S {S S' : Nat → Prop} {w : World} {ρ : Pl} {x : AV} {y : Value} (hS : ∀ b, S b → S' b) (h : R S w x ρ y) : R S' w x ρ y :=
  R_later hS (fun _ _ => rfl) x ρ ρ y (fun _ _ h => h) (fun _ _ _ _ _ h => h) h
theorem RB_S {S S' : Nat → Prop} {w : World} {ρ : Pl} {p : Option (Nat × Nat)} {x : AB} (hS : ∀ b, S b → S' b) (h : RB S w ρ p x) : RB S' w ρ p x :=
  RB_cells (fun b _ _ _ hb _ => hS b hb) (fun _ _ _ _ h => h) (fun _ _ _ h => h) h
theorem HS.re {c : Ctx} {ρ : Pl} {S : Nat → Prop} {h : Hp} {w : World} (s : HS c ρ S h w) (c' : Ctx) (hM : ∀ (k : Nat) x p, h[k]? = some x → x ≠ .gone → ρ k = some p → c'.M p.1) (hext : Ext c'.M c'.w0 w) (h0 : ∀ b, c'.S0 b → S b) (h1 : ∀ b, S b → c'.S0 b ∨ c'.M b) (hm : c'.m ≤ h.length) (hk : ∀ k, k < c'.m → ρ k = c'.ρ0 k) : HS c' ρ S h w :=
  ⟨s.dom, s.rng, s.blk, fun k b p hb hg hp => ⟨hM k b p hb hg hp, (s.live k b p hb hg hp).2⟩, s.inj, s.stab, hext, h0, h1, hm, hk⟩
theorem HS.world {c : Ctx} {ρ : Pl} {S N : Nat → Prop} {h : Hp} {w w' : World} (s : HS c ρ S h w) (x : Ext N w w') (hS : ∀ b, S b → ¬ N b) (hl : ∀ (k : Nat) y p, h[k]? = some y → y ≠ .gone → ρ k = some p → ¬ N p.1) (hM : ∀ b, b < c.w0.heap.size → N b → c.M b) : HS c ρ S h w' ∧ Later ρ ρ S S w w' := by
  have l : Later ρ ρ S S w w' := ⟨fun _ _ h => h, fun _ h => h, fun b hb => x.same b (s.stab b hb) (hS b hb), fun _ _ _ _ _ hr => x.room hr⟩
  refine ⟨⟨s.dom, fun k p hp => Nat.lt_of_lt_of_le (s.rng k p hp) x.size, fun k b hb => ?_, s.live, s.inj, fun b hb => Nat.lt_of_lt_of_le (s.stab b hb) x.size, s.ext.trans x (fun b hb hlt => hM b hlt hb), s.st0, s.st1, s.mle, s.keep⟩, l⟩
  by_cases hg : b = .gone
  · subst hg; trivial
  · exact RB.later l (fun b' o hp => x.same b' (s.rng k _ hp) (hl k b _ hb hg hp)) (s.blk k b hb)
/-- More memory is said not to change any more. -/
theorem HS.more {c : Ctx} {ρ : Pl} {S S' : Nat → Prop} {h : Hp} {w : World} (s : HS c ρ S h w) (hS : ∀ b, S b → S' b) (hlt : ∀ b, S' b → b < w.heap.size) (hl : ∀ (k : Nat) y p, h[k]? = some y → y ≠ .gone → ρ k = some p → ¬ S' p.1) (h1 : ∀ b, S' b → c.S0 b ∨ c.M b) : HS c ρ S' h w :=
  ⟨s.dom, s.rng, fun k b hb => RB_S hS (s.blk k b hb), fun k b p hb hg hp => ⟨(s.live k b p hb hg hp).1, hl k b p hb hg hp⟩, s.inj, hlt, s.ext, fun b hb => hS b (s.st0 b hb), h1, s.mle, s.keep⟩
theorem ext_put {w : World} {l : Nat} {o o' : Obj} (hl : w.heap[l]? = some o) (hn : ∀ c e fz, o ≠ .cells c e fz) : Ext (fun b => b = l) w (w.putObj l o') :=
  ⟨rfl, rfl, rfl, by rw [World.putObj_size]; exact Nat.le_refl _, fun b _ hb => put_other hb, fun b c e hc => ⟨c, by
    have : b ≠ l := fun e' => by rw [e', hl] at hc; cases hc; exact hn _ _ _ rfl
    rw [put_other this]; exact hc, rfl⟩⟩
/-- A block that holds no cells is put anew. -/
theorem HS.put {c : Ctx} {ρ : Pl} {S : Nat → Prop} {h : Hp} {w : World} {l : Nat} {o : Obj} (s : HS c ρ S h w) (hl : w.heap[l]? = some o) (hn : ∀ c e fz, o ≠ .cells c e fz) (hm : ∀ m ck, o ≠ .map m ck) (o' : Obj) (hM : l < c.w0.heap.size → c.M l) (h0 : ¬ c.S0 l) :
    HS c ρ (fun b => S b ∧ b ≠ l) h (w.putObj l o') ∧ ∀ x y, R S w x ρ y → R (fun b => S b ∧ b ≠ l) (w.putObj l o') x ρ y := by
  have hc : ∀ (b : Nat) c' e fz, w.heap[b]? = some (.cells c' e fz) → b ≠ l := fun b c' e fz hb e' => by rw [e', hl] at hb; cases hb; exact hn _ _ _ rfl
  have hmm : ∀ (b : Nat) m ck, w.heap[b]? = some (.map m ck) → b ≠ l := fun b m ck hb e' => by rw [e', hl] at hb; cases hb; exact hm _ _ rfl
  have a1 : ∀ (b : Nat) c' e fz, S b → w.heap[b]? = some (.cells c' e fz) → S b ∧ b ≠ l := fun b c' e fz h1 h2 => ⟨h1, hc b c' e fz h2⟩
  have a2 : ∀ (b : Nat) c' e fz, w.heap[b]? = some (.cells c' e fz) → (w.putObj l o').heap[b]? = some (.cells c' e fz) := fun b c' e fz h2 => by rw [put_other (hc b c' e fz h2)]; exact h2
  have a3 : ∀ (b : Nat) m ck, w.heap[b]? = some (.map m ck) → (w.putObj l o').heap[b]? = some (.map m ck) := fun b m ck h2 => by rw [put_other (hmm b m ck h2)]; exact h2
  refine ⟨⟨s.dom, fun k p hp => by rw [World.putObj_size]; exact s.rng k p hp, fun k b hb => RB_cells a1 a2 a3 (s.blk k b hb), fun k b p hb hg hp => ⟨(s.live k b p hb hg hp).1, fun h => (s.live k b p hb hg hp).2 h.1⟩, s.inj, fun b hb => by rw [World.putObj_size]; exact s.stab b hb.1, s.ext.trans (ext_put hl hn) (fun b hb hlt => by subst hb; exact hM hlt), fun b hb => ⟨s.st0 b hb, fun e => h0 (e ▸ hb)⟩, fun b hb => s.st1 b hb.1, s.mle, s.keep⟩, fun x y hx => R_cells a1 a2 x ρ y hx⟩

/-! ### What the loop keeps -/
/-- The loop's state between two rounds: how many have come, whether it has said 'no more'; the blocks that a round may write; those that it leans on. -/
abbrev JT := Nat × Bool → (Nat → Prop) → (Nat → Prop) → World → Prop
structure JOk (J : JT) : Prop where
  st : ∀ {g W N w w'}, J g W N w → Ext (fun b => ¬ N b) w w' → J g W N w'
  sub : ∀ {g W N w}, J g W N w → ∀ b, W b → N b
  lt : ∀ {g W N w}, J g W N w → ∀ b, N b → b < w.heap.size
structure JS1 (J : JT) (A : Nat → Prop) (g : Nat × Bool) (c : Ctx) (ρ : Pl) (S : Nat → Prop) (h : Hp) (w : World) (W N : Nat → Prop) : Prop where
  j : J g W N w
  live : ∀ (k : Nat) x p, h[k]? = some x → x ≠ .gone → ρ k = some p → ¬ N p.1
  st : ∀ b, S b → ¬ W b
  cell : ∀ b, S b → c.lo ≤ b → N b → ∃ cc e fz, w.heap[b]? = some (.cells cc e fz)
  wm : ∀ b, W b → c.M b
  accS : ∀ b, S b → A b
  accM : ∀ b, c.M b → A b
def JS (J : JT) (A : Nat → Prop) (g : Nat × Bool) (c : Ctx) (ρ : Pl) (S : Nat → Prop) (h : Hp) (w : World) : Prop := ∃ W N, JS1 J A g c ρ S h w W N

def Ctx.re (c : Ctx) (w : World) (S N : Nat → Prop) (hn : ∀ b, N b → b < w.heap.size) (hs : c.w0.heap.size ≤ w.heap.size) : Ctx where
  w0 := w
  M := fun b => c.M b ∧ ¬ N b
  new := fun b hb => ⟨c.new b (Nat.le_trans hs hb), fun h => by have := hn b h; omega⟩
  S0 := S
  ρ0 := c.ρ0
  m := c.m
  lo := c.lo
  lole := Nat.le_trans c.lole hs
  r := c.r
section
variable {P : Program} {J : JT} {A : Nat → Prop} {g : Nat × Bool} {n : Nat × Nat} {c : Ctx} {ρ : Pl} {S W N : Nat → Prop} {env : Env} {h : Hp} {a : Act} {w : World}
theorem Sim.re (s : Sim n c ρ S env h a w) (j : JS1 J A g c ρ S h w W N) (hn : ∀ b, N b → b < w.heap.size) (hs : c.w0.heap.size ≤ w.heap.size) : Sim n (c.re w S N hn hs) ρ S env h a w :=
  ⟨s.size, s.defers, s.env, s.hs.re _ (fun k x p hx hg hp => ⟨(s.hs.live k x p hx hg hp).1, j.live k x p hx hg hp⟩) (Ext.refl _ _) (fun _ h => h) (fun _ h => .inl h) s.hs.mle s.hs.keep, s.cm⟩
theorem Sim.un {ρ' : Pl} {S' : Nat → Prop} {env' : Env} {h' : Hp} {a' : Act} {w' : World} (hJ : JOk J) (s : Sim n c ρ S env h a w) (j : JS1 J A g c ρ S h w W N) (hn : ∀ b, N b → b < w.heap.size) (hs : c.w0.heap.size ≤ w.heap.size) (s' : Sim n (c.re w S N hn hs) ρ' S' env' h' a' w') :
    Sim n c ρ' S' env' h' a' w' ∧ JS1 J A g c ρ' S' h' w' W N := by
  have hx : Ext (fun b => c.M b ∧ ¬ N b) w w' := s'.hs.ext
  have hl : ∀ (k : Nat) x p, h'[k]? = some x → x ≠ .gone → ρ' k = some p → c.M p.1 ∧ ¬ N p.1 := fun k x p a1 a2 a3 => (s'.hs.live k x p a1 a2 a3).1
  have hst : ∀ b, S' b → S b ∨ (c.M b ∧ ¬ N b) := fun b hb => s'.hs.st1 b hb
  refine ⟨⟨s'.size, s'.defers, s'.env, s'.hs.re c (fun k x p a1 a2 a3 => (hl k x p a1 a2 a3).1) (s.hs.ext.trans hx fun b hb _ => hb.1) (fun b hb => s'.hs.st0 b (s.hs.st0 b hb)) (fun b hb => (hst b hb).elim (s.hs.st1 b) fun h => .inr h.1) s'.hs.mle s'.hs.keep, s'.cm⟩, ?_⟩
  refine ⟨hJ.st j.j (hx.mono fun b _ hb => hb.2), fun k x p a1 a2 a3 => (hl k x p a1 a2 a3).2, fun b hb hw => ?_, fun b hb h1 h2 => ?_, j.wm, fun b hb => (hst b hb).elim (j.accS b) fun h => j.accM b h.1, j.accM⟩
  · rcases hst b hb with h1 | h1
    · exact j.st b h1 hw
    · exact h1.2 (hJ.sub j.j b hw)
  · rcases hst b hb with h3 | h3
    · obtain ⟨cc, e, fz, h4⟩ := j.cell b h3 h1 h2
      exact ⟨cc, e, fz, by rw [hx.same b (hn b h2) fun h => h.2 h2]; exact h4⟩
    · exact absurd h2 h3.2
theorem JS.sub {L : List Nat} {h' : Hp} (s : HS c ρ S h w) (hl : L.length = h'.length) (hh : SubH (th L h.length) h 0 h') (j : JS J A g c ρ S h w) : JS J A g c (fun k => ρ (th L h.length k)) S h' w := by
  obtain ⟨W, N, j⟩ := j
  refine ⟨W, N, j.j, fun k x p hx hg hp => ?_, j.st, j.cell, j.wm, j.accS, j.accM⟩
  have h1 := hh.get k x hx
  rw [Nat.zero_add] at h1
  exact j.live _ _ p (h1.resolve_left hg) (by cases x <;> simp [AB.map] at *) hp
end

/-- A call of yield at the k-th element. -/
def JYield (P : Program) (l : Nat) (J : JT) (A : Nat → Prop) (items : Nat → List AV) (N : Nat) : Prop :=
  ∀ k, k < N → ∀ W Nn w S vs, J (k, false) W Nn w → (∀ b, S b → A b ∧ ¬ W b ∧ ∃ cc e fz, w.heap[b]? = some (.cells cc e fz)) → RL S w (items k) (fun _ => none) vs →
    YieldAt Fence.wide 0 P l vs.toArray w fun e w' => ∃ (b : Bool) (W' N' : Nat → Prop), e = .returned (.bool b) ∧ J (k + 1, !b) W' N' w' ∧ Ext W w w' ∧ (∀ x, W' x → W x ∨ w.heap.size ≤ x) ∧ (∀ x, N' x → Nn x ∨ S x ∨ w.heap.size ≤ x)

/-- Code that calls yield. -/
def AY (P : Program) (J : JT) (A : Nat → Prop) (n : Nat × Nat) (code : Code) (g : Nat × Bool) (env : Env) (h : Hp) (Q : Nat × Bool → Exit → Env → Hp → Prop) : Prop :=
  ∀ c ρ S a w QQ, Sim n c ρ S env h a w → JS J A g c ρ S h w → (∀ g' e env' h' ρ' S' a' w', Q g' e env' h' → Sim n c ρ' S' env' h' a' w' → JS J A g' c ρ' S' h' w' → QQ e a' w') → code.wpIn (rd c.r) 0 P QQ a w
/-- Operations that call yield. -/
def VY (P : Program) (J : JT) (A : Nat → Prop) (n : Nat × Nat) (ops : Array Oper) (rest : List Oper) (g : Nat × Bool) (env : Env) (h : Hp) (K : Nat × Bool → Env → Hp → Prop) : Prop :=
  ∀ c ρ S a w Q, Sim n c ρ S env h a w → JS J A g c ρ S h w → (∀ e a w, Q e a w → e = Exit.normal) → (∀ g' env' h' ρ' S' a' w', K g' env' h' → Sim n c ρ' S' env' h' a' w' → JS J A g' c ρ' S' h' w' → Q .normal a' w') → wpListIn (rd c.r) 0 P ops Q rest a w
def nextY (K : Nat × Bool → Env → Hp → Prop) (Q : Nat × Bool → Exit → Env → Hp → Prop) : Nat × Bool → Exit → Env → Hp → Prop
  | g, .normal, v, h => K g v h
  | g, e, v, h => Q g e v h
def blockY (id : Nat) (Q : Nat × Bool → Exit → Env → Hp → Prop) : Nat × Bool → Exit → Env → Hp → Prop
  | g, .exit id', v, h => if id' = id then Q g .normal v h else Q g (.exit id') v h
  | g, e, v, h => Q g e v h

section
variable {P : Program} {J : JT} {A : Nat → Prop} {n : Nat × Nat} {g : Nat × Bool} {env : Env} {h : Hp} {Q : Nat × Bool → Exit → Env → Hp → Prop}
theorem ay_aw {code : Code} (hJ : JOk J) (hv : AW P n code env h (fun e v h => Q g e v h)) : AY P J A n code g env h Q := by
  intro c ρ S a w QQ s ⟨W, N, j⟩ hQ
  have hn := hJ.lt j.j
  refine hv (c.re w S N hn s.hs.ext.size) ρ S a w QQ (s.re j hn s.hs.ext.size) fun e env' h' ρ' S' a' w' hq s' => ?_
  obtain ⟨h1, h2⟩ := s.un hJ j hn s.hs.ext.size s'
  exact hQ g e env' h' ρ' S' a' w' hq h1 ⟨W, N, h2⟩
theorem ay_seq {x y : Code} (hx : AY P J A n x g env h (nextY (fun g v h => AY P J A n y g v h Q) Q)) : AY P J A n (.seq x y) g env h Q := by
  intro c ρ S a w QQ s j hQ
  refine wpIn_seq (hx c ρ S a w _ s j fun g' e env' h' ρ' S' a' w' k s' j' => ?_)
  cases e with
  | normal => exact k c ρ' S' a' w' QQ s' j' hQ
  | _ => exact hQ g' _ env' h' ρ' S' a' w' k s' j'
theorem ay_skip (hk : Q g .normal env h) : AY P J A n .skip g env h Q := fun _ _ _ _ _ _ s j hQ => wpIn_skip (hQ _ _ _ _ _ _ _ _ hk s j)
theorem ay_exit {id : Nat} (hk : Q g (.exit id) env h) : AY P J A n (.exit id) g env h Q := fun _ _ _ _ _ _ s j hQ => wpIn_exit (hQ _ _ _ _ _ _ _ _ hk s j)
theorem ay_ret (hk : Q g .ret env h) : AY P J A n .ret g env h Q := fun _ _ _ _ _ _ s j hQ => wpIn_ret (hQ _ _ _ _ _ _ _ _ hk s j)
theorem ay_block {id : Nat} {x : Code} (hx : AY P J A n x g env h (blockY id Q)) : AY P J A n (.block id x) g env h Q := by
  intro c ρ S a w QQ s j hQ
  refine wpIn_block (hx c ρ S a w _ s j fun g' e env' h' ρ' S' a' w' k s' j' => ?_)
  cases e with
  | exit id' =>
    by_cases hid : id' = id
    · simp only [blockY, hid, if_true] at k
      simp only [Exit.inBlock, hid, if_true]
      exact hQ g' _ env' h' ρ' S' a' w' k s' j'
    · simp only [blockY, hid, if_false] at k
      simp only [Exit.inBlock, hid, if_false]
      exact hQ g' _ env' h' ρ' S' a' w' k s' j'
  | _ => exact hQ g' _ env' h' ρ' S' a' w' k s' j'
theorem ay_cond {x : Operand} {b : Bool} {p q : Code} (hx : ev env x = some (.b b)) (ht : b = true → AY P J A n p g env h Q) (hf : b = false → AY P J A n q g env h Q) : AY P J A n (.cond x p q) g env h Q := by
  intro c ρ S a w QQ s j hQ
  have hb := s.ev hx
  simp only [R] at hb
  exact wpIn_cond_split hb (fun h1 => ht h1 c ρ S a w QQ s j hQ) (fun h1 => hf h1 c ρ S a w QQ s j hQ)
theorem ay_condt {x : Operand} {p q : Code} (hx : ev env x = some (.b true)) (ht : AY P J A n p g env h Q) : AY P J A n (.cond x p q) g env h Q :=
  ay_cond hx (fun _ => ht) (fun e => by cases e)
theorem ay_condf {x : Operand} {p q : Code} (hx : ev env x = some (.b false)) (hf : AY P J A n q g env h Q) : AY P J A n (.cond x p q) g env h Q :=
  ay_cond hx (fun e => by cases e) (fun _ => hf)
theorem ay_sub {code : Code} {env' : Env} {h' : Hp} (hs : Sub n.2 env h env' h') (hk : AY P J A n code g env' h' Q) : AY P J A n code g env h Q := by
  intro c ρ S a w QQ s j hQ
  obtain ⟨L, h1, h2, h3, h4, h5⟩ := hs
  exact hk c _ S a w QQ ⟨s.size, s.defers, fun t x hx => R_map _ ρ _ _ (s.env t _ (h2.look t x hx)), s.hs.sub h1 h3 h4 (fun i hi => h5 i (s.cm ▸ hi)), s.cm⟩ (JS.sub s.hs h1 h3 j) hQ
theorem ay_loop {body : Code} {X : Type} (E : X → Env) (H : X → Hp) (G : X → Nat × Bool) (μ : X → Nat) (x0 : X) (hg : g = G x0) (h0 : Sub n.2 env h (E x0) (H x0))
    (round : ∀ x, AY P J A n body (G x) (E x) (H x) (nextY (fun g v h => ∃ x', μ x' < μ x ∧ g = G x' ∧ Sub n.2 v h (E x') (H x')) Q)) : AY P J A n (.loop body) g env h Q := by
  subst hg
  refine ay_sub h0 ?_
  intro c ρ S a w QQ s0 j0 hQ b k cs hro hb hr
  have key : ∀ m x, μ x = m → ∀ ρ S a w, Sim n c ρ S (E x) (H x) a w → JS J A (G x) c ρ S (H x) w → ∃ e a' w', QQ e a' w' ∧ ArrivesIn (Machine.fenced P (rd c.r)) P (lone (b.atR a (.code body :: .inLoop body :: k)) cs w) b k cs e a' w' := by
    intro m
    induction m using Nat.strongRecOn with
    | _ m ih =>
      intro x hx ρ S a w s j
      obtain ⟨e, a₁, w₁, hq, harr⟩ := round x c ρ S a w (fun e a' w' => ∃ g' env' h' ρ' S', nextY (fun g v h => ∃ x', μ x' < μ x ∧ g = G x' ∧ Sub n.2 v h (E x') (H x')) Q g' e env' h' ∧ Sim n c ρ' S' env' h' a' w' ∧ JS J A g' c ρ' S' h' w') s j (fun g' e env' h' ρ' S' a' w' hq s' j' => ⟨g', env', h', ρ', S', hq, s', j'⟩) b (.inLoop body :: k) cs hro hb hr
      obtain ⟨g', env', h', ρ', S', hq, s', j'⟩ := hq
      cases e with
      | normal =>
        obtain ⟨x', hlt, rfl, L, h1, h2, h3, h4, h5⟩ := hq
        have s2 : Sim n c (fun k => ρ' (th L h'.length k)) S' (E x') (H x') a₁ w₁ := ⟨s'.size, s'.defers, fun t x hx => R_map _ ρ' _ _ (s'.env t _ (h2.look t x hx)), s'.hs.sub h1 h3 h4 (fun i hi => h5 i (s'.cm ▸ hi)), s'.cm⟩
        obtain ⟨e₂, a₂, w₂, hq₂, harr₂⟩ := ih (μ x') (hx ▸ hlt) x' rfl _ S' a₁ w₁ s2 (JS.sub s'.hs h1 h3 j')
        exact ⟨e₂, a₂, w₂, hq₂, .of_steps (StepsIn.trans harr (.one (fenced_calm hb hr rfl) stepR_inLoop)) harr₂⟩
      | exit id => exact ⟨_, a₁, w₁, hQ _ _ env' h' ρ' S' a₁ w₁ hq s' j', .pass (x := .inLoop body) rfl (fun _ _ => .inl (by simp)) harr⟩
      | goto l => exact ⟨_, a₁, w₁, hQ _ _ env' h' ρ' S' a₁ w₁ hq s' j', .pass (x := .inLoop body) rfl (fun _ _ => .inl (by simp)) harr⟩
      | ret => exact ⟨_, a₁, w₁, hQ _ _ env' h' ρ' S' a₁ w₁ hq s' j', .pass (x := .inLoop body) rfl (fun _ _ => .inl (by simp)) harr⟩
      | panic ch => exact ⟨_, a₁, w₁, hQ _ _ env' h' ρ' S' a₁ w₁ hq s' j', .pass (x := .inLoop body) rfl (fun _ _ => .inl (by simp)) harr⟩
      | outgrown => exact ⟨_, a₁, w₁, hQ _ _ env' h' ρ' S' a₁ w₁ hq s' j', .pass (x := .inLoop body) rfl (fun _ _ => .inl (by simp)) harr⟩
  obtain ⟨e, a', w', hq, harr⟩ := key _ x0 rfl ρ S a w s0 j0
  exact ⟨e, a', w', hq, .of_steps (.one (fenced_calm hb hr rfl) stepR_loop) harr⟩
theorem ay_region {id : Nat} {l : List Oper} (hv : VY P J A n l.toArray l g env h (fun g v h => Q g .normal v h)) : AY P J A n (.region id l.toArray false) g env h Q := by
  intro c ρ S a w QQ s j hQ
  exact wpIn_mono (wpIn_region_lit (hv c ρ S a w (fun e a w => e = .normal ∧ QQ .normal a w) s j (fun e a w h => h.1) fun g' env' h' ρ' S' a' w' k s' j' => ⟨rfl, hQ g' .normal env' h' ρ' S' a' w' k s' j'⟩)) fun e a w he => by obtain ⟨rfl, h3⟩ := he; exact h3
end

theorem op_monoQ {F : Fence} {m : Nat} {P : Program} {o : Oper} {a : Act} {w : World} {K : Act → World → Prop} {Q Q' : Exit → Act → World → Prop} (hq : ∀ e a w, Q e a w → e = .normal) (h : o.wpIn F m P a w K Q) : o.wpIn F m P a w K Q' := by
  refine ⟨h.1, ?_⟩
  have h := h.2
  have hp : ∀ {ch a w} {p : Prop}, Q (.panic ch) a w → p := fun hh => by have := hq _ _ _ hh; cases this
  have ho : ∀ {p : Prop}, LetsOut Q → p := fun ⟨_, _, hh⟩ => by have := hq _ _ _ hh; cases this
  generalize (o.semAt F.round a.eval).run P w = r at h ⊢
  cases r with
  | ok x w' =>
    cases x <;> simp only [Oper.uponIn] at h ⊢ <;>
      first
        | exact h
        | exact ⟨h.1, h.2.mono (fun e w'' he => by cases e <;> first | exact he | exact hp he | exact ho he)⟩
  | halt x w' => cases x <;> simp only [Oper.uponIn] at h ⊢ <;> first | exact h | exact hp h
theorem wpListIn_app {F : Fence} {m : Nat} {P : Program} {ops : Array Oper} {Q : Exit → Act → World → Prop} {l2 : List Oper} : ∀ {l1 : List Oper} {a : Act} {w : World}, wpListIn F m P ops (fun e a w => e = .normal ∧ wpListIn F m P ops Q l2 a w) l1 a w → wpListIn F m P ops Q (l1 ++ l2) a w
  | [], _, _, h => h.2
  | o :: l1, a, w, h => by
    show wpListIn F m P ops Q (o :: (l1 ++ l2)) a w
    unfold wpListIn at h ⊢
    split at h
    · rename_i hw
      rw [if_pos hw]
      exact op_monoQ (Q := fun e a w => e = .normal ∧ wpListIn F m P ops Q l2 a w) (fun e a w h => h.1) (Oper.wpIn_mono (fun a w h => wpListIn_app h) h)
    · rename_i hw
      rw [if_neg hw]
      exact ⟨h.1, wpListIn_app h.2⟩
section
variable {P : Program} {J : JT} {A : Nat → Prop} {n : Nat × Nat} {g : Nat × Bool} {ops : Array Oper} {env : Env} {h : Hp} {K : Nat × Bool → Env → Hp → Prop}
theorem vy_app {l1 l2 : List Oper} (hJ : JOk J) (hnd : noDef l1 = true) (hv : VC P n ops l1 env h (fun v h => VY P J A n ops l2 g v h K)) : VY P J A n ops (l1 ++ l2) g env h K := by
  intro c ρ S a w Q s ⟨W, N, j⟩ hq hQ
  have hn := hJ.lt j.j
  refine wpListIn_app (wpList_in (fun e a w h => h.1) hnd (hv (c.re w S N hn s.hs.ext.size) ρ S a w (fun e a w => e = .normal ∧ wpListIn (rd c.r) 0 P ops Q l2 a w) (s.re j hn s.hs.ext.size) fun env' h' ρ' S' a' w' k s' => ⟨rfl, ?_⟩))
  obtain ⟨h1, h2⟩ := s.un hJ j hn s.hs.ext.size s'
  exact k c ρ' S' a' w' Q h1 ⟨W, N, h2⟩ hq hQ
/-- The first k operations call no yield. -/
theorem vy_cut (k : Nat) {rest : List Oper} (hJ : JOk J) (hv : VC P n ops (rest.take k) env h (fun v h => VY P J A n ops (rest.drop k) g v h K)) (hnd : noDef (rest.take k) = true := by rfl) : VY P J A n ops rest g env h K := by
  have := vy_app hJ hnd hv
  rwa [List.take_append_drop] at this
/-- No operation that is left calls yield. -/
theorem vy_vc {rest : List Oper} (hJ : JOk J) (hv : VC P n ops rest env h (fun v h => K g v h)) (hnd : noDef rest = true := by rfl) : VY P J A n ops rest g env h K := by
  have := vy_app (l1 := rest) (l2 := []) (A := A) (g := g) (K := K) hJ hnd (hv.mono fun e h k => (fun c ρ S a w Q s j hq hQ => hQ g e h ρ S a w k s j))
  rwa [List.append_nil] at this
/-- A call of yield. -/
theorem vy_yield {d : Option Nat} {x : Operand} {l k N : Nat} {us : List AV} {args : List Operand} {ats : Array TypeId} {ty : TypeId} {pos : String} {af : Array Edge} {items : Nat → List AV} {rest : List Oper} (hJ : JOk J) (hy : JYield P l J A items N) (hx : evu env x = some (.clo (.yield l) [] [])) (ha : evL env args = some us) (hi : AV.idfL us = true) (hk : k < N) (hit : items k = us) (hd : okd d n = true)
    (hb : ∀ b : Bool, VY P J A n ops rest (k + 1, !b) (putd d (.b b) env) h K) : VY P J A n ops (⟨d, .call { callee := .value x, args := args.toArray, argTypes := ats }, ty, pos, af, none⟩ :: rest) (k, false) env h K := by
  intro c ρ S a w Q s ⟨W, Nn, j⟩ hq hQ
  refine wpListIn_plain rfl fun K' hK' => ?_
  have p := s.pre
  have hxv := p.evu hx
  simp only [R, RL] at hxv
  obtain ⟨ys, zs, e1, h1, h2⟩ := hxv
  have e2 : ys = #[] := by cases ys; simp_all
  have e3 : zs = #[] := by cases zs; simp_all
  subst e2 e3
  have hargs := evL_val p ha
  have hS1 : ∀ b, (S b ∧ ∃ cc e fz, w.heap[b]? = some (.cells cc e fz)) → A b ∧ ¬ W b ∧ ∃ cc e fz, w.heap[b]? = some (.cells cc e fz) := fun b hb => ⟨j.accS b hb.1, j.st b hb.1, hb.2⟩
  have hargs1 : RL (fun b => S b ∧ ∃ cc e fz, w.heap[b]? = some (.cells cc e fz)) w (items k) (fun _ => none) (args.map a.eval) := by
    rw [hit]
    exact RL_idf ρ _ _ _ hi (RL_cells (fun b cc e fz q1 q2 => ⟨q1, cc, e, fz, q2⟩) (fun _ _ _ _ h => h) _ _ _ hargs)
  obtain ⟨fn, tmps, assign, body, hrun, hround⟩ := hy k hk W Nn w _ _ j.j hS1 hargs1
  refine ⟨fun _ _ => trivial, ?_⟩
  rw [noDef1_sem rfl]
  have hr2 : (execOp a.eval ⟨d, .call { callee := .value x, args := args.toArray, argTypes := ats }, ty, pos, af, none⟩).run P w = .ok (.round l fn tmps assign body) w := by
    have e4 : (#[] ++ (args.toArray.map a.eval)) = (args.map a.eval).toArray := by
      apply Array.ext'; simp
    simp only [execOp, resolve, e1, Deferred.ofValue, Sem.run_bind, Sem.run_pure, Result.andThen_ok, invoke]
    rw [e4]
    exact hrun
  rw [hr2]
  refine ⟨fun h => (by cases h), ?_⟩
  have hround : RoundIn (rd c.r) (0 - 1) P l fn tmps assign body w _ := hround
  refine hround.mono ?_
  rintro e w' ⟨b, W', N', rfl, j1, hx, hW', hN'⟩
  have hWlt : ∀ b, W b → b < w.heap.size := fun b hb => hJ.lt j.j b (hJ.sub j.j b hb)
  obtain ⟨hs', l'⟩ := s.hs.world hx j.st (fun k y p a1 a2 a3 hw => j.live k y p a1 a2 a3 (hJ.sub j.j _ hw)) (fun b _ hb => j.wm b hb)
  refine hK' _ _ (hb b c ρ S (a.put d (.bool b)) w' Q ⟨by rw [size_put]; exact s.size, by rw [defers_put]; exact s.defers.later l', env_put s.size hd (fun t u hu => (s.env t u hu).later l') (R_v_mk _), hs', s.cm⟩ ⟨W', N', j1, fun k y p a1 a2 a3 hn => ?_, fun b hb hw => ?_, fun b hb h1 h2 => ?_, fun b hb => ?_, j.accS, j.accM⟩ hq hQ)
  · rcases hN' _ hn with hn | hn | hn
    · exact j.live k y p a1 a2 a3 hn
    · exact (s.hs.live k y p a1 a2 a3).2 hn.1
    · have := s.hs.rng k p a3; omega
  · rcases hW' _ hw with hw | hw
    · exact j.st b hb hw
    · have := s.hs.stab b hb; omega
  · have same := hx.same b (s.hs.stab b hb) (j.st b hb)
    rcases hN' _ h2 with h2 | h2 | h2
    · obtain ⟨cc, e, fz, h4⟩ := j.cell b hb h1 h2
      exact ⟨cc, e, fz, by rw [same]; exact h4⟩
    · obtain ⟨cc, e, fz, h4⟩ := h2.2
      exact ⟨cc, e, fz, by rw [same]; exact h4⟩
    · have := s.hs.stab b hb; omega
  · rcases hW' _ hb with hb | hb
    · exact j.wm b hb
    · exact c.new b (Nat.le_trans s.hs.ext.size hb)
end
end Go.Ab
