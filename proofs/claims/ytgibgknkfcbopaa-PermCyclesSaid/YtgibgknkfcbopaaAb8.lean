/-
  A logic of values for the walk, eighth part: renaming of objects, loops, returns, calls.
-/
import Derived.Test.YtgibgknkfcbopaaAb7
import Derived.RangeFuncLeaves
import Derived.RangeFuncRecord
namespace Go.Ab
open Go
set_option linter.unusedVariables false
set_option linter.unusedSimpArgs false

mutual
def AV.map (θ : Nat → Nat) : AV → AV
  | .v x => .v x
  | .any => .any
  | .ptr k off => .ptr (θ k) off
  | .ep k i off sz => .ep (θ k) i off sz
  | .pr cs off => .pr cs off
  | .sl k off len sz => .sl (θ k) off len sz
  | .mp k => .mp (θ k)
  | .row cs len sz => .row cs len sz
  | .agg cs => .agg (AV.mapL θ cs)
  | .tup cs => .tup (AV.mapL θ cs)
  | .clo f cs ds => .clo f (AV.mapL θ cs) (AV.mapL θ ds)
  | .cond b x => .cond b (AV.map θ x)
  | .ifc t x => .ifc t (AV.map θ x)
def AV.mapL (θ : Nat → Nat) : List AV → List AV
  | [] => []
  | x :: xs => AV.map θ x :: AV.mapL θ xs
end
def AB.map (θ : Nat → Nat) : AB → AB
  | .gone => .gone
  | .cells cs => .cells (AV.mapL θ cs)
  | .mapO ks vs => .mapO ks (AV.mapL θ vs)
  | .arr es sz => .arr (es.map (AV.mapL θ)) sz

mutual
theorem R_map {S : Nat → Prop} {w : World} (θ : Nat → Nat) (ρ : Pl) : ∀ (x : AV) (y : Value), R S w (x.map θ) ρ y → R S w x (fun k => ρ (θ k)) y
  | .v x, y, h => by simpa [R, AV.map] using h
  | .any, _, _ => by simp [R]
  | .ptr k off, y, h => by simpa only [R, AV.map] using h
  | .ep k i off sz, y, h => by simpa only [R, AV.map] using h
  | .pr cs off, y, h => by simpa only [R, AV.map] using h
  | .sl k off len sz, y, h => by simpa only [R, AV.map] using h
  | .mp k, y, h => by simpa only [R, AV.map] using h
  | .row cs len sz, y, h => by simpa only [R, AV.map] using h
  | .agg cs, y, h => by
    simp only [R, AV.map] at *
    obtain ⟨ys, h1, h2⟩ := h
    exact ⟨ys, h1, RL_map θ ρ cs _ h2⟩
  | .tup cs, y, h => by
    simp only [R, AV.map] at *
    obtain ⟨ys, h1, h2⟩ := h
    exact ⟨ys, h1, RL_map θ ρ cs _ h2⟩
  | .clo f cs ds, y, h => by
    simp only [R, AV.map] at *
    obtain ⟨ys, zs, h1, h2, h3⟩ := h
    exact ⟨ys, zs, h1, RL_map θ ρ cs _ h2, RL_map θ ρ ds _ h3⟩
  | .cond b x, y, h => by
    simp only [R, AV.map] at *
    exact fun hb => R_map θ ρ x y (h hb)
  | .ifc t x, y, h => by
    simp only [R, AV.map] at *
    obtain ⟨z, h1, h2⟩ := h
    exact ⟨z, h1, R_map θ ρ x z h2⟩
theorem RL_map {S : Nat → Prop} {w : World} (θ : Nat → Nat) (ρ : Pl) : ∀ (xs : List AV) (ys : List Value), RL S w (AV.mapL θ xs) ρ ys → RL S w xs (fun k => ρ (θ k)) ys
  | [], ys, h => by simpa only [RL, AV.mapL] using h
  | x :: xs, ys, h => by
    simp only [RL, AV.mapL] at *
    obtain ⟨y, zs, h1, h2, h3⟩ := h
    exact ⟨y, zs, h1, R_map θ ρ x y h2, RL_map θ ρ xs zs h3⟩
end
mutual
theorem R_map' {S : Nat → Prop} {w : World} (θ : Nat → Nat) (ρ : Pl) : ∀ (x : AV) (y : Value), R S w x (fun k => ρ (θ k)) y → R S w (x.map θ) ρ y
  | .v x, y, h => by simpa [R, AV.map] using h
  | .any, _, _ => by simp [R, AV.map]
  | .ptr k off, y, h => by simpa only [R, AV.map] using h
  | .ep k i off sz, y, h => by simpa only [R, AV.map] using h
  | .pr cs off, y, h => by simpa only [R, AV.map] using h
  | .sl k off len sz, y, h => by simpa only [R, AV.map] using h
  | .mp k, y, h => by simpa only [R, AV.map] using h
  | .row cs len sz, y, h => by simpa only [R, AV.map] using h
  | .agg cs, y, h => by
    simp only [R, AV.map] at *
    obtain ⟨ys, h1, h2⟩ := h
    exact ⟨ys, h1, RL_map' θ ρ cs _ h2⟩
  | .tup cs, y, h => by
    simp only [R, AV.map] at *
    obtain ⟨ys, h1, h2⟩ := h
    exact ⟨ys, h1, RL_map' θ ρ cs _ h2⟩
  | .clo f cs ds, y, h => by
    simp only [R, AV.map] at *
    obtain ⟨ys, zs, h1, h2, h3⟩ := h
    exact ⟨ys, zs, h1, RL_map' θ ρ cs _ h2, RL_map' θ ρ ds _ h3⟩
  | .cond b x, y, h => by
    simp only [R, AV.map] at *
    exact fun hb => R_map' θ ρ x y (h hb)
  | .ifc t x, y, h => by
    simp only [R, AV.map] at *
    obtain ⟨z, h1, h2⟩ := h
    exact ⟨z, h1, R_map' θ ρ x z h2⟩
theorem RL_map' {S : Nat → Prop} {w : World} (θ : Nat → Nat) (ρ : Pl) : ∀ (xs : List AV) (ys : List Value), RL S w xs (fun k => ρ (θ k)) ys → RL S w (AV.mapL θ xs) ρ ys
  | [], ys, h => by simpa only [RL, AV.mapL] using h
  | x :: xs, ys, h => by
    simp only [RL, AV.mapL] at *
    obtain ⟨y, zs, h1, h2, h3⟩ := h
    exact ⟨y, zs, h1, R_map' θ ρ x y h2, RL_map' θ ρ xs zs h3⟩
end
theorem mapL_flatten (θ : Nat → Nat) : ∀ (es : List (List AV)), (es.map (AV.mapL θ)).flatten = AV.mapL θ es.flatten
  | [] => rfl
  | e :: es => by
    have app : ∀ (a b : List AV), AV.mapL θ (a ++ b) = AV.mapL θ a ++ AV.mapL θ b := fun a b => by
      induction a with
      | nil => rfl
      | cons x a ih => simp [AV.mapL, ih]
    simp only [List.map_cons, List.flatten_cons, app, mapL_flatten θ es]
theorem mapL_length (θ : Nat → Nat) : ∀ (l : List AV), (AV.mapL θ l).length = l.length
  | [] => rfl
  | x :: l => by simp [AV.mapL, mapL_length θ l]
theorem RB_map {S : Nat → Prop} {w : World} (θ : Nat → Nat) (ρ : Pl) {p : Option (Nat × Nat)} : ∀ {b : AB}, RB S w ρ p (b.map θ) → RB S w (fun k => ρ (θ k)) p b
  | .gone, _ => trivial
  | .cells cs, h => by
    obtain ⟨b, o, ys, h1, h2, h3⟩ := h
    exact ⟨b, o, ys, h1, h2, RL_map θ ρ _ _ h3⟩
  | .mapO ks vs, h => by
    obtain ⟨b, o, m, ck, h1, h2, h3, h4⟩ := h
    exact ⟨b, o, m, ck, h1, h2, h3, RL_map θ ρ _ _ h4⟩
  | .arr es sz, h => by
    obtain ⟨h1, h2, h3⟩ := h
    refine ⟨fun e he => ?_, h2, ?_⟩
    · have := h1 (AV.mapL θ e) (List.mem_map.2 ⟨e, he, rfl⟩)
      rwa [mapL_length] at this
    · rcases h3 with h3 | ⟨b, o, ys, h4, h5, h6⟩
      · left; simpa using h3
      · rw [mapL_flatten] at h6
        exact .inr ⟨b, o, ys, h4, h5, RL_map θ ρ _ _ h6⟩
theorem RB_map' {S : Nat → Prop} {w : World} (θ : Nat → Nat) (ρ : Pl) {p : Option (Nat × Nat)} : ∀ {b : AB}, RB S w (fun k => ρ (θ k)) p b → RB S w ρ p (b.map θ)
  | .gone, _ => trivial
  | .cells cs, h => by
    obtain ⟨b, o, ys, h1, h2, h3⟩ := h
    exact ⟨b, o, ys, h1, h2, RL_map' θ ρ _ _ h3⟩
  | .mapO ks vs, h => by
    obtain ⟨b, o, m, ck, h1, h2, h3, h4⟩ := h
    exact ⟨b, o, m, ck, h1, h2, h3, RL_map' θ ρ _ _ h4⟩
  | .arr es sz, h => by
    obtain ⟨h1, h2, h3⟩ := h
    refine ⟨fun e he => ?_, h2, ?_⟩
    · obtain ⟨e', he', rfl⟩ := List.mem_map.1 he
      rw [mapL_length]; exact h1 e' he'
    · rcases h3 with h3 | ⟨b, o, ys, h4, h5, h6⟩
      · left; simp [h3]
      · refine .inr ⟨b, o, ys, h4, h5, ?_⟩
        rw [mapL_flatten]; exact RL_map' θ ρ _ _ h6

/-- The objects that are kept, by their old numbers. -/
def th (L : List Nat) (N : Nat) (k : Nat) : Nat := match L[k]? with
  | some j => j
  | none => N

def SubE (θ : Nat → Nat) (env : Env) : Env → Prop
  | [] => True
  | (t, x) :: r => look env t = some (x.map θ) ∧ SubE θ env r
theorem SubE.look {θ : Nat → Nat} {env : Env} : ∀ {env' : Env}, SubE θ env env' → ∀ t x, look env' t = some x → look env t = some (x.map θ)
  | [], _, t, x, h => by cases h
  | (k, u) :: r, h, t, x, hx => by
    rw [look_cons] at hx
    split at hx
    · rename_i he; subst he; cases hx; exact h.1
    · exact SubE.look h.2 t x hx

/-- One heap is a part of another one: its objects in new places. -/
def SubH (θ : Nat → Nat) (h : Hp) : Nat → Hp → Prop
  | _, [] => True
  | i, b :: r => (b = .gone ∨ h[θ i]? = some (b.map θ)) ∧ SubH θ h (i + 1) r
theorem SubH.get {θ : Nat → Nat} {h : Hp} : ∀ {h' : Hp} {i : Nat}, SubH θ h i h' → ∀ (j : Nat) b, h'[j]? = some b → b = .gone ∨ h[θ (i + j)]? = some (b.map θ)
  | [], _, _, j, b, hb => by simp at hb
  | b0 :: r, i, hs, j, b, hb => by
    cases j with
    | zero => simp at hb; subst hb; simpa using hs.1
    | succ j =>
      have := SubH.get hs.2 j b (by simpa using hb)
      rwa [show i + 1 + j = i + (j + 1) by omega] at this

theorem HS.sub {c : Ctx} {ρ : Pl} {S : Nat → Prop} {h h' : Hp} {w : World} {L : List Nat} (s : HS c ρ S h w) (hl : L.length = h'.length) (hh : SubH (th L h.length) h 0 h') (hd : L.Nodup) (hm : ∀ i, i < c.m → L[i]? = some i) : HS c (fun k => ρ (th L h.length k)) S h' w := by
  have old : ∀ {k : Nat} {b : AB}, h'[k]? = some b → b ≠ .gone → h[th L h.length k]? = some (b.map (th L h.length)) := fun {k b} hb hg => by
    have := hh.get k b hb
    rw [Nat.zero_add] at this
    exact this.resolve_left hg
  have ng : ∀ {b : AB}, b ≠ .gone → b.map (th L h.length) ≠ .gone := fun {b} hb => by cases b <;> simp [AB.map] at *
  have at_ : ∀ {k : Nat} {b : AB}, h'[k]? = some b → L[k]? = some (th L h.length k) := fun {k b} hb => by
    have hlt : k < L.length := by rw [hl]; exact (List.getElem?_eq_some_iff.1 hb).1
    unfold th
    rw [List.getElem?_eq_getElem hlt]
  refine ⟨fun k hk => ?_, fun k p hp => s.rng _ p hp, fun k b hb => ?_, fun k b p hb hg hp => s.live _ _ p (old hb hg) (ng hg) hp, fun k k' b b' p p' hb hb' hg hg' hp hp' e => ?_, s.stab, s.ext, s.st0, s.st1, ?_, fun k hk => ?_⟩
  · have : th L h.length k = h.length := by unfold th; rw [List.getElem?_eq_none (by omega)]
    show ρ (th L h.length k) = none
    rw [this]; exact s.dom _ (Nat.le_refl _)
  · by_cases hg : b = .gone
    · subst hg; trivial
    · exact RB_map _ ρ (s.blk _ _ (old hb hg))
  · have h1 := s.inj _ _ _ _ p p' (old hb hg) (old hb' hg') (ng hg) (ng hg') hp hp' e
    have a1 := at_ hb
    have a2 := at_ hb'
    rw [h1, ← a2] at a1
    have hk : k < L.length := by rw [hl]; exact (List.getElem?_eq_some_iff.1 hb).1
    exact (List.getElem?_inj hk hd).1 a1
  · rcases Nat.eq_zero_or_pos c.m with h0 | h0
    · omega
    · have := (List.getElem?_eq_some_iff.1 (hm (c.m - 1) (by omega))).1
      omega
  · have : th L h.length k = k := by unfold th; rw [hm k hk]
    show ρ (th L h.length k) = _
    rw [this]; exact s.keep k hk

/-- Less is known, and the objects have other numbers. -/
def Sub (m : Nat) (env : Env) (h : Hp) (env' : Env) (h' : Hp) : Prop :=
  ∃ L : List Nat, L.length = h'.length ∧ SubE (th L h.length) env env' ∧ SubH (th L h.length) h 0 h' ∧ L.Nodup ∧ ∀ i, i < m → L[i]? = some i

theorem Sim.sub {n : Nat × Nat} {c : Ctx} {ρ : Pl} {S : Nat → Prop} {env env' : Env} {h h' : Hp} {a : Act} {w : World} (s : Sim n c ρ S env h a w) (hs : Sub n.2 env h env' h') : ∃ ρ', Sim n c ρ' S env' h' a w := by
  obtain ⟨L, h1, h2, h3, h4, h5⟩ := hs
  exact ⟨_, s.size, s.defers, fun t x hx => R_map _ ρ _ _ (s.env t _ (h2.look t x hx)), s.hs.sub h1 h3 h4 (fun i hi => h5 i (s.cm ▸ hi)), s.cm⟩

section
variable {P : Program} {n : Nat × Nat} {env : Env} {h : Hp} {Q : Exit → Env → Hp → Prop}

theorem aw_sub {code : Code} {env' : Env} {h' : Hp} (hs : Sub n.2 env h env' h') (hk : AW P n code env' h' Q) : AW P n code env h Q := by
  intro c ρ S a w QQ s hQ
  obtain ⟨ρ', s'⟩ := s.sub hs
  exact hk c ρ' S a w QQ s' hQ

/-- A loop: at each round's head the state is that of some x, and the rounds lower μ. -/
theorem aw_loop {body : Code} {X : Type} (E : X → Env) (H : X → Hp) (μ : X → Nat) (x0 : X) (h0 : Sub n.2 env h (E x0) (H x0))
    (round : ∀ x, AW P n body (E x) (H x) (nextQ (fun v h => ∃ x', μ x' < μ x ∧ Sub n.2 v h (E x') (H x')) Q)) : AW P n (.loop body) env h Q := by
  intro c ρ S a w QQ s hQ
  obtain ⟨ρ0, s0⟩ := s.sub h0
  intro b k cs hro hb hr
  have key : ∀ m x, μ x = m → ∀ ρ S a w, Sim n c ρ S (E x) (H x) a w → ∃ e a' w', QQ e a' w' ∧ ArrivesIn (Machine.fenced P (rd c.r)) P (lone (b.atR a (.code body :: .inLoop body :: k)) cs w) b k cs e a' w' := by
    intro m
    induction m using Nat.strongRecOn with
    | _ m ih =>
      intro x hx ρ S a w s
      obtain ⟨e, a₁, w₁, hq, harr⟩ := round x c ρ S a w (fun e a' w' => ∃ env' h' ρ' S', nextQ (fun v h => ∃ x', μ x' < μ x ∧ Sub n.2 v h (E x') (H x')) Q e env' h' ∧ Sim n c ρ' S' env' h' a' w') s (fun e env' h' ρ' S' a' w' hq s' => ⟨env', h', ρ', S', hq, s'⟩) b (.inLoop body :: k) cs hro hb hr
      obtain ⟨env', h', ρ', S', hq, s'⟩ := hq
      cases e with
      | normal =>
        obtain ⟨x', hlt, hsub⟩ := hq
        obtain ⟨ρ2, s2⟩ := s'.sub hsub
        obtain ⟨e₂, a₂, w₂, hq₂, harr₂⟩ := ih (μ x') (hx ▸ hlt) x' rfl ρ2 S' a₁ w₁ s2
        exact ⟨e₂, a₂, w₂, hq₂, .of_steps (StepsIn.trans harr (.one (fenced_calm hb hr rfl) stepR_inLoop)) harr₂⟩
      | exit id => exact ⟨_, a₁, w₁, hQ _ env' h' ρ' S' a₁ w₁ hq s', .pass (x := .inLoop body) rfl (fun _ _ => .inl (by simp)) harr⟩
      | goto l => exact ⟨_, a₁, w₁, hQ _ env' h' ρ' S' a₁ w₁ hq s', .pass (x := .inLoop body) rfl (fun _ _ => .inl (by simp)) harr⟩
      | ret => exact ⟨_, a₁, w₁, hQ _ env' h' ρ' S' a₁ w₁ hq s', .pass (x := .inLoop body) rfl (fun _ _ => .inl (by simp)) harr⟩
      | panic ch => exact ⟨_, a₁, w₁, hQ _ env' h' ρ' S' a₁ w₁ hq s', .pass (x := .inLoop body) rfl (fun _ _ => .inl (by simp)) harr⟩
      | outgrown => exact ⟨_, a₁, w₁, hQ _ env' h' ρ' S' a₁ w₁ hq s', .pass (x := .inLoop body) rfl (fun _ _ => .inl (by simp)) harr⟩
  obtain ⟨e, a', w', hq, harr⟩ := key _ x0 rfl ρ0 S a w s0
  exact ⟨e, a', w', hq, .of_steps (.one (fenced_calm hb hr rfl) stepR_loop) harr⟩

end

/-! ### Calls -/
/-- Where a call begins that is handed the objects of 'hin'. -/
def ctx0 (w : World) (ρ : Pl) (S : Nat → Prop) (hin : Hp) : Ctx where
  w0 := w
  M := fun b => w.heap.size ≤ b ∨ ∃ (k : Nat) (x : AB) (o : Nat), hin[k]? = some x ∧ x ≠ .gone ∧ ρ k = some (b, o)
  new := fun _ h => .inl h
  S0 := S
  ρ0 := ρ
  m := hin.length
  lo := w.heap.size
  lole := Nat.le_refl _
  r := none

/-- Function f, at these arguments and objects, hands back this, and leaves the objects so; the new ones stand behind them. -/
def ACall (P : Program) (f : FuncId) (args : List AV) (hin : Hp) (res : AV) (hout : Hp) : Prop :=
  (∃ fn, P.funcs[f]? = some fn ∧ (fn.name == "runtime.NumGoroutine") = false ∧ fn.body.isNone = false) ∧
  ∀ ρ S w vs, HS (ctx0 w ρ S hin) ρ S hin w → RL S w args ρ vs →
    Calls P f vs.toArray w fun e w' => ∃ y ρ' S', e = .returned y ∧ HS (ctx0 w ρ S hin) ρ' S' hout w' ∧ R S' w' res ρ' y

def argEnv : Nat → List AV → Env
  | _, [] => []
  | i, x :: xs => (i, x) :: argEnv (i + 1) xs
theorem argEnv_look : ∀ {xs : List AV} {i t : Nat} {x : AV}, look (argEnv i xs) t = some x → i ≤ t ∧ xs[t - i]? = some x
  | [], _, _, _, h => by cases h
  | u :: xs, i, t, x, h => by
    simp only [argEnv, look_cons] at h
    split at h
    · rename_i he; subst he; cases h; exact ⟨Nat.le_refl _, by simp⟩
    · obtain ⟨h1, h2⟩ := argEnv_look h
      exact ⟨by omega, by rw [show t - i = t - (i + 1) + 1 by omega]; simpa using h2⟩

/-- What the result slots hold. -/
def retAV {P : Program} (T : Tab P) (env : Env) (h : Hp) : List ResultVar → Option (List AV)
  | [] => some []
  | .tmp t :: r => match look env t, retAV T env h r with
    | some x, some xs => some (x.un :: xs)
    | _, _ => none
  | .cell a t :: r => match look env a, T.ti t, retAV T env h r with
    | some p, some i, some xs => match behind h p with
      | some (cs, off) => match loadAV i cs off with
        | some z => some (z :: xs)
        | none => none
      | none => none
    | _, _, _ => none
def oneOf : List AV → AV
  | [x] => x
  | xs => .tup xs

def resultOf (tmps : Array Value) : ResultVar → Sem Value
  | .tmp t => pure (tmps.getD t undef)
  | .cell a t => do loadVar t (← asAddr (tmps.getD a undef))
theorem results_eq (fn : Func) (tmps : Array Value) : results fn tmps = (do
    let vs ← fn.results.mapM (resultOf tmps)
    pure (if h : vs.size = 1 then vs[0] else .tuple vs)) := by
  unfold results
  congr 1

theorem results_val {P : Program} (T : Tab P) {S : Nat → Prop} {w : World} {ρ : Pl} {env : Env} {h : Hp} {tmps : Array Value} (hb : ∀ (k : Nat) b, h[k]? = some b → RB S w ρ (ρ k) b) (henv : ∀ t x, look env t = some x → R S w x ρ (tmps.getD t undef)) : ∀ {rs : List ResultVar} {xs : List AV}, retAV T env h rs = some xs →
    ∃ ys : List Value, (rs.mapM (resultOf tmps)).run P w = .ok ys w ∧ RL S w xs ρ ys
  | [], xs, hr => by
    simp only [retAV, Option.some.injEq] at hr
    subst hr
    exact ⟨[], by simp, by simp [RL]⟩
  | .tmp t :: r, xs, hr => by
    simp only [retAV] at hr
    split at hr
    · rename_i x xs' h1 h2
      cases hr
      obtain ⟨ys, h3, h4⟩ := results_val T hb henv h2
      refine ⟨tmps.getD t undef :: ys, by simp [List.mapM_cons, h3, resultOf], ?_⟩
      simp only [RL]
      exact ⟨_, ys, rfl, un_val (henv t x h1), h4⟩
    · cases hr
  | .cell a t :: r, xs, hr => by
    simp only [retAV] at hr
    split at hr
    · rename_i p i xs' h1 ht h2
      split at hr
      · rename_i cs off h5
        split at hr
        · rename_i z h6
          cases hr
          obtain ⟨ys, h3, h4⟩ := results_val T hb henv h2
          have hp := henv a p h1
          obtain ⟨v, h7, h8⟩ := load_val T ht hb hp h5 h6
          obtain ⟨b, o, ρ', h9, _⟩ := behind_val hb hp h5
          rw [h9] at h7
          simp only [Instr.loadAt, Instr.sureAddr, Sem.run_bind, Sem.run_pure, Result.andThen_ok] at h7
          refine ⟨v :: ys, by simp [List.mapM_cons, h3, h9, asAddr, h7, resultOf], ?_⟩
          simp only [RL]
          exact ⟨v, ys, rfl, h8, h4⟩
        · cases hr
      · cases hr
    · cases hr

/-- At a return: the results, and the objects that are handed back. -/
def retQ {P : Program} (T : Tab P) (rs : List ResultVar) (m : Nat) (res : AV) (hout : Hp) (e : Exit) (v : Env) (h : Hp) : Prop :=
  (e = .ret ∨ e = .normal) ∧ ∃ (L : List Nat) (xs : List AV), retAV T v h rs = some xs ∧ oneOf xs = res.map (th L h.length) ∧ L.length = hout.length ∧ SubH (th L h.length) h 0 hout ∧ L.Nodup ∧ ∀ i, i < m → L[i]? = some i

/-! ### The marks are taken off at a function's end -/
mutual
theorem R_cells {S S' : Nat → Prop} {w w' : World} (hS : ∀ (b : Nat) c e fz, S b → w.heap[b]? = some (.cells c e fz) → S' b) (hw : ∀ (b : Nat) c e fz, w.heap[b]? = some (.cells c e fz) → w'.heap[b]? = some (.cells c e fz)) :
    ∀ (x : AV) (ρ : Pl) (y : Value), R S w x ρ y → R S' w' x ρ y
  | .v x, ρ, y, h => by simpa only [R] using h
  | .any, _, _, _ => by simp [R]
  | .ptr k off, ρ, y, h => by simpa only [R] using h
  | .mp k, ρ, y, h => by simpa only [R] using h
  | .ep k i off sz, ρ, y, h => by simpa only [R] using h
  | .pr cs off, _, y, h => by
    simp only [R] at *
    obtain ⟨b, o, ys, h1, h2, h3, h4⟩ := h
    obtain ⟨c, e, fz, h5, h6⟩ := h3
    exact ⟨b, o, ys, h1, hS b c e fz h2 h5, ⟨c, e, fz, hw b c e fz h5, h6⟩, RL_cells hS hw cs _ _ h4⟩
  | .sl k off len sz, ρ, y, h => by
    simp only [R] at *
    obtain ⟨a, cap, h1, h6, h2⟩ := h
    refine ⟨a, cap, h1, h6, ?_⟩
    rcases h2 with h2 | ⟨b, o, h3, h4, h5, ⟨c, e, h7, h8⟩⟩
    · exact .inl h2
    · exact .inr ⟨b, o, h3, h4, h5, c, e, hw _ _ _ _ h7, h8⟩
  | .row cs len sz, _, y, h => by
    simp only [R] at *
    obtain ⟨a, cap, h1, h2, h2n, h2c, h3, h4⟩ := h
    refine ⟨a, cap, h1, h2, h2n, h2c, h3, ?_⟩
    rcases h4 with h4 | ⟨b, o, ys, h5, h6, h7, h8⟩
    · exact .inl h4
    · obtain ⟨c, e, fz, h9, h10⟩ := h7
      exact .inr ⟨b, o, ys, h5, hS b c e fz h6 h9, ⟨c, e, fz, hw b c e fz h9, h10⟩, RL_cells hS hw cs _ _ h8⟩
  | .agg cs, ρ, y, h => by
    simp only [R] at *
    obtain ⟨ys, h1, h2⟩ := h
    exact ⟨ys, h1, RL_cells hS hw cs ρ _ h2⟩
  | .tup cs, ρ, y, h => by
    simp only [R] at *
    obtain ⟨ys, h1, h2⟩ := h
    exact ⟨ys, h1, RL_cells hS hw cs ρ _ h2⟩
  | .clo f cs ds, ρ, y, h => by
    simp only [R] at *
    obtain ⟨ys, zs, h1, h2, h3⟩ := h
    exact ⟨ys, zs, h1, RL_cells hS hw cs ρ _ h2, RL_cells hS hw ds ρ _ h3⟩
  | .cond b x, ρ, y, h => by
    simp only [R] at *
    exact fun hb => R_cells hS hw x ρ y (h hb)
  | .ifc t x, ρ, y, h => by
    simp only [R] at *
    obtain ⟨z, h1, h2⟩ := h
    exact ⟨z, h1, R_cells hS hw x ρ z h2⟩
theorem RL_cells {S S' : Nat → Prop} {w w' : World} (hS : ∀ (b : Nat) c e fz, S b → w.heap[b]? = some (.cells c e fz) → S' b) (hw : ∀ (b : Nat) c e fz, w.heap[b]? = some (.cells c e fz) → w'.heap[b]? = some (.cells c e fz)) :
    ∀ (xs : List AV) (ρ : Pl) (ys : List Value), RL S w xs ρ ys → RL S' w' xs ρ ys
  | [], _, _, h => by simpa only [RL] using h
  | x :: xs, ρ, ys, h => by
    simp only [RL] at *
    obtain ⟨y, zs, h1, h2, h3⟩ := h
    exact ⟨y, zs, h1, R_cells hS hw x ρ y h2, RL_cells hS hw xs ρ zs h3⟩
end
theorem RB_cells {S S' : Nat → Prop} {w w' : World} {ρ : Pl} {p : Option (Nat × Nat)} (hS : ∀ (b : Nat) c e fz, S b → w.heap[b]? = some (.cells c e fz) → S' b) (hw : ∀ (b : Nat) c e fz, w.heap[b]? = some (.cells c e fz) → w'.heap[b]? = some (.cells c e fz)) (hm : ∀ (b : Nat) l ck, w.heap[b]? = some (.map l ck) → w'.heap[b]? = some (.map l ck)) :
    ∀ {x : AB}, RB S w ρ p x → RB S' w' ρ p x
  | .gone, _ => trivial
  | .cells cs, h => by
    obtain ⟨b, o, ys, h1, ⟨c, e, h2, h3⟩, h4⟩ := h
    exact ⟨b, o, ys, h1, ⟨c, e, hw _ _ _ _ h2, h3⟩, RL_cells hS hw _ _ _ h4⟩
  | .mapO ks vs, h => by
    obtain ⟨b, o, m, ck, h1, h2, h3, h4⟩ := h
    exact ⟨b, o, m, ck, h1, hm _ _ _ h2, h3, RL_cells hS hw _ _ _ h4⟩
  | .arr es sz, h => by
    obtain ⟨h0, h00, h⟩ := h
    refine ⟨h0, h00, ?_⟩
    rcases h with h | ⟨b, o, ys, h1, ⟨c, e, h2, h3⟩, h4⟩
    · exact .inl h
    · exact .inr ⟨b, o, ys, h1, ⟨c, e, hw _ _ _ _ h2, h3⟩, RL_cells hS hw _ _ _ h4⟩
theorem put_other {w : World} {b x : Nat} {o : Obj} (h : x ≠ b) : (w.putObj b o).heap[x]? = w.heap[x]? := World.putObj_heap_other h
/-- One mark is taken off. -/
theorem HS.shut1 {c : Ctx} {ρ : Pl} {S : Nat → Prop} {h : Hp} {w : World} {m : Nat} (s : HS c ρ S h w) (hm : w.heap[m]? = some (.deferred (some []))) (hlo : c.w0.heap.size ≤ m) (hS : S m) (h0 : ∀ b, c.S0 b → b < c.w0.heap.size) :
    HS c ρ (fun b => S b ∧ b ≠ m) h (w.putObj m (.deferred none)) ∧ ∀ x y, R S w x ρ y → R (fun b => S b ∧ b ≠ m) (w.putObj m (.deferred none)) x ρ y := by
  have hc : ∀ (b : Nat) c' e fz, w.heap[b]? = some (.cells c' e fz) → b ≠ m := fun b c' e fz hb e' => by rw [e', hm] at hb; cases hb
  have hmm : ∀ (b : Nat) l ck, w.heap[b]? = some (.map l ck) → b ≠ m := fun b l ck hb e' => by rw [e', hm] at hb; cases hb
  have a1 : ∀ (b : Nat) c' e fz, S b → w.heap[b]? = some (.cells c' e fz) → S b ∧ b ≠ m := fun b c' e fz h1 h2 => ⟨h1, hc b c' e fz h2⟩
  have a2 : ∀ (b : Nat) c' e fz, w.heap[b]? = some (.cells c' e fz) → (w.putObj m (.deferred none)).heap[b]? = some (.cells c' e fz) := fun b c' e fz h2 => by rw [put_other (hc b c' e fz h2)]; exact h2
  have a3 : ∀ (b : Nat) l ck, w.heap[b]? = some (.map l ck) → (w.putObj m (.deferred none)).heap[b]? = some (.map l ck) := fun b l ck h2 => by rw [put_other (hmm b l ck h2)]; exact h2
  refine ⟨⟨s.dom, fun k p hp => by rw [World.putObj_size]; exact s.rng k p hp, fun k b hb => RB_cells a1 a2 a3 (s.blk k b hb), fun k b p hb hg hp => ⟨(s.live k b p hb hg hp).1, fun h => (s.live k b p hb hg hp).2 h.1⟩, s.inj, fun b hb => by rw [World.putObj_size]; exact s.stab b hb.1, ?_, fun b hb => ⟨s.st0 b hb, fun e => by have := h0 b hb; omega⟩, fun b hb => s.st1 b hb.1, s.mle, s.keep⟩, fun x y hx => R_cells a1 a2 x ρ y hx⟩
  refine ⟨s.ext.os, s.ext.tape, s.ext.output, by rw [World.putObj_size]; exact s.ext.size, fun b hb hM => ?_, fun b c' e hb => ?_⟩
  · rw [put_other (by omega)]; exact s.ext.same b hb hM
  · obtain ⟨c2, h1, h2⟩ := s.ext.shape b c' e hb
    exact ⟨c2, a2 _ _ _ _ h1, h2⟩
theorem leaves_shut {P : Program} {fn : Func} {tmps : Array Value} {RR : Ending → World → Prop} {c : Ctx} {ρ : Pl} {h : Hp} (hlo : c.w0.heap.size ≤ c.lo) (h0 : ∀ b, c.S0 b → b < c.w0.heap.size) : ∀ (D : List Nat) (S : Nat → Prop) (w : World), HS c ρ S h w → D.Nodup → (∀ b, b ∈ D → S b ∧ w.heap[b]? = some (.deferred (some [])) ∧ c.lo ≤ b) →
    (∀ S' w', HS c ρ S' h w' → (∀ x y, R S w x ρ y → R S' w' x ρ y) → ∃ v, (results fn tmps).run P w' = .ok v w' ∧ RR (.returned v) w') → LeavesInM Fence.wide 0 P fn tmps RR (D.map mark) .returning w
  | [], S, w, s, _, _, hk => by
    have := hk S w s (fun _ _ h => h)
    simpa only [List.map_nil, LeavesInM, LeavesIn] using this
  | m :: D, S, w, s, hnd, hD, hk => by
    rw [List.nodup_cons] at hnd
    obtain ⟨h1, h2, h3⟩ := hD m (by simp)
    obtain ⟨g1, g2⟩ := s.shut1 h2 (by omega) h1 h0
    simp only [List.map_cons, LeavesInM]
    refine ⟨by simp, .inl ⟨m, _, rfl, run_takeDeferred h2, leaves_shut hlo h0 D _ _ g1 hnd.2 (fun b hb => ?_) fun S' w' s' hr => hk S' w' s' fun x y hx => hr x y (g2 x y hx)⟩⟩
    have hne : b ≠ m := fun e => hnd.1 (e ▸ hb)
    obtain ⟨q1, q2, q3⟩ := hD b (by simp [hb])
    exact ⟨⟨q1, hne⟩, by rw [put_other hne]; exact q2, q3⟩

theorem acall {P : Program} (T : Tab P) {f : FuncId} {fn : Func} {code : Code} {n : Nat} {args : List AV} {hin hout : Hp} {res : AV} (hf : P.funcs[f]? = some fn) (hb : fn.body = some code) (hnm : (fn.name == "runtime.NumGoroutine") = false) (hn : fn.ntmps = n) (ha : Nat.ble args.length n = true)
    (haw : AW P (n, hin.length) code (argEnv 0 args) hin (retQ T fn.results.toList hin.length res hout)) : ACall P f args hin res hout := by
  refine ⟨⟨fn, hf, hnm, by rw [hb]; rfl⟩, ?_⟩
  intro ρ S w vs hs hargs
  have hlen := RL_length hargs
  have hle := Nat.le_of_ble_eq_true ha
  refine (callsIn_wide (n := 0)).1 (callsIn_of_wp_marks (F := Fence.wide) hf hb trivial ?_ rfl)
  refine haw (ctx0 w ρ S hin) ρ S _ w _ ⟨?_, Marks.nil rfl _ _, fun t x hx => ?_, hs, rfl⟩ ?_
  · simp [hn]; omega
  · obtain ⟨_, h1⟩ := argEnv_look hx
    simp only [Nat.sub_zero] at h1
    obtain ⟨y, h2, h3⟩ := RL_get hargs t x h1
    have hlt : t < vs.length := (List.getElem?_eq_some_iff.1 h2).1
    have : (vs.toArray ++ Array.replicate (fn.ntmps - vs.toArray.size) undef).getD t undef = y := by
      rw [Array.getD_eq_getD_getElem?, Array.getElem?_append_left (by simpa using hlt)]
      simp [h2]
    rw [this]; exact h3
  · intro e env' h' ρ' S' a' w' hq s
    obtain ⟨he, L, xs, h1, h2, h3, h4, h5, h6⟩ := hq
    have fin : ∀ S2 w2, HS (ctx0 w ρ S hin) ρ' S2 h' w2 → (∀ x y, R S' w' x ρ' y → R S2 w2 x ρ' y) → ∃ v, (results fn a'.tmps).run P w2 = .ok v w2 ∧ (fun e w' => ∃ y ρ' S', e = Ending.returned y ∧ HS (ctx0 w ρ S hin) ρ' S' hout w' ∧ R S' w' res ρ' y) (.returned v) w2 := fun S2 w2 s2 hr => by
      have hs' := s2.sub h3 h4 h5 (fun i hi => h6 i hi)
      obtain ⟨ys, h7, h8⟩ := results_val T s2.blk (fun t x hx => hr _ _ (s.env t x hx)) h1
      have hres : ∃ y, (results fn a'.tmps).run P w2 = .ok y w2 ∧ R S2 w2 (oneOf xs) ρ' y := by
        have hm : (fn.results.mapM (resultOf a'.tmps)).run P w2 = .ok ys.toArray w2 := by
          rw [Array.mapM_eq_mapM_toList]
          simp only [Sem.run_map, h7, Result.andThen_ok]
        have hl := RL_length h8
        rw [results_eq]
        simp only [Sem.run_bind, hm, Result.andThen_ok, Sem.run_pure]
        refine ⟨_, rfl, ?_⟩
        match xs, ys, h8, hl with
        | [x], [y], h8, _ =>
          simp only [RL] at h8
          obtain ⟨y', zs, e1, h9, _⟩ := h8
          cases e1
          simpa [oneOf] using h9
        | [], [], h8, _ =>
          simp only [oneOf, R]
          exact ⟨#[], by simp, by simp [RL]⟩
        | x :: x2 :: xs, y :: y2 :: ys, h8, _ =>
          simp only [oneOf, R]
          refine ⟨(y :: y2 :: ys).toArray, ?_, by simpa using h8⟩
          rw [dif_neg (by simp)]
      obtain ⟨y, h9, h10⟩ := hres
      rw [h2] at h10
      exact ⟨y, h9, y, _, S2, rfl, hs', R_map _ ρ' _ _ h10⟩
    obtain ⟨⟨D, hD1, hD2, hD3⟩, _⟩ := s.defers
    have hl : LeavesInM Fence.wide 0 P fn a'.tmps (fun e w' => ∃ y ρ' S', e = Ending.returned y ∧ HS (ctx0 w ρ S hin) ρ' S' hout w' ∧ R S' w' res ρ' y) a'.defers .returning w' := by
      rw [hD1]
      exact leaves_shut (c := ctx0 w ρ S hin) (Nat.le_refl _) (fun b hb => hs.stab b hb) D S' w' s.hs hD2 hD3 fin
    rcases he with rfl | rfl
    · exact hl
    · exact hl

end Go.Ab
