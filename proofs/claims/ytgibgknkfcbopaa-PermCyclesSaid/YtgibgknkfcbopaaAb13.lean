/-
  A logic of values for the walk, thirteenth part: the steps through a region that draws its order; objects that no longer change.
-/
import Derived.Test.YtgibgknkfcbopaaAb12
namespace Go.Ab
open Go
set_option linter.unusedVariables false
set_option linter.unusedSimpArgs false

theorem stE_range {env : Env} {all : List Eff} : ∀ (s n : Nat), s + n = all.length → stE env all (List.range' s n) = (all.drop s).foldr (fun f e => putd f.d f.x e) env
  | s, 0, h => by rw [List.drop_of_length_le (by omega)]; rfl
  | s, n + 1, h => by
    have hlt : s < all.length := by omega
    rw [List.range'_succ, List.drop_eq_getElem_cons hlt]
    simp only [stE, List.getElem?_eq_getElem hlt, List.foldr_cons]
    rw [stE_range (s + 1) n (by omega)]
theorem seg_true : ∀ (i : Nat) (l : List Eff), seg (fun _ => true) i l = l.flatMap (·.new)
  | _, [] => rfl
  | i, f :: r => by simp only [seg, List.flatMap_cons, seg_true (i + 1) r]

def envOf (env : Env) : List Eff → Env
  | [] => env
  | f :: r => putd f.d f.x (envOf env r)
def hpOf : List Eff → Hp
  | [] => []
  | f :: r => f.new ++ hpOf r
theorem envOf_eq (env : Env) : ∀ l : List Eff, envOf env l = l.foldr (fun f e => putd f.d f.x e) env
  | [] => rfl
  | f :: r => by simp only [envOf, List.foldr_cons, envOf_eq env r]
theorem hpOf_eq : ∀ l : List Eff, hpOf l = l.flatMap (·.new)
  | [] => rfl
  | f :: r => by simp only [hpOf, List.flatMap_cons, hpOf_eq r]

section
variable {P : Program} {n : Nat × Nat} {ops : Array Oper} {pres : List (List Nat)} {ds : List Nat} {env : Env} {h : Hp} {effs : List Eff} {K : Env → Hp → Prop} {pre : List Nat}
variable {op : Op} {ty : TypeId} {pos : String} {af : Array Edge} {d : Option Nat}

/-- The frame that the next operation sees. -/
theorem dv_v {u : AV} (hp : pres[effs.length]? = some pre) (ho : ops[effs.length]? = some ⟨d, op, ty, pos, af, none⟩) (hs : FStep P ⟨d, op, ty, pos, af, none⟩ (stE env effs pre) (h ++ seg (fun j => pre.any (Nat.beq j)) 0 effs) 0 (fun _ => u) (fun _ => []))
    (hk : DV P n ops pres ds env h (effs ++ [⟨d, u, []⟩]) K) : DV P n ops pres ds env h effs K :=
  dv_step (f := ⟨d, u, []⟩) rfl hp ⟨_, ho, rfl, .inl ⟨fun _ => u, fun _ => [], .inl rfl, hs, rfl, rfl⟩⟩ hk
theorem dv_n {u : Nat → AV} {b : Nat → List AB} {m : Nat} (hp : pres[effs.length]? = some pre) (ho : ops[effs.length]? = some ⟨d, op, ty, pos, af, none⟩) (hs : FStep P ⟨d, op, ty, pos, af, none⟩ (stE env effs pre) (h ++ seg (fun j => pre.any (Nat.beq j)) 0 effs) m u b)
    (hm : (b (h ++ seg (fun j => pre.any (Nat.beq j)) 0 effs).length).length = m)
    (hk : DV P n ops pres ds env h (effs ++ [⟨d, u (h ++ seg (fun j => pre.any (Nat.beq j)) 0 effs).length, b (h ++ seg (fun j => pre.any (Nat.beq j)) 0 effs).length⟩]) K) : DV P n ops pres ds env h effs K :=
  dv_step rfl hp ⟨_, ho, rfl, .inl ⟨u, b, .inl rfl, by simp only [hm]; exact hs, rfl, rfl⟩⟩ hk
theorem dv_gt {u : AV} {g t : Nat} {want : Bool} (hp : pres[effs.length]? = some pre) (ho : ops[effs.length]? = some ⟨d, op, ty, pos, af, some (g, want)⟩) (hj : (ops[g]?).bind (·.dst) = some t) (hl : look (stE env effs pre) t = some (.b want)) (hs : FStep P ⟨d, op, ty, pos, af, none⟩ (stE env effs pre) (h ++ seg (fun j => pre.any (Nat.beq j)) 0 effs) 0 (fun _ => u) (fun _ => []))
    (hk : DV P n ops pres ds env h (effs ++ [⟨d, u, []⟩]) K) : DV P n ops pres ds env h effs K :=
  dv_step (f := ⟨d, u, []⟩) rfl hp ⟨_, ho, rfl, .inl ⟨fun _ => u, fun _ => [], .inr ⟨g, want, t, rfl, hj, hl⟩, hs, rfl, rfl⟩⟩ hk
theorem dv_gf {g t : Nat} {want : Bool} (hp : pres[effs.length]? = some pre) (ho : ops[effs.length]? = some ⟨d, op, ty, pos, af, some (g, want)⟩) (hj : (ops[g]?).bind (·.dst) = some t) (hl : look (stE env effs pre) t = some (.b (!want)))
    (hk : DV P n ops pres ds env h (effs ++ [⟨d, .v undef, []⟩]) K) : DV P n ops pres ds env h effs K :=
  dv_step rfl hp ⟨_, ho, rfl, .inr ⟨g, want, t, rfl, hj, .inl hl, rfl, rfl⟩⟩ hk
theorem dv_gu {g t : Nat} {want : Bool} (hp : pres[effs.length]? = some pre) (ho : ops[effs.length]? = some ⟨d, op, ty, pos, af, some (g, want)⟩) (hj : (ops[g]?).bind (·.dst) = some t) (hl : look (stE env effs pre) t = some (.v undef))
    (hk : DV P n ops pres ds env h (effs ++ [⟨d, .v undef, []⟩]) K) : DV P n ops pres ds env h effs K :=
  dv_step rfl hp ⟨_, ho, rfl, .inr ⟨g, want, t, rfl, hj, .inr hl, rfl, rfl⟩⟩ hk
/-- A guard that is not decided: two ways. -/
theorem dv_split {g t : Nat} {want b : Bool} (hp : pres[effs.length]? = some pre) (ho : ops[effs.length]? = some ⟨d, op, ty, pos, af, some (g, want)⟩) (hj : (ops[g]?).bind (·.dst) = some t) (hl : look (stE env effs pre) t = some (.b b))
    (ht : b = true → DV P n ops pres ds env h effs K) (hf : b = false → DV P n ops pres ds env h effs K) : DV P n ops pres ds env h effs K := by
  cases b
  · exact hf rfl
  · exact ht rfl
theorem dv_fin {rest : List Oper} {env' : Env} {h' : Hp} (hl : effs.length = pres.length) (hd : dstsOf effs = ds) (hr : ops.toList.drop pres.length = rest) (he : envOf env effs = env') (hh : h ++ hpOf effs = h')
    (hk : VC P n ops rest env' h' K) : DV P n ops pres ds env h effs K := by
  refine dv_end hl hd ?_
  rw [← hl, List.range_eq_range', stE_range 0 effs.length (by omega), List.drop_zero, ← envOf_eq, seg_true, ← hpOf_eq, hl, hr, he, hh]
  exact hk
end

/-! ### Objects that no longer change -/
theorem R_st {S S' : Nat → Prop} {w : World} {ρ : Pl} {x : AV} {y : Value} (hS : ∀ b, S b → S' b) (h : R S w x ρ y) : R S' w x ρ y :=
  R_later hS (fun _ _ => rfl) x ρ ρ y (fun _ _ h => h) (fun _ _ _ _ _ h => h) h
theorem RL_st {S S' : Nat → Prop} {w : World} {ρ : Pl} {x : List AV} {y : List Value} (hS : ∀ b, S b → S' b) (h : RL S w x ρ y) : RL S' w x ρ y :=
  RL_later hS (fun _ _ => rfl) x ρ ρ y (fun _ _ h => h) (fun _ _ _ _ _ h => h) h

theorem frz_val {S : Nat → Prop} {w : World} {ρ : Pl} {k sz : Nat} {es : List (List AV)} (hi : AV.idfL es.flatten = true) (hb : RB S w ρ (ρ k) (.arr es sz)) {y : Value} (hy : R S w (.sl k 0 es.length sz) ρ y) : R (fun c => S c ∨ ∃ o, ρ k = some (c, o)) w (.rowE es sz) ρ y := by
  simp only [RB] at hb
  obtain ⟨hl, h0, hb⟩ := hb
  simp only [R] at hy ⊢
  obtain ⟨a, cap, rfl, hcm, hc⟩ := hy
  rcases hc with ⟨h1, rfl⟩ | ⟨b, o, h5, rfl, h7, h8⟩
  · exact ⟨a, 0, rfl, by omega, fun _ => rfl, hcm, length_flatten_of hl, .inl h1⟩
  · refine ⟨_, cap, rfl, h7, (fun e => by cases e), hcm, length_flatten_of hl, ?_⟩
    rcases hb with rfl | ⟨b', o', ys, g1, g2, g3⟩
    · exact .inl rfl
    · rw [h5] at g1
      cases g1
      exact .inr ⟨b, o, ys, by simp, .inr ⟨o, h5⟩, g2.lies, RL_st (fun _ h => .inl h) (RL_idf ρ _ _ _ hi g3)⟩

theorem HS.freeze {c : Ctx} {ρ : Pl} {S : Nat → Prop} {h : Hp} {w : World} {k sz : Nat} {es : List (List AV)} (s : HS c ρ S h w) (hk : h[k]? = some (.arr es sz)) : HS c ρ (fun b => S b ∨ ∃ o, ρ k = some (b, o)) (h.set k .gone) w := by
  have get : ∀ {j : Nat} {b : AB}, (h.set k .gone)[j]? = some b → b ≠ .gone → j ≠ k ∧ h[j]? = some b := fun {j b} hj hg => by
    rw [List.getElem?_set] at hj
    split at hj
    · split at hj
      · cases hj; exact absurd rfl hg
      · cases hj
    · rename_i e; exact ⟨fun e' => e e'.symm, hj⟩
  have l : Later ρ ρ S (fun b => S b ∨ ∃ o, ρ k = some (b, o)) w w := ⟨fun _ _ h => h, fun _ h => .inl h, fun _ _ => rfl, fun _ _ _ _ _ h => h⟩
  refine ⟨fun j hj => s.dom j (by simpa using hj), s.rng, fun j b hb => ?_, fun j b p hb hg hp => ?_, fun j j' b b' p p' hb hb' hg hg' hp hp' e => s.inj j j' b b' p p' (get hb hg).2 (get hb' hg').2 hg hg' hp hp' e, fun b hb => ?_, s.ext, fun b hb => .inl (s.st0 b hb), fun b hb => ?_, by simpa using s.mle, s.keep⟩
  · by_cases hg : b = .gone
    · subst hg; trivial
    · exact RB.later l (fun _ _ _ => rfl) (s.blk j b (get hb hg).2)
  · obtain ⟨h1, h2⟩ := s.live j b p (get hb hg).2 hg hp
    refine ⟨h1, fun hs => ?_⟩
    rcases hs with hs | ⟨o, ho⟩
    · exact h2 hs
    · exact (get hb hg).1 (s.inj j k b _ p _ (get hb hg).2 hk hg (by simp) hp ho rfl)
  · rcases hb with hb | ⟨o, ho⟩
    · exact s.stab b hb
    · exact s.rng k _ ho
  · rcases hb with hb | ⟨o, ho⟩
    · exact s.st1 b hb
    · exact .inr (s.live k _ _ hk (by simp) ho).1

theorem Sim.freeze {n : Nat × Nat} {c : Ctx} {ρ : Pl} {S : Nat → Prop} {env : Env} {h : Hp} {a : Act} {w : World} {t k len sz : Nat} {es : List (List AV)} (s : Sim n c ρ S env h a w) (ht : look env t = some (.sl k 0 len sz)) (hk : h[k]? = some (.arr es sz)) (hn : len = es.length) (hi : AV.idfL es.flatten = true) :
    Sim n c ρ (fun b => S b ∨ ∃ o, ρ k = some (b, o)) ((t, .rowE es sz) :: env) (h.set k .gone) a w := by
  refine ⟨s.size, s.defers.st (fun _ h => .inl h), fun t' x hx => ?_, s.hs.freeze hk, s.cm⟩
  rw [look_cons] at hx
  split at hx
  · rename_i e
    subst e
    cases hx
    have := s.env t _ ht
    rw [hn] at this
    exact frz_val hi (s.hs.blk k _ hk) this
  · exact R_st (fun _ h => .inl h) (s.env t' x hx)

section
variable {P : Program} {n : Nat × Nat} {ops : Array Oper} {env : Env} {h : Hp} {K : Env → Hp → Prop} {rest : List Oper} {Q : Exit → Env → Hp → Prop} {code : Code}
theorem vc_frz (t : Nat) {k len sz : Nat} {es : List (List AV)} (ht : look env t = some (.sl k 0 len sz)) (hk : h[k]? = some (.arr es sz)) (hn : len = es.length) (hi : AV.idfL es.flatten = true) (hv : VC P n ops rest ((t, .rowE es sz) :: env) (h.set k .gone) K) : VC P n ops rest env h K :=
  fun c ρ S a w Q s hQ => hv c ρ _ a w Q (s.freeze ht hk hn hi) hQ
theorem aw_frz (t : Nat) {k len sz : Nat} {es : List (List AV)} (ht : look env t = some (.sl k 0 len sz)) (hk : h[k]? = some (.arr es sz)) (hn : len = es.length) (hi : AV.idfL es.flatten = true) (hv : AW P n code ((t, .rowE es sz) :: env) (h.set k .gone) Q) : AW P n code env h Q :=
  fun c ρ S a w QQ s hQ => hv c ρ _ a w QQ (s.freeze ht hk hn hi) hQ

theorem HS.none {c : Ctx} {ρ : Pl} {S : Nat → Prop} {h : Hp} {w : World} (s : HS c ρ S h w) (hm : c.m = 0) : HS c (fun _ => none) S [] w :=
  ⟨fun _ _ => rfl, (fun _ _ h => by cases h), (fun _ _ hb => by simp at hb), (fun _ _ _ hb => by simp at hb), (fun _ _ _ _ _ _ hb => by simp at hb), s.stab, s.ext, s.st0, s.st1, (by rw [hm]; exact Nat.zero_le _), (fun _ hk => by omega)⟩
/-- A slice that is handed back and that nobody writes any more. -/
theorem acall_frz {f : FuncId} {args : List AV} {es : List (List AV)} {len sz : Nat} (hn : len = es.length) (hi : AV.idfL es.flatten = true) (h : ACall P f args [] (.sl 0 0 len sz) [.arr es sz]) : ACall P f args [] (.rowE es sz) [] := by
  refine ⟨h.1, fun ρ S w vs hs ha => (h.2 ρ S w vs hs ha).mono ?_⟩
  rintro e w' ⟨y, ρ', S', rfl, h2, h3⟩
  rw [hn] at h3
  exact ⟨y, _, _, rfl, (h2.freeze (k := 0) rfl).none rfl, R_idf ρ' _ _ _ rfl (frz_val hi (h2.blk 0 _ rfl) h3)⟩
theorem acall_frz2 {f : FuncId} {args : List AV} {es : List (List AV)} {len sz : Nat} {u : AV} (hn : len = es.length) (hi : AV.idfL es.flatten = true) (hu : u.idf = true) (h : ACall P f args [] (.tup [.sl 0 0 len sz, u]) [.arr es sz]) : ACall P f args [] (.tup [.rowE es sz, u]) [] := by
  refine ⟨h.1, fun ρ S w vs hs ha => (h.2 ρ S w vs hs ha).mono ?_⟩
  rintro e w' ⟨y, ρ', S', rfl, h2, h3⟩
  rw [hn] at h3
  simp only [R, RL] at h3
  obtain ⟨ys, rfl, y1, z1, e1, h4, y2, z2, e2, h5, e3⟩ := h3
  refine ⟨_, _, _, rfl, (h2.freeze (k := 0) rfl).none rfl, ?_⟩
  simp only [AV.rowE]
  unfold R
  refine ⟨ys, rfl, ?_⟩
  rw [e1, e2, e3]
  simp only [RL]
  refine ⟨y1, _, rfl, R_idf ρ' _ _ _ rfl (frz_val hi (h2.blk 0 _ rfl) ?_), y2, _, rfl, R_st (fun _ h => .inl h) (R_idf ρ' _ _ _ hu h5), rfl⟩
  simp only [R]
  exact h4
end
end Go.Ab
