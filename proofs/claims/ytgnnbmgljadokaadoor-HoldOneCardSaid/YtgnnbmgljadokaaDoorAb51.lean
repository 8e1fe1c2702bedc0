/-
  A logic of values for the walk: states that entail one another, loops over heaps of any length, maps whose values are slices of their own.
-/
import Derived.Test.YtgnnbmgljadokaaDoorAb50
namespace Go.Ab
open Go Go.MapKept
set_option linter.unusedVariables false
set_option linter.unusedSimpArgs false
/-- What holds in one state holds in the other one. -/
def Ent (n : Nat × Nat) (env : Env) (h : Hp) (env' : Env) (h' : Hp) : Prop :=
  ∀ c ρ S a w, Sim n c ρ S env h a w → ∃ ρ' S', Sim n c ρ' S' env' h' a w
def EnvLe (env : Env) : Env → Prop
  | [] => True
  | (t, x) :: r => look env t = some x ∧ EnvLe env r
theorem EnvLe.look {env : Env} : ∀ {env' : Env}, EnvLe env env' → ∀ t x, look env' t = some x → look env t = some x
  | [], _, t, x, h => by cases h
  | (k, u) :: r, h, t, x, hx => by
    rw [look_cons] at hx
    split at hx
    · rename_i he; subst he; cases hx; exact h.1
    · exact EnvLe.look h.2 t x hx
section
variable {P : Program} {n : Nat × Nat} {env env' : Env} {h h' : Hp} {Q : Exit → Env → Hp → Prop} {code : Code}
theorem Ent.of (he : h = h') (hv : EnvLe env env') : Ent n env h env' h' := fun _ ρ S _ _ s => by
  subst he; exact ⟨ρ, S, s.fewer hv.look⟩
theorem Ent.sub (hs : Sub n.2 env h env' h') : Ent n env h env' h' := fun _ _ S _ _ s =>
  let ⟨ρ', s'⟩ := s.sub hs; ⟨ρ', S, s'⟩
theorem Ent.trans {env2 : Env} {h2 : Hp} (a : Ent n env h env' h') (b : Ent n env' h' env2 h2) : Ent n env h env2 h2 := fun c ρ S a' w s => by
  obtain ⟨ρ', S', s'⟩ := a c ρ S a' w s
  exact b c ρ' S' a' w s'
theorem aw_ent (env' : Env) (h' : Hp) (he : Ent n env h env' h') (hv : AW P n code env' h' Q) : AW P n code env h Q := fun c ρ S a w QQ s hQ => by
  obtain ⟨ρ', S', s'⟩ := he c ρ S a w s
  exact hv c ρ' S' a w QQ s' hQ
theorem aw_loopE {body : Code} {X : Type} (E : X → Env) (H : X → Hp) (μ : X → Nat) (x0 : X) (h0 : Ent n env h (E x0) (H x0))
    (round : ∀ x, AW P n body (E x) (H x) (nextQ (fun v h => ∃ x', μ x' < μ x ∧ Ent n v h (E x') (H x')) Q)) : AW P n (.loop body) env h Q := by
  intro c ρ S a w QQ s hQ
  obtain ⟨ρ0, S0, s0⟩ := h0 c ρ S a w s
  intro b k cs hro hb hr
  have key : ∀ m x, μ x = m → ∀ ρ S a w, Sim n c ρ S (E x) (H x) a w → ∃ e a' w', QQ e a' w' ∧ ArrivesIn (Machine.fenced P (rd c.r)) P (lone (b.atR a (.code body :: .inLoop body :: k)) cs w) b k cs e a' w' := by
    intro m
    induction m using Nat.strongRecOn with
    | _ m ih =>
      intro x hx ρ S a w s
      obtain ⟨e, a₁, w₁, hq, harr⟩ := round x c ρ S a w (fun e a' w' => ∃ env' h' ρ' S', nextQ (fun v h => ∃ x', μ x' < μ x ∧ Ent n v h (E x') (H x')) Q e env' h' ∧ Sim n c ρ' S' env' h' a' w') s (fun e env' h' ρ' S' a' w' hq s' => ⟨env', h', ρ', S', hq, s'⟩) b (.inLoop body :: k) cs hro hb hr
      obtain ⟨env', h', ρ', S', hq, s'⟩ := hq
      cases e with
      | normal =>
        obtain ⟨x', hlt, hsub⟩ := hq
        obtain ⟨ρ2, S2, s2⟩ := hsub _ _ _ _ _ s'
        obtain ⟨e₂, a₂, w₂, hq₂, harr₂⟩ := ih (μ x') (hx ▸ hlt) x' rfl ρ2 S2 a₁ w₁ s2
        exact ⟨e₂, a₂, w₂, hq₂, .of_steps (StepsIn.trans harr (.one (fenced_calm hb hr rfl) stepR_inLoop)) harr₂⟩
      | exit id => exact ⟨_, a₁, w₁, hQ _ env' h' ρ' S' a₁ w₁ hq s', .pass (x := .inLoop body) rfl (fun _ _ => .inl (by simp)) harr⟩
      | goto l => exact ⟨_, a₁, w₁, hQ _ env' h' ρ' S' a₁ w₁ hq s', .pass (x := .inLoop body) rfl (fun _ _ => .inl (by simp)) harr⟩
      | ret => exact ⟨_, a₁, w₁, hQ _ env' h' ρ' S' a₁ w₁ hq s', .pass (x := .inLoop body) rfl (fun _ _ => .inl (by simp)) harr⟩
      | panic ch => exact ⟨_, a₁, w₁, hQ _ env' h' ρ' S' a₁ w₁ hq s', .pass (x := .inLoop body) rfl (fun _ _ => .inl (by simp)) harr⟩
      | outgrown => exact ⟨_, a₁, w₁, hQ _ env' h' ρ' S' a₁ w₁ hq s', .pass (x := .inLoop body) rfl (fun _ _ => .inl (by simp)) harr⟩
  obtain ⟨e, a', w', hq, harr⟩ := key _ x0 rfl ρ0 S0 a w s0
  exact ⟨e, a', w', hq, .of_steps (.one (fenced_calm hb hr rfl) stepR_loop) harr⟩

/-- An empty slice of one's own, that is nowhere yet. -/
theorem ent_ghost (sz : Nat) (hs : 0 < sz) : Ent n env h env (h ++ [.arr [] sz]) := fun c ρ S a w s => by
  refine ⟨ρ, S, s.size, s.defers, s.env, ?_, s.cm⟩
  have hd := s.hs.dom h.length (Nat.le_refl _)
  have get : ∀ {j : Nat} {b : AB}, (h ++ [.arr [] sz])[j]? = some b → h[j]? = some b ∨ (j = h.length ∧ b = .arr [] sz) := fun {j b} hj => by
    by_cases hlt : j < h.length
    · rw [List.getElem?_append_left hlt] at hj; exact .inl hj
    · have := (List.getElem?_eq_some_iff.1 hj).1
      simp at this
      have e : j = h.length := by omega
      subst e
      simp at hj
      exact .inr ⟨rfl, hj.symm⟩
  refine ⟨fun k hk => s.hs.dom k (by simp at hk; omega), s.hs.rng, fun k b hb => ?_, fun k b p hb hg hp => ?_, fun k k' b b' p p' hb hb' hg hg' hp hp' e => ?_, s.hs.stab, s.hs.ext, s.hs.st0, s.hs.st1, by simp; exact Nat.le_succ_of_le s.hs.mle, s.hs.keep, s.hs.glob⟩
  · rcases get hb with hb | ⟨rfl, rfl⟩
    · exact s.hs.blk k b hb
    · simp only [RB]; exact ⟨(fun e he => by cases he), hs, .inl ⟨trivial, fun b o e => by rw [hd] at e; cases e⟩⟩
  · rcases get hb with hb | ⟨rfl, rfl⟩
    · exact s.hs.live k b p hb hg hp
    · rw [hd] at hp; cases hp
  · rcases get hb with hb | ⟨rfl, rfl⟩
    · rcases get hb' with hb' | ⟨rfl, rfl⟩
      · exact s.hs.inj k k' b b' p p' hb hb' hg hg' hp hp' e
      · rw [hd] at hp'; cases hp'
    · rw [hd] at hp; cases hp
theorem R_nilsl {S : Nat → Prop} {w : World} {ρ : Pl} (k sz : Nat) : R S w (.sl k 0 0 sz) ρ (.slice none 0 0) := by
  simp only [R]; exact ⟨none, 0, rfl, Nat.zero_le _, .inl ⟨trivial, rfl⟩⟩
/-- A slice that stands in a map is not written any more. -/
theorem ent_frzV {k q len sz j : Nat} {ks : List Value} {vs : List AV} {es : List (List AV)} (hk : h[k]? = some (.mapO ks vs)) (hj : vs[j]? = some (.sl q 0 len sz)) (hq : h[q]? = some (.arr es sz)) (hn : len = es.length) (hi : AV.idfL es.flatten = true) :
    Ent n env h env ((h.set q .gone).set k (.mapO ks (vs.set j (.rowE es sz)))) := fun c ρ S a w s => by
  have hkq : q ≠ k := fun e => by rw [e, hk] at hq; cases hq
  refine ⟨ρ, fun b => S b ∨ ∃ o, ρ q = some (b, o), s.size, s.defers.st (fun _ h => .inl h), fun t x hx => R_st (fun _ h => .inl h) (s.env t x hx), ?_, s.cm⟩
  have g := s.hs.freeze hq
  have hk' : (h.set q .gone)[k]? = some (.mapO ks vs) := by rw [List.getElem?_set_ne hkq]; exact hk
  have hB := g.blk k _ hk'
  have hB2 := hB
  simp only [RB] at hB2
  obtain ⟨b, o, l, ck, h1, h2, h3, h4⟩ := hB2
  refine (g.upd hk' (by simp) h1 (Ext.refl _ w) (fun _ => ?_)).1
  simp only [RB]
  refine ⟨b, o, l, ck, rfl, h2, h3, ?_⟩
  have h0 := s.hs.blk k _ hk
  simp only [RB] at h0
  obtain ⟨b', o', l', ck', h1', h2', h3', h4'⟩ := h0
  rw [h1] at h1'; cases h1'
  rw [h2] at h2'; cases h2'
  obtain ⟨y, hy, hR⟩ := RL_get h4' j _ hj
  have hv := frz_val hi (s.hs.blk q _ hq) (hn ▸ hR)
  have := RL_set h4 j hv
  rwa [show (List.map (fun x => x.val) l.toList).set j y = List.map (fun x => x.val) l.toList from by
    apply List.ext_getElem?
    intro i
    rw [List.getElem?_set]
    split
    · rename_i e
      subst e
      split
      · exact hy.symm
      · rename_i e2; have := (List.getElem?_eq_some_iff.1 hy).1; exact absurd this e2
    · rfl] at this
theorem ent_frzVs {k sz : Nat} {ks : List Value} : ∀ (L : List (Nat × List (List AV))) (don : List AV) {h : Hp}, h[k]? = some (.mapO ks (don ++ L.map fun e => .sl e.1 0 e.2.length sz)) → (∀ e, e ∈ L → h[e.1]? = some (.arr e.2 sz)) → (L.map (·.1)).Nodup → (∀ e, e ∈ L → AV.idfL e.2.flatten = true) →
    ∃ h', h'.length = h.length ∧ (∀ j, j ≠ k → j ∉ L.map (·.1) → h'[j]? = h[j]?) ∧ h'[k]? = some (.mapO ks (don ++ L.map fun e => AV.rowE e.2 sz)) ∧ ∀ (n : Nat × Nat) (env : Env), Ent n env h env h'
  | [], don, h, hk, _, _, _ => ⟨h, rfl, fun _ _ _ => rfl, hk, fun _ _ c ρ S a w s => ⟨ρ, S, s⟩⟩
  | e :: L, don, h, hk, ho, hnd, hi => by
    have hq := ho e (by simp)
    have hkq : e.1 ≠ k := fun e' => by rw [e', hk] at hq; cases hq
    have hj : (don ++ (e :: L).map fun e => AV.sl e.1 0 e.2.length sz)[don.length]? = some (.sl e.1 0 e.2.length sz) := by simp
    have hset : (don ++ (e :: L).map fun e => AV.sl e.1 0 e.2.length sz).set don.length (AV.rowE e.2 sz) = (don ++ [AV.rowE e.2 sz]) ++ L.map fun e => AV.sl e.1 0 e.2.length sz := by
      rw [List.set_append_right _ _ (Nat.le_refl _)]; simp
    simp only [List.map_cons, List.nodup_cons] at hnd
    have hkl : k < h.length := (List.getElem?_eq_some_iff.1 hk).1
    obtain ⟨h', h1, h2, h3, h4⟩ := ent_frzVs L (don ++ [AV.rowE e.2 sz]) (h := (h.set e.1 .gone).set k (.mapO ks ((don ++ (e :: L).map fun e => AV.sl e.1 0 e.2.length sz).set don.length (AV.rowE e.2 sz)))) (by rw [List.getElem?_set_self (by simpa using hkl), hset]) (fun e' he' => by
      have h5 := ho e' (by simp [he'])
      have h6 : e'.1 ≠ k := fun e2 => by rw [e2, hk] at h5; cases h5
      rw [List.getElem?_set_ne (Ne.symm h6), List.getElem?_set_ne (fun e2 => hnd.1 (by rw [e2]; exact List.mem_map.2 ⟨e', he', rfl⟩))]
      exact h5) hnd.2 (fun e' he' => hi e' (by simp [he']))
    refine ⟨h', by rw [h1]; simp, fun j hjk hjL => ?_, by rw [h3]; simp, fun n env => (ent_frzV hk hj hq rfl (hi e (by simp))).trans (h4 n env)⟩
    simp only [List.map_cons, List.mem_cons, not_or] at hjL
    rw [h2 j hjk hjL.2, List.getElem?_set_ne (Ne.symm hjk), List.getElem?_set_ne (Ne.symm hjL.1)]
end
/-- A drawn region in which one operation writes, whatever object it is. -/
theorem chkS_one {l : List Oper} {pres : List (List Nat)} {ds : List Nat} {bads : List (List Nat)} {n s k : Nat} (h : chkDraw l pres ds bads n = true) (hs : Nat.blt s pres.length = true) : chkDrawS l pres ds bads [(s, k)] n = true := by
  simp [chkDrawS, okS, h, hs]
section
variable {P : Program} {env : Env} {h : Hp}
theorem aw_drawT {n : Nat × Nat} {Q : Exit → Env → Hp → Prop} {id : Nat} {l : List Oper} (k nt : Nat) (presl pres : List (List Nat)) (ds : List Nat) (bads : List (List Nat)) (hm : P.follows .mixedOrders = true) (hn : n.1 = nt) (hc : chkTail l presl k = true) (hok : chkDraw (l.take k) pres ds bads nt = true)
    (hv : DW P n (l.take k) pres ds bads (dropE ds env) h 0 (dropE ds env) [] (fun v h => VC P n l.toArray (l.drop k) v h (fun v h => Q .normal v h))) (hnd : noDef (l.take k) = true := by rfl) (hnd2 : noDef (l.drop k) = true := by rfl) : AW P n (.region id l.toArray true) env h Q := by
  intro c ρ S a w QQ s hQ
  have hkl := (chkTail_ok hc).2.1
  have hany := any_draw2 pres ds bads (by rw [hn]; exact hok) hv c ρ S a w (fun e a w => e = .normal ∧ wpListIn (rd c.r) 0 P l.toArray (fun e a w => e = .normal ∧ QQ .normal a w) (l.drop k) a w) s fun env' h' ρ' S' a' w' kv s' =>
    ⟨rfl, wpList_in (fun e a w h => h.1) hnd2 (kv c ρ' S' a' w' _ s' fun env2 h2 ρ2 S2 a2 w2 k2 s2 => ⟨rfl, hQ .normal env2 h2 ρ2 S2 a2 w2 k2 s2⟩)⟩
  have hrep : ∀ m j, (Array.replicate m false).getD j false = false := fun m j => by
    simp only [Array.getD]
    split <;> simp
  refine wpIn_mono (wpIn_region_any (Q := fun e a w => e = .normal ∧ QQ .normal a w) hm (any_split_in hc hnd (fun e a w h => h.1) (fun a w h => h.2) (l.take k).toArray.size l.toArray.size _ (Array.replicate (l.take k).toArray.size false) (List.range k) a _ (by simp) (by simp; omega) (fun j hj => by rw [hrep, hrep]) (fun j hj => hrep _ _) (fun i o ho hi => by rw [hrep] at hi; cases hi) (fun j hj _ => List.mem_range.2 hj) (by simp; omega) (by simp; omega) hany)) fun e a w he => by obtain ⟨rfl, h3⟩ := he; exact h3
end
section
variable {P : Program} {env : Env} {h : Hp}
variable {d : Option Nat} {ty : TypeId} {pos : String} {af : Array Edge} {g : Option (Nat × Bool)}
variable {t kt et : TypeId} {good : Value → Prop} {x y : Operand} {k : Nat} {kv : Value} {ks : List Value} {vs : List AV}
theorem fs_mapMiss1 (ht : P.underlying t = some (.map kt et)) (ko : KeyOk P kt good) {z : Value} {zA : AV} (hz : ∀ w, (zeroValue et).run P w = .ok z w) (hzA : ∀ (S : Nat → Prop) (w : World) (ρ : Pl), R S w zA ρ z) (hx : evu env x = some (.mp k)) {yv : AV} (hy : evu env y = some yv) (hyv : IsV yv kv) (hk : h[k]? = some (.mapO ks vs)) (hkeys : ∀ q, q ∈ ks → good q) (hkey : good kv) (hni : kv ∉ ks) :
    FStep P ⟨d, .lookup t x y false, ty, pos, af, g⟩ env h 0 (fun _ => zA) (fun _ => []) := by
  refine fs_val fun ρ S a w p => ?_
  have h1 := p.evu hx
  simp only [R] at h1
  obtain ⟨b, o, h2, h3⟩ := h1
  have h4 := hyv _ _ _ _ (p.evu hy)
  obtain ⟨b', o', l, ck, h5, h6, h7, h8⟩ := map_find (p.blk k _ hk)
  rw [h2] at h5; cases h5
  have h9 := find_none ko w h7 hkeys hkey hni
  refine ⟨z, ?_, hzA S w ρ⟩
  simp [execOp, h3, h4, Instr.lookup, run_underlying ht, MapKept.run_getObj_map h6, ko.check w _ hkey, h9, hz]
end
end Go.Ab
