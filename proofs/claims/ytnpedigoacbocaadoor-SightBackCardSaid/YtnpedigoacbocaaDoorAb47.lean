/-
  A logic of values for the walk: a map of one's own, as the library's iterators over maps want it.
-/
import Derived.Test.YtnpedigoacbocaaDoorAb46
import Derived.Maps.Views
import Derived.WideShapes
namespace Go.Ab
open Go Go.WideElems
set_option linter.unusedVariables false
set_option linter.unusedSimpArgs false
theorem ownsMap_of {P : Program} {H : Type} {k : TypeId} (hk : P.underlying k = some (.int .i64)) {w : World} {b ck : Nat} {es : Array MapEntry} {ks : List Int} (hb : w.heap[b]? = some (.map es ck)) (st : Stamps es ck) (hkeys : es.toList.map (·.key) = ks.map kI) (hnd : ks.Nodup)
    (hwf : ∀ x, x ∈ ks → -9223372036854775808 ≤ x ∧ x ≤ 9223372036854775807) (hsz : ks.length ≤ maxLen) :
    ∃ D0 : DataW H, w.ownsMap P k (fun _ => some (.nil, [])) b ks.length D0 ∧ (intKeys D0).Perm ks ∧ Maps.size D0 = ks.length := by
  have hl : es.size = ks.length := by
    have := congrArg List.length hkeys
    simpa using this
  have hrd : ∀ x, x ∈ es.toList → ∃ n, n ∈ ks ∧ x.key = kI n ∧ WideElems.rd (H := H) P k (fun _ => some (.nil, [])) x = some (.int .i64 n, .nil) := fun x hx => by
    have : x.key ∈ ks.map kI := by rw [← hkeys]; exact List.mem_map.2 ⟨x, hx, rfl⟩
    obtain ⟨n, hn, he⟩ := List.mem_map.1 this
    have hw : (Lit.int .i64 n).wf = true := by
      have := hwf n hn
      simp only [Lit.wf, Bool.and_eq_true, decide_eq_true_eq]
      exact ⟨by have e : IntKind.i64.min = -9223372036854775808 := rfl; omega, by have e : IntKind.i64.max = 9223372036854775807 := rfl; omega⟩
    refine ⟨n, hn, he.symm, ?_⟩
    unfold WideElems.rd
    rw [← he, Maps.keyOf_int_mk hk hw]
    rfl
  refine ⟨.map ((es.toList.map (WideElems.rg P k fun _ => some (.nil, []))).foldr DataW.insert []), ⟨es, ck, hb, ⟨by omega, ⟨st.2, st.1, by rw [hkeys]; exact List.Pairwise.map _ (fun a b h e => h (by simpa using e)) hnd⟩, fun x hx => by obtain ⟨n, _, _, h⟩ := hrd x hx; exact ⟨_, h⟩⟩, by omega, rfl⟩, ?_, ?_⟩
  · have hp := WideShapes.sorted_perm (es.toList.map (WideElems.rg (H := H) P k fun _ => some (.nil, [])))
    refine (hp.map fun p => intOf p.1).trans ?_
    have e : (es.toList.map (WideElems.rg (H := H) P k fun _ => some (.nil, []))).map (fun p => intOf p.1) = ks := by
      have h1 : ((es.toList.map (WideElems.rg (H := H) P k fun _ => some (.nil, []))).map (fun p => intOf p.1)).map kI = ks.map kI := by
        rw [← hkeys, List.map_map, List.map_map]
        refine List.map_congr_left fun x hx => ?_
        obtain ⟨n, _, h1, h2⟩ := hrd x hx
        simp only [Function.comp, WideElems.rg, h2, Option.getD_some, intOf, h1]
      exact (List.map_inj_right (fun a b h => by simpa using h)).1 h1
    rw [e]
  · have := (WideShapes.sorted_perm (es.toList.map (WideElems.rg (H := H) P k fun _ => some (.nil, [])))).length_eq
    simp only [Maps.size]
    rw [this]; simpa using hl
section
variable {P : Program} {n : Nat × Nat} {ops : Array Oper} {env : Env} {h : Hp} {K : Env → Hp → Prop} {rest : List Oper} {Q : Exit → Env → Hp → Prop} {code : Code}
/-- A nil slice in a variable is an empty buffer of one's own. -/
theorem aw_bufC (k j e : Nat) {cs : List AV} (hk : h[k]? = some (.cells cs)) (hj : cs[j]? = some .nils) (hv : AW P n code env (h.set k (.cells (cs.set j (.sl h.length 0 0 1))) ++ [.buf e []]) Q) : AW P n code env h Q := by
  intro c ρ S a w QQ s hQ
  refine hv c ρ S a w QQ ⟨s.size, s.defers, s.env, ?_, s.cm⟩ hQ
  have h1 := s.hs.alter (b1 := .cells (cs.set j (.sl h.length 0 0 1))) hk (fun hb => by
    simp only [RB] at hb ⊢
    obtain ⟨b, o, ys, h2, h3, h4⟩ := hb
    refine ⟨b, o, ys, h2, h3, RL_setv h4 fun y hy => ?_⟩
    obtain ⟨y', h5, h6⟩ := RL_get h4 _ _ hj
    rw [hy] at h5; cases h5
    rw [R_v h6]
    simp only [R]
    exact ⟨none, 0, rfl, Nat.zero_le _, .inl ⟨trivial, rfl⟩⟩) (by simp)
  have hd := h1.dom h.length (by simp)
  generalize hh : h.set k (.cells (cs.set j (.sl h.length 0 0 1))) = h' at h1 ⊢
  have hl : h.length = h'.length := by rw [← hh]; simp
  rw [hl] at hd
  have get : ∀ {j : Nat} {b : AB}, (h' ++ [.buf e []])[j]? = some b → h'[j]? = some b ∨ (j = h'.length ∧ b = .buf e []) := fun {j b} hj => by
    by_cases hlt : j < h'.length
    · rw [List.getElem?_append_left hlt] at hj; exact .inl hj
    · have := (List.getElem?_eq_some_iff.1 hj).1
      simp at this
      have e : j = h'.length := by omega
      subst e
      simp at hj
      exact .inr ⟨rfl, hj.symm⟩
  refine ⟨fun k hk => h1.dom k (by simp at hk; omega), h1.rng, fun k b hb => ?_, fun k b p hb hg hp => ?_, fun k k' b b' p p' hb hb' hg hg' hp hp' e => ?_, h1.stab, h1.ext, h1.st0, h1.st1, by simp; exact Nat.le_succ_of_le h1.mle, h1.keep, h1.glob⟩
  · rcases get hb with hb | ⟨rfl, rfl⟩
    · exact h1.blk k b hb
    · exact .inl ⟨rfl, hd⟩
  · rcases get hb with hb | ⟨rfl, rfl⟩
    · exact h1.live k b p hb hg hp
    · rw [hd] at hp; cases hp
  · rcases get hb with hb | ⟨rfl, rfl⟩
    · rcases get hb' with hb' | ⟨rfl, rfl⟩
      · exact h1.inj k k' b b' p p' hb hb' hg hg' hp hp' e
      · rw [hd] at hp'; cases hp'
    · rw [hd] at hp; cases hp
end
end Go.Ab
