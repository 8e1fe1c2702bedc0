/-
  A logic of values for the walk: strings.Builder's methods, strconv.Itoa, the sorted keys of a map, maps.Clone, as contracts.
-/
import Derived.Test.YtcdgmjfmmnklnaaAb45
import Derived.Test.YtcdgmjfmmnklnaaAb36
import Derived.Deep.Draws
import Derived.Lib.LaidTab
import Derived.Lib.ItoaNum
import Derived.Lib.Builder
import Derived.Laws.Pointers

namespace Go.Ab
open Go
set_option linter.unusedVariables false
set_option linter.unusedSimpArgs false

section
variable {P : Program}

theorem HS.made {c : Ctx} {ρ : Pl} {S : Nat → Prop} {h : Hp} {w w' : World} {x : AV} {b : AB} {y : Value} {q : Option (Nat × Nat)} (s : HS c ρ S h w) (hext : Ext (fun _ => False) w w')
    (hq : ∀ p, q = some p → w.heap.size ≤ p.1 ∧ p.1 < w'.heap.size)
    (hv : ∀ ρ' : Pl, ρ' h.length = q → (∀ k, k ≠ h.length → ρ' k = ρ k) → Later ρ ρ' S S w w' → R S w' x ρ' y ∧ RB S w' ρ' q b) :
    ∃ ρ', HS c ρ' S (h ++ [b]) w' ∧ R S w' x ρ' y ∧ Later ρ ρ' S S w w' := by
  let ρ' : Pl := fun k => if k = h.length then q else ρ k
  have hd := s.dom h.length (Nat.le_refl _)
  have e1 : ρ' h.length = q := if_pos rfl
  have e2 : ∀ k, k ≠ h.length → ρ' k = ρ k := fun k hk => if_neg hk
  have l : Later ρ ρ' S S w w' := ⟨fun k p hp => by rw [e2 k (fun e => by rw [e, hd] at hp; cases hp)]; exact hp, fun _ h => h, fun b hb => hext.same b (s.stab b hb) (fun h => h), fun _ _ _ _ _ hr => hext.room hr⟩
  obtain ⟨v1, v2⟩ := hv ρ' e1 e2 l
  refine ⟨ρ', s.post (m := 1) (new := [b]) (x := x) (y := y) ⟨hext, rfl, fun k hk => e2 k (by omega), fun _ h => h, fun _ h => .inl h, fun k p hk1 hk2 hp => ?_, fun k k' p p' a1 a2 a3 a4 _ _ _ => by omega, v1, fun j b' hb => ?_⟩, v1, l⟩
  · have : k = h.length := by omega
    subst this
    rw [e1] at hp
    obtain ⟨g1, g2⟩ := hq p hp
    exact ⟨g1, g2, fun hS => by have := s.stab _ hS; omega⟩
  · cases j with
    | zero =>
      simp only [List.getElem?_cons_zero, Option.some.injEq] at hb
      subst hb
      rw [Nat.add_zero, e1]; exact v2
    | succ j => simp at hb

theorem ext_below {w w' : World} (h : RowKit.Below w.heap.size w w') : Ext (fun _ => False) w w' :=
  ⟨h.os, h.tape, h.output, h.size, fun b hb _ => h.block b hb, fun b c e fz hc => ⟨c, fz, by rw [h.block b (Array.getElem?_eq_some_iff.1 hc).1]; exact hc, rfl⟩⟩
theorem HS.kept {c : Ctx} {ρ : Pl} {S : Nat → Prop} {h : Hp} {w w' : World} (s : HS c ρ S h w) (hext : Ext (fun _ => False) w w') : HS c ρ S h w' := by
  have := s.post (m := 0) (new := []) (x := .any) (y := .nilIface) (ρ' := ρ) (S' := S) (w' := w') ⟨hext, rfl, fun _ _ => rfl, fun _ h => h, fun _ h => .inl h, fun k p a1 a2 _ => by omega, fun k k' p p' a1 a2 => by omega, by simp [R], fun j b hb => by simp at hb⟩
  simpa using this

end
end Go.Ab
