/-
  A logic of values for the walk: is a slice nil that is only read?
-/
import Derived.Test.YtgibgknkfcbopaaAb32
namespace Go.Ab
open Go
set_option linter.unusedVariables false
set_option linter.unusedSimpArgs false
section
variable {P : Program} {env : Env} {h : Hp} {n : Nat × Nat} {ops : Array Oper} {rest : List Oper} {K : Env → Hp → Prop} {ty : TypeId} {pos : String} {af : Array Edge}
theorem vc_eqNil {t t2 e len sz dd : Nat} {cs : List AV} {x y : Operand} (T : Tab P) (hx : evu env x = some (.row cs len sz)) (hy : evu env y = some .nils) (ht : T.elem t = some e) (hd : okd (some dd) n = true)
    (hk : ∀ b : Bool, (0 < len → b = false) → VC P n ops rest ((dd, .b b) :: env) h K) : VC P n ops (⟨some dd, .binOp .eql t x y t2, ty, pos, af, none⟩ :: rest) env h K := by
  intro c ρ S a w Q s hQ
  refine wpList_plain rfl fun K' hK' => ?_
  have p := s.pre
  have h3 := p.evu hx
  simp only [R] at h3
  obtain ⟨ad, cap, h4, hlc, hn, _⟩ := h3
  have h5 := R_v (p.evu hy)
  have run : (execOp a.eval ⟨some dd, .binOp .eql t x y t2, ty, pos, af, none⟩).run P w = .ok (.value (.bool ad.isNone)) w := by
    have he := Lib.run_eql_slice_nil w t e ad len cap 0 0 (T.elemOk _ _ ht)
    have hg : (eqGuard .eql t x y (.slice ad len cap) (.slice none 0 0)).run P w = .ok () w := by cases ad <;> rfl
    simp [execOp, h4, h5, hg, he]
  have hv := hk ad.isNone (fun h0 => by
    cases ad with
    | none => have := hn rfl; omega
    | some _ => rfl)
  unfold Oper.wp
  rw [run]
  have hs := s.post (d := some dd) (m := 0) (x := .b ad.isNone) (new := []) (y := .bool ad.isNone) hd ⟨Ext.refl _ _, rfl, fun _ _ => rfl, fun _ h => h, fun _ h => .inl h, fun k p h1 h2 => by omega, fun k k' p p' h1 h2 => by omega, R_v_mk _, fun j b hb => by simp at hb⟩
  rw [List.append_nil] at hs
  exact hK' _ _ (hv c ρ S _ w Q hs hQ)
end
end Go.Ab
