/-
  A logic of values for the walk: strings.
-/
import Derived.Test.YtcdgmjfmmnklnaaAb43
import Derived.Lib.AppendStr
import Derived.Laws.Concat
import Derived.Laws.Strings
import Derived.Laws.Strings2
import Derived.Laws.Strings3

namespace Go.Ab
open Go
set_option linter.unusedVariables false
set_option linter.unusedSimpArgs false

abbrev AV.s (l : List UInt8) : AV := .v (.string ⟨l.toArray⟩)
def StrT (P : Program) (t : TypeId) : Prop := P.underlying t = some .string

section
variable {P : Program} {env : Env} {h : Hp}
variable {d : Option Nat} {ty : TypeId} {pos : String} {af : Array Edge} {g : Option (Nat × Bool)}
variable {t t2 : TypeId} {x y : Operand} {a b : List UInt8}

theorem eqg (op : BinOp) (t : TypeId) (x y : Operand) (s : ByteArray) (v : Value) : eqGuard op t x y (.string s) v = pure () := by cases op <;> rfl
theorem fs_eqlS (hx : evu env x = some (.s a)) (hy : evu env y = some (.s b)) : FStep P ⟨d, .binOp .eql t x y t2, ty, pos, af, g⟩ env h 0 (fun _ => .b (decide (a = b))) (fun _ => []) := by
  refine fs_val fun ρ S ac w p => ⟨.bool (decide (a = b)), ?_, by simp [R]⟩
  have h1 := R_v (p.evu hx)
  have h2 := R_v (p.evu hy)
  simp [execOp, h1, h2, eqg, binOp_string_eql, binOp_string_neq]
  by_cases hab : a = b <;> simp [hab]
theorem fs_neqS (hx : evu env x = some (.s a)) (hy : evu env y = some (.s b)) : FStep P ⟨d, .binOp .neq t x y t2, ty, pos, af, g⟩ env h 0 (fun _ => .b (!decide (a = b))) (fun _ => []) := by
  refine fs_val fun ρ S ac w p => ⟨.bool (!decide (a = b)), ?_, by simp [R]⟩
  have h1 := R_v (p.evu hx)
  have h2 := R_v (p.evu hy)
  simp [execOp, h1, h2, eqg, binOp_string_eql, binOp_string_neq]
  by_cases hab : a = b <;> simp [hab]
theorem fs_lenS (ht : StrT P t) (hx : evu env x = some (.s a)) : FStep P ⟨d, .call { callee := .builtin .len, args := #[x], argTypes := #[t] }, ty, pos, af, g⟩ env h 0 (fun _ => .i a.length) (fun _ => []) := by
  refine fs_val fun ρ S ac w p => ⟨.int .i64 a.length, ?_, by simp [R]⟩
  have h1 := R_v (p.evu hx)
  have ht' : P.underlying t = some .string := ht
  have e : (⟨a.toArray⟩ : ByteArray).size = a.length := by show a.toArray.size = _; simp
  rw [← e]
  simp [execOp, resolve, invoke, builtin, h1, Builtin.len_, run_underlying ht', goInt]
theorem fs_indexS (ht : StrT P t) {k : IntKind} {j : Int} (hx : evu env x = some (.s a)) (hy : evu env y = some (.v (.int k j))) (h0 : 0 ≤ j) {c : UInt8} (hc : a[j.toNat]? = some c) : FStep P ⟨d, .index t x y, ty, pos, af, g⟩ env h 0 (fun _ => .v (.int .u8 c.toNat)) (fun _ => []) := by
  refine fs_val fun ρ S ac w p => ⟨.int .u8 c.toNat, ?_, by simp [R]⟩
  have h1 := R_v (p.evu hx)
  have h2 := R_v (p.evu hy)
  have ht' : P.underlying t = some .string := ht
  have hlt : j.toNat < a.length := (List.getElem?_eq_some_iff.1 hc).1
  have hs : j.toNat < (⟨a.toArray⟩ : ByteArray).size := by show _ < a.toArray.size; simpa using hlt
  have e : (⟨a.toArray⟩ : ByteArray)[j.toNat]'hs = c := by
    have := (List.getElem?_eq_some_iff.1 hc).2
    rw [← this]
    rfl
  have hr : (Instr.index t (.string ⟨a.toArray⟩) (.int k j)).run P w = .ok (.int .u8 c.toNat) w := by
    rw [run_index_string (P := P) w t ⟨a.toArray⟩ k j ht', dif_pos ⟨h0, by omega⟩, e]
  simp [execOp, h1, h2, hr]
end
end Go.Ab
