/-
  HoldBack: what is read of an encoding, and what then happens to the tables.
-/
import Derived.Test.YtgnnbmgljadokaaGreatDoorHoS
import Derived.Test.YtgnnbmgljadokaaGreatDoorHoE
namespace Go.Proofs.YtgnnbmgljadokaaGreatDoor
open Go Go.Ab Go.Ho Go.MapKept Go.Wr
set_option linter.unusedVariables false
set_option linter.unusedSimpArgs false
theorem boolT : BoolT Tryz.prog 4 := by unfold BoolT; kernel_rfl
attribute [local irreducible] VC AW FStep ACall BoolT StrT
set_option maxHeartbeats 4000000

theorem fs_ptrNeqNilF {P : Program} {env : Env} {h : Hp} {d : Option Nat} {ty : TypeId} {pos : String} {af : Array Edge} {g : Option (Nat × Bool)} {t t2 te : TypeId} {x y : Operand} (ht : P.underlying t = some (.pointer te)) (hx : evu env x = some (.v (.pointer none))) (hy : evu env y = some (.v (.pointer none))) :
    FStep P ⟨d, .binOp .neq t x y t2, ty, pos, af, g⟩ env h 0 (fun _ => .b false) (fun _ => []) := by
  refine fs_val fun ρ S a w p => ⟨.bool false, ?_, by simp [R]⟩
  have h1 := R_v (p.evu hx)
  have h2 := R_v (p.evu hy)
  have ht' : P.underlying t = some (.pointer (P.pointee t)) := by simp [Program.pointee, ht]
  have hq : eqGuard .neq t x y (.pointer none) (.pointer none) = pure () := by rfl
  have hr : (binOp .neq t (.pointer none) (.pointer none)).run P w = .ok (.bool false) w := by rw [run_neq_pointer_nil (P := P) w t none ht']; rfl
  simp [execOp, h1, h2, hq, hr]
theorem fs_eqlSS {env : Env} {h : Hp} {d : Option Nat} {t t2 : TypeId} {ty : TypeId} {pos : String} {af : Array Edge} {g : Option (Nat × Bool)} {x y : Operand} {a : List UInt8} {P : Program} (hx : evu env x = some (.s a)) (hy : evu env y = some (.s a)) : FStep P ⟨d, .binOp .eql t x y t2, ty, pos, af, g⟩ env h 0 (fun _ => .b true) (fun _ => []) := fs_eqlST hx hy rfl
theorem readN_c {l : List UInt8} (hl : l.length ≤ 100000000) (h : readT l = none) : ACall Tryz.prog 10 [.s l] [] (.tup [.v (.pointer none), .b false]) [] := by
  have := read_c l hl
  rw [h] at this
  exact this
theorem readS_c {l : List UInt8} {m : Tb} (hl : l.length ≤ 100000000) (h : readT l = some m) : ACall Tryz.prog 10 [.s l] [] (.tup [.ptr 0 0, .b true]) (tb m) := by
  have := read_c l hl
  rw [h] at this
  exact this
end Go.Proofs.YtgnnbmgljadokaaGreatDoor
