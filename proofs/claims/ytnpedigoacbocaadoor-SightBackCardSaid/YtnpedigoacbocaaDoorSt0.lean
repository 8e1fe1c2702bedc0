/-
  Layer 17: the library's functions: slices.Sort, maps.Keys with slices.Sorted, maps.Clone, strings.Builder, strconv.Itoa.
-/
import Derived.Test.YtnpedigoacbocaaDoorAb47
import Derived.Test.YtnpedigoacbocaaDoorTab
import Derived.Shelf.Lay
import Derived.Shelf.Strings.Builder1
import Derived.Shelf.Strconv.Itoa4
import Derived.Ground.NamesProg
namespace Go.Proofs.YtnpedigoacbocaaDoor
open Go Go.Ab Go.Shelf Go.Proofs
set_option linter.unusedVariables false
set_option linter.unusedSimpArgs false
shelf_lay LaysM.n246 Nm 246 at Tryd as laysFmt
theorem format_c (n : Int) (h0 : -9223372036854775808 ≤ n) (h1 : n ≤ 9223372036854775807) : ACall Tryd.prog 40 [.i n, .i 10] [] (.s (Go.Lib.itoa n)) [] :=
  acall_format (name := "internal/strconv.uint64pow10") (gi := 3) (tab := Go.Lib.pow10Tab) ⟨_, Tryd.func40, by kernel_rfl, by kernel_rfl⟩ (fun n w h2 h3 h4 => Any.internal_strconv_FormatInt_10 laysFmt n h2 h3 w h4) (by kernel_rfl) (by unfold globTab Go.Lib.pow10Tab; simp [List.map_map, Function.comp_def]) n h0 h1
theorem sizeB : (Tryd.prog.info? 74).map (·.size) = some 2 := by kernel_rfl
theorem liesB : liesAt Tryd.prog Tryd.prog.depth 74 (2 / Tryd.prog.cellsOf 74) 0 74 1 = true := by kernel_rfl
theorem undP : Tryd.prog.underlying 94 = some .unsafePointer := by kernel_rfl
theorem undB : Tryd.prog.underlying 71 = some (.pointer 74) := by kernel_rfl
set_option maxHeartbeats 1000000 in
set_option maxRecDepth 100000 in
theorem cc_fresh (b : Nat) (w : World) (h0 : w.cell? ⟨b, 0, none⟩ = some (.pointer none)) (hsh : w.shape? b = some (74, 2)) (hfz : w.frozen? ⟨b, 0, none⟩ = false) :
    Calls Tryd.prog 41 #[.pointer (some ⟨b, 0, none⟩)] w fun e w' => e = .returned (.tuple #[]) ∧ w' = w.setCell ⟨b, 0, none⟩ (.pointer (some ⟨b, 0, none⟩)) := by
  obtain ⟨j, hj, hjs⟩ := Option.map_eq_some_iff.1 sizeB
  go_enter Tryd.func41, Tryd.ntmps41
  go_wp2
  rw [Go.Lib.run_to_unsafe w ⟨b, 0, none⟩ undB undP hj (by rw [hjs]; decide) hsh (Nat.zero_lt_succ 1)]
  simp only [Result.andThen]
  rw [Oper.upon_value]
  go_wp2
  rw [run_callFunc_extern Tryd.func53 (by kernel_rfl) (by kernel_rfl) (by kernel_rfl) (e := Extern.AbiNoEscape.same) (by kernel_rfl)]
  rw [Go.Lib.run_noEscape]
  simp only [Result.andThen]
  rw [Oper.upon_value]
  go_wp2
  rw [Go.Lib.run_from_unsafe w ⟨b, 0, none⟩ undP undB hj hsh liesB]
  simp only [Result.andThen]
  rw [Oper.upon_value]
  go_wp2
  go_end0
  exact ⟨rfl, rfl⟩
theorem ccFresh_c (x : AV) : ACall Tryd.prog 41 [.ptr 0 0] [.var 74 [.v (.pointer none), x]] (.tup []) [.cells [.ptr 0 0, x]] :=
  acall_ccFresh ⟨_, Tryd.func41, by kernel_rfl, by kernel_rfl⟩ (fun b w h1 h2 h3 => cc_fresh b w h1 h2 h3)
end Go.Proofs.YtnpedigoacbocaaDoor
