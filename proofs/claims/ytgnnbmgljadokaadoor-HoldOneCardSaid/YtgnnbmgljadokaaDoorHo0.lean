/-
  Layer 17: the library's functions: slices.Sort, maps.Keys with slices.Sorted, maps.Clone, strings.Builder, strconv.Itoa.
-/
import Derived.Test.YtgnnbmgljadokaaDoorAb47
import Derived.Test.YtgnnbmgljadokaaDoorTab
import Derived.Shelf.Lay
import Derived.Shelf.Sort.Plain
import Derived.Shelf.Slices.In.SortNone
import Derived.Shelf.Strings.Builder1
import Derived.Shelf.Strconv.Itoa4
import Derived.Shelf.SlIterI.Sorted
import Derived.Shelf.SlIterI.Nil
import Derived.Shelf.SlMaps.Clone
import Derived.Ground.NamesProg
import Derived.Ground.GgzProg
import Derived.Ground.SlmcProg
namespace Go.Proofs.YtgnnbmgljadokaaDoor
open Go Go.Ab Go.Shelf Go.Proofs
set_option linter.unusedVariables false
set_option linter.unusedSimpArgs false
shelf_lay Lays.n189 Nm 189 at Tryd as laysSort
shelf_lay LaysM.n246 Nm 246 at Tryd as laysFmt
shelf_lay_g SlLaysZI.n7 Ggz 7 at Tryd 23 as laysKeysA
shelf_lay_g SlLaysZI.n6 Ggz 6 at Tryd 22 as laysSorted
shelf_lay_g SlLaysZI.n7 Ggz 7 at Tryd 26 as laysKeysB
shelf_lay_g SlLaysW.n5 Slmc 5 at Tryd 45 as laysClone
theorem sort_c (l : List Int) (hl : l.length ≤ 1000000) : ACall Tryd.prog 36 [.sl 0 0 l.length 1] [.arr (ints l) 1] (.tup []) [.arr (ints (sorted l)) 1] :=
  acall_sort ⟨_, Tryd.func36, by kernel_rfl, by kernel_rfl⟩ (fun blk off cap zs w h1 h2 h3 => Any.slices_Sort_int laysSort blk off cap zs w h1 h2 h3) (fun p cap w => Any.slices_Sort_int_none laysSort p cap w) l (by omega)
theorem sorts (m : Nat) : AnyZI.SortsIn Tryd.prog laysSorted_ren Fence.wide m :=
  ⟨fun blk off cap ss W hH hblk hsz => callsIn_wide.2 (Any.slices_Sort_int laysSort blk off cap ss W hH hblk hsz),
   fun p cap W => callsIn_wide.2 (Any.slices_Sort_int_none laysSort p cap W)⟩
theorem clone_c (ks : List Value) (vs : List AV) : ACall Tryd.prog 45 [.mp 0] [.mapO ks vs] (.mp 1) [.mapO ks vs, .mapO ks vs] :=
  acall_mapsClone ⟨_, Tryd.func45, by kernel_rfl, by kernel_rfl⟩ (fun b es ck w h => AnyW.maps_Clone laysClone b es ck w h)
theorem format_c (n : Int) (h0 : -9223372036854775808 ≤ n) (h1 : n ≤ 9223372036854775807) : ACall Tryd.prog 68 [.i n, .i 10] [] (.s (Go.Lib.itoa n)) [] :=
  acall_format (name := "internal/strconv.uint64pow10") (gi := 0) (tab := Go.Lib.pow10Tab) ⟨_, Tryd.func68, by kernel_rfl, by kernel_rfl⟩ (fun n w h2 h3 h4 => Any.internal_strconv_FormatInt_10 laysFmt n h2 h3 w h4) (by kernel_rfl) (by unfold globTab Go.Lib.pow10Tab; simp [List.map_map, Function.comp_def]) n h0 h1
theorem sizeB : (Tryd.prog.info? 58).map (·.size) = some 2 := by kernel_rfl
theorem liesB : liesAt Tryd.prog Tryd.prog.depth 58 (2 / Tryd.prog.cellsOf 58) 0 58 1 = true := by kernel_rfl
theorem undP : Tryd.prog.underlying 80 = some .unsafePointer := by kernel_rfl
theorem undB : Tryd.prog.underlying 55 = some (.pointer 58) := by kernel_rfl
set_option maxHeartbeats 1000000 in
set_option maxRecDepth 100000 in
theorem cc_fresh (b : Nat) (w : World) (h0 : w.cell? ⟨b, 0, none⟩ = some (.pointer none)) (hsh : w.shape? b = some (58, 2)) (hfz : w.frozen? ⟨b, 0, none⟩ = false) :
    Calls Tryd.prog 40 #[.pointer (some ⟨b, 0, none⟩)] w fun e w' => e = .returned (.tuple #[]) ∧ w' = w.setCell ⟨b, 0, none⟩ (.pointer (some ⟨b, 0, none⟩)) := by
  obtain ⟨j, hj, hjs⟩ := Option.map_eq_some_iff.1 sizeB
  go_enter Tryd.func40, Tryd.ntmps40
  go_wp2
  rw [Go.Lib.run_to_unsafe w ⟨b, 0, none⟩ undB undP hj (by rw [hjs]; decide) hsh (Nat.zero_lt_succ 1)]
  simp only [Result.andThen]
  rw [Oper.upon_value]
  go_wp2
  rw [run_callFunc_extern Tryd.func53 (by kernel_rfl) (by kernel_rfl) (by kernel_rfl) (e := Extern.AbiNoEscape.same) (by kernel_rfl)]
  rw [Go.Lib.run_noEscape]
  simp only [Result.andThen]
  rw [Oper.upon_value]
  go_wp2
  rw [Go.Lib.run_from_unsafe w ⟨b, 0, none⟩ undP undB hj hsh liesB]
  simp only [Result.andThen]
  rw [Oper.upon_value]
  go_wp2
  go_end0
  exact ⟨rfl, rfl⟩
theorem ccFresh_c (x : AV) : ACall Tryd.prog 40 [.ptr 0 0] [.var 58 [.v (.pointer none), x]] (.tup []) [.cells [.ptr 0 0, x]] :=
  acall_ccFresh ⟨_, Tryd.func40, by kernel_rfl, by kernel_rfl⟩ (fun b w h1 h2 h3 => cc_fresh b w h1 h2 h3)
end Go.Proofs.YtgnnbmgljadokaaDoor
