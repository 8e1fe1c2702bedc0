/-
  The library on lists of integers: Delete, Reverse.
-/
import Derived.Test.YtgibgknkfcbopaaAb36
import Derived.Test.YtgibgknkfcbopaaLs2
import Derived.Shelf.Slices.Delete
import Derived.Shelf.Slices.Reverse
import Derived.Ground.Names2Prog
namespace Go.Proofs.Ytgibgknkfcbopaa
open Go Go.Ab Go.Shelf Go.Proofs
set_option linter.unusedVariables false
set_option linter.unusedSimpArgs false
shelf_lay Lays2.n23 Nm2 23 at Try as laysDelete
shelf_lay Lays.n112 Nm 112 at Try as laysReverse
theorem delete_c (l : List Int) (i j : Nat) (hij : i ≤ j) (hj : j ≤ l.length) (hne : l ≠ []) :
    ACall Try.prog 37 [.sl 0 0 l.length 1, .i (i : Int), .i (j : Int)] [.arr (ints l) 1] (.sl 0 0 (l.length - (j - i)) 1) [.arr (ints (l.take i ++ l.drop j)) 1] :=
  acall_delete ⟨_, Try.func37, by kernel_rfl, by kernel_rfl⟩ (fun blk off cap i j zs w h1 h2 h3 h4 h5 => Any.slices_Delete_int laysDelete blk off cap i j zs w h1 h2 h3 h4 h5) l i j hij hj hne
theorem reverse_c (l : List Int) (hl : l.length ≤ 1000000) : ACall Try.prog 41 [.sl 0 0 l.length 1] [.arr (ints l) 1] (.tup []) [.arr (ints l.reverse) 1] :=
  acall_reverse ⟨_, Try.func41, by kernel_rfl, by kernel_rfl⟩ (fun blk off cap zs w h1 h2 => Any.slices_Reverse_int laysReverse blk off cap zs w h1 h2) (fun p cap w => Any.slices_Reverse_int_empty laysReverse p cap w) l [] (by simpa using hl) rfl
theorem reverseO_c (pre l : List Int) (hl : l.length ≤ 1000000) : ACall Try.prog 41 [.sl 0 pre.length l.length 1] [.arr (ints (pre ++ l)) 1] (.tup []) [.arr (ints (pre ++ l.reverse)) 1] :=
  acall_reverseO ⟨_, Try.func41, by kernel_rfl, by kernel_rfl⟩ (fun blk off cap zs w h1 h2 => Any.slices_Reverse_int laysReverse blk off cap zs w h1 h2) (fun p cap w => Any.slices_Reverse_int_empty laysReverse p cap w) pre l hl
end Go.Proofs.Ytgibgknkfcbopaa
