/-
  The library on lists of integers: Clone, Sort, Values, Collect, Sorted.
-/
import Derived.Test.YtcdgmjfmmnklnaaAb36
import Derived.Test.YtcdgmjfmmnklnaaTab
import Derived.Shelf.Lay
import Derived.Shelf.Sort.Plain
import Derived.Shelf.Slices.In.SortNone
import Derived.Ground.NamesProg
namespace Go.Proofs.Ytcdgmjfmmnklnaa
open Go Go.Ab Go.Shelf Go.Proofs
set_option linter.unusedVariables false
set_option linter.unusedSimpArgs false
shelf_lay Lays.n189 Nm 189 at Try as laysSort
theorem sort_c (l : List Int) (hl : l.length ≤ 17592186043904) : ACall Try.prog 41 [.sl 0 0 l.length 1] [.arr (ints l) 1] (.tup []) [.arr (ints (sorted l)) 1] :=
  acall_sort ⟨_, Try.func41, by kernel_rfl, by kernel_rfl⟩ (fun blk off cap zs w h1 h2 h3 => Any.slices_Sort_int laysSort blk off cap zs w h1 h2 h3) (fun p cap w => Any.slices_Sort_int_none laysSort p cap w) l hl
end Go.Proofs.Ytcdgmjfmmnklnaa
