/-
  The table of types of this translation, each row a fact of the program. Written by a program.
-/
import Derived.Test.YtgibgknkfcbopaaRows
import Derived.Test.YtgibgknkfcbopaaAb10
import Derived.KernelRfl
namespace Go.Proofs.Ytgibgknkfcbopaa
open Go Go.Ab

def tiL : List (Nat × TI) := [(2, ⟨false, 1, 8, [.int .i64 0]⟩),
  (3, ⟨false, 1, 8, [.int .i64 0]⟩),
  (4, ⟨false, 1, 1, [.bool false]⟩),
  (5, ⟨false, 1, 1, [.int .u8 0]⟩),
  (6, ⟨false, 1, 1, [.int .u8 0]⟩),
  (7, ⟨true, 4, 24, [.int .i64 0, .int .i64 0, .bool false, .int .u8 0]⟩),
  (8, ⟨true, 4, 24, [.int .i64 0, .int .i64 0, .bool false, .int .u8 0]⟩),
  (9, ⟨false, 1, 16, [.string ⟨#[]⟩]⟩),
  (10, ⟨false, 1, 16, [.string ⟨#[]⟩]⟩),
  (11, ⟨false, 1, 16, [.string ⟨#[]⟩]⟩),
  (12, ⟨false, 1, 8, [.int .u64 0]⟩),
  (13, ⟨true, 2, 24, [.string ⟨#[]⟩, .int .u64 0]⟩),
  (14, ⟨true, 2, 24, [.string ⟨#[]⟩, .int .u64 0]⟩),
  (15, ⟨false, 1, 8, [.pointer none]⟩),
  (16, ⟨false, 1, 8, [.pointer none]⟩),
  (17, ⟨false, 1, 8, [.pointer none]⟩),
  (18, ⟨true, 1, 8, [.pointer none]⟩),
  (19, ⟨true, 1, 8, [.pointer none]⟩),
  (21, ⟨false, 1, 4, [.int .i32 0]⟩),
  (22, ⟨false, 1, 24, [.slice none 0 0]⟩),
  (30, ⟨false, 1, 24, [.slice none 0 0]⟩),
  (32, ⟨false, 1, 24, [.slice none 0 0]⟩),
  (58, ⟨false, 1, 8, [.int .u64 0]⟩),
  (60, ⟨false, 1, 8, [.int .i64 0]⟩),
  (68, ⟨false, 1, 4, [.int .u32 0]⟩),
  (70, ⟨false, 1, 8, [.int .u64 0]⟩),
  (71, ⟨false, 1, 8, [.int .u64 0]⟩),
  (75, ⟨false, 1, 8, [.pointer none]⟩),
  (77, ⟨false, 1, 8, [.pointer none]⟩),
  (81, ⟨true, 4, 40, [.pointer none, .pointer none, .pointer none, .string ⟨#[]⟩]⟩),
  (82, ⟨true, 4, 40, [.pointer none, .pointer none, .pointer none, .string ⟨#[]⟩]⟩),
  (87, ⟨false, 1, 1, [.int .u8 0]⟩),
  (88, ⟨false, 1, 1, [.int .u8 0]⟩),
  (90, ⟨false, 1, 8, [.pointer none]⟩),
  (91, ⟨false, 1, 4, [.int .i32 0]⟩),
  (92, ⟨false, 1, 4, [.int .i32 0]⟩),
  (93, ⟨true, 11, 48, [.int .u64 0, .int .u64 0, .int .u32 0, .int .u8 0, .int .u8 0, .int .u8 0, .int .u8 0, .nilFunc, .pointer none, .int .i32 0, .int .i32 0]⟩),
  (94, ⟨true, 11, 48, [.int .u64 0, .int .u64 0, .int .u32 0, .int .u8 0, .int .u8 0, .int .u8 0, .int .u8 0, .nilFunc, .pointer none, .int .i32 0, .int .i32 0]⟩)]
theorem tiL_ok : AllL (fun t i => ∃ inf z, Try.prog.info? t = some inf ∧ inf.size = i.size ∧ inf.bytes = i.bytes ∧ inf.zero = some z ∧ z.cells.toList = i.zero ∧ i.zero.length = i.size ∧ aggB Try.prog t = some i.agg) tiL :=
  ⟨ti_mk (z := .int .i64 0) (by kernel_rfl) (by kernel_rfl) rfl rfl,
   ti_mk (z := .int .i64 0) (by kernel_rfl) (by kernel_rfl) rfl rfl,
   ti_mk (z := .bool false) (by kernel_rfl) (by kernel_rfl) rfl rfl,
   ti_mk (z := .int .u8 0) (by kernel_rfl) (by kernel_rfl) rfl rfl,
   ti_mk (z := .int .u8 0) (by kernel_rfl) (by kernel_rfl) rfl rfl,
   ti_mk (z := .agg #[.int .i64 0, .int .i64 0, .bool false, .int .u8 0]) (by kernel_rfl) (by kernel_rfl) rfl rfl,
   ti_mk (z := .agg #[.int .i64 0, .int .i64 0, .bool false, .int .u8 0]) (by kernel_rfl) (by kernel_rfl) rfl rfl,
   ti_mk (z := .string ⟨#[]⟩) (by kernel_rfl) (by kernel_rfl) rfl rfl,
   ti_mk (z := .string ⟨#[]⟩) (by kernel_rfl) (by kernel_rfl) rfl rfl,
   ti_mk (z := .string ⟨#[]⟩) (by kernel_rfl) (by kernel_rfl) rfl rfl,
   ti_mk (z := .int .u64 0) (by kernel_rfl) (by kernel_rfl) rfl rfl,
   ti_mk (z := .agg #[.string ⟨#[]⟩, .int .u64 0]) (by kernel_rfl) (by kernel_rfl) rfl rfl,
   ti_mk (z := .agg #[.string ⟨#[]⟩, .int .u64 0]) (by kernel_rfl) (by kernel_rfl) rfl rfl,
   ti_mk (z := .pointer none) (by kernel_rfl) (by kernel_rfl) rfl rfl,
   ti_mk (z := .pointer none) (by kernel_rfl) (by kernel_rfl) rfl rfl,
   ti_mk (z := .pointer none) (by kernel_rfl) (by kernel_rfl) rfl rfl,
   ti_mk (z := .agg #[.pointer none]) (by kernel_rfl) (by kernel_rfl) rfl rfl,
   ti_mk (z := .agg #[.pointer none]) (by kernel_rfl) (by kernel_rfl) rfl rfl,
   ti_mk (z := .int .i32 0) (by kernel_rfl) (by kernel_rfl) rfl rfl,
   ti_mk (z := .slice none 0 0) (by kernel_rfl) (by kernel_rfl) rfl rfl,
   ti_mk (z := .slice none 0 0) (by kernel_rfl) (by kernel_rfl) rfl rfl,
   ti_mk (z := .slice none 0 0) (by kernel_rfl) (by kernel_rfl) rfl rfl,
   ti_mk (z := .int .u64 0) (by kernel_rfl) (by kernel_rfl) rfl rfl,
   ti_mk (z := .int .i64 0) (by kernel_rfl) (by kernel_rfl) rfl rfl,
   ti_mk (z := .int .u32 0) (by kernel_rfl) (by kernel_rfl) rfl rfl,
   ti_mk (z := .int .u64 0) (by kernel_rfl) (by kernel_rfl) rfl rfl,
   ti_mk (z := .int .u64 0) (by kernel_rfl) (by kernel_rfl) rfl rfl,
   ti_mk (z := .pointer none) (by kernel_rfl) (by kernel_rfl) rfl rfl,
   ti_mk (z := .pointer none) (by kernel_rfl) (by kernel_rfl) rfl rfl,
   ti_mk (z := .agg #[.pointer none, .pointer none, .pointer none, .string ⟨#[]⟩]) (by kernel_rfl) (by kernel_rfl) rfl rfl,
   ti_mk (z := .agg #[.pointer none, .pointer none, .pointer none, .string ⟨#[]⟩]) (by kernel_rfl) (by kernel_rfl) rfl rfl,
   ti_mk (z := .int .u8 0) (by kernel_rfl) (by kernel_rfl) rfl rfl,
   ti_mk (z := .int .u8 0) (by kernel_rfl) (by kernel_rfl) rfl rfl,
   ti_mk (z := .pointer none) (by kernel_rfl) (by kernel_rfl) rfl rfl,
   ti_mk (z := .int .i32 0) (by kernel_rfl) (by kernel_rfl) rfl rfl,
   ti_mk (z := .int .i32 0) (by kernel_rfl) (by kernel_rfl) rfl rfl,
   ti_mk (z := .agg #[.int .u64 0, .int .u64 0, .int .u32 0, .int .u8 0, .int .u8 0, .int .u8 0, .int .u8 0, .nilFunc, .pointer none, .int .i32 0, .int .i32 0]) (by kernel_rfl) (by kernel_rfl) rfl rfl,
   ti_mk (z := .agg #[.int .u64 0, .int .u64 0, .int .u32 0, .int .u8 0, .int .u8 0, .int .u8 0, .int .u8 0, .nilFunc, .pointer none, .int .i32 0, .int .i32 0]) (by kernel_rfl) (by kernel_rfl) rfl rfl,
   trivial⟩
def elemL : List (Nat × Nat) := [(22, 3), (30, 22), (32, 4)]
theorem elemL_ok : AllL (fun t e => Try.prog.underlying t = some (.slice e)) elemL := ⟨kr (by kernel_rfl), kr (by kernel_rfl), kr (by kernel_rfl), trivial⟩
def arrL : List (Nat × (Nat × Nat)) := [(83, (0, 16))]
theorem arrL_ok : AllL (fun t p => Try.prog.underlying t = some (.array p.1 p.2)) arrL := ⟨kr (by kernel_rfl), trivial⟩
def placesL : List (Nat × List (Nat × Nat)) := [(7, [(0, 1), (1, 1), (2, 1), (3, 1)]), (8, [(0, 1), (1, 1), (2, 1), (3, 1)]), (13, [(0, 1), (1, 1)]), (14, [(0, 1), (1, 1)]), (18, [(0, 1)]), (19, [(0, 1)]), (81, [(0, 1), (1, 1), (2, 1), (3, 1)]), (82, [(0, 1), (1, 1), (2, 1), (3, 1)]), (84, [(0, 0)]), (85, [(0, 0)])]
theorem placesL_ok : AllL (fun t l => placesP Try.prog t = some l) placesL := ⟨kr (by kernel_rfl), kr (by kernel_rfl), kr (by kernel_rfl), kr (by kernel_rfl), kr (by kernel_rfl), kr (by kernel_rfl), kr (by kernel_rfl), kr (by kernel_rfl), kr (by kernel_rfl), kr (by kernel_rfl), trivial⟩
def fieldL : List ((Nat × Nat) × Nat) := [((7, 0), 0), ((7, 1), 1), ((7, 2), 2), ((7, 3), 3), ((8, 0), 0), ((8, 1), 1), ((8, 2), 2), ((8, 3), 3), ((13, 0), 0), ((13, 1), 1), ((14, 0), 0), ((14, 1), 1), ((18, 0), 0), ((19, 0), 0), ((81, 0), 0), ((81, 1), 1), ((81, 2), 2), ((81, 3), 3), ((82, 0), 0), ((82, 1), 1), ((82, 2), 2), ((82, 3), 3)]
theorem fieldL_ok : AllL (fun (tf : Nat × Nat) o => ∃ fs fd inf, Try.prog.underlying tf.1 = some (.struct fs) ∧ fs[tf.2]? = some fd ∧ fd.offset = o ∧ Try.prog.info? fd.type = some inf ∧ inf.size ≠ 0) fieldL :=
  ⟨field_mk (n := 0) (by kernel_rfl),
   field_mk (n := 0) (by kernel_rfl),
   field_mk (n := 0) (by kernel_rfl),
   field_mk (n := 0) (by kernel_rfl),
   field_mk (n := 0) (by kernel_rfl),
   field_mk (n := 0) (by kernel_rfl),
   field_mk (n := 0) (by kernel_rfl),
   field_mk (n := 0) (by kernel_rfl),
   field_mk (n := 0) (by kernel_rfl),
   field_mk (n := 0) (by kernel_rfl),
   field_mk (n := 0) (by kernel_rfl),
   field_mk (n := 0) (by kernel_rfl),
   field_mk (n := 0) (by kernel_rfl),
   field_mk (n := 0) (by kernel_rfl),
   field_mk (n := 0) (by kernel_rfl),
   field_mk (n := 0) (by kernel_rfl),
   field_mk (n := 0) (by kernel_rfl),
   field_mk (n := 0) (by kernel_rfl),
   field_mk (n := 0) (by kernel_rfl),
   field_mk (n := 0) (by kernel_rfl),
   field_mk (n := 0) (by kernel_rfl),
   field_mk (n := 0) (by kernel_rfl),
   trivial⟩
theorem mixedP : Try.prog.follows .mixedOrders = true := by kernel_rfl

def T : Tab Try.prog where
  ti := lookN tiL
  tiOk := fun _ _ h => lookN_ok tiL_ok h
  elem := lookN elemL
  elemOk := fun _ _ h => lookN_ok elemL_ok h
  field := fun t f => lookNN fieldL t f
  fieldOk := fun _ _ _ h => lookNN_ok fieldL_ok h
  arr := lookN arrL
  arrOk := fun _ _ _ h => lookN_ok arrL_ok h
  places := lookN placesL
  placesOk := fun _ _ h => lookN_ok placesL_ok h

end Go.Proofs.Ytgibgknkfcbopaa
