/-
  Layer 17: how the laws' arguments are read, and the tables that the program's variables hold.
-/
import Derived.Test.YtgnnbmgljadokaaDoorHoF
import Derived.Test.YtgnnbmgljadokaaDoorRows
import Derived.Deep.DeepHandedRow
import Derived.Lib.LaidTab
namespace Go.Proofs.YtgnnbmgljadokaaDoor
open Go Go.Ab Go.ChangeShapes Go.WideShapes Go.ChangeAt Go.RowKit
set_option linter.unusedVariables false
set_option linter.unusedSimpArgs false

def okI (n : Int) : Prop := (Lit.int .i64 n).wf = true
theorem okI_I64 {n : Int} (h : okI n) : I64 n := by
  have e1 : IntKind.i64.min = -9223372036854775808 := rfl
  have e2 : IntKind.i64.max = 9223372036854775807 := rfl
  simp only [okI, Lit.wf, Bool.and_eq_true, decide_eq_true_eq, e1, e2] at h
  exact h
theorem opInt : Opens Tryd.prog 3 okI (fun n => [AV.i n]) := Opens.int Tryd.underlying3 (by kernel_rfl)
theorem opInts : Opens Tryd.prog 23 (fun l : List Int => l.length ≤ maxLen ∧ ∀ a, a ∈ l → okI a) (fun l => [.rowE (ints l) 1]) :=
  Opens.slice Tryd.underlying23 (by kernel_rfl) (by kernel_rfl) (by decide) opInt
theorem opOp : Opens Tryd.prog 25 (fun p : OP => okI p.1 ∧ okI p.2.1 ∧ okI p.2.2.1 ∧ p.2.2.2.length ≤ maxLen) (fun p => opA p) :=
  Opens.struct (fs := [(3, 0), (3, 1), (3, 2), (23, 3)]) (by kernel_rfl) (by kernel_rfl)
    (fun e W fuel css hl hx => by
      obtain ⟨a, h1, h2, h3⟩ := OpensF.cons opInt (OpensF.cons opInt (OpensF.cons opInt (OpensF.cons opInts OpensF.nil))) e W fuel css hl hx
      exact ⟨(a.1, a.2.1, a.2.2.1, a.2.2.2.1), ⟨h1.1, h1.2.1, h1.2.2.1, h1.2.2.2.1.1⟩, by simpa [opA] using h2, by simpa [opA] using h3⟩)
    (fun _ => by kernel_rfl)
theorem opOps : Opens Tryd.prog 22 (fun l : List OP => l.length ≤ maxLen ∧ ∀ a, a ∈ l → okI a.1 ∧ okI a.2.1 ∧ okI a.2.2.1 ∧ a.2.2.2.length ≤ maxLen) (fun l => [.rowE (opsA l) 4]) :=
  Opens.slice Tryd.underlying22 (by kernel_rfl) (by kernel_rfl) (by decide) opOp
theorem laidVars_mem {P : Program} {W : World} {name : String} {d : DataW Unit} : ∀ {l : List (String × DataW Unit)} {ps : List MemPlace}, DataW.LaidVars P W l ps → (name, d) ∈ l →
    ∃ g t cs fuel p, P.globalNamed name = some g ∧ (P.globals[g]?).map (·.type) = some t ∧ W.var? P name = some cs ∧ DataW.trod (fun _ => ()) P W 0 (fun _ => true) false fuel t cs.toList = some (d, p)
  | [], _, _, h => by cases h
  | (n, d') :: r, ps, h, hm => by
    obtain ⟨g, t, cs, fuel, p, q, h1, h2, h3, h4, h5, _⟩ := h
    rcases List.mem_cons.1 hm with e | hm
    · cases e
      exact ⟨g, t, cs, fuel, p, h1, h2, h3, h4⟩
    · exact laidVars_mem h5 hm
def pow10s : List Int := (List.range 20).map fun i => ((10 ^ i : Nat) : Int)
theorem gPow : Tryd.prog.globalNamed "internal/strconv.uint64pow10" = some 0 := by kernel_rfl
theorem gPowType : (Tryd.prog.globals[0]?).map (·.type) = some 111 := by kernel_rfl
theorem u64U : Tryd.prog.underlying 95 = some (.int .u64) := by kernel_rfl
theorem arrU : Tryd.prog.underlying 111 = some (.array 20 95) := by kernel_rfl
theorem cellsU : Tryd.prog.cellsOf 95 = 1 := by kernel_rfl
theorem cellsA : Tryd.prog.cellsOf 111 = 20 := by kernel_rfl
theorem powData : (Rows.laid_internal_strconv_uint64pow10 : DataW Unit) = Lib.tabData .u64 pow10s := by kernel_rfl
theorem globOk_of {W : World} {l : List (String × DataW Unit)} (hm : ("internal/strconv.uint64pow10", (Rows.laid_internal_strconv_uint64pow10 : DataW Unit)) ∈ l) (h : laidMet Tryd.prog l W) : GlobOk (fun b => b < W.heap.size) W := by
  obtain ⟨ps, hv, _⟩ := h
  obtain ⟨g, t, cs, fuel, p, h1, h2, h3, h4⟩ := laidVars_mem hv hm
  obtain rfl := Option.some.inj (gPow.symm.trans h1)
  obtain rfl := Option.some.inj (gPowType.symm.trans h2)
  rw [powData] at h4
  have e := Lib.cells_of_tab arrU u64U cellsU cellsA h4
  unfold World.var? at h3
  rw [gPow] at h3
  simp only [Option.bind_some] at h3
  intro g cs' hg
  have hg' : g = 0 ∧ cs' = (pow10s.map fun z => Value.int .u64 z).map .v := by
    simp only [globTab, List.mem_singleton, Prod.mk.injEq] at hg
    refine ⟨hg.1, hg.2.trans ?_⟩
    simp [pow10s, List.map_map, Function.comp_def]
  obtain ⟨rfl, rfl⟩ := hg'
  split at h3
  · rename_i c ty fz hh
    cases h3
    refine ⟨(Array.getElem?_eq_some_iff.1 hh).1, cs, ty, fz, hh, ?_⟩
    rw [e]
    exact RL_vs _
  · cases h3
noncomputable def laidWorld (os : Os) : World :=
  { World.holding Tryd.prog os ⟨#[], #[], []⟩ with heap := ((((World.holding Tryd.prog os ⟨#[], #[], []⟩).heap.modify 0 fun
      | .cells _ t frozen => .cells #[.int .u64 1, .int .u64 10, .int .u64 100, .int .u64 1000, .int .u64 10000, .int .u64 100000, .int .u64 1000000, .int .u64 10000000, .int .u64 100000000, .int .u64 1000000000, .int .u64 10000000000, .int .u64 100000000000, .int .u64 1000000000000, .int .u64 10000000000000, .int .u64 100000000000000, .int .u64 1000000000000000, .int .u64 10000000000000000, .int .u64 100000000000000000, .int .u64 1000000000000000000, .int .u64 10000000000000000000] t frozen
      | o => o).modify 1 fun
      | .cells _ t frozen => .cells #[.int .u8 0, .int .u8 1, .int .u8 28, .int .u8 2, .int .u8 29, .int .u8 14, .int .u8 24, .int .u8 3, .int .u8 30, .int .u8 22, .int .u8 20, .int .u8 15, .int .u8 25, .int .u8 17, .int .u8 4, .int .u8 8, .int .u8 31, .int .u8 27, .int .u8 13, .int .u8 23, .int .u8 21, .int .u8 19, .int .u8 16, .int .u8 7, .int .u8 26, .int .u8 12, .int .u8 18, .int .u8 6, .int .u8 11, .int .u8 5, .int .u8 10, .int .u8 9] t frozen
      | o => o).modify 2 fun
      | .cells _ t frozen => .cells #[.int .u8 0, .int .u8 1, .int .u8 56, .int .u8 2, .int .u8 57, .int .u8 49, .int .u8 28, .int .u8 3, .int .u8 61, .int .u8 58, .int .u8 42, .int .u8 50, .int .u8 38, .int .u8 29, .int .u8 17, .int .u8 4, .int .u8 62, .int .u8 47, .int .u8 59, .int .u8 36, .int .u8 45, .int .u8 43, .int .u8 51, .int .u8 22, .int .u8 53, .int .u8 39, .int .u8 33, .int .u8 30, .int .u8 24, .int .u8 18, .int .u8 12, .int .u8 5, .int .u8 63, .int .u8 55, .int .u8 48, .int .u8 27, .int .u8 60, .int .u8 41, .int .u8 37, .int .u8 16, .int .u8 46, .int .u8 35, .int .u8 44, .int .u8 21, .int .u8 52, .int .u8 32, .int .u8 23, .int .u8 11, .int .u8 54, .int .u8 26, .int .u8 40, .int .u8 15, .int .u8 34, .int .u8 20, .int .u8 31, .int .u8 10, .int .u8 25, .int .u8 14, .int .u8 19, .int .u8 9, .int .u8 13, .int .u8 8, .int .u8 7, .int .u8 6] t frozen
      | o => o) }
abbrev OpOk (l : List OP) : Prop := l.length ≤ maxLen ∧ ∀ a, a ∈ l → okI a.1 ∧ okI a.2.1 ∧ okI a.2.2.1 ∧ a.2.2.2.length ≤ maxLen
theorem OpOk.len {l : List OP} (h : OpOk l) : l.length ≤ 9223372036854775807 := by
  have := h.1
  have e : maxLen = 9223372036854775807 := rfl
  omega
theorem OpOk.i64 {l : List OP} (h : OpOk l) : ∀ x, x ∈ l → I64 x.2.1 ∧ I64 x.2.2.1 := fun x hx => ⟨okI_I64 (h.2 x hx).2.1, okI_I64 (h.2 x hx).2.2.1⟩
end Go.Proofs.YtgnnbmgljadokaaDoor
