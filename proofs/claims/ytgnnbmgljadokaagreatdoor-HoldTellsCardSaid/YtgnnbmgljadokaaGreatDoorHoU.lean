/-
  Layer 17: how the laws' arguments are read, and the tables that the program's variables hold.
-/
import Derived.Test.YtgnnbmgljadokaaGreatDoorHoE
import Derived.Test.YtgnnbmgljadokaaGreatDoorRows
import Derived.Deep.DeepHandedRow
import Derived.Lib.LaidTab
import Derived.Stop.LaidErr
namespace Go.Proofs.YtgnnbmgljadokaaGreatDoor
open Go Go.Ab Go.ChangeShapes Go.WideShapes Go.ChangeAt Go.RowKit
set_option linter.unusedVariables false
set_option linter.unusedSimpArgs false

def okI (n : Int) : Prop := (Lit.int .i64 n).wf = true
theorem okI_I64 {n : Int} (h : okI n) : I64 n := by
  have e1 : IntKind.i64.min = -9223372036854775808 := rfl
  have e2 : IntKind.i64.max = 9223372036854775807 := rfl
  simp only [okI, Lit.wf, Bool.and_eq_true, decide_eq_true_eq, e1, e2] at h
  exact h
theorem opInt : Opens Tryz.prog 3 okI (fun n => [AV.i n]) := Opens.int Tryz.underlying3 (by kernel_rfl)
theorem opInts : Opens Tryz.prog 34 (fun l : List Int => l.length ≤ maxLen ∧ ∀ a, a ∈ l → okI a) (fun l => [.rowE (ints l) 1]) :=
  Opens.slice Tryz.underlying34 (by kernel_rfl) (by kernel_rfl) (by decide) opInt
theorem opOp : Opens Tryz.prog 36 (fun p : OP => okI p.1 ∧ okI p.2.1 ∧ okI p.2.2.1 ∧ p.2.2.2.length ≤ maxLen) (fun p => opA p) :=
  Opens.struct (fs := [(3, 0), (3, 1), (3, 2), (34, 3)]) (by kernel_rfl) (by kernel_rfl)
    (fun e W fuel css hl hx => by
      obtain ⟨a, h1, h2, h3⟩ := OpensF.cons opInt (OpensF.cons opInt (OpensF.cons opInt (OpensF.cons opInts OpensF.nil))) e W fuel css hl hx
      exact ⟨(a.1, a.2.1, a.2.2.1, a.2.2.2.1), ⟨h1.1, h1.2.1, h1.2.2.1, h1.2.2.2.1.1⟩, by simpa [opA] using h2, by simpa [opA] using h3⟩)
    (fun _ => by kernel_rfl)
theorem opOps : Opens Tryz.prog 22 (fun l : List OP => l.length ≤ maxLen ∧ ∀ a, a ∈ l → okI a.1 ∧ okI a.2.1 ∧ okI a.2.2.1 ∧ a.2.2.2.length ≤ maxLen) (fun l => [.rowE (opsA l) 4]) :=
  Opens.slice Tryz.underlying22 (by kernel_rfl) (by kernel_rfl) (by decide) opOp
theorem laidVars_mem {P : Program} {W : World} {name : String} {d : DataW Unit} : ∀ {l : List (String × DataW Unit)} {ps : List MemPlace}, DataW.LaidVars P W l ps → (name, d) ∈ l →
    ∃ g t cs fuel p, P.globalNamed name = some g ∧ (P.globals[g]?).map (·.type) = some t ∧ W.var? P name = some cs ∧ DataW.trod (fun _ => ()) P W 0 (fun _ => true) false fuel t cs.toList = some (d, p)
  | [], _, _, h => by cases h
  | (n, d') :: r, ps, h, hm => by
    obtain ⟨g, t, cs, fuel, p, q, h1, h2, h3, h4, h5, _⟩ := h
    rcases List.mem_cons.1 hm with e | hm
    · cases e
      exact ⟨g, t, cs, fuel, p, h1, h2, h3, h4⟩
    · exact laidVars_mem h5 hm
def pow10s : List Int := (List.range 20).map fun i => ((10 ^ i : Nat) : Int)
theorem gPow : Tryz.prog.globalNamed "internal/strconv.uint64pow10" = some 0 := by kernel_rfl
theorem gPowType : (Tryz.prog.globals[0]?).map (·.type) = some 143 := by kernel_rfl
theorem u64U : Tryz.prog.underlying 116 = some (.int .u64) := by kernel_rfl
theorem arrU : Tryz.prog.underlying 143 = some (.array 20 116) := by kernel_rfl
theorem cellsU : Tryz.prog.cellsOf 116 = 1 := by kernel_rfl
theorem cellsA : Tryz.prog.cellsOf 143 = 20 := by kernel_rfl
theorem powData : (Rows.laid_internal_strconv_uint64pow10 : DataW Unit) = Lib.tabData .u64 pow10s := by kernel_rfl
theorem gES : Tryz.prog.globalNamed "strconv.ErrSyntax" = some 2 := by kernel_rfl
theorem gER : Tryz.prog.globalNamed "strconv.ErrRange" = some 3 := by kernel_rfl
theorem gESType : (Tryz.prog.globals[2]?).map (·.type) = some 65 := by kernel_rfl
theorem gERType : (Tryz.prog.globals[3]?).map (·.type) = some 65 := by kernel_rfl
theorem starE : "*" ++ "errors.errorString" = "*errors.errorString" := by decide
theorem rowE (u : TypeId) (h : Tryz.prog.typeName? 3 u = some "*errors.errorString") : u = 154 :=
  typeName_ptr_named (nm := "errors.errorString") (by rw [starE]; kernel_rfl) (by kernel_rfl) (by decide) u (by rw [starE]; exact h)
theorem ifcU : Tryz.prog.underlying 65 = some (.interface #[("Error", 27)]) := by kernel_rfl
theorem perU : Tryz.prog.underlying 154 = some (.pointer 156) := by kernel_rfl
theorem cellsE : Tryz.prog.cellsOf 156 = 1 := by kernel_rfl
theorem cellsS : Tryz.prog.cellsOf 9 = 1 := by kernel_rfl
theorem errAt {n : String} {text : List UInt8} {r : List (String × DataW Unit)} {W : World} {g : Nat} (h : laidMet Tryz.prog ((n, .iface "*errors.errorString" (.ptr (.agg [.lit (.string text)]))) :: r) W)
    (hg : Tryz.prog.globalNamed n = some g) (ht : (Tryz.prog.globals[g]?).map (·.type) = some 65) : ∃ p, W.var? Tryz.prog n = some #[.iface 154 p] := by
  obtain ⟨a, s, hv, _⟩ := laid_sentinel h hg ht ifcU rowE perU Tryz.underlying156 rfl rfl Tryz.underlying9 cellsE cellsS
  exact ⟨_, hv⟩
theorem glob_of_var {W : World} {n : String} {g : Nat} {p : Value} (hg : Tryz.prog.globalNamed n = some g) (hv : W.var? Tryz.prog n = some #[.iface 154 p]) :
    g < W.heap.size ∧ ∃ ys t fz, W.heap[g]? = some (.cells ys t fz) ∧ RL (fun b => b < W.heap.size) W [AV.ifc 154 .any] (fun _ => none) ys.toList := by
  unfold World.var? at hv
  rw [hg] at hv
  simp only [Option.bind_some] at hv
  split at hv
  · rename_i c ty fz hh
    cases hv
    refine ⟨(Array.getElem?_eq_some_iff.1 hh).1, _, ty, fz, hh, ?_⟩
    simp only [RL, R]
    exact ⟨_, _, rfl, ⟨p, rfl, trivial⟩, rfl⟩
  · cases hv
theorem globOk_of {W : World} {l : List (String × DataW Unit)} {a b : String × DataW Unit} (hl : l = [a, b, ("internal/strconv.uint64pow10", (Rows.laid_internal_strconv_uint64pow10 : DataW Unit)), ("strconv.ErrRange", (Rows.laid_strconv_ErrRange : DataW Unit)), ("strconv.ErrSyntax", (Rows.laid_strconv_ErrSyntax : DataW Unit))]) (h0 : laidMet Tryz.prog l W) : GlobOk (fun b => b < W.heap.size) W := by
  subst hl
  obtain ⟨pr, hr⟩ := errAt (n := "strconv.ErrRange") h0.tail.tail.tail gER gERType
  obtain ⟨pe, he⟩ := errAt (n := "strconv.ErrSyntax") h0.tail.tail.tail.tail gES gESType
  obtain ⟨ps, hv, _⟩ := h0
  obtain ⟨g, t, cs, fuel, p, h1, h2, h3, h4⟩ := laidVars_mem hv (.tail _ (.tail _ (.head _)))
  obtain rfl := Option.some.inj (gPow.symm.trans h1)
  obtain rfl := Option.some.inj (gPowType.symm.trans h2)
  rw [powData] at h4
  have e := Lib.cells_of_tab arrU u64U cellsU cellsA h4
  unfold World.var? at h3
  rw [gPow] at h3
  simp only [Option.bind_some] at h3
  intro g cs' hg
  have hg' : (g = 0 ∧ cs' = (pow10s.map fun z => Value.int .u64 z).map .v) ∨ (g = 2 ∧ cs' = [AV.ifc 154 .any]) ∨ (g = 3 ∧ cs' = [AV.ifc 154 .any]) := by
    simp only [globTab, List.mem_cons, List.not_mem_nil, or_false, Prod.mk.injEq] at hg
    rcases hg with hg | hg | hg
    · refine .inl ⟨hg.1, hg.2.trans ?_⟩
      simp [pow10s, List.map_map, Function.comp_def]
    · exact .inr (.inl hg)
    · exact .inr (.inr hg)
  rcases hg' with ⟨rfl, rfl⟩ | ⟨rfl, rfl⟩ | ⟨rfl, rfl⟩
  · split at h3
    · rename_i c ty fz hh
      cases h3
      refine ⟨(Array.getElem?_eq_some_iff.1 hh).1, cs, ty, fz, hh, ?_⟩
      rw [e]
      exact RL_vs _
    · cases h3
  · exact glob_of_var gES he
  · exact glob_of_var gER hr
noncomputable def low (os : Os) : Nat := (World.holding Tryz.prog os ⟨#[], #[], []⟩).heap.size
noncomputable def laidWorld (os : Os) : World :=
  { World.holding Tryz.prog os ⟨#[.cells #[.string ⟨#[118, 97, 108, 117, 101, 32, 111, 117, 116, 32, 111, 102, 32, 114, 97, 110, 103, 101]⟩] 156, .cells #[.string ⟨#[105, 110, 118, 97, 108, 105, 100, 32, 115, 121, 110, 116, 97, 120]⟩] 156], #[], []⟩ with heap := ((((((World.holding Tryz.prog os ⟨#[.cells #[.string ⟨#[118, 97, 108, 117, 101, 32, 111, 117, 116, 32, 111, 102, 32, 114, 97, 110, 103, 101]⟩] 156, .cells #[.string ⟨#[105, 110, 118, 97, 108, 105, 100, 32, 115, 121, 110, 116, 97, 120]⟩] 156], #[], []⟩).heap.modify 0 fun
      | .cells _ t frozen => .cells #[.int .u64 1, .int .u64 10, .int .u64 100, .int .u64 1000, .int .u64 10000, .int .u64 100000, .int .u64 1000000, .int .u64 10000000, .int .u64 100000000, .int .u64 1000000000, .int .u64 10000000000, .int .u64 100000000000, .int .u64 1000000000000, .int .u64 10000000000000, .int .u64 100000000000000, .int .u64 1000000000000000, .int .u64 10000000000000000, .int .u64 100000000000000000, .int .u64 1000000000000000000, .int .u64 10000000000000000000] t frozen
      | o => o).modify 4 fun
      | .cells _ t frozen => .cells #[.int .u8 0, .int .u8 1, .int .u8 28, .int .u8 2, .int .u8 29, .int .u8 14, .int .u8 24, .int .u8 3, .int .u8 30, .int .u8 22, .int .u8 20, .int .u8 15, .int .u8 25, .int .u8 17, .int .u8 4, .int .u8 8, .int .u8 31, .int .u8 27, .int .u8 13, .int .u8 23, .int .u8 21, .int .u8 19, .int .u8 16, .int .u8 7, .int .u8 26, .int .u8 12, .int .u8 18, .int .u8 6, .int .u8 11, .int .u8 5, .int .u8 10, .int .u8 9] t frozen
      | o => o).modify 5 fun
      | .cells _ t frozen => .cells #[.int .u8 0, .int .u8 1, .int .u8 56, .int .u8 2, .int .u8 57, .int .u8 49, .int .u8 28, .int .u8 3, .int .u8 61, .int .u8 58, .int .u8 42, .int .u8 50, .int .u8 38, .int .u8 29, .int .u8 17, .int .u8 4, .int .u8 62, .int .u8 47, .int .u8 59, .int .u8 36, .int .u8 45, .int .u8 43, .int .u8 51, .int .u8 22, .int .u8 53, .int .u8 39, .int .u8 33, .int .u8 30, .int .u8 24, .int .u8 18, .int .u8 12, .int .u8 5, .int .u8 63, .int .u8 55, .int .u8 48, .int .u8 27, .int .u8 60, .int .u8 41, .int .u8 37, .int .u8 16, .int .u8 46, .int .u8 35, .int .u8 44, .int .u8 21, .int .u8 52, .int .u8 32, .int .u8 23, .int .u8 11, .int .u8 54, .int .u8 26, .int .u8 40, .int .u8 15, .int .u8 34, .int .u8 20, .int .u8 31, .int .u8 10, .int .u8 25, .int .u8 14, .int .u8 19, .int .u8 9, .int .u8 13, .int .u8 8, .int .u8 7, .int .u8 6] t frozen
      | o => o).modify 3 fun
      | .cells _ t frozen => .cells #[.iface 154 (.pointer (some ⟨low os, 0, none⟩))] t frozen
      | o => o).modify 2 fun
      | .cells _ t frozen => .cells #[.iface 154 (.pointer (some ⟨low os + 1, 0, none⟩))] t frozen
      | o => o) }
theorem opStr : Opens Tryz.prog 9 (fun l : List UInt8 => l.length ≤ maxLen) (fun l => [AV.s l]) :=
  Opens.iso (Opens.string (by kernel_rfl) (by kernel_rfl)) (fun s : ByteArray => s.data.toList) fun s hs => ⟨by simpa using hs, rfl⟩
abbrev OpOk (l : List OP) : Prop := l.length ≤ maxLen ∧ ∀ a, a ∈ l → okI a.1 ∧ okI a.2.1 ∧ okI a.2.2.1 ∧ a.2.2.2.length ≤ maxLen
theorem OpOk.len {l : List OP} (h : OpOk l) : l.length ≤ 9223372036854775807 := by
  have := h.1
  have e : maxLen = 9223372036854775807 := rfl
  omega
theorem OpOk.i64 {l : List OP} (h : OpOk l) : ∀ x, x ∈ l → I64 x.2.1 ∧ I64 x.2.2.1 := fun x hx => ⟨okI_I64 (h.2 x hx).2.1, okI_I64 (h.2 x hx).2.2.1⟩
end Go.Proofs.YtgnnbmgljadokaaGreatDoor
