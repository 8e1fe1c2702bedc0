/-
  SightBack: how the law' arguments are read, and the tables that the program's variables hold.
-/
import Derived.Test.YtnpedigoacbocaaDoorTb3
import Derived.Test.YtnpedigoacbocaaDoorRows
import Derived.Deep.DeepHandedRow
import Derived.Lib.LaidTab
import Derived.Stop.LaidErr
namespace Go.Proofs.YtnpedigoacbocaaDoor
open Go Go.Ab Go.ChangeShapes Go.WideShapes Go.ChangeAt Go.RowKit
set_option linter.unusedVariables false
set_option linter.unusedSimpArgs false

def okI (n : Int) : Prop := (Lit.int .i64 n).wf = true
theorem okI_I64 {n : Int} (h : okI n) : I64 n := by
  have e1 : IntKind.i64.min = -9223372036854775808 := rfl
  have e2 : IntKind.i64.max = 9223372036854775807 := rfl
  simp only [okI, Lit.wf, Bool.and_eq_true, decide_eq_true_eq, e1, e2] at h
  exact h
theorem opInt : Opens Tryd.prog 3 okI (fun n => [AV.i n]) := Opens.int Tryd.underlying3 (by kernel_rfl)
theorem opInts : Opens Tryd.prog 22 (fun l : List Int => l.length ≤ maxLen ∧ ∀ a, a ∈ l → okI a) (fun l => [.rowE (ints l) 1]) :=
  Opens.slice Tryd.underlying22 (by kernel_rfl) (by kernel_rfl) (by decide) opInt
theorem opSight : Opens Tryd.prog 24 (fun p : SG => okI p.1 ∧ okI p.2.1 ∧ okI p.2.2.1 ∧ okI p.2.2.2.1 ∧ ∀ a, a ∈ p.2.2.2.2 → okI a) (fun p => sgA p) :=
  Opens.struct (fs := [(3, 0), (3, 1), (3, 2), (3, 3), (22, 4)]) (by kernel_rfl) (by kernel_rfl)
    (fun e W fuel css hl hx => by
      obtain ⟨a, h1, h2, h3⟩ := OpensF.cons opInt (OpensF.cons opInt (OpensF.cons opInt (OpensF.cons opInt (OpensF.cons opInts OpensF.nil)))) e W fuel css hl hx
      exact ⟨(a.1, a.2.1, a.2.2.1, a.2.2.2.1, a.2.2.2.2.1), ⟨h1.1, h1.2.1, h1.2.2.1, h1.2.2.2.1, h1.2.2.2.2.1.2⟩, by simpa using h2, by simpa using h3⟩)
    (fun _ => by kernel_rfl)
theorem laidVars_mem {P : Program} {W : World} {name : String} {d : DataW Unit} : ∀ {l : List (String × DataW Unit)} {ps : List MemPlace}, DataW.LaidVars P W l ps → (name, d) ∈ l →
    ∃ g t cs fuel p, P.globalNamed name = some g ∧ (P.globals[g]?).map (·.type) = some t ∧ W.var? P name = some cs ∧ DataW.trod (fun _ => ()) P W 0 (fun _ => true) false fuel t cs.toList = some (d, p)
  | [], _, _, h => by cases h
  | (n, d') :: r, ps, h, hm => by
    obtain ⟨g, t, cs, fuel, p, q, h1, h2, h3, h4, h5, _⟩ := h
    rcases List.mem_cons.1 hm with e | hm
    · cases e
      exact ⟨g, t, cs, fuel, p, h1, h2, h3, h4⟩
    · exact laidVars_mem h5 hm
def pow10s : List Int := (List.range 20).map fun i => ((10 ^ i : Nat) : Int)
theorem gPow : Tryd.prog.globalNamed "internal/strconv.uint64pow10" = some 3 := by kernel_rfl
theorem gPowType : (Tryd.prog.globals[3]?).map (·.type) = some 106 := by kernel_rfl
theorem u64U : Tryd.prog.underlying 89 = some (.int .u64) := by kernel_rfl
theorem arrU : Tryd.prog.underlying 106 = some (.array 20 89) := by kernel_rfl
theorem cellsU : Tryd.prog.cellsOf 89 = 1 := by kernel_rfl
theorem cellsA : Tryd.prog.cellsOf 106 = 20 := by kernel_rfl
theorem powData : (Rows.laid_internal_strconv_uint64pow10 : DataW Unit) = Lib.tabData .u64 pow10s := by kernel_rfl
theorem gES : Tryd.prog.globalNamed "strconv.ErrSyntax" = some 1 := by kernel_rfl
theorem gER : Tryd.prog.globalNamed "strconv.ErrRange" = some 2 := by kernel_rfl
theorem gESType : (Tryd.prog.globals[1]?).map (·.type) = some 67 := by kernel_rfl
theorem gERType : (Tryd.prog.globals[2]?).map (·.type) = some 67 := by kernel_rfl
theorem starE : "*" ++ "errors.errorString" = "*errors.errorString" := by decide
theorem rowE (u : TypeId) (h : Tryd.prog.typeName? 3 u = some "*errors.errorString") : u = 113 :=
  typeName_ptr_named (nm := "errors.errorString") (by rw [starE]; kernel_rfl) (by kernel_rfl) (by decide) u (by rw [starE]; exact h)
theorem ifcU : Tryd.prog.underlying 67 = some (.interface #[("Error", 75)]) := by kernel_rfl
theorem perU : Tryd.prog.underlying 113 = some (.pointer 115) := by kernel_rfl
theorem cellsE : Tryd.prog.cellsOf 115 = 1 := by kernel_rfl
theorem cellsS : Tryd.prog.cellsOf 9 = 1 := by kernel_rfl
theorem errAt {n : String} {text : List UInt8} {r : List (String × DataW Unit)} {W : World} {g : Nat} (h : laidMet Tryd.prog ((n, .iface "*errors.errorString" (.ptr (.agg [.lit (.string text)]))) :: r) W)
    (hg : Tryd.prog.globalNamed n = some g) (ht : (Tryd.prog.globals[g]?).map (·.type) = some 67) : ∃ p, W.var? Tryd.prog n = some #[.iface 113 p] := by
  obtain ⟨a, s, hv, _⟩ := laid_sentinel h hg ht ifcU rowE perU Tryd.underlying115 rfl rfl Tryd.underlying9 cellsE cellsS
  exact ⟨_, hv⟩
theorem glob_of_var {W : World} {n : String} {g : Nat} {p : Value} (hg : Tryd.prog.globalNamed n = some g) (hv : W.var? Tryd.prog n = some #[.iface 113 p]) :
    g < W.heap.size ∧ ∃ ys t fz, W.heap[g]? = some (.cells ys t fz) ∧ RL (fun b => b < W.heap.size) W [AV.ifc 113 .any] (fun _ => none) ys.toList := by
  unfold World.var? at hv
  rw [hg] at hv
  simp only [Option.bind_some] at hv
  split at hv
  · rename_i c ty fz hh
    cases hv
    refine ⟨(Array.getElem?_eq_some_iff.1 hh).1, _, ty, fz, hh, ?_⟩
    simp only [RL, R]
    exact ⟨_, _, rfl, ⟨p, rfl, trivial⟩, rfl⟩
  · cases hv
theorem globOk_of {W : World} {l : List (String × DataW Unit)} {a b : String × DataW Unit} (hl : l = [a, b, ("internal/strconv.uint64pow10", (Rows.laid_internal_strconv_uint64pow10 : DataW Unit)), ("strconv.ErrRange", (Rows.laid_strconv_ErrRange : DataW Unit)), ("strconv.ErrSyntax", (Rows.laid_strconv_ErrSyntax : DataW Unit))]) (h0 : laidMet Tryd.prog l W) : GlobOk (fun b => b < W.heap.size) W := by
  subst hl
  obtain ⟨pr, hr⟩ := errAt (n := "strconv.ErrRange") h0.tail.tail.tail gER gERType
  obtain ⟨pe, he⟩ := errAt (n := "strconv.ErrSyntax") h0.tail.tail.tail.tail gES gESType
  obtain ⟨ps, hv, _⟩ := h0
  obtain ⟨g, t, cs, fuel, p, h1, h2, h3, h4⟩ := laidVars_mem hv (.tail _ (.tail _ (.head _)))
  obtain rfl := Option.some.inj (gPow.symm.trans h1)
  obtain rfl := Option.some.inj (gPowType.symm.trans h2)
  rw [powData] at h4
  have e := Lib.cells_of_tab arrU u64U cellsU cellsA h4
  unfold World.var? at h3
  rw [gPow] at h3
  simp only [Option.bind_some] at h3
  intro g cs' hg
  have hg' : (g = 3 ∧ cs' = (pow10s.map fun z => Value.int .u64 z).map .v) ∨ (g = 1 ∧ cs' = [AV.ifc 113 .any]) ∨ (g = 2 ∧ cs' = [AV.ifc 113 .any]) := by
    simp only [globTab, List.mem_cons, List.not_mem_nil, or_false, Prod.mk.injEq] at hg
    rcases hg with hg | hg | hg
    · refine .inl ⟨hg.1, hg.2.trans ?_⟩
      simp [pow10s, List.map_map, Function.comp_def]
    · exact .inr (.inl hg)
    · exact .inr (.inr hg)
  rcases hg' with ⟨rfl, rfl⟩ | ⟨rfl, rfl⟩ | ⟨rfl, rfl⟩
  · split at h3
    · rename_i c ty fz hh
      cases h3
      refine ⟨(Array.getElem?_eq_some_iff.1 hh).1, cs, ty, fz, hh, ?_⟩
      rw [e]
      exact RL_vs _
    · cases h3
  · exact glob_of_var gES he
  · exact glob_of_var gER hr
noncomputable def low (os : Os) : Nat := (World.holding Tryd.prog os ⟨#[], #[], []⟩).heap.size
noncomputable def laidWorld (os : Os) : World :=
  { World.holding Tryd.prog os ⟨#[.cells #[.string ⟨#[118, 97, 108, 117, 101, 32, 111, 117, 116, 32, 111, 102, 32, 114, 97, 110, 103, 101]⟩] 115, .cells #[.string ⟨#[105, 110, 118, 97, 108, 105, 100, 32, 115, 121, 110, 116, 97, 120]⟩] 115], #[], []⟩ with heap := ((((((World.holding Tryd.prog os ⟨#[.cells #[.string ⟨#[118, 97, 108, 117, 101, 32, 111, 117, 116, 32, 111, 102, 32, 114, 97, 110, 103, 101]⟩] 115, .cells #[.string ⟨#[105, 110, 118, 97, 108, 105, 100, 32, 115, 121, 110, 116, 97, 120]⟩] 115], #[], []⟩).heap.modify 3 fun
      | .cells _ t frozen => .cells #[.int .u64 1, .int .u64 10, .int .u64 100, .int .u64 1000, .int .u64 10000, .int .u64 100000, .int .u64 1000000, .int .u64 10000000, .int .u64 100000000, .int .u64 1000000000, .int .u64 10000000000, .int .u64 100000000000, .int .u64 1000000000000, .int .u64 10000000000000, .int .u64 100000000000000, .int .u64 1000000000000000, .int .u64 10000000000000000, .int .u64 100000000000000000, .int .u64 1000000000000000000, .int .u64 10000000000000000000] t frozen
      | o => o).modify 4 fun
      | .cells _ t frozen => .cells #[.int .u8 0, .int .u8 1, .int .u8 28, .int .u8 2, .int .u8 29, .int .u8 14, .int .u8 24, .int .u8 3, .int .u8 30, .int .u8 22, .int .u8 20, .int .u8 15, .int .u8 25, .int .u8 17, .int .u8 4, .int .u8 8, .int .u8 31, .int .u8 27, .int .u8 13, .int .u8 23, .int .u8 21, .int .u8 19, .int .u8 16, .int .u8 7, .int .u8 26, .int .u8 12, .int .u8 18, .int .u8 6, .int .u8 11, .int .u8 5, .int .u8 10, .int .u8 9] t frozen
      | o => o).modify 5 fun
      | .cells _ t frozen => .cells #[.int .u8 0, .int .u8 1, .int .u8 56, .int .u8 2, .int .u8 57, .int .u8 49, .int .u8 28, .int .u8 3, .int .u8 61, .int .u8 58, .int .u8 42, .int .u8 50, .int .u8 38, .int .u8 29, .int .u8 17, .int .u8 4, .int .u8 62, .int .u8 47, .int .u8 59, .int .u8 36, .int .u8 45, .int .u8 43, .int .u8 51, .int .u8 22, .int .u8 53, .int .u8 39, .int .u8 33, .int .u8 30, .int .u8 24, .int .u8 18, .int .u8 12, .int .u8 5, .int .u8 63, .int .u8 55, .int .u8 48, .int .u8 27, .int .u8 60, .int .u8 41, .int .u8 37, .int .u8 16, .int .u8 46, .int .u8 35, .int .u8 44, .int .u8 21, .int .u8 52, .int .u8 32, .int .u8 23, .int .u8 11, .int .u8 54, .int .u8 26, .int .u8 40, .int .u8 15, .int .u8 34, .int .u8 20, .int .u8 31, .int .u8 10, .int .u8 25, .int .u8 14, .int .u8 19, .int .u8 9, .int .u8 13, .int .u8 8, .int .u8 7, .int .u8 6] t frozen
      | o => o).modify 2 fun
      | .cells _ t frozen => .cells #[.iface 113 (.pointer (some ⟨low os, 0, none⟩))] t frozen
      | o => o).modify 1 fun
      | .cells _ t frozen => .cells #[.iface 113 (.pointer (some ⟨low os + 1, 0, none⟩))] t frozen
      | o => o) }
theorem opStr : Opens Tryd.prog 9 (fun l : List UInt8 => l.length ≤ maxLen) (fun l => [AV.s l]) :=
  Opens.iso (Opens.string (by kernel_rfl) (by kernel_rfl)) (fun s : ByteArray => s.data.toList) fun s hs => ⟨by simpa using hs, rfl⟩
theorem sback_fin (x : SG) (h : okI x.1 ∧ okI x.2.1 ∧ okI x.2.2.1 ∧ okI x.2.2.2.1 ∧ ∀ a, a ∈ x.2.2.2.2 → okI a) (s : List UInt8) (_ : s.length ≤ maxLen) :
    ACall Tryd.prog 3 [.agg (sgA x), .s s] [] (.b true) [] := sback_c x ⟨okI_I64 h.1, okI_I64 h.2.1, okI_I64 h.2.2.1, okI_I64 h.2.2.2.1, fun y hy => okI_I64 (h.2.2.2.2 y hy)⟩ s
end Go.Proofs.YtnpedigoacbocaaDoor
