/-
  A logic of values for the walk: strings.
-/
import Derived.Test.YtgnnbmgljadokaaGreatDoorAb43
import Derived.Lib.AppendStr
import Derived.Laws.Concat
import Derived.Laws.Strings
import Derived.Laws.Strings2
import Derived.Laws.Strings3

namespace Go.Ab
open Go
set_option linter.unusedVariables false
set_option linter.unusedSimpArgs false

abbrev AV.s (l : List UInt8) : AV := .v (.string ⟨l.toArray⟩)
def bytesA (l : List UInt8) : List (List AV) := l.map fun b => [.v (.int .u8 b.toNat)]
@[simp] theorem bytesA_length (l : List UInt8) : (bytesA l).length = l.length := by simp [bytesA]
def StrT (P : Program) (t : TypeId) : Prop := P.underlying t = some .string

section
variable {P : Program} {env : Env} {h : Hp}
variable {d : Option Nat} {ty : TypeId} {pos : String} {af : Array Edge} {g : Option (Nat × Bool)}
variable {t t2 : TypeId} {x y : Operand} {a b : List UInt8}

theorem eqg (op : BinOp) (t : TypeId) (x y : Operand) (s : ByteArray) (v : Value) : eqGuard op t x y (.string s) v = pure () := by cases op <;> rfl
theorem fs_addS (hx : evu env x = some (.s a)) (hy : evu env y = some (.s b)) (hl : a.length + b.length ≤ 9223372036854775807) : FStep P ⟨d, .binOp .add t x y t2, ty, pos, af, g⟩ env h 0 (fun _ => .s (a ++ b)) (fun _ => []) := by
  refine fs_val fun ρ S ac w p => ⟨.string ⟨(a ++ b).toArray⟩, ?_, by simp [R]⟩
  have h1 := R_v (p.evu hx)
  have h2 := R_v (p.evu hy)
  have e : (⟨a.toArray⟩ : ByteArray) ++ ⟨b.toArray⟩ = ⟨(a ++ b).toArray⟩ := by apply ByteArray.ext; simp
  have := Go.run_string_add_sum (P := P) w ⟨a.toArray⟩ ⟨b.toArray⟩ (by show a.toArray.size + b.toArray.size ≤ _; simpa using hl)
  simp [execOp, h1, h2, eqg, binOp_string_add, this, e]
theorem fs_eqlS (hx : evu env x = some (.s a)) (hy : evu env y = some (.s b)) : FStep P ⟨d, .binOp .eql t x y t2, ty, pos, af, g⟩ env h 0 (fun _ => .b (decide (a = b))) (fun _ => []) := by
  refine fs_val fun ρ S ac w p => ⟨.bool (decide (a = b)), ?_, by simp [R]⟩
  have h1 := R_v (p.evu hx)
  have h2 := R_v (p.evu hy)
  simp [execOp, h1, h2, eqg, binOp_string_eql, binOp_string_neq]
  by_cases hab : a = b <;> simp [hab]
theorem fs_neqS (hx : evu env x = some (.s a)) (hy : evu env y = some (.s b)) : FStep P ⟨d, .binOp .neq t x y t2, ty, pos, af, g⟩ env h 0 (fun _ => .b (!decide (a = b))) (fun _ => []) := by
  refine fs_val fun ρ S ac w p => ⟨.bool (!decide (a = b)), ?_, by simp [R]⟩
  have h1 := R_v (p.evu hx)
  have h2 := R_v (p.evu hy)
  simp [execOp, h1, h2, eqg, binOp_string_eql, binOp_string_neq]
  by_cases hab : a = b <;> simp [hab]
theorem fs_lenS (ht : StrT P t) (hx : evu env x = some (.s a)) : FStep P ⟨d, .call { callee := .builtin .len, args := #[x], argTypes := #[t] }, ty, pos, af, g⟩ env h 0 (fun _ => .i a.length) (fun _ => []) := by
  refine fs_val fun ρ S ac w p => ⟨.int .i64 a.length, ?_, by simp [R]⟩
  have h1 := R_v (p.evu hx)
  have ht' : P.underlying t = some .string := ht
  have e : (⟨a.toArray⟩ : ByteArray).size = a.length := by show a.toArray.size = _; simp
  rw [← e]
  simp [execOp, resolve, invoke, builtin, h1, Builtin.len_, run_underlying ht', goInt]
theorem fs_indexS (ht : StrT P t) {k : IntKind} {j : Int} (hx : evu env x = some (.s a)) (hy : evu env y = some (.v (.int k j))) (h0 : 0 ≤ j) {c : UInt8} (hc : a[j.toNat]? = some c) : FStep P ⟨d, .index t x y, ty, pos, af, g⟩ env h 0 (fun _ => .v (.int .u8 c.toNat)) (fun _ => []) := by
  refine fs_val fun ρ S ac w p => ⟨.int .u8 c.toNat, ?_, by simp [R]⟩
  have h1 := R_v (p.evu hx)
  have h2 := R_v (p.evu hy)
  have ht' : P.underlying t = some .string := ht
  have hlt : j.toNat < a.length := (List.getElem?_eq_some_iff.1 hc).1
  have hs : j.toNat < (⟨a.toArray⟩ : ByteArray).size := by show _ < a.toArray.size; simpa using hlt
  have e : (⟨a.toArray⟩ : ByteArray)[j.toNat]'hs = c := by
    have := (List.getElem?_eq_some_iff.1 hc).2
    rw [← this]
    rfl
  have hr : (Instr.index t (.string ⟨a.toArray⟩) (.int k j)).run P w = .ok (.int .u8 c.toNat) w := by
    rw [run_index_string (P := P) w t ⟨a.toArray⟩ k j ht', dif_pos ⟨h0, by omega⟩, e]
  simp [execOp, h1, h2, hr]
theorem run_boundsS {ρ : Pl} {S : Nat → Prop} {a : Act} {w : World} (p : Pre ρ S env h a w) {lo hi : Option Operand} {l r : Int} {len : Nat} (hlo : evB env lo 0 = some l) (hhi : evB env hi len = some r) (h0 : 0 ≤ l) (h1 : l ≤ r) (h2 : r ≤ len) :
    ∀ w, (Instr.sliceBounds false len len (lo.map a.eval) (hi.map a.eval) none).run P w = .ok (l.toNat, r.toNat, len) w := by
  intro w
  have hr : ∀ k code, (Instr.sliceBound (.int k r) len code).run P w = .ok r.toNat w := fun k code => by
    simp only [Instr.sliceBound, asIntOf, Sem.run_bind, Sem.run_pure, Result.andThen_ok]
    rw [if_pos ⟨by omega, by omega⟩]; rfl
  have hl : ∀ k code, (Instr.sliceBound (.int k l) r.toNat code).run P w = .ok l.toNat w := fun k code => by
    simp only [Instr.sliceBound, asIntOf, Sem.run_bind, Sem.run_pure, Result.andThen_ok]
    rw [if_pos ⟨by omega, by omega⟩]; rfl
  cases lo with
  | none =>
    simp only [evB, Option.some.injEq] at hlo
    subst hlo
    cases hi with
    | none =>
      simp only [evB, Option.some.injEq] at hhi
      subst hhi
      simp [Instr.sliceBounds]
    | some x =>
      obtain ⟨k, hk⟩ := evB_val p hhi
      simp [Instr.sliceBounds, hk, hr]
  | some y =>
    obtain ⟨k', hk'⟩ := evB_val p hlo
    cases hi with
    | none =>
      simp only [evB, Option.some.injEq] at hhi
      subst hhi
      have := hl k'
      simp only [Int.toNat_natCast] at this
      simp [Instr.sliceBounds, hk', this]
    | some x =>
      obtain ⟨k, hk⟩ := evB_val p hhi
      simp [Instr.sliceBounds, hk, hk', hr, hl]
theorem fs_sliceS (ht : StrT P t) {lo hi : Option Operand} {l r : Int} (hx : evu env x = some (.s a)) (hlo : evB env lo 0 = some l) (hhi : evB env hi a.length = some r) (h0 : 0 ≤ l) (h1 : l ≤ r) (h2 : r ≤ a.length) : FStep P ⟨d, .slice t x lo hi none, ty, pos, af, g⟩ env h 0 (fun _ => .s ((a.take r.toNat).drop l.toNat)) (fun _ => []) := by
  refine fs_val fun ρ S ac w p => ⟨.string ⟨((a.take r.toNat).drop l.toNat).toArray⟩, ?_, by simp [R]⟩
  have hv := R_v (p.evu hx)
  have ht' : P.underlying t = some .string := ht
  have e : (⟨a.toArray⟩ : ByteArray).size = a.length := by show a.toArray.size = _; simp
  have he : (⟨a.toArray⟩ : ByteArray).extract l.toNat r.toNat = ⟨((a.take r.toNat).drop l.toNat).toArray⟩ := by
    apply ByteArray.ext
    simp [ByteArray.data_extract, List.extract_eq_take_drop, List.drop_take]
  have hb := run_boundsS (P := P) p hlo hhi h0 h1 h2
  have hS : (Instr.slice t (.string ⟨a.toArray⟩) (lo.map ac.eval) (hi.map ac.eval) none).run P w = .ok (.string ⟨((a.take r.toNat).drop l.toNat).toArray⟩) w := by
    rw [← he]
    have hb' : (Instr.sliceBounds false (⟨a.toArray⟩ : ByteArray).size (⟨a.toArray⟩ : ByteArray).size (lo.map ac.eval) (hi.map ac.eval) none).run P w = .ok (l.toNat, r.toNat, a.length) w := by rw [e]; exact hb w
    simp [Instr.slice, run_underlying ht', hb']
  simp [execOp, hv, Instr.sliceAt, run_underlying ht', hS]
theorem run_firstS (w : World) (size : Nat) (l : List UInt8) : (Builtin.firstCells size l.length (.string ⟨l.toArray⟩)).run P w = .ok (l.map fun b => Value.int .u8 b.toNat).toArray w := by
  have := Go.Lib.run_firstCells_string (P := P) w size ⟨l.toArray⟩
  have e : (⟨l.toArray⟩ : ByteArray).size = l.length := by show l.toArray.size = _; simp
  rw [e] at this
  rw [this]
  simp [Go.Lib.strCells]
theorem lenOf_S (w : World) (l : List UInt8) : (Builtin.lenOf (.string ⟨l.toArray⟩)).run P w = .ok l.length w := by
  have e : (⟨l.toArray⟩ : ByteArray).size = l.length := by show l.toArray.size = _; simp
  simp [Builtin.lenOf, e]
theorem run_appendS_in {w : World} {t tS ty e : TypeId} {i : TypeInfo} (ht : P.underlying t = some (.slice e)) (hS : P.underlying tS = some .string) (hi : P.info? e = some i) {b o len cap : Nat} {l : List UInt8} {zs : List Value} (hl : zs = l.map fun b => Value.int .u8 b.toNat) (h1 : ∀ u ∈ zs, u.oneCell' = true)
    {cc : Array Value} {ee : TypeId} (hc : w.heap[b]? = some (.cells cc ee (0, 0))) (hroom : len + l.length ≤ cap) (hfit : o + len * i.size + zs.length ≤ cc.size) :
    (Builtin.append_ #[t, tS] ty #[.slice (some ⟨b, o, none⟩) len cap, .string ⟨l.toArray⟩]).run P w = .ok (.slice (some ⟨b, o, none⟩) (len + l.length) cap) (w.setRow b (cc.toList.take (o + len * i.size) ++ zs ++ cc.toList.drop (o + len * i.size + zs.length)).toArray) := by
  have hf := run_firstS (P := P) w i.size l
  rw [← hl] at hf
  have hst := run_storeCells_at P b (o + len * i.size) ee zs 0 cc w hc (by simpa using hfit) h1
  simp only [Nat.add_zero] at hst
  simp [Builtin.append_, run_underlying ht, run_underlying hS, sizeOf, typeInfo, hi, lenOf_S, hroom, hf, Addr.add_lit, hst]
theorem run_appendS_same {w : World} {t tS ty e : TypeId} {i : TypeInfo} (ht : P.underlying t = some (.slice e)) (hS : P.underlying tS = some .string) (hi : P.info? e = some i) {a : Option Addr} {len cap : Nat} (hlc : len ≤ cap) :
    (Builtin.append_ #[t, tS] ty #[.slice a len cap, .string ⟨([] : List UInt8).toArray⟩]).run P w = .ok (.slice a len cap) w := by
  have hf := run_firstS (P := P) w i.size []
  simp only [List.length_nil, List.map_nil] at hf
  have h0 := lenOf_S (P := P) w []
  simp only [List.length_nil] at h0
  cases a with
  | none => simp [Builtin.append_, run_underlying ht, run_underlying hS, sizeOf, typeInfo, hi, h0, hlc, hf]
  | some a => simp [Builtin.append_, run_underlying ht, run_underlying hS, sizeOf, typeInfo, hi, h0, hlc, hf, storeCells]
theorem run_appendS_new {w : World} {t tS ty e : TypeId} {i : TypeInfo} {z : Value} (ht : P.underlying t = some (.slice e)) (hS : P.underlying tS = some .string) (hi : P.info? e = some i) (hz0 : i.zero = some z) {a : Option Addr} {len cap : Nat} {l : List UInt8} {ys zs : List Value} (hly : ys.length = len * i.size) (hy : len = 0 ∨ ∃ b o, a = some ⟨b, o, none⟩ ∧ lies w b o ys)
    (hl : zs = l.map fun b => Value.int .u8 b.toNat) (hg : cap < len + l.length) (hb : (len + l.length) * i.bytes ≤ 140737488355328) (h63 : len + l.length ≤ 9223372036854775807) :
    (Builtin.append_ #[t, tS] ty #[.slice a len cap, .string ⟨l.toArray⟩]).run P w = .ok (.slice (some ⟨w.heap.size, 0, none⟩) (len + l.length) (grownCap w (len + l.length) cap e)) (w.drew.alloc (.cells (ys.toArray ++ zs.toArray ++ Builtin.zeroCells z.cells (grownCap w (len + l.length) cap e - (len + l.length))) e)) := by
  have hn : ¬ (len + l.length ≤ cap) := by omega
  have h63' : ¬ (9223372036854775807 < ((len : Int) + (l.length : Int))) := by omega
  have h48' : ¬ (281474976710656 < Builtin.nextslicecap (len + l.length) cap * i.bytes) := by have := growslice_fits (old := cap) (need := len + l.length) (by omega) hb; omega
  have hd : ∀ {b o : Nat} {l : List Value}, lies w b o l → lies w.drew b o l := fun h => h
  have hf := run_firstS (P := P) w.drew i.size l
  rw [← hl] at hf
  have hfo := run_first (P := P) (w := w.drew) (size := i.size) (cap := cap) hly (hy.imp id fun ⟨b, o, h1, h2⟩ => ⟨b, o, h1, hd h2⟩)
  simp [Builtin.append_, run_underlying ht, run_underlying hS, sizeOf, typeInfo, zeroValue, hi, hz0, lenOf_S, hn, h63', h48', Question.forced, hf, hfo, newRow, grownCap, -List.append_toArray]

end
end Go.Ab
