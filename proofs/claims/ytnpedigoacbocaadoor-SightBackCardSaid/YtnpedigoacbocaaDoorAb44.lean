/-
  A logic of values for the walk: strings.
-/
import Derived.Test.YtnpedigoacbocaaDoorAb43
import Derived.Lib.AppendStr
import Derived.Laws.Concat
import Derived.Laws.Strings
import Derived.Laws.Strings2
import Derived.Laws.Strings3

namespace Go.Ab
open Go
set_option linter.unusedVariables false
set_option linter.unusedSimpArgs false

/-- A string, by its bytes. -/
abbrev AV.s (l : List UInt8) : AV := .v (.string ⟨l.toArray⟩)
/-- The bytes of a slice. -/
def bytesA (l : List UInt8) : List (List AV) := l.map fun b => [.v (.int .u8 b.toNat)]
@[simp] theorem bytesA_length (l : List UInt8) : (bytesA l).length = l.length := by simp [bytesA]
theorem bytesA_flat : ∀ l : List UInt8, (bytesA l).flatten = l.map fun b => AV.v (.int .u8 b.toNat)
  | [] => rfl
  | b :: l => by simp only [bytesA, List.map_cons, List.flatten_cons]; rw [show (l.map fun b => [AV.v (.int .u8 b.toNat)]).flatten = _ from bytesA_flat l]; rfl
theorem bytesA_append (a b : List UInt8) : bytesA (a ++ b) = bytesA a ++ bytesA b := by simp [bytesA]
theorem bytes_RL {S : Nat → Prop} {w : World} {ρ : Pl} : ∀ l : List UInt8, RL S w (l.map fun b => AV.v (.int .u8 b.toNat)) ρ (l.map fun b => Value.int .u8 b.toNat)
  | [] => by simp [RL]
  | b :: l => by simp only [List.map_cons, RL]; exact ⟨_, _, rfl, by simp [R], bytes_RL l⟩
theorem bytes_RL' {S : Nat → Prop} {w : World} {ρ : Pl} : ∀ {l : List UInt8} {ys : List Value}, RL S w (l.map fun b => AV.v (.int .u8 b.toNat)) ρ ys → ys = l.map fun b => Value.int .u8 b.toNat
  | [], _, h => by simpa [RL] using h
  | b :: l, _, h => by
    simp only [List.map_cons, RL] at h
    obtain ⟨y, zs, rfl, h1, h2⟩ := h
    rw [R_v h1, bytes_RL' h2]; rfl
def StrT (P : Program) (t : TypeId) : Prop := P.underlying t = some .string

section
variable {P : Program} {env : Env} {h : Hp}
variable {d : Option Nat} {ty : TypeId} {pos : String} {af : Array Edge} {g : Option (Nat × Bool)}
variable {t t2 : TypeId} {x y : Operand} {a b : List UInt8}

theorem eqg (op : BinOp) (t : TypeId) (x y : Operand) (s : ByteArray) (v : Value) : eqGuard op t x y (.string s) v = pure () := by cases op <;> rfl
theorem fs_addS (hx : evu env x = some (.s a)) (hy : evu env y = some (.s b)) (hl : a.length + b.length ≤ 9223372036854775807) : FStep P ⟨d, .binOp .add t x y t2, ty, pos, af, g⟩ env h 0 (fun _ => .s (a ++ b)) (fun _ => []) := by
  refine fs_val fun ρ S ac w p => ⟨.string ⟨(a ++ b).toArray⟩, ?_, by simp [R]⟩
  have h1 := R_v (p.evu hx)
  have h2 := R_v (p.evu hy)
  have e : (⟨a.toArray⟩ : ByteArray) ++ ⟨b.toArray⟩ = ⟨(a ++ b).toArray⟩ := by apply ByteArray.ext; simp
  have := Go.run_string_add_sum (P := P) w ⟨a.toArray⟩ ⟨b.toArray⟩ (by show a.toArray.size + b.toArray.size ≤ _; simpa using hl)
  simp [execOp, h1, h2, eqg, binOp_string_add, this, e]
theorem fs_eqlS (hx : evu env x = some (.s a)) (hy : evu env y = some (.s b)) : FStep P ⟨d, .binOp .eql t x y t2, ty, pos, af, g⟩ env h 0 (fun _ => .b (decide (a = b))) (fun _ => []) := by
  refine fs_val fun ρ S ac w p => ⟨.bool (decide (a = b)), ?_, by simp [R]⟩
  have h1 := R_v (p.evu hx)
  have h2 := R_v (p.evu hy)
  simp [execOp, h1, h2, eqg, binOp_string_eql, binOp_string_neq]
  by_cases hab : a = b <;> simp [hab]
theorem fs_neqS (hx : evu env x = some (.s a)) (hy : evu env y = some (.s b)) : FStep P ⟨d, .binOp .neq t x y t2, ty, pos, af, g⟩ env h 0 (fun _ => .b (!decide (a = b))) (fun _ => []) := by
  refine fs_val fun ρ S ac w p => ⟨.bool (!decide (a = b)), ?_, by simp [R]⟩
  have h1 := R_v (p.evu hx)
  have h2 := R_v (p.evu hy)
  simp [execOp, h1, h2, eqg, binOp_string_eql, binOp_string_neq]
  by_cases hab : a = b <;> simp [hab]
theorem fs_lenS (ht : StrT P t) (hx : evu env x = some (.s a)) : FStep P ⟨d, .call { callee := .builtin .len, args := #[x], argTypes := #[t] }, ty, pos, af, g⟩ env h 0 (fun _ => .i a.length) (fun _ => []) := by
  refine fs_val fun ρ S ac w p => ⟨.int .i64 a.length, ?_, by simp [R]⟩
  have h1 := R_v (p.evu hx)
  have ht' : P.underlying t = some .string := ht
  have e : (⟨a.toArray⟩ : ByteArray).size = a.length := by show a.toArray.size = _; simp
  rw [← e]
  simp [execOp, resolve, invoke, builtin, h1, Builtin.len_, run_underlying ht', goInt]
theorem fs_indexS (ht : StrT P t) {k : IntKind} {j : Int} (hx : evu env x = some (.s a)) (hy : evu env y = some (.v (.int k j))) (h0 : 0 ≤ j) {c : UInt8} (hc : a[j.toNat]? = some c) : FStep P ⟨d, .index t x y, ty, pos, af, g⟩ env h 0 (fun _ => .v (.int .u8 c.toNat)) (fun _ => []) := by
  refine fs_val fun ρ S ac w p => ⟨.int .u8 c.toNat, ?_, by simp [R]⟩
  have h1 := R_v (p.evu hx)
  have h2 := R_v (p.evu hy)
  have ht' : P.underlying t = some .string := ht
  have hlt : j.toNat < a.length := (List.getElem?_eq_some_iff.1 hc).1
  have hs : j.toNat < (⟨a.toArray⟩ : ByteArray).size := by show _ < a.toArray.size; simpa using hlt
  have e : (⟨a.toArray⟩ : ByteArray)[j.toNat]'hs = c := by
    have := (List.getElem?_eq_some_iff.1 hc).2
    rw [← this]
    rfl
  have hr : (Instr.index t (.string ⟨a.toArray⟩) (.int k j)).run P w = .ok (.int .u8 c.toNat) w := by
    rw [run_index_string (P := P) w t ⟨a.toArray⟩ k j ht', dif_pos ⟨h0, by omega⟩, e]
  simp [execOp, h1, h2, hr]
theorem run_boundsS {ρ : Pl} {S : Nat → Prop} {a : Act} {w : World} (p : Pre ρ S env h a w) {lo hi : Option Operand} {l r : Int} {len : Nat} (hlo : evB env lo 0 = some l) (hhi : evB env hi len = some r) (h0 : 0 ≤ l) (h1 : l ≤ r) (h2 : r ≤ len) :
    ∀ w, (Instr.sliceBounds false len len (lo.map a.eval) (hi.map a.eval) none).run P w = .ok (l.toNat, r.toNat, len) w := by
  intro w
  have hr : ∀ k code, (Instr.sliceBound (.int k r) len code).run P w = .ok r.toNat w := fun k code => by
    simp only [Instr.sliceBound, asIntOf, Sem.run_bind, Sem.run_pure, Result.andThen_ok]
    rw [if_pos ⟨by omega, by omega⟩]; rfl
  have hl : ∀ k code, (Instr.sliceBound (.int k l) r.toNat code).run P w = .ok l.toNat w := fun k code => by
    simp only [Instr.sliceBound, asIntOf, Sem.run_bind, Sem.run_pure, Result.andThen_ok]
    rw [if_pos ⟨by omega, by omega⟩]; rfl
  cases lo with
  | none =>
    simp only [evB, Option.some.injEq] at hlo
    subst hlo
    cases hi with
    | none =>
      simp only [evB, Option.some.injEq] at hhi
      subst hhi
      simp [Instr.sliceBounds]
    | some x =>
      obtain ⟨k, hk⟩ := evB_val p hhi
      simp [Instr.sliceBounds, hk, hr]
  | some y =>
    obtain ⟨k', hk'⟩ := evB_val p hlo
    cases hi with
    | none =>
      simp only [evB, Option.some.injEq] at hhi
      subst hhi
      have := hl k'
      simp only [Int.toNat_natCast] at this
      simp [Instr.sliceBounds, hk', this]
    | some x =>
      obtain ⟨k, hk⟩ := evB_val p hhi
      simp [Instr.sliceBounds, hk, hk', hr, hl]
theorem fs_sliceS (ht : StrT P t) {lo hi : Option Operand} {l r : Int} (hx : evu env x = some (.s a)) (hlo : evB env lo 0 = some l) (hhi : evB env hi a.length = some r) (h0 : 0 ≤ l) (h1 : l ≤ r) (h2 : r ≤ a.length) : FStep P ⟨d, .slice t x lo hi none, ty, pos, af, g⟩ env h 0 (fun _ => .s ((a.take r.toNat).drop l.toNat)) (fun _ => []) := by
  refine fs_val fun ρ S ac w p => ⟨.string ⟨((a.take r.toNat).drop l.toNat).toArray⟩, ?_, by simp [R]⟩
  have hv := R_v (p.evu hx)
  have ht' : P.underlying t = some .string := ht
  have e : (⟨a.toArray⟩ : ByteArray).size = a.length := by show a.toArray.size = _; simp
  have he : (⟨a.toArray⟩ : ByteArray).extract l.toNat r.toNat = ⟨((a.take r.toNat).drop l.toNat).toArray⟩ := by
    apply ByteArray.ext
    simp [ByteArray.data_extract, List.extract_eq_take_drop, List.drop_take]
  have hb := run_boundsS (P := P) p hlo hhi h0 h1 h2
  have hS : (Instr.slice t (.string ⟨a.toArray⟩) (lo.map ac.eval) (hi.map ac.eval) none).run P w = .ok (.string ⟨((a.take r.toNat).drop l.toNat).toArray⟩) w := by
    rw [← he]
    have hb' : (Instr.sliceBounds false (⟨a.toArray⟩ : ByteArray).size (⟨a.toArray⟩ : ByteArray).size (lo.map ac.eval) (hi.map ac.eval) none).run P w = .ok (l.toNat, r.toNat, a.length) w := by rw [e]; exact hb w
    simp [Instr.slice, run_underlying ht', hb']
  simp [execOp, hv, Instr.sliceAt, run_underlying ht', hS]
theorem run_firstS (w : World) (size : Nat) (l : List UInt8) : (Builtin.firstCells size l.length (.string ⟨l.toArray⟩)).run P w = .ok (l.map fun b => Value.int .u8 b.toNat).toArray w := by
  have := Go.Lib.run_firstCells_string (P := P) w size ⟨l.toArray⟩
  have e : (⟨l.toArray⟩ : ByteArray).size = l.length := by show l.toArray.size = _; simp
  rw [e] at this
  rw [this]
  simp [Go.Lib.strCells]
theorem lenOf_S (w : World) (l : List UInt8) : (Builtin.lenOf (.string ⟨l.toArray⟩)).run P w = .ok l.length w := by
  have e : (⟨l.toArray⟩ : ByteArray).size = l.length := by show l.toArray.size = _; simp
  simp [Builtin.lenOf, e]
theorem run_appendS_in {w : World} {t tS ty e : TypeId} {i : TypeInfo} (ht : P.underlying t = some (.slice e)) (hS : P.underlying tS = some .string) (hi : P.info? e = some i) {b o len cap : Nat} {l : List UInt8} {zs : List Value} (hl : zs = l.map fun b => Value.int .u8 b.toNat) (h1 : ∀ u ∈ zs, u.oneCell' = true)
    {cc : Array Value} {ee : TypeId} (hc : w.heap[b]? = some (.cells cc ee (0, 0))) (hroom : len + l.length ≤ cap) (hfit : o + len * i.size + zs.length ≤ cc.size) :
    (Builtin.append_ #[t, tS] ty #[.slice (some ⟨b, o, none⟩) len cap, .string ⟨l.toArray⟩]).run P w = .ok (.slice (some ⟨b, o, none⟩) (len + l.length) cap) (w.setRow b (cc.toList.take (o + len * i.size) ++ zs ++ cc.toList.drop (o + len * i.size + zs.length)).toArray) := by
  have hf := run_firstS (P := P) w i.size l
  rw [← hl] at hf
  have hst := run_storeCells_at P b (o + len * i.size) ee zs 0 cc w hc (by simpa using hfit) h1
  simp only [Nat.add_zero] at hst
  simp [Builtin.append_, run_underlying ht, run_underlying hS, sizeOf, typeInfo, hi, lenOf_S, hroom, hf, Addr.add_lit, hst]
theorem run_appendS_same {w : World} {t tS ty e : TypeId} {i : TypeInfo} (ht : P.underlying t = some (.slice e)) (hS : P.underlying tS = some .string) (hi : P.info? e = some i) {a : Option Addr} {len cap : Nat} (hlc : len ≤ cap) :
    (Builtin.append_ #[t, tS] ty #[.slice a len cap, .string ⟨([] : List UInt8).toArray⟩]).run P w = .ok (.slice a len cap) w := by
  have hf := run_firstS (P := P) w i.size []
  simp only [List.length_nil, List.map_nil] at hf
  have h0 := lenOf_S (P := P) w []
  simp only [List.length_nil] at h0
  cases a with
  | none => simp [Builtin.append_, run_underlying ht, run_underlying hS, sizeOf, typeInfo, hi, h0, hlc, hf]
  | some a => simp [Builtin.append_, run_underlying ht, run_underlying hS, sizeOf, typeInfo, hi, h0, hlc, hf, storeCells]
theorem run_appendS_new {w : World} {t tS ty e : TypeId} {i : TypeInfo} {z : Value} (ht : P.underlying t = some (.slice e)) (hS : P.underlying tS = some .string) (hi : P.info? e = some i) (hz0 : i.zero = some z) {a : Option Addr} {len cap : Nat} {l : List UInt8} {ys zs : List Value} (hly : ys.length = len * i.size) (hy : len = 0 ∨ ∃ b o, a = some ⟨b, o, none⟩ ∧ lies w b o ys)
    (hl : zs = l.map fun b => Value.int .u8 b.toNat) (hg : cap < len + l.length) (hb : (len + l.length) * i.bytes ≤ 140737488355328) (h63 : len + l.length ≤ 9223372036854775807) :
    (Builtin.append_ #[t, tS] ty #[.slice a len cap, .string ⟨l.toArray⟩]).run P w = .ok (.slice (some ⟨w.heap.size, 0, none⟩) (len + l.length) (grownCap w (len + l.length) cap e)) (w.drew.alloc (.cells (ys.toArray ++ zs.toArray ++ Builtin.zeroCells z.cells (grownCap w (len + l.length) cap e - (len + l.length))) e)) := by
  have hn : ¬ (len + l.length ≤ cap) := by omega
  have h63' : ¬ (9223372036854775807 < ((len : Int) + (l.length : Int))) := by omega
  have h48' : ¬ (281474976710656 < Builtin.nextslicecap (len + l.length) cap * i.bytes) := by have := growslice_fits (old := cap) (need := len + l.length) (by omega) hb; omega
  have hd : ∀ {b o : Nat} {l : List Value}, lies w b o l → lies w.drew b o l := fun h => h
  have hf := run_firstS (P := P) w.drew i.size l
  rw [← hl] at hf
  have hfo := run_first (P := P) (w := w.drew) (size := i.size) (cap := cap) hly (hy.imp id fun ⟨b, o, h1, h2⟩ => ⟨b, o, h1, hd h2⟩)
  simp [Builtin.append_, run_underlying ht, run_underlying hS, sizeOf, typeInfo, zeroValue, hi, hz0, lenOf_S, hn, h63', h48', Question.forced, hf, hfo, newRow, grownCap, -List.append_toArray]

/-- A string's bytes are appended to a slice of one's own. -/
theorem vc_appendS {n : Nat × Nat} {ops : Array Oper} {rest : List Oper} {K : Env → Hp → Prop} (T : Tab P) {t e k off len sz dd : Nat} {i : TI} {x y : Operand} {l0 : List UInt8} {es news : List (List AV)} {tS : TypeId} (htS : P.underlying tS = some .string) (hnews : news = bytesA l0) (hsz1 : sz = 1) (hx : evu env x = some (.sl k off len sz)) (hy : evu env y = some (.s l0)) (ht : T.elem t = some e) (he : T.ti e = some i) (hs : i.size = sz)
    (hkk : h[k]? = some (.arr es sz)) (hle : off + len ≤ es.length) (hb : (len + news.length) * i.bytes ≤ 140737488355328) (h63 : len + news.length ≤ 9223372036854775807) (hd : okd (some dd) n = true)
    (hk : VC P n ops rest ((dd, .sl h.length 0 (len + news.length) sz) :: env) (h.set k .gone ++ [.arr ((es.drop off).take len ++ news) sz]) K) :
    VC P n ops (⟨some dd, .call { callee := .builtin .append, args := #[x, y], argTypes := #[t, tS] }, ty, pos, af, none⟩ :: rest) env h K := by
  intro c ρ S a w Q s hQ
  refine wpList_plain rfl fun K' hK' => ?_
  have p := s.pre
  have hxv := p.evu hx
  have y1 : a.eval y = .string ⟨l0.toArray⟩ := R_v (p.evu hy)
  obtain ⟨zs, hzs0⟩ : ∃ zs, zs = l0.map fun b => Value.int .u8 b.toNat := ⟨_, rfl⟩
  have y5 : zs.length = news.length * sz := by rw [hzs0, hnews, hsz1]; simp
  have y6 : RL S w news.flatten ρ zs := by rw [hnews, bytesA_flat, hzs0]; exact bytes_RL l0
  obtain ⟨inf, z, t1, t2, t3, t4, t5, t6, t7⟩ := T.tiOk e i he
  have hone : ∀ u ∈ zs, u.oneCell' = true := fun u hu => by rw [hzs0] at hu; obtain ⟨q, _, rfl⟩ := List.mem_map.1 hu; rfl
  have hxe : Elems h (.sl k off len sz) ((es.drop off).take len) sz := .sl hkk hle
  obtain ⟨a1, c1, ys, x1, x2, x3, x4, x5, x6, x7⟩ := elems_val p.blk hxv hxe
  have hlen : ((es.drop off).take len).length = len := by rw [List.length_take, List.length_drop]; omega
  rw [hlen] at x1 x2 x5 x7
  have hB := p.blk k _ hkk
  simp only [RB] at hB
  obtain ⟨hes, hs0, hB⟩ := hB
  have hnl : ∀ q, q ∈ news → q.length = sz := fun q hq => by rw [hnews] at hq; obtain ⟨u, _, rfl⟩ := List.mem_map.1 hq; rw [hsz1]; rfl
  have hml : news.length = l0.length := by rw [hnews]; simp
  have hall : ∀ q, q ∈ (es.drop off).take len ++ news → q.length = sz := fun q hq => by
    rcases List.mem_append.1 hq with hq | hq
    · exact hes q (List.mem_of_mem_drop (List.mem_of_mem_take hq))
    · exact hnl q hq
  have hklt : k < h.length := (List.getElem?_eq_some_iff.1 hkk).1
  have ev1 : ∀ r w', (Builtin.append_ #[t, tS] ty #[a.eval x, a.eval y]).run P w = .ok r w' → (execOp a.eval ⟨some dd, .call { callee := .builtin .append, args := #[x, y], argTypes := #[t, tS] }, ty, pos, af, none⟩).run P w = .ok (.value r) w' := fun r w' hr => by
    simp [execOp, resolve, invoke, builtin, hr]
  -- whatever it does: the new object's place, and the world
  have fin : ∀ {r : Value} {w' : World} {q : Option (Nat × Nat)}, (Builtin.append_ #[t, tS] ty #[a.eval x, a.eval y]).run P w = .ok r w' → Ext c.M w w' → (∀ j b, h[j]? = some b → j ≠ k → b ≠ .gone → ∀ b1 o1, ρ j = some (b1, o1) → w'.heap[b1]? = w.heap[b1]?) → (∀ b1, S b1 → w'.heap[b1]? = w.heap[b1]?) →
      (∀ b1 o1, q = some (b1, o1) → c.M b1 ∧ ¬ S b1 ∧ b1 < w'.heap.size ∧ ∀ j b, h[j]? = some b → j ≠ k → b ≠ .gone → ∀ b2 o2, ρ j = some (b2, o2) → b2 ≠ b1) →
      (Later ρ (fun j => if j = h.length then q else ρ j) S S w w' → R S w' (.sl h.length 0 (len + news.length) sz) (fun j => if j = h.length then q else ρ j) r ∧ RB S w' (fun j => if j = h.length then q else ρ j) q (.arr ((es.drop off).take len ++ news) sz)) →
      Oper.wp P ⟨some dd, .call { callee := .builtin .append, args := #[x, y], argTypes := #[t, tS] }, ty, pos, af, none⟩ a w K' Q := fun {r w' q} hr hext hoth hst hq hval => by
    unfold Oper.wp
    rw [ev1 r w' hr]
    have hdom := s.hs.dom h.length (Nat.le_refl _)
    have l : Later ρ (fun j => if j = h.length then q else ρ j) S S w w' := ⟨fun j u hu => by
      show (if j = h.length then q else ρ j) = _
      rw [if_neg (fun e => by rw [e, hdom] at hu; cases hu)]; exact hu, fun _ h => h, hst, fun _ _ _ _ _ hr => hext.room hr⟩
    obtain ⟨v1, v2⟩ := hval l
    have hget : ∀ {j : Nat} {b : AB}, (h.set k .gone ++ [.arr ((es.drop off).take len ++ news) sz])[j]? = some b → b ≠ .gone → (j < h.length ∧ j ≠ k ∧ h[j]? = some b) ∨ (j = h.length ∧ b = .arr ((es.drop off).take len ++ news) sz) := fun {j b} hj hg => by
      by_cases hjl : j < h.length
      · rw [List.getElem?_append_left (by simpa using hjl)] at hj
        by_cases hjk : j = k
        · subst hjk; rw [List.getElem?_set_self hklt] at hj; cases hj; exact absurd rfl hg
        · rw [List.getElem?_set_ne (Ne.symm hjk)] at hj; exact .inl ⟨hjl, hjk, hj⟩
      · rw [List.getElem?_append_right (by simp; omega)] at hj
        simp only [List.length_set] at hj
        by_cases hj0 : j - h.length = 0
        · rw [hj0] at hj; simp at hj; exact .inr ⟨by omega, hj.symm⟩
        · rw [List.getElem?_eq_none (by simp; omega)] at hj; cases hj
    refine hK' _ _ (hk c (fun j => if j = h.length then q else ρ j) S _ w' Q ⟨by rw [size_put]; exact s.size, by rw [defers_put]; exact s.defers.later l, env_put s.size hd (fun tt uu huu => (s.env tt uu huu).later l) v1, ⟨fun j hj => ?_, fun j u hu => ?_, fun j b hj => ?_, fun j b u hj hg hu => ?_, fun j j' b b' u u' hj hj' hg hg' hu hu' e => ?_, fun b1 hb1 => Nat.lt_of_lt_of_le (s.hs.stab b1 hb1) hext.size, s.hs.ext.trans hext (fun _ h _ => h), s.hs.st0, s.hs.st1, by simp; exact Nat.le_trans s.hs.mle (Nat.le_add_right _ _), fun j hj => by
      have := s.hs.mle
      show (if j = h.length then q else ρ j) = _
      rw [if_neg (by omega)]; exact s.hs.keep j hj, s.hs.glob.later l⟩, s.cm⟩ hQ)
    · simp at hj
      show (if j = h.length then q else ρ j) = _
      rw [if_neg (by omega)]; exact s.hs.dom j (by omega)
    · by_cases hj : j = h.length
      · simp only [hj, if_true] at hu
        exact (hq u.1 u.2 hu).2.2.1
      · simp only [hj, if_false] at hu
        exact Nat.lt_of_lt_of_le (s.hs.rng j u hu) hext.size
    · cases b with
      | gone => trivial
      | _ =>
        rcases hget hj (by simp) with ⟨h2, h3, h4⟩ | ⟨h2, h3⟩
        · show RB S w' _ (if j = h.length then q else ρ j) _
          rw [if_neg (by omega)]
          exact RB.later l (fun b1 o1 hp1 => hoth j _ h4 h3 (by simp) b1 o1 hp1) (s.hs.blk j _ h4)
        · subst h2
          show RB S w' _ (if h.length = h.length then q else ρ h.length) _
          rw [if_pos rfl, h3]; exact v2
    · rcases hget hj hg with ⟨h2, h3, h4⟩ | ⟨h2, h3⟩
      · rw [if_neg (by omega)] at hu
        exact s.hs.live j b u h4 hg hu
      · rw [if_pos h2] at hu
        exact ⟨(hq u.1 u.2 hu).1, (hq u.1 u.2 hu).2.1⟩
    · rcases hget hj hg with ⟨h2, h3, h4⟩ | ⟨h2, h3⟩ <;> rcases hget hj' hg' with ⟨h2', h3', h4'⟩ | ⟨h2', h3'⟩
      · rw [if_neg (by omega)] at hu hu'
        exact s.hs.inj j j' b b' u u' h4 h4' hg hg' hu hu' e
      · rw [if_neg (by omega)] at hu
        rw [if_pos h2'] at hu'
        exact absurd e ((hq u'.1 u'.2 hu').2.2.2 j b h4 h3 hg u.1 u.2 hu)
      · rw [if_neg (by omega)] at hu'
        rw [if_pos h2] at hu
        exact absurd e.symm ((hq u.1 u.2 hu).2.2.2 j' b' h4' h3' hg' u'.1 u'.2 hu')
      · omega
  have hoth0 : ∀ (w' : World) (b0 : Nat), (∀ x, x ≠ b0 → w'.heap[x]? = w.heap[x]?) → (∃ o, ρ k = some (b0, o)) → (∀ j b, h[j]? = some b → j ≠ k → b ≠ .gone → ∀ b1 o1, ρ j = some (b1, o1) → w'.heap[b1]? = w.heap[b1]?) ∧ (∀ b1, S b1 → w'.heap[b1]? = w.heap[b1]?) := fun w' b0 hw ⟨o, ho⟩ =>
    ⟨fun j b hj hjk hg b1 o1 h1 => hw b1 (fun e => hjk (s.hs.inj j k b _ _ _ hj hkk hg (by simp) h1 ho e)), fun b1 hb1 => hw b1 (fun e => (s.hs.live k _ _ hkk (by simp) ho).2 (e ▸ hb1))⟩
  have hxy : a.eval x = .slice a1 len c1 ∧ a.eval y = .string ⟨l0.toArray⟩ := ⟨x1, y1⟩
  by_cases hroom : len + news.length ≤ c1
  · by_cases hm : news.length = 0
    · -- nothing is appended
      have hl00 : l0 = [] := List.eq_nil_of_length_eq_zero (by omega)
      subst hl00
      have hn0 : news = [] := by rw [hnews]; rfl
      clear hnews; subst hn0
      have hr := run_appendS_same (P := P) (w := w) (t := t) (ty := ty) (T.elemOk _ _ ht) htS t1 (a := a1) x2
      simp only [R] at hxv
      obtain ⟨a1', c1', e1, e2, e3⟩ := hxv
      rw [x1] at e1
      cases e1
      refine fin (q := (ρ k).map fun q => (q.1, q.2 + off * sz)) (by rw [hxy.1, hxy.2]; exact hr) (Ext.refl _ _) (fun _ _ _ _ _ _ _ _ => rfl) (fun _ _ => rfl) (fun b1 o1 hq => ?_) (fun l => ⟨?_, ?_⟩)
      · obtain ⟨⟨b2, o2⟩, h2, h3⟩ := Option.map_eq_some_iff.1 hq
        cases h3
        obtain ⟨m1, m2⟩ := s.hs.live k _ _ hkk (by simp) h2
        exact ⟨m1, m2, s.hs.rng k _ h2, fun j b hj hjk hg b3 o3 h3 e => hjk (s.hs.inj j k b _ _ _ hj hkk hg (by simp) h3 h2 e)⟩
      · simp only [R]
        refine ⟨a1, c1, rfl, e2, ?_⟩
        rcases e3 with e3 | ⟨b, o, f1, f2, f3, f4⟩
        · exact .inl e3
        · exact .inr ⟨b, o + off * sz, by simp [f1], by simpa using f2, f3, by
            have : o + off * sz + (0 + c1) * sz = o + (off + c1) * sz := by rw [Nat.zero_add, Nat.add_mul, Nat.add_assoc]
            rw [this]; exact f4⟩
      · simp only [RB, List.append_nil]
        refine ⟨fun q hq => hall q (by simpa using hq), hs0, ?_⟩
        rcases hB with hB | ⟨b, o, ws, f1, ⟨cc, ee, f2, f3⟩, f4⟩
        · left; obtain ⟨hB, hu⟩ := hB; subst hB; exact ⟨by simp, fun b o e => by obtain ⟨q, g1, g2⟩ := Option.map_eq_some_iff.1 e; cases g2; exact hu _ _ g1⟩
        · right
          refine ⟨b, o + off * sz, (ws.drop (off * sz)).take (len * sz), by simp [f1], ⟨cc, ee, f2, fun j u hj => ?_⟩, ?_⟩
          · rw [List.getElem?_take] at hj
            split at hj
            · rw [List.getElem?_drop] at hj
              rw [Nat.add_assoc]; exact f3 _ _ hj
            · cases hj
          · have := RL_take (RL_drop (f4.later l) (off * sz)) (len * sz)
            rwa [flatten_drop _ hes, flatten_take _ (fun e he => hes e (List.mem_of_mem_drop he))] at this
    · -- there is room
      simp only [R] at hxv
      obtain ⟨a1', c1', e1, e2, e3⟩ := hxv
      rw [x1] at e1
      cases e1
      rcases e3 with ⟨e3, e4⟩ | ⟨b, o, f1, f2, f3, ⟨cc, ee, fz, f4, f5⟩⟩
      · omega
      obtain rfl : fz = (0, 0) := by
        rcases hB with ⟨_, hu⟩ | ⟨b3, o3, ws3, g1, ⟨cc3, ee3, g2, _⟩, _⟩
        · obtain ⟨cc3, ee3, g2⟩ := hu _ _ f1
          rw [f4] at g2; cases g2; rfl
        · rw [f1] at g1; cases g1; rw [f4] at g2; cases g2; rfl
      have hmul : (off + len) * sz + news.length * sz ≤ (off + c1) * sz := by rw [← Nat.add_mul]; exact Nat.mul_le_mul_right _ (by omega)
      have hfit : o + off * sz + len * inf.size + zs.length ≤ cc.size := by
        rw [t2, hs, y5]
        have : (off + len) * sz = off * sz + len * sz := Nat.add_mul _ _ _
        omega
      have hr := run_appendS_in (P := P) (w := w) (t := t) (ty := ty) (T.elemOk _ _ ht) htS t1 (b := b) (o := o + off * sz) (len := len) (cap := c1) hzs0 hone f4 (by omega) hfit
      rw [t2, hs, ← hml] at hr
      rw [t2, hs] at hfit
      have hyl : ys.length = len * sz := x5
      have hx8 : len = 0 ∨ ∃ b o, a1 = some ⟨b, o, none⟩ ∧ lies w b o ys := x7
      have hcs : ((cc.toList.take (o + off * sz + len * sz) ++ zs ++ cc.toList.drop (o + off * sz + len * sz + zs.length)).toArray).size = cc.size := by
        simp only [List.size_toArray, List.length_append, List.length_take, List.length_drop, Array.length_toList]; omega
      have hnew := setRow_heap w b cc (cc.toList.take (o + off * sz + len * sz) ++ zs ++ cc.toList.drop (o + off * sz + len * sz + zs.length)).toArray ee (0, 0) f4
      obtain ⟨m1, m2⟩ := s.hs.live k _ _ hkk (by simp) f1
      obtain ⟨o1, o2⟩ := hoth0 _ b (fun x hx => setRow_other w b x (cc.toList.take (o + off * sz + len * sz) ++ zs ++ cc.toList.drop (o + off * sz + len * sz + zs.length)).toArray hx) ⟨o, f1⟩
      refine fin (q := some (b, o + off * sz)) (by rw [hxy.1, hxy.2, f2]; exact hr) ((ext_setRow f4 hcs).mono fun x _ hx => by rw [hx]; exact m1) o1 o2 (fun b1 o1 hq => ?_) (fun l => ⟨?_, ?_⟩)
      · cases hq
        exact ⟨m1, m2, (Array.getElem?_eq_some_iff.1 hnew).1, fun j b hj hjk hg b3 o3 h3 e => hjk (s.hs.inj j k b _ _ _ hj hkk hg (by simp) h3 f1 e)⟩
      · simp only [R]
        refine ⟨_, c1, rfl, e2, .inr ⟨b, o + off * sz, by simp, by simp, hroom, _, ee, _, hnew, ?_⟩⟩
        rw [hcs, Nat.zero_add]
        have : (off + c1) * sz = off * sz + c1 * sz := Nat.add_mul _ _ _
        omega
      · simp only [RB]
        refine ⟨hall, hs0, .inr ⟨b, o + off * sz, ys ++ zs, rfl, ⟨_, ee, hnew, fun j u hj => ?_⟩, ?_⟩⟩
        · rw [List.getElem?_toArray]
          by_cases hj1 : j < ys.length
          · rw [List.getElem?_append_left hj1] at hj
            rcases hx8 with h0 | ⟨b', o', g1, ⟨c', e', fz, g2, g3⟩⟩
            · subst h0; simp at hyl; omega
            rw [f2] at g1
            cases g1
            rw [f4] at g2
            cases g2
            rw [List.append_assoc, List.getElem?_append_left (by simp; omega), List.getElem?_take, if_pos (by omega)]
            simpa using g3 j u hj
          · rw [List.getElem?_append_right (by omega)] at hj
            have hj2 := (List.getElem?_eq_some_iff.1 hj).1
            rw [List.getElem?_append_left (by simp; omega), List.getElem?_append_right (by simp; omega), ← hj]
            congr 1
            simp only [List.length_take, Array.length_toList]
            omega
        · rw [List.flatten_append]
          exact RL_append (x6.later l) (y6.later l)
  · -- a new row
    have hr := run_appendS_new (P := P) (w := w) (t := t) (ty := ty) (a := a1) (len := len) (cap := c1) (T.elemOk _ _ ht) htS t1 t4 (by rw [t2, hs]; exact x5) x7 hzs0 (by omega) (by rw [t3, ← hml]; exact hb) (by omega)
    rw [← hml] at hr
    have hgc := grownCap_ge w (len + news.length) c1 e
    have hgm := grownCap_le_maxLen w (len + news.length) c1 e (by simp only [maxLen]; omega)
    have hzs : z.cells.size = sz := by rw [← hs, ← t6, ← t5]; simp
    obtain ⟨g1, g2⟩ := grown_cells hzs x5 y5 hgc
    have hnew : (w.drew.alloc (.cells (ys.toArray ++ zs.toArray ++ Builtin.zeroCells z.cells (grownCap w (len + news.length) c1 e - (len + news.length))) e)).heap[w.heap.size]? = some (.cells _ e (0, 0)) := heap_alloc_new w.drew _
    have hold : ∀ b1, b1 < w.heap.size → (w.drew.alloc (.cells (ys.toArray ++ zs.toArray ++ Builtin.zeroCells z.cells (grownCap w (len + news.length) c1 e - (len + news.length))) e)).heap[b1]? = w.heap[b1]? := fun b1 hb1 => RowKit.Below.heap_alloc w.drew _ b1 hb1
    refine fin (q := some (w.heap.size, 0)) (by rw [hxy.1, hxy.2]; exact hr) ((Ext.drew1 w).trans (ext_alloc w.drew _ c.M) (fun _ h _ => h)) (fun j b hj hjk hg b1 o1 h2 => hold b1 (s.hs.rng j _ h2)) (fun b1 hb1 => hold b1 (s.hs.stab b1 hb1)) (fun b1 o1 hq => ?_) (fun l => ⟨?_, ?_⟩)
    · cases hq
      refine ⟨c.new _ s.hs.ext.size, fun hS => ?_, by simp, fun j b hj hjk hg b2 o2 h2 e => ?_⟩
      · have := s.hs.stab _ hS; omega
      · have := s.hs.rng j _ h2; simp at this; omega
    · simp only [R]
      exact ⟨_, _, rfl, hgm, .inr ⟨w.heap.size, 0, by simp, by simp, hgc, _, e, _, hnew, by rw [Nat.zero_add, Nat.zero_add]; exact g1⟩⟩
    · simp only [RB]
      refine ⟨hall, hs0, .inr ⟨w.heap.size, 0, ys ++ zs, rfl, ⟨_, e, hnew, fun j u hj => by rw [Nat.zero_add]; exact g2 j u hj⟩, ?_⟩⟩
      rw [List.flatten_append]
      exact RL_append (x6.later l) (y6.later l)

end
end Go.Ab
