/-
  Texts of the logic and of the layer, in one module (part 3).
-/
import Derived.Test.YtjpcpbbkelgkeaaGreatDoorB2
import Derived.Maps.RangeRun
import Derived.Lib.AppendStr
import Derived.Laws.Concat
import Derived.Laws.Strings
import Derived.Laws.Strings2
import Derived.Laws.Strings3
import Derived.Lib.UnsafeStr
import Derived.RangeFuncGives
import Derived.Lib.SlKeysI
import Derived.Maps.Own
import Derived.Deep.Draws
import Derived.Lib.LaidTab
import Derived.Lib.ItoaNum
import Derived.Lib.Builder
import Derived.Laws.Pointers
import Derived.Maps.Views
import Derived.WideShapes
import Derived.Shelf.Lay
import Derived.Shelf.Sort.Plain
import Derived.Shelf.Slices.In.SortNone
import Derived.Ground.NamesProg
import Derived.WalkKit
import Derived.Shelf.Small.Strs
import Derived.Shelf.Small.Wraps
set_option linter.unusedVariables false
set_option linter.unusedSimpArgs false

namespace Go.Ab
open Go Go.MapKept
section
variable {P : Program} {env : Env} {h : Hp}
variable {d : Option Nat} {ty : TypeId} {pos : String} {af : Array Edge} {g : Option (Nat × Bool)}
variable {n : Nat × Nat} {ops : Array Oper} {rest : List Oper} {K : Env → Hp → Prop}
variable {t kt et : TypeId} {good : Value → Prop} {x y z : Operand} {k i : Nat} {kv : Value} {ks : List Value} {vs : List AV} {v : AV}
theorem Sim.mapOpen {c : Ctx} {ρ : Pl} {S : Nat → Prop} {a : Act} {w : World} (k : Nat) (hk : h[k]? = some (.mapO ks vs)) (s : Sim n c ρ S env h a w) : ∃ bs ck, bs.length = ks.length ∧ vs.length = ks.length ∧ bs.Nodup ∧ (∀ b, b ∈ bs → b < ck) ∧ Sim n c ρ S env (h.set k (.mapB ks vs bs ck)) a w := by
  obtain ⟨b, o, l, ck, h1, h2, ⟨h3, h4, h5⟩, h6⟩ := s.hs.blk k _ hk
  have e6 := RL_length h6
  refine ⟨l.toList.map (·.born), ck, by rw [← h3]; simp, by rw [← e6, ← h3]; simp, h4, fun b hb => ?_, s.size, s.defers, s.env, s.hs.alter hk (fun _ => ⟨b, o, l, h1, h2, ⟨h3, ⟨h4, h5⟩, rfl⟩, h6⟩) (by simp), s.cm⟩
  obtain ⟨e, he, rfl⟩ := List.mem_map.1 hb
  exact h5 e he
theorem vc_mapOpen (k : Nat) (hk : h[k]? = some (.mapO ks vs)) (hv : ∀ bs ck, bs.length = ks.length → vs.length = ks.length → bs.Nodup → (∀ b, b ∈ bs → b < ck) → VC P n ops rest env (h.set k (.mapB ks vs bs ck)) K) : VC P n ops rest env h K := by
  intro c ρ S a w Q s hQ
  obtain ⟨bs, ck, h1, h1', h2, h3, s'⟩ := s.mapOpen k hk
  exact hv bs ck h1 h1' h2 h3 c ρ S a w Q s' hQ
theorem aw_mapOpen {code : Code} {Q : Exit → Env → Hp → Prop} (k : Nat) (hk : h[k]? = some (.mapO ks vs)) (hv : ∀ bs ck, bs.length = ks.length → vs.length = ks.length → bs.Nodup → (∀ b, b ∈ bs → b < ck) → AW P n code env (h.set k (.mapB ks vs bs ck)) Q) : AW P n code env h Q := by
  intro c ρ S a w QQ s hQ
  obtain ⟨bs, ck, h1, h1', h2, h3, s'⟩ := s.mapOpen k hk
  exact hv bs ck h1 h1' h2 h3 c ρ S a w QQ s' hQ
theorem Sim.mapShut {c : Ctx} {ρ : Pl} {S : Nat → Prop} {a : Act} {w : World} {bs : List Nat} {ck : Nat} (k : Nat) (hk : h[k]? = some (.mapB ks vs bs ck)) (s : Sim n c ρ S env h a w) : Sim n c ρ S env (h.set k (.mapO ks vs)) a w :=
  ⟨s.size, s.defers, s.env, s.hs.alter hk (fun ⟨b, o, l, h1, h2, ⟨h3, h4, _⟩, h5⟩ => ⟨b, o, l, ck, h1, h2, ⟨h3, h4⟩, h5⟩) (by simp), s.cm⟩
theorem vc_mapShut {bs : List Nat} {ck : Nat} (k : Nat) (hk : h[k]? = some (.mapB ks vs bs ck)) (hv : VC P n ops rest env (h.set k (.mapO ks vs)) K) : VC P n ops rest env h K :=
  fun c ρ S a w Q s hQ => hv c ρ S a w Q (s.mapShut k hk) hQ
theorem fs_range {bs : List Nat} {ck : Nat} (ht : P.underlying t = some (.map kt et)) (hx : evu env x = some (.mp k)) (hk : h[k]? = some (.mapB ks vs bs ck)) :
    FStep P ⟨d, .range t x, ty, pos, af, g⟩ env h 1 (fun p => .ptr p 0) (fun _ => [.iter k ck [] ck]) := by
  refine fs_newO fun ρ S a w p => ?_
  have h1 := p.evu hx
  simp only [R] at h1
  obtain ⟨b, o, h2, h3⟩ := h1
  obtain ⟨b', o', l, h5, h6, h7, h8⟩ := p.blk k _ hk
  rw [h2] at h5; cases h5
  refine ⟨.mapIter (some b) ck #[] ck, .pointer (some ⟨w.heap.size, 0, none⟩), ?_, fun pos hpos w' hw' => ⟨?_, ?_⟩⟩
  · simp [execOp, h3, Instr.range, run_underlying ht, MapKept.run_getObj_map h6]
  · simp [R, Pl.with]
  · have hne : k ≠ pos := fun e => by rw [e, hpos] at h2; cases h2
    exact ⟨w.heap.size, rfl, (b, o), by simp [Pl.with, hne, h2], hw'⟩
theorem vc_next {km since c0 ck : Nat} {seen bs : List Nat} (hx : evu env x = some (.ptr k 0)) (hk : h[k]? = some (.iter km since seen c0)) (hm : h[km]? = some (.mapB ks vs bs ck)) (hs : ∀ b, b ∈ bs → b < since) (hc : since ≤ c0) (hd : okd d n = true)
    (hend : (∀ b, b ∈ bs → b ∈ seen) → VC P n ops rest (putd d (.tup [.b false]) env) h K)
    (hstep : ∀ (i : Nat) kv v b, ks[i]? = some kv → vs[i]? = some v → bs[i]? = some b → b ∉ seen → VC P n ops rest (putd d (.tup [.b true, .v kv, v]) env) (h.set k (.iter km since (seen ++ [b]) ck)) K) :
    VC P n ops (⟨d, .next x false, ty, pos, af, none⟩ :: rest) env h K := by
  intro c ρ S a w Q s hQ
  refine wpList_plain rfl fun K' hK' => ?_
  have p := s.pre
  have h1 := p.evu hx
  simp only [R] at h1
  obtain ⟨b, o, h2, h3⟩ := h1
  obtain ⟨b1, h4, m, h5, h6⟩ := p.blk k _ hk
  rw [h2] at h4; cases h4
  obtain ⟨b2, o2, l, h7, h8, ⟨h9, h10, h11⟩, h12⟩ := p.blk km _ hm
  rw [h5] at h7; cases h7
  have hold : ∀ e, e ∈ l.toList → e.born < since := fun e he => hs _ (by rw [← h11]; exact List.mem_map.2 ⟨e, he, rfl⟩)
  rcases run_next_at (P := P) w ty b b2 since c0 seen.toArray l ck h6 h8 hold hc with ⟨h13, h14⟩ | ⟨e, he, w1, hw1, h14⟩
  · unfold Oper.wp
    have : (execOp a.eval ⟨d, .next x false, ty, pos, af, none⟩).run P w = .ok (.value (.tuple #[.bool false])) w := by
      simp only [execOp, h3, Nat.zero_add]
      simp [h14]
    rw [this]
    refine hK' _ _ (hend (fun q hq => ?_) c ρ S _ _ Q ⟨by rw [size_put]; exact s.size, by rw [defers_put]; exact s.defers, env_put s.size hd s.env (by simp only [R, RL]; exact ⟨_, rfl, _, _, rfl, rfl, rfl⟩), s.hs, s.cm⟩ hQ)
    rw [← h11] at hq
    obtain ⟨e, he, rfl⟩ := List.mem_map.1 hq
    refine Classical.byContradiction fun hn => ?_
    have : e ∈ leftOf l seen.toArray := by
      unfold leftOf
      simp only [Array.mem_filter]
      exact ⟨by simpa using he, by simpa using hn⟩
    have := Array.size_pos_of_mem this
    omega
  · have he1 : e ∈ l.toList ∧ e.born ∉ seen := by
      unfold leftOf at he
      simp at he
      exact ⟨by simpa using he.1, he.2⟩
    obtain ⟨i, hi⟩ := List.mem_iff_getElem?.1 he1.1
    have hki : ks[i]? = some e.key := by rw [← h9, List.getElem?_map, hi]; rfl
    have hbi : bs[i]? = some e.born := by rw [← h11, List.getElem?_map, hi]; rfl
    obtain ⟨v, hvi⟩ : ∃ v, vs[i]? = some v := by
      have e6 := RL_length h12
      have := (List.getElem?_eq_some_iff.1 hi).1
      rw [List.length_map] at e6
      exact ⟨vs[i]'(by omega), List.getElem?_eq_getElem _⟩
    have hv : R S w v ρ e.val := by
      obtain ⟨u, u1, u2⟩ := RL_get h12 i v hvi
      rw [List.getElem?_map, hi] at u1
      cases u1; exact u2
    unfold Oper.wp
    have : (execOp a.eval ⟨d, .next x false, ty, pos, af, none⟩).run P w = .ok (.value (.tuple #[.bool true, e.key, e.val])) (ChangeMaps.setBlock w1 b (.mapIter (some b2) since (seen.toArray.push e.born) ck)) := by
      simp only [execOp, h3, Nat.zero_add]
      simp [h14]
    rw [this]
    have hlt : b < w.heap.size := (Array.getElem?_eq_some_iff.1 h6).1
    have hw1h : w1.heap = w.heap := by rcases hw1 with rfl | rfl <;> rfl
    have hext : Ext (fun q => q = b) w (ChangeMaps.setBlock w1 b (.mapIter (some b2) since (seen.toArray.push e.born) ck)) := by
      refine ⟨?_, ?_, ?_, ?_, fun q hq hne => ?_, fun q cs ee fz hq => ⟨cs, fz, ?_, rfl⟩⟩
      · rcases hw1 with rfl | rfl <;> rfl
      · rcases hw1 with rfl | rfl <;> rfl
      · rcases hw1 with rfl | rfl <;> rfl
      · simp [ChangeMaps.setBlock, hw1h]
      · simp only [ChangeMaps.setBlock, hw1h]
        rw [Array.getElem?_setIfInBounds_ne (Ne.symm hne)]
      · have hne : q ≠ b := fun e' => by rw [e', h6] at hq; cases hq
        simp only [ChangeMaps.setBlock, hw1h]
        rw [Array.getElem?_setIfInBounds_ne (Ne.symm hne)]; exact hq
    obtain ⟨g1, g2⟩ := s.hs.upd (nb := .iter km since (seen ++ [e.born]) ck) hk (by simp) h2 hext (fun l' => by
      refine ⟨b, rfl, (b2, o2), h5, ?_⟩
      simp only [ChangeMaps.setBlock, hw1h]
      rw [Array.getElem?_setIfInBounds_self_of_lt hlt]
      simp)
    refine hK' _ _ (hstep i e.key v e.born hki hvi hbi he1.2 c ρ S _ _ Q ⟨by rw [size_put]; exact s.size, by rw [defers_put]; exact s.defers.later g2, env_put s.size hd (fun tt uu huu => (s.env tt uu huu).later g2) ?_, g1, s.cm⟩ hQ)
    simp only [R, RL]
    exact ⟨_, rfl, _, _, rfl, rfl, _, _, rfl, rfl, _, _, rfl, hv.later g2, rfl⟩
theorem fs_entry {km since c0 ck b i : Nat} {seen bs : List Nat} (hx : evu env x = some (.ptr k 0)) (hk : h[k]? = some (.iter km since (seen ++ [b]) c0)) (hm : h[km]? = some (.mapB ks vs bs ck)) (hc : c0 = ck) (hb : bs[i]? = some b) (hki : ks[i]? = some kv) (hvi : vs[i]? = some v) :
    FStep P ⟨d, .entry x, ty, pos, af, g⟩ env h 0 (fun _ => .tup [.v kv, v]) (fun _ => []) := by
  refine fs_val fun ρ S a w p => ?_
  have h1 := p.evu hx
  simp only [R] at h1
  obtain ⟨b0, o, h2, h3⟩ := h1
  obtain ⟨b1, h4, m, h5, h6⟩ := p.blk k _ hk
  rw [h2] at h4; cases h4
  obtain ⟨b2, o2, l, h7, h8, ⟨h9, h10, h11⟩, h12⟩ := p.blk km _ hm
  rw [h5] at h7; cases h7
  rw [← h11, List.getElem?_map] at hb
  obtain ⟨e, he, rfl⟩ := Option.map_eq_some_iff.1 hb
  have hk2 : e.key = kv := by rw [← h9, List.getElem?_map, he] at hki; simpa using hki
  obtain ⟨u, u1, u2⟩ := RL_get h12 i v hvi
  rw [List.getElem?_map, he] at u1
  cases u1
  subst hc
  have h13 : w.heap[b0]? = some (.mapIter (some b2) since (seen.toArray.push e.born) c0) := by rw [h6]; simp
  have := run_entry_at (P := P) w b0 b2 since seen.toArray l c0 e h13 h8 (List.mem_of_getElem? he) h10.1
  refine ⟨.tuple #[e.key, e.val], ?_, ?_⟩
  · simp only [execOp, h3, Nat.zero_add]
    simp [this]
  · simp only [R, RL]
    exact ⟨_, rfl, _, _, rfl, hk2, _, _, rfl, u2, rfl⟩
theorem Stamps.erase {l : Array MapEntry} {ck i : Nat} (h : Stamps l ck) : Stamps (l.eraseIdxIfInBounds i) ck := by
  have e : (l.eraseIdxIfInBounds i).toList = l.toList.eraseIdx i := by
    unfold Array.eraseIdxIfInBounds
    split
    · simp
    · rename_i hh
      rw [List.eraseIdx_of_length_le (by simpa using hh)]
  refine ⟨?_, fun q hq => h.2 q (by rw [e] at hq; exact List.mem_of_mem_eraseIdx hq)⟩
  rw [e]
  have : (l.toList.eraseIdx i).map (·.born) = (l.toList.map (·.born)).eraseIdx i := by
    apply List.ext_getElem?
    intro j
    simp only [List.getElem?_map, List.getElem?_eraseIdx]
    split <;> simp
  rw [this]
  exact h.1.eraseIdx i
theorem map_eraseIdx {α β : Type} (f : α → β) (l : List α) (i : Nat) : (l.eraseIdx i).map f = (l.map f).eraseIdx i := by
  apply List.ext_getElem?
  intro j
  simp only [List.getElem?_map, List.getElem?_eraseIdx]
  split <;> simp
theorem toList_erase (l : Array MapEntry) (i : Nat) : (l.eraseIdxIfInBounds i).toList = l.toList.eraseIdx i := by
  unfold Array.eraseIdxIfInBounds
  split
  · simp
  · rename_i hh
    rw [List.eraseIdx_of_length_le (by simpa using hh)]
theorem RL_erase {S : Nat → Prop} {w : World} {ρ : Pl} {xs : List AV} {ys : List Value} (h : RL S w xs ρ ys) (i : Nat) : RL S w (xs.eraseIdx i) ρ (ys.eraseIdx i) := by
  rw [List.eraseIdx_eq_take_drop_succ, List.eraseIdx_eq_take_drop_succ]
  exact RL_append (RL_take h i) (RL_drop h (i + 1))
theorem vc_mapDel (ht : P.underlying t = some (.map kt et)) (ko : KeyOk P kt good) (hx : evu env x = some (.mp k)) {yv : AV} (hy : evu env y = some yv) (hyv : IsV yv kv) (hk : h[k]? = some (.mapO ks vs)) (hkeys : ∀ q, q ∈ ks → good q) (hkey : good kv) (hnd : ks.Nodup) (hi : ks[i]? = some kv)
    {t2 : TypeId} (hv : VC P n ops rest env (h.set k (.mapO (ks.eraseIdx i) (vs.eraseIdx i))) K) : VC P n ops (⟨none, .call { callee := .builtin .delete, args := #[x, y], argTypes := #[t, t2] }, ty, pos, af, none⟩ :: rest) env h K := by
  intro c ρ S a w Q s hQ
  refine wpList_plain rfl fun K' hK' => ?_
  have p := s.pre
  have h1 := p.evu hx
  simp only [R] at h1
  obtain ⟨b, o, h2, h3⟩ := h1
  have h4 := hyv _ _ _ _ (p.evu hy)
  obtain ⟨b', o', l, ck, h5, h6, h7, h8, h13⟩ := map_findS (p.blk k _ hk)
  rw [h2] at h5; cases h5
  obtain ⟨e, h9, h10, h11⟩ := find_some ko w h7 hkeys hkey hnd hi
  have hr : (execOp a.eval ⟨none, .call { callee := .builtin .delete, args := #[x, y], argTypes := #[t, t2] }, ty, pos, af, none⟩).run P w = .ok (.value (.tuple #[])) { w with heap := w.heap.setIfInBounds b (.map (l.eraseIdxIfInBounds i) ck) } := by
    simp [execOp, resolve, invoke, builtin, h3, h4, Builtin.delete_, run_underlying ht, MapKept.run_getObj_map h6, ko.check w _ hkey, h9, MapKept.run_setObj_map _ h6]
  unfold Oper.wp
  rw [hr]
  obtain ⟨g1, g2⟩ := s.hs.upd (nb := .mapO (ks.eraseIdx i) (vs.eraseIdx i)) hk (by simp) h2 (ext_setObj (o := .map (l.eraseIdxIfInBounds i) ck) h6) (fun l' => by
    simp only [RB]
    refine ⟨b, o, _, _, rfl, (MapKept.heap_set h6).1, ⟨by rw [toList_erase, map_eraseIdx, h7], h13.erase⟩, ?_⟩
    rw [toList_erase, map_eraseIdx]
    exact RL_erase (h8.later l') i)
  exact hK' _ _ (hv c ρ S _ _ Q ⟨by rw [size_put]; exact s.size, by rw [defers_put]; exact s.defers.later g2, fun tt uu huu => (s.env tt uu huu).later g2, g1, s.cm⟩ hQ)
end
end Go.Ab
namespace Go.Ab
open Go
abbrev AV.s (l : List UInt8) : AV := .v (.string ⟨l.toArray⟩)
def bytesA (l : List UInt8) : List (List AV) := l.map fun b => [.v (.int .u8 b.toNat)]
@[simp] theorem bytesA_length (l : List UInt8) : (bytesA l).length = l.length := by simp [bytesA]
def StrT (P : Program) (t : TypeId) : Prop := P.underlying t = some .string
section
variable {P : Program} {env : Env} {h : Hp}
variable {d : Option Nat} {ty : TypeId} {pos : String} {af : Array Edge} {g : Option (Nat × Bool)}
variable {t t2 : TypeId} {x y : Operand} {a b : List UInt8}
theorem eqg (op : BinOp) (t : TypeId) (x y : Operand) (s : ByteArray) (v : Value) : eqGuard op t x y (.string s) v = pure () := by cases op <;> rfl
theorem fs_addS (hx : evu env x = some (.s a)) (hy : evu env y = some (.s b)) (hl : a.length + b.length ≤ 9223372036854775807) : FStep P ⟨d, .binOp .add t x y t2, ty, pos, af, g⟩ env h 0 (fun _ => .s (a ++ b)) (fun _ => []) := by
  refine fs_val fun ρ S ac w p => ⟨.string ⟨(a ++ b).toArray⟩, ?_, by simp [R]⟩
  have h1 := R_v (p.evu hx)
  have h2 := R_v (p.evu hy)
  have e : (⟨a.toArray⟩ : ByteArray) ++ ⟨b.toArray⟩ = ⟨(a ++ b).toArray⟩ := by apply ByteArray.ext; simp
  have := Go.run_string_add_sum (P := P) w ⟨a.toArray⟩ ⟨b.toArray⟩ (by show a.toArray.size + b.toArray.size ≤ _; simpa using hl)
  simp [execOp, h1, h2, eqg, binOp_string_add, this, e]
theorem fs_eqlS (hx : evu env x = some (.s a)) (hy : evu env y = some (.s b)) : FStep P ⟨d, .binOp .eql t x y t2, ty, pos, af, g⟩ env h 0 (fun _ => .b (decide (a = b))) (fun _ => []) := by
  refine fs_val fun ρ S ac w p => ⟨.bool (decide (a = b)), ?_, by simp [R]⟩
  have h1 := R_v (p.evu hx)
  have h2 := R_v (p.evu hy)
  simp [execOp, h1, h2, eqg, binOp_string_eql, binOp_string_neq]
  by_cases hab : a = b <;> simp [hab]
theorem fs_neqS (hx : evu env x = some (.s a)) (hy : evu env y = some (.s b)) : FStep P ⟨d, .binOp .neq t x y t2, ty, pos, af, g⟩ env h 0 (fun _ => .b (!decide (a = b))) (fun _ => []) := by
  refine fs_val fun ρ S ac w p => ⟨.bool (!decide (a = b)), ?_, by simp [R]⟩
  have h1 := R_v (p.evu hx)
  have h2 := R_v (p.evu hy)
  simp [execOp, h1, h2, eqg, binOp_string_eql, binOp_string_neq]
  by_cases hab : a = b <;> simp [hab]
theorem fs_lenS (ht : StrT P t) (hx : evu env x = some (.s a)) : FStep P ⟨d, .call { callee := .builtin .len, args := #[x], argTypes := #[t] }, ty, pos, af, g⟩ env h 0 (fun _ => .i a.length) (fun _ => []) := by
  refine fs_val fun ρ S ac w p => ⟨.int .i64 a.length, ?_, by simp [R]⟩
  have h1 := R_v (p.evu hx)
  have ht' : P.underlying t = some .string := ht
  have e : (⟨a.toArray⟩ : ByteArray).size = a.length := by show a.toArray.size = _; simp
  rw [← e]
  simp [execOp, resolve, invoke, builtin, h1, Builtin.len_, run_underlying ht', goInt]
theorem fs_indexS (ht : StrT P t) {k : IntKind} {j : Int} (hx : evu env x = some (.s a)) (hy : evu env y = some (.v (.int k j))) (h0 : 0 ≤ j) {c : UInt8} (hc : a[j.toNat]? = some c) : FStep P ⟨d, .index t x y, ty, pos, af, g⟩ env h 0 (fun _ => .v (.int .u8 c.toNat)) (fun _ => []) := by
  refine fs_val fun ρ S ac w p => ⟨.int .u8 c.toNat, ?_, by simp [R]⟩
  have h1 := R_v (p.evu hx)
  have h2 := R_v (p.evu hy)
  have ht' : P.underlying t = some .string := ht
  have hlt : j.toNat < a.length := (List.getElem?_eq_some_iff.1 hc).1
  have hs : j.toNat < (⟨a.toArray⟩ : ByteArray).size := by show _ < a.toArray.size; simpa using hlt
  have e : (⟨a.toArray⟩ : ByteArray)[j.toNat]'hs = c := by
    have := (List.getElem?_eq_some_iff.1 hc).2
    rw [← this]
    rfl
  have hr : (Instr.index t (.string ⟨a.toArray⟩) (.int k j)).run P w = .ok (.int .u8 c.toNat) w := by
    rw [run_index_string (P := P) w t ⟨a.toArray⟩ k j ht', dif_pos ⟨h0, by omega⟩, e]
  simp [execOp, h1, h2, hr]
theorem run_boundsS {ρ : Pl} {S : Nat → Prop} {a : Act} {w : World} (p : Pre ρ S env h a w) {lo hi : Option Operand} {l r : Int} {len : Nat} (hlo : evB env lo 0 = some l) (hhi : evB env hi len = some r) (h0 : 0 ≤ l) (h1 : l ≤ r) (h2 : r ≤ len) :
    ∀ w, (Instr.sliceBounds false len len (lo.map a.eval) (hi.map a.eval) none).run P w = .ok (l.toNat, r.toNat, len) w := by
  intro w
  have hr : ∀ k code, (Instr.sliceBound (.int k r) len code).run P w = .ok r.toNat w := fun k code => by
    simp only [Instr.sliceBound, asIntOf, Sem.run_bind, Sem.run_pure, Result.andThen_ok]
    rw [if_pos ⟨by omega, by omega⟩]; rfl
  have hl : ∀ k code, (Instr.sliceBound (.int k l) r.toNat code).run P w = .ok l.toNat w := fun k code => by
    simp only [Instr.sliceBound, asIntOf, Sem.run_bind, Sem.run_pure, Result.andThen_ok]
    rw [if_pos ⟨by omega, by omega⟩]; rfl
  cases lo with
  | none =>
    simp only [evB, Option.some.injEq] at hlo
    subst hlo
    cases hi with
    | none =>
      simp only [evB, Option.some.injEq] at hhi
      subst hhi
      simp [Instr.sliceBounds]
    | some x =>
      obtain ⟨k, hk⟩ := evB_val p hhi
      simp [Instr.sliceBounds, hk, hr]
  | some y =>
    obtain ⟨k', hk'⟩ := evB_val p hlo
    cases hi with
    | none =>
      simp only [evB, Option.some.injEq] at hhi
      subst hhi
      have := hl k'
      simp only [Int.toNat_natCast] at this
      simp [Instr.sliceBounds, hk', this]
    | some x =>
      obtain ⟨k, hk⟩ := evB_val p hhi
      simp [Instr.sliceBounds, hk, hk', hr, hl]
theorem fs_sliceS (ht : StrT P t) {lo hi : Option Operand} {l r : Int} (hx : evu env x = some (.s a)) (hlo : evB env lo 0 = some l) (hhi : evB env hi a.length = some r) (h0 : 0 ≤ l) (h1 : l ≤ r) (h2 : r ≤ a.length) : FStep P ⟨d, .slice t x lo hi none, ty, pos, af, g⟩ env h 0 (fun _ => .s ((a.take r.toNat).drop l.toNat)) (fun _ => []) := by
  refine fs_val fun ρ S ac w p => ⟨.string ⟨((a.take r.toNat).drop l.toNat).toArray⟩, ?_, by simp [R]⟩
  have hv := R_v (p.evu hx)
  have ht' : P.underlying t = some .string := ht
  have e : (⟨a.toArray⟩ : ByteArray).size = a.length := by show a.toArray.size = _; simp
  have he : (⟨a.toArray⟩ : ByteArray).extract l.toNat r.toNat = ⟨((a.take r.toNat).drop l.toNat).toArray⟩ := by
    apply ByteArray.ext
    simp [ByteArray.data_extract, List.extract_eq_take_drop, List.drop_take]
  have hb := run_boundsS (P := P) p hlo hhi h0 h1 h2
  have hS : (Instr.slice t (.string ⟨a.toArray⟩) (lo.map ac.eval) (hi.map ac.eval) none).run P w = .ok (.string ⟨((a.take r.toNat).drop l.toNat).toArray⟩) w := by
    rw [← he]
    have hb' : (Instr.sliceBounds false (⟨a.toArray⟩ : ByteArray).size (⟨a.toArray⟩ : ByteArray).size (lo.map ac.eval) (hi.map ac.eval) none).run P w = .ok (l.toNat, r.toNat, a.length) w := by rw [e]; exact hb w
    simp [Instr.slice, run_underlying ht', hb']
  simp [execOp, hv, Instr.sliceAt, run_underlying ht', hS]
theorem run_firstS (w : World) (size : Nat) (l : List UInt8) : (Builtin.firstCells size l.length (.string ⟨l.toArray⟩)).run P w = .ok (l.map fun b => Value.int .u8 b.toNat).toArray w := by
  have := Go.Lib.run_firstCells_string (P := P) w size ⟨l.toArray⟩
  have e : (⟨l.toArray⟩ : ByteArray).size = l.length := by show l.toArray.size = _; simp
  rw [e] at this
  rw [this]
  simp [Go.Lib.strCells]
theorem lenOf_S (w : World) (l : List UInt8) : (Builtin.lenOf (.string ⟨l.toArray⟩)).run P w = .ok l.length w := by
  have e : (⟨l.toArray⟩ : ByteArray).size = l.length := by show l.toArray.size = _; simp
  simp [Builtin.lenOf, e]
theorem run_appendS_in {w : World} {t tS ty e : TypeId} {i : TypeInfo} (ht : P.underlying t = some (.slice e)) (hS : P.underlying tS = some .string) (hi : P.info? e = some i) {b o len cap : Nat} {l : List UInt8} {zs : List Value} (hl : zs = l.map fun b => Value.int .u8 b.toNat) (h1 : ∀ u ∈ zs, u.oneCell' = true)
    {cc : Array Value} {ee : TypeId} (hc : w.heap[b]? = some (.cells cc ee (0, 0))) (hroom : len + l.length ≤ cap) (hfit : o + len * i.size + zs.length ≤ cc.size) :
    (Builtin.append_ #[t, tS] ty #[.slice (some ⟨b, o, none⟩) len cap, .string ⟨l.toArray⟩]).run P w = .ok (.slice (some ⟨b, o, none⟩) (len + l.length) cap) (w.setRow b (cc.toList.take (o + len * i.size) ++ zs ++ cc.toList.drop (o + len * i.size + zs.length)).toArray) := by
  have hf := run_firstS (P := P) w i.size l
  rw [← hl] at hf
  have hst := run_storeCells_at P b (o + len * i.size) ee zs 0 cc w hc (by simpa using hfit) h1
  simp only [Nat.add_zero] at hst
  simp [Builtin.append_, run_underlying ht, run_underlying hS, sizeOf, typeInfo, hi, lenOf_S, hroom, hf, Addr.add_lit, hst]
theorem run_appendS_same {w : World} {t tS ty e : TypeId} {i : TypeInfo} (ht : P.underlying t = some (.slice e)) (hS : P.underlying tS = some .string) (hi : P.info? e = some i) {a : Option Addr} {len cap : Nat} (hlc : len ≤ cap) :
    (Builtin.append_ #[t, tS] ty #[.slice a len cap, .string ⟨([] : List UInt8).toArray⟩]).run P w = .ok (.slice a len cap) w := by
  have hf := run_firstS (P := P) w i.size []
  simp only [List.length_nil, List.map_nil] at hf
  have h0 := lenOf_S (P := P) w []
  simp only [List.length_nil] at h0
  cases a with
  | none => simp [Builtin.append_, run_underlying ht, run_underlying hS, sizeOf, typeInfo, hi, h0, hlc, hf]
  | some a => simp [Builtin.append_, run_underlying ht, run_underlying hS, sizeOf, typeInfo, hi, h0, hlc, hf, storeCells]
theorem run_appendS_new {w : World} {t tS ty e : TypeId} {i : TypeInfo} {z : Value} (ht : P.underlying t = some (.slice e)) (hS : P.underlying tS = some .string) (hi : P.info? e = some i) (hz0 : i.zero = some z) {a : Option Addr} {len cap : Nat} {l : List UInt8} {ys zs : List Value} (hly : ys.length = len * i.size) (hy : len = 0 ∨ ∃ b o, a = some ⟨b, o, none⟩ ∧ lies w b o ys)
    (hl : zs = l.map fun b => Value.int .u8 b.toNat) (hg : cap < len + l.length) (hb : (len + l.length) * i.bytes ≤ 140737488355328) (h63 : len + l.length ≤ 9223372036854775807) :
    (Builtin.append_ #[t, tS] ty #[.slice a len cap, .string ⟨l.toArray⟩]).run P w = .ok (.slice (some ⟨w.heap.size, 0, none⟩) (len + l.length) (grownCap w (len + l.length) cap e)) (w.drew.alloc (.cells (ys.toArray ++ zs.toArray ++ Builtin.zeroCells z.cells (grownCap w (len + l.length) cap e - (len + l.length))) e)) := by
  have hn : ¬ (len + l.length ≤ cap) := by omega
  have h63' : ¬ (9223372036854775807 < ((len : Int) + (l.length : Int))) := by omega
  have h48' : ¬ (281474976710656 < Builtin.nextslicecap (len + l.length) cap * i.bytes) := by have := growslice_fits (old := cap) (need := len + l.length) (by omega) hb; omega
  have hd : ∀ {b o : Nat} {l : List Value}, lies w b o l → lies w.drew b o l := fun h => h
  have hf := run_firstS (P := P) w.drew i.size l
  rw [← hl] at hf
  have hfo := run_first (P := P) (w := w.drew) (size := i.size) (cap := cap) hly (hy.imp id fun ⟨b, o, h1, h2⟩ => ⟨b, o, h1, hd h2⟩)
  simp [Builtin.append_, run_underlying ht, run_underlying hS, sizeOf, typeInfo, zeroValue, hi, hz0, lenOf_S, hn, h63', h48', Question.forced, hf, hfo, newRow, grownCap, -List.append_toArray]
end
end Go.Ab
namespace Go.Ab
open Go
section
variable {P : Program} {env : Env} {h : Hp}
variable {d : Option Nat} {ty : TypeId} {pos : String} {af : Array Edge} {g : Option (Nat × Bool)}
def strV (l : List UInt8) : List Value := l.map fun b => Value.int .u8 b.toNat
@[simp] theorem strV_length (l : List UInt8) : (strV l).length = l.length := by simp [strV]
theorem strV_get {l : List UInt8} {j : Nat} {y : Value} (h : (strV l)[j]? = some y) : ∃ x, l[j]? = some x ∧ y = .int .u8 x.toNat := by
  simp only [strV, List.getElem?_map, Option.map_eq_some_iff] at h
  obtain ⟨x, h1, h2⟩ := h
  exact ⟨x, h1, h2.symm⟩
theorem strV_at {l : List UInt8} {j : Nat} {x : UInt8} (h : l[j]? = some x) : (strV l)[j]? = some (.int .u8 x.toNat) := by
  simp [strV, h]
theorem fs_allocT (T : Tab P) {t : TypeId} {i : TI} (hz : T.ti t = some i) (hag : i.agg = true) : FStep P ⟨d, .alloc t, ty, pos, af, g⟩ env h 1 (fun p => .ptr p 0) (fun _ => [.var t (i.zero.map .v)]) := by
  refine fs_newO fun ρ S a w p => ?_
  obtain ⟨z, h1, h2⟩ := T.zeroV hz w
  refine ⟨.cells z.cells t (0, 0), .pointer (some ⟨w.heap.size, 0, none⟩), ?_, fun pos hpos w' hw' => ⟨?_, ?_⟩⟩
  · simp [execOp, Instr.alloc, h1]
    rfl
  · simp [R, Pl.with]
  · exact ⟨w.heap.size, z.cells, rfl, hw', by rw [h2]; exact RL_vs _⟩
section
variable {n : Nat × Nat} {ops : Array Oper} {rest : List Oper} {K : Env → Hp → Prop}
theorem vc_appendB (T : Tab P) {t e k len dd : Nat} {i : TI} {x y : Operand} {lb l0 : List UInt8} {tS : TypeId} (htS : P.underlying tS = some .string) (hx : evu env x = some (.sl k 0 len 1)) (hy : evu env y = some (.s l0)) (ht : T.elem t = some e) (he : T.ti e = some i) (hs : i.size = 1) (hby : i.bytes = 1)
    (hkk : h[k]? = some (.buf e lb)) (hlen : len = lb.length) (hb : lb.length + l0.length ≤ 140737488355328) (hd : okd (some dd) n = true)
    (hk : VC P n ops rest ((dd, .sl h.length 0 (lb.length + l0.length) 1) :: env) (h.set k .gone ++ [.buf e (lb ++ l0)]) K) :
    VC P n ops (⟨some dd, .call { callee := .builtin .append, args := #[x, y], argTypes := #[t, tS] }, ty, pos, af, none⟩ :: rest) env h K := by
  subst hlen
  intro c ρ S a w Q s hQ
  refine wpList_plain rfl fun K' hK' => ?_
  have p := s.pre
  have hxv := p.evu hx
  have y1 : a.eval y = .string ⟨l0.toArray⟩ := R_v (p.evu hy)
  obtain ⟨inf, z, t1, t2, t3, t4, t5, t6, t7⟩ := T.tiOk e i he
  simp only [R] at hxv
  obtain ⟨a1, c1, x1, x3, hxv⟩ := hxv
  have x2 : lb.length ≤ c1 := by
    rcases hxv with ⟨h0, h1⟩ | ⟨b, o, _, _, h3, _⟩
    · omega
    · exact h3
  have hB : RB S w ρ (ρ k) (.buf e lb) := p.blk k _ hkk
  simp only [RB] at hB
  have hklt : k < h.length := (List.getElem?_eq_some_iff.1 hkk).1
  have ev1 : ∀ r w', (Builtin.append_ #[t, tS] ty #[a.eval x, a.eval y]).run P w = .ok r w' → (execOp a.eval ⟨some dd, .call { callee := .builtin .append, args := #[x, y], argTypes := #[t, tS] }, ty, pos, af, none⟩).run P w = .ok (.value r) w' := fun r w' hr => by
    simp [execOp, resolve, invoke, builtin, hr]
  -- whatever it does: the new object's place, and the world
  have fin : ∀ {r : Value} {w' : World} {q : Option (Nat × Nat)}, (Builtin.append_ #[t, tS] ty #[a.eval x, a.eval y]).run P w = .ok r w' → Ext c.M w w' → (∀ j b, h[j]? = some b → j ≠ k → b ≠ .gone → ∀ b1 o1, ρ j = some (b1, o1) → w'.heap[b1]? = w.heap[b1]?) → (∀ b1, S b1 → w'.heap[b1]? = w.heap[b1]?) →
      (∀ b1 o1, q = some (b1, o1) → c.M b1 ∧ ¬ S b1 ∧ b1 < w'.heap.size ∧ ∀ j b, h[j]? = some b → j ≠ k → b ≠ .gone → ∀ b2 o2, ρ j = some (b2, o2) → b2 ≠ b1) →
      (Later ρ (fun j => if j = h.length then q else ρ j) S S w w' → R S w' (.sl h.length 0 (lb.length + l0.length) 1) (fun j => if j = h.length then q else ρ j) r ∧ RB S w' (fun j => if j = h.length then q else ρ j) q (.buf e (lb ++ l0))) →
      Oper.wp P ⟨some dd, .call { callee := .builtin .append, args := #[x, y], argTypes := #[t, tS] }, ty, pos, af, none⟩ a w K' Q := fun {r w' q} hr hext hoth hst hq hval => by
    unfold Oper.wp
    rw [ev1 r w' hr]
    have hdom := s.hs.dom h.length (Nat.le_refl _)
    have l : Later ρ (fun j => if j = h.length then q else ρ j) S S w w' := ⟨fun j u hu => by
      show (if j = h.length then q else ρ j) = _
      rw [if_neg (fun e => by rw [e, hdom] at hu; cases hu)]; exact hu, fun _ h => h, hst, fun _ _ _ _ _ hr => hext.room hr⟩
    obtain ⟨v1, v2⟩ := hval l
    have hget : ∀ {j : Nat} {b : AB}, (h.set k .gone ++ [.buf e (lb ++ l0)])[j]? = some b → b ≠ .gone → (j < h.length ∧ j ≠ k ∧ h[j]? = some b) ∨ (j = h.length ∧ b = .buf e (lb ++ l0)) := fun {j b} hj hg => by
      by_cases hjl : j < h.length
      · rw [List.getElem?_append_left (by simpa using hjl)] at hj
        by_cases hjk : j = k
        · subst hjk; rw [List.getElem?_set_self hklt] at hj; cases hj; exact absurd rfl hg
        · rw [List.getElem?_set_ne (Ne.symm hjk)] at hj; exact .inl ⟨hjl, hjk, hj⟩
      · rw [List.getElem?_append_right (by simp; omega)] at hj
        simp only [List.length_set] at hj
        by_cases hj0 : j - h.length = 0
        · rw [hj0] at hj; simp at hj; exact .inr ⟨by omega, hj.symm⟩
        · rw [List.getElem?_eq_none (by simp; omega)] at hj; cases hj
    refine hK' _ _ (hk c (fun j => if j = h.length then q else ρ j) S _ w' Q ⟨by rw [size_put]; exact s.size, by rw [defers_put]; exact s.defers.later l, env_put s.size hd (fun tt uu huu => (s.env tt uu huu).later l) v1, ⟨fun j hj => ?_, fun j u hu => ?_, fun j b hj => ?_, fun j b u hj hg hu => ?_, fun j j' b b' u u' hj hj' hg hg' hu hu' e => ?_, fun b1 hb1 => Nat.lt_of_lt_of_le (s.hs.stab b1 hb1) hext.size, s.hs.ext.trans hext (fun _ h _ => h), s.hs.st0, s.hs.st1, by simp; exact Nat.le_trans s.hs.mle (Nat.le_add_right _ _), fun j hj => by
      have := s.hs.mle
      show (if j = h.length then q else ρ j) = _
      rw [if_neg (by omega)]; exact s.hs.keep j hj, s.hs.glob.later l⟩, s.cm⟩ hQ)
    · simp at hj
      show (if j = h.length then q else ρ j) = _
      rw [if_neg (by omega)]; exact s.hs.dom j (by omega)
    · by_cases hj : j = h.length
      · simp only [hj, if_true] at hu
        exact (hq u.1 u.2 hu).2.2.1
      · simp only [hj, if_false] at hu
        exact Nat.lt_of_lt_of_le (s.hs.rng j u hu) hext.size
    · cases b with
      | gone => trivial
      | _ =>
        rcases hget hj (by simp) with ⟨h2, h3, h4⟩ | ⟨h2, h3⟩
        · show RB S w' _ (if j = h.length then q else ρ j) _
          rw [if_neg (by omega)]
          exact RB.later l (fun b1 o1 hp1 => hoth j _ h4 h3 (by simp) b1 o1 hp1) (s.hs.blk j _ h4)
        · subst h2
          show RB S w' _ (if h.length = h.length then q else ρ h.length) _
          rw [if_pos rfl, h3]; exact v2
    · rcases hget hj hg with ⟨h2, h3, h4⟩ | ⟨h2, h3⟩
      · rw [if_neg (by omega)] at hu
        exact s.hs.live j b u h4 hg hu
      · rw [if_pos h2] at hu
        exact ⟨(hq u.1 u.2 hu).1, (hq u.1 u.2 hu).2.1⟩
    · rcases hget hj hg with ⟨h2, h3, h4⟩ | ⟨h2, h3⟩ <;> rcases hget hj' hg' with ⟨h2', h3', h4'⟩ | ⟨h2', h3'⟩
      · rw [if_neg (by omega)] at hu hu'
        exact s.hs.inj j j' b b' u u' h4 h4' hg hg' hu hu' e
      · rw [if_neg (by omega)] at hu
        rw [if_pos h2'] at hu'
        exact absurd e ((hq u'.1 u'.2 hu').2.2.2 j b h4 h3 hg u.1 u.2 hu)
      · rw [if_neg (by omega)] at hu'
        rw [if_pos h2] at hu
        exact absurd e.symm ((hq u.1 u.2 hu).2.2.2 j' b' h4' h3' hg' u'.1 u'.2 hu')
      · omega
  have hoth0 : ∀ (w' : World) (b0 : Nat), (∀ x, x ≠ b0 → w'.heap[x]? = w.heap[x]?) → (∃ o, ρ k = some (b0, o)) → (∀ j b, h[j]? = some b → j ≠ k → b ≠ .gone → ∀ b1 o1, ρ j = some (b1, o1) → w'.heap[b1]? = w.heap[b1]?) ∧ (∀ b1, S b1 → w'.heap[b1]? = w.heap[b1]?) := fun w' b0 hw ⟨o, ho⟩ =>
    ⟨fun j b hj hjk hg b1 o1 h1 => hw b1 (fun e => hjk (s.hs.inj j k b _ _ _ hj hkk hg (by simp) h1 ho e)), fun b1 hb1 => hw b1 (fun e => (s.hs.live k _ _ hkk (by simp) ho).2 (e ▸ hb1))⟩
  have hoth0 : ∀ (w' : World) (b0 : Nat), (∀ x, x ≠ b0 → w'.heap[x]? = w.heap[x]?) → (∃ o, ρ k = some (b0, o)) → (∀ j b, h[j]? = some b → j ≠ k → b ≠ .gone → ∀ b1 o1, ρ j = some (b1, o1) → w'.heap[b1]? = w.heap[b1]?) ∧ (∀ b1, S b1 → w'.heap[b1]? = w.heap[b1]?) := fun w' b0 hw ⟨o, ho⟩ =>
    ⟨fun j b hj hjk hg b1 o1 h1 => hw b1 (fun e => hjk (s.hs.inj j k b _ _ _ hj hkk hg (by simp) h1 ho e)), fun b1 hb1 => hw b1 (fun e => (s.hs.live k _ _ hkk (by simp) ho).2 (e ▸ hb1))⟩
  by_cases hroom : lb.length + l0.length ≤ c1
  · by_cases hm : l0 = []
    · -- nothing is appended
      subst hm
      have hr := run_appendS_same (P := P) (w := w) (t := t) (ty := ty) (T.elemOk _ _ ht) htS t1 (a := a1) x2
      refine fin (q := ρ k) (by rw [x1, y1]; exact hr) (Ext.refl _ _) (fun _ _ _ _ _ _ _ _ => rfl) (fun _ _ => rfl) (fun b1 o1 hq => ?_) (fun l' => ⟨?_, ?_⟩)
      · obtain ⟨m1, m2⟩ := s.hs.live k _ _ hkk (by simp) hq
        exact ⟨m1, m2, s.hs.rng k _ hq, fun j b hj hjk hg b3 o3 h3 e => hjk (s.hs.inj j k b _ _ _ hj hkk hg (by simp) h3 hq e)⟩
      · simp only [R, List.length_nil, Nat.add_zero]
        refine ⟨a1, c1, rfl, x3, ?_⟩
        rcases hxv with e3 | ⟨b, o, f1, f2, f3, f4⟩
        · exact .inl e3
        · exact .inr ⟨b, o, by simp [f1], f2, f3, f4⟩
      · simp only [RB, List.append_nil]
        exact hB
    · -- there is room
      have hpos : 0 < l0.length := List.length_pos_iff.2 hm
      rcases hxv with ⟨e3, e4⟩ | ⟨b, o, f1, f2, f3, ⟨c3, e3, fz3, r1, r2⟩⟩
      · omega
      rcases hB with ⟨_, hB⟩ | ⟨b', cc, g1, f4, g3⟩
      · rw [f1] at hB; cases hB
      rw [f1] at g1
      obtain ⟨rfl, rfl⟩ : b = b' ∧ o = 0 := by simpa using g1
      obtain rfl : cc = c3 := by rw [f4] at r1; cases r1; rfl
      have hone : ∀ u ∈ strV l0, u.oneCell' = true := fun u hu => by obtain ⟨q, _, rfl⟩ := List.mem_map.1 hu; rfl
      have hfit : 0 + lb.length * inf.size + (strV l0).length ≤ cc.size := by rw [t2, hs, strV_length]; omega
      have hr := run_appendS_in (P := P) (w := w) (t := t) (ty := ty) (T.elemOk _ _ ht) htS t1 (b := b) (o := 0) (len := lb.length) (cap := c1) (l := l0) (zs := strV l0) rfl hone f4 hroom hfit
      rw [t2, hs, Nat.mul_one, Nat.zero_add] at hr hfit
      have hcs : ((cc.toList.take lb.length ++ strV l0 ++ cc.toList.drop (lb.length + (strV l0).length)).toArray).size = cc.size := by
        simp only [List.size_toArray, List.length_append, List.length_take, List.length_drop, Array.length_toList]; omega
      have hnew := setRow_heap w b cc (cc.toList.take lb.length ++ strV l0 ++ cc.toList.drop (lb.length + (strV l0).length)).toArray e (0, 0) f4
      obtain ⟨m1, m2⟩ := s.hs.live k _ _ hkk (by simp) f1
      obtain ⟨o1, o2⟩ := hoth0 _ b (fun x hx => setRow_other w b x (cc.toList.take lb.length ++ strV l0 ++ cc.toList.drop (lb.length + (strV l0).length)).toArray hx) ⟨0, f1⟩
      refine fin (q := some (b, 0)) (by rw [x1, y1, f2]; simpa using hr) ((ext_setRow f4 hcs).mono fun x _ hx => by rw [hx]; exact m1) o1 o2 (fun b1 o1 hq => ?_) (fun l' => ⟨?_, ?_⟩)
      · cases hq
        exact ⟨m1, m2, (Array.getElem?_eq_some_iff.1 hnew).1, fun j b hj hjk hg b3 o3 h3 e => hjk (s.hs.inj j k b _ _ _ hj hkk hg (by simp) h3 f1 e)⟩
      · simp only [R]
        refine ⟨_, c1, rfl, x3, .inr ⟨b, 0, by simp, by simp, hroom, _, e, _, hnew, ?_⟩⟩
        rw [hcs]; omega
      · simp only [RB]
        refine .inr ⟨b, _, rfl, hnew, fun j u hj => ?_⟩
        rw [List.getElem?_toArray]
        by_cases hj1 : j < lb.length
        · rw [List.getElem?_append_left hj1] at hj
          rw [List.append_assoc, List.getElem?_append_left (by simp; omega), List.getElem?_take, if_pos hj1]
          simpa using g3 j u hj
        · rw [List.getElem?_append_right (by omega)] at hj
          have hj2 := (List.getElem?_eq_some_iff.1 hj).1
          rw [List.getElem?_append_left (by simp; omega), List.getElem?_append_right (by simp; omega)]
          have e9 : (List.take lb.length cc.toList).length = lb.length := by simp only [List.length_take, Array.length_toList]; omega
          rw [e9]
          exact strV_at hj
  · -- a new row
    have hy0 : lb.length = 0 ∨ ∃ b o, a1 = some ⟨b, o, none⟩ ∧ lies w b o (strV lb) := by
      rcases hxv with ⟨e3, _⟩ | ⟨b, o, f1, f2, f3, _⟩
      · exact .inl e3
      rcases hB with ⟨_, hB⟩ | ⟨b', cc, g1, f4, g3⟩
      · rw [f1] at hB; cases hB
      rw [f1] at g1
      obtain ⟨rfl, rfl⟩ : b = b' ∧ o = 0 := by simpa using g1
      refine .inr ⟨b, 0, by simpa using f2, cc, e, _, f4, fun j y hj => ?_⟩
      obtain ⟨q, q1, rfl⟩ := strV_get hj
      rw [Nat.zero_add]; exact g3 j q q1
    have hr := run_appendS_new (P := P) (w := w) (t := t) (ty := ty) (a := a1) (len := lb.length) (cap := c1) (l := l0) (ys := strV lb) (zs := strV l0) (T.elemOk _ _ ht) htS t1 t4 (by rw [t2, hs]; simp) hy0 rfl (by omega) (by rw [t3, hby]; omega) (by omega)
    have hgc := grownCap_ge w (lb.length + l0.length) c1 e
    have hgm := grownCap_le_maxLen w (lb.length + l0.length) c1 e (by simp only [maxLen]; omega)
    have hzs : z.cells.size = 1 := by rw [← hs, ← t6, ← t5]; simp
    obtain ⟨g1, g2⟩ := grown_cells (ys := strV lb) (zs := strV l0) (len := lb.length) (m := l0.length) hzs (by simp) (by simp) hgc
    have hnew : (w.drew.alloc (.cells ((strV lb).toArray ++ (strV l0).toArray ++ Builtin.zeroCells z.cells (grownCap w (lb.length + l0.length) c1 e - (lb.length + l0.length))) e)).heap[w.heap.size]? = some (.cells _ e (0, 0)) := heap_alloc_new w.drew _
    have hold : ∀ b1, b1 < w.heap.size → (w.drew.alloc (.cells ((strV lb).toArray ++ (strV l0).toArray ++ Builtin.zeroCells z.cells (grownCap w (lb.length + l0.length) c1 e - (lb.length + l0.length))) e)).heap[b1]? = w.heap[b1]? := fun b1 hb1 => RowKit.Below.heap_alloc w.drew _ b1 hb1
    refine fin (q := some (w.heap.size, 0)) (by rw [x1, y1]; exact hr) ((Ext.drew1 w).trans (ext_alloc w.drew _ c.M) (fun _ h _ => h)) (fun j b hj hjk hg b1 o1 h2 => hold b1 (s.hs.rng j _ h2)) (fun b1 hb1 => hold b1 (s.hs.stab b1 hb1)) (fun b1 o1 hq => ?_) (fun l' => ⟨?_, ?_⟩)
    · cases hq
      refine ⟨c.new _ s.hs.ext.size, fun hS => ?_, by simp, fun j b hj hjk hg b2 o2 h2 e => ?_⟩
      · have := s.hs.stab _ hS; omega
      · have := s.hs.rng j _ h2; simp at this; omega
    · simp only [R]
      exact ⟨_, _, rfl, hgm, .inr ⟨w.heap.size, 0, by simp, by simp, hgc, _, e, _, hnew, by rw [Nat.zero_add, Nat.zero_add]; exact g1⟩⟩
    · simp only [RB]
      refine .inr ⟨w.heap.size, _, rfl, hnew, fun j u hj => g2 j _ ?_⟩
      have := strV_at hj
      simpa [strV] using this
end
end
end Go.Ab
namespace Go.Ab
open Go
section
variable {P : Program}
theorem ext_below {w w' : World} (h : RowKit.Below w.heap.size w w') : Ext (fun _ => False) w w' :=
  ⟨h.os, h.tape, h.output, h.size, fun b hb _ => h.block b hb, fun b c e fz hc => ⟨c, fz, by rw [h.block b (Array.getElem?_eq_some_iff.1 hc).1]; exact hc, rfl⟩⟩
theorem ext_grow {w : World} {k : Nat} {os : Array Obj} : Ext (fun _ => False) w (Sort.grow (w.drewN k) os) := by
  have hh : ∀ b, b < w.heap.size → (Sort.grow (w.drewN k) os).heap[b]? = w.heap[b]? := fun b hb => by
    show (w.heap ++ os)[b]? = _
    rw [Array.getElem?_append_left hb]
  exact ⟨rfl, rfl, rfl, by show w.heap.size ≤ (w.heap ++ os).size; rw [Array.size_append]; exact Nat.le_add_right _ _, fun b hb _ => hh b hb, fun b c e fz hc => ⟨c, fz, by rw [hh b (Array.getElem?_eq_some_iff.1 hc).1]; exact hc, rfl⟩⟩
theorem HS.kept {c : Ctx} {ρ : Pl} {S : Nat → Prop} {h : Hp} {w w' : World} (s : HS c ρ S h w) (hext : Ext (fun _ => False) w w') : HS c ρ S h w' := by
  have := s.post (m := 0) (new := []) (x := .any) (y := .nilIface) (ρ' := ρ) (S' := S) (w' := w') ⟨hext, rfl, fun _ _ => rfl, fun _ h => h, fun _ h => .inl h, fun k p a1 a2 _ => by omega, fun k k' p p' a1 a2 => by omega, by simp [R], fun j b hb => by simp at hb⟩
  simpa using this
theorem modify_at {w : World} {b : Nat} {f : Obj → Obj} {o : Obj} (h : w.heap[b]? = some o) : (w.heap.modify b f)[b]? = some (f o) := by
  simp [Array.getElem?_modify, h]
theorem modify_other {w : World} {b x : Nat} {f : Obj → Obj} (h : x ≠ b) : (w.heap.modify b f)[x]? = w.heap[x]? := by
  simp only [Array.getElem?_modify]
  rw [if_neg (Ne.symm h)]
theorem acall_ccFresh {f : FuncId} {T : TypeId} {x : AV} (hfn : ∃ fn, P.funcs[f]? = some fn ∧ (fn.name == "runtime.NumGoroutine") = false ∧ fn.body.isNone = false)
    (hs : ∀ (b : Nat) (w : World), w.cell? ⟨b, 0, none⟩ = some (.pointer none) → w.shape? b = some (T, 2) → w.frozen? ⟨b, 0, none⟩ = false → Calls P f #[.pointer (some ⟨b, 0, none⟩)] w fun e w' => e = .returned (.tuple #[]) ∧ w' = w.setCell ⟨b, 0, none⟩ (.pointer (some ⟨b, 0, none⟩))) :
    ACall P f [.ptr 0 0] [.var T [.v (.pointer none), x]] (.tup []) [.cells [.ptr 0 0, x]] := by
  refine ⟨hfn, fun ρ S w vs s ha => ?_⟩
  simp only [RL, R] at ha
  obtain ⟨y, ys, rfl, ⟨b, o, hp, rfl⟩, rfl⟩ := ha
  obtain ⟨b', c, h1, h2, h3⟩ := s.blk 0 _ rfl
  rw [hp] at h1
  obtain ⟨rfl, rfl⟩ : b = b' ∧ o = 0 := by simpa using h1
  simp only [RL, R] at h3
  obtain ⟨v0, l1, hc, rfl, v1, l2, rfl, hx, rfl⟩ := h3
  have hcc : c = #[.pointer none, v1] := Array.toList_inj.1 hc
  subst hcc
  refine (hs b w (by simp [World.cell?, h2]) (by simp [World.shape?, h2]) (by simp [World.frozen?, h2])).mono fun e w' ⟨he, hw⟩ => ?_
  have hb : w'.heap[b]? = some (.cells #[.pointer (some ⟨b, 0, none⟩), v1] T (0, 0)) := by
    rw [hw]
    show (w.heap.modify b _)[b]? = _
    rw [modify_at h2]; rfl
  have ho : ∀ x, x ≠ b → w'.heap[x]? = w.heap[x]? := fun x hx => by rw [hw]; exact modify_other hx
  have hext : Ext (fun x => x = b) w w' := by
    refine ⟨by rw [hw]; rfl, by rw [hw]; rfl, by rw [hw]; rfl, by rw [hw]; simp [World.setCell], fun x _ hx => ho x hx, fun x cc ee fz hcc => ?_⟩
    by_cases hx : x = b
    · subst hx; rw [h2] at hcc; cases hcc; exact ⟨_, _, hb, rfl⟩
    · exact ⟨cc, fz, by rw [ho x hx]; exact hcc, rfl⟩
  obtain ⟨g1, g2⟩ := s.upd (nb := .cells [.ptr 0 0, x]) rfl (by simp) hp hext (fun l => ⟨b, 0, [.pointer (some ⟨b, 0, none⟩), v1], rfl, ⟨_, T, hb, fun j y hj => by rw [Nat.zero_add]; simpa using hj⟩, by
    simp only [RL, R]
    exact ⟨_, _, rfl, ⟨b, 0, hp, rfl⟩, _, _, rfl, R.later l hx, rfl⟩⟩)
  exact ⟨.tuple #[], ρ, S, he, g1, by simp [R, RL]⟩
theorem fs_ptrNilF {env : Env} {h : Hp} {d : Option Nat} {ty : TypeId} {pos : String} {af : Array Edge} {g : Option (Nat × Bool)} {t t2 te : TypeId} {x y : Operand} {u z : AV} (ht : P.underlying t = some (.pointer te)) (hx : evu env x = some u) (hz : u.plus 0 = some z) (hy : evu env y = some (.v (.pointer none))) :
    FStep P ⟨d, .binOp .eql t x y t2, ty, pos, af, g⟩ env h 0 (fun _ => .b false) (fun _ => []) := by
  refine fs_val fun ρ S a w p => ⟨.bool false, ?_, by simp [R]⟩
  obtain ⟨b, o, h1, _⟩ := plus_val (p.evu hx) hz
  have h2 := R_v (p.evu hy)
  have ht' : P.underlying t = some (.pointer (P.pointee t)) := by simp [Program.pointee, ht]
  have hq : eqGuard .eql t x y (.pointer (some ⟨b, o, none⟩)) (.pointer none) = pure () := by rfl
  have hr : (binOp .eql t (.pointer (some ⟨b, o, none⟩)) (.pointer none)).run P w = .ok (.bool false) w := by rw [run_eql_pointer_nil (P := P) w t (some ⟨b, o, none⟩) ht']; rfl
  simp [execOp, h1, h2, hq, hr]
theorem fs_ptrSame {env : Env} {h : Hp} {d : Option Nat} {ty : TypeId} {pos : String} {af : Array Edge} {g : Option (Nat × Bool)} {t t2 te : TypeId} {x y : Operand} {k off : Nat} {i : TypeInfo} (ht : P.underlying t = some (.pointer te)) (hi : P.info? te = some i) (hx : evu env x = some (.ptr k off)) (hy : evu env y = some (.ptr k off)) :
    FStep P ⟨d, .binOp .neq t x y t2, ty, pos, af, g⟩ env h 0 (fun _ => .b false) (fun _ => []) := by
  refine fs_val fun ρ S a w p => ⟨.bool false, ?_, by simp [R]⟩
  have h1 := p.evu hx
  have h2 := p.evu hy
  simp only [R] at h1 h2
  obtain ⟨b, o, h3, h4⟩ := h1
  obtain ⟨b', o', h5, h6⟩ := h2
  rw [h3] at h5; cases h5
  have hq : eqGuard .neq t x y (.pointer (some ⟨b, o + off, none⟩)) (.pointer (some ⟨b, o + off, none⟩)) = pure () := by rfl
  have := Go.Lib.run_neq_ptr_same (P := P) w (⟨b, o + off, none⟩ : Addr) ht hi
  simp [execOp, h4, h6, hq, this]
theorem fs_sliceData {env : Env} {h : Hp} {d : Option Nat} {ty : TypeId} {pos : String} {af : Array Edge} {g : Option (Nat × Bool)} {ts : Array TypeId} {x : Operand} {k len : Nat} (hx : evu env x = some (.sl k 0 len 1)) (hl : 0 < len) :
    FStep P ⟨d, .call { callee := .builtin .unsafeSliceData, args := #[x], argTypes := ts }, ty, pos, af, g⟩ env h 0 (fun _ => .ep k 0 0 1) (fun _ => []) := by
  refine fs_val fun ρ S a w p => ?_
  have h1 := p.evu hx
  simp only [R] at h1
  obtain ⟨ad, cap, h2, _, h3⟩ := h1
  rcases h3 with ⟨h0, _⟩ | ⟨b, o, h4, h5, h6, _⟩
  · omega
  refine ⟨.pointer ad, ?_, by simp only [R]; exact ⟨b, o, h4, by rw [h5]⟩⟩
  have := Go.Lib.run_unsafeSliceData_row (P := P) w ts ty ⟨b, o, none⟩ len cap (by omega)
  have h5' : ad = some ⟨b, o, none⟩ := by rw [h5]; simp
  rw [h5'] at h2 ⊢
  simp [execOp, resolve, invoke, builtin, h2, this]
theorem acall_format {f : FuncId} {name : String} {gi : Nat} {tab : List Int} (hfn : ∃ fn, P.funcs[f]? = some fn ∧ (fn.name == "runtime.NumGoroutine") = false ∧ fn.body.isNone = false)
    (hs : ∀ (n : Int) (w : World), -9223372036854775808 ≤ n → n ≤ 9223372036854775807 → Go.Lib.TabIs P w name .u64 tab → Calls P f #[.int .i64 n, .int .i64 10] w fun e w' => e = .returned (.string ⟨(Go.Lib.itoa n).toArray⟩) ∧ ∃ k os, w' = Sort.grow (w.drewN k) os)
    (hg : P.globalNamed name = some gi) (hgt : (gi, tab.map fun z => AV.v (.int .u64 z)) ∈ globTab) (n : Int) (h0 : -9223372036854775808 ≤ n) (h1 : n ≤ 9223372036854775807) : ACall P f [.i n, .i 10] [] (.s (Go.Lib.itoa n)) [] := by
  refine ⟨hfn, fun ρ S w vs s ha => ?_⟩
  simp only [RL, R] at ha
  obtain ⟨y, ys, rfl, rfl, z, zs, rfl, rfl, rfl⟩ := ha
  obtain ⟨_, ys, t, fz, g1, g2⟩ := s.glob gi _ hgt
  have hT : Go.Lib.TabIs P w name .u64 tab := by
    have e : ys.toList = tab.map fun z => Value.int .u64 z := by
      have := RL_vsEq (vs := tab.map fun z => Value.int .u64 z) (ys := ys.toList) (ρ := fun _ => none) (S := S) (w := w) (by simpa [List.map_map, Function.comp_def] using g2)
      exact this
    unfold Go.Lib.TabIs World.var?
    rw [hg]
    simp only [Option.bind_some, g1]
    rw [← e]
  refine (hs n w h0 h1 hT).mono fun e w' ⟨he, k, os, hw⟩ => ?_
  subst hw
  exact ⟨_, ρ, S, he, s.kept ext_grow, by simp [R]⟩
end
end Go.Ab
namespace Go.Ab
open Go
def fillH (H : Hp) (pos : Nat) : List AB → Hp
  | [] => H
  | b :: _ => H.set pos b
theorem set_mid (A B : Hp) (b c : AB) : (A ++ (c :: B)).set A.length b = A ++ (b :: B) := by
  rw [List.set_append_right _ _ (Nat.le_refl _), Nat.sub_self]; rfl
def AStep (P : Program) (o : Oper) (env : Env) (h : Hp) (pos k : Nat) (nb : AB) (x : AV) (new : List AB) : Prop :=
  ∀ c ρ S a w H, HS c ρ S H w → Pre ρ S env h a w → (∀ (j : Nat) b, h[j]? = some b → b ≠ .gone → H[j]? = some b) → (new = [] ∨ (ρ pos = none ∧ H[pos]? = some .gone ∧ c.m ≤ pos)) → ∀ (K : Act → World → Prop) Q,
    (∀ y ρ' S' w', HS c ρ' S' (fillH (H.set k nb) pos new) w' → Later ρ ρ' S S' w w' → R S' w' x ρ' y → (∀ j, (new ≠ [] → j ≠ pos) → ρ' j = ρ j) → K (a.put o.dst y) w') → o.wp P a w K Q
theorem AStep.more {P : Program} {o : Oper} {env env' : Env} {h : Hp} {pos k : Nat} {nb : AB} {x : AV} {new : List AB} (hs : AStep P o env h pos k nb x new) (he : ∀ t u, look env t = some u → look env' t = some u) : AStep P o env' h pos k nb x new :=
  fun c ρ S a w H g p => hs c ρ S a w H g ⟨fun t u hu => p.env t u (he t u hu), p.rng, p.blk, p.live, p.stab, p.glob⟩
theorem SStep.a {P : Program} {op : Op} {ty : TypeId} {ps : String} {af : Array Edge} {env : Env} {h : Hp} {pos k : Nat} {nb : AB} (hs : SStep P ⟨none, op, ty, ps, af, none⟩ env h k nb) : AStep P ⟨none, op, ty, ps, af, none⟩ env h pos k nb (.v undef) [] :=
  fun c ρ S a w H g p hb _ K Q hK => hs c ρ S a w H g p hb K Q fun _ w' hh l => hK undef ρ S w' hh l (R_v_mk _) (fun _ _ => rfl)
theorem Stand.astep {P : Program} {n : Nat × Nat} {c : Ctx} {env : Env} {h h' : Hp} {all : List Eff} {L L' : Nat → Bool} {ρ ρ' : Pl} {S S' : Nat → Prop} {a : Act} {w w' : World} {i : Nat} {f : Eff} {y : Value} (s : Stand P n c env h all L ρ S a w)
    (hf : all[i]? = some f) (hL : ∀ j, L' j = (L j || Nat.beq j i)) (hd : okd f.d n = true) (hnd : (dstsOf all).Nodup) (henv : ∀ t x, look env t = some x → t ∉ dstsOf all)
    (hh : HS c ρ' S' (h' ++ seg L' 0 all) w') (hl : h'.length = h.length) (l : Later ρ ρ' S S' w w') (hv : R S' w' f.x ρ' y) (hρ : ∀ j, (f.new ≠ [] → j ≠ h.length + lens (all.take i)) → ρ' j = ρ j) (hn1 : f.new.length ≤ 1) :
    Stand P n c env h' all L' ρ' S' (a.put f.d y) w' := by
  have hil : i < all.length := (List.getElem?_eq_some_iff.1 hf).1
  have dst_ne : ∀ {j : Nat} {g : Eff} {t : Nat}, all[j]? = some g → j ≠ i → g.d = some t → f.d ≠ some t := fun {j g t} hg hne hgt hft => by
    have key : ∀ {l : List Eff} {i j : Nat} {f g : Eff}, (dstsOf l).Nodup → l[i]? = some f → l[j]? = some g → i < j → f.d = some t → g.d = some t → False := by
      intro l
      induction l with
      | nil => intro i j f g _ h1; simp at h1
      | cons e l ih =>
        intro i j f g hnd h1 h2 hij hf hg
        have tail : (dstsOf l).Nodup := by
          unfold dstsOf at hnd ⊢
          rw [List.filterMap_cons] at hnd
          split at hnd
          · exact hnd
          · exact (List.nodup_cons.1 hnd).2
        cases j with
        | zero => omega
        | succ j =>
          simp only [List.getElem?_cons_succ] at h2
          cases i with
          | zero =>
            simp only [List.getElem?_cons_zero, Option.some.injEq] at h1
            subst h1
            unfold dstsOf at hnd
            rw [List.filterMap_cons, hf] at hnd
            exact (List.nodup_cons.1 hnd).1 (List.mem_filterMap.2 ⟨g, List.mem_of_getElem? h2, hg⟩)
          | succ i => exact ih tail (by simpa using h1) h2 (by omega) hf hg
    rcases Nat.lt_or_gt_of_ne hne with h1 | h1
    · exact key hnd hg hf h1 hgt hft
    · exact key hnd hf hg h1 hft hgt
  have other : ∀ {t : Nat}, f.d ≠ some t → (a.put f.d y).tmps.getD t undef = a.tmps.getD t undef := fun {t} ht => by
    cases hfd : f.d with
    | none => rfl
    | some d => exact getD_put_other (fun e => ht (by rw [hfd, e]))
  refine ⟨by rw [size_put]; exact s.size, by rw [defers_put]; exact s.defers.later l, s.cm, fun t x hx => ?_, fun j g t hg hj ht => ?_, hh, fun j g hg hj k hk => ?_⟩
  · rw [other (fun e => henv t x hx (List.mem_filterMap.2 ⟨f, List.mem_of_getElem? hf, e⟩))]
    exact (s.env0 t x hx).later l
  · by_cases hji : j = i
    · subst hji
      rw [hf] at hg
      cases hg
      rw [ht] at hd ⊢
      have hlt : t < a.tmps.size := by rw [s.size]; exact Nat.le_of_ble_eq_true hd
      rw [getD_put_same hlt]; exact hv
    · rw [other (dst_ne hg hji ht)]
      have hjL : L j = true := by
        rw [hL] at hj
        rcases Bool.or_eq_true_iff.1 hj with hj | hj
        · exact hj
        · exact absurd (Nat.eq_of_beq_eq_true hj) hji
      exact (s.done j g t hg hjL ht).later l
  · have hjL : L j = false := by rw [hL] at hj; exact (Bool.or_eq_false_iff.1 hj).1
    have hji : j ≠ i := fun e => by rw [hL, e, Nat.beq_refl, Bool.or_true] at hj; cases hj
    have := s.undone j g hg hjL k hk
    rw [hl]
    rw [hρ _ (fun hne e => ?_)]; exact this
    have lens_take : ∀ (l : List Eff) (a b : Nat) (f : Eff), a < b → l[a]? = some f → lens (l.take a) + f.new.length ≤ lens (l.take b) := by
      intro l
      induction l with
      | nil => intro a b f _ h; simp at h
      | cons e l ih =>
        intro a b f hab h
        cases b with
        | zero => omega
        | succ b =>
          cases a with
          | zero => simp at h; subst h; simp [lens]
          | succ a => simp only [List.take_succ_cons, lens]; have := ih a b f (by omega) (by simpa using h); omega
    rcases Nat.lt_or_gt_of_ne hji with h1 | h1
    · have := lens_take all j i g h1 hg; omega
    · have := lens_take all i j f h1 hf
      have h2 : 0 < f.new.length := List.length_pos_iff.2 hne
      omega
def DVA (P : Program) (n : Nat × Nat) (ops : Array Oper) (pres : List (List Nat)) (ss : List (Nat × Nat)) (ds : List Nat) (env : Env) (h : Hp) (effs : List Eff) (don : List AB) (K : Env → Hp → Prop) : Prop :=
  ∃ more mb, (effs ++ more).length = pres.length ∧ (don ++ mb).length = ss.length ∧ dstsOf (effs ++ more) = ds ∧
    (∀ i f pre, effs.length ≤ i → (effs ++ more)[i]? = some f → pres[i]? = some pre →
      ((∀ x, x ∈ ss → x.1 ≠ i) ∧ GStep P ops i (stE env ((effs ++ more).take i) pre) (seeH pres i pre ss (don ++ mb) h ++ seg (fun j => pre.any (Nat.beq j)) 0 ((effs ++ more).take i)) f) ∨
      (∃ (m k : Nat) (b : AB) (o : Oper), ss[m]? = some (i, k) ∧ (don ++ mb)[m]? = some b ∧ o.dst = f.d ∧ f.new.length ≤ 1 ∧ ops[i]? = some o ∧ (o.guard = none ∨ ∃ g want t, o.guard = some (g, want) ∧ (ops[g]?).bind (·.dst) = some t ∧ look (stE env ((effs ++ more).take i) pre) t = some (.b want)) ∧ k < h.length ∧ AStep P o (stE env ((effs ++ more).take i) pre) (seeH pres i pre ss (don ++ mb) h ++ seg (fun j => pre.any (Nat.beq j)) 0 ((effs ++ more).take i)) (h.length + lens ((effs ++ more).take i)) k b f.x f.new)) ∧
    VC P n ops (ops.toList.drop pres.length) (stE env (effs ++ more) (List.range pres.length)) (applyS (fun _ => true) ss (don ++ mb) h ++ seg (fun _ => true) 0 (effs ++ more)) K
theorem aw_drawA {P : Program} {n : Nat × Nat} {env : Env} {h : Hp} {Q : Exit → Env → Hp → Prop} {id : Nat} {l : List Oper} (pres : List (List Nat)) (ds : List Nat) (ss : List (Nat × Nat)) (hm : P.follows .mixedOrders = true) (hok : okDraw l.toArray pres = true) (hss : okS pres ss = true) (hssl : (ss.all fun x => Nat.blt x.1 pres.length) = true) (hnd : ds.Nodup) (hds : (ds.all fun d => Nat.blt d n.1) = true) (hsz : Nat.ble pres.length l.length = true)
    (hv : DVA P n l.toArray pres ss ds (dropE ds env) h [] [] (fun v h => Q .normal v h)) (hndf : noDef l = true := by rfl) : AW P n (.region id l.toArray true) env h Q := by
  intro c ρ S a w QX s hX
  refine region_any_in hm hndf ?_
  have hQ : ∀ (env' : Env) (h' : Hp) ρ' S' a' w', Q .normal env' h' → Sim n c ρ' S' env' h' a' w' → (fun e a w => e = Exit.normal ∧ QX Exit.normal a w) Exit.normal a' w' := fun env' h' ρ' S' a' w' k s' => ⟨rfl, hX .normal env' h' ρ' S' a' w' k s'⟩
  generalize (fun e a w => e = Exit.normal ∧ QX Exit.normal a w) = QQ at hQ ⊢
  obtain ⟨all, bs, h1, hbl, h2, h3, h4⟩ := hv
  simp only [List.nil_append, List.length_nil, Nat.zero_le, true_implies] at h1 hbl h2 h3 h4
  have hAT : ∀ L : Nat → Bool, (∀ j, j < pres.length → L j = true) → applyS L ss bs h = applyS (fun _ => true) ss bs h := fun L hL => applyS_congr ss bs h fun x hx => hL x.1 (by have := List.all_eq_true.1 hssl x hx; exact Nat.le_of_ble_eq_true this)
  have hple : pres.length ≤ l.toArray.size := by simpa using Nat.le_of_ble_eq_true hsz
  have henv : ∀ t x, look (dropE ds env) t = some x → look env t = some x ∧ t ∉ dstsOf all := fun t x hx => by rw [h2]; exact look_dropE hx
  -- the first operations, in whatever order
  have key : ∀ (fuel : Nat) (listed : Array Bool) (U : List Nat) (ρ : Pl) (S : Nat → Prop) (a : Act) (w : World), listed.size = l.toArray.size → (∀ j, j < l.toArray.size → listed.getD j false = false → j ∈ U) → U.length ≤ fuel → (∀ j, pres.length ≤ j → listed.getD j false = false) →
      (∀ (i : Nat) o, l.toArray[i]? = some o → listed.getD i false = true → ∀ e, e ∈ o.after → Region.binds .any e = true → listed.getD e.on false = true) →
      Stand P n c (dropE ds env) (applyS (fun j => listed.getD j false) ss bs h) all (fun j => listed.getD j false) ρ S a w → wpAny P .any l.toArray QQ fuel listed a w := by
    intro fuel
    induction fuel with
    | zero =>
      intro listed U ρ S a w hls hU hUl htail hcl st
      have hU0 : U = [] := List.eq_nil_of_length_eq_zero (by omega)
      subst hU0
      have hall : ∀ j, j < l.toArray.size → listed.getD j false = true := fun j hj => by
        cases hb : listed.getD j false with
        | true => rfl
        | false => exact absurd (hU j hj hb) (by simp)
      have hpm : pres.length = l.toArray.size := by
        rcases Nat.lt_or_ge pres.length l.toArray.size with h5 | h5
        · have := htail pres.length (Nat.le_refl _)
          rw [hall _ h5] at this; cases this
        · omega
      refine wpAny_tail (k := pres.length) (r := 0) hok _ _ a w (by omega) (Nat.le_refl _) (Nat.le_refl _) hls (fun j hj => ?_) (h4 c ρ S a w QQ ?_ fun env' h' ρ' S' a' w' k s' => hQ env' h' ρ' S' a' w' k s')
      · rw [hall j hj]; simp; omega
      · refine ⟨st.size, st.defers, fun t x hx => ?_, ?_, st.cm⟩
        · rcases stE_look hx with hx | ⟨j, f, h5, h6, h7, rfl⟩
          · exact st.env0 t x hx
          · exact st.done j f t h6 (hall j (by have := (List.getElem?_eq_some_iff.1 h6).1; omega)) h7
        · have := st.hs
          rwa [seg_congr (L := fun j => listed.getD j false) (L' := fun _ => true) all 0 (fun j _ hj => hall j (by omega)), hAT _ (fun j hj => hall j (by omega))] at this
    | succ fuel ih =>
      intro listed U ρ S a w hls hU hUl htail hcl st
      by_cases hfl : ∀ j, j < pres.length → listed.getD j false = true
      · -- all of the first ones have come up
        refine wpAny_tail (k := pres.length) (r := l.toArray.size - pres.length) hok _ _ a w (by omega) (Nat.le_refl _) ?_ hls (fun j hj => ?_) (h4 c ρ S a w QQ ?_ fun env' h' ρ' S' a' w' k s' => hQ env' h' ρ' S' a' w' k s')
        · have hsub : ∀ j, j ∈ List.range' pres.length (l.toArray.size - pres.length) → j ∈ U := fun j hj => by
            rw [List.mem_range'_1] at hj
            exact hU j (by omega) (htail j hj.1)
          have := (List.nodup_range' (s := pres.length) (n := l.toArray.size - pres.length)).length_le_of_subset hsub
          rw [List.length_range'] at this
          omega
        · by_cases hj' : j < pres.length
          · rw [hfl j hj']; simp [hj']
          · rw [htail j (by omega)]; simp; omega
        · refine ⟨st.size, st.defers, fun t x hx => ?_, ?_, st.cm⟩
          · rcases stE_look hx with hx | ⟨j, f, h5, h6, h7, rfl⟩
            · exact st.env0 t x hx
            · exact st.done j f t h6 (hfl j (by have := (List.getElem?_eq_some_iff.1 h6).1; omega)) h7
          · have := st.hs
            rwa [seg_congr (L := fun j => listed.getD j false) (L' := fun _ => true) all 0 (fun j _ hj => hfl j (by omega)), hAT _ hfl] at this
      · obtain ⟨j0, hj0, hjf⟩ : ∃ j, j < pres.length ∧ listed.getD j false = false := by
          apply Classical.byContradiction
          intro hc
          apply hfl
          intro j hj
          cases hb : listed.getD j false with
          | true => rfl
          | false => exact absurd ⟨j, hj, hb⟩ hc
        -- something is ready
        have hex : Region.ready .any l.toArray listed ≠ [] := by
          have least : ∃ j, j < pres.length ∧ listed.getD j false = false ∧ ∀ k, k < j → listed.getD k false = true := by
            have : ∀ b j, j ≤ b → j < pres.length → listed.getD j false = false → ∃ j, j < pres.length ∧ listed.getD j false = false ∧ ∀ k, k < j → listed.getD k false = true := by
              intro b
              induction b with
              | zero => exact fun j hj h5 h6 => ⟨j, h5, h6, fun k hk => by omega⟩
              | succ b ihb =>
                intro j hj h5 h6
                by_cases hk : ∃ k, k < j ∧ listed.getD k false = false
                · obtain ⟨k, hk1, hk2⟩ := hk
                  exact ihb k (by omega) (by omega) hk2
                · refine ⟨j, h5, h6, fun k hk' => ?_⟩
                  cases hb : listed.getD k false with
                  | true => rfl
                  | false => exact absurd ⟨k, hk', hb⟩ hk
            exact this j0 j0 (Nat.le_refl _) hj0 hjf
          obtain ⟨j, h5, h6, h7⟩ := least
          intro he
          have hlt : j < l.toArray.size := by omega
          have : j ∈ Region.ready .any l.toArray listed := mem_ready.2 ⟨by
            have e : listed.getD j true = listed.getD j false := by simp only [Array.getD, hls, hlt, dif_pos]
            rw [e, h6], _, Array.getElem?_eq_getElem hlt, fun e he hb => h7 _ (okDraw_lt hok (Array.getElem?_eq_getElem hlt) e he hb)⟩
          rw [he] at this; cases this
        refine ⟨fun h5 => absurd h5 hex, fun i hi => ?_⟩
        obtain ⟨g1, o, ho, hall⟩ := mem_ready.1 hi
        have hil : i < l.toArray.size := (Array.getElem?_eq_some_iff.1 ho).1
        have g1' : listed.getD i false = false := by
          have e : listed.getD i true = listed.getD i false := by simp only [Array.getD, hls, hil, dif_pos]
          rw [← e]; exact g1
        have him : i < pres.length := by
          rcases Nat.lt_or_ge i pres.length with h5 | h5
          · exact h5
          · obtain ⟨e, he, hb, hon⟩ := okDraw_tail hok ho h5 j0 (by omega)
            have := hall e he hb
            rw [hon, hjf] at this; cases this
        have hfi : all[i]? = some all[i] := List.getElem?_eq_getElem (by omega)
        obtain ⟨pre, hpre⟩ : ∃ pre, pres[i]? = some pre := ⟨_, List.getElem?_eq_getElem him⟩
        -- its predecessors have come up
        have up : ∀ (b k : Nat) (p : List Nat), k ≤ b → pres[k]? = some p → (k = i ∨ listed.getD k false = true) → ∀ j, j ∈ p → listed.getD j false = true := by
          intro b
          induction b with
          | zero =>
            intro k p hk hp _ j hj
            obtain ⟨ok, hok1⟩ : ∃ o, l.toArray[k]? = some o := ⟨_, Array.getElem?_eq_getElem (by have := (List.getElem?_eq_some_iff.1 hp).1; omega)⟩
            have := (okDraw_pre hok hok1 hp j hj).1
            omega
          | succ b ihb =>
            intro k p hk hp hki j hj
            obtain ⟨ok, hok1⟩ : ∃ o, l.toArray[k]? = some o := ⟨_, Array.getElem?_eq_getElem (by have := (List.getElem?_eq_some_iff.1 hp).1; omega)⟩
            obtain ⟨_, e, he, hb, hor⟩ := okDraw_pre hok hok1 hp j hj
            have hle : listed.getD e.on false = true := by
              rcases hki with rfl | hki
              · rw [ho] at hok1; cases hok1; exact hall e he hb
              · exact hcl k ok hok1 hki e he hb
            rcases hor with hor | hor
            · rw [← hor]; exact hle
            · have hon := okDraw_lt hok hok1 e he hb
              cases hpe : pres[e.on]? with
              | none => rw [List.getD_eq_getElem?_getD, hpe] at hor; simp at hor
              | some p' =>
                rw [List.getD_eq_getElem?_getD, hpe] at hor
                exact ihb e.on p' (by omega) hpe (.inr hle) j hor
        have hprel : ∀ j, j ∈ pre → listed.getD j false = true := up i i pre (Nat.le_refl _) hpre (.inl rfl)
        have hH0 : (applyS (fun j => listed.getD j false) ss bs h).length = h.length := applyS_len _ _ _ _
        have hhv : (seeH pres i pre ss bs h).length = h.length := seeS_len _ _ _ _ _
        have hbel : ∀ (k : Nat) b, (seeH pres i pre ss bs h)[k]? = some b → b ≠ .gone → (applyS (fun j => listed.getD j false) ss bs h)[k]? = some b := by
          refine see_below ss bs h h hbl rfl (fun _ _ hb _ => hb) (fun x _ hp => hprel _ (any_beq.1 hp)) (fun x hx _ hbf => ?_)
          cases hlx : listed.getD x.1 false with
          | false => rfl
          | true =>
            rcases Bool.or_eq_true_iff.1 hbf with h5 | h5
            · rw [Nat.eq_of_beq_eq_true h5, g1'] at hlx; cases hlx
            · cases hpx : pres[x.1]? with
              | none => rw [List.getD_eq_getElem?_getD, hpx] at h5; simp at h5
              | some px =>
                rw [List.getD_eq_getElem?_getD, hpx] at h5
                have := up x.1 x.1 px (Nat.le_refl _) hpx (.inr hlx) i (any_beq.1 h5)
                rw [g1'] at this; cases this
        have hbel2 : ∀ (k : Nat) b, (seeH pres i pre ss bs h ++ seg (fun j => pre.any (Nat.beq j)) 0 (all.take i))[k]? = some b → b ≠ .gone → (applyS (fun j => listed.getD j false) ss bs h ++ seg (fun j => listed.getD j false) 0 all)[k]? = some b := fun k b hb hgb => by
          by_cases hk : k < h.length
          · rw [List.getElem?_append_left (by omega)] at hb ⊢; exact hbel k b hb hgb
          · rw [List.getElem?_append_right (by omega)] at hb ⊢
            rw [hhv] at hb
            rw [hH0]
            have h5 := seg_mono (L' := fun j => listed.getD j false) _ _ _ _ (fun j hj => hprel j (any_beq.1 hj)) hb hgb
            have h6 : seg (fun j => listed.getD j false) 0 all = seg (fun j => listed.getD j false) 0 (all.take i) ++ seg (fun j => listed.getD j false) (0 + (all.take i).length) (all.drop i) := by
              rw [← seg_append, List.take_append_drop]
            rw [h6, List.getElem?_append_left (List.getElem?_eq_some_iff.1 h5).1]
            exact h5
        have hpreP : Pre ρ S (stE (dropE ds env) (all.take i) pre) (seeH pres i pre ss bs h ++ seg (fun j => pre.any (Nat.beq j)) 0 (all.take i)) a w := by
          refine ⟨fun t x hx => ?_, st.hs.rng, fun k b hb => ?_, fun k b p hb hgb hp => (st.hs.live k b p (hbel2 k b hb hgb) hgb hp).2, st.hs.stab, st.hs.glob⟩
          · rcases stE_look hx with hx | ⟨j, f, h5, h6, h7, rfl⟩
            · exact st.env0 t x hx
            · rw [List.getElem?_take] at h6
              split at h6
              · exact st.done j f t h6 (hprel j h5) h7
              · cases h6
          · by_cases hgb : b = .gone
            · subst hgb; trivial
            · exact st.hs.blk k b (hbel2 k b hb hgb)
        have hposl : (seeH pres i pre ss bs h ++ seg (fun j => pre.any (Nat.beq j)) 0 (all.take i)).length = (applyS (fun j => listed.getD j false) ss bs h).length + lens (all.take i) := by rw [List.length_append, seg_length, hhv, hH0]
        have hokd : okd all[i].d n = true := by
          cases hdi : all[i].d with
          | none => rfl
          | some d =>
            have : d ∈ ds := by rw [← h2]; exact List.mem_filterMap.2 ⟨all[i], List.getElem_mem _, hdi⟩
            exact List.all_eq_true.1 hds d this
        -- on, behind it
        have hget : ∀ j, (listed.setIfInBounds i true).getD j false = (listed.getD j false || Nat.beq j i) := fun j => by
          by_cases hij : i = j
          · subst hij
            rw [Nat.beq_refl, Bool.or_true]
            simp only [Array.getD, Array.size_setIfInBounds, hls, hil, dif_pos]
            simp
          · rw [getD_set_ne false hij, show Nat.beq j i = false from by rw [← Bool.not_eq_true]; intro hb; have := Nat.eq_of_beq_eq_true hb; omega, Bool.or_false]
        have onS : ∀ ρ' S' a' w', Stand P n c (dropE ds env) (applyS (fun j => (listed.setIfInBounds i true).getD j false) ss bs h) all (fun j => (listed.setIfInBounds i true).getD j false) ρ' S' a' w' → wpAny P .any l.toArray QQ fuel (listed.setIfInBounds i true) a' w' := fun ρ' S' a' w' st' => by
          have hiU : i ∈ U := hU i hil g1'
          refine ih (listed.setIfInBounds i true) (U.erase i) ρ' S' _ w' (by simpa using hls) (fun j hj hjl => ?_) (by rw [List.length_erase_of_mem hiU]; omega) (fun j hj => ?_) (fun k ok hok1 hkl e he hb => ?_) st'
          · rw [hget] at hjl
            obtain ⟨h5, h6⟩ := Bool.or_eq_false_iff.1 hjl
            have hne : j ≠ i := fun e => by rw [e, Nat.beq_refl] at h6; cases h6
            exact (List.mem_erase_of_ne hne).2 (hU j hj h5)
          · rw [hget, htail j hj, show Nat.beq j i = false from by rw [← Bool.not_eq_true]; intro hb; have := Nat.eq_of_beq_eq_true hb; omega]; rfl
          · rw [hget] at hkl ⊢
            rcases Bool.or_eq_true_iff.1 hkl with h5 | h5
            · rw [hcl k ok hok1 h5 e he hb]; rfl
            · have := Nat.eq_of_beq_eq_true h5
              subst this
              rw [ho] at hok1
              cases hok1
              rw [hall e he hb]; rfl
        have yv : ∀ {g t : Nat} {b : Bool}, (l.toArray[g]?).bind (·.dst) = some t → look (stE (dropE ds env) (all.take i) pre) t = some (.b b) → yielded l.toArray a.tmps g = some b := fun {g t b} h5 h6 => by
          have h7 := R_v (hpreP.env t _ h6)
          unfold yielded
          rw [h5]
          have : a.tmps[t]? = some (.bool b) := by
            rw [Array.getD_eq_getD_getElem?] at h7
            cases h8 : a.tmps[t]? with
            | none => rw [h8] at h7; simp [undef] at h7
            | some v => rw [h8] at h7; simp at h7; rw [h7]
          simp [this]
        have yvu : ∀ {g t : Nat}, (l.toArray[g]?).bind (·.dst) = some t → look (stE (dropE ds env) (all.take i) pre) t = some (.v undef) → yielded l.toArray a.tmps g = none := fun {g t} h5 h6 => by
          have h7 := R_v (hpreP.env t _ h6)
          unfold yielded
          rw [h5]
          rw [Array.getD_eq_getD_getElem?] at h7
          cases h8 : a.tmps[t]? with
          | none => simp [h8]
          | some v => rw [h8] at h7; simp at h7; simp [h8, h7, undef]
        unfold wpOp
        rw [ho]
        simp only
        rcases h3 i all[i] pre hfi hpre with ⟨hns, o', ho', hd', hg⟩ | ⟨m, k, b, o', hm1, hm2, hdd, hn1, ho', hgu, hkl, hst⟩
        · rw [ho] at ho'
          cases ho'
          have hsame : applyS (fun j => (listed.setIfInBounds i true).getD j false) ss bs h = applyS (fun j => listed.getD j false) ss bs h := applyS_congr ss bs h fun x hx => by
            rw [hget, show Nat.beq x.1 i = false from by rw [← Bool.not_eq_true]; intro hb; exact hns x hx (Nat.eq_of_beq_eq_true hb), Bool.or_false]
          have on : ∀ y ρ' S' w', Post ρ ρ' S S' w w' ((applyS (fun j => listed.getD j false) ss bs h).length + lens (all.take i)) all[i].new.length all[i].x all[i].new y → wpAny P .any l.toArray QQ fuel (listed.setIfInBounds i true) (a.put all[i].d y) w' := fun y ρ' S' w' p => by
            have := st.step (L' := fun j => (listed.setIfInBounds i true).getD j false) hfi g1' hget p hokd (by rw [h2]; exact hnd) (fun t x hx => (henv t x hx).2) (by rw [hH0]; exact s.hs.mle)
            rw [← hsame] at this
            exact onS _ _ _ _ this
          rcases hg with ⟨x, new, hgu, hfs, hx, hn⟩ | ⟨g, want, t, hgu, h5, h6, hx, hn⟩
          · have hw : Region.wanted o (yielded l.toArray a.tmps) = true := by
              rcases hgu with hgu | ⟨g, want, t, hgu, h5, h6⟩
              · exact wanted_none hgu
              · simp [Region.wanted, hgu, yv h5 h6]
            rw [if_pos hw]
            left
            have := hfs ρ S a w hpreP (seeH pres i pre ss bs h ++ seg (fun j => pre.any (Nat.beq j)) 0 (all.take i)).length (fun j hj => by rw [hposl]; exact st.undone i _ hfi g1' j hj)
            refine this (wpAny P .any l.toArray QQ fuel (listed.setIfInBounds i true)) QQ fun y ρ' S' w' p => ?_
            rw [hx, hn, hposl] at p
            have := on y ρ' S' w' p
            rw [← hd'] at this
            exact this
          · have hw : Region.wanted o (yielded l.toArray a.tmps) = false := by
              rcases h6 with h6 | h6
              · simp [Region.wanted, hgu, yv h5 h6]
              · simp [Region.wanted, hgu, yvu h5 h6]
            rw [if_neg (by rw [hw]; exact Bool.false_ne_true)]
            have := on undef ρ S w ⟨Ext.refl _ _, rfl, fun _ _ => rfl, fun _ h => h, fun _ h => .inl h, fun k p hk1 hk2 => by rw [hn, List.length_nil] at hk2; omega, fun k k' p p' hk1 hk2 => by rw [hn, List.length_nil] at hk2; omega, by rw [hx]; exact R_v_mk _, fun j b hb => by rw [hn] at hb; simp at hb⟩
            rw [← hd'] at this
            exact this
        · rw [ho] at ho'
          cases ho'
          have hw : Region.wanted o (yielded l.toArray a.tmps) = true := by
            rcases hgu with hgu | ⟨g, want, t, hgu, h5, h6⟩
            · exact wanted_none hgu
            · simp [Region.wanted, hgu, yv h5 h6]
          rw [if_pos hw]
          left
          have hap : (applyS (fun j => listed.getD j false) ss bs h).set k b = applyS (fun j => (listed.setIfInBounds i true).getD j false) ss bs h := by
            rw [applyS_one (L := fun j => listed.getD j false) (L' := fun j => (listed.setIfInBounds i true).getD j false) ss bs h m hss hm1 hm2 g1' hget (fun x hx hlx j hj => ?_)]
            cases hpx : pres[x.1]? with
            | none => rw [List.getD_eq_getElem?_getD, hpx] at hj; simp at hj
            | some px =>
              rw [List.getD_eq_getElem?_getD, hpx] at hj
              exact up x.1 x.1 px (Nat.le_refl _) hpx (.inr hlx) j hj
          have hil2 : i < all.length := (List.getElem?_eq_some_iff.1 hfi).1
          have hsplit : all = all.take i ++ all[i] :: all.drop (i + 1) := by
            have := List.take_append_drop i all
            rw [List.drop_eq_getElem_cons hil2] at this
            exact this.symm
          have hti : (all.take i).length = i := by rw [List.length_take]; omega
          have sL : ∀ M : Nat → Bool, seg M 0 all = seg M 0 (all.take i) ++ ((match M i with | true => all[i].new | false => List.replicate all[i].new.length .gone) ++ seg M (i + 1) (all.drop (i + 1))) := fun M => by
            conv => lhs; rw [hsplit]
            rw [seg_append, hti, Nat.zero_add]; rfl
          have e1 : seg (fun j => (listed.setIfInBounds i true).getD j false) 0 (all.take i) = seg (fun j => listed.getD j false) 0 (all.take i) := seg_congr _ _ fun j _ hj => by
            rw [hti] at hj
            show (listed.setIfInBounds i true).getD j false = _
            rw [hget, show Nat.beq j i = false from by rw [← Bool.not_eq_true]; intro hb; have := Nat.eq_of_beq_eq_true hb; omega, Bool.or_false]
          have e2 : seg (fun j => (listed.setIfInBounds i true).getD j false) (i + 1) (all.drop (i + 1)) = seg (fun j => listed.getD j false) (i + 1) (all.drop (i + 1)) := seg_congr _ _ fun j hj _ => by
            show (listed.setIfInBounds i true).getD j false = _
            rw [hget, show Nat.beq j i = false from by rw [← Bool.not_eq_true]; intro hb; have := Nat.eq_of_beq_eq_true hb; omega, Bool.or_false]
          have hLi : (listed.setIfInBounds i true).getD i false = true := by rw [hget, Nat.beq_refl, Bool.or_true]
          have hlen := seg_length (fun j => listed.getD j false) 0 (all.take i)
          have hA : applyS (fun j => listed.getD j false) ss bs h ++ seg (fun j => listed.getD j false) 0 all = (applyS (fun j => listed.getD j false) ss bs h ++ seg (fun j => listed.getD j false) 0 (all.take i)) ++ (List.replicate all[i].new.length .gone ++ seg (fun j => listed.getD j false) (i + 1) (all.drop (i + 1))) := by rw [sL (fun j => listed.getD j false)]; simp only [g1', List.append_assoc]
          have hB : applyS (fun j => (listed.setIfInBounds i true).getD j false) ss bs h ++ seg (fun j => (listed.setIfInBounds i true).getD j false) 0 all = (applyS (fun j => (listed.setIfInBounds i true).getD j false) ss bs h ++ seg (fun j => listed.getD j false) 0 (all.take i)) ++ (all[i].new ++ seg (fun j => listed.getD j false) (i + 1) (all.drop (i + 1))) := by rw [sL (fun j => (listed.setIfInBounds i true).getD j false)]; simp only [hLi, e1, e2, List.append_assoc]
          have hsetk : (applyS (fun j => listed.getD j false) ss bs h ++ seg (fun j => listed.getD j false) 0 all).set k b = (applyS (fun j => (listed.setIfInBounds i true).getD j false) ss bs h ++ seg (fun j => listed.getD j false) 0 (all.take i)) ++ (List.replicate all[i].new.length .gone ++ seg (fun j => listed.getD j false) (i + 1) (all.drop (i + 1))) := by
            rw [hA, List.append_assoc, List.set_append_left _ _ (by rw [hH0]; exact hkl), hap, List.append_assoc]
          have hfill : fillH ((applyS (fun j => listed.getD j false) ss bs h ++ seg (fun j => listed.getD j false) 0 all).set k b) (h.length + lens (all.take i)) all[i].new = applyS (fun j => (listed.setIfInBounds i true).getD j false) ss bs h ++ seg (fun j => (listed.setIfInBounds i true).getD j false) 0 all := by
            rw [hsetk, hB]
            have hpl : (applyS (fun j => (listed.setIfInBounds i true).getD j false) ss bs h ++ seg (fun j => listed.getD j false) 0 (all.take i)).length = h.length + lens (all.take i) := by rw [List.length_append, applyS_len, hlen]
            match hnw : all[i].new, hn1 with
            | [], _ => rfl
            | [q], _ =>
              show List.set _ _ _ = _
              rw [← hpl]
              exact set_mid _ _ _ _
            | _ :: _ :: _, h9 => exact absurd h9 (by simp)
          refine hst c ρ S a w _ st.hs hpreP hbel2 ?_ (wpAny P .any l.toArray QQ fuel (listed.setIfInBounds i true)) QQ fun y ρ' S' w' hh l' hv hρ => ?_
          · by_cases hnw : all[i].new = []
            · exact .inl hnw
            · have hpos : 0 < all[i].new.length := List.length_pos_iff.2 hnw
              refine .inr ⟨by have := st.undone i _ hfi g1' 0 hpos; rwa [Nat.add_zero, hH0] at this, ?_, by have := s.hs.mle; omega⟩
              rw [hA, List.getElem?_append_right (by rw [List.length_append, hlen, hH0]; omega), List.length_append, hlen, hH0, Nat.sub_self, List.getElem?_append_left (by simpa using hpos)]
              simp [List.getElem?_replicate, hpos]
          · rw [hfill] at hh
            have := st.astep (h' := applyS (fun j => (listed.setIfInBounds i true).getD j false) ss bs h) (L' := fun j => (listed.setIfInBounds i true).getD j false) hfi hget hokd (by rw [h2]; exact hnd) (fun t x hx => (henv t x hx).2) hh (by rw [applyS_len, applyS_len]) l' hv (fun j hj => ?_) hn1
            · rw [hdd]
              exact onS _ _ _ _ this
            · exact hρ j (by rw [hH0] at hj; exact hj)
  have hsize : l.toArray.size = l.length := by simp
  have hrep : ∀ j, (Array.replicate l.toArray.size false).getD j false = false := fun j => by
    simp only [Array.getD]
    split <;> simp
  refine key l.toArray.size _ (List.range l.toArray.size) ρ S a _ (by simp) (fun j hj _ => by simpa using hj) (by simp) (fun j _ => hrep j) (fun i o _ hi => by rw [hrep] at hi; cases hi) ?_
  have hseg : ∀ (r : List Eff) (i : Nat), seg (fun _ => false) i r = List.replicate (lens r) .gone := by
    intro r
    induction r with
    | nil => intro i; rfl
    | cons f r ih => intro i; simp only [seg, ih, lens, List.replicate_append_replicate]
  have hL : (fun j => (Array.replicate l.toArray.size false).getD j false) = fun _ => false := funext hrep
  rw [hL, show applyS (fun _ => false) ss bs h = h from ?_]
  rotate_left
  · have : ∀ (ss : List (Nat × Nat)) (bs : List AB) (h : Hp), applyS (fun _ => false) ss bs h = h := by
      intro ss
      induction ss with
      | nil => intros; rfl
      | cons x r ihr =>
        intro bs h
        cases bs with
        | nil => rfl
        | cons b bs => simp only [applyS]; exact ihr bs h
    exact this ss bs h
  have l0 : Later ρ ρ S S w { w with drawn := w.drawn + 1 } := ⟨fun _ _ h => h, fun _ h => h, fun _ _ => rfl, fun _ _ _ _ _ h => h⟩
  refine ⟨s.size, s.defers.later l0, s.cm, fun t x hx => (s.env t x (look_dropE hx).1).later l0, fun i f t _ hi => (by cases hi), ?_, fun i f _ _ j _ => s.hs.dom _ (by omega)⟩
  rw [hseg]
  have ext : Ext c.M c.w0 { w with drawn := w.drawn + 1 } := s.hs.ext.drew
  have at_ : ∀ {k : Nat} {b : AB}, (h ++ List.replicate (lens all) .gone)[k]? = some b → b ≠ .gone → h[k]? = some b := fun {k b} hb hg => by
    by_cases hk : k < h.length
    · rwa [List.getElem?_append_left hk] at hb
    · rw [List.getElem?_append_right (by omega), List.getElem?_replicate] at hb
      split at hb
      · cases hb; exact absurd rfl hg
      · cases hb
  refine ⟨fun k hk => s.hs.dom k (by simp at hk; omega), s.hs.rng, fun k b hb => ?_, fun k b p hb hg hp => s.hs.live k b p (at_ hb hg) hg hp, fun k k' b b' p p' hb hb' hg hg' hp hp' e => s.hs.inj k k' b b' p p' (at_ hb hg) (at_ hb' hg') hg hg' hp hp' e, s.hs.stab, ext, s.hs.st0, s.hs.st1, by simp; exact Nat.le_trans s.hs.mle (Nat.le_add_right _ _), s.hs.keep, s.hs.glob.later l0⟩
  by_cases hg : b = .gone
  · subst hg; trivial
  · exact RB.later l0 (fun _ _ _ => rfl) (s.hs.blk k b (at_ hb hg))
def DWA (P : Program) (n : Nat × Nat) (ops : List Oper) (pres : List (List Nat)) (ds : List Nat) (bads : List (List Nat)) (ss : List (Nat × Nat)) (env : Env) (h : Hp) (i : Nat) (cur : Env) (objs : List (Nat × Hp)) (don : List AB) (K : Env → Hp → Prop) : Prop :=
  chkDrawS ops pres ds bads ss n.1 = true → (∀ t, t ∈ ds → look env t = none) → ∀ effs, GoodS ops ss env i cur objs don effs → DVA P n ops.toArray pres ss ds env h effs don K
section
variable {P : Program} {n : Nat × Nat} {ops : List Oper} {pres : List (List Nat)} {ds : List Nat} {bads : List (List Nat)} {ss : List (Nat × Nat)} {env : Env} {h : Hp} {K : Env → Hp → Prop} {pre bad : List Nat}
theorem aw_draw4 {Q : Exit → Env → Hp → Prop} {id : Nat} {l : List Oper} (pres : List (List Nat)) (ds : List Nat) (bads : List (List Nat)) (ss : List (Nat × Nat)) (hm : P.follows .mixedOrders = true) (hok : chkDrawS l pres ds bads ss n.1 = true)
    (hv : DWA P n l pres ds bads ss (dropE ds env) h 0 (dropE ds env) [] [] (fun v h => Q .normal v h)) (hndf : noDef l = true := by rfl) : AW P n (.region id l.toArray true) env h Q := by
  have hok' := hok
  simp only [chkDrawS, chkDraw, Bool.and_eq_true, decide_eq_true_eq] at hok'
  obtain ⟨⟨⟨⟨⟨⟨⟨h1, h2⟩, h3⟩, h4⟩, h5⟩, h6⟩, h7⟩, h8⟩ := hok'
  refine aw_drawA pres ds ss hm h1 h7 h8 h2 h3 h4 (hv hok (fun t ht => ?_) [] ⟨⟨rfl, rfl, rfl, fun j f hf => by simp at hf⟩, fun x _ => Nat.zero_le _⟩) hndf
  cases hl : look (dropE ds env) t with
  | none => rfl
  | some x => exact absurd ht (look_dropE hl).2
variable {op : Op} {ty : TypeId} {pos : String} {af : Array Edge} {d : Option Nat} {i : Nat} {cur : Env} {objs : List (Nat × Hp)} {don : List AB}
theorem dva_step {effs : List Eff} {f : Eff} (hok : chkDrawS ops pres ds bads ss n.1 = true) (g : GoodS ops ss env i cur objs don effs) (hp : pres[i]? = some pre) (hi : i < ops.length) (hns : (ss.all fun x => !Nat.beq x.1 i) = true)
    (hg : GStep P ops.toArray i (stE env effs pre) (seeH pres i pre ss don h ++ hvis pre objs) f) (hk : DVA P n ops.toArray pres ss ds env h (effs ++ [f]) don K) : DVA P n ops.toArray pres ss ds env h effs don K := by
  obtain ⟨more, mb, h1, h0, h2, h3, h4⟩ := hk
  have e : effs ++ [f] ++ more = effs ++ (f :: more) := by simp
  rw [e] at h1 h2 h3 h4
  have hie : effs.length = i := g.g.len
  refine ⟨f :: more, mb, h1, h0, h2, fun j q p hj hgj hpj => ?_, h4⟩
  by_cases hji : j = i
  · subst hji
    rw [hp] at hpj
    cases hpj
    rw [List.getElem?_append_right (by omega), hie, Nat.sub_self] at hgj
    simp at hgj
    subst hgj
    left
    refine ⟨fun x hx hxe => ?_, ?_⟩
    · have := List.all_eq_true.1 hns x hx
      rw [hxe, Nat.beq_refl] at this; cases this
    · rw [List.take_append, List.take_of_length_le (by omega), hie, Nat.sub_self, g.seeH hok hi hp mb]
      simp only [List.take_zero, List.append_nil]
      rw [hvis_seg, ← g.g.objs]
      exact hg
  · exact h3 j q p (by simp; omega) hgj hpj
theorem dwa_v {dd : Nat} {u : AV} (ho : ops[i]? = some ⟨some dd, op, ty, pos, af, none⟩) (hp : pres[i]? = some pre) (hb : bads[i]? = some bad) (hns : (ss.all fun x => !Nat.beq x.1 i) = true) (hs : FStep P ⟨some dd, op, ty, pos, af, none⟩ (dropE bad cur) (seeH pres i pre ss don h ++ hvis pre objs) 0 (fun _ => u) (fun _ => []))
    (hk : DWA P n ops pres ds bads ss env h (i + 1) ((dd, u) :: cur) objs don K) : DWA P n ops pres ds bads ss env h i cur objs don K := by
  intro hok hen effs g
  refine dva_step (f := ⟨some dd, u, []⟩) hok g hp (List.getElem?_eq_some_iff.1 ho).1 hns ⟨_, by simpa using ho, rfl, .inl ⟨fun _ => u, fun _ => [], .inl rfl, hs.more (g.g.see (chkS hok) hp hb), rfl, rfl⟩⟩ (hk hok hen _ (g.next (g.g.snoc (f := ⟨some dd, u, []⟩) ho rfl rfl) hns))
theorem dwa_n {dd : Nat} {u : Nat → AV} {b : Nat → List AB} {m : Nat} (ho : ops[i]? = some ⟨some dd, op, ty, pos, af, none⟩) (hp : pres[i]? = some pre) (hb : bads[i]? = some bad) (hns : (ss.all fun x => !Nat.beq x.1 i) = true) (hs : FStep P ⟨some dd, op, ty, pos, af, none⟩ (dropE bad cur) (seeH pres i pre ss don h ++ hvis pre objs) (m + 1) u b) (hm : (b (seeH pres i pre ss don h ++ hvis pre objs).length).length = m + 1)
    (hk : DWA P n ops pres ds bads ss env h (i + 1) ((dd, u (seeH pres i pre ss don h ++ hvis pre objs).length) :: cur) (objs ++ [(i, b (seeH pres i pre ss don h ++ hvis pre objs).length)]) don K) : DWA P n ops pres ds bads ss env h i cur objs don K := by
  intro hok hen effs g
  refine dva_step (f := ⟨some dd, u (seeH pres i pre ss don h ++ hvis pre objs).length, b (seeH pres i pre ss don h ++ hvis pre objs).length⟩) hok g hp (List.getElem?_eq_some_iff.1 ho).1 hns ⟨_, by simpa using ho, rfl, .inl ⟨u, b, .inl rfl, by simp only [hm]; exact hs.more (g.g.see (chkS hok) hp hb), rfl, rfl⟩⟩ ?_
  refine hk hok hen _ (g.next (g.g.snoc' (f := ⟨some dd, u (seeH pres i pre ss don h ++ hvis pre objs).length, b (seeH pres i pre ss don h ++ hvis pre objs).length⟩) ho rfl ?_) hns)
  intro e2
  rw [show b (seeH pres i pre ss don h ++ hvis pre objs).length = [] from e2] at hm
  cases hm
theorem dwa_st {k : Nat} {nb : AB} {t : TypeId} {x y : Operand} {j : TI} {u v : AV} {xs : List AV} (ho : ops[i]? = some ⟨none, .store t x y, ty, pos, af, none⟩) (hp : pres[i]? = some pre) (hb : bads[i]? = some bad) (hm : ss[don.length]? = some (i, k)) (hkl : k < h.length)
    (T : Tab P) (hx : evu (dropE bad cur) x = some u) (hy : evu (dropE bad cur) y = some v) (ht : T.ti t = some j) (hv : v.cellsOf = some xs) (hl : xs.length = j.size) (h1 : xs.all AV.one = true) (h0 : 0 < j.size) (hu : updB (seeH pres i pre ss don h ++ hvis pre objs) u xs = some (k, nb))
    (hk : DWA P n ops pres ds bads ss env h (i + 1) cur objs (don ++ [nb]) K) : DWA P n ops pres ds bads ss env h i cur objs don K := by
  intro hok hen effs g
  have hs := ss_store (P := P) (pos := pos) (ty := ty) (af := af) T hx hy ht hv hl h1 h0 hu
  have hi := (List.getElem?_eq_some_iff.1 ho).1
  have hgs : Good ops env (i + 1) cur objs (effs ++ [⟨none, .v undef, []⟩]) := g.g.snoc (f := ⟨none, .v undef, []⟩) ho rfl rfl
  have hkk := hk hok hen (effs ++ [⟨none, .v undef, []⟩]) ⟨hgs, fun x hx => ?_⟩
  · obtain ⟨more, mb, g1, g0, g2, g3, g4⟩ := hkk
    have e : effs ++ [⟨none, .v undef, []⟩] ++ more = effs ++ ((⟨none, .v undef, []⟩ : Eff) :: more) := by simp
    have e' : don ++ [nb] ++ mb = don ++ (nb :: mb) := by simp
    rw [e] at g1 g2
    rw [e'] at g0
    simp only [e, e'] at g3 g4
    have hie : effs.length = i := g.g.len
    refine ⟨_, _, g1, g0, g2, fun j' q p hj hgj hpj => ?_, g4⟩
    by_cases hji : j' = i
    · subst hji
      rw [hp] at hpj
      cases hpj
      rw [List.getElem?_append_right (by omega), hie, Nat.sub_self] at hgj
      simp at hgj
      subst hgj
      right
      refine ⟨don.length, k, nb, _, hm, ?_, rfl, Nat.zero_le _, by simpa using ho, .inl rfl, hkl, ?_⟩
      · rw [List.getElem?_append_right (Nat.le_refl _), Nat.sub_self]; rfl
      · rw [List.take_append, List.take_of_length_le (by omega), hie, Nat.sub_self, g.seeH hok hi hp _]
        simp only [List.take_zero, List.append_nil]
        rw [hvis_seg, ← g.g.objs]
        exact (SStep.more hs (g.g.see (chkS hok) hp hb)).a
    · exact g3 j' q p (by simp; omega) hgj hpj
  · have hok' := hok
    simp only [chkDrawS, Bool.and_eq_true] at hok'
    have hls : don.length < ss.length := (List.getElem?_eq_some_iff.1 hm).1
    have e1 : ss.drop don.length = (i, k) :: ss.drop (don.length + 1) := by
      rw [List.drop_eq_getElem_cons hls]
      have := List.getElem?_eq_getElem hls
      rw [hm] at this
      rw [Option.some.inj this]
    have hx' : x ∈ ss.drop (don.length + 1) := by simpa using hx
    have h5 := g.later x (by rw [e1]; exact List.mem_cons_of_mem _ hx')
    have key : ∀ (ss : List (Nat × Nat)) (m : Nat), okS pres ss = true → ss[m]? = some (i, k) → ∀ x, x ∈ ss.drop (m + 1) → x.1 ≠ i := by
      intro ss
      induction ss with
      | nil => intro m _ h; simp at h
      | cons y r ih =>
        intro m hok h x hx
        obtain ⟨s, k'⟩ := y
        simp only [okS, Bool.and_eq_true, List.all_eq_true] at hok
        cases m with
        | zero =>
          simp only [List.getElem?_cons_zero, Option.some.injEq, Prod.mk.injEq] at h
          intro e
          have := (hok.1 x (by simpa using hx)).1
          rw [e, h.1, Nat.beq_refl] at this; cases this
        | succ m => exact ih m hok.2 (by simpa using h) x (by simpa using hx)
    have := key ss don.length hok'.1.2 hm x hx'
    omega
theorem dwa_a0 {k dd : Nat} {nb : AB} {u : AV} (ho : ops[i]? = some ⟨some dd, op, ty, pos, af, none⟩) (hp : pres[i]? = some pre) (hb : bads[i]? = some bad) (hm : ss[don.length]? = some (i, k)) (hkl : k < h.length)
    (hs : AStep P ⟨some dd, op, ty, pos, af, none⟩ (dropE bad cur) (seeH pres i pre ss don h ++ hvis pre objs) (seeH pres i pre ss don h ++ hvis pre objs).length k nb u [])
    (hk : DWA P n ops pres ds bads ss env h (i + 1) ((dd, u) :: cur) objs (don ++ [nb]) K) : DWA P n ops pres ds bads ss env h i cur objs don K := by
  intro hok hen effs g
  have hi := (List.getElem?_eq_some_iff.1 ho).1
  have hgs : Good ops env (i + 1) ((dd, u) :: cur) objs (effs ++ [⟨some dd, u, []⟩]) := g.g.snoc (f := ⟨some dd, u, []⟩) ho rfl rfl
  have hkk := hk hok hen (effs ++ [⟨some dd, u, []⟩]) ⟨hgs, fun x hx => ?_⟩
  · obtain ⟨more, mb, g1, g0, g2, g3, g4⟩ := hkk
    have e : effs ++ [⟨some dd, u, []⟩] ++ more = effs ++ ((⟨some dd, u, []⟩ : Eff) :: more) := by simp
    have e' : don ++ [nb] ++ mb = don ++ (nb :: mb) := by simp
    rw [e] at g1 g2
    rw [e'] at g0
    simp only [e, e'] at g3 g4
    have hie : effs.length = i := g.g.len
    refine ⟨_, _, g1, g0, g2, fun j' q p hj hgj hpj => ?_, g4⟩
    by_cases hji : j' = i
    · subst hji
      rw [hp] at hpj
      cases hpj
      rw [List.getElem?_append_right (by omega), hie, Nat.sub_self] at hgj
      simp at hgj
      subst hgj
      right
      refine ⟨don.length, k, nb, _, hm, ?_, rfl, Nat.zero_le _, by simpa using ho, .inl rfl, hkl, ?_⟩
      · rw [List.getElem?_append_right (Nat.le_refl _), Nat.sub_self]; rfl
      · rw [List.take_append, List.take_of_length_le (by omega), hie, Nat.sub_self, g.seeH hok hi hp _]
        simp only [List.take_zero, List.append_nil]
        rw [hvis_seg, ← g.g.objs]
        have hpl : (seeH pres j' pre ss don h ++ hvis pre objs).length = h.length + lens effs := by rw [g.g.objs, ← hvis_seg, List.length_append, seg_length]; congr 1; exact seeS_len _ _ _ _ _
        rw [hpl] at hs
        exact AStep.more hs (g.g.see (chkS hok) hp hb)
    · exact g3 j' q p (by simp; omega) hgj hpj
  · have hok' := hok
    simp only [chkDrawS, Bool.and_eq_true] at hok'
    have hls : don.length < ss.length := (List.getElem?_eq_some_iff.1 hm).1
    have e1 : ss.drop don.length = (i, k) :: ss.drop (don.length + 1) := by
      rw [List.drop_eq_getElem_cons hls]
      have := List.getElem?_eq_getElem hls
      rw [hm] at this
      rw [Option.some.inj this]
    have hx' : x ∈ ss.drop (don.length + 1) := by simpa using hx
    have h5 := g.later x (by rw [e1]; exact List.mem_cons_of_mem _ hx')
    have key : ∀ (ss : List (Nat × Nat)) (m : Nat), okS pres ss = true → ss[m]? = some (i, k) → ∀ x, x ∈ ss.drop (m + 1) → x.1 ≠ i := by
      intro ss
      induction ss with
      | nil => intro m _ h; simp at h
      | cons y r ih =>
        intro m hok h x hx
        obtain ⟨s, k'⟩ := y
        simp only [okS, Bool.and_eq_true, List.all_eq_true] at hok
        cases m with
        | zero =>
          simp only [List.getElem?_cons_zero, Option.some.injEq, Prod.mk.injEq] at h
          intro e
          have := (hok.1 x (by simpa using hx)).1
          rw [e, h.1, Nat.beq_refl] at this; cases this
        | succ m => exact ih m hok.2 (by simpa using h) x (by simpa using hx)
    have := key ss don.length hok'.1.2 hm x hx'
    omega
theorem dwa_a1 {k dd : Nat} {nb : AB} {u : AV} {b1 : AB} (ho : ops[i]? = some ⟨some dd, op, ty, pos, af, none⟩) (hp : pres[i]? = some pre) (hb : bads[i]? = some bad) (hm : ss[don.length]? = some (i, k)) (hkl : k < h.length)
    (hs : AStep P ⟨some dd, op, ty, pos, af, none⟩ (dropE bad cur) (seeH pres i pre ss don h ++ hvis pre objs) (seeH pres i pre ss don h ++ hvis pre objs).length k nb u [b1])
    (hk : DWA P n ops pres ds bads ss env h (i + 1) ((dd, u) :: cur) (objs ++ [(i, [b1])]) (don ++ [nb]) K) : DWA P n ops pres ds bads ss env h i cur objs don K := by
  intro hok hen effs g
  have hi := (List.getElem?_eq_some_iff.1 ho).1
  have hgs : Good ops env (i + 1) ((dd, u) :: cur) (objs ++ [(i, [b1])]) (effs ++ [⟨some dd, u, [b1]⟩]) := g.g.snoc' (f := ⟨some dd, u, [b1]⟩) ho rfl (by simp)
  have hkk := hk hok hen (effs ++ [⟨some dd, u, [b1]⟩]) ⟨hgs, fun x hx => ?_⟩
  · obtain ⟨more, mb, g1, g0, g2, g3, g4⟩ := hkk
    have e : effs ++ [⟨some dd, u, [b1]⟩] ++ more = effs ++ ((⟨some dd, u, [b1]⟩ : Eff) :: more) := by simp
    have e' : don ++ [nb] ++ mb = don ++ (nb :: mb) := by simp
    rw [e] at g1 g2
    rw [e'] at g0
    simp only [e, e'] at g3 g4
    have hie : effs.length = i := g.g.len
    refine ⟨_, _, g1, g0, g2, fun j' q p hj hgj hpj => ?_, g4⟩
    by_cases hji : j' = i
    · subst hji
      rw [hp] at hpj
      cases hpj
      rw [List.getElem?_append_right (by omega), hie, Nat.sub_self] at hgj
      simp at hgj
      subst hgj
      right
      refine ⟨don.length, k, nb, _, hm, ?_, rfl, Nat.le_refl _, by simpa using ho, .inl rfl, hkl, ?_⟩
      · rw [List.getElem?_append_right (Nat.le_refl _), Nat.sub_self]; rfl
      · rw [List.take_append, List.take_of_length_le (by omega), hie, Nat.sub_self, g.seeH hok hi hp _]
        simp only [List.take_zero, List.append_nil]
        rw [hvis_seg, ← g.g.objs]
        have hpl : (seeH pres j' pre ss don h ++ hvis pre objs).length = h.length + lens effs := by rw [g.g.objs, ← hvis_seg, List.length_append, seg_length]; congr 1; exact seeS_len _ _ _ _ _
        rw [hpl] at hs
        exact AStep.more hs (g.g.see (chkS hok) hp hb)
    · exact g3 j' q p (by simp; omega) hgj hpj
  · have hok' := hok
    simp only [chkDrawS, Bool.and_eq_true] at hok'
    have hls : don.length < ss.length := (List.getElem?_eq_some_iff.1 hm).1
    have e1 : ss.drop don.length = (i, k) :: ss.drop (don.length + 1) := by
      rw [List.drop_eq_getElem_cons hls]
      have := List.getElem?_eq_getElem hls
      rw [hm] at this
      rw [Option.some.inj this]
    have hx' : x ∈ ss.drop (don.length + 1) := by simpa using hx
    have h5 := g.later x (by rw [e1]; exact List.mem_cons_of_mem _ hx')
    have key : ∀ (ss : List (Nat × Nat)) (m : Nat), okS pres ss = true → ss[m]? = some (i, k) → ∀ x, x ∈ ss.drop (m + 1) → x.1 ≠ i := by
      intro ss
      induction ss with
      | nil => intro m _ h; simp at h
      | cons y r ih =>
        intro m hok h x hx
        obtain ⟨s, k'⟩ := y
        simp only [okS, Bool.and_eq_true, List.all_eq_true] at hok
        cases m with
        | zero =>
          simp only [List.getElem?_cons_zero, Option.some.injEq, Prod.mk.injEq] at h
          intro e
          have := (hok.1 x (by simpa using hx)).1
          rw [e, h.1, Nat.beq_refl] at this; cases this
        | succ m => exact ih m hok.2 (by simpa using h) x (by simpa using hx)
    have := key ss don.length hok'.1.2 hm x hx'
    omega
theorem dwa_fin (hi : pres.length = i) (hdl : don.length = ss.length) {rest : List Oper} {h' : Hp} (hr : ops.drop i = rest) (hh : applyS (fun _ => true) ss don h ++ allObjs objs = h')
    (hk : VC P n ops.toArray rest cur h' K) : DWA P n ops pres ds bads ss env h i cur objs don K := by
  intro hok hen effs gs
  have g := gs.g
  have hok' := chkS hok
  simp only [chkDraw, Bool.and_eq_true, decide_eq_true_eq] at hok'
  obtain ⟨⟨⟨⟨⟨h1, h2⟩, h3⟩, h4⟩, h5⟩, h6⟩ := hok'
  have hds : dstsOf effs = ds := by
    rw [← h5]
    have hle : i ≤ ops.length := by rw [← hi]; exact Nat.le_of_ble_eq_true h4
    unfold dstsOf
    have : effs.map (·.d) = (ops.take pres.length).map (·.dst) := by
      apply List.ext_getElem?
      intro j
      simp only [List.getElem?_map, List.getElem?_take, hi]
      by_cases hj : j < i
      · rw [if_pos hj]
        have hje : j < effs.length := by rw [g.len]; exact hj
        obtain ⟨o, ho, hod⟩ := g.dst j effs[j] (List.getElem?_eq_getElem hje)
        rw [List.getElem?_eq_getElem hje, ho]
        simp [hod]
      · rw [if_neg hj, List.getElem?_eq_none (by rw [g.len]; omega)]; rfl
    have e1 : effs.filterMap (·.d) = (effs.map (·.d)).filterMap id := by rw [List.filterMap_map]; rfl
    have e2 : (ops.take pres.length).filterMap (·.dst) = ((ops.take pres.length).map (·.dst)).filterMap id := by rw [List.filterMap_map]; rfl
    rw [e1, e2, this]
  refine ⟨[], [], by rw [List.append_nil, g.len, hi], by rw [List.append_nil]; exact hdl, by rw [List.append_nil]; exact hds, fun j f pre hj hf _ => ?_, ?_⟩
  · have := (List.getElem?_eq_some_iff.1 hf).1
    simp at this
    omega
  rw [List.append_nil, List.append_nil]
  have el : effs.length = pres.length := by rw [g.len, hi]
  rw [← el, List.range_eq_range', stE_range 0 effs.length (by omega), List.drop_zero, ← envOf_eq, seg_true, ← hpOf_eq, el, hi]
  rw [objsOf_hp effs 0, ← g.objs, ← allObjs_eq, hh]
  rw [show ops.toArray.toList.drop i = rest from by simpa using hr]
  refine hk.moreE fun t x hx => ?_
  rw [g.cur] at hx
  exact growE_env (by have : dstsOf effs = effs.filterMap (·.d) := rfl; rw [← this, hds]; exact h2) hx
end
end Go.Ab
namespace Go.Ab
open Go
theorem HS.moved {c : Ctx} {ρ : Pl} {S : Nat → Prop} {H : Hp} {w w' : World} {k pp : Nat} {q : Option (Nat × Nat)} {nb : AB} (g : HS c ρ S H w) (hpk : pp ≠ k) (hH : H[pp]? = some .gone) (hρ : ρ pp = Option.none) (hm : c.m ≤ pp) (hext : Ext c.M w w')
    (hoth : ∀ j b, H[j]? = some b → j ≠ k → b ≠ .gone → ∀ b1 o1, ρ j = some (b1, o1) → w'.heap[b1]? = w.heap[b1]?) (hst : ∀ b1, S b1 → w'.heap[b1]? = w.heap[b1]?)
    (hq : ∀ b1 o1, q = some (b1, o1) → c.M b1 ∧ ¬ S b1 ∧ b1 < w'.heap.size ∧ ∀ j b, H[j]? = some b → j ≠ k → b ≠ .gone → ∀ b2 o2, ρ j = some (b2, o2) → b2 ≠ b1)
    (hv : Later ρ (fun j => if j = pp then q else ρ j) S S w w' → RB S w' (fun j => if j = pp then q else ρ j) q nb) :
    HS c (fun j => if j = pp then q else ρ j) S ((H.set k .gone).set pp nb) w' ∧ Later ρ (fun j => if j = pp then q else ρ j) S S w w' := by
  have hplt : pp < H.length := (List.getElem?_eq_some_iff.1 hH).1
  have l : Later ρ (fun j => if j = pp then q else ρ j) S S w w' := ⟨fun j u hu => by
    show (if j = pp then q else ρ j) = _
    rw [if_neg (fun e => by rw [e, hρ] at hu; cases hu)]; exact hu, fun _ h => h, hst, fun _ _ _ _ _ hr => hext.room hr⟩
  have v2 := hv l
  have hget : ∀ {j : Nat} {b : AB}, ((H.set k .gone).set pp nb)[j]? = some b → b ≠ .gone → (j ≠ pp ∧ j ≠ k ∧ H[j]? = some b) ∨ (j = pp ∧ b = nb) := fun {j b} hj hg => by
    by_cases hjp : j = pp
    · subst hjp
      rw [List.getElem?_set_self (by simpa using hplt)] at hj
      cases hj; exact .inr ⟨rfl, rfl⟩
    · rw [List.getElem?_set_ne (Ne.symm hjp)] at hj
      by_cases hjk : j = k
      · subst hjk
        rw [List.getElem?_set] at hj
        simp only [if_true] at hj
        split at hj
        · cases hj; exact absurd rfl hg
        · cases hj
      · rw [List.getElem?_set_ne (Ne.symm hjk)] at hj; exact .inl ⟨hjp, hjk, hj⟩
  refine ⟨⟨fun j hj => ?_, fun j u hu => ?_, fun j b hj => ?_, fun j b u hj hg hu => ?_, fun j j' b b' u u' hj hj' hg hg' hu hu' e => ?_, fun b1 hb1 => Nat.lt_of_lt_of_le (g.stab b1 hb1) hext.size, g.ext.trans hext (fun _ h _ => h), g.st0, g.st1, by simpa using g.mle, fun j hj => by
      show (if j = pp then q else ρ j) = _
      rw [if_neg (by omega)]; exact g.keep j hj, g.glob.later l⟩, l⟩
  · simp at hj
    show (if j = pp then q else ρ j) = _
    rw [if_neg (by omega)]; exact g.dom j (by omega)
  · by_cases hj : j = pp
    · simp only [hj, if_true] at hu
      exact (hq u.1 u.2 hu).2.2.1
    · simp only [hj, if_false] at hu
      exact Nat.lt_of_lt_of_le (g.rng j u hu) hext.size
  · by_cases hbg : b = .gone
    · subst hbg; trivial
    · rcases hget hj hbg with ⟨h2, h3, h4⟩ | ⟨h2, h3⟩
      · show RB S w' _ (if j = pp then q else ρ j) _
        rw [if_neg h2]
        exact RB.later l (fun b1 o1 hp1 => hoth j _ h4 h3 hbg b1 o1 hp1) (g.blk j _ h4)
      · subst h2
        show RB S w' _ (if j = j then q else ρ j) _
        rw [if_pos rfl, h3]; exact v2
  · rcases hget hj hg with ⟨h2, h3, h4⟩ | ⟨h2, h3⟩
    · rw [if_neg h2] at hu
      exact g.live j b u h4 hg hu
    · rw [if_pos h2] at hu
      exact ⟨(hq u.1 u.2 hu).1, (hq u.1 u.2 hu).2.1⟩
  · rcases hget hj hg with ⟨h2, h3, h4⟩ | ⟨h2, h3⟩ <;> rcases hget hj' hg' with ⟨h2', h3', h4'⟩ | ⟨h2', h3'⟩
    · rw [if_neg h2] at hu
      rw [if_neg h2'] at hu'
      exact g.inj j j' b b' u u' h4 h4' hg hg' hu hu' e
    · rw [if_neg h2] at hu
      rw [if_pos h2'] at hu'
      exact absurd e ((hq u'.1 u'.2 hu').2.2.2 j b h4 h3 hg u.1 u.2 hu)
    · rw [if_neg h2'] at hu'
      rw [if_pos h2] at hu
      exact absurd e.symm ((hq u.1 u.2 hu).2.2.2 j' b' h4' h3' hg' u'.1 u'.2 hu')
    · omega
section
variable {P : Program} {env : Env} {h : Hp}
variable {ty : TypeId} {pos : String} {af : Array Edge}
theorem as_append (T : Tab P) {t e k off len sz pp dd : Nat} {i : TI} {x y : Operand} {v : AV} {es news : List (List AV)} (hx : evu env x = some (.sl k off len sz)) (hy : evu env y = some v) (ht : T.elem t = some e) (he : T.ti e = some i) (hs : i.size = sz)
    (hkk : h[k]? = some (.arr es sz)) (hle : off + len ≤ es.length) (hn : Elems h v news sz) (h1 : news.flatten.all AV.one = true) (hb : (len + news.length) * i.bytes ≤ 140737488355328) (h63 : len + news.length ≤ 9223372036854775807) :
    AStep P ⟨some dd, .call { callee := .builtin .append, args := #[x, y], argTypes := #[t, t] }, ty, pos, af, none⟩ env h pp k .gone (.sl pp 0 (len + news.length) sz) [.arr ((es.drop off).take len ++ news) sz] := by
  intro c ρ S a w H g p hbel hpp K' Q hK'
  have hKK := hbel k _ hkk (by simp)
  obtain ⟨hr0, hH0, hm0⟩ : ρ pp = none ∧ H[pp]? = some .gone ∧ c.m ≤ pp := by
    rcases hpp with h0 | h0
    · cases h0
    · exact h0
  have hpk : pp ≠ k := fun e => by rw [e, hKK] at hH0; cases hH0
  have hxv := p.evu hx
  obtain ⟨a2, c2, zs, y1, y2, y3, y4, y5, y6, y7⟩ := elems_val p.blk (p.evu hy) hn
  obtain ⟨inf, z, t1, t2, t3, t4, t5, t6, t7⟩ := T.tiOk e i he
  have hone := one_all y6 h1
  have hxe : Elems h (.sl k off len sz) ((es.drop off).take len) sz := .sl hkk hle
  obtain ⟨a1, c1, ys, x1, x2, x3, x4, x5, x6, x7⟩ := elems_val p.blk hxv hxe
  have hlen : ((es.drop off).take len).length = len := by rw [List.length_take, List.length_drop]; omega
  rw [hlen] at x1 x2 x5 x7
  have hB := p.blk k _ hkk
  simp only [RB] at hB
  obtain ⟨hes, hs0, hB⟩ := hB
  have hnl : ∀ q, q ∈ news → q.length = sz := by
    cases hn with
    | sl hk2 _ =>
      have := p.blk _ _ hk2
      simp only [RB] at this
      exact fun q hq => this.1 q (List.mem_of_mem_drop (List.mem_of_mem_take hq))
    | row h => exact h
    | nil => exact fun q hq => by cases hq
  have hall : ∀ q, q ∈ (es.drop off).take len ++ news → q.length = sz := fun q hq => by
    rcases List.mem_append.1 hq with hq | hq
    · exact hes q (List.mem_of_mem_drop (List.mem_of_mem_take hq))
    · exact hnl q hq
  have ev1 : ∀ r w', (Builtin.append_ #[t, t] ty #[a.eval x, a.eval y]).run P w = .ok r w' → (execOp a.eval ⟨some dd, .call { callee := .builtin .append, args := #[x, y], argTypes := #[t, t] }, ty, pos, af, none⟩).run P w = .ok (.value r) w' := fun r w' hr => by
    simp [execOp, resolve, invoke, builtin, hr]
  have fin : ∀ {r : Value} {w' : World} {q : Option (Nat × Nat)}, (Builtin.append_ #[t, t] ty #[a.eval x, a.eval y]).run P w = .ok r w' → Ext c.M w w' → (∀ j b, H[j]? = some b → j ≠ k → b ≠ .gone → ∀ b1 o1, ρ j = some (b1, o1) → w'.heap[b1]? = w.heap[b1]?) → (∀ b1, S b1 → w'.heap[b1]? = w.heap[b1]?) →
      (∀ b1 o1, q = some (b1, o1) → c.M b1 ∧ ¬ S b1 ∧ b1 < w'.heap.size ∧ ∀ j b, H[j]? = some b → j ≠ k → b ≠ .gone → ∀ b2 o2, ρ j = some (b2, o2) → b2 ≠ b1) →
      (Later ρ (fun j => if j = pp then q else ρ j) S S w w' → R S w' (.sl pp 0 (len + news.length) sz) (fun j => if j = pp then q else ρ j) r ∧ RB S w' (fun j => if j = pp then q else ρ j) q (.arr ((es.drop off).take len ++ news) sz)) →
      Oper.wp P ⟨some dd, .call { callee := .builtin .append, args := #[x, y], argTypes := #[t, t] }, ty, pos, af, none⟩ a w K' Q := fun {r w' q} hr hext hoth hst hq hval => by
    unfold Oper.wp
    rw [ev1 r w' hr]
    obtain ⟨g1, g2⟩ := g.moved hpk hH0 hr0 hm0 hext hoth hst hq (fun l => (hval l).2)
    exact hK' _ _ _ _ g1 g2 (hval g2).1 (fun j hj => if_neg (hj (by simp)))
  have hoth0 : ∀ (w' : World) (b0 : Nat), (∀ x, x ≠ b0 → w'.heap[x]? = w.heap[x]?) → (∃ o, ρ k = some (b0, o)) → (∀ j b, H[j]? = some b → j ≠ k → b ≠ .gone → ∀ b1 o1, ρ j = some (b1, o1) → w'.heap[b1]? = w.heap[b1]?) ∧ (∀ b1, S b1 → w'.heap[b1]? = w.heap[b1]?) := fun w' b0 hw ⟨o, ho⟩ =>
    ⟨fun j b hj hjk hg b1 o1 h1 => hw b1 (fun e => hjk (g.inj j k b _ _ _ hj hKK hg (by simp) h1 ho e)), fun b1 hb1 => hw b1 (fun e => (g.live k _ _ hKK (by simp) ho).2 (e ▸ hb1))⟩
  have hxy : a.eval x = .slice a1 len c1 ∧ a.eval y = .slice a2 news.length c2 := ⟨x1, y1⟩
  by_cases hroom : len + news.length ≤ c1
  · by_cases hm : news.length = 0
    · -- nothing is appended
      have hnews : news = [] := List.eq_nil_of_length_eq_zero hm
      subst hnews
      have hr := run_append_same (P := P) (w := w) (t := t) (ty := ty) (a2 := a2) (c2 := c2) (T.elemOk _ _ ht) t1 (a := a1) x2
      simp only [R] at hxv
      obtain ⟨a1', c1', e1, e2, e3⟩ := hxv
      rw [x1] at e1
      cases e1
      refine fin (q := (ρ k).map fun q => (q.1, q.2 + off * sz)) (by rw [hxy.1, hxy.2]; exact hr) (Ext.refl _ _) (fun _ _ _ _ _ _ _ _ => rfl) (fun _ _ => rfl) (fun b1 o1 hq => ?_) (fun l => ⟨?_, ?_⟩)
      · obtain ⟨⟨b2, o2⟩, h2, h3⟩ := Option.map_eq_some_iff.1 hq
        cases h3
        obtain ⟨m1, m2⟩ := g.live k _ _ hKK (by simp) h2
        exact ⟨m1, m2, g.rng k _ h2, fun j b hj hjk hg b3 o3 h3 e => hjk (g.inj j k b _ _ _ hj hKK hg (by simp) h3 h2 e)⟩
      · simp only [R]
        refine ⟨a1, c1, rfl, e2, ?_⟩
        rcases e3 with e3 | ⟨b, o, f1, f2, f3, f4⟩
        · exact .inl e3
        · exact .inr ⟨b, o + off * sz, by simp [f1], by simpa using f2, f3, by
            have : o + off * sz + (0 + c1) * sz = o + (off + c1) * sz := by rw [Nat.zero_add, Nat.add_mul, Nat.add_assoc]
            rw [this]; exact f4⟩
      · simp only [RB, List.append_nil]
        refine ⟨fun q hq => hall q (by simpa using hq), hs0, ?_⟩
        rcases hB with hB | ⟨b, o, ws, f1, ⟨cc, ee, f2, f3⟩, f4⟩
        · left; obtain ⟨hB, hu⟩ := hB; subst hB; exact ⟨by simp, fun b o e => by obtain ⟨q, g1, g2⟩ := Option.map_eq_some_iff.1 e; cases g2; exact hu _ _ g1⟩
        · right
          refine ⟨b, o + off * sz, (ws.drop (off * sz)).take (len * sz), by simp [f1], ⟨cc, ee, f2, fun j u hj => ?_⟩, ?_⟩
          · rw [List.getElem?_take] at hj
            split at hj
            · rw [List.getElem?_drop] at hj
              rw [Nat.add_assoc]; exact f3 _ _ hj
            · cases hj
          · have := RL_take (RL_drop (f4.later l) (off * sz)) (len * sz)
            rwa [flatten_drop _ hes, flatten_take _ (fun e he => hes e (List.mem_of_mem_drop he))] at this
    · -- there is room
      simp only [R] at hxv
      obtain ⟨a1', c1', e1, e2, e3⟩ := hxv
      rw [x1] at e1
      cases e1
      rcases e3 with ⟨e3, e4⟩ | ⟨b, o, f1, f2, f3, ⟨cc, ee, fz, f4, f5⟩⟩
      · omega
      obtain rfl : fz = (0, 0) := by
        rcases hB with ⟨_, hu⟩ | ⟨b3, o3, ws3, g1, ⟨cc3, ee3, g2, _⟩, _⟩
        · obtain ⟨cc3, ee3, g2⟩ := hu _ _ f1
          rw [f4] at g2; cases g2; rfl
        · rw [f1] at g1; cases g1; rw [f4] at g2; cases g2; rfl
      have hmul : (off + len) * sz + news.length * sz ≤ (off + c1) * sz := by rw [← Nat.add_mul]; exact Nat.mul_le_mul_right _ (by omega)
      have hfit : o + off * sz + len * inf.size + zs.length ≤ cc.size := by
        rw [t2, hs, y5]
        have : (off + len) * sz = off * sz + len * sz := Nat.add_mul _ _ _
        omega
      have hr := run_append_in (P := P) (w := w) (t := t) (ty := ty) (a2 := a2) (c2 := c2) (T.elemOk _ _ ht) t1 (b := b) (o := o + off * sz) (len := len) (cap := c1) (m := news.length) (by rw [t2, hs]; exact y5) y7 hone f4 hroom hfit
      rw [t2, hs] at hr hfit
      have hyl : ys.length = len * sz := x5
      have hx8 : len = 0 ∨ ∃ b o, a1 = some ⟨b, o, none⟩ ∧ lies w b o ys := x7
      have hcs : ((cc.toList.take (o + off * sz + len * sz) ++ zs ++ cc.toList.drop (o + off * sz + len * sz + zs.length)).toArray).size = cc.size := by
        simp only [List.size_toArray, List.length_append, List.length_take, List.length_drop, Array.length_toList]; omega
      have hnew := setRow_heap w b cc (cc.toList.take (o + off * sz + len * sz) ++ zs ++ cc.toList.drop (o + off * sz + len * sz + zs.length)).toArray ee (0, 0) f4
      obtain ⟨m1, m2⟩ := g.live k _ _ hKK (by simp) f1
      obtain ⟨o1, o2⟩ := hoth0 _ b (fun x hx => setRow_other w b x (cc.toList.take (o + off * sz + len * sz) ++ zs ++ cc.toList.drop (o + off * sz + len * sz + zs.length)).toArray hx) ⟨o, f1⟩
      refine fin (q := some (b, o + off * sz)) (by rw [hxy.1, hxy.2, f2]; exact hr) ((ext_setRow f4 hcs).mono fun x _ hx => by rw [hx]; exact m1) o1 o2 (fun b1 o1 hq => ?_) (fun l => ⟨?_, ?_⟩)
      · cases hq
        exact ⟨m1, m2, (Array.getElem?_eq_some_iff.1 hnew).1, fun j b hj hjk hg b3 o3 h3 e => hjk (g.inj j k b _ _ _ hj hKK hg (by simp) h3 f1 e)⟩
      · simp only [R]
        refine ⟨_, c1, rfl, e2, .inr ⟨b, o + off * sz, by simp, by simp, hroom, _, ee, _, hnew, ?_⟩⟩
        rw [hcs, Nat.zero_add]
        have : (off + c1) * sz = off * sz + c1 * sz := Nat.add_mul _ _ _
        omega
      · simp only [RB]
        refine ⟨hall, hs0, .inr ⟨b, o + off * sz, ys ++ zs, rfl, ⟨_, ee, hnew, fun j u hj => ?_⟩, ?_⟩⟩
        · rw [List.getElem?_toArray]
          by_cases hj1 : j < ys.length
          · rw [List.getElem?_append_left hj1] at hj
            rcases hx8 with h0 | ⟨b', o', g1, ⟨c', e', fz, g2, g3⟩⟩
            · subst h0; simp at hyl; omega
            rw [f2] at g1
            cases g1
            rw [f4] at g2
            cases g2
            rw [List.append_assoc, List.getElem?_append_left (by simp; omega), List.getElem?_take, if_pos (by omega)]
            simpa using g3 j u hj
          · rw [List.getElem?_append_right (by omega)] at hj
            have hj2 := (List.getElem?_eq_some_iff.1 hj).1
            rw [List.getElem?_append_left (by simp; omega), List.getElem?_append_right (by simp; omega), ← hj]
            congr 1
            simp only [List.length_take, Array.length_toList]
            omega
        · rw [List.flatten_append]
          exact RL_append (x6.later l) (y6.later l)
  · -- a new row
    have hr := run_append_new (P := P) (w := w) (t := t) (ty := ty) (c2 := c2) (a := a1) (len := len) (cap := c1) (m := news.length) (T.elemOk _ _ ht) t1 t4 (by rw [t2, hs]; exact x5) x7 (by rw [t2, hs]; exact y5) y7 (by omega) (by rw [t3]; exact hb) h63
    have hgc := grownCap_ge w (len + news.length) c1 e
    have hgm := grownCap_le_maxLen w (len + news.length) c1 e (by simp only [maxLen]; omega)
    have hzs : z.cells.size = sz := by rw [← hs, ← t6, ← t5]; simp
    obtain ⟨g1, g2⟩ := grown_cells hzs x5 y5 hgc
    have hnew : (w.drew.alloc (.cells (ys.toArray ++ zs.toArray ++ Builtin.zeroCells z.cells (grownCap w (len + news.length) c1 e - (len + news.length))) e)).heap[w.heap.size]? = some (.cells _ e (0, 0)) := heap_alloc_new w.drew _
    have hold : ∀ b1, b1 < w.heap.size → (w.drew.alloc (.cells (ys.toArray ++ zs.toArray ++ Builtin.zeroCells z.cells (grownCap w (len + news.length) c1 e - (len + news.length))) e)).heap[b1]? = w.heap[b1]? := fun b1 hb1 => RowKit.Below.heap_alloc w.drew _ b1 hb1
    refine fin (q := some (w.heap.size, 0)) (by rw [hxy.1, hxy.2]; exact hr) ((Ext.drew1 w).trans (ext_alloc w.drew _ c.M) (fun _ h _ => h)) (fun j b hj hjk hg b1 o1 h2 => hold b1 (g.rng j _ h2)) (fun b1 hb1 => hold b1 (g.stab b1 hb1)) (fun b1 o1 hq => ?_) (fun l => ⟨?_, ?_⟩)
    · cases hq
      refine ⟨c.new _ g.ext.size, fun hS => ?_, by simp, fun j b hj hjk hg b2 o2 h2 e => ?_⟩
      · have := g.stab _ hS; omega
      · have := g.rng j _ h2; simp at this; omega
    · simp only [R]
      exact ⟨_, _, rfl, hgm, .inr ⟨w.heap.size, 0, by simp, by simp, hgc, _, e, _, hnew, by rw [Nat.zero_add, Nat.zero_add]; exact g1⟩⟩
    · simp only [RB]
      refine ⟨hall, hs0, .inr ⟨w.heap.size, 0, ys ++ zs, rfl, ⟨_, e, hnew, fun j u hj => by rw [Nat.zero_add]; exact g2 j u hj⟩, ?_⟩⟩
      rw [List.flatten_append]
      exact RL_append (x6.later l) (y6.later l)
theorem as_unsafeString {pt it e k dd pp : Nat} {x y : Operand} {l : List UInt8} {m : Int} (hp : P.underlying pt = some (.pointer e)) (hc : P.cellsOf e = 1)
    (hx : evu env x = some (.ep k 0 0 1)) (hy : evu env y = some (.i m)) (hm : m = l.length) (hl : l ≠ []) (h63 : l.length ≤ 9223372036854775807) (hk : h[k]? = some (.buf e l)) :
    AStep P ⟨some dd, .call { callee := .builtin .unsafeString, args := #[x, y], argTypes := #[pt, it] }, ty, pos, af, none⟩ env h pp k .gone (.s l) [] := by
  subst hm
  intro c ρ S a w H g p hbel _ K' Q hK'
  have h1 := p.evu hx
  simp only [R] at h1
  obtain ⟨b, o, h2, h3⟩ := h1
  have h4 := R_v (p.evu hy)
  rcases p.blk k _ hk with ⟨h5, _⟩ | ⟨b', cc, g1, g2, g3⟩
  · exact absurd h5 hl
  rw [h2] at g1
  obtain ⟨rfl, rfl⟩ : b = b' ∧ o = 0 := by simpa using g1
  have hlen : l.length ≤ cc.size := by
    have hpos := List.length_pos_iff.2 hl
    have := g3 (l.length - 1) (l[l.length - 1]'(by omega)) (List.getElem?_eq_getElem _)
    have := (Array.getElem?_eq_some_iff.1 this).1
    omega
  have hr := Go.Lib.run_unsafeString_row (P := P) w pt it ty e hp hc b cc.size (by simp [World.shape?, g2]) l hl hlen h63 (fun j x hj => by
    have : ((⟨b, 0, none⟩ : Addr).add j) = ⟨b, 0 + j, none⟩ := Addr.add_lit ..
    rw [this]
    simp [World.cell?, g2, g3 j x hj])
  unfold Oper.wp
  have hev : (execOp a.eval ⟨some dd, .call { callee := .builtin .unsafeString, args := #[x, y], argTypes := #[pt, it] }, ty, pos, af, none⟩).run P w = .ok (.value (.string ⟨l.toArray⟩)) (w.freeze ⟨b, 0, none⟩ l.length) := by
    have h3' : a.eval x = .pointer (some ⟨b, 0, none⟩) := by rw [h3]
    simp [execOp, resolve, invoke, builtin, h3', h4, hr]
  rw [hev]
  have hl0 : l.length ≠ 0 := by simpa using hl
  obtain ⟨ff, hfz, hff⟩ : ∃ ff : Obj → Obj, (w.freeze ⟨b, 0, none⟩ l.length).heap = w.heap.modify b ff ∧ ∀ c e fz, ∃ fz', ff (.cells c e fz) = .cells c e fz' := by
    unfold World.freeze
    rw [if_neg hl0]
    exact ⟨fun | .cells c elem (lo, hi) => .cells c elem (if lo == hi then (0, 0 + l.length) else (min lo 0, max hi (0 + l.length))) | o => o, rfl, fun c e fz => ⟨if fz.1 == fz.2 then (0, 0 + l.length) else (min fz.1 0, max fz.2 (0 + l.length)), rfl⟩⟩
  have hext : Ext (fun x => x = b) w (w.freeze ⟨b, 0, none⟩ l.length) := by
    have ho : ∀ x, x ≠ b → (w.freeze ⟨b, 0, none⟩ l.length).heap[x]? = w.heap[x]? := fun x hx => by rw [hfz]; exact modify_other hx
    have hf : ∀ {α : Type} (f : World → α), (∀ w h', f { w with heap := h' } = f w) → f (w.freeze ⟨b, 0, none⟩ l.length) = f w := fun f hf => by
      unfold World.freeze
      rw [if_neg hl0]; exact hf _ _
    refine ⟨hf (·.os) (fun _ _ => rfl), hf (·.tape) (fun _ _ => rfl), hf (·.output) (fun _ _ => rfl), by rw [hfz, Array.size_modify]; exact Nat.le_refl _, fun x _ hx => ho x hx, fun x c0 ee fz hcc => ?_⟩
    by_cases hx : x = b
    · subst hx
      rw [g2] at hcc; cases hcc
      obtain ⟨fz', hz'⟩ := hff cc e (0, 0)
      exact ⟨cc, fz', by rw [hfz, modify_at g2, hz'], rfl⟩
    · exact ⟨c0, fz, by rw [ho x hx]; exact hcc, rfl⟩
  obtain ⟨g4, g5⟩ := g.upd (nb := .gone) (hbel k _ hk (by simp)) (by simp) h2 hext (fun _ => trivial)
  exact hK' _ _ _ _ g4 g5 (by simp [R]) (fun _ _ => rfl)
theorem aw_draw4k {n : Nat × Nat} {Q : Exit → Env → Hp → Prop} {id : Nat} {l : List Oper} (k : Nat) (pres : List (List Nat)) (ds : List Nat) (bads : List (List Nat)) (ss : List (Nat × Nat)) (hm : P.follows .mixedOrders = true) (hn : n.1 = k) (hok : chkDrawS l pres ds bads ss k = true)
    (hv : DWA P n l pres ds bads ss (dropE ds env) h 0 (dropE ds env) [] [] (fun v h => Q .normal v h)) (hndf : noDef l = true := by rfl) : AW P n (.region id l.toArray true) env h Q := aw_draw4 pres ds bads ss hm (by rw [hn]; exact hok) hv hndf
end
end Go.Ab
namespace Go.Ab
open Go Go.MapKept
def PCall (P : Program) (f : FuncId) (args : List AV) (hin : Hp) (Φ : AV → Hp → Prop) : Prop :=
  (∃ fn, P.funcs[f]? = some fn ∧ (fn.name == "runtime.NumGoroutine") = false ∧ fn.body.isNone = false) ∧
  ∀ ρ S w vs, HS (ctx0 w ρ S hin) ρ S hin w → RL S w args ρ vs →
    Calls P f vs.toArray w fun e w' => ∃ res hout, Φ res hout ∧ ∃ y ρ' S', e = .returned y ∧ HS (ctx0 w ρ S hin) ρ' S' hout w' ∧ R S' w' res ρ' y
theorem PCall.mono {P : Program} {f : FuncId} {args : List AV} {hin : Hp} {Φ Ψ : AV → Hp → Prop} (h : PCall P f args hin Φ) (hi : ∀ r o, Φ r o → Ψ r o) : PCall P f args hin Ψ :=
  ⟨h.1, fun ρ S w vs hs ha => (h.2 ρ S w vs hs ha).mono fun _ _ ⟨r, o, h1, h2⟩ => ⟨r, o, hi r o h1, h2⟩⟩
theorem PCall.toA {P : Program} {f : FuncId} {args : List AV} {hin hout : Hp} {res : AV} {Φ : AV → Hp → Prop} (h : PCall P f args hin Φ) (hi : ∀ r o, Φ r o → r = res ∧ o = hout) : ACall P f args hin res hout :=
  ⟨h.1, fun ρ S w vs hs ha => (h.2 ρ S w vs hs ha).mono fun _ _ ⟨r, o, h1, h2⟩ => by obtain ⟨rfl, rfl⟩ := hi r o h1; exact h2⟩
def retP {P : Program} (T : Tab P) (rs : List ResultVar) (m : Nat) (Φ : AV → Hp → Prop) (e : Exit) (v : Env) (h : Hp) : Prop := ∃ res hout, Φ res hout ∧ retQ T rs m res hout e v h
theorem pcall {P : Program} (T : Tab P) {f : FuncId} {fn : Func} {code : Code} {n : Nat} {args : List AV} {hin : Hp} {Φ : AV → Hp → Prop} (hf : P.funcs[f]? = some fn) (hb : fn.body = some code) (hnm : (fn.name == "runtime.NumGoroutine") = false) (hn : fn.ntmps = n) (ha : Nat.ble args.length n = true)
    (haw : AW P (n, hin.length) code (argEnv 0 args) hin (retP T fn.results.toList hin.length Φ)) : PCall P f args hin Φ := by
  refine ⟨⟨fn, hf, hnm, by rw [hb]; rfl⟩, ?_⟩
  intro ρ S w vs hs hargs
  have hlen := RL_length hargs
  have hle := Nat.le_of_ble_eq_true ha
  refine (callsIn_wide (n := 0)).1 (callsIn_of_wp_marks (F := Fence.wide) hf hb trivial ?_ rfl)
  refine haw (ctx0 w ρ S hin) ρ S _ w _ ⟨?_, Marks.nil rfl _ _, fun t x hx => ?_, hs, rfl⟩ ?_
  · simp [hn]; omega
  · obtain ⟨_, h1⟩ := argEnv_look hx
    simp only [Nat.sub_zero] at h1
    obtain ⟨y, h2, h3⟩ := RL_get hargs t x h1
    have hlt : t < vs.length := (List.getElem?_eq_some_iff.1 h2).1
    have : (vs.toArray ++ Array.replicate (fn.ntmps - vs.toArray.size) undef).getD t undef = y := by
      rw [Array.getD_eq_getD_getElem?, Array.getElem?_append_left (by simpa using hlt)]
      simp [h2]
    rw [this]; exact h3
  · intro e env' h' ρ' S' a' w' hq s
    obtain ⟨res, hout, hΦ, he, L, xs, h1, h2, h3, h4, h5, h6⟩ := hq
    have fin : ∀ S2 w2, HS (ctx0 w ρ S hin) ρ' S2 h' w2 → (∀ x y, R S' w' x ρ' y → R S2 w2 x ρ' y) → ∃ v, (results fn a'.tmps).run P w2 = .ok v w2 ∧ (fun e w' => ∃ res hout, Φ res hout ∧ ∃ y ρ' S', e = Ending.returned y ∧ HS (ctx0 w ρ S hin) ρ' S' hout w' ∧ R S' w' res ρ' y) (.returned v) w2 := fun S2 w2 s2 hr => by
      have hs' := s2.sub h3 h4 h5 (fun i hi => h6 i hi)
      obtain ⟨ys, h7, h8⟩ := results_val T s2.blk (fun t x hx => hr _ _ (s.env t x hx)) h1
      have hres : ∃ y, (results fn a'.tmps).run P w2 = .ok y w2 ∧ R S2 w2 (oneOf xs) ρ' y := by
        have hm : (fn.results.mapM (resultOf a'.tmps)).run P w2 = .ok ys.toArray w2 := by
          rw [Array.mapM_eq_mapM_toList]
          simp only [Sem.run_map, h7, Result.andThen_ok]
        have hl := RL_length h8
        rw [results_eq]
        simp only [Sem.run_bind, hm, Result.andThen_ok, Sem.run_pure]
        refine ⟨_, rfl, ?_⟩
        match xs, ys, h8, hl with
        | [x], [y], h8, _ =>
          simp only [RL] at h8
          obtain ⟨y', zs, e1, h9, _⟩ := h8
          cases e1
          simpa [oneOf] using h9
        | [], [], h8, _ =>
          simp only [oneOf, R]
          exact ⟨#[], by simp, by simp [RL]⟩
        | x :: x2 :: xs, y :: y2 :: ys, h8, _ =>
          simp only [oneOf, R]
          refine ⟨(y :: y2 :: ys).toArray, ?_, by simpa using h8⟩
          rw [dif_neg (by simp)]
      obtain ⟨y, h9, h10⟩ := hres
      rw [h2] at h10
      exact ⟨y, h9, res, hout, hΦ, y, _, S2, rfl, hs', R_map _ ρ' _ _ h10⟩
    obtain ⟨⟨D, hD1, hD2, hD3⟩, _⟩ := s.defers
    have hl : LeavesInM Fence.wide 0 P fn a'.tmps (fun e w' => ∃ res hout, Φ res hout ∧ ∃ y ρ' S', e = Ending.returned y ∧ HS (ctx0 w ρ S hin) ρ' S' hout w' ∧ R S' w' res ρ' y) a'.defers .returning w' := by
      rw [hD1]
      exact leaves_shut (c := ctx0 w ρ S hin) (Nat.le_refl _) (fun b hb => hs.stab b hb) D S' w' s.hs hD2 hD3 fin
    rcases he with rfl | rfl
    · exact hl
    · exact hl
section
variable {P : Program} {n : Nat × Nat} {ops : Array Oper} {rest : List Oper} {env : Env} {h : Hp} {K : Env → Hp → Prop}
variable {d : Option Nat} {ty : TypeId} {pos : String} {af : Array Edge}
theorem vc_pcallb {x : Operand} {f : FuncId} {fs cs us xs : List AV} {args : List Operand} {ats : Array TypeId} {Ψ : AV → Prop} (hx : evu env x = some (.clo (.func f) fs cs)) (ha : evL env args = some us)
    (hc : PCall P f xs [] (fun r o => o = [] ∧ Ψ r)) (hv : ViewL h (fs ++ us ++ cs) xs) (hrf : ∀ r, Ψ r → r.rf = true) (hd : okd d n = true)
    (hk : ∀ r, Ψ r → VC P n ops rest (putd d r env) h K) : VC P n ops (⟨d, .call { callee := .value x, args := args.toArray, argTypes := ats }, ty, pos, af, none⟩ :: rest) env h K := by
  intro c ρ S a w Q s hQ
  refine wpList_plain rfl fun K' hK' => ?_
  have p := s.pre
  have hxv := p.evu hx
  simp only [R] at hxv
  obtain ⟨ys, zs, e1, h1, h2⟩ := hxv
  have hall : RL S w (fs ++ us ++ cs) ρ (ys.toList ++ args.map a.eval ++ zs.toList) := RL_append (RL_append h1 (evL_val p ha)) h2
  obtain ⟨hf, hc⟩ := hc
  have hS1w : ∀ b, (S b ∨ liveB h ρ b) → b < w.heap.size := fun b hb => by
    rcases hb with hb | ⟨k, x, o, _, _, hb⟩
    · exact p.stab b hb
    · exact p.rng k _ hb
  have hargs : RL (fun b => S b ∨ liveB h ρ b) w xs (fun _ => none) (ys.toList ++ args.map a.eval ++ zs.toList) := viewL_val p.blk hv hall
  have hs0 : HS (ctx0 w (fun _ => none) (fun b => S b ∨ liveB h ρ b) []) (fun _ => none) (fun b => S b ∨ liveB h ρ b) [] w := ⟨fun _ _ => rfl, (fun _ _ h => by cases h), (fun k b hb => by simp at hb), (fun k b p hb => by simp at hb), (fun k _ b _ _ _ hb => by simp at hb), hS1w, Ext.refl _ _, fun _ h => h, fun _ h => .inl h, Nat.le_refl _, (fun _ h => by simp [ctx0] at h), p.glob.st fun b hb => .inl hb⟩
  have hcall := hc (fun _ => none) _ w _ hs0 hargs
  unfold Oper.wp
  have hrun : (execOp a.eval ⟨d, .call { callee := .value x, args := args.toArray, argTypes := ats }, ty, pos, af, none⟩).run P w = .ok (.enter f (ys.toList ++ args.map a.eval ++ zs.toList).toArray) w := by
    have e2 : (ys ++ (args.toArray.map a.eval) ++ zs) = (ys.toList ++ args.map a.eval ++ zs.toList).toArray := by
      apply Array.ext'; simp
    simp only [execOp, resolve, e1, Deferred.ofValue, Sem.run_bind, Sem.run_pure, Result.andThen_ok, invoke]
    rw [e2]
    exact run_call hf
  rw [hrun]
  simp only [Oper.upon]
  refine hcall.mono ?_
  rintro e w' ⟨res, hout, ⟨rfl, hΨ⟩, y, ρ', S', rfl, hs, hy⟩
  simp only
  have hM : ∀ b, (ctx0 w (fun _ => none) (fun b => S b ∨ liveB h ρ b) []).M b → w.heap.size ≤ b := fun b hb => by
    rcases hb with hb | ⟨k, x, o, hb, _⟩
    · exact hb
    · simp at hb
  have hext : Ext (fun _ => False) w w' := hs.ext.mono fun b hb hm => by have := hM b hm; simp [ctx0] at hb; omega
  have hρ : ρ' = fun _ => none := funext fun k => hs.dom k (Nat.zero_le _)
  subst hρ
  have hpost : Post ρ ρ S S w w' h.length 0 res [] y := by
    refine ⟨hext, rfl, fun _ _ => rfl, fun _ hb => hb, fun _ hb => .inl hb, fun k p h1 h2 _ => by omega, fun k k' p p' h1 h2 _ _ _ => by omega, ?_, fun j b hb => by simp at hb⟩
    exact R_later (fun _ h => h) (fun _ _ => rfl) res (fun _ => none) ρ y (fun _ _ h => nomatch h) (fun _ _ _ _ h => nomatch h) (R_rf _ _ _ (hrf _ hΨ) hy)
  have hsim := s.post (d := d) hd hpost
  rw [List.append_nil] at hsim
  exact hK' _ _ (hk _ hΨ c ρ S _ w' Q hsim hQ)
theorem vc_pcallw (L : List Nat) {x : Operand} {f : FuncId} {fs cs us xs : List AV} {args : List Operand} {ats : Array TypeId} {Φ : AV → Hp → Prop} {hin : Hp} (hx : evu env x = some (.clo (.func f) fs cs)) (ha : evL env args = some us)
    (hc : PCall P f xs hin Φ) (hxs : fs ++ us ++ cs = AV.mapL (th L h.length) xs) (hL : L.length = hin.length) (hnd : L.Nodup) (hh : SubH (th L h.length) h 0 hin) (hng : ∀ b, b ∈ hin → b ≠ .gone) (hd : okd d n = true)
    (hk : ∀ res hout, Φ res hout → VC P n ops rest (putd d (res.map (backL L h.length hin.length)) env) (putH h L ((hout.take hin.length).map (AB.map (backL L h.length hin.length))) ++ (hout.drop hin.length).map (AB.map (backL L h.length hin.length))) K) :
    VC P n ops (⟨d, .call { callee := .value x, args := args.toArray, argTypes := ats }, ty, pos, af, none⟩ :: rest) env h K := by
  intro c ρ S a w Q s hQ
  refine wpList_plain rfl fun K' hK' => ?_
  have p := s.pre
  have hxv := p.evu hx
  simp only [R] at hxv
  obtain ⟨ys, zs, e1, h1, h2⟩ := hxv
  have hall : RL S w (fs ++ us ++ cs) ρ (ys.toList ++ args.map a.eval ++ zs.toList) := RL_append (RL_append h1 (evL_val p ha)) h2
  rw [hxs] at hall
  have hargs := RL_map (th L h.length) ρ _ _ hall
  obtain ⟨hf, hc⟩ := hc
  have hs0 := s.hs.hand hL hnd hh
  have hcall := hc _ S w _ hs0 hargs
  unfold Oper.wp
  have hrun : (execOp a.eval ⟨d, .call { callee := .value x, args := args.toArray, argTypes := ats }, ty, pos, af, none⟩).run P w = .ok (.enter f (ys.toList ++ args.map a.eval ++ zs.toList).toArray) w := by
    have e2 : (ys ++ (args.toArray.map a.eval) ++ zs) = (ys.toList ++ args.map a.eval ++ zs.toList).toArray := by
      apply Array.ext'; simp
    simp only [execOp, resolve, e1, Deferred.ofValue, Sem.run_bind, Sem.run_pure, Result.andThen_ok, invoke]
    rw [e2]
    exact run_call hf
  rw [hrun]
  simp only [Oper.upon]
  refine hcall.mono ?_
  rintro e w' ⟨res, hout, hΦ, y, ρ', S', rfl, hs, hy⟩
  simp only
  refine hK' _ _ (hk res hout hΦ c (fun k => if k < h.length then ρ k else ρ' (hin.length + (k - h.length))) S' _ w' Q ?_ hQ)
  -- the objects handed over
  have hin_at : ∀ {i : Nat} {b : AB}, hin[i]? = some b → ∃ j, L[i]? = some j ∧ j < h.length ∧ h[j]? = some (b.map (th L h.length)) ∧ b.map (th L h.length) ≠ .gone := fun {i b} hb => by
    have hne := hng b (List.mem_of_getElem? hb)
    have hlt : i < L.length := by rw [hL]; exact (List.getElem?_eq_some_iff.1 hb).1
    have hj := List.getElem?_eq_getElem hlt
    have hth : th L h.length i = L[i] := by simp [th, hj]
    rcases hh.get i b hb with hg | hg
    · exact absurd hg hne
    · rw [Nat.zero_add, hth] at hg
      exact ⟨L[i], hj, (List.getElem?_eq_some_iff.1 hg).1, hg, by cases b <;> simp [AB.map] at * ⟩
  have hmle := hs.mle
  have hmle' : hin.length ≤ hout.length := hmle
  have thL : ∀ {i j : Nat}, L[i]? = some j → th L h.length i = j := fun hi => by simp [th, hi]
  have keep : ∀ {i j : Nat}, i < hin.length → L[i]? = some j → ρ' i = ρ j := fun {i j} hi hj => by
    have := hs.keep i hi
    simp only [ctx0] at this
    rw [this, thL hj]
  -- where the callee may write
  have hM : ∀ b, (ctx0 w (fun k => ρ (th L h.length k)) S hin).M b → w.heap.size ≤ b ∨ ∃ (i j : Nat) (o : Nat) (x : AB), hin[i]? = some x ∧ L[i]? = some j ∧ ρ j = some (b, o) := fun b hb => by
    rcases hb with hb | ⟨k, x, o, hb, _, hp⟩
    · exact .inl hb
    · obtain ⟨j, h3, _⟩ := hin_at hb
      exact .inr ⟨k, j, o, x, hb, h3, by rw [← thL h3]; exact hp⟩
  have hcM : ∀ b, (ctx0 w (fun k => ρ (th L h.length k)) S hin).M b → c.M b := fun b hb => by
    rcases hM b hb with hb | ⟨i, j, o, x, h3, h4, h5⟩
    · exact c.new b (Nat.le_trans s.hs.ext.size hb)
    · obtain ⟨j', h6, _, h7, h8⟩ := hin_at h3
      rw [h4] at h6; cases h6
      exact (s.hs.live j _ _ h7 h8 h5).1
  have hlow : ∀ b, b < w.heap.size → (ctx0 w (fun k => ρ (th L h.length k)) S hin).M b → ∃ (i j : Nat) (o : Nat) (x : AB), hin[i]? = some x ∧ L[i]? = some j ∧ ρ j = some (b, o) := fun b hlt hb => by
    rcases hM b hb with hb | hb
    · omega
    · exact hb
  -- a live object that was not handed over: its block is left alone
  have other : ∀ {k : Nat} {b : AB} {q : Nat × Nat}, h[k]? = some b → b ≠ .gone → k ∉ L → ρ k = some q → ¬ (ctx0 w (fun k => ρ (th L h.length k)) S hin).M q.1 := fun {k b q} hb hg hkL hq hm => by
    obtain ⟨i, j, o, x, h3, h4, h5⟩ := hlow q.1 (s.hs.rng k q hq) hm
    obtain ⟨j', h6, _, h7, h8⟩ := hin_at h3
    rw [h4] at h6; cases h6
    have := s.hs.inj k j _ _ q _ hb h7 hg h8 hq h5 rfl
    subst this
    exact hkL (List.mem_of_getElem? h4)
  have stM : ∀ b, S b → ¬ (ctx0 w (fun k => ρ (th L h.length k)) S hin).M b := fun b hb hm => by
    obtain ⟨i, j, o, x, h3, h4, h5⟩ := hlow b (s.hs.stab b hb) hm
    obtain ⟨j', h6, _, h7, h8⟩ := hin_at h3
    rw [h4] at h6; cases h6
    exact (s.hs.live j _ _ h7 h8 h5).2 hb
  have same : ∀ b, b < w.heap.size → ¬ (ctx0 w (fun k => ρ (th L h.length k)) S hin).M b → w'.heap[b]? = w.heap[b]? := fun b hb hm => hs.ext.same b hb hm
  have l : Later ρ (fun k => if k < h.length then ρ k else ρ' (hin.length + (k - h.length))) S S' w w' := by
    refine ⟨fun k q hq => ?_, hs.st0, fun b hb => same b (s.hs.stab b hb) (stM b hb), fun _ _ _ _ _ hr => hs.ext.room hr⟩
    have hlt : k < h.length := by
      rcases Nat.lt_or_ge k h.length with h3 | h3
      · exact h3
      · rw [s.hs.dom k h3] at hq; cases hq
    simp only [if_pos hlt]; exact hq
  -- the callee's places, seen by the caller
  have pl : ∀ k q, ρ' k = some q → (fun k => if k < h.length then ρ k else ρ' (hin.length + (k - h.length))) (backL L h.length hin.length k) = some q := fun k q hq => by
    by_cases hk : k < hin.length
    · have hj := List.getElem?_eq_getElem (l := L) (i := k) (by omega)
      have hb := List.getElem?_eq_getElem hk
      obtain ⟨j, h3, h4, _⟩ := hin_at hb
      have hbk : backL L h.length hin.length k = j := by simp [backL, h3]
      rw [hbk]
      simp only [if_pos h4]
      rw [← keep hk h3]; exact hq
    · have hbk : backL L h.length hin.length k = h.length + (k - hin.length) := by
        unfold backL
        rw [List.getElem?_eq_none (by omega)]
      rw [hbk]
      simp only
      rw [if_neg (by omega), show hin.length + (h.length + (k - hin.length) - h.length) = k by omega]
      exact hq
  have shift : ∀ {x : AV} {y : Value}, R S' w' x ρ' y → R S' w' (x.map (backL L h.length hin.length)) (fun k => if k < h.length then ρ k else ρ' (hin.length + (k - h.length))) y := fun {x y} hx => R_map' _ _ x y (R_later (fun _ h => h) (fun _ _ => rfl) x ρ' _ y pl (fun _ _ _ _ _ h => h) hx)
  have shiftB : ∀ {b : AB} {pp}, RB S' w' ρ' pp b → RB S' w' (fun k => if k < h.length then ρ k else ρ' (hin.length + (k - h.length))) pp (b.map (backL L h.length hin.length)) := fun {b pp} hb => RB_map' _ _ (RB.later (ρ := ρ') (S := S') ⟨pl, fun _ h => h, fun _ _ => rfl, fun _ _ _ _ _ h => h⟩ (fun _ _ _ => rfl) hb)
  -- what stands at a place behind the call
  have get : ∀ {k : Nat} {b : AB}, (putH h L ((hout.take hin.length).map (AB.map (backL L h.length hin.length))) ++ (hout.drop hin.length).map (AB.map (backL L h.length hin.length)))[k]? = some b →
      (k < h.length ∧ k ∉ L ∧ h[k]? = some b) ∨ (∃ (i : Nat) (b' : AB), hout[i]? = some b' ∧ b = b'.map (backL L h.length hin.length) ∧ backL L h.length hin.length i = k ∧ (if k < h.length then ρ k else ρ' (hin.length + (k - h.length))) = ρ' i ∧ ((i < hin.length ∧ L[i]? = some k) ∨ (hin.length ≤ i ∧ k = h.length + (i - hin.length)))) := fun {k b} hb => by
    by_cases hk : k < h.length
    · rw [List.getElem?_append_left (by rw [putH_length]; exact hk)] at hb
      by_cases hkL : k ∈ L
      · obtain ⟨i, hi⟩ := List.mem_iff_getElem?.1 hkL
        have hiL : i < hin.length := by rw [← hL]; exact (List.getElem?_eq_some_iff.1 hi).1
        have hb' := List.getElem?_eq_getElem (l := hout) (i := i) (by omega)
        rw [putH_at (b := (hout[i]'(by omega)).map (backL L h.length hin.length)) hnd hi (by simp [hiL, hb']) hk] at hb
        simp only [Option.some.injEq] at hb
        exact .inr ⟨i, _, hb', hb.symm, by simp [backL, hi], by rw [if_pos hk]; exact (keep hiL hi).symm, .inl ⟨hiL, hi⟩⟩
      · rw [putH_other _ _ _ hkL] at hb
        exact .inl ⟨hk, hkL, hb⟩
    · rw [List.getElem?_append_right (by rw [putH_length]; omega), putH_length, List.getElem?_map, List.getElem?_drop] at hb
      obtain ⟨b', h3, h4⟩ := Option.map_eq_some_iff.1 hb
      refine .inr ⟨hin.length + (k - h.length), b', h3, h4.symm, ?_, by rw [if_neg hk], .inr ⟨by omega, by omega⟩⟩
      unfold backL
      rw [List.getElem?_eq_none (by omega)]
      simp only; omega
  have mapg : ∀ {θ : Nat → Nat} {b : AB}, b.map θ ≠ .gone → b ≠ .gone := fun hb e => hb (by rw [e]; rfl)
  refine ⟨by rw [size_put]; exact s.size, by rw [defers_put]; exact s.defers.later l, env_put s.size hd (fun t u hu => (s.env t u hu).later l) (shift hy), ?_, s.cm⟩
  refine ⟨fun k hk => ?_, fun k q hq => ?_, fun k b hb => ?_, fun k b q hb hg hq => ?_, fun k k' b b' q q' hb hb' hg hg' hq hq' e => ?_, hs.stab, s.hs.ext.trans hs.ext (fun b hb hlt => hcM b hb), fun b hb => hs.st0 b (s.hs.st0 b hb), fun b hb => ?_, ?_, fun k hk => ?_, hs.glob⟩
  · simp only [List.length_append, putH_length, List.length_map, List.length_drop] at hk
    rw [if_neg (by omega)]
    exact hs.dom _ (by omega)
  · split at hq
    · exact Nat.lt_of_lt_of_le (s.hs.rng k q hq) hs.ext.size
    · exact hs.rng _ q hq
  · rcases get hb with ⟨h3, h4, h5⟩ | ⟨i, b', h3, rfl, h4, h5, h6⟩
    · simp only [if_pos h3]
      by_cases hg : b = .gone
      · subst hg; trivial
      · exact RB.later l (fun b1 o1 hp => same b1 (s.hs.rng k _ hp) (other h5 hg h4 hp)) (s.hs.blk k b h5)
    · rw [h5]
      exact shiftB (hs.blk i b' h3)
  · rcases get hb with ⟨h3, h4, h5⟩ | ⟨i, b', h3, rfl, h4, h5, h6⟩
    · simp only [if_pos h3] at hq
      obtain ⟨h7, h8⟩ := s.hs.live k b q h5 hg hq
      refine ⟨h7, fun hs' => ?_⟩
      rcases hs.st1 _ hs' with h9 | h9
      · exact h8 h9
      · exact other h5 hg h4 hq h9
    · rw [h5] at hq
      obtain ⟨h7, h8⟩ := hs.live i b' q h3 (mapg hg) hq
      exact ⟨hcM _ h7, h8⟩
  · rcases get hb with ⟨h3, h4, h5⟩ | ⟨i, b1, h3, rfl, h4, h5, h6⟩ <;> rcases get hb' with ⟨h3', h4', h5'⟩ | ⟨i', b1', h3', rfl, h4', h5', h6'⟩
    · simp only [if_pos h3] at hq
      simp only [if_pos h3'] at hq'
      exact s.hs.inj k k' b b' q q' h5 h5' hg hg' hq hq' e
    · simp only [if_pos h3] at hq
      rw [h5'] at hq'
      have hl := (hs.live i' b1' q' h3' (mapg hg') hq').1
      rw [← e] at hl
      exact absurd hl (other h5 hg h4 hq)
    · simp only [if_pos h3'] at hq'
      rw [h5] at hq
      have hl := (hs.live i b1 q h3 (mapg hg) hq).1
      rw [e] at hl
      exact absurd hl (other h5' hg' h4' hq')
    · rw [h5] at hq
      rw [h5'] at hq'
      have := hs.inj i i' b1 b1' q q' h3 h3' (mapg hg) (mapg hg') hq hq' e
      subst this
      rw [← h4, ← h4']
  · rcases hs.st1 b hb with hb' | hb'
    · exact s.hs.st1 b hb'
    · exact .inr (hcM b hb')
  · simp only [List.length_append, putH_length]
    exact Nat.le_trans s.hs.mle (Nat.le_add_right _ _)
  · have hlt := Nat.lt_of_lt_of_le hk s.hs.mle
    simp only [if_pos hlt]
    exact s.hs.keep k hk
end
section
variable {P : Program} {n : Nat × Nat} {ops : Array Oper} {env : Env} {h : Hp} {K : Env → Hp → Prop} {listed : Array Bool} {r : Nat}
section
variable {l : List Oper} {ds : List (Nat × List Nat)} {b : List Bool}
end
end
theorem HS.view {c : Ctx} {ρ : Pl} {S : Nat → Prop} {h : Hp} {w : World} (s : HS c ρ S h w) (hm : c.m = 0) : HS c (fun _ => Option.none) (fun b => S b ∨ liveB h ρ b) [] w := by
  refine ⟨fun _ _ => rfl, (fun _ _ h => nomatch h), (fun k b hb => by simp at hb), (fun k b p hb => by simp at hb), (fun k _ b _ _ _ hb => by simp at hb), fun b hb => ?_, s.ext, fun b hb => .inl (s.st0 b hb), fun b hb => ?_, by rw [hm]; exact Nat.zero_le _, (fun k hk => by rw [hm] at hk; exact absurd hk (Nat.not_lt_zero _)), s.glob.st fun b hb => .inl hb⟩
  · rcases hb with hb | ⟨k, x, o, _, _, hb⟩
    · exact s.stab b hb
    · exact s.rng k _ hb
  · rcases hb with hb | ⟨k, x, o, h1, h2, h3⟩
    · exact s.st1 b hb
    · exact .inr (s.live k x _ h1 h2 h3).1
theorem acall_view {P : Program} {f : FuncId} {args : List AV} {res res' : AV} {hout : Hp} (h : ACall P f args [] res hout) (hv : View hout res res') : ACall P f args [] res' [] := by
  refine ⟨h.1, fun ρ S w vs hs ha => (h.2 ρ S w vs hs ha).mono ?_⟩
  rintro e w' ⟨y, ρ', S', rfl, h2, h3⟩
  exact ⟨y, _, _, rfl, h2.view rfl, view_val h2.blk hv h3⟩
theorem vc_weak {P : Program} {n : Nat × Nat} {ops : Array Oper} {rest : List Oper} {env : Env} {h : Hp} {K : Env → Hp → Prop} (t : Nat) {x : AV} (x' : AV) (hl : look env t = some x) (hw : ∀ (S : Nat → Prop) w ρ y, R S w x ρ y → R S w x' ρ y) (hk : VC P n ops rest ((t, x') :: env) h K) : VC P n ops rest env h K := by
  intro c ρ S a w Q s hQ
  refine hk c ρ S a w Q ⟨s.size, s.defers, fun u y hu => ?_, s.hs, s.cm⟩ hQ
  rw [look_cons] at hu
  split at hu
  · rename_i e
    subst e
    cases hu
    exact hw _ _ _ _ (s.env _ _ hl)
  · exact s.env u y hu
section
variable {P : Program} {env : Env} {h : Hp}
variable {d : Option Nat} {ty : TypeId} {pos : String} {af : Array Edge} {g : Option (Nat × Bool)}
variable {t kt et : TypeId} {good : Value → Prop} {x y : Operand} {i : Nat} {kv : Value} {ks : List Value} {vs : List AV} {v : AV}
theorem fs_mapGetR (ht : P.underlying t = some (.map kt et)) (ko : KeyOk P kt good) (hx : evu env x = some (.mrow ks vs)) {yv : AV} (hy : evu env y = some yv) (hyv : IsV yv kv) (hkeys : ∀ q, q ∈ ks → good q) (hkey : good kv) (hnd : ks.Nodup) (hi : ks[i]? = some kv) (hv : vs[i]? = some v) (hidf : v.idf = true) :
    FStep P ⟨d, .lookup t x y true, ty, pos, af, g⟩ env h 0 (fun _ => .tup [v, .b true]) (fun _ => []) := by
  refine fs_val fun ρ S a w p => ?_
  have h1 := p.evu hx
  simp only [R] at h1
  obtain ⟨b, l, ck, h3, _, h6, h7, h8⟩ := h1
  have h4 := hyv _ _ _ _ (p.evu hy)
  obtain ⟨e, h9, h10, _⟩ := find_some ko w h7 hkeys hkey hnd hi
  refine ⟨.tuple #[e.val, .bool true], ?_, ?_⟩
  · simp [execOp, h3, h4, Instr.lookup, run_underlying ht, MapKept.run_getObj_map h6, ko.check w _ hkey, h9]
  · obtain ⟨u, h11, h12⟩ := RL_get h8 i v hv
    rw [List.getElem?_map, h10] at h11
    cases h11
    simp only [R, RL]
    exact ⟨_, rfl, _, _, rfl, R_idf _ _ _ _ hidf h12, _, _, rfl, rfl, rfl⟩
theorem fs_mapMissR (ht : P.underlying t = some (.map kt et)) (ko : KeyOk P kt good) {z : Value} {zA : AV} (hz : ∀ w, (zeroValue et).run P w = .ok z w) (hzA : ∀ (S : Nat → Prop) (w : World) (ρ : Pl), R S w zA ρ z) (hx : evu env x = some (.mrow ks vs)) {yv : AV} (hy : evu env y = some yv) (hyv : IsV yv kv) (hkeys : ∀ q, q ∈ ks → good q) (hkey : good kv) (hni : kv ∉ ks) :
    FStep P ⟨d, .lookup t x y true, ty, pos, af, g⟩ env h 0 (fun _ => .tup [zA, .b false]) (fun _ => []) := by
  refine fs_val fun ρ S a w p => ?_
  have h1 := p.evu hx
  simp only [R] at h1
  obtain ⟨b, l, ck, h3, _, h6, h7, h8⟩ := h1
  have h4 := hyv _ _ _ _ (p.evu hy)
  have h9 := find_none ko w h7 hkeys hkey hni
  refine ⟨.tuple #[z, .bool false], ?_, ?_⟩
  · simp [execOp, h3, h4, Instr.lookup, run_underlying ht, MapKept.run_getObj_map h6, ko.check w _ hkey, h9, hz]
  · simp only [R, RL]
    exact ⟨_, rfl, _, _, rfl, hzA S w ρ, _, _, rfl, rfl, rfl⟩
end
section
variable {P : Program} {env : Env} {h : Hp}
variable {d : Option Nat} {ty : TypeId} {pos : String} {af : Array Edge} {g : Option (Nat × Bool)}
variable {t kt et : TypeId} {good : Value → Prop} {x y : Operand} {k : Nat} {kv : Value} {ks : List Value} {vs : List AV}
theorem fs_mapMiss1 (ht : P.underlying t = some (.map kt et)) (ko : KeyOk P kt good) {z : Value} {zA : AV} (hz : ∀ w, (zeroValue et).run P w = .ok z w) (hzA : ∀ (S : Nat → Prop) (w : World) (ρ : Pl), R S w zA ρ z) (hx : evu env x = some (.mp k)) {yv : AV} (hy : evu env y = some yv) (hyv : IsV yv kv) (hk : h[k]? = some (.mapO ks vs)) (hkeys : ∀ q, q ∈ ks → good q) (hkey : good kv) (hni : kv ∉ ks) :
    FStep P ⟨d, .lookup t x y false, ty, pos, af, g⟩ env h 0 (fun _ => zA) (fun _ => []) := by
  refine fs_val fun ρ S a w p => ?_
  have h1 := p.evu hx
  simp only [R] at h1
  obtain ⟨b, o, h2, h3⟩ := h1
  have h4 := hyv _ _ _ _ (p.evu hy)
  obtain ⟨b', o', l, ck, h5, h6, h7, h8⟩ := map_find (p.blk k _ hk)
  rw [h2] at h5; cases h5
  have h9 := find_none ko w h7 hkeys hkey hni
  refine ⟨z, ?_, hzA S w ρ⟩
  simp [execOp, h3, h4, Instr.lookup, run_underlying ht, MapKept.run_getObj_map h6, ko.check w _ hkey, h9, hz]
end
section
variable {P : Program} {env : Env} {h : Hp}
theorem aw_drawT {n : Nat × Nat} {Q : Exit → Env → Hp → Prop} {id : Nat} {l : List Oper} (k nt : Nat) (presl pres : List (List Nat)) (ds : List Nat) (bads : List (List Nat)) (hm : P.follows .mixedOrders = true) (hn : n.1 = nt) (hc : chkTail l presl k = true) (hok : chkDraw (l.take k) pres ds bads nt = true)
    (hv : DW P n (l.take k) pres ds bads (dropE ds env) h 0 (dropE ds env) [] (fun v h => VC P n l.toArray (l.drop k) v h (fun v h => Q .normal v h))) (hnd : noDef (l.take k) = true := by rfl) (hnd2 : noDef (l.drop k) = true := by rfl) : AW P n (.region id l.toArray true) env h Q := by
  intro c ρ S a w QQ s hQ
  have hkl := (chkTail_ok hc).2.1
  have hany := any_draw2 pres ds bads (by rw [hn]; exact hok) hv c ρ S a w (fun e a w => e = .normal ∧ wpListIn (rd c.r) 0 P l.toArray (fun e a w => e = .normal ∧ QQ .normal a w) (l.drop k) a w) s fun env' h' ρ' S' a' w' kv s' =>
    ⟨rfl, wpList_in (fun e a w h => h.1) hnd2 (kv c ρ' S' a' w' _ s' fun env2 h2 ρ2 S2 a2 w2 k2 s2 => ⟨rfl, hQ .normal env2 h2 ρ2 S2 a2 w2 k2 s2⟩)⟩
  have hrep : ∀ m j, (Array.replicate m false).getD j false = false := fun m j => by
    simp only [Array.getD]
    split <;> simp
  refine wpIn_mono (wpIn_region_any (Q := fun e a w => e = .normal ∧ QQ .normal a w) hm (any_split_in hc hnd (fun e a w h => h.1) (fun a w h => h.2) (l.take k).toArray.size l.toArray.size _ (Array.replicate (l.take k).toArray.size false) (List.range k) a _ (by simp) (by simp; omega) (fun j hj => by rw [hrep, hrep]) (fun j hj => hrep _ _) (fun i o ho hi => by rw [hrep] at hi; cases hi) (fun j hj _ => List.mem_range.2 hj) (by simp; omega) (by simp; omega) hany)) fun e a w he => by obtain ⟨rfl, h3⟩ := he; exact h3
end
end Go.Ab
namespace Go.Ab
open Go Go.WideElems
section
variable {P : Program} {n : Nat × Nat} {ops : Array Oper} {env : Env} {h : Hp} {K : Env → Hp → Prop} {rest : List Oper} {Q : Exit → Env → Hp → Prop} {code : Code}
theorem aw_bufC (k j e : Nat) {cs : List AV} (hk : h[k]? = some (.cells cs)) (hj : cs[j]? = some .nils) (hv : AW P n code env (h.set k (.cells (cs.set j (.sl h.length 0 0 1))) ++ [.buf e []]) Q) : AW P n code env h Q := by
  intro c ρ S a w QQ s hQ
  refine hv c ρ S a w QQ ⟨s.size, s.defers, s.env, ?_, s.cm⟩ hQ
  have h1 := s.hs.alter (b1 := .cells (cs.set j (.sl h.length 0 0 1))) hk (fun hb => by
    simp only [RB] at hb ⊢
    obtain ⟨b, o, ys, h2, h3, h4⟩ := hb
    refine ⟨b, o, ys, h2, h3, RL_setv h4 fun y hy => ?_⟩
    obtain ⟨y', h5, h6⟩ := RL_get h4 _ _ hj
    rw [hy] at h5; cases h5
    rw [R_v h6]
    simp only [R]
    exact ⟨none, 0, rfl, Nat.zero_le _, .inl ⟨trivial, rfl⟩⟩) (by simp)
  have hd := h1.dom h.length (by simp)
  generalize hh : h.set k (.cells (cs.set j (.sl h.length 0 0 1))) = h' at h1 ⊢
  have hl : h.length = h'.length := by rw [← hh]; simp
  rw [hl] at hd
  have get : ∀ {j : Nat} {b : AB}, (h' ++ [.buf e []])[j]? = some b → h'[j]? = some b ∨ (j = h'.length ∧ b = .buf e []) := fun {j b} hj => by
    by_cases hlt : j < h'.length
    · rw [List.getElem?_append_left hlt] at hj; exact .inl hj
    · have := (List.getElem?_eq_some_iff.1 hj).1
      simp at this
      have e : j = h'.length := by omega
      subst e
      simp at hj
      exact .inr ⟨rfl, hj.symm⟩
  refine ⟨fun k hk => h1.dom k (by simp at hk; omega), h1.rng, fun k b hb => ?_, fun k b p hb hg hp => ?_, fun k k' b b' p p' hb hb' hg hg' hp hp' e => ?_, h1.stab, h1.ext, h1.st0, h1.st1, by simp; exact Nat.le_succ_of_le h1.mle, h1.keep, h1.glob⟩
  · rcases get hb with hb | ⟨rfl, rfl⟩
    · exact h1.blk k b hb
    · exact .inl ⟨rfl, hd⟩
  · rcases get hb with hb | ⟨rfl, rfl⟩
    · exact h1.live k b p hb hg hp
    · rw [hd] at hp; cases hp
  · rcases get hb with hb | ⟨rfl, rfl⟩
    · rcases get hb' with hb' | ⟨rfl, rfl⟩
      · exact h1.inj k k' b b' p p' hb hb' hg hg' hp hp' e
      · rw [hd] at hp'; cases hp'
    · rw [hd] at hp; cases hp
end
end Go.Ab
namespace Go.Ab
open Go Go.MapKept
end Go.Ab
namespace Go.Ab
open Go Go.MapKept
def Ent (n : Nat × Nat) (env : Env) (h : Hp) (env' : Env) (h' : Hp) : Prop :=
  ∀ c ρ S a w, Sim n c ρ S env h a w → ∃ ρ' S', Sim n c ρ' S' env' h' a w
def EnvLe (env : Env) : Env → Prop
  | [] => True
  | (t, x) :: r => look env t = some x ∧ EnvLe env r
theorem EnvLe.look {env : Env} : ∀ {env' : Env}, EnvLe env env' → ∀ t x, look env' t = some x → look env t = some x
  | [], _, t, x, h => by cases h
  | (k, u) :: r, h, t, x, hx => by
    rw [look_cons] at hx
    split at hx
    · rename_i he; subst he; cases hx; exact h.1
    · exact EnvLe.look h.2 t x hx
section
variable {P : Program} {n : Nat × Nat} {env env' : Env} {h h' : Hp} {Q : Exit → Env → Hp → Prop} {code : Code}
theorem Ent.of (he : h = h') (hv : EnvLe env env') : Ent n env h env' h' := fun _ ρ S _ _ s => by
  subst he; exact ⟨ρ, S, s.fewer hv.look⟩
theorem Ent.sub (hs : Sub n.2 env h env' h') : Ent n env h env' h' := fun _ _ S _ _ s =>
  let ⟨ρ', s'⟩ := s.sub hs; ⟨ρ', S, s'⟩
theorem Ent.trans {env2 : Env} {h2 : Hp} (a : Ent n env h env' h') (b : Ent n env' h' env2 h2) : Ent n env h env2 h2 := fun c ρ S a' w s => by
  obtain ⟨ρ', S', s'⟩ := a c ρ S a' w s
  exact b c ρ' S' a' w s'
end
end Go.Ab
namespace Go.Ab
open Go
def backP (L : List Nat) (pos k : Nat) : Nat := match L[k]? with
  | some j => j
  | none => pos
theorem HS.callP {c : Ctx} {ρ ρ' : Pl} {S S' : Nat → Prop} {H hin hout : Hp} {w w' : World} {L : List Nat} {pos : Nat} {b1 : AB} (s : HS c ρ S H w) (hL : L.length = hin.length) (hnd : L.Nodup) (hh : SubH (th L H.length) H 0 hin) (hng : ∀ b, b ∈ hin → b ≠ .gone)
    (hlen : hout.length = hin.length) (hp0 : ρ pos = Option.none) (hp1 : H[pos]? = some .gone) (hpm : c.m ≤ pos)
    (hs : HS (ctx0 w (fun k => ρ (th L H.length k)) S hin) ρ' S' (hout ++ [b1]) w') :
    ∃ ρ3 : Pl, HS c ρ3 S' ((putH H L (hout.map (AB.map (backP L pos)))).set pos (b1.map (backP L pos))) w' ∧ Later ρ ρ3 S S' w w' ∧ (∀ {x : AV} {y : Value}, R S' w' x ρ' y → R S' w' (x.map (backP L pos)) ρ3 y) ∧ ∀ j, j ≠ pos → ρ3 j = ρ j := by
  have hin_at : ∀ {i : Nat} {b : AB}, hin[i]? = some b → ∃ j, L[i]? = some j ∧ j < H.length ∧ H[j]? = some (b.map (th L H.length)) ∧ b.map (th L H.length) ≠ .gone := fun {i b} hb => by
    have hne := hng b (List.mem_of_getElem? hb)
    have hlt : i < L.length := by rw [hL]; exact (List.getElem?_eq_some_iff.1 hb).1
    have hj := List.getElem?_eq_getElem hlt
    have hth : th L H.length i = L[i] := by simp [th, hj]
    rcases hh.get i b hb with hg | hg
    · exact absurd hg hne
    · rw [Nat.zero_add, hth] at hg
      exact ⟨L[i], hj, (List.getElem?_eq_some_iff.1 hg).1, hg, by cases b <;> simp [AB.map] at * ⟩
  have thL : ∀ {i j : Nat}, L[i]? = some j → th L H.length i = j := fun hi => by simp [th, hi]
  have keep : ∀ {i j : Nat}, i < hin.length → L[i]? = some j → ρ' i = ρ j := fun {i j} hi hj => by
    have := hs.keep i hi
    simp only [ctx0] at this
    rw [this, thL hj]
  have hM : ∀ b, (ctx0 w (fun k => ρ (th L H.length k)) S hin).M b → w.heap.size ≤ b ∨ ∃ (i j : Nat) (o : Nat) (x : AB), hin[i]? = some x ∧ L[i]? = some j ∧ ρ j = some (b, o) := fun b hb => by
    rcases hb with hb | ⟨k, x, o, hb, _, hp⟩
    · exact .inl hb
    · obtain ⟨j, h3, _⟩ := hin_at hb
      exact .inr ⟨k, j, o, x, hb, h3, by rw [← thL h3]; exact hp⟩
  have hcM : ∀ b, (ctx0 w (fun k => ρ (th L H.length k)) S hin).M b → c.M b := fun b hb => by
    rcases hM b hb with hb | ⟨i, j, o, x, h3, h4, h5⟩
    · exact c.new b (Nat.le_trans s.ext.size hb)
    · obtain ⟨j', h6, _, h7, h8⟩ := hin_at h3
      rw [h4] at h6; cases h6
      exact (s.live j _ _ h7 h8 h5).1
  have hlow : ∀ b, b < w.heap.size → (ctx0 w (fun k => ρ (th L H.length k)) S hin).M b → ∃ (i j : Nat) (o : Nat) (x : AB), hin[i]? = some x ∧ L[i]? = some j ∧ ρ j = some (b, o) := fun b hlt hb => by
    rcases hM b hb with hb | hb
    · omega
    · exact hb
  have other : ∀ {k : Nat} {b : AB} {q : Nat × Nat}, H[k]? = some b → b ≠ .gone → k ∉ L → ρ k = some q → ¬ (ctx0 w (fun k => ρ (th L H.length k)) S hin).M q.1 := fun {k b q} hb hg hkL hq hm => by
    obtain ⟨i, j, o, x, h3, h4, h5⟩ := hlow q.1 (s.rng k q hq) hm
    obtain ⟨j', h6, _, h7, h8⟩ := hin_at h3
    rw [h4] at h6; cases h6
    have := s.inj k j _ _ q _ hb h7 hg h8 hq h5 rfl
    subst this
    exact hkL (List.mem_of_getElem? h4)
  have stM : ∀ b, S b → ¬ (ctx0 w (fun k => ρ (th L H.length k)) S hin).M b := fun b hb hm => by
    obtain ⟨i, j, o, x, h3, h4, h5⟩ := hlow b (s.stab b hb) hm
    obtain ⟨j', h6, _, h7, h8⟩ := hin_at h3
    rw [h4] at h6; cases h6
    exact (s.live j _ _ h7 h8 h5).2 hb
  have same : ∀ b, b < w.heap.size → ¬ (ctx0 w (fun k => ρ (th L H.length k)) S hin).M b → w'.heap[b]? = w.heap[b]? := fun b hb hm => hs.ext.same b hb hm
  have hposL : pos ∉ L := fun hm => by
    obtain ⟨i, hi⟩ := List.mem_iff_getElem?.1 hm
    have hlt : i < hin.length := by rw [← hL]; exact (List.getElem?_eq_some_iff.1 hi).1
    obtain ⟨j, h3, _, h4, h5⟩ := hin_at (List.getElem?_eq_getElem hlt)
    rw [hi] at h3; cases h3
    rw [hp1] at h4
    exact h5 (Option.some.inj h4).symm
  have hposH : pos < H.length := (List.getElem?_eq_some_iff.1 hp1).1
  let ρ3 : Pl := fun j => if j = pos then ρ' hin.length else ρ j
  have r3p : ρ3 pos = ρ' hin.length := if_pos rfl
  have r3o : ∀ j, j ≠ pos → ρ3 j = ρ j := fun j hj => if_neg hj
  have l : Later ρ ρ3 S S' w w' := by
    refine ⟨fun k q hq => ?_, hs.st0, fun b hb => same b (s.stab b hb) (stM b hb), fun _ _ _ _ _ hr => hs.ext.room hr⟩
    rw [r3o k (fun e => by rw [e, hp0] at hq; cases hq)]; exact hq
  have pl : ∀ k q, ρ' k = some q → ρ3 (backP L pos k) = some q := fun k q hq => by
    by_cases hk : k < hin.length
    · obtain ⟨j, h3, _, _⟩ := hin_at (List.getElem?_eq_getElem hk)
      have hbk : backP L pos k = j := by simp [backP, h3]
      have hjp : j ≠ pos := fun e => hposL (e ▸ List.mem_of_getElem? h3)
      rw [hbk, r3o j hjp, ← keep hk h3]; exact hq
    · by_cases hk2 : k = hin.length
      · have hbk : backP L pos k = pos := by unfold backP; rw [List.getElem?_eq_none (by omega)]
        rw [hbk, r3p, ← hk2]; exact hq
      · have := hs.dom k (by rw [List.length_append, hlen, List.length_singleton]; omega)
        rw [this] at hq; cases hq
  have shift : ∀ {x : AV} {y : Value}, R S' w' x ρ' y → R S' w' (x.map (backP L pos)) ρ3 y := fun {x y} hx => R_map' _ _ x y (R_later (fun _ h => h) (fun _ _ => rfl) x ρ' _ y pl (fun _ _ _ _ _ h => h) hx)
  have shiftB : ∀ {b : AB} {pp}, RB S' w' ρ' pp b → RB S' w' ρ3 pp (b.map (backP L pos)) := fun {b pp} hb => RB_map' _ _ (RB.later (ρ := ρ') (S := S') ⟨pl, fun _ h => h, fun _ _ => rfl, fun _ _ _ _ _ h => h⟩ (fun _ _ _ => rfl) hb)
  have get : ∀ {k : Nat} {b : AB}, ((putH H L (hout.map (AB.map (backP L pos)))).set pos (b1.map (backP L pos)))[k]? = some b →
      (k ≠ pos ∧ k ∉ L ∧ H[k]? = some b) ∨ (∃ (i : Nat) (b' : AB), (hout ++ [b1])[i]? = some b' ∧ b = b'.map (backP L pos) ∧ backP L pos i = k ∧ ρ3 k = ρ' i) := fun {k b} hb => by
    rw [List.getElem?_set] at hb
    by_cases hk : pos = k
    · rw [if_pos hk, if_pos (by rw [putH_length]; exact hposH)] at hb
      cases hb
      refine .inr ⟨hin.length, b1, by rw [← hlen]; simp, rfl, ?_, by rw [← hk]; exact r3p⟩
      unfold backP
      rw [List.getElem?_eq_none (by omega)]
      exact hk
    · rw [if_neg hk] at hb
      by_cases hkL : k ∈ L
      · obtain ⟨i, hi⟩ := List.mem_iff_getElem?.1 hkL
        have hiL : i < hin.length := by rw [← hL]; exact (List.getElem?_eq_some_iff.1 hi).1
        have hb' := List.getElem?_eq_getElem (l := hout) (i := i) (by omega)
        have hkl : k < H.length := by
          have := (List.getElem?_eq_some_iff.1 hb).1
          rwa [putH_length] at this
        rw [putH_at (b := (hout[i]'(by omega)).map (backP L pos)) hnd hi (by simp [hb']) hkl] at hb
        simp only [Option.some.injEq] at hb
        exact .inr ⟨i, _, by rw [List.getElem?_append_left (by omega)]; exact hb', hb.symm, by simp [backP, hi], by rw [r3o k (fun e => hk e.symm)]; exact (keep hiL hi).symm⟩
      · rw [putH_other _ _ _ hkL] at hb
        exact .inl ⟨fun e => hk e.symm, hkL, hb⟩
  have mapg : ∀ {θ : Nat → Nat} {b : AB}, b.map θ ≠ .gone → b ≠ .gone := fun hb e => hb (by rw [e]; rfl)
  refine ⟨ρ3, ⟨fun k hk => ?_, fun k q hq => ?_, fun k b hb => ?_, fun k b q hb hg hq => ?_, fun k k' b b' q q' hb hb' hg hg' hq hq' e => ?_, hs.stab, s.ext.trans hs.ext (fun b hb hlt => hcM b hb), fun b hb => hs.st0 b (s.st0 b hb), fun b hb => ?_, ?_, fun k hk => ?_, hs.glob⟩, l, shift, r3o⟩
  · rw [List.length_set, putH_length] at hk
    rw [r3o k (by omega)]
    exact s.dom k hk
  · by_cases hk : k = pos
    · rw [hk, r3p] at hq; exact hs.rng _ q hq
    · rw [r3o k hk] at hq; exact Nat.lt_of_lt_of_le (s.rng k q hq) hs.ext.size
  · rcases get hb with ⟨h3, h4, h5⟩ | ⟨i, b', h3, rfl, h4, h5⟩
    · rw [r3o k h3]
      by_cases hg : b = .gone
      · subst hg; trivial
      · exact RB.later l (fun b1 o1 hp => same b1 (s.rng k _ hp) (other h5 hg h4 hp)) (s.blk k b h5)
    · rw [h5]
      exact shiftB (hs.blk i b' h3)
  · rcases get hb with ⟨h3, h4, h5⟩ | ⟨i, b', h3, rfl, h4, h5⟩
    · rw [r3o k h3] at hq
      obtain ⟨h7, h8⟩ := s.live k b q h5 hg hq
      refine ⟨h7, fun hs' => ?_⟩
      rcases hs.st1 _ hs' with h9 | h9
      · exact h8 h9
      · exact other h5 hg h4 hq h9
    · rw [h5] at hq
      obtain ⟨h7, h8⟩ := hs.live i b' q h3 (mapg hg) hq
      exact ⟨hcM _ h7, h8⟩
  · rcases get hb with ⟨h3, h4, h5⟩ | ⟨i, b1, h3, rfl, h4, h5⟩ <;> rcases get hb' with ⟨h3', h4', h5'⟩ | ⟨i', b1', h3', rfl, h4', h5'⟩
    · rw [r3o k h3] at hq
      rw [r3o k' h3'] at hq'
      exact s.inj k k' b b' q q' h5 h5' hg hg' hq hq' e
    · rw [r3o k h3] at hq
      rw [h5'] at hq'
      have hl := (hs.live i' b1' q' h3' (mapg hg') hq').1
      rw [← e] at hl
      exact absurd hl (other h5 hg h4 hq)
    · rw [r3o k' h3'] at hq'
      rw [h5] at hq
      have hl := (hs.live i b1 q h3 (mapg hg) hq).1
      rw [e] at hl
      exact absurd hl (other h5' hg' h4' hq')
    · rw [h5] at hq
      rw [h5'] at hq'
      have := hs.inj i i' b1 b1' q q' h3 h3' (mapg hg) (mapg hg') hq hq' e
      subst this
      rw [← h4, ← h4']
  · rcases hs.st1 b hb with hb' | hb'
    · exact s.st1 b hb'
    · exact .inr (hcM b hb')
  · rw [List.length_set, putH_length]; exact s.mle
  · rw [r3o k (by omega)]
    exact s.keep k hk
theorem SubH.up {θ : Nat → Nat} {h H : Hp} (hb : ∀ (j : Nat) b, h[j]? = some b → b ≠ .gone → H[j]? = some b) : ∀ {hin : Hp} {i : Nat}, (∀ b, b ∈ hin → b ≠ .gone) → SubH θ h i hin → SubH θ H i hin
  | [], _, _, _ => trivial
  | b :: r, i, hng, hs => by
    refine ⟨?_, SubH.up hb (fun x hx => hng x (List.mem_cons_of_mem _ hx)) hs.2⟩
    rcases hs.1 with h1 | h1
    · exact .inl h1
    · refine .inr (hb _ _ h1 ?_)
      have := hng b List.mem_cons_self
      cases b <;> simp [AB.map] at *
section
variable {P : Program} {env : Env} {h : Hp} {d : Option Nat} {ty : TypeId} {pos : String} {af : Array Edge}
theorem as_callk (L : List Nat) {pp k : Nat} {nb b1 u1 : AB} {uu : AV} {dd : Nat} {x : Operand} {f : FuncId} {fs cs us xs : List AV} {args : List Operand} {ats : Array TypeId} {res : AV} {hin hout : Hp} (hx : evu env x = some (.clo (.func f) fs cs)) (ha : evL env args = some us)
    (hc : ACall P f xs hin res (hout ++ [b1])) (hxs : ∀ N, fs ++ us ++ cs = AV.mapL (th L N) xs) (hL : L.length = hin.length) (hnd : L.Nodup) (hh : ∀ N, SubH (th L N) h 0 hin) (hng : ∀ b, b ∈ hin → b ≠ .gone) (hlen : hout.length = hin.length)
    (hput : ∀ H : Hp, (∀ (j : Nat) b, h[j]? = some b → b ≠ .gone → H[j]? = some b) → putH H L (hout.map (AB.map (backP L pp))) = H.set k nb) (hu : res.map (backP L pp) = uu) (hb1 : b1.map (backP L pp) = u1) :
    AStep P ⟨some dd, .call { callee := .value x, args := args.toArray, argTypes := ats }, ty, pos, af, none⟩ env h pp k nb uu [u1] := by
  intro c ρ S a w H g p hbel hpp K' Q hK'
  obtain ⟨hr0, hH0, hm0⟩ : ρ pp = none ∧ H[pp]? = some .gone ∧ c.m ≤ pp := by
    rcases hpp with h0 | h0
    · cases h0
    · exact h0
  have hxv := p.evu hx
  simp only [R] at hxv
  obtain ⟨ys, zs, e1, h1, h2⟩ := hxv
  have hall : RL S w (fs ++ us ++ cs) ρ (ys.toList ++ args.map a.eval ++ zs.toList) := RL_append (RL_append h1 (evL_val p ha)) h2
  rw [hxs H.length] at hall
  have hargs := RL_map (th L H.length) ρ _ _ hall
  obtain ⟨hf, hc⟩ := hc
  have hsub := SubH.up hbel hng (hh H.length)
  have hs0 := g.hand hL hnd hsub
  have hcall := hc _ S w _ hs0 hargs
  unfold Oper.wp
  have hrun : (execOp a.eval ⟨some dd, .call { callee := .value x, args := args.toArray, argTypes := ats }, ty, pos, af, none⟩).run P w = .ok (.enter f (ys.toList ++ args.map a.eval ++ zs.toList).toArray) w := by
    have e2 : (ys ++ (args.toArray.map a.eval) ++ zs) = (ys.toList ++ args.map a.eval ++ zs.toList).toArray := by
      apply Array.ext'; simp
    simp only [execOp, resolve, e1, Deferred.ofValue, Sem.run_bind, Sem.run_pure, Result.andThen_ok, invoke]
    rw [e2]
    exact run_call hf
  rw [hrun]
  simp only [Oper.upon]
  refine hcall.mono ?_
  rintro e w' ⟨y, ρ', S', rfl, hs, hy⟩
  simp only
  obtain ⟨ρ3, g1, g2, g3, g4⟩ := g.callP hL hnd hsub hng hlen hr0 hH0 hm0 hs
  rw [hput H hbel, hb1] at g1
  exact hK' _ ρ3 S' w' g1 g2 (hu ▸ g3 hy) (fun j hj => g4 j (hj (by simp)))
end
end Go.Ab
namespace Go.Proofs.YtjpcpbbkelgkeaaGreatDoor
open Go Go.Ab
section
variable {P : Program} {env : Env} {h : Hp} {d : Option Nat} {ty : TypeId} {pos : String} {af : Array Edge} {g : Option (Nat × Bool)}
theorem fs_geqF {t t2 : TypeId} {x y : Operand} {a b : Int} (hx : evu env x = some (.i a)) (hy : evu env y = some (.i b)) (e : a < b) : FStep P ⟨d, .binOp .geq t x y t2, ty, pos, af, g⟩ env h 0 (fun _ => .b false) (fun _ => []) := by
  have := fs_geq (P := P) (d := d) (ty := ty) (pos := pos) (af := af) (g := g) (h := h) (t := t) (t2 := t2) hx hy
  simpa [show decide (a ≥ b) = false from decide_eq_false (by omega)] using this
theorem fs_lssT {t t2 : TypeId} {x y : Operand} {a b : Int} (hx : evu env x = some (.i a)) (hy : evu env y = some (.i b)) (e : a < b) : FStep P ⟨d, .binOp .lss t x y t2, ty, pos, af, g⟩ env h 0 (fun _ => .b true) (fun _ => []) := by
  have := fs_lss (P := P) (d := d) (ty := ty) (pos := pos) (af := af) (g := g) (h := h) (t := t) (t2 := t2) hx hy
  simpa [e] using this
theorem fs_lssF {t t2 : TypeId} {x y : Operand} {a b : Int} (hx : evu env x = some (.i a)) (hy : evu env y = some (.i b)) (e : b ≤ a) : FStep P ⟨d, .binOp .lss t x y t2, ty, pos, af, g⟩ env h 0 (fun _ => .b false) (fun _ => []) := by
  have := fs_lss (P := P) (d := d) (ty := ty) (pos := pos) (af := af) (g := g) (h := h) (t := t) (t2 := t2) hx hy
  simpa [show decide (a < b) = false from decide_eq_false (by omega)] using this
end
attribute [local irreducible] VC AW FStep ACall
set_option maxHeartbeats 4000000
theorem lt0 (L : List Nat) : ∀ i : Nat, i < 0 → L[i]? = some i := fun _ hi => absurd hi (Nat.not_lt_zero _)
abbrev stksA (l : List (Int × Int)) : List (List AV) := l.map fun x => [AV.i x.1, AV.i x.2]
theorem ints_get {l : List Int} {k : Nat} (h : k < l.length) : (ints l)[k]? = some [AV.i l[k]] := by simp [h]
end Go.Proofs.YtjpcpbbkelgkeaaGreatDoor
namespace Go.Proofs.YtjpcpbbkelgkeaaGreatDoor
open Go Go.Ab
attribute [local irreducible] VC AW FStep ACall
set_option maxHeartbeats 4000000
end Go.Proofs.YtjpcpbbkelgkeaaGreatDoor
namespace Go.Proofs.YtjpcpbbkelgkeaaGreatDoor
open Go Go.Ab
attribute [local irreducible] VC AW FStep ACall
set_option maxHeartbeats 4000000
end Go.Proofs.YtjpcpbbkelgkeaaGreatDoor
namespace Go.Proofs.YtjpcpbbkelgkeaaGreatDoor
open Go Go.Ab
attribute [local irreducible] VC AW FStep ACall
set_option maxHeartbeats 4000000
end Go.Proofs.YtjpcpbbkelgkeaaGreatDoor
namespace Go.Proofs.YtjpcpbbkelgkeaaGreatDoor
open Go Go.Ab
attribute [local irreducible] VC AW FStep ACall
set_option maxHeartbeats 4000000
end Go.Proofs.YtjpcpbbkelgkeaaGreatDoor
namespace Go.Proofs.YtjpcpbbkelgkeaaGreatDoor
open Go Go.Ab Go.Shelf Go.Proofs
shelf_lay Lays.n189 Nm 189 at Tryz as laysSort
theorem sort_c (l : List Int) (hl : l.length ≤ 17592186043904) : ACall Tryz.prog 55 [.sl 0 0 l.length 1] [.arr (ints l) 1] (.tup []) [.arr (ints (sorted l)) 1] :=
  acall_sort ⟨_, Tryz.func55, by kernel_rfl, by kernel_rfl⟩ (fun blk off cap zs w h1 h2 h3 => Any.slices_Sort_int laysSort blk off cap zs w h1 h2 h3) (fun p cap w => Any.slices_Sort_int_none laysSort p cap w) l hl
end Go.Proofs.YtjpcpbbkelgkeaaGreatDoor
namespace Go.Proofs.YtjpcpbbkelgkeaaGreatDoor
open Go Go.Ab
attribute [local irreducible] VC AW FStep ACall AY VY AIter
set_option maxHeartbeats 4000000
end Go.Proofs.YtjpcpbbkelgkeaaGreatDoor
namespace Go.Proofs.YtjpcpbbkelgkeaaGreatDoor
open Go Go.Ab
attribute [local irreducible] VC AW FStep ACall
set_option maxHeartbeats 4000000
end Go.Proofs.YtjpcpbbkelgkeaaGreatDoor
namespace Go.Proofs.YtjpcpbbkelgkeaaGreatDoor
open Go Go.Ab
attribute [local irreducible] VC AW FStep ACall
set_option maxHeartbeats 4000000
end Go.Proofs.YtjpcpbbkelgkeaaGreatDoor
namespace Go.Proofs.YtjpcpbbkelgkeaaGreatDoor
open Go Go.Ab
attribute [local irreducible] VC AW FStep ACall
set_option maxHeartbeats 4000000
end Go.Proofs.YtjpcpbbkelgkeaaGreatDoor
namespace Go.Fl
structure Flo where
  w : Int
  h : Int
  d : Int
  k : List Int
  o : List Int
def Flo.size (f : Flo) : Int := f.w * f.h * f.d
structure Fine (f : Flo) : Prop where
  w1 : 1 ≤ f.w
  h1 : 1 ≤ f.h
  d1 : 1 ≤ f.d
  kl : (f.k.length : Int) = f.w * f.h * f.d
  ol : f.o.length = f.k.length
  le : f.k.length ≤ 300
  k : ∀ (i : Nat) (h : i < f.k.length), 0 ≤ f.k[i] ∧ f.k[i] ≤ 6
  o : ∀ (i : Nat) (h : i < f.o.length), 0 ≤ f.o[i] ∧ f.o[i] ≤ 63
theorem le_mul_pos {a b : Int} (ha : 0 ≤ a) (hb : 1 ≤ b) : a ≤ a * b := by
  have := Int.mul_le_mul_of_nonneg_left hb ha
  rwa [Int.mul_one] at this
theorem Fine.bounds {f : Flo} (g : Fine f) : 1 ≤ f.w * f.h ∧ f.w ≤ f.w * f.h ∧ f.h ≤ f.w * f.h ∧ f.w * f.h ≤ f.w * f.h * f.d ∧ f.d ≤ f.w * f.h * f.d ∧ f.w * f.h * f.d ≤ 300 := by
  have h1 := le_mul_pos (a := f.w) (b := f.h) (by have := g.w1; omega) g.h1
  have h2 := le_mul_pos (a := f.h) (b := f.w) (by have := g.h1; omega) g.w1
  rw [Int.mul_comm f.h f.w] at h2
  have hw := g.w1
  have h3 := le_mul_pos (a := f.w * f.h) (b := f.d) (by omega) g.d1
  have h4 := le_mul_pos (a := f.d) (b := f.w * f.h) (by have := g.d1; omega) (by omega)
  rw [Int.mul_comm f.d] at h4
  have := g.kl
  have := g.le
  refine ⟨by omega, h1, h2, h3, h4, by omega⟩
def cellI (f : Flo) (x y z : Int) : Int := if x < 0 ∨ y < 0 ∨ z < 0 ∨ f.w ≤ x ∨ f.h ≤ y ∨ f.d ≤ z then -1 else (z * f.h + y) * f.w + x
def dxI (d : Int) : Int := if d = 0 then 1 else if d = 2 then -1 else 0
def dyI (d : Int) : Int := if d = 1 then 1 else if d = 3 then -1 else 0
def dzI (d : Int) : Int := if d = 4 then 1 else if d = 5 then -1 else 0
def besideI (f : Flo) (c d : Int) : Int := if c < 0 ∨ f.size ≤ c ∨ d < 0 ∨ 6 ≤ d then -1 else cellI f (c % f.w + dxI d) (c / f.w % f.h + dyI d) (c / (f.w * f.h) + dzI d)
def oppI (d : Int) : Int := if d = 0 then 2 else if d = 1 then 3 else if d = 2 then 0 else if d = 3 then 1 else if d = 4 then 5 else if d = 5 then 4 else -1
def bitI (f : Flo) (c d : Int) : Int := (f.o.getD c.toNat 0 / 2 ^ d.toNat) % 2
def kindI (f : Flo) (c : Int) : Int := f.k.getD c.toNat 0
def passI (f : Flo) (c n d : Int) : Prop := kindI f c ≠ 0 ∧ kindI f n ≠ 0 ∧ bitI f c d ≠ 0 ∧ (d = 4 ∨ d = 5 → kindI f c = 6 ∧ kindI f n = 6)
instance (f : Flo) (c n d : Int) : Decidable (passI f c n d) := by unfold passI; infer_instance
def nextI (f : Flo) (c d : Int) : Option Int := if 0 ≤ besideI f c d ∧ passI f c (besideI f c d) d then some (besideI f c d) else none
def backI (f : Flo) (c d : Int) : Option Int := if 0 ≤ besideI f c (oppI d) ∧ (nextI f (besideI f c (oppI d)) d).isSome = true then some (besideI f c (oppI d)) else none
section
variable {f : Flo}
theorem at_range (g : Fine f) {c : Int} (h0 : 0 ≤ c) (h1 : c < f.size) : (0 ≤ c % f.w ∧ c % f.w < f.w) ∧ (0 ≤ c / f.w % f.h ∧ c / f.w % f.h < f.h) ∧ (0 ≤ c / (f.w * f.h) ∧ c / (f.w * f.h) < f.d) := by
  have hw := g.w1
  have hh := g.h1
  obtain ⟨b1, _⟩ := g.bounds
  refine ⟨⟨Int.emod_nonneg _ (by omega), Int.emod_lt_of_pos _ (by omega)⟩, ⟨Int.emod_nonneg _ (by omega), Int.emod_lt_of_pos _ (by omega)⟩, Int.ediv_nonneg h0 (by omega), ?_⟩
  refine Int.ediv_lt_of_lt_mul (by omega) ?_
  rw [Int.mul_comm]; exact h1
theorem at_cell (g : Fine f) {c : Int} (h0 : 0 ≤ c) (h1 : c < f.size) : (c / (f.w * f.h) * f.h + c / f.w % f.h) * f.w + c % f.w = c := by
  have hw := g.w1
  have e1 : c / (f.w * f.h) = c / f.w / f.h := (Int.ediv_ediv_of_nonneg (by omega)).symm
  rw [e1]
  have e2 : c / f.w / f.h * f.h + c / f.w % f.h = c / f.w := Int.ediv_mul_add_emod _ _
  rw [e2]
  exact Int.ediv_mul_add_emod _ _
theorem cell_back (g : Fine f) {x y z : Int} (hx : 0 ≤ x ∧ x < f.w) (hy : 0 ≤ y ∧ y < f.h) (hz : 0 ≤ z ∧ z < f.d) :
    (0 ≤ (z * f.h + y) * f.w + x ∧ (z * f.h + y) * f.w + x < f.size) ∧ ((z * f.h + y) * f.w + x) % f.w = x ∧ ((z * f.h + y) * f.w + x) / f.w % f.h = y ∧ ((z * f.h + y) * f.w + x) / (f.w * f.h) = z := by
  have hw := g.w1
  have hh := g.h1
  have e1 : ((z * f.h + y) * f.w + x) / f.w = z * f.h + y := by
    rw [Int.add_comm, Int.add_mul_ediv_right _ _ (by omega), Int.ediv_eq_zero_of_lt hx.1 hx.2, Int.zero_add]
  have e2 : (z * f.h + y) / f.h = z := by
    rw [Int.add_comm, Int.add_mul_ediv_right _ _ (by omega), Int.ediv_eq_zero_of_lt hy.1 hy.2, Int.zero_add]
  have n1 : 0 ≤ z * f.h := Int.mul_nonneg hz.1 (by omega)
  have n2 : 0 ≤ (z * f.h + y) * f.w := Int.mul_nonneg (by omega) (by omega)
  refine ⟨⟨by omega, ?_⟩, ?_, ?_, ?_⟩
  · have k1 : z * f.h ≤ (f.d - 1) * f.h := Int.mul_le_mul_of_nonneg_right (by omega) (by omega)
    rw [Int.sub_mul, Int.one_mul] at k1
    have k2 : (z * f.h + y) * f.w ≤ (f.d * f.h - 1) * f.w := Int.mul_le_mul_of_nonneg_right (by omega) (by omega)
    rw [Int.sub_mul, Int.one_mul] at k2
    have k3 : f.d * f.h * f.w = f.size := by unfold Flo.size; rw [Int.mul_comm, ← Int.mul_assoc, Int.mul_right_comm]
    omega
  · rw [Int.add_comm, Int.add_mul_emod_self_right, Int.emod_eq_of_lt hx.1 hx.2]
  · rw [e1, Int.add_comm, Int.add_mul_emod_self_right, Int.emod_eq_of_lt hy.1 hy.2]
  · rw [← Int.ediv_ediv_of_nonneg (by omega), e1, e2]
theorem beside_at (g : Fine f) {c d : Int} (h : 0 ≤ besideI f c d) : (0 ≤ c ∧ c < f.size) ∧ (0 ≤ d ∧ d < 6) ∧ besideI f c d < f.size ∧ besideI f c d % f.w = c % f.w + dxI d ∧ besideI f c d / f.w % f.h = c / f.w % f.h + dyI d ∧ besideI f c d / (f.w * f.h) = c / (f.w * f.h) + dzI d := by
  unfold besideI at h ⊢
  split at h
  · omega
  · rename_i h0
    rw [if_neg h0]
    unfold cellI at h ⊢
    split at h
    · omega
    · rename_i h1
      rw [if_neg h1]
      obtain ⟨a0, a1, a2, a3⟩ := cell_back g (x := c % f.w + dxI d) (y := c / f.w % f.h + dyI d) (z := c / (f.w * f.h) + dzI d) (by omega) (by omega) (by omega)
      exact ⟨by omega, by omega, a0.2, a1, a2, a3⟩
theorem beside_cell (g : Fine f) {c d n : Int} (hc : 0 ≤ c ∧ c < f.size) (hd : 0 ≤ d ∧ d < 6) (hn : 0 ≤ n ∧ n < f.size) (h1 : n % f.w = c % f.w + dxI d) (h2 : n / f.w % f.h = c / f.w % f.h + dyI d) (h3 : n / (f.w * f.h) = c / (f.w * f.h) + dzI d) : besideI f c d = n := by
  unfold besideI
  rw [if_neg (by omega), ← h1, ← h2, ← h3]
  unfold cellI
  have := at_range g hn.1 hn.2
  rw [if_neg (by omega)]
  exact at_cell g hn.1 hn.2
theorem opp_d {d : Int} (hd : 0 ≤ d ∧ d < 6) : (0 ≤ oppI d ∧ oppI d < 6) ∧ oppI (oppI d) = d ∧ oppI d ≠ d ∧ dxI (oppI d) = - dxI d ∧ dyI (oppI d) = - dyI d ∧ dzI (oppI d) = - dzI d := by
  have h : d = 0 ∨ d = 1 ∨ d = 2 ∨ d = 3 ∨ d = 4 ∨ d = 5 := by omega
  rcases h with rfl | rfl | rfl | rfl | rfl | rfl <;> decide
theorem opp_off {d : Int} (hd : d < 0 ∨ 6 ≤ d) : oppI d = -1 := by
  unfold oppI
  repeat rw [if_neg (by omega)]
theorem d_far {d : Int} (hd : 0 ≤ d ∧ d < 6) : (dxI d).natAbs + (dyI d).natAbs + (dzI d).natAbs = 1 := by
  have h : d = 0 ∨ d = 1 ∨ d = 2 ∨ d = 3 ∨ d = 4 ∨ d = 5 := by omega
  rcases h with rfl | rfl | rfl | rfl | rfl | rfl <;> decide
theorem beside_opp (g : Fine f) {c d : Int} (h : 0 ≤ besideI f c d) : besideI f (besideI f c d) (oppI d) = c ∧ besideI f c d ≠ c := by
  obtain ⟨h1, h2, h3, h4, h5, h6⟩ := beside_at g h
  obtain ⟨o1, _, _, o4, o5, o6⟩ := opp_d h2
  refine ⟨beside_cell g ⟨h, h3⟩ o1 h1 (by omega) (by omega) (by omega), fun e => ?_⟩
  rw [e] at h4 h5 h6
  have := d_far h2
  omega
theorem beside_iff (g : Fine f) {c d n : Int} (hd : 0 ≤ d ∧ d < 6) (hn : 0 ≤ n) (hc : 0 ≤ c) : besideI f c d = n ↔ besideI f n (oppI d) = c := by
  obtain ⟨o1, o2, _⟩ := opp_d hd
  constructor
  · intro h
    have := (beside_opp g (c := c) (d := d) (by omega)).1
    rw [h] at this; exact this
  · intro h
    have := (beside_opp g (c := n) (d := oppI d) (by omega)).1
    rw [h, o2] at this; exact this
theorem next_some (g : Fine f) {c d n : Int} (h : nextI f c d = some n) : (0 ≤ c ∧ c < f.size) ∧ (0 ≤ d ∧ d < 6) ∧ (0 ≤ n ∧ n < f.size) ∧ besideI f c d = n ∧ passI f c n d := by
  unfold nextI at h
  split at h
  · rename_i h1
    cases h
    obtain ⟨a1, a2, a3, _⟩ := beside_at g h1.1
    exact ⟨a1, a2, ⟨h1.1, a3⟩, rfl, h1.2⟩
  · cases h
theorem back_next (g : Fine f) {c d p : Int} : backI f c d = some p ↔ nextI f p d = some c := by
  constructor
  · intro h
    unfold backI at h
    split at h
    · rename_i h1
      cases h
      obtain ⟨n, hn⟩ := Option.isSome_iff_exists.1 h1.2
      obtain ⟨a1, a2, a3, a4, a5⟩ := next_some g hn
      have := (beside_opp g h1.1).1
      obtain ⟨o1, o2, _⟩ := opp_d a2
      rw [o2, a4] at this
      rw [hn, this]
    · cases h
  · intro h
    obtain ⟨a1, a2, a3, a4, a5⟩ := next_some g h
    have hb : besideI f c (oppI d) = p := (beside_iff g a2 a3.1 a1.1).1 a4
    unfold backI
    rw [hb, if_pos ⟨a1.1, by rw [h]; rfl⟩]
end
end Go.Fl
namespace Go.Proofs.YtjpcpbbkelgkeaaGreatDoor
open Go Go.Ab Go.Fl
attribute [local irreducible] VC AW FStep ACall
set_option maxHeartbeats 4000000
theorem b_ret {a b : Bool} (h : a = b) : AV.b a = AV.b b := by rw [h]
abbrev floorC (f : Flo) : List AV := [.i f.w, .i f.h, .i f.d, .rowE (ints f.k) 1, .rowE (ints f.o) 1]
end Go.Proofs.YtjpcpbbkelgkeaaGreatDoor
namespace Go.Proofs.YtjpcpbbkelgkeaaGreatDoor
open Go Go.Ab Go.Fl
attribute [local irreducible] VC AW FStep ACall
set_option maxHeartbeats 4000000
theorem ints_getI {l : List Int} {j : Int} (h0 : 0 ≤ j) (h : j < l.length) : (ints l)[j.toNat]? = some [AV.i (l[j.toNat]'(by omega))] := ints_get (by omega)
theorem ints_getD {l : List Int} {j : Int} (h0 : 0 ≤ j) (h : j < l.length) : (ints l)[j.toNat]? = some [AV.i (l.getD j.toNat 0)] := by
  rw [ints_getI h0 h]; simp [List.getD_eq_getElem?_getD, List.getElem?_eq_getElem (show j.toNat < l.length by omega)]
abbrev floorA (f : Flo) : AV := .agg [.i f.w, .i f.h, .i f.d, .rowE (ints f.k) 1, .rowE (ints f.o) 1]
abbrev optA (x : Option Int) : AV := .tup [.i (x.getD 0), .b x.isSome]
theorem size_c (f : Flo) (h1 : 0 ≤ f.w * f.h ∧ f.w * f.h ≤ 1152921504606846976) (h2 : 0 ≤ f.w * f.h * f.d ∧ f.w * f.h * f.d ≤ 1152921504606846976) : ACall Tryz.prog 118 [floorA f] [] (.i f.size) [] := by
  refine acall T Tryz.func118 rfl rfl rfl rfl ?_
  repeat' (first|refine wS ?_|refine wR ?_|(refine rg 0 ?_;refine vc_n (by exact fs_box rfl rfl) rfl ?_;refine aV ?_)|(refine rg 1 ?_;refine fV T ?_;refine lV T ?_;refine fV T ?_;refine lV T ?_;refine vV (by exact fs_mulr rfl rfl (by omega) (by omega)) ?_;refine fV T ?_;refine lV T ?_;refine vV (by exact fs_mulr rfl rfl (by omega) (by omega)) ?_;refine aV ?_)|refine nZ ?_)
  exact ret_plain (.inl rfl) rfl rfl
section
variable {f : Flo}
theorem size_f (g : Fine f) : ACall Tryz.prog 118 [floorA f] [] (.i f.size) [] := by
  have := g.bounds
  exact size_c f (by omega) (by omega)
theorem is_c (g : Fine f) (c : Int) : ACall Tryz.prog 96 [floorA f, .i c] [] (.b (decide (0 ≤ c) && decide (c < f.size))) [] := by
  have hs := size_f g
  refine acall T Tryz.func96 rfl rfl rfl rfl ?_
  repeat' (first|refine wS ?_|refine wR ?_|(refine rg 0 ?_;refine vc_n (by exact fs_box rfl rfl) rfl ?_;refine aV ?_)|(refine rg 1 ?_;(all_goals (refine mV ?_;refine vV (by exact fs_geq rfl rfl) ?_;refine mV ?_));(all_goals (refine vc_split rfl rfl (fun hb=>?_) (fun hb=>?_)<;>((rw [hb];(try simp only [nm] at hb);try ((exfalso;omega);done)))));(all_goals first|(refine gT ?_;(refine mV ?_);refine gT ?_;(refine lV T ?_);refine gT ?_;(refine vV (by exact kC (hs)) ?_);refine gT ?_;(refine vV (by exact fs_lss rfl rfl) ?_))|(iterate 4 refine gF ?_));(all_goals ((refine pV ?_);refine aV ?_)))|refine nZ ?_)
  all_goals
    refine ret_plain (.inl rfl) rfl (b_ret ?_)
    simp [*]
theorem cell_c (g : Fine f) (x y z : Int) : ACall Tryz.prog 99 [floorA f, .i x, .i y, .i z] [] (.i (cellI f x y z)) [] := by
  have hb := g.bounds
  have hw := g.w1
  have hh := g.h1
  have hd1 := g.d1
  by_cases hr : x < 0 ∨ y < 0 ∨ z < 0 ∨ f.w ≤ x ∨ f.h ≤ y ∨ f.d ≤ z
  · have e : cellI f x y z = -1 := by unfold cellI; rw [if_pos hr]
    rw [e]
    refine acall T Tryz.func99 rfl rfl rfl rfl ?_
    repeat' (first|refine wS ?_|refine wR ?_|refine wT ?_|(refine wC rfl (fun hb=>?_) (fun hb=>?_)<;>(((try simp only [nm] at hb);try (exfalso;omega))))|(refine rg 0 ?_;refine vc_n (by exact fs_box rfl rfl) rfl ?_;refine aV ?_)|(refine rg 1 ?_;(all_goals (refine mV ?_;refine mV ?_;refine mV ?_;refine vV (by exact fs_min3 rfl rfl rfl) ?_;refine vV (by exact fs_lss rfl rfl) ?_;refine mV ?_));(all_goals (refine vc_split rfl rfl (fun hb=>?_) (fun hb=>?_)<;>((rw [hb];(try simp only [nm] at hb);try ((exfalso;omega);done)))));(all_goals first|(refine gT ?_;(refine mV ?_);refine gT ?_;(refine fV T ?_);refine gT ?_;(refine lV T ?_);refine gT ?_;(refine vV (by exact fs_geq rfl rfl) ?_))|(iterate 4 refine gF ?_));(all_goals ((refine pV ?_);refine mV ?_));(all_goals first|(refine gK ?_)|(refine vc_split rfl rfl (fun hb=>?_) (fun hb=>?_)<;>((rw [hb];(try simp only [nm] at hb);try ((exfalso;omega);done)))));(all_goals first|(refine gT ?_;(refine mV ?_);refine gT ?_;(refine fV T ?_);refine gT ?_;(refine lV T ?_);refine gT ?_;(refine vV (by exact fs_geq rfl rfl) ?_))|(iterate 4 refine gF ?_));(all_goals ((refine pV ?_);refine mV ?_));(all_goals first|(refine gK ?_)|(refine vc_split rfl rfl (fun hb=>?_) (fun hb=>?_)<;>((rw [hb];(try simp only [nm] at hb);try ((exfalso;omega);done)))));(all_goals first|(refine gT ?_;(refine mV ?_);refine gT ?_;(refine fV T ?_);refine gT ?_;(refine lV T ?_);refine gT ?_;(refine vV (by exact fs_geq rfl rfl) ?_))|(iterate 4 refine gF ?_));(all_goals (refine pV ?_)))|(refine rg 2 ?_;refine aV ?_)|refine nZ ?_)
    all_goals first | (exfalso; omega) | exact ret_plain (.inl rfl) rfl rfl
  · have e : cellI f x y z = (z * f.h + y) * f.w + x := by unfold cellI; rw [if_neg hr]
    rw [e]
    obtain ⟨c1, _⟩ := cell_back g (x := x) (y := y) (z := z) (by omega) (by omega) (by omega)
    have n1 : 0 ≤ z * f.h := Int.mul_nonneg (by omega) (by omega)
    have n3 : z * f.h + y ≤ (z * f.h + y) * f.w := le_mul_pos (by omega) (by omega)
    have hsz : f.size = f.w * f.h * f.d := rfl
    refine acall T Tryz.func99 rfl rfl rfl rfl ?_
    repeat' (first|refine wS ?_|refine wK ?_|refine wR ?_|(refine wC rfl (fun hb=>?_) (fun hb=>?_)<;>(((try simp only [nm] at hb);try (exfalso;omega))))|(refine rg 0 ?_;refine vc_n (by exact fs_box rfl rfl) rfl ?_;refine aV ?_)|(refine rg 1 ?_;(all_goals (refine mV ?_;refine mV ?_;refine mV ?_;refine vV (by exact fs_min3 rfl rfl rfl) ?_;refine vV (by exact fs_lss rfl rfl) ?_;refine mV ?_));(all_goals (refine vc_split rfl rfl (fun hb=>?_) (fun hb=>?_)<;>((rw [hb];(try simp only [nm] at hb);try ((exfalso;omega);done)))));(all_goals (refine gT ?_;(refine mV ?_);refine gT ?_;(refine fV T ?_);refine gT ?_;(refine lV T ?_);refine gT ?_;(refine vV (by exact fs_geq rfl rfl) ?_)));(all_goals ((refine pV ?_);refine mV ?_));(all_goals (refine vc_split rfl rfl (fun hb=>?_) (fun hb=>?_)<;>((rw [hb];(try simp only [nm] at hb);try ((exfalso;omega);done)))));(all_goals (refine gT ?_;(refine mV ?_);refine gT ?_;(refine fV T ?_);refine gT ?_;(refine lV T ?_);refine gT ?_;(refine vV (by exact fs_geq rfl rfl) ?_)));(all_goals ((refine pV ?_);refine mV ?_));(all_goals (refine vc_split rfl rfl (fun hb=>?_) (fun hb=>?_)<;>((rw [hb];(try simp only [nm] at hb);try ((exfalso;omega);done)))));(all_goals (refine gT ?_;(refine mV ?_);refine gT ?_;(refine fV T ?_);refine gT ?_;(refine lV T ?_);refine gT ?_;(refine vV (by exact fs_geq rfl rfl) ?_)));(all_goals (refine pV ?_)))|(refine rg 3 ?_;refine mV ?_;refine fV T ?_;refine lV T ?_;refine vV (by exact fs_mulr rfl rfl (by omega) (by omega)) ?_;refine mV ?_;refine vV (by exact fs_addr rfl rfl (by omega) (by omega)) ?_;refine fV T ?_;refine lV T ?_;refine vV (by exact fs_mulr rfl rfl (by omega) (by omega)) ?_;refine mV ?_;refine vV (by exact fs_addr rfl rfl (by omega) (by omega)) ?_;refine aV ?_)|refine nZ ?_)
    all_goals first | (exfalso; omega) | exact ret_plain (.inl rfl) rfl rfl
def atI (f : Flo) (c : Int) : Int × Int × Int := if 0 ≤ c ∧ c < f.size then (c % f.w, c / f.w % f.h, c / (f.w * f.h)) else (0, 0, 0)
theorem fat_c (g : Fine f) (c : Int) : ACall Tryz.prog 97 [floorA f, .i c] [] (.tup [.i (atI f c).1, .i (atI f c).2.1, .i (atI f c).2.2]) [] := by
  have hb := g.bounds
  have hw := g.w1
  have hh := g.h1
  have hd1 := g.d1
  have hi := is_c g c
  have hsz : f.size = f.w * f.h * f.d := rfl
  by_cases hr : 0 ≤ c ∧ c < f.size
  · rw [show (decide (0 ≤ c) && decide (c < f.size)) = true by simp [hr]] at hi
    have e : atI f c = (c % f.w, c / f.w % f.h, c / (f.w * f.h)) := by unfold atI; rw [if_pos hr]
    rw [e]
    have hq : 0 ≤ c / f.w := Int.ediv_nonneg hr.1 (by omega)
    refine acall T Tryz.func97 rfl rfl rfl rfl ?_
    repeat' (first|refine wS ?_|refine wK ?_|refine wR ?_|refine wU ?_|(refine rg 0 ?_;refine vc_n (by exact fs_box rfl rfl) rfl ?_;refine aV ?_;refine aV ?_;refine aV ?_)|(refine rg 1 ?_;refine lV T ?_;refine mV ?_;refine vV (by exact kC (hi)) ?_;refine vV (by exact fs_not rfl) ?_)|(((refine aw_draw2k (id := 3) 29 [[],[],[1],[0,1,2],[],[],[5],[4,5,6],[],[8],[4,5,6,7,8,9],[],[],[12],[],[14],[12,13,14,15],[11,12,13,14,15,16],[0,1,2,3],[0,1,2,3,4,5,6,7,8,9,10,18]] [11,12,13,14,15,16,17,18,19,20,21,22,23,24,25,26,27,28,4,5] [[],[11],[11],[],[11,12,13,14],[11,12,13,14,15],[11,12,13,14,15],[11,12,13,14],[11,12,13,14,15,16,17,18],[11,12,13,14,15,16,17,18],[11,12,13,14],[11,12,13,14,15,16,17,18,19,20,21],[11,12,13,14,15,16,17,18,19,20,21,22],[11,12,13,14,15,16,17,18,19,20,21,22],[11,12,13,14,15,16,17,18,19,20,21,22,23,24],[11,12,13,14,15,16,17,18,19,20,21,22,23,24],[11,12,13,14,15,16,17,18,19,20,21,22],[11,12,13,14,15,16,17,18,19,20,21],[15,16,17,18,19,20,21,22,23,24,25,26,27,28],[22,23,24,25,26,27,28]] mixedP rfl (by decide +kernel) ?_));(all_goals (refine dV rfl (by exact fs_move rfl) ?_));(all_goals (refine dV rfl (by exact fs_fieldAddr T rfl rfl rfl) ?_));(all_goals (refine dV rfl (by exact fs_load T rfl rfl rfl rfl) ?_));(all_goals (refine dV rfl (by exact fs_remr rfl rfl (by omega) (by omega)) ?_));(all_goals (refine dV rfl (by exact fs_move rfl) ?_));(all_goals (refine dV rfl (by exact fs_fieldAddr T rfl rfl rfl) ?_));(all_goals (refine dV rfl (by exact fs_load T rfl rfl rfl rfl) ?_));(all_goals (refine dV rfl (by exact fs_quor rfl rfl (by omega) (by omega) (by omega)) ?_));(all_goals (refine dV rfl (by exact fs_fieldAddr T rfl rfl rfl) ?_));(all_goals (refine dV rfl (by exact fs_load T rfl rfl rfl rfl) ?_));(all_goals (refine dV rfl (by exact fs_remr rfl rfl (by omega) (by omega)) ?_));(all_goals (refine dV rfl (by exact fs_move rfl) ?_));(all_goals (refine dV rfl (by exact fs_fieldAddr T rfl rfl rfl) ?_));(all_goals (refine dV rfl (by exact fs_load T rfl rfl rfl rfl) ?_));(all_goals (refine dV rfl (by exact fs_fieldAddr T rfl rfl rfl) ?_));(all_goals (refine dV rfl (by exact fs_load T rfl rfl rfl rfl) ?_));(all_goals (refine dV rfl (by exact fs_mulr rfl rfl (by omega) (by omega)) ?_));(all_goals (refine dV rfl (by exact fs_quor rfl rfl (by omega) (by omega) (by omega)) ?_));(all_goals (refine dV rfl (by exact fs_assign rfl) ?_));(all_goals (refine dV rfl (by exact fs_assign rfl) ?_));(all_goals (refine dw_fin rfl rfl (by ((dsimp only [ln1,ln2,List.append_nil,ln4,ln5,ln6,ln7,ln8,ln9,putAt,putd,allObjs,argEnv,un_v,un_ptr,un_ep,un_pr,un_sl,un_mp,un_row,un_agg,un_tup,un_clo,Nat.zero_add,lnb,Nat.reduceAdd,lnc,lnd];done))) ?_;refine aV ?_)))|refine nZ ?_)
    all_goals first | (exfalso; omega) | exact ret_plain (.inl rfl) rfl rfl
  · rw [show (decide (0 ≤ c) && decide (c < f.size)) = false by rw [← Bool.not_eq_true]; simp; omega] at hi
    have e : atI f c = (0, 0, 0) := by unfold atI; rw [if_neg hr]
    rw [e]
    refine acall T Tryz.func97 rfl rfl rfl rfl ?_
    repeat' (first|refine wS ?_|refine wR ?_|refine wT ?_|(refine rg 0 ?_;refine vc_n (by exact fs_box rfl rfl) rfl ?_;refine aV ?_;refine aV ?_;refine aV ?_)|(refine rg 1 ?_;refine lV T ?_;refine mV ?_;refine vV (by exact kC (hi)) ?_;refine vV (by exact fs_not rfl) ?_)|(refine rg 2 ?_;refine aV ?_;refine aV ?_;refine aV ?_)|refine nZ ?_)
    all_goals exact ret_plain (.inl rfl) rfl rfl
theorem steps_c : ACall Tryz.prog 98 [] [] (.agg [.i 1, .i 0, .i 0, .i 0, .i 1, .i 0, .i (-1), .i 0, .i 0, .i 0, .i (-1), .i 0, .i 0, .i 0, .i 1, .i 0, .i 0, .i (-1)]) [] := by
  refine acall T Tryz.func98 rfl rfl rfl rfl ?_
  repeat' (first|refine wS ?_|refine wR ?_|(refine rg 0 ?_;refine vc_n (by exact fs_alloc T rfl) rfl ?_)|(refine rg 1 ?_;refine vV (by exact fs_build T rfl rfl rfl rfl) ?_;refine vV (by exact fs_build T rfl rfl rfl rfl) ?_;refine vV (by exact fs_build T rfl rfl rfl rfl) ?_;refine vV (by exact fs_build T rfl rfl rfl rfl) ?_;refine vV (by exact fs_build T rfl rfl rfl rfl) ?_;refine vV (by exact fs_build T rfl rfl rfl rfl) ?_;refine vV (by exact fs_buildArr T rfl rfl rfl rfl rfl) ?_;refine vc_store T rfl rfl rfl rfl rfl rfl (by decide) rfl ?_)|refine nZ ?_)
  exact ret_plain (.inl rfl) rfl rfl
theorem beside_c (g : Fine f) (c d : Int) : ACall Tryz.prog 74 [floorA f, .i c, .i d] [] (.i (besideI f c d)) [] := by
  have hb := g.bounds
  have hw := g.w1
  have hh := g.h1
  have hd1 := g.d1
  have hi := is_c g c
  have hsz : f.size = f.w * f.h * f.d := rfl
  by_cases hr : c < 0 ∨ f.size ≤ c ∨ d < 0 ∨ 6 ≤ d
  · have e : besideI f c d = -1 := by unfold besideI; rw [if_pos hr]
    rw [e]
    refine acall T Tryz.func74 rfl rfl rfl rfl ?_
    by_cases hc : 0 ≤ c ∧ c < f.size
    · rw [show (decide (0 ≤ c) && decide (c < f.size)) = true by simp [hc]] at hi
      repeat' (first|refine wS ?_|refine wR ?_|refine wT ?_|(refine wC rfl (fun hb=>?_) (fun hb=>?_)<;>(((try simp only [nm] at hb);try (exfalso;omega))))|(refine rg 0 ?_;refine vc_n (by exact fs_box rfl rfl) rfl ?_;refine aV ?_)|(refine rg 1 ?_;(all_goals (refine lV T ?_;refine mV ?_;refine vV (by exact kC (hi)) ?_;refine vV (by exact fs_not rfl) ?_;refine mV ?_));(all_goals (refine gK ?_));(all_goals (refine gT ?_;(refine mV ?_);refine gT ?_;(refine vV (by exact fs_lss rfl rfl) ?_)));(all_goals ((refine pV ?_);refine mV ?_));(all_goals (refine vc_split rfl rfl (fun hb=>?_) (fun hb=>?_)<;>((rw [hb];(try simp only [nm] at hb);try ((exfalso;omega);done)))));(all_goals first|(refine gT ?_;(refine mV ?_);refine gT ?_;(refine vV (by exact fs_geq rfl rfl) ?_))|(iterate 2 refine gF ?_));(all_goals (refine pV ?_)))|(refine rg 2 ?_;refine aV ?_)|refine nZ ?_)
      all_goals first | (exfalso; omega) | exact ret_plain (.inl rfl) rfl rfl
    · rw [show (decide (0 ≤ c) && decide (c < f.size)) = false by rw [← Bool.not_eq_true]; simp; omega] at hi
      repeat' (first|refine wS ?_|refine wR ?_|refine wT ?_|(refine rg 0 ?_;refine vc_n (by exact fs_box rfl rfl) rfl ?_;refine aV ?_)|(refine rg 1 ?_;(all_goals (refine lV T ?_;refine mV ?_;refine vV (by exact kC (hi)) ?_;refine vV (by exact fs_not rfl) ?_;refine mV ?_));(all_goals (refine gK ?_));(all_goals (iterate 2 refine gF ?_));(all_goals ((refine pV ?_);refine mV ?_));(all_goals (refine gK ?_));(all_goals (iterate 2 refine gF ?_));(all_goals (refine pV ?_)))|(refine rg 2 ?_;refine aV ?_)|refine nZ ?_)
      all_goals first | (exfalso; omega) | exact ret_plain (.inl rfl) rfl rfl
  · rw [show (decide (0 ≤ c) && decide (c < f.size)) = true by simp; omega] at hi
    have e : besideI f c d = cellI f (c % f.w + dxI d) (c / f.w % f.h + dyI d) (c / (f.w * f.h) + dzI d) := by unfold besideI; rw [if_neg hr]
    rw [e]
    have ha := fat_c g c
    have e : atI f c = (c % f.w, c / f.w % f.h, c / (f.w * f.h)) := by unfold atI; rw [if_pos (by omega)]
    rw [e] at ha
    have hrg := at_range g (c := c) (by omega) (by omega)
    have hc := fun x y z => cell_c g x y z
    have h : d = 0 ∨ d = 1 ∨ d = 2 ∨ d = 3 ∨ d = 4 ∨ d = 5 := by omega
    refine acall T Tryz.func74 rfl rfl rfl rfl ?_
    generalize hX : c % f.w = X at *
    generalize hY : c / f.w % f.h = Y at *
    generalize hZ : c / (f.w * f.h) = Z at *
    rcases h with rfl | rfl | rfl | rfl | rfl | rfl
    all_goals
      repeat' (first|refine wS ?_|refine wK ?_|refine wR ?_|refine wU ?_|(refine rg 0 ?_;refine vc_n (by exact fs_box rfl rfl) rfl ?_;refine aV ?_)|(refine rg 1 ?_;(all_goals (refine lV T ?_;refine mV ?_;refine vV (by exact kC (hi)) ?_;refine vV (by exact fs_not rfl) ?_;refine mV ?_));(all_goals (refine gK ?_));(all_goals (refine gT ?_;(refine mV ?_);refine gT ?_;(refine vV (by exact fs_lss rfl rfl) ?_)));(all_goals ((refine pV ?_);refine mV ?_));(all_goals (refine gK ?_));(all_goals (refine gT ?_;(refine mV ?_);refine gT ?_;(refine vV (by exact fs_geq rfl rfl) ?_)));(all_goals (refine pV ?_)))|(refine rg 3 ?_;refine lV T ?_;refine mV ?_;refine vV (by exact kC (ha)) ?_;refine mV ?_;refine xV ?_;refine xV ?_;refine xV ?_;refine aV ?_;refine aV ?_;refine aV ?_)|(refine rg 4 ?_;refine vV (by exact kC (steps_c)) ?_;refine mV ?_;refine vV (by exact fs_indexV T rfl rfl rfl rfl (by decide) (by decide) rfl) ?_;refine vc_n (by exact fs_alloc T rfl) rfl ?_;refine vc_store T rfl rfl rfl rfl rfl rfl (by decide) rfl ?_)|(refine rg 5 ?_;refine lV T ?_;refine mV ?_;refine fV T ?_;refine lV T ?_;refine vV (by exact fs_addr rfl rfl (by omega) (by omega)) ?_;refine mV ?_;refine fV T ?_;refine lV T ?_;refine vV (by exact fs_addr rfl rfl (by omega) (by omega)) ?_;refine mV ?_;refine fV T ?_;refine lV T ?_;refine vV (by exact fs_addr rfl rfl (by omega) (by omega)) ?_;refine vV (by exact fs_call0 rfl rfl (hc _ _ _) rfl rfl rfl) ?_;refine aV ?_)|refine nZ ?_)
    all_goals first | (exfalso; omega) | exact ret_plain (.inl rfl) rfl (by simp [dxI, dyI, dzI]; rfl)
theorem next_c (g : Fine f) (c d : Int) : ACall Tryz.prog 76 [floorA f, .i c, .i d] [] (optA (nextI f c d)) [] := by
  have hbs := beside_c g c d
  by_cases hn : besideI f c d < 0
  · have e : nextI f c d = none := by unfold nextI; rw [if_neg (by omega)]
    rw [e]
    generalize besideI f c d = n at *
    refine acall T Tryz.func76 rfl rfl rfl rfl ?_
    repeat' (first|refine wS ?_|refine wR ?_|refine wT ?_|(refine rg 0 ?_;refine vc_n (by exact fs_box rfl rfl) rfl ?_;refine aV ?_;refine aV ?_)|(refine rg 1 ?_;refine lV T ?_;refine mV ?_;refine mV ?_;refine vV (by exact kC (hbs)) ?_;refine aV ?_)|(refine rg 2 ?_;(all_goals (refine mV ?_;refine vV (by exact fs_lss rfl rfl) ?_;refine mV ?_));(all_goals (refine vc_split rfl rfl (fun hb=>?_) (fun hb=>?_)<;>((rw [hb];(try simp only [nm] at hb);try ((exfalso;omega);done)))));(all_goals (iterate 6 refine gF ?_));(all_goals ((refine pV ?_);refine mV ?_));(all_goals (refine gK ?_));(all_goals (iterate 6 refine gF ?_));(all_goals ((refine pV ?_);refine mV ?_));(all_goals (refine gK ?_));(all_goals (iterate 9 refine gF ?_));(all_goals (refine pV ?_)))|(refine rg 3 ?_;refine aV ?_;refine aV ?_)|refine nZ ?_)
    all_goals first | (exfalso; omega) | exact ret_plain (.inl rfl) rfl rfl
  · obtain ⟨h1, h2, h3, _⟩ := beside_at g (c := c) (d := d) (by omega)
    have hk : f.size = f.k.length := by have := g.kl; unfold Flo.size; omega
    have hol := g.ol
    have key : nextI f c d = if kindI f c ≠ 0 ∧ kindI f (besideI f c d) ≠ 0 ∧ bitI f c d ≠ 0 ∧ (d = 4 ∨ d = 5 → kindI f c = 6 ∧ kindI f (besideI f c d) = 6) then some (besideI f c d) else none := by
      unfold nextI passI
      by_cases hp : kindI f c ≠ 0 ∧ kindI f (besideI f c d) ≠ 0 ∧ bitI f c d ≠ 0 ∧ (d = 4 ∨ d = 5 → kindI f c = 6 ∧ kindI f (besideI f c d) = 6)
      · rw [if_pos hp, if_pos ⟨by omega, hp⟩]
      · rw [if_neg hp, if_neg (fun q => hp q.2)]
    have q1 : (ints f.k)[c.toNat]? = some [AV.i (kindI f c)] := ints_getD h1.1 (by omega)
    have q2 : (ints f.k)[(besideI f c d).toNat]? = some [AV.i (kindI f (besideI f c d))] := ints_getD (by omega) (by omega)
    have q3 : (ints f.o)[c.toNat]? = some [AV.i (f.o.getD c.toNat 0)] := ints_getD h1.1 (by omega)
    have hob : 0 ≤ f.o.getD c.toNat 0 ∧ f.o.getD c.toNat 0 ≤ 63 := by
      have := g.o c.toNat (by omega)
      rwa [List.getD_eq_getElem?_getD, List.getElem?_eq_getElem (by omega)]
    have hpw : 0 < (2 : Int) ^ d.toNat := Int.pow_pos (by omega)
    have hob2 : 0 ≤ f.o.getD c.toNat 0 / 2 ^ d.toNat ∧ f.o.getD c.toNat 0 / 2 ^ d.toNat ≤ 63 := ⟨Int.ediv_nonneg hob.1 (by omega), Int.le_trans (Int.ediv_le_self _ hob.1) hob.2⟩
    have hbit : bitI f c d = f.o.getD c.toNat 0 / 2 ^ d.toNat % 2 := rfl
    rw [key]
    clear key
    generalize besideI f c d = n at *
    generalize f.o.getD c.toNat 0 = O at *
    generalize hP : (2 : Int) ^ d.toNat = P2 at *
    generalize kindI f c = kc at *
    generalize kindI f n = kn at *
    generalize bitI f c d = B at *
    subst hbit
    have hdl : d.toNat ≤ IntKind.i64.bits := by have : IntKind.i64.bits = 64 := rfl; omega
    refine acall T Tryz.func76 rfl rfl rfl rfl ?_
    repeat' (first|refine wS ?_|refine wK ?_|refine wR ?_|refine wT ?_|refine wU ?_|(refine wC rfl (fun hb=>?_) (fun hb=>?_)<;>(((try simp only [nm] at hb);try (exfalso;omega))))|(refine rg 0 ?_;refine vc_n (by exact fs_box rfl rfl) rfl ?_;refine aV ?_;refine aV ?_)|(refine rg 1 ?_;refine lV T ?_;refine mV ?_;refine mV ?_;refine vV (by exact kC (hbs)) ?_;refine aV ?_)|(refine rg 2 ?_;(all_goals (refine mV ?_;refine vV (by exact fs_lss rfl rfl) ?_;refine mV ?_));(all_goals (refine vc_split rfl rfl (fun hb=>?_) (fun hb=>?_)<;>((rw [hb];(try simp only [nm] at hb);try ((exfalso;omega);done)))));(all_goals (refine gT ?_;(refine fV T ?_);refine gT ?_;(refine lV T ?_);refine gT ?_;(refine mV ?_);refine gT ?_;(refine vV (by exact fs_indexRowE T rfl rfl rfl rfl rfl (by omega) (ints_len f.k) q1) ?_);refine gT ?_;(refine lV T ?_);refine gT ?_;(refine vV (by exact fs_eql rfl rfl) ?_)));(all_goals ((refine pV ?_);refine mV ?_));(all_goals (refine vc_split rfl rfl (fun hb=>?_) (fun hb=>?_)<;>((rw [hb];(try simp only [nm] at hb);try ((exfalso;omega);done)))));(all_goals first|(refine gT ?_;(refine fV T ?_);refine gT ?_;(refine lV T ?_);refine gT ?_;(refine mV ?_);refine gT ?_;(refine vV (by exact fs_indexRowE T rfl rfl rfl rfl rfl (by omega) (ints_len f.k) q2) ?_);refine gT ?_;(refine lV T ?_);refine gT ?_;(refine vV (by exact fs_eql rfl rfl) ?_))|(iterate 6 refine gF ?_));(all_goals ((refine pV ?_);refine mV ?_));(all_goals first|(refine gK ?_)|(refine vc_split rfl rfl (fun hb=>?_) (fun hb=>?_)<;>((rw [hb];(try simp only [nm] at hb);try ((exfalso;omega);done)))));(all_goals first|(refine gT ?_;(refine fV T ?_);refine gT ?_;(refine lV T ?_);refine gT ?_;(refine mV ?_);refine gT ?_;(refine vV (by exact fs_indexRowE T rfl rfl rfl rfl rfl (by omega) (ints_len f.o) q3) ?_);refine gT ?_;(refine lV T ?_);refine gT ?_;(refine mV ?_);refine gT ?_;(refine vV (by exact hP ▸ fs_shrF rfl rfl (by omega) hdl) ?_);refine gT ?_;(refine vV (by exact fs_and1 rfl rfl (by omega) (by omega)) ?_);refine gT ?_;(refine vV (by exact fs_eql rfl rfl) ?_))|(iterate 9 refine gF ?_));(all_goals (refine pV ?_)))|(refine rg 3 ?_;refine aV ?_;refine aV ?_)|(refine rg 4 ?_;(all_goals (refine mV ?_;refine vV (by exact fs_eql rfl rfl) ?_;refine mV ?_));(all_goals (refine vc_split rfl rfl (fun hb=>?_) (fun hb=>?_)<;>((rw [hb];(try simp only [nm] at hb);try ((exfalso;omega);done)))));(all_goals first|(refine gT ?_;(refine mV ?_);refine gT ?_;(refine vV (by exact fs_eql rfl rfl) ?_))|(iterate 2 refine gF ?_));(all_goals ((refine pV ?_);refine mV ?_));(all_goals first|(refine gK ?_)|(refine vc_split rfl rfl (fun hb=>?_) (fun hb=>?_)<;>((rw [hb];(try simp only [nm] at hb);try ((exfalso;omega);done)))));(all_goals first|(refine gT ?_;(refine fV T ?_);refine gT ?_;(refine lV T ?_);refine gT ?_;(refine mV ?_);refine gT ?_;(refine vV (by exact fs_indexRowE T rfl rfl rfl rfl rfl (by omega) (ints_len f.k) q1) ?_);refine gT ?_;(refine lV T ?_);refine gT ?_;(refine vV (by exact fs_neq rfl rfl) ?_);refine gT ?_;(refine mV ?_))|(iterate 7 refine gF ?_));(all_goals first|(refine gK ?_)|(refine vc_split rfl rfl (fun hb=>?_) (fun hb=>?_)<;>((rw [hb];(try simp only [nm] at hb);try ((exfalso;omega);done)))));(all_goals first|(refine gT ?_;(refine fV T ?_);refine gT ?_;(refine lV T ?_);refine gT ?_;(refine mV ?_);refine gT ?_;(refine vV (by exact fs_indexRowE T rfl rfl rfl rfl rfl (by omega) (ints_len f.k) q2) ?_);refine gT ?_;(refine lV T ?_);refine gT ?_;(refine vV (by exact fs_neq rfl rfl) ?_))|(iterate 6 first|refine gF ?_|refine gU ?_));(all_goals first|(refine gT ?_;(refine pV ?_))|(refine gF ?_));(all_goals (refine pV ?_)))|(refine rg 5 ?_;refine aV ?_;refine aV ?_)|(refine rg 6 ?_;refine mV ?_;refine aV ?_;refine aV ?_)|refine nZ ?_)
    all_goals first
      | (exfalso; omega)
      | (rw [if_neg (by omega)]; exact ret_plain (.inl rfl) rfl rfl)
      | (rw [if_pos (by omega)]; exact ret_plain (.inl rfl) rfl rfl)
end
end Go.Proofs.YtjpcpbbkelgkeaaGreatDoor
namespace Go.Proofs.YtjpcpbbkelgkeaaGreatDoor
open Go Go.Ab Go.Fl
attribute [local irreducible] VC AW FStep ACall
set_option maxHeartbeats 4000000
end Go.Proofs.YtjpcpbbkelgkeaaGreatDoor
namespace Go.Proofs.YtjpcpbbkelgkeaaGreatDoor
open Go Go.Ab Go.Fl
abbrev Zon := List UInt8 × List Int × Int × Int × List (Int × Int)
abbrev zonA (z : Zon) : List AV := [.s z.1, .rowE (ints z.2.1) 1, .i z.2.2.1, .i z.2.2.2.1, .rowE (stksA z.2.2.2.2) 2]
abbrev zonsA (l : List Zon) : List (List AV) := l.map zonA
abbrev apsA (l : List (List UInt8 × List UInt8)) : List (List AV) := l.map fun x => [AV.s x.1, AV.s x.2]
abbrev shsA (l : List (Int × List UInt8)) : List (List AV) := l.map fun x => [AV.i x.1, AV.s x.2]
structure Sit where
  fl : Flo
  zn : List Zon
  ap : List (List UInt8 × List UInt8)
  sh : List (Int × List UInt8)
  rb : List (Int × Int)
abbrev sitA (s : Sit) : List AV := floorC s.fl ++ [.rowE (zonsA s.zn) 5, .rowE (apsA s.ap) 2, .rowE (shsA s.sh) 2, .rowE (stksA s.rb) 2]
end Go.Proofs.YtjpcpbbkelgkeaaGreatDoor
namespace Go.Proofs.YtjpcpbbkelgkeaaGreatDoor
open Go Go.Ab Go.Fl
attribute [local irreducible] VC AW FStep ACall
set_option maxHeartbeats 4000000
end Go.Proofs.YtjpcpbbkelgkeaaGreatDoor
namespace Go.Proofs.YtjpcpbbkelgkeaaGreatDoor
open Go Go.Ab Go.Fl
attribute [local irreducible] VC AW FStep ACall
set_option maxHeartbeats 4000000
end Go.Proofs.YtjpcpbbkelgkeaaGreatDoor
namespace Go.Proofs.YtjpcpbbkelgkeaaGreatDoor
open Go Go.Ab Go.Fl
section
variable {P : Program} {env : Env} {h : Hp} {d : Option Nat} {ty : TypeId} {pos : String} {af : Array Edge} {g : Option (Nat × Bool)}
theorem fs_gtrT {t t2 : TypeId} {x y : Operand} {a b : Int} (hx : evu env x = some (.i a)) (hy : evu env y = some (.i b)) (e : b < a) : FStep P ⟨d, .binOp .gtr t x y t2, ty, pos, af, g⟩ env h 0 (fun _ => .b true) (fun _ => []) := by
  have := fs_gtr (P := P) (d := d) (ty := ty) (pos := pos) (af := af) (g := g) (h := h) (t := t) (t2 := t2) hx hy
  simpa [show decide (a > b) = true from decide_eq_true (by omega)] using this
theorem fs_gtrF {t t2 : TypeId} {x y : Operand} {a b : Int} (hx : evu env x = some (.i a)) (hy : evu env y = some (.i b)) (e : a ≤ b) : FStep P ⟨d, .binOp .gtr t x y t2, ty, pos, af, g⟩ env h 0 (fun _ => .b false) (fun _ => []) := by
  have := fs_gtr (P := P) (d := d) (ty := ty) (pos := pos) (af := af) (g := g) (h := h) (t := t) (t2 := t2) hx hy
  simpa [show decide (a > b) = false from decide_eq_false (by omega)] using this
end
attribute [local irreducible] VC AW FStep ACall
set_option maxHeartbeats 4000000
end Go.Proofs.YtjpcpbbkelgkeaaGreatDoor
namespace Go.Ab
open Go
mutual
def AV.pln : AV → Bool
  | .v _ => true
  | .any => true
  | .row .. => true
  | .mrow .. => true
  | .pr .. => true
  | .agg cs => AV.plnL cs
  | _ => false
def AV.plnL : List AV → Bool
  | [] => true
  | x :: l => AV.pln x && AV.plnL l
end
mutual
theorem view_self {h : Hp} : ∀ (x : AV), x.pln = true → View h x x
  | .v x, _ => .v x
  | .any, _ => .any
  | .row cs l s, _ => .row cs l s
  | .mrow ks vs, _ => .mrow ks vs
  | .pr cs o, _ => .pr cs o
  | .agg cs, e => .agg (viewL_self cs (by simpa [AV.pln] using e))
  | .ptr .., e | .ep .., e | .sl .., e | .mp .., e | .tup .., e | .clo .., e | .cond .., e | .ifc .., e => by simp [AV.pln] at e
theorem viewL_self {h : Hp} : ∀ (xs : List AV), AV.plnL xs = true → ViewL h xs xs
  | [], _ => .nil
  | x :: l, e => by
    simp only [AV.plnL, Bool.and_eq_true] at e
    exact .cons (view_self x e.1) (viewL_self l e.2)
end
def strFields (P : Program) : Nat → List Field → Bool
  | _, [] => true
  | i, f :: r => decide (f.name ≠ "_") && Nat.beq f.offset i && (match P.underlying f.type with | some .string => P.plainKey f.type | _ => false) && strFields P (i + 1) r
def StrStruct (P : Program) (t : TypeId) (n : Nat) : Prop := (match P.underlying t with
  | some (.struct fs) => Nat.beq fs.size n && strFields P 0 fs.toList && !P.stoodInHeld t && !P.eqGuardType P.depth t
  | _ => false) = true
section
variable {P : Program} {env : Env} {h : Hp}
variable {d : Option Nat} {ty : TypeId} {pos : String} {af : Array Edge} {g : Option (Nat × Bool)}
end
end Go.Ab
namespace Go.Proofs.YtjpcpbbkelgkeaaGreatDoor
open Go Go.Ab Go.Fl Go.Shelf Go.Proofs Go.MapKept
attribute [local irreducible] VC AW FStep ACall PCall StrStruct StrT
set_option maxHeartbeats 4000000
shelf_lay Lays.n137 Nm 137 at Tryz as laysIdx
end Go.Proofs.YtjpcpbbkelgkeaaGreatDoor
namespace Go.Proofs.YtjpcpbbkelgkeaaGreatDoor
open Go Go.Ab Go.Fl Go.Shelf Go.Proofs Go.MapKept
attribute [local irreducible] VC AW FStep ACall PCall StrStruct StrT
set_option maxHeartbeats 4000000
theorem intK : KeyOk Tryz.prog 3 (IsKey (.int .i64)) := KeyOk.int (by kernel_rfl)
theorem zInt : ∀ w, (zeroValue 3).run Tryz.prog w = .ok (.int .i64 0) w := zero_run (by kernel_rfl)
theorem zBool : ∀ w, (zeroValue 4).run Tryz.prog w = .ok (.bool false) w := zero_run (by kernel_rfl)
theorem mapII : Tryz.prog.underlying 63 = some (.map 3 3) := by kernel_rfl
end Go.Proofs.YtjpcpbbkelgkeaaGreatDoor
namespace Go.Proofs.YtjpcpbbkelgkeaaGreatDoor
open Go Go.Ab Go.Fl Go.Shelf Go.Proofs Go.MapKept
attribute [local irreducible] VC AW FStep ACall PCall StrStruct StrT
set_option maxHeartbeats 4000000
end Go.Proofs.YtjpcpbbkelgkeaaGreatDoor
namespace Go.Proofs.YtjpcpbbkelgkeaaGreatDoor
open Go Go.Ab Go.Fl Go.Shelf Go.Proofs Go.MapKept
attribute [local irreducible] VC AW FStep ACall PCall StrStruct StrT
set_option maxHeartbeats 4000000
structure Mk where
  zs : List Zon
  aps : List (List UInt8 × List UInt8)
  shs : List (Int × List UInt8)
  rbs : List (Int × Int)
  zk : List Int
def Mk.cl (m : Mk) : List Int := m.shs.map (·.1)
abbrev kS (l : List UInt8) : Value := .string ⟨l.toArray⟩
def Mk.nm (m : Mk) : List Value := m.zs.map fun z => kS z.1
theorem sub_map {h : Hp} {i : Nat} {θ : Nat → Nat} {ks ks' : List Value} {vs vs' : List AV} (hk : h[i]? = some (.mapO ks' vs')) (hks : ks' = ks) (he : vs' = vs) (hi : AV.idfL vs = true) : h[i]? = some ((AB.mapO ks vs).map θ) := by
  subst he hks
  rw [hk]
  show _ = some (AB.mapO ks' (AV.mapL θ vs'))
  rw [mapL_idf θ vs' hi]
end Go.Proofs.YtjpcpbbkelgkeaaGreatDoor
namespace Go.Proofs.YtjpcpbbkelgkeaaGreatDoor
open Go Go.Ab Go.Fl Go.Shelf Go.Proofs Go.MapKept
attribute [local irreducible] VC AW FStep ACall PCall StrStruct StrT AStep
set_option maxHeartbeats 4000000
end Go.Proofs.YtjpcpbbkelgkeaaGreatDoor
namespace Go.Proofs.YtjpcpbbkelgkeaaGreatDoor
open Go Go.Ab Go.Fl Go.Shelf Go.Proofs Go.MapKept
attribute [local irreducible] VC AW FStep ACall PCall StrStruct StrT AStep
set_option maxHeartbeats 4000000
end Go.Proofs.YtjpcpbbkelgkeaaGreatDoor
namespace Go.Proofs.YtjpcpbbkelgkeaaGreatDoor
open Go Go.Ab Go.Fl Go.Shelf Go.Proofs Go.MapKept
attribute [local irreducible] VC AW FStep ACall PCall StrStruct StrT AStep
set_option maxHeartbeats 4000000
end Go.Proofs.YtjpcpbbkelgkeaaGreatDoor
namespace Go.Proofs.YtjpcpbbkelgkeaaGreatDoor
open Go Go.Ab Go.Fl Go.Shelf Go.Proofs Go.MapKept
attribute [local irreducible] VC AW FStep ACall PCall StrStruct StrT AStep
set_option maxHeartbeats 8000000
set_option maxRecDepth 10000
abbrev okB (F : Prop) : AV → Hp → Prop := fun r o => o = [] ∧ ∃ b, r = .b b ∧ (b = true → F)
end Go.Proofs.YtjpcpbbkelgkeaaGreatDoor
namespace Go.Ln
abbrev Node := Int × Bool
abbrev Edge := Int × Int
structure Net where
  sp : Int → List Int
  ex : Int → Bool
  st : Int
def inT (T : List Edge) (c : Int) : Nat := T.countP fun e => decide (e.2 = c)
def outT (T : List Edge) (c : Int) : Nat := T.countP fun e => decide (e.1 = c)
structure Flow (g : Net) (k : Nat) (T : List Edge) : Prop where
  nd : T.Nodup
  val : ∀ e, e ∈ T → e.2 ∈ g.sp e.1 ∧ e.2 ≠ g.st ∧ g.ex e.1 = false
  le1 : ∀ c, inT T c ≤ 1
  bal : ∀ c, c ≠ g.st → g.ex c = false → outT T c = inT T c
  sto : outT T g.st = k
def Res (g : Net) (T : List Edge) (b n : Node) : Prop :=
  (b.2 = true ∧ n.2 = false ∧ b.1 ≠ n.1 ∧ n.1 ∈ g.sp b.1 ∧ n.1 ≠ g.st ∧ g.ex b.1 = false ∧ (b.1, n.1) ∉ T) ∨
  (b.2 = true ∧ n.2 = false ∧ b.1 = n.1 ∧ b.1 ≠ g.st ∧ g.ex b.1 = false ∧ inT T b.1 = 1) ∨
  (b.2 = false ∧ n.2 = true ∧ b.1 = n.1 ∧ b.1 ≠ g.st ∧ g.ex b.1 = false ∧ inT T b.1 = 0) ∨
  (b.2 = false ∧ n.2 = true ∧ b.1 ≠ n.1 ∧ n.1 ≠ g.st ∧ (n.1, b.1) ∈ T)
theorem inT_pos {T : List Edge} {c : Int} : 0 < inT T c ↔ ∃ p, (p, c) ∈ T := by
  unfold inT
  rw [List.countP_pos_iff]
  constructor
  · rintro ⟨⟨a, b⟩, h, e⟩
    simp at e; subst e; exact ⟨a, h⟩
  · rintro ⟨p, h⟩; exact ⟨_, h, by simp⟩
theorem outT_pos {T : List Edge} {c : Int} : 0 < outT T c ↔ ∃ x, (c, x) ∈ T := by
  unfold outT
  rw [List.countP_pos_iff]
  constructor
  · rintro ⟨⟨a, b⟩, h, e⟩
    simp at e; subst e; exact ⟨b, h⟩
  · rintro ⟨p, h⟩; exact ⟨_, h, by simp⟩
theorem count_two {T : List Edge} {p : Edge → Bool} (hn : T.Nodup) {x y : Edge} (hx : x ∈ T) (hy : y ∈ T) (px : p x = true) (py : p y = true) (h : x ≠ y) : 2 ≤ T.countP p := by
  rw [List.countP_eq_length_filter]
  have hx' : x ∈ T.filter p := List.mem_filter.2 ⟨hx, px⟩
  have hy' : y ∈ T.filter p := List.mem_filter.2 ⟨hy, py⟩
  match he : T.filter p, hx', hy' with
  | [], hx', _ => cases hx'
  | [z], hx', hy' => simp at hx' hy'; exact absurd (hx'.trans hy'.symm) h
  | _ :: _ :: _, _, _ => simp
theorem inT_uniq {T : List Edge} (hn : T.Nodup) {a b c : Int} (h : inT T c ≤ 1) (ha : (a, c) ∈ T) (hb : (b, c) ∈ T) : a = b := by
  by_cases e : a = b
  · exact e
  · have := count_two (p := fun e => decide (e.2 = c)) hn ha hb (by simp) (by simp) (fun q => e (Prod.mk.inj q).1)
    unfold inT at h; omega
theorem outT_uniq {T : List Edge} (hn : T.Nodup) {a b c : Int} (h : outT T c ≤ 1) (ha : (c, a) ∈ T) (hb : (c, b) ∈ T) : a = b := by
  by_cases e : a = b
  · exact e
  · have := count_two (p := fun e => decide (e.1 = c)) hn ha hb (by simp) (by simp) (fun q => e (Prod.mk.inj q).2)
    unfold outT at h; omega
theorem nodup_mapOn {α β : Type} {f : α → β} : ∀ {l : List α}, l.Nodup → (∀ x y, x ∈ l → y ∈ l → f x = f y → x = y) → (l.map f).Nodup
  | [], _, _ => by simp
  | a :: l, hn, hi => by
    rw [List.nodup_cons] at hn
    rw [List.map_cons, List.nodup_cons]
    refine ⟨fun h => ?_, nodup_mapOn hn.2 fun x y hx hy e => hi x y (.tail _ hx) (.tail _ hy) e⟩
    obtain ⟨x, hx, e⟩ := List.mem_map.1 h
    have := hi x a (.tail _ hx) (.head _) e
    subst this; exact hn.1 hx
theorem nodup_sub {α : Type} [DecidableEq α] : ∀ {l m : List α}, l.Nodup → (∀ x, x ∈ l → x ∈ m) → l.length ≤ m.length
  | [], _, _, _ => by simp
  | a :: l, m, hn, hs => by
    have ha := hs a (.head _)
    rw [List.nodup_cons] at hn
    have := nodup_sub (m := m.erase a) hn.2 fun x hx => (List.mem_erase_of_ne (fun e => by subst e; exact hn.1 hx)).2 (hs x (.tail _ hx))
    rw [List.length_erase_of_mem ha] at this
    have := List.length_pos_of_mem ha
    simp only [List.length_cons]
    omega
theorem Flow.bij {g : Net} {k : Nat} {T : List Edge} (h : Flow g k T) (P : Int → Bool) :
    T.countP (fun e => decide (e.1 ≠ g.st) && P e.1) = T.countP (fun e => !g.ex e.2 && P e.2) := by
  rw [List.countP_eq_length_filter, List.countP_eq_length_filter]
  have key : ((T.filter (fun e => decide (e.1 ≠ g.st) && P e.1)).map (·.1)).Perm ((T.filter (fun e => !g.ex e.2 && P e.2)).map (·.2)) := by
    refine (List.perm_ext_iff_of_nodup ?_ ?_).2 fun c => ?_
    · refine nodup_mapOn (h.nd.filter _) fun x y hx hy e => ?_
      obtain ⟨hx, qx⟩ := List.mem_filter.1 hx
      obtain ⟨hy, qy⟩ := List.mem_filter.1 hy
      obtain ⟨a, b⟩ := x; obtain ⟨a', b'⟩ := y
      simp only at e qx; subst e
      simp at qx
      have hb := h.bal a qx.1 (h.val _ hx).2.2
      have := h.le1 a
      have := outT_uniq h.nd (by omega) hx hy
      subst this; rfl
    · refine nodup_mapOn (h.nd.filter _) fun x y hx hy e => ?_
      obtain ⟨hx, qx⟩ := List.mem_filter.1 hx
      obtain ⟨hy, qy⟩ := List.mem_filter.1 hy
      obtain ⟨a, b⟩ := x; obtain ⟨a', b'⟩ := y
      simp only at e; subst e
      have := inT_uniq h.nd (h.le1 b) hx hy
      subst this; rfl
    · simp only [List.mem_map, List.mem_filter, Bool.and_eq_true, decide_eq_true_eq, Bool.not_eq_true']
      constructor
      · rintro ⟨⟨a, b⟩, ⟨he, h1, h2⟩, rfl⟩
        simp only at h1 h2
        have hx := (h.val _ he).2.2
        have h0 : 0 < inT T a := by rw [← h.bal a h1 hx]; exact outT_pos.2 ⟨b, he⟩
        obtain ⟨p, hp⟩ := inT_pos.1 h0
        exact ⟨(p, a), ⟨hp, hx, h2⟩, rfl⟩
      · rintro ⟨⟨a, b⟩, ⟨he, h1, h2⟩, rfl⟩
        simp only at h1 h2
        have hst := (h.val _ he).2.1
        have h0 : 0 < outT T b := by rw [h.bal b hst h1]; exact inT_pos.2 ⟨a, he⟩
        obtain ⟨p, hp⟩ := outT_pos.1 h0
        exact ⟨(b, p), ⟨hp, hst, h2⟩, rfl⟩
  simpa using key.length_eq
theorem countP_split {α : Type} (l : List α) (p q : α → Bool) : l.countP p = l.countP (fun x => q x && p x) + l.countP (fun x => !q x && p x) := by
  induction l with
  | nil => rfl
  | cons a l ih =>
    simp only [List.countP_cons]
    cases p a <;> cases q a <;> simp <;> omega
theorem Flow.ends {g : Net} {k : Nat} {T : List Edge} (h : Flow g k T) : T.countP (fun e => g.ex e.2) = k := by
  have h1 := h.bij fun _ => true
  have h2 := countP_split T (fun _ => true) (fun e => g.ex e.2)
  have h3 := countP_split T (fun _ => true) (fun e => decide (e.1 = g.st))
  have h4 := h.sto
  unfold outT at h4
  simp at h1 h2 h3
  omega
structure Bal (g : Net) (k : Nat) (T : List Edge) (X : Int → Nat) (n : Node) : Prop where
  nd : T.Nodup
  val : ∀ e, e ∈ T → e.2 ∈ g.sp e.1 ∧ e.2 ≠ g.st ∧ g.ex e.1 = false
  inn : ∀ c, inT T c + (if n = (c, false) then 1 else 0) = X c
  out : ∀ c, c ≠ g.st → g.ex c = false → outT T c = X c + (if n = (c, true) then 1 else 0)
  sto : outT T g.st = k + (if n = (g.st, true) then 1 else 0)
  le1 : ∀ c, X c ≤ 1
def Tk (T : List Edge) (b n : Node) (T' : List Edge) : Prop :=
  if b.2 = true ∧ n.2 = false ∧ b.1 ≠ n.1 then T'.Perm ((b.1, n.1) :: T)
  else if b.2 = false ∧ n.2 = true ∧ b.1 ≠ n.1 then T.Perm ((n.1, b.1) :: T')
  else T' = T
theorem inT_perm {T T' : List Edge} {a b : Int} (h : T'.Perm ((a, b) :: T)) (c : Int) : inT T' c = inT T c + if b = c then 1 else 0 := by
  unfold inT; rw [h.countP_eq, List.countP_cons]; simp
theorem outT_perm {T T' : List Edge} {a b : Int} (h : T'.Perm ((a, b) :: T)) (c : Int) : outT T' c = outT T c + if a = c then 1 else 0 := by
  unfold outT; rw [h.countP_eq, List.countP_cons]; simp
structure Rem (g : Net) (T0 T : List Edge) (X : Int → Nat) (l : List Node) : Prop where
  ed : ∀ a c, (a, true) ∈ l → (c, false) ∈ l → ((a, c) ∈ T ↔ (a, c) ∈ T0)
  ce : ∀ c, g.ex c = false → (c, true) ∈ l → (c, false) ∈ l → X c = inT T0 c
theorem Bal.step {g : Net} {k : Nat} {T0 T T' : List Edge} {X : Int → Nat} {b n : Node} {l : List Node} (h : Bal g k T X n) (hr : Res g T0 b n) (hT : Tk T b n T') (hm : Rem g T0 T X (n :: b :: l)) (hnd : (n :: b :: l).Nodup)
    (hns : n ≠ (g.st, true)) : ∃ X', Bal g k T' X' b ∧ Rem g T0 T' X' (b :: l) := by
  obtain ⟨bc, bo⟩ := b
  obtain ⟨nc, no⟩ := n
  have hnl : (nc, no) ∉ (bc, bo) :: l := (List.nodup_cons.1 hnd).1
  rcases hr with ⟨h1, h2, h3, h4, h5, h6, h7⟩ | ⟨h1, h2, h3, h4, h5, h6⟩ | ⟨h1, h2, h3, h4, h5, h6⟩ | ⟨h1, h2, h3, h4, h5⟩ <;> simp only at h1 h2 h3 <;> subst h1 <;> subst h2
  · simp only at h4 h5 h6 h7
    have hT' : T'.Perm ((bc, nc) :: T) := by unfold Tk at hT; rw [if_pos ⟨rfl, rfl, h3⟩] at hT; exact hT
    have hnT : (bc, nc) ∉ T := fun q => h7 ((hm.ed bc nc (by simp) (by simp)).1 q)
    refine ⟨X, ⟨hT'.nodup_iff.2 (List.nodup_cons.2 ⟨hnT, h.nd⟩), fun e he => ?_, fun c => ?_, fun c hc hx => ?_, ?_, h.le1⟩, ⟨fun a c ha hc => ?_, fun c hx ha hc => hm.ce c hx (.tail _ ha) (.tail _ hc)⟩⟩
    · rcases List.mem_cons.1 (hT'.mem_iff.1 he) with rfl | he
      · exact ⟨h4, h5, h6⟩
      · exact h.val e he
    · have := h.inn c
      rw [inT_perm hT', if_neg (fun q : (bc, true) = (c, false) => by cases q)]
      by_cases e : nc = c
      · subst e; simp at this ⊢; omega
      · rw [if_neg e]; rw [if_neg (fun q => e (Prod.mk.inj q).1)] at this; exact this
    · have := h.out c hc hx
      rw [outT_perm hT', this, if_neg (fun q : (nc, false) = (c, true) => by cases q)]
      by_cases e : bc = c
      · subst e; simp
      · rw [if_neg e, if_neg (fun q => e (Prod.mk.inj q).1)]
    · have := h.sto
      rw [outT_perm hT', this, if_neg (fun q : (nc, false) = (g.st, true) => by cases q)]
      by_cases e : bc = g.st
      · subst e; simp
      · rw [if_neg e, if_neg (fun q => e (Prod.mk.inj q).1)]
    · rw [hT'.mem_iff, List.mem_cons]
      rw [← hm.ed a c (.tail _ ha) (.tail _ hc)]
      constructor
      · rintro (q | q)
        · obtain ⟨rfl, rfl⟩ := Prod.mk.inj q; exact absurd hc hnl
        · exact q
      · exact .inr
  · subst h3
    have hT' : T' = T := by unfold Tk at hT; rw [if_neg (by simp), if_neg (by simp)] at hT; exact hT
    subst hT'
    simp only at h4 h5 h6
    have hX := hm.ce bc h5 (by simp) (by simp)
    refine ⟨fun c => if c = bc then X c - 1 else X c, ⟨h.nd, h.val, fun c => ?_, fun c hc hx => ?_, ?_, fun c => ?_⟩, ⟨fun a c ha hc => hm.ed a c (.tail _ ha) (.tail _ hc), fun c hx ha hc => ?_⟩⟩
    · have := h.inn c
      rw [if_neg (fun q : (bc, true) = (c, false) => by cases q)]
      by_cases e : c = bc
      · subst e; simp at this ⊢; omega
      · rw [if_neg e]; rw [if_neg (fun q => e (Prod.mk.inj q).1.symm)] at this; exact this
    · have := h.out c hc hx
      rw [if_neg (fun q : (bc, false) = (c, true) => by cases q)] at this
      by_cases e : c = bc
      · subst e; simp; omega
      · rw [if_neg e, if_neg (fun q => e (Prod.mk.inj q).1.symm)]; exact this
    · have := h.sto
      rw [if_neg (fun q : (bc, false) = (g.st, true) => by cases q)] at this
      rw [if_neg (fun q => h4 (Prod.mk.inj q).1)]; exact this
    · have := h.le1 c; split <;> omega
    · skip
      by_cases e : c = bc
      · subst e; exact absurd hc hnl
      · rw [if_neg e]; exact hm.ce c hx (.tail _ ha) (.tail _ hc)
  · subst h3
    have hT' : T' = T := by unfold Tk at hT; rw [if_neg (by simp), if_neg (by simp)] at hT; exact hT
    subst hT'
    simp only at h4 h5 h6
    have hX := hm.ce bc h5 (by simp) (by simp)
    refine ⟨fun c => if c = bc then X c + 1 else X c, ⟨h.nd, h.val, fun c => ?_, fun c hc hx => ?_, ?_, fun c => ?_⟩, ⟨fun a c ha hc => hm.ed a c (.tail _ ha) (.tail _ hc), fun c hx ha hc => ?_⟩⟩
    · have := h.inn c
      rw [if_neg (fun q : (bc, true) = (c, false) => by cases q)] at this
      by_cases e : c = bc
      · subst e; simp at this ⊢; omega
      · rw [if_neg e, if_neg (fun q => e (Prod.mk.inj q).1.symm)]; exact this
    · have := h.out c hc hx
      rw [if_neg (fun q : (bc, false) = (c, true) => by cases q)]
      by_cases e : c = bc
      · subst e; simp at this ⊢; omega
      · rw [if_neg e]; rw [if_neg (fun q => e (Prod.mk.inj q).1.symm)] at this; exact this
    · have := h.sto
      rw [if_neg (fun q => h4 (Prod.mk.inj q).1)] at this
      rw [if_neg (fun q : (bc, false) = (g.st, true) => by cases q)]; exact this
    · have := h.le1 c; split
      · rename_i e; subst e; omega
      · exact this
    · skip
      by_cases e : c = bc
      · subst e; exact absurd ha hnl
      · rw [if_neg e]; exact hm.ce c hx (.tail _ ha) (.tail _ hc)
  · simp only at h4 h5
    have hT' : T.Perm ((nc, bc) :: T') := by unfold Tk at hT; rw [if_neg (by simp), if_pos ⟨rfl, rfl, h3⟩] at hT; exact hT
    have hnd' := List.nodup_cons.1 (hT'.nodup_iff.1 h.nd)
    have hsub : ∀ e, e ∈ T' → e ∈ T := fun e he => hT'.mem_iff.2 (.tail _ he)
    refine ⟨X, ⟨hnd'.2, fun e he => h.val e (hsub e he), fun c => ?_, fun c hc hx => ?_, ?_, h.le1⟩, ⟨fun a c ha hc => ?_, fun c hx ha hc => hm.ce c hx (.tail _ ha) (.tail _ hc)⟩⟩
    · have := h.inn c
      rw [inT_perm hT', if_neg (fun q : (nc, true) = (c, false) => by cases q)] at this
      by_cases e : bc = c
      · subst e; simp at this ⊢; omega
      · rw [if_neg e] at this; rw [if_neg (fun q => e (Prod.mk.inj q).1)]; exact this
    · have := h.out c hc hx
      rw [outT_perm hT'] at this
      rw [if_neg (fun q : (bc, false) = (c, true) => by cases q)]
      by_cases e : nc = c
      · subst e; simp at this ⊢; omega
      · rw [if_neg e, if_neg (fun q => e (Prod.mk.inj q).1)] at this; exact this
    · have := h.sto
      rw [outT_perm hT', if_neg h4, if_neg (fun q => h4 (Prod.mk.inj q).1)] at this
      rw [if_neg (fun q : (bc, false) = (g.st, true) => by cases q)]; exact this
    · rw [← hm.ed a c (.tail _ ha) (.tail _ hc), hT'.mem_iff, List.mem_cons]
      constructor
      · exact .inr
      · rintro (q | q)
        · obtain ⟨rfl, rfl⟩ := Prod.mk.inj q; exact absurd ha hnl
        · exact q
theorem Flow.start {g : Net} {k : Nat} {T : List Edge} (h : Flow g k T) (hst : g.ex g.st = false) {e : Int} (he : g.ex e = true) (hu : inT T e = 0) (l : List Node) : ∃ X, Bal g k T X (e, false) ∧ Rem g T T X l := by
  refine ⟨fun c => if c = e then 1 else inT T c, ⟨h.nd, h.val, fun c => ?_, fun c hc hx => ?_, ?_, fun c => ?_⟩, ⟨fun a c _ _ => Iff.rfl, fun c hx _ _ => ?_⟩⟩
  · skip
    by_cases q : c = e
    · subst q; simp [hu]
    · rw [if_neg (fun w => q (Prod.mk.inj w).1.symm), if_neg q]; rfl
  · skip
    rw [if_neg (fun w : (e, false) = (c, true) => by cases w), if_neg (fun q => by subst q; rw [he] at hx; cases hx)]
    exact h.bal c hc hx
  · rw [if_neg (fun w : (e, false) = (g.st, true) => by cases w)]; exact h.sto
  · have := h.le1 c; split <;> omega
  · rw [if_neg (fun q => by subst q; rw [he] at hx; cases hx)]
theorem Bal.done {g : Net} {k : Nat} {T : List Edge} {X : Int → Nat} (h : Bal g k T X (g.st, true)) : Flow g (k + 1) T := by
  have hi : ∀ c, inT T c = X c := fun c => by
    have := h.inn c
    rw [if_neg (fun w : (g.st, true) = (c, false) => by cases w)] at this
    exact this
  refine ⟨h.nd, h.val, fun c => by rw [hi]; exact h.le1 c, fun c hc hx => ?_, by simpa using h.sto⟩
  rw [hi, h.out c hc hx, if_neg (fun q => hc (Prod.mk.inj q).1.symm)]; rfl
structure Shut (g : Net) (T : List Edge) (R : Node → Bool) : Prop where
  st : R (g.st, true) = true
  cl : ∀ b n, R b = true → Res g T b n → R n = true
  ex : ∀ c, R (c, false) = true → g.ex c = true → inT T c ≠ 0
def Cross (g : Net) (R : Node → Bool) (e : Edge) : Bool := (R (e.1, true) && !R (e.2, false)) || (R (e.2, false) && (g.ex e.2 || !R (e.2, true)))
theorem Shut.count {g : Net} {k : Nat} {T : List Edge} {R : Node → Bool} (h : Flow g k T) (hs : Shut g T R) (hst : g.ex g.st = false) (hne : ∀ a, a ∉ g.sp a) : T.countP (Cross g R) = k := by
  have hb := h.bij fun c => R (c, true)
  have b1 : ∀ e, e ∈ T → R (e.2, false) = true → R (e.1, true) = true := fun e he hR => by
    by_cases q : e.1 = g.st
    · rw [q]; exact hs.st
    · refine hs.cl _ _ hR (.inr (.inr (.inr ⟨rfl, rfl, fun w => ?_, q, he⟩)))
      simp only at w
      have := (h.val e he).1
      rw [w] at this; exact hne _ this
  have b2 : ∀ e, e ∈ T → g.ex e.2 = false → R (e.2, true) = true → R (e.2, false) = true := fun e he hx hR => by
    refine hs.cl _ _ hR (.inr (.inl ⟨rfl, rfl, rfl, (h.val e he).2.1, hx, ?_⟩))
    have := h.le1 e.2
    have : 0 < inT T e.2 := inT_pos.2 ⟨e.1, he⟩
    show inT T e.2 = 1
    omega
  have h3 := countP_split T (fun e => R (e.1, true)) (fun e => decide (e.1 = g.st))
  have h4 : T.countP (fun e => decide (e.1 = g.st) && R (e.1, true)) = k := by
    rw [← h.sto]; unfold outT
    refine List.countP_congr fun e he => ?_
    by_cases q : e.1 = g.st
    · simp [q, hs.st]
    · simp [q]
  have h5 : T.countP (fun e => !decide (e.1 = g.st) && R (e.1, true)) = T.countP (fun e => decide (e.1 ≠ g.st) && R (e.1, true)) := by
    congr 1; funext e; by_cases q : e.1 = g.st <;> simp [q]
  have h6 := countP_split T (fun e => R (e.1, true)) (fun e => !g.ex e.2 && R (e.2, true))
  have h7 : T.countP (fun e => (!g.ex e.2 && R (e.2, true)) && R (e.1, true)) = T.countP (fun e => !g.ex e.2 && R (e.2, true)) := by
    refine List.countP_congr fun e he => ?_
    cases hx : g.ex e.2 <;> simp
    intro hR; exact b1 e he (b2 e he hx hR)
  have h8 : T.countP (fun e => !(!g.ex e.2 && R (e.2, true)) && R (e.1, true)) = T.countP (Cross g R) := by
    refine List.countP_congr fun e he => ?_
    unfold Cross
    have c1 := b1 e he
    have c2 := b2 e he
    revert c1 c2
    cases g.ex e.2 <;> cases R (e.2, true) <;> cases R (e.2, false) <;> cases R (e.1, true) <;> simp
  omega
def Way (g : Net) : Int → List Int → Prop
  | c, [] => g.ex c = true
  | c, x :: l => g.ex c = false ∧ x ∈ g.sp c ∧ Way g x l
theorem Shut.way {g : Net} {k : Nat} {T : List Edge} {R : Node → Bool} (h : Flow g k T) (hs : Shut g T R) (hst : g.ex g.st = false) (hne : ∀ a, a ∉ g.sp a) : ∀ (l : List Int) (c : Int), R (c, true) = true → g.ex c = false → Way g c l → ∃ e, e ∈ T ∧ Cross g R e = true ∧ e.2 ∈ l
  | [], c, hR, hx, hw => by unfold Way at hw; rw [hx] at hw; cases hw
  | x :: l, c, hR, hx, hw => by
    unfold Way at hw
    obtain ⟨_, h1, h2⟩ := hw
    by_cases e1 : x = g.st
    · subst e1
      obtain ⟨e, he, hc, hm⟩ := Shut.way h hs hst hne l g.st hs.st hst h2
      exact ⟨e, he, hc, .tail _ hm⟩
    · by_cases e2 : R (x, false) = true
      · have use : inT T x ≠ 0 → (g.ex x = true ∨ R (x, true) = false) → ∃ e, e ∈ T ∧ Cross g R e = true ∧ e.2 ∈ x :: l := fun hu hq => by
          obtain ⟨p, hp⟩ := inT_pos.1 (Nat.pos_of_ne_zero hu)
          refine ⟨_, hp, ?_, List.mem_cons_self⟩
          unfold Cross
          rcases hq with hq | hq <;> simp [e2, hq]
        cases hxx : g.ex x with
        | true => exact use (hs.ex x e2 hxx) (.inl hxx)
        | false =>
          by_cases e3 : R (x, true) = true
          · obtain ⟨e, he, hc, hm⟩ := Shut.way h hs hst hne l x e3 hxx h2
            exact ⟨e, he, hc, .tail _ hm⟩
          · refine use (fun h0 => e3 (hs.cl _ _ e2 (.inr (.inr (.inl ⟨rfl, rfl, rfl, e1, hxx, h0⟩))))) (.inr (by simpa using e3))
      · refine ⟨(c, x), ?_, by unfold Cross; simp [hR, e2], List.mem_cons_self⟩
        by_cases hT : (c, x) ∈ T
        · exact hT
        · exact absurd (hs.cl _ _ hR (.inl ⟨rfl, rfl, fun q => by simp only at q; subst q; exact hne _ h1, h1, e1, hx, hT⟩)) e2
theorem Shut.none {g : Net} {T : List Edge} {R : Node → Bool} (h : Flow g 0 T) (hs : Shut g T R) (hst : g.ex g.st = false) (hne : ∀ a, a ∉ g.sp a) {l : List Int} (hw : Way g g.st l) : False := by
  obtain ⟨e, he, hc, _⟩ := hs.way h hst hne l g.st hs.st hst hw
  have := hs.count h hst hne
  have h2 : 0 < T.countP (Cross g R) := List.countP_pos_iff.2 ⟨e, he, hc⟩
  omega
theorem Shut.one {g : Net} {T : List Edge} {R : Node → Bool} (h : Flow g 1 T) (hs : Shut g T R) (hst : g.ex g.st = false) (hne : ∀ a, a ∉ g.sp a) : ∃ p x, (p, x) ∈ T ∧ x ≠ g.st ∧ ∀ l, Way g g.st l → x ∈ l := by
  have hc := hs.count h hst hne
  have h2 : 0 < T.countP (Cross g R) := by omega
  obtain ⟨⟨p, x⟩, he, hx⟩ := List.countP_pos_iff.1 h2
  refine ⟨p, x, he, (h.val _ he).2.1, fun l hw => ?_⟩
  obtain ⟨e', he', hx', hm⟩ := hs.way h hst hne l g.st hs.st hst hw
  by_cases q : (p, x) = e'
  · rw [← q] at hm; exact hm
  · have := count_two h.nd he he' hx hx' q
    omega
end Go.Ln
namespace Go.Ln
def PrevOk (T : List Edge) (U : Int → Option Int) : Prop := ∀ c p, U c = some p ↔ (p, c) ∈ T
def nextP (g : Net) (T : List Edge) (U : Int → Option Int) (n : Node) : List Node :=
  if n.2 = true then (g.sp n.1).filterMap (fun c => if c ≠ g.st ∧ (n.1, c) ∉ T then some (c, false) else none) ++ (if (U n.1).isSome = true then [(n.1, false)] else [])
  else match U n.1 with
    | none => [(n.1, true)]
    | some b => if b ≠ g.st then [(b, true)] else []
def NodeOk (g : Net) (n : Node) : Prop := if n.2 = true then g.ex n.1 = false else n.1 ≠ g.st
section
variable {g : Net} {k : Nat} {T : List Edge} {U : Int → Option Int}
theorem PrevOk.used (hU : PrevOk T U) {c : Int} : (U c).isSome = true ↔ 0 < inT T c := by
  rw [inT_pos]
  constructor
  · intro h
    obtain ⟨p, hp⟩ := Option.isSome_iff_exists.1 h
    exact ⟨p, (hU c p).1 hp⟩
  · rintro ⟨p, hp⟩; rw [(hU c p).2 hp]; rfl
theorem PrevOk.free (hU : PrevOk T U) {c : Int} : U c = none ↔ inT T c = 0 := by
  have := hU.used (c := c)
  cases h : U c with
  | none => rw [h] at this; simp at this; simp; exact this
  | some p => rw [h] at this; simp at this; simp; omega
theorem next_res (h : Flow g k T) (hU : PrevOk T U) (hst : g.ex g.st = false) (hne : ∀ a, a ∉ g.sp a) {n x : Node} (hn : NodeOk g n) (hx : ¬ (n.2 = false ∧ U n.1 = none ∧ g.ex n.1 = true)) (hm : x ∈ nextP g T U n) : Res g T n x ∧ NodeOk g x := by
  obtain ⟨c, o⟩ := n
  unfold nextP at hm
  cases o with
  | true =>
    unfold NodeOk at hn
    simp only [if_true] at hm hn
    rcases List.mem_append.1 hm with hm | hm
    · obtain ⟨y, hy, hq⟩ := List.mem_filterMap.1 hm
      split at hq
      · rename_i hc
        cases hq
        refine ⟨.inl ⟨rfl, rfl, fun e => ?_, hy, hc.1, hn, hc.2⟩, by unfold NodeOk; simp [hc.1]⟩
        simp only at e; subst e; exact hne _ hy
      · cases hq
    · split at hm
      · rename_i hu
        simp only [List.mem_singleton] at hm; subst hm
        have h0 := hU.used.1 hu
        have h1 := h.le1 c
        have hcs : c ≠ g.st := by
          obtain ⟨p, hp⟩ := inT_pos.1 h0
          exact (h.val _ hp).2.1
        exact ⟨.inr (.inl ⟨rfl, rfl, rfl, hcs, hn, by show inT T c = 1; omega⟩), by unfold NodeOk; simpa using hcs⟩
      · cases hm
  | false =>
    unfold NodeOk at hn
    simp only [Bool.false_eq_true, if_false] at hm hn
    split at hm
    · rename_i hu
      simp only [List.mem_singleton] at hm; subst hm
      have hxx : g.ex c = false := by
        cases he : g.ex c with
        | false => rfl
        | true => exact absurd ⟨rfl, hu, he⟩ hx
      exact ⟨.inr (.inr (.inl ⟨rfl, rfl, rfl, hn, hxx, hU.free.1 hu⟩)), by unfold NodeOk; simpa using hxx⟩
    · rename_i b hu
      split at hm
      · rename_i hb
        simp only [List.mem_singleton] at hm; subst hm
        have he := (hU c b).1 hu
        have hv := h.val _ he
        refine ⟨.inr (.inr (.inr ⟨rfl, rfl, fun e => ?_, hb, he⟩)), by unfold NodeOk; simpa using hv.2.2⟩
        simp only at e; subst e; exact hne _ hv.1
      · cases hm
theorem res_next (h : Flow g k T) (hU : PrevOk T U) {n x : Node} (hr : Res g T n x) : x ∈ nextP g T U n := by
  obtain ⟨c, o⟩ := n
  obtain ⟨y, p⟩ := x
  unfold nextP
  rcases hr with ⟨h1, h2, h3, h4, h5, h6, h7⟩ | ⟨h1, h2, h3, h4, h5, h6⟩ | ⟨h1, h2, h3, h4, h5, h6⟩ | ⟨h1, h2, h3, h4, h5⟩ <;> simp only at h1 h2 h3 h4 h5 <;> subst h1 <;> subst h2 <;> simp only [if_true, Bool.false_eq_true, if_false]
  · exact List.mem_append_left _ (List.mem_filterMap.2 ⟨y, h4, by rw [if_pos ⟨h5, h7⟩]⟩)
  · subst h3
    refine List.mem_append_right _ ?_
    rw [if_pos (hU.used.2 (by simp only at h6; omega))]; simp
  · subst h3
    simp only at h6
    rw [hU.free.2 h6]; simp
  · rw [(hU c y).2 h5]
    simp only
    rw [if_pos h4]; simp
inductive Tree (g : Net) (T : List Edge) : List (Node × Node) → Prop
  | one : Tree g T [((g.st, true), (g.st, true))]
  | more {F : List (Node × Node)} {x n : Node} : Tree g T F → n ∈ F.map (·.1) → x ∉ F.map (·.1) → Res g T n x → NodeOk g x → Tree g T (F ++ [(x, n)])
theorem Tree.nodup {F : List (Node × Node)} (h : Tree g T F) : (F.map (·.1)).Nodup := by
  induction h with
  | one => simp
  | more _ _ hx _ _ ih =>
    rw [List.map_append, List.nodup_append]
    refine ⟨ih, by simp, fun a ha b hb => ?_⟩
    simp at hb; subst hb
    rintro rfl; exact hx ha
theorem Tree.first {F : List (Node × Node)} (h : Tree g T F) : (g.st, true) ∈ F.map (·.1) := by
  induction h with
  | one => simp
  | more _ _ _ _ _ ih => simp only [List.map_append, List.mem_append]; exact .inl ih
theorem Tree.ok {F : List (Node × Node)} (h : Tree g T F) (hst : g.ex g.st = false) : ∀ n, n ∈ F.map (·.1) → NodeOk g n := by
  induction h with
  | one => intro n hn; simp at hn; subst hn; unfold NodeOk; simpa using hst
  | more _ _ _ _ ho ih =>
    intro n hn
    simp only [List.map_append, List.mem_append, List.map_cons, List.map_nil, List.mem_singleton] at hn
    rcases hn with hn | rfl
    · exact ih n hn
    · exact ho
def Path (g : Net) (T : List Edge) (F : List (Node × Node)) : List Node → Prop
  | [] => False
  | [a] => a = (g.st, true)
  | a :: b :: l => a ≠ (g.st, true) ∧ (a, b) ∈ F ∧ Res g T b a ∧ Path g T F (b :: l)
theorem Path.more {F : List (Node × Node)} {y : Node × Node} : ∀ {l : List Node}, Path g T F l → Path g T (F ++ [y]) l
  | [], h => h
  | [a], h => h
  | a :: b :: l, h => ⟨h.1, List.mem_append_left _ h.2.1, h.2.2.1, Path.more h.2.2.2⟩
theorem Tree.path {F : List (Node × Node)} (h : Tree g T F) : ∀ x, x ∈ F.map (·.1) → ∃ l, Path g T F (x :: l) ∧ (x :: l).Nodup ∧ ∀ y, y ∈ x :: l → y ∈ F.map (·.1) := by
  induction h with
  | one => intro x hx; simp at hx; subst hx; exact ⟨[], rfl, by simp, by simp⟩
  | @more F z n hF hn hz hr ho ih =>
    intro x hx
    simp only [List.map_append, List.mem_append, List.map_cons, List.map_nil, List.mem_singleton] at hx
    by_cases hxF : x ∈ F.map (·.1)
    · obtain ⟨l, h1, h2, h3⟩ := ih x hxF
      exact ⟨l, h1.more, h2, fun y hy => by rw [List.map_append]; exact List.mem_append_left _ (h3 y hy)⟩
    · rcases hx with hx | rfl
      · exact absurd hx hxF
      · obtain ⟨l, h1, h2, h3⟩ := ih n hn
        refine ⟨n :: l, ⟨fun e => hz (by rw [e]; exact hF.first), List.mem_append_right _ (by simp), hr, h1.more⟩, List.nodup_cons.2 ⟨fun q => hz (h3 _ q), h2⟩, fun y hy => ?_⟩
        rw [List.map_append]
        rcases List.mem_cons.1 hy with rfl | hy
        · exact List.mem_append_right _ (by simp)
        · exact List.mem_append_left _ (h3 y hy)
structure Grow (g : Net) (T : List Edge) (U : Int → Option Int) (F : List (Node × Node)) (Q D : List Node) : Prop where
  tree : Tree g T F
  all : F.map (·.1) = D ++ Q
  far : ∀ n, n ∈ D → ∀ x, x ∈ nextP g T U n → x ∈ F.map (·.1)
  ex : ∀ c, (c, false) ∈ D → ¬ (U c = none ∧ g.ex c = true)
theorem Grow.start : Grow g T U [((g.st, true), (g.st, true))] [(g.st, true)] [] := ⟨.one, rfl, by simp, by simp⟩
theorem Grow.shut (h : Flow g k T) (hU : PrevOk T U) {F : List (Node × Node)} {D : List Node} (hg : Grow g T U F [] D) : Shut g T (fun n => decide (n ∈ F.map (·.1))) := by
  have ha : F.map (·.1) = D := by rw [hg.all, List.append_nil]
  refine ⟨decide_eq_true hg.tree.first, fun b n hb hr => ?_, fun c hc hx h0 => ?_⟩
  · have hb := of_decide_eq_true hb
    rw [ha] at hb
    exact decide_eq_true (hg.far b hb n (res_next h hU hr))
  · have hc := of_decide_eq_true hc
    rw [ha] at hc
    exact hg.ex c hc ⟨hU.free.2 h0, hx⟩
structure GMid (g : Net) (T : List Edge) (U : Int → Option Int) (n : Node) (F : List (Node × Node)) (Q D : List Node) (dn r : List Node) : Prop where
  tree : Tree g T F
  all : F.map (·.1) = (D ++ [n]) ++ Q
  far : ∀ n, n ∈ D → ∀ x, x ∈ nextP g T U n → x ∈ F.map (·.1)
  ex : ∀ c, (c, false) ∈ D ++ [n] → ¬ (U c = none ∧ g.ex c = true)
  spl : nextP g T U n = dn ++ r
  dn : ∀ x, x ∈ dn → x ∈ F.map (·.1)
theorem Grow.open {F : List (Node × Node)} {Q D : List Node} {n : Node} (hg : Grow g T U F (n :: Q) D) (hn : ¬ (n.2 = false ∧ U n.1 = none ∧ g.ex n.1 = true)) : GMid g T U n F Q D [] (nextP g T U n) := by
  refine ⟨hg.tree, by rw [hg.all]; simp, hg.far, fun c hc => ?_, rfl, by simp⟩
  rcases List.mem_append.1 hc with hc | hc
  · exact hg.ex c hc
  · simp at hc; subst hc
    exact fun q => hn ⟨rfl, q.1, q.2⟩
theorem GMid.shut {F : List (Node × Node)} {Q D dn : List Node} {n : Node} (hg : GMid g T U n F Q D dn []) : Grow g T U F Q (D ++ [n]) := by
  refine ⟨hg.tree, hg.all, fun m hm x hx => ?_, hg.ex⟩
  rcases List.mem_append.1 hm with hm | hm
  · exact hg.far m hm x hx
  · simp at hm; subst hm
    rw [hg.spl, List.append_nil] at hx
    exact hg.dn x hx
theorem GMid.old {F : List (Node × Node)} {Q D dn r : List Node} {n x : Node} (hg : GMid g T U n F Q D dn (x :: r)) (hx : x ∈ F.map (·.1)) : GMid g T U n F Q D (dn ++ [x]) r :=
  ⟨hg.tree, hg.all, hg.far, hg.ex, by rw [hg.spl]; simp, fun y hy => by
    rcases List.mem_append.1 hy with hy | hy
    · exact hg.dn y hy
    · simp at hy; subst hy; exact hx⟩
theorem GMid.new (h : Flow g k T) (hU : PrevOk T U) (hst : g.ex g.st = false) (hne : ∀ a, a ∉ g.sp a) {F : List (Node × Node)} {Q D dn r : List Node} {n x : Node} (hg : GMid g T U n F Q D dn (x :: r)) (hx : x ∉ F.map (·.1)) :
    GMid g T U n (F ++ [(x, n)]) (Q ++ [x]) D (dn ++ [x]) r := by
  have hnF : n ∈ F.map (·.1) := by rw [hg.all]; simp
  have hr := next_res h hU hst hne (hg.tree.ok hst n hnF) (fun q => hg.ex n.1 (by obtain ⟨c, o⟩ := n; simp only at q; obtain ⟨rfl, _⟩ := q; simp) q.2) (x := x) (by rw [hg.spl]; simp)
  have sub : ∀ y, y ∈ F.map (·.1) → y ∈ (F ++ [(x, n)]).map (·.1) := fun y hy => by rw [List.map_append]; exact List.mem_append_left _ hy
  refine ⟨.more hg.tree hnF hx hr.1 hr.2, by rw [List.map_append, hg.all]; simp, fun m hm y hy => sub y (hg.far m hm y hy), hg.ex, by rw [hg.spl]; simp, fun y hy => ?_⟩
  rcases List.mem_append.1 hy with hy | hy
  · exact sub y (hg.dn y hy)
  · simp at hy; subst hy; rw [List.map_append]; exact List.mem_append_right _ (by simp)
structure Back (g : Net) (k : Nat) (T0 : List Edge) (F : List (Node × Node)) (T : List Edge) (l : List Node) : Prop where
  path : Path g T0 F l
  nd : l.Nodup
  bal : ∃ X n r, l = n :: r ∧ Bal g k T X n ∧ Rem g T0 T X l
theorem Back.start (h : Flow g k T) (hst : g.ex g.st = false) {F : List (Node × Node)} (hF : Tree g T F) {e : Int} (he : g.ex e = true) (hu : inT T e = 0) (hm : (e, false) ∈ F.map (·.1)) : ∃ l, Back g k T F T ((e, false) :: l) := by
  obtain ⟨l, h1, h2, _⟩ := hF.path _ hm
  obtain ⟨X, h3, h4⟩ := h.start hst he hu ((e, false) :: l)
  exact ⟨l, h1, h2, X, _, _, rfl, h3, h4⟩
theorem Back.done {T0 : List Edge} {F : List (Node × Node)} {l : List Node} (h : Back g k T0 F T ((g.st, true) :: l)) : Flow g (k + 1) T := by
  obtain ⟨X, n, r, e, h3, _⟩ := h.bal
  cases e
  exact h3.done
theorem Back.more {T0 : List Edge} {F : List (Node × Node)} {n : Node} {l : List Node} (h : Back g k T0 F T (n :: l)) (hn : n ≠ (g.st, true)) : ∃ b r, l = b :: r ∧ (n, b) ∈ F ∧ (∀ T', Tk T b n T' → Back g k T0 F T' (b :: r)) ∧
    (b.2 = true ∧ n.2 = false ∧ b.1 ≠ n.1 → (b.1, n.1) ∉ T) ∧ (b.2 = false ∧ n.2 = true ∧ b.1 ≠ n.1 → (n.1, b.1) ∈ T) := by
  obtain ⟨X, n', r, e, h3, h4⟩ := h.bal
  cases e
  match l, h.path, h.nd, h4 with
  | [], h1, _, _ => exact absurd h1 hn
  | b :: r, h1, h2, h4 =>
    obtain ⟨p1, p2, p3, p4⟩ := h1
    refine ⟨b, r, rfl, p2, fun T' hT => ?_, fun q hT => ?_, fun q => ?_⟩
    · obtain ⟨X', b1, b2⟩ := h3.step p3 hT h4 h2 hn
      exact ⟨p4, (List.nodup_cons.1 h2).2, X', b, r, rfl, b1, b2⟩
    · obtain ⟨bc, bo⟩ := b; obtain ⟨nc, no⟩ := n
      simp only at q hT
      obtain ⟨rfl, rfl, q⟩ := q
      have := (h4.ed bc nc (by simp) (by simp)).1 hT
      rcases p3 with w | w | w | w
      · exact w.2.2.2.2.2.2 this
      · exact q w.2.2.1
      · cases w.1
      · cases w.1
    · obtain ⟨bc, bo⟩ := b; obtain ⟨nc, no⟩ := n
      simp only at q ⊢
      obtain ⟨rfl, rfl, q⟩ := q
      rcases p3 with w | w | w | w
      · cases w.1
      · cases w.1
      · exact absurd w.2.2.1 q
      · exact (h4.ed nc bc (by simp) (by simp)).2 w.2.2.2.2
theorem Back.nodupT {T0 : List Edge} {F : List (Node × Node)} {l : List Node} (h : Back g k T0 F T l) : T.Nodup := by
  obtain ⟨X, n, r, _, h3, _⟩ := h.bal
  exact h3.nd
def Lst (g : Net) (T : List Edge) : Int → List Int → Prop
  | c, [] => c = g.st
  | c, p :: l => c ≠ g.st ∧ (p, c) ∈ T ∧ Lst g T p l
def Fwd (T : List Edge) : Int → List Int → Prop
  | _, [] => True
  | c, x :: l => (c, x) ∈ T ∧ Fwd T x l
theorem Fwd.out {e : Int} : ∀ {l : List Int} {c x : Int}, Fwd T c l → x ∈ c :: l → (c :: l).getLast? = some e → x ≠ e → ∃ y, y ∈ l ∧ (x, y) ∈ T
  | [], c, x, _, hx, he, hn => by simp at hx he; exact absurd (hx.trans he) hn
  | y :: l, c, x, h, hx, he, hn => by
    rcases List.mem_cons.1 hx with rfl | hx
    · exact ⟨y, List.mem_cons_self, h.1⟩
    · rw [List.getLast?_cons_cons] at he
      obtain ⟨z, hz, hT⟩ := Fwd.out h.2 hx he hn
      exact ⟨z, .tail _ hz, hT⟩
theorem Flow.lst (h : Flow g k T) (hne : ∀ a, a ∉ g.sp a) {e : Int} (hx : g.ex e = true) : ∀ (m : Nat) (c : Int) (l : List Int), T.length + 1 ≤ m + (c :: l).length → (c :: l).Nodup → Fwd T c l → (c :: l).getLast? = some e → (∃ p, (p, e) ∈ T) → (∀ x, x ∈ l → x ≠ g.st) → ∃ b, Lst g T c b
  | m, c, l, hm, hn, hf, he, hp, hs => by
    by_cases hc : c = g.st
    · exact ⟨[], hc⟩
    · have h0 : ∃ p, (p, c) ∈ T := by
        by_cases q : c = e
        · subst q; exact hp
        · obtain ⟨y, _, hy⟩ := hf.out (List.mem_cons_self) he q
          have hxx := (h.val _ hy).2.2
          exact inT_pos.1 (by rw [← h.bal c hc hxx]; exact outT_pos.2 ⟨y, hy⟩)
      obtain ⟨p, hpc⟩ := h0
      have hpn : p ∉ c :: l := fun q => by
        have hpe : p ≠ e := fun w => by subst w; have := (h.val _ hpc).2.2; simp only at this; rw [hx] at this; cases this
        have hpx := (h.val _ hpc).2.2
        have hps : p ≠ g.st := by
          rcases List.mem_cons.1 q with rfl | q
          · exact hc
          · exact hs p q
        obtain ⟨y, hy, hT⟩ := hf.out q he hpe
        have hb := h.bal p hps hpx
        have hl := h.le1 p
        have := outT_uniq h.nd (by omega) hT hpc
        subst this
        exact (List.nodup_cons.1 hn).1 hy
      match m with
      | 0 =>
        exfalso
        -- all cells of the list but the last one have an edge of their own
        have hlen : (c :: l).length ≤ T.length := by
          have key : ∀ x, x ∈ c :: l → x ∈ T.map (·.2) := fun x hxl => by
            by_cases q : x = c
            · subst q; exact List.mem_map.2 ⟨_, hpc, rfl⟩
            · have : ∀ (l : List Int) (c x : Int), Fwd T c l → x ∈ l → x ∈ T.map (·.2) := by
                intro l
                induction l with
                | nil => intro c x _ hx; cases hx
                | cons y l ih =>
                  intro c x hf hx
                  rcases List.mem_cons.1 hx with rfl | hx
                  · exact List.mem_map.2 ⟨_, hf.1, rfl⟩
                  · exact ih y x hf.2 hx
              rcases List.mem_cons.1 hxl with rfl | hxl
              · exact absurd rfl q
              · exact this l c x hf hxl
          have := nodup_sub hn key
          simpa using this
        simp only [List.length_cons] at hm hlen
        omega
      | m + 1 =>
        obtain ⟨b, hb⟩ := h.lst hne hx m p (c :: l) (by simp only [List.length_cons] at hm ⊢; omega) (List.nodup_cons.2 ⟨hpn, hn⟩) ⟨hpc, hf⟩ (by rw [List.getLast?_cons_cons]; exact he) hp (fun x hx => by
          rcases List.mem_cons.1 hx with rfl | hx
          · exact hc
          · exact hs x hx)
        exact ⟨p :: b, hc, hpc, hb⟩
theorem Flow.back (h : Flow g k T) (hne : ∀ a, a ∉ g.sp a) {p e : Int} (hx : g.ex e = true) (hp : (p, e) ∈ T) : ∃ b, Lst g T e b :=
  h.lst hne hx T.length e [] (by simp) (by simp) trivial (by simp) ⟨p, hp⟩ (by simp)
theorem Lst.uniq (h : Flow g k T) : ∀ {l l' : List Int} {c : Int}, Lst g T c l → Lst g T c l' → l = l'
  | [], [], _, _, _ => rfl
  | [], _ :: _, _, h1, h2 => absurd h1 h2.1
  | _ :: _, [], _, h1, h2 => absurd h2 h1.1
  | p :: l, q :: l', c, h1, h2 => by
    have := inT_uniq h.nd (h.le1 c) h1.2.1 h2.2.1
    subst this
    rw [Lst.uniq h h1.2.2 h2.2.2]
theorem Lst.suf : ∀ {l : List Int} {c x : Int}, Lst g T c l → x ∈ l → ∃ l', Lst g T x l' ∧ l'.length < l.length
  | p :: l, c, x, h, hx => by
    rcases List.mem_cons.1 hx with rfl | hx
    · exact ⟨l, h.2.2, by simp⟩
    · obtain ⟨l', h1, h2⟩ := Lst.suf h.2.2 hx
      exact ⟨l', h1, by simp; omega⟩
theorem Lst.nodup (h : Flow g k T) : ∀ {l : List Int} {c : Int}, Lst g T c l → (c :: l).Nodup
  | [], _, _ => by simp
  | p :: l, c, h1 => by
    refine List.nodup_cons.2 ⟨fun hx => ?_, Lst.nodup h h1.2.2⟩
    obtain ⟨l', a, b⟩ := h1.suf hx
    rw [Lst.uniq h a h1] at b
    omega
theorem Lst.out : ∀ {l : List Int} {c x : Int}, Lst g T c l → x ∈ l → ∃ y, y ∈ c :: l ∧ (x, y) ∈ T
  | p :: l, c, x, h, hx => by
    rcases List.mem_cons.1 hx with rfl | hx
    · exact ⟨c, List.mem_cons_self, h.2.1⟩
    · obtain ⟨y, a, b⟩ := Lst.out h.2.2 hx
      exact ⟨y, .tail _ a, b⟩
theorem Lst.meet (h : Flow g k T) {e : Int} {b : List Int} (he : g.ex e = true) (hb : Lst g T e b) : ∀ {l : List Int} {c x : Int}, Lst g T c l → x ∈ c :: l → x ≠ g.st → x ∈ e :: b → c ∈ e :: b
  | [], c, x, _, hx, _, hm => by simp at hx; subst hx; exact hm
  | p :: l, c, x, h1, hx, hs, hm => by
    rcases List.mem_cons.1 hx with rfl | hx
    · exact hm
    · have hp := Lst.meet h he hb h1.2.2 hx hs hm
      have hpx := (h.val _ h1.2.1).2.2
      have hps : p ≠ g.st := fun q => by
        subst q
        match l, h1.2.2, hx with
        | [], _, hx => simp at hx; exact hs hx
        | _ :: _, w, _ => exact w.1 rfl
      rcases List.mem_cons.1 hp with q | hp
      · subst q; simp only at hpx; rw [he] at hpx; cases hpx
      · obtain ⟨y, hy, hT⟩ := hb.out hp
        have hbb := h.bal p hps hpx
        have := h.le1 p
        have := outT_uniq h.nd (by omega) hT h1.2.1
        subst this; exact hy
theorem Lst.apart (h : Flow g k T) {e e' : Int} {b b' : List Int} (he : g.ex e = true) (he' : g.ex e' = true) (hb : Lst g T e b) (hb' : Lst g T e' b') (hn : e ≠ e') {x : Int} (hx : x ∈ e :: b) (hx' : x ∈ e' :: b') : x = g.st := by
  by_cases q : x = g.st
  · exact q
  · have := Lst.meet h he' hb' hb hx q hx'
    rcases List.mem_cons.1 this with w | w
    · exact absurd w hn
    · obtain ⟨y, _, hT⟩ := hb'.out w
      have := (h.val _ hT).2.2
      simp only at this
      rw [he] at this; cases this
theorem Lst.way (h : Flow g k T) : ∀ {l : List Int} {c : Int} {t : List Int}, Lst g T c l → Way g c t → ∃ r, (c :: l).reverse ++ t = g.st :: r ∧ Way g g.st r
  | [], c, t, h1, h2 => by
    have : c = g.st := h1
    subst this
    exact ⟨t, rfl, h2⟩
  | p :: l, c, t, h1, h2 => by
    have hv := h.val _ h1.2.1
    obtain ⟨r, a, b⟩ := Lst.way h h1.2.2 (t := c :: t) ⟨hv.2.2, hv.1, h2⟩
    exact ⟨r, by rw [← a]; simp, b⟩
def LaneP (g : Net) (l : List Int) : Prop := l.Nodup ∧ ∃ r, l = g.st :: r ∧ Way g g.st r
theorem Lst.lane (h : Flow g k T) {e : Int} {b : List Int} (he : g.ex e = true) (hb : Lst g T e b) : LaneP g (e :: b).reverse := by
  obtain ⟨r, h1, h2⟩ := hb.way h (t := []) he
  rw [List.append_nil] at h1
  exact ⟨(List.reverse_perm _).nodup_iff.2 (hb.nodup h), r, h1, h2⟩
end
end Go.Ln
