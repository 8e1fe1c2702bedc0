/-
  A logic of values for the walk, texts 29, 30, 31, 32, 33, 34, 35, 40, 36.
-/
import Derived.Test.YtnpedigoacbocaaDoorAb28
import Derived.Sort.Grow
import Derived.Lib.SliceRun
import Derived.Test.YtnpedigoacbocaaDoorAb16
import Derived.SizedLaws

/-! A logic of values for the walk, twenty-ninth part: conversions of integers whose types are told by name. -/
namespace Go.Ab
open Go
set_option linter.unusedVariables false
set_option linter.unusedSimpArgs false
def IntT (P : Program) (t : TypeId) (k : IntKind) : Prop := P.underlying t = some (.int k)
section
variable {P : Program} {env : Env} {h : Hp} {d : Option Nat} {ty : TypeId} {pos : String} {af : Array Edge} {g : Option (Nat × Bool)}
theorem fs_convT {s t : TypeId} {x : Operand} {ks k kk : IntKind} {n : Int} (hs : IntT P s ks) (ht : IntT P t k) (hx : evu env x = some (.v (.int kk n))) (hn : k.wrap n = n) :
    FStep P ⟨d, .convert s t x, ty, pos, af, g⟩ env h 0 (fun _ => .v (.int k n)) (fun _ => []) := fs_convII hs ht hx hn
theorem wrapU {n : Int} (h0 : 0 ≤ n) (h1 : n < 18446744073709551616) : IntKind.u64.wrap n = n := by
  simp [IntKind.wrap, IntKind.signed, IntKind.bits]; omega
end
end Go.Ab

/-! A logic of values for the walk, thirtieth part: looking a key up without asking whether it is there; keys that are numbers. -/
namespace Go.Ab
open Go Go.MapKept
set_option linter.unusedVariables false
set_option linter.unusedSimpArgs false
section
variable {P : Program} {env : Env} {h : Hp} {d : Option Nat} {ty : TypeId} {pos : String} {af : Array Edge} {g : Option (Nat × Bool)}
variable {t kt et : TypeId} {good : Value → Prop} {x y : Operand} {k i : Nat} {kv : Value} {ks : List Value} {vs : List AV} {v : AV}
theorem fs_mapGet1 (ht : P.underlying t = some (.map kt et)) (ko : KeyOk P kt good) (hx : evu env x = some (.mp k)) {yv : AV} (hy : evu env y = some yv) (hyv : IsV yv kv) (hk : h[k]? = some (.mapO ks vs)) (hkeys : ∀ q, q ∈ ks → good q) (hkey : good kv) (hnd : ks.Nodup) (hi : ks[i]? = some kv) (hv : vs[i]? = some v) :
    FStep P ⟨d, .lookup t x y false, ty, pos, af, g⟩ env h 0 (fun _ => v) (fun _ => []) := by
  refine fs_val fun ρ S a w p => ?_
  have h1 := p.evu hx
  simp only [R] at h1
  obtain ⟨b, o, h2, h3⟩ := h1
  have h4 := hyv _ _ _ _ (p.evu hy)
  obtain ⟨b', o', l, ck, h5, h6, h7, h8⟩ := map_find (p.blk k _ hk)
  rw [h2] at h5; cases h5
  obtain ⟨e, h9, h10, _⟩ := find_some ko w h7 hkeys hkey hnd hi
  refine ⟨e.val, ?_, ?_⟩
  · simp [execOp, h3, h4, Instr.lookup, run_underlying ht, MapKept.run_getObj_map h6, ko.check w _ hkey, h9]
  · obtain ⟨u, h11, h12⟩ := RL_get h8 i v hv
    rw [List.getElem?_map, h10] at h11
    cases h11
    exact h12
end
abbrev kI (n : Int) : Value := .int .i64 n
theorem isv_i (n : Int) : IsV (.i n) (kI n) := IsV.v _
theorem KeyOk.int {P : Program} {kt : TypeId} (hd : P.underlying kt = some (.int .i64)) : KeyOk P kt (IsKey (.int .i64)) := KeyOk.plain hd
theorem good_i (n : Int) : IsKey (.int .i64) (kI n) := rfl
end Go.Ab

/-! A logic of values for the walk: slices.Sort at []int, out of the library's contract. -/
namespace Go.Ab
open Go
set_option linter.unusedVariables false
set_option linter.unusedSimpArgs false
set_option maxHeartbeats 1000000

abbrev isA (l : List Int) : List (List AV) := l.map fun n => [AV.i n]
/-- The numbers in ascending order. -/
def sorted (l : List Int) : List Int := l.mergeSort fun x y => decide (x ≤ y)
theorem sorted_len (l : List Int) : (sorted l).length = l.length := List.length_mergeSort l
theorem isA_flat : ∀ l : List Int, (isA l).flatten = l.map AV.i
  | [] => rfl
  | a :: l => by
    show [AV.i a] ++ (isA l).flatten = _
    rw [isA_flat l]; rfl
theorem RL_ints {S : Nat → Prop} {w : World} {ρ : Pl} : ∀ {l : List Int} {ys : List Value}, RL S w (l.map AV.i) ρ ys ↔ ys = l.map (Value.int .i64)
  | [], ys => by simp [RL]
  | a :: l, ys => by
    simp only [List.map_cons, RL, R]
    constructor
    · rintro ⟨y, zs, rfl, rfl, h⟩
      rw [RL_ints.1 h]
    · rintro rfl
      exact ⟨_, _, rfl, rfl, RL_ints.2 rfl⟩
theorem sort_heap {w : World} {n b off : Nat} {d : List Int} {os : Array Obj} {c : Array Value} {e : TypeId} (hc : w.heap[b]? = some (.cells c e (0, 0))) (hb : b < w.heap.size) :
    (Sort.grow (Sort.putRow (Value.int .i64) (Sort.ahead w n) b off d.toArray) os).heap[b]? = some (.cells (Sort.putCells (Value.int .i64) off d.toArray c) e (0, 0)) := by
  rw [Sort.heap_grow_old _ _ (by rw [Sort.size_putRow]; exact hb)]
  unfold Sort.putRow Sort.mapBlock
  show (w.heap.modify b _)[b]? = _
  rw [Array.getElem?_modify, if_pos rfl, hc]; rfl
theorem sort_ext {w : World} {n b off : Nat} {d : List Int} {os : Array Obj} {c : Array Value} {e : TypeId} (hc : w.heap[b]? = some (.cells c e (0, 0))) (hb : b < w.heap.size) :
    Ext (fun x => x = b) w (Sort.grow (Sort.putRow (Value.int .i64) (Sort.ahead w n) b off d.toArray) os) := by
  have other : ∀ x, x < w.heap.size → x ≠ b → (Sort.grow (Sort.putRow (Value.int .i64) (Sort.ahead w n) b off d.toArray) os).heap[x]? = w.heap[x]? := fun x hx hne => by
    rw [Sort.heap_grow_old _ _ (by rw [Sort.size_putRow]; exact hx)]
    unfold Sort.putRow Sort.mapBlock
    show (w.heap.modify b _)[x]? = _
    rw [Array.getElem?_modify, if_neg (Ne.symm hne)]
  refine ⟨rfl, rfl, rfl, by rw [Sort.size_grow, Sort.size_putRow]; exact Nat.le_add_right _ _, fun x hx hne => other x hx hne, fun x cc ee fz hcc => ?_⟩
  by_cases hx : x = b
  · subst hx
    rw [hc] at hcc
    cases hcc
    exact ⟨_, _, sort_heap hc hb, by simp [Sort.putCells]⟩
  · exact ⟨cc, fz, by rw [other x (Array.getElem?_eq_some_iff.1 hcc).1 hx]; exact hcc, rfl⟩
theorem acall_sort {P : Program} {f : FuncId} (hfn : ∃ fn, P.funcs[f]? = some fn ∧ (fn.name == "runtime.NumGoroutine") = false ∧ fn.body.isNone = false)
    (hs : ∀ (blk off cap : Nat) (zs : List Int) (w : World), Sort.Holds (Value.int .i64) w blk off zs.toArray → blk < w.heap.size → zs.length < 4611686018427387904 →
      Calls P f #[.slice (some ⟨blk, off, none⟩) zs.length cap] w fun e w' => e = .returned (.tuple #[]) ∧ ∃ n os, w' = Sort.grow (Sort.putRow (Value.int .i64) (Sort.ahead w n) blk off (zs.mergeSort fun x y => decide (x ≤ y)).toArray) os)
    (hn : ∀ (p : Option Addr) (cap : Nat) (w : World), Calls P f #[.slice p 0 cap] w fun e w' => e = .returned (.tuple #[]) ∧ w' = w)
    (l : List Int) (hl : l.length ≤ 17592186043904) : ACall P f [.sl 0 0 l.length 1] [.arr (isA l) 1] (.tup []) [.arr (isA (sorted l)) 1] := by
  refine ⟨hfn, fun ρ S w vs s hv => ?_⟩
  simp only [RL] at hv
  obtain ⟨y, _, rfl, hy, rfl⟩ := hv
  simp only [R] at hy
  obtain ⟨a, cap, rfl, hcap, hy⟩ := hy
  cases l with
  | nil =>
    refine (hn a cap w).mono fun e w' ⟨he, hw⟩ => ?_
    subst he hw
    rw [show sorted [] = [] from by simp [sorted]]
    exact ⟨_, ρ, S, rfl, s, by simp [R, RL]⟩
  | cons i0 l0 =>
    rcases hy with ⟨h0, _⟩ | ⟨b, o, hp, ha, hcl, _⟩
    · cases h0
    · obtain ⟨_, _, h3⟩ := s.blk 0 _ rfl
      rcases h3 with ⟨h3, _⟩ | ⟨b', o', ys, h4, h5, h6⟩
      · cases h3
      · rw [hp] at h4
        cases h4
        rw [isA_flat] at h6
        have h6 := RL_ints.1 h6
        subst h6
        obtain ⟨c, ty, hc, hg⟩ := h5
        have hb := (Array.getElem?_eq_some_iff.1 hc).1
        rw [Nat.zero_mul, Nat.add_zero] at ha
        subst ha
        have hH : Sort.Holds (Value.int .i64) w b o (i0 :: l0).toArray := fun j hj => by
          have hj : j < (i0 :: l0).length := by simpa using hj
          have := hg j (.int .i64 (i0 :: l0)[j]) (by rw [List.getElem?_map, List.getElem?_eq_getElem hj]; rfl)
          refine ⟨?_, ?_⟩
          · unfold World.cell?
            simp only [hc]
            rw [if_neg (by simp), this]
            congr 2
            rw [getElem!_pos _ j (by simpa using hj)]
            simp
          · unfold World.frozen?
            simp only [hc]
            simp
        refine (hs b o cap (i0 :: l0) w hH hb (by omega)).mono fun e w' ⟨he, n, os, hw⟩ => ?_
        subst he
        have hlen := sorted_len (i0 :: l0)
        have hw : w' = Sort.grow (Sort.putRow (Value.int .i64) (Sort.ahead w n) b o (sorted (i0 :: l0)).toArray) os := hw
        have hh : w'.heap[b]? = some (.cells (Sort.putCells (Value.int .i64) o (sorted (i0 :: l0)).toArray c) ty (0, 0)) := by rw [hw]; exact sort_heap hc hb
        obtain ⟨s', _⟩ := s.upd (k := 0) (b0 := .arr (isA (i0 :: l0)) 1) (nb := .arr (isA (sorted (i0 :: l0))) 1) (w' := w') rfl (by simp) hp (by rw [hw]; exact sort_ext hc hb) (fun _ => by
          refine ⟨fun e he => by obtain ⟨i, _, rfl⟩ := List.mem_map.1 he; rfl, Nat.one_pos, .inr ⟨b, o, (sorted (i0 :: l0)).map (Value.int .i64), rfl, ⟨_, ty, hh, fun j y hj => ?_⟩, by rw [isA_flat]; exact RL_ints.2 rfl⟩⟩
          rw [List.getElem?_map] at hj
          obtain ⟨z, hz, rfl⟩ := Option.map_eq_some_iff.1 hj
          obtain ⟨hjl, hz⟩ := List.getElem?_eq_some_iff.1 hz
          have hold := hg j (.int .i64 ((i0 :: l0)[j]'(by omega))) (by rw [List.getElem?_map, List.getElem?_eq_getElem (by omega)]; rfl)
          have hlt := (Array.getElem?_eq_some_iff.1 hold).1
          unfold Sort.putCells
          rw [Array.getElem?_mapIdx, hold]
          show some (if o ≤ o + j ∧ o + j < o + (sorted (i0 :: l0)).toArray.size then _ else _) = _
          rw [if_pos ⟨by omega, by simpa using hjl⟩]
          congr 2
          rw [show o + j - o = j by omega, getElem!_pos _ j (by simpa using hjl)]
          simpa using hz)
        exact ⟨_, ρ, S, rfl, s', by simp [R, RL]⟩
end Go.Ab

/-! A logic of values for the walk: clear of a slice of integers: what is behind it is forgotten. -/
namespace Go.Ab
open Go
set_option linter.unusedVariables false
set_option linter.unusedSimpArgs false
set_option maxHeartbeats 1000000
theorem flat_take {es : List (List AV)} {sz : Nat} (h : ∀ e, e ∈ es → e.length = sz) (m : Nat) : (es.take m).flatten = es.flatten.take (m * sz) := by
  induction es generalizing m with
  | nil => simp
  | cons a l ih =>
    have ha := h a List.mem_cons_self
    cases m with
    | zero => simp
    | succ m =>
      rw [List.take_succ_cons, List.flatten_cons, List.flatten_cons, ih (fun e he => h e (List.mem_cons_of_mem _ he)), List.take_append]
      rw [List.take_of_length_le (l := a) (by rw [ha, Nat.add_mul]; omega), ha, Nat.add_mul, Nat.one_mul, Nat.add_sub_cancel]
theorem RB_take {S : Nat → Prop} {w : World} {ρ : Pl} {p : Option (Nat × Nat)} {es : List (List AV)} {sz : Nat} (m : Nat) (h : RB S w ρ p (.arr es sz)) : RB S w ρ p (.arr (es.take m) sz) := by
  obtain ⟨h1, h2, h3⟩ := h
  refine ⟨fun e he => h1 e (List.mem_of_mem_take he), h2, ?_⟩
  rcases h3 with h3 | ⟨b, o, ys, h4, ⟨c, e, h5, h6⟩, h7⟩
  · exact .inl ⟨by rw [h3.1]; simp, h3.2⟩
  · refine .inr ⟨b, o, ys.take (m * sz), h4, ⟨c, e, h5, fun j y hj => h6 j y ?_⟩, by rw [flat_take h1]; exact RL_take h7 _⟩
    rw [List.getElem?_take] at hj
    split at hj
    · exact hj
    · cases hj
section
variable {P : Program} {env : Env} {h : Hp} {n : Nat × Nat} {ops : Array Oper} {rest : List Oper} {K : Env → Hp → Prop} {ty : TypeId} {pos : String} {af : Array Edge}
theorem vc_clear (T : Tab P) {t e k off len : Nat} {i : TI} {x : Operand} {es : List (List AV)} (hx : evu env x = some (.sl k off len 1)) (ht : T.elem t = some e) (he : T.ti e = some i) (hz : i.zero = [.int .i64 0]) (hkk : h[k]? = some (.arr es 1)) (hle : off + len ≤ es.length)
    (hk : VC P n ops rest env (h.set k (.arr (es.take off) 1)) K) : VC P n ops (⟨none, .call { callee := .builtin .clear, args := #[x], argTypes := #[t] }, ty, pos, af, none⟩ :: rest) env h K := by
  intro c ρ S a w Q s hQ
  refine wpList_plain rfl fun K' hK' => ?_
  have p := s.pre
  have hxv := p.evu hx
  simp only [R] at hxv
  obtain ⟨ad, cap, hev, _, hxv⟩ := hxv
  obtain ⟨inf, z, t1, t2, t3, t4, t5, t6, t7⟩ := T.tiOk e i he
  have hund : P.underlying t = some (.slice e) := T.elemOk _ _ ht
  have hzv : ∀ w, (zeroValue e).run P w = .ok z w := fun w => by simp [zeroValue, typeInfo, t1, t4]
  have hzc : z.cells = #[.int .i64 0] := by
    rw [hz] at t5
    exact Array.toList_inj.1 t5
  have ev1 : ∀ r w', (Builtin.clear_ #[t] ty #[a.eval x]).run P w = .ok r w' → (execOp a.eval ⟨none, .call { callee := .builtin .clear, args := #[x], argTypes := #[t] }, ty, pos, af, none⟩).run P w = .ok (.value r) w' := fun r w' hr => by
    simp [execOp, resolve, invoke, builtin, hr]
  have fin : ∀ {r : Value} {w' : World}, (Builtin.clear_ #[t] ty #[a.eval x]).run P w = .ok r w' → HS c ρ S (h.set k (.arr (es.take off) 1)) w' ∧ Later ρ ρ S S w w' → Oper.wp P ⟨none, .call { callee := .builtin .clear, args := #[x], argTypes := #[t] }, ty, pos, af, none⟩ a w K' Q := fun {r w'} hr ⟨g1, g2⟩ => by
    unfold Oper.wp
    rw [ev1 r w' hr]
    exact hK' _ _ (hk c ρ S _ _ Q ⟨by rw [size_put]; exact s.size, by rw [defers_put]; exact s.defers.later g2, fun tt uu huu => (s.env tt uu huu).later g2, g1, s.cm⟩ hQ)
  have stay : HS c ρ S (h.set k (.arr (es.take off) 1)) w ∧ Later ρ ρ S S w w := ⟨s.hs.alter hkk (RB_take off) (by simp), ⟨fun _ _ h => h, fun _ h => h, fun _ _ => rfl, fun _ _ _ _ _ h => h⟩⟩
  cases len with
  | zero =>
    refine fin (r := .tuple #[]) ?_ stay
    rw [hev]
    cases ad <;> simp [Builtin.clear_, run_underlying hund]
  | succ m =>
    rcases hxv with ⟨h0, _⟩ | ⟨b, o, hp, ha, hlc, hroom⟩
    · cases h0
    · have hB := p.blk k _ hkk
      obtain ⟨hes, hs0, hB⟩ := hB
      rcases hB with hB | ⟨b', o', ys, h4, ⟨cc, ct, h5, h6⟩, h7⟩
      · obtain ⟨hB, _⟩ := hB; subst hB; simp at hle
      rw [hp] at h4
      cases h4
      have hyl := RL_length h7
      have hfl := length_flatten_of hes
      have hlast := h6 (ys.length - 1) (ys[ys.length - 1]'(by omega)) (List.getElem?_eq_getElem _)
      have hsz := (Array.getElem?_eq_some_iff.1 hlast).1
      have hzs : (Builtin.zeroCells z.cells (m + 1)).toList = List.replicate (m + 1) (.int .i64 0) := by
        rw [hzc]
        simp [Builtin.zeroCells]
        apply List.ext_getElem
        · simp
        · intro i h1 h2
          simp [Nat.mod_one]
      have hst := run_storeCells_at P b (o + off) ct (List.replicate (m + 1) (Value.int .i64 0)) 0 cc w h5 (by rw [List.length_replicate]; omega) (by intro v hv; rw [List.eq_of_mem_replicate hv]; rfl)
      rw [Nat.mul_one] at ha
      subst ha
      refine fin (r := .tuple #[]) (w' := w.setRow b (cc.toList.take (o + off + 0) ++ List.replicate (m + 1) (Value.int .i64 0) ++ cc.toList.drop (o + off + 0 + (List.replicate (m + 1) (Value.int .i64 0)).length)).toArray) ?_ (s.hs.upd hkk (by simp) hp (ext_setRow h5 ?_) fun l => ?_)
      · rw [hev]
        simp only [Builtin.clear_]
        simp [run_underlying hund, hzv, hzs, hst]
      · simp; omega
      · refine ⟨fun e he => hes e (List.mem_of_mem_take he), Nat.one_pos, .inr ⟨b, o, ys.take off, rfl, ⟨_, ct, setRow_heap w b cc _ ct _ h5, fun j y hj => ?_⟩, ?_⟩⟩
        · rw [List.getElem?_take] at hj
          split at hj
          · rename_i hjo
            have := h6 j y hj
            have hjl := (Array.getElem?_eq_some_iff.1 this).1
            rw [List.getElem?_toArray, List.append_assoc, List.getElem?_append_left (by simp; omega), List.getElem?_take, if_pos (by omega)]
            simpa using this
          · cases hj
        · rw [flat_take hes, Nat.mul_one]
          exact RL_take (h7.later l) off
end
end Go.Ab

/-! A logic of values for the walk: is a slice nil that is only read? -/
namespace Go.Ab
open Go
set_option linter.unusedVariables false
set_option linter.unusedSimpArgs false
section
variable {P : Program} {env : Env} {h : Hp} {n : Nat × Nat} {ops : Array Oper} {rest : List Oper} {K : Env → Hp → Prop} {ty : TypeId} {pos : String} {af : Array Edge}
theorem vc_eqNil {t t2 e len sz dd : Nat} {cs : List AV} {x y : Operand} (T : Tab P) (hx : evu env x = some (.row cs len sz)) (hy : evu env y = some .nils) (ht : T.elem t = some e) (hd : okd (some dd) n = true)
    (hk : ∀ b : Bool, (0 < len → b = false) → VC P n ops rest ((dd, .b b) :: env) h K) : VC P n ops (⟨some dd, .binOp .eql t x y t2, ty, pos, af, none⟩ :: rest) env h K := by
  intro c ρ S a w Q s hQ
  refine wpList_plain rfl fun K' hK' => ?_
  have p := s.pre
  have h3 := p.evu hx
  simp only [R] at h3
  obtain ⟨ad, cap, h4, hlc, hn, _⟩ := h3
  have h5 := R_v (p.evu hy)
  have run : (execOp a.eval ⟨some dd, .binOp .eql t x y t2, ty, pos, af, none⟩).run P w = .ok (.value (.bool ad.isNone)) w := by
    have he := Lib.run_eql_slice_nil w t e ad len cap 0 0 (T.elemOk _ _ ht)
    have hg : (eqGuard .eql t x y (.slice ad len cap) (.slice none 0 0)).run P w = .ok () w := by cases ad <;> rfl
    simp [execOp, h4, h5, hg, he]
  have hv := hk ad.isNone (fun h0 => by
    cases ad with
    | none => have := hn rfl; omega
    | some _ => rfl)
  unfold Oper.wp
  rw [run]
  have hs := s.post (d := some dd) (m := 0) (x := .b ad.isNone) (new := []) (y := .bool ad.isNone) hd ⟨Ext.refl _ _, rfl, fun _ _ => rfl, fun _ h => h, fun _ h => .inl h, fun k p h1 h2 => by omega, fun k k' p p' h1 h2 => by omega, R_v_mk _, fun j b hb => by simp at hb⟩
  rw [List.append_nil] at hs
  exact hK' _ _ (hv c ρ S _ w Q hs hQ)
end
end Go.Ab

/-! A logic of values for the walk: a variable that nobody writes any more; lists of numbers. -/
namespace Go.Ab
open Go
set_option linter.unusedVariables false
set_option linter.unusedSimpArgs false

theorem HS.freezeC {c : Ctx} {ρ : Pl} {S : Nat → Prop} {h : Hp} {w : World} {k : Nat} {x : AB} (s : HS c ρ S h w) (hk : h[k]? = some x) (hx : x ≠ .gone) : HS c ρ (fun b => S b ∨ ∃ o, ρ k = some (b, o)) (h.set k .gone) w := by
  have get : ∀ {j : Nat} {b : AB}, (h.set k .gone)[j]? = some b → b ≠ .gone → j ≠ k ∧ h[j]? = some b := fun {j b} hj hg => by
    rw [List.getElem?_set] at hj
    split at hj
    · split at hj
      · cases hj; exact absurd rfl hg
      · cases hj
    · rename_i e; exact ⟨fun e' => e e'.symm, hj⟩
  have l : Later ρ ρ S (fun b => S b ∨ ∃ o, ρ k = some (b, o)) w w := ⟨fun _ _ h => h, fun _ h => .inl h, fun _ _ => rfl, fun _ _ _ _ _ h => h⟩
  refine ⟨fun j hj => s.dom j (by simpa using hj), s.rng, fun j b hb => ?_, fun j b p hb hg hp => ?_, fun j j' b b' p p' hb hb' hg hg' hp hp' e => s.inj j j' b b' p p' (get hb hg).2 (get hb' hg').2 hg hg' hp hp' e, fun b hb => ?_, s.ext, fun b hb => .inl (s.st0 b hb), fun b hb => ?_, by simpa using s.mle, s.keep, s.glob.st (fun b hb => .inl hb)⟩
  · by_cases hg : b = .gone
    · subst hg; trivial
    · exact RB.later l (fun _ _ _ => rfl) (s.blk j b (get hb hg).2)
  · obtain ⟨h1, h2⟩ := s.live j b p (get hb hg).2 hg hp
    refine ⟨h1, fun hs => ?_⟩
    rcases hs with hs | ⟨o, ho⟩
    · exact h2 hs
    · exact (get hb hg).1 (s.inj j k b _ p _ (get hb hg).2 hk hg hx hp ho rfl)
  · rcases hb with hb | ⟨o, ho⟩
    · exact s.stab b hb
    · exact s.rng k _ ho
  · rcases hb with hb | ⟨o, ho⟩
    · exact s.st1 b hb
    · exact .inr (s.live k _ _ hk hx ho).1
theorem frzC_val {S : Nat → Prop} {w : World} {ρ : Pl} {k off : Nat} {cs : List AV} (hi : AV.idfL cs = true) (hb : RB S w ρ (ρ k) (.cells cs)) {y : Value} (hy : R S w (.ptr k off) ρ y) : R (fun c => S c ∨ ∃ o, ρ k = some (c, o)) w (.pr cs off) ρ y := by
  simp only [RB] at hb
  obtain ⟨b, o, ys, h1, h2, h3⟩ := hb
  simp only [R] at hy ⊢
  obtain ⟨b', o', h4, rfl⟩ := hy
  rw [h1] at h4; cases h4
  exact ⟨b, o, ys, rfl, .inr ⟨o, h1⟩, h2.lies, RL_st (fun _ h => .inl h) (RL_idf ρ _ _ _ hi h3)⟩
/-- A closure over one variable that nobody writes any more. -/
theorem acall_frzC {P : Program} {f : FuncId} {args cs : List AV} {fn : Fn} (hi : AV.idfL cs = true) (h : ACall P f args [] (.clo fn [] [.ptr 0 0]) [.cells cs]) : ACall P f args [] (.clo fn [] [.pr cs 0]) [] := by
  refine ⟨h.1, fun ρ S w vs hs ha => (h.2 ρ S w vs hs ha).mono ?_⟩
  rintro e w' ⟨y, ρ', S', rfl, h2, h3⟩
  simp only [R, RL] at h3
  obtain ⟨ys, zs, rfl, h4, y2, z2, e2, h5, e3⟩ := h3
  refine ⟨_, _, _, rfl, (h2.freezeC (k := 0) rfl (by simp)).none rfl, ?_⟩
  unfold R
  refine ⟨ys, zs, rfl, ?_, ?_⟩
  · simp only [RL]; exact h4
  · rw [e2, e3]
    simp only [RL]
    refine ⟨y2, [], rfl, R_idf ρ' _ _ _ rfl (frzC_val hi (h2.blk 0 _ rfl) ?_), rfl⟩
    simp only [R]; exact h5

/-! ### Lists of numbers -/
abbrev ints (l : List Int) : List (List AV) := l.map fun n => [AV.i n]
abbrev bools (l : List Bool) : List (List AV) := l.map fun n => [AV.b n]
abbrev nats (l : List Nat) : List Int := l.map fun n : Nat => (n : Int)
theorem ints_len (l : List Int) : ∀ e, e ∈ ints l → e.length = 1 := by intro e he; obtain ⟨n, _, rfl⟩ := List.mem_map.1 he; rfl
theorem bools_len (l : List Bool) : ∀ e, e ∈ bools l → e.length = 1 := by intro e he; obtain ⟨n, _, rfl⟩ := List.mem_map.1 he; rfl
theorem ints_idf (l : List Int) : ∀ e, e ∈ ints l → AV.idfL e = true := by intro e he; obtain ⟨i, _, rfl⟩ := List.mem_map.1 he; rfl
theorem bools_idf (l : List Bool) : ∀ e, e ∈ bools l → AV.idfL e = true := by intro e he; obtain ⟨i, _, rfl⟩ := List.mem_map.1 he; rfl
theorem ints_rf (l : List Int) : AV.rfL (ints l).flatten = true := by
  induction l with
  | nil => rfl
  | cons c l ih => exact ih
theorem ints_map (θ : Nat → Nat) (l : List Int) : (ints l).map (AV.mapL θ) = ints l := by
  rw [List.map_map]; rfl
theorem ints_one (l : List Int) : (ints l).flatten.all AV.one = true :=
  List.all_eq_true.2 fun x hx => by obtain ⟨i, _, rfl⟩ := List.mem_map.1 ((isA_flat l) ▸ hx); rfl
theorem ints_idfF (l : List Int) : AV.idfL (ints l).flatten = true := by
  induction l with
  | nil => rfl
  | cons c l ih => exact ih
theorem ints_gI {l : List Int} {j : Int} {i : Nat} (d : Int) (h : i < l.length) (e : j = i) : (ints l)[j.toNat]? = some [AV.i (l.getD i d)] := by
  subst e
  rw [Int.toNat_natCast, List.getElem?_map, List.getElem?_eq_getElem h, List.getD_eq_getElem?_getD, List.getElem?_eq_getElem h]; rfl
theorem ints_gO {l : List Int} {j : Int} {i : Nat} (d : Int) (h : i < l.length) (e : j = i) : (ints l)[0 + j.toNat]? = some [AV.i (l.getD i d)] := by
  rw [Nat.zero_add]; exact ints_gI d h e
theorem nats_gI {l : List Nat} {j : Int} {i : Nat} (h : i < l.length) (e : j = i) : (ints (nats l))[j.toNat]? = some [AV.i (l.getD i 0 : Nat)] := by
  subst e
  rw [Int.toNat_natCast, List.getElem?_map, List.getElem?_map, List.getElem?_eq_getElem h, List.getD_eq_getElem?_getD, List.getElem?_eq_getElem h]; rfl
theorem nats_gO {l : List Nat} {j : Int} {i : Nat} (h : i < l.length) (e : j = i) : (ints (nats l))[0 + j.toNat]? = some [AV.i (l.getD i 0 : Nat)] := by
  rw [Nat.zero_add]; exact nats_gI h e
theorem bools_gO {l : List Bool} {j : Int} {i : Nat} (h : i < l.length) (e : j = i) : (bools l)[0 + j.toNat]? = some [AV.b (l.getD i false)] := by
  subst e
  rw [Nat.zero_add, Int.toNat_natCast, List.getElem?_map, List.getElem?_eq_getElem h, List.getD_eq_getElem?_getD, List.getElem?_eq_getElem h]; rfl
theorem ints_sO {l : List Int} {j x : Int} {i : Nat} (e : j = i) : (ints l).set (0 + j.toNat) [AV.i x] = ints (l.set i x) := by
  subst e
  rw [Nat.zero_add, Int.toNat_natCast, ← List.map_set]
theorem nats_sO {l : List Nat} {j x : Int} {i y : Nat} (e : j = i) (ex : x = y) : (ints (nats l)).set (0 + j.toNat) [AV.i x] = ints (nats (l.set i y)) := by
  subst e ex
  rw [Nat.zero_add, Int.toNat_natCast]
  show _ = ((l.set i y).map _).map _
  rw [List.map_set, List.map_set]
theorem bools_sO {l : List Bool} {j : Int} {x : Bool} {i : Nat} (e : j = i) : (bools l).set (0 + j.toNat) [AV.b x] = bools (l.set i x) := by
  subst e
  rw [Nat.zero_add, Int.toNat_natCast, ← List.map_set]
theorem lt0z {m : Nat} {L : List Nat} (h : m = 0) : ∀ i : Nat, i < m → L[i]? = some i := fun i hi => absurd hi (by omega)
theorem lt1z : ∀ i : Nat, i < 1 → ([0] : List Nat)[i]? = some i := by decide
theorem viewL_ints (h : Hp) : ∀ l : List Int, ViewL h (ints l).flatten (ints l).flatten
  | [] => .nil
  | _ :: l => .cons (.v _) (viewL_ints h l)
theorem view_ints {h : Hp} {k n : Nat} {l : List Int} (hk : h[k]? = some (.arr (ints l) 1)) (hn : n = l.length) : View h (.sl k 0 n 1) (.rowE (ints l) 1) := by
  subst hn
  have := View.sl (h := h) (k := k) (off := 0) (len := l.length) hk (by simp) (by rw [List.drop_zero, List.take_of_length_le (by simp)]; exact viewL_ints h l)
  rwa [show l.length = (ints l).length by simp] at this ⊢
theorem app_one {l : List (List AV)} {n : Nat} {x : List AV} (h : n = l.length) : List.take n (List.drop 0 l) ++ [x] = l ++ [x] := by
  rw [List.drop_zero, h, List.take_length]
theorem ints_snoc (l : List Int) (x : Int) : ints l ++ [[AV.i x]] = ints (l ++ [x]) := by simp
theorem nats_snoc (l : List Nat) (x : Nat) : ints (nats l) ++ [[AV.i (x : Int)]] = ints (nats (l ++ [x])) := by simp
theorem ints_length (l : List Int) : (ints l).length = l.length := List.length_map _
theorem nats_length (l : List Nat) : (ints (nats l)).length = l.length := by simp
theorem bools_length (l : List Bool) : (bools l).length = l.length := List.length_map _
end Go.Ab

/-! A logic of values for the walk: slices.Reverse and slices.Delete at []int, out of the library's contracts. -/
namespace Go.Ab
open Go
set_option linter.unusedVariables false
set_option linter.unusedSimpArgs false
set_option maxHeartbeats 1000000

theorem grow_nil (w : World) : Sort.grow w #[] = w := by simp [Sort.grow]
/-- The object's cells, as the library's contracts ask for them. -/
theorem holds_hs {c : Ctx} {ρ : Pl} {S : Nat → Prop} {l : List Int} {w : World} {b o : Nat} (s : HS c ρ S [.arr (isA l) 1] w) (hp : ρ 0 = some (b, o)) (hne : l ≠ []) : Sort.Holds (Value.int .i64) w b o l.toArray ∧ b < w.heap.size := by
  obtain ⟨_, _, h3⟩ := s.blk 0 _ rfl
  rcases h3 with h3 | ⟨b', o', ys, h4, h5, h6⟩
  · exact absurd (List.map_eq_nil_iff.1 h3.1) hne
  · rw [hp] at h4
    cases h4
    rw [isA_flat] at h6
    have h6 := RL_ints.1 h6
    subst h6
    obtain ⟨c, ty, hc, hg⟩ := h5
    refine ⟨fun j hj => ?_, (Array.getElem?_eq_some_iff.1 hc).1⟩
    have hj : j < l.length := by simpa using hj
    have := hg j (.int .i64 l[j]) (by rw [List.getElem?_map, List.getElem?_eq_getElem hj]; rfl)
    refine ⟨?_, ?_⟩
    · unfold World.cell?
      simp only [hc]
      rw [if_neg (by simp), this]
      congr 2
      rw [getElem!_pos _ j (by simpa using hj)]
      simp
    · unfold World.frozen?
      simp only [hc]
      simp
theorem put_hs {c : Ctx} {ρ : Pl} {S : Nat → Prop} {l d : List Int} {w w' : World} {b o n : Nat} {os : Array Obj} (s : HS c ρ S [.arr (isA l) 1] w) (hp : ρ 0 = some (b, o)) (hne : l ≠ []) (hl : d.length = l.length)
    (hw : w' = Sort.grow (Sort.putRow (Value.int .i64) (Sort.ahead w n) b o d.toArray) os) : HS c ρ S [.arr (isA d) 1] w' := by
  obtain ⟨_, _, h3⟩ := s.blk 0 _ rfl
  rcases h3 with h3 | ⟨b', o', ys, h4, h5, h6⟩
  · exact absurd (List.map_eq_nil_iff.1 h3.1) hne
  · rw [hp] at h4
    cases h4
    rw [isA_flat] at h6
    have h6 := RL_ints.1 h6
    subst h6
    obtain ⟨c, ty, hc, hg⟩ := h5
    have hb := (Array.getElem?_eq_some_iff.1 hc).1
    have hh : w'.heap[b]? = some (.cells (Sort.putCells (Value.int .i64) o d.toArray c) ty (0, 0)) := by rw [hw]; exact sort_heap hc hb
    obtain ⟨s', _⟩ := s.upd (k := 0) (b0 := .arr (isA l) 1) (nb := .arr (isA d) 1) (w' := w') rfl (by simp) hp (by rw [hw]; exact sort_ext hc hb) (fun _ => by
      refine ⟨fun e he => by obtain ⟨i, _, rfl⟩ := List.mem_map.1 he; rfl, Nat.one_pos, .inr ⟨b, o, d.map (Value.int .i64), rfl, ⟨_, ty, hh, fun j y hj => ?_⟩, by rw [isA_flat]; exact RL_ints.2 rfl⟩⟩
      rw [List.getElem?_map] at hj
      obtain ⟨z, hz, rfl⟩ := Option.map_eq_some_iff.1 hj
      obtain ⟨hjl, hz⟩ := List.getElem?_eq_some_iff.1 hz
      have hold := hg j (.int .i64 (l[j]'(by omega))) (by rw [List.getElem?_map, List.getElem?_eq_getElem (by omega)]; rfl)
      unfold Sort.putCells
      rw [Array.getElem?_mapIdx, hold]
      show some (if o ≤ o + j ∧ o + j < o + d.toArray.size then _ else _) = _
      rw [if_pos ⟨by omega, by simpa using hjl⟩]
      congr 2
      rw [show o + j - o = j by omega, getElem!_pos _ j (by simpa using hjl)]
      simpa using hz)
    exact s'
theorem acall_reverse {P : Program} {f : FuncId} (hfn : ∃ fn, P.funcs[f]? = some fn ∧ (fn.name == "runtime.NumGoroutine") = false ∧ fn.body.isNone = false)
    (hs : ∀ (blk off cap : Nat) (zs : List Int) (w : World), Sort.Holds (Value.int .i64) w blk off zs.toArray → zs.length ≤ 9223372036854775807 →
      Calls P f #[.slice (some ⟨blk, off, none⟩) zs.length cap] w fun e w' => e = .returned (.tuple #[]) ∧ ∃ n, w' = Sort.putRow (Value.int .i64) (Sort.ahead w n) blk off zs.reverse.toArray)
    (hn : ∀ (p : Option Addr) (cap : Nat) (w : World), Calls P f #[.slice p 0 cap] w fun e w' => e = .returned (.tuple #[]) ∧ w' = w)
    (l : List Int) (pre : List Int) (hl : pre.length + l.length ≤ 1000000) (hpre : pre = []) : ACall P f [.sl 0 0 l.length 1] [.arr (isA l) 1] (.tup []) [.arr (isA l.reverse) 1] := by
  refine ⟨hfn, fun ρ S w vs s hv => ?_⟩
  simp only [RL] at hv
  obtain ⟨y, _, rfl, hy, rfl⟩ := hv
  simp only [R] at hy
  obtain ⟨a, cap, rfl, hcap, hy⟩ := hy
  cases l with
  | nil =>
    refine (hn a cap w).mono fun e w' ⟨he, hw⟩ => ?_
    subst he hw
    exact ⟨_, ρ, S, rfl, s, by simp [R, RL]⟩
  | cons i0 l0 =>
    rcases hy with ⟨h0, _⟩ | ⟨b, o, hp, ha, hcl, _⟩
    · cases h0
    · obtain ⟨hH, hb⟩ := holds_hs s hp (by simp)
      rw [Nat.zero_mul, Nat.add_zero] at ha
      subst ha
      refine (hs b o cap (i0 :: l0) w hH (by omega)).mono fun e w' ⟨he, n, hw⟩ => ?_
      subst he
      exact ⟨_, ρ, S, rfl, put_hs (n := n) (os := #[]) s hp (by simp) (by simp) (by rw [grow_nil]; exact hw), by simp [R, RL]⟩
theorem acall_delete {P : Program} {f : FuncId} (hfn : ∃ fn, P.funcs[f]? = some fn ∧ (fn.name == "runtime.NumGoroutine") = false ∧ fn.body.isNone = false)
    (hs : ∀ (blk off cap i j : Nat) (zs : List Int) (w : World), Sort.Holds (Value.int .i64) w blk off zs.toArray → zs.length ≤ cap → cap ≤ 9223372036854775807 → i ≤ j → j ≤ zs.length →
      Calls P f #[.slice (some ⟨blk, off, none⟩) zs.length cap, .int .i64 i, .int .i64 j] w fun e w' => e = .returned (.slice (some ⟨blk, off, none⟩) (zs.length - (j - i)) cap) ∧ ∃ q, w' = Sort.putRow (Value.int .i64) (Sort.ahead w q) blk off (zs.take i ++ zs.drop j ++ List.replicate (j - i) 0).toArray)
    (l : List Int) (i j : Nat) (hij : i ≤ j) (hj : j ≤ l.length) (hne : l ≠ []) :
    ACall P f [.sl 0 0 l.length 1, .i (i : Int), .i (j : Int)] [.arr (isA l) 1] (.sl 0 0 (l.length - (j - i)) 1) [.arr (isA (l.take i ++ l.drop j)) 1] := by
  refine ⟨hfn, fun ρ S w vs s hv => ?_⟩
  simp only [RL] at hv
  obtain ⟨y, _, rfl, hy, y2, _, rfl, hy2, y3, _, rfl, hy3, rfl⟩ := hv
  simp only [R] at hy hy2 hy3
  subst hy2 hy3
  obtain ⟨a, cap, rfl, hcap, hy⟩ := hy
  have hl0 : 0 < l.length := List.length_pos_iff.2 hne
  rcases hy with ⟨h0, _⟩ | ⟨b, o, hp, ha, hcl, hrm⟩
  · omega
  · obtain ⟨hH, hb⟩ := holds_hs s hp hne
    rw [Nat.zero_mul, Nat.add_zero] at ha
    subst ha
    have hmax : maxLen ≤ 9223372036854775807 := by decide
    refine (hs b o cap i j l w hH hcl (by omega) hij hj).mono fun e w' ⟨he, n, hw⟩ => ?_
    subst he
    have s' := put_hs (n := n) (os := #[]) (w' := w') (d := l.take i ++ l.drop j ++ List.replicate (j - i) 0) s hp hne (by simp only [List.length_append, List.length_take, List.length_drop, List.length_replicate]; omega) (by rw [grow_nil]; exact hw)
    have e2 : isA (l.take i ++ l.drop j) = (isA (l.take i ++ l.drop j ++ List.replicate (j - i) 0)).take (l.take i ++ l.drop j).length := by
      rw [← List.map_take, List.take_append_of_le_length (Nat.le_refl _), List.take_length]
    refine ⟨_, ρ, S, rfl, ?_, ?_⟩
    · have := s'.alter (k := 0) (b1 := .arr (isA (l.take i ++ l.drop j)) 1) rfl (fun h => by rw [e2]; exact RB_take _ h) (by simp)
      exact this
    · have hE := s'.ext
      have hx : room w' b (o + (0 + cap) * 1) := by
        have hext : Ext (fun _ => True) w w' := ?_
        exact hext.room hrm
        rw [hw]
        have := s.blk 0 _ rfl
        obtain ⟨_, _, h3⟩ := this
        rcases h3 with h3 | ⟨b', o', ys, h4, h5, h6⟩
        · exact absurd (List.map_eq_nil_iff.1 h3.1) hne
        · rw [hp] at h4; cases h4
          obtain ⟨c, ty, hc, _⟩ := h5
          have := sort_ext (n := n) (off := o) (d := l.take i ++ l.drop j ++ List.replicate (j - i) 0) (os := #[]) hc hb
          rw [grow_nil] at this
          exact this.mono fun _ _ _ => trivial
      simp only [R]
      exact ⟨_, cap, rfl, hcap, .inr ⟨b, o, hp, by simp, by omega, hx⟩⟩
end Go.Ab

/-! A logic of values for the walk: slices.Reverse at the end of a slice of integers. -/
namespace Go.Ab
open Go
set_option linter.unusedVariables false
set_option linter.unusedSimpArgs false
set_option maxHeartbeats 1000000
theorem holds_hsO {c : Ctx} {ρ : Pl} {S : Nat → Prop} {pre l : List Int} {w : World} {b o : Nat} (s : HS c ρ S [.arr (isA (pre ++ l)) 1] w) (hp : ρ 0 = some (b, o)) (hne : l ≠ []) : Sort.Holds (Value.int .i64) w b (o + pre.length) l.toArray ∧ b < w.heap.size := by
  obtain ⟨_, _, h3⟩ := s.blk 0 _ rfl
  rcases h3 with h3 | ⟨b', o', ys, h4, h5, h6⟩
  · exact absurd (List.append_eq_nil_iff.1 (List.map_eq_nil_iff.1 h3.1)).2 hne
  · rw [hp] at h4
    cases h4
    rw [isA_flat] at h6
    have h6 := RL_ints.1 h6
    subst h6
    obtain ⟨c, ty, hc, hg⟩ := h5
    refine ⟨fun j hj => ?_, (Array.getElem?_eq_some_iff.1 hc).1⟩
    have hj : j < l.length := by simpa using hj
    have := hg (pre.length + j) (.int .i64 l[j]) (by rw [List.getElem?_map, List.getElem?_append_right (by omega), show pre.length + j - pre.length = j by omega, List.getElem?_eq_getElem hj]; rfl)
    rw [← Nat.add_assoc] at this
    refine ⟨?_, ?_⟩
    · unfold World.cell?
      simp only [hc]
      rw [if_neg (by simp), this]
      congr 2
      rw [getElem!_pos _ j (by simpa using hj)]
      simp
    · unfold World.frozen?
      simp only [hc]
      simp
theorem put_hsO {c : Ctx} {ρ : Pl} {S : Nat → Prop} {pre l d : List Int} {w w' : World} {b o n : Nat} {os : Array Obj} (s : HS c ρ S [.arr (isA (pre ++ l)) 1] w) (hp : ρ 0 = some (b, o)) (hne : l ≠ []) (hl : d.length = l.length)
    (hw : w' = Sort.grow (Sort.putRow (Value.int .i64) (Sort.ahead w n) b (o + pre.length) d.toArray) os) : HS c ρ S [.arr (isA (pre ++ d)) 1] w' := by
  obtain ⟨_, _, h3⟩ := s.blk 0 _ rfl
  rcases h3 with h3 | ⟨b', o', ys, h4, h5, h6⟩
  · exact absurd (List.append_eq_nil_iff.1 (List.map_eq_nil_iff.1 h3.1)).2 hne
  · rw [hp] at h4
    cases h4
    rw [isA_flat] at h6
    have h6 := RL_ints.1 h6
    subst h6
    obtain ⟨c, ty, hc, hg⟩ := h5
    have hb := (Array.getElem?_eq_some_iff.1 hc).1
    have hh : w'.heap[b]? = some (.cells (Sort.putCells (Value.int .i64) (o + pre.length) d.toArray c) ty (0, 0)) := by rw [hw]; exact sort_heap hc hb
    obtain ⟨s', _⟩ := s.upd (k := 0) (b0 := .arr (isA (pre ++ l)) 1) (nb := .arr (isA (pre ++ d)) 1) (w' := w') rfl (by simp) hp (by rw [hw]; exact sort_ext hc hb) (fun _ => by
      refine ⟨fun e he => by obtain ⟨i, _, rfl⟩ := List.mem_map.1 he; rfl, Nat.one_pos, .inr ⟨b, o, (pre ++ d).map (Value.int .i64), rfl, ⟨_, ty, hh, fun j y hj => ?_⟩, by rw [isA_flat]; exact RL_ints.2 rfl⟩⟩
      rw [List.getElem?_map] at hj
      obtain ⟨z, hz, rfl⟩ := Option.map_eq_some_iff.1 hj
      have hjl : j < pre.length + d.length := by have := (List.getElem?_eq_some_iff.1 hz).1; simpa using this
      have hold := hg j (.int .i64 ((pre ++ l)[j]'(by simp; omega))) (by rw [List.getElem?_map, List.getElem?_eq_getElem (by simp; omega)]; rfl)
      unfold Sort.putCells
      rw [Array.getElem?_mapIdx, hold]
      show some (if o + pre.length ≤ o + j ∧ o + j < o + pre.length + d.toArray.size then _ else _) = _
      by_cases hjp : j < pre.length
      · rw [if_neg (by omega)]
        rw [List.getElem?_append_left hjp] at hz
        rw [List.getElem_append_left hjp]
        rw [List.getElem?_eq_getElem hjp] at hz
        cases hz; rfl
      · rw [if_pos ⟨by omega, by simp; omega⟩]
        rw [List.getElem?_append_right (by omega)] at hz
        congr 2
        rw [show o + j - (o + pre.length) = j - pre.length by omega, getElem!_pos _ (j - pre.length) (by simp; omega)]
        rw [List.getElem?_eq_getElem (by omega)] at hz
        cases hz
        simp)
    exact s'
theorem acall_reverseO {P : Program} {f : FuncId} (hfn : ∃ fn, P.funcs[f]? = some fn ∧ (fn.name == "runtime.NumGoroutine") = false ∧ fn.body.isNone = false)
    (hs : ∀ (blk off cap : Nat) (zs : List Int) (w : World), Sort.Holds (Value.int .i64) w blk off zs.toArray → zs.length ≤ 9223372036854775807 →
      Calls P f #[.slice (some ⟨blk, off, none⟩) zs.length cap] w fun e w' => e = .returned (.tuple #[]) ∧ ∃ n, w' = Sort.putRow (Value.int .i64) (Sort.ahead w n) blk off zs.reverse.toArray)
    (hn : ∀ (p : Option Addr) (cap : Nat) (w : World), Calls P f #[.slice p 0 cap] w fun e w' => e = .returned (.tuple #[]) ∧ w' = w)
    (pre l : List Int) (hl : l.length ≤ 1000000) : ACall P f [.sl 0 pre.length l.length 1] [.arr (isA (pre ++ l)) 1] (.tup []) [.arr (isA (pre ++ l.reverse)) 1] := by
  refine ⟨hfn, fun ρ S w vs s hv => ?_⟩
  simp only [RL] at hv
  obtain ⟨y, _, rfl, hy, rfl⟩ := hv
  simp only [R] at hy
  obtain ⟨a, cap, rfl, hcap, hy⟩ := hy
  cases l with
  | nil =>
    refine (hn a cap w).mono fun e w' ⟨he, hw⟩ => ?_
    subst he hw
    exact ⟨_, ρ, S, rfl, s, by simp [R, RL]⟩
  | cons i0 l0 =>
    rcases hy with ⟨h0, _⟩ | ⟨b, o, hp, ha, hcl, _⟩
    · cases h0
    · obtain ⟨hH, hb⟩ := holds_hsO s hp (by simp)
      rw [Nat.mul_one] at ha
      subst ha
      refine (hs b (o + pre.length) cap (i0 :: l0) w hH (by omega)).mono fun e w' ⟨he, n, hw⟩ => ?_
      subst he
      exact ⟨_, ρ, S, rfl, put_hsO (n := n) (os := #[]) s hp (by simp) (by simp) (by rw [grow_nil]; exact hw), by simp [R, RL]⟩
end Go.Ab

/-! A logic of values for the walk: how long a slice is that is handed to a law. -/
namespace Go.Ab
open Go
set_option linter.unusedVariables false
set_option linter.unusedSimpArgs false
theorem len_sized {P : Program} {H : Type} {enc : TypeId × Value → H} {ts : List TypeId} {ds : List (DataW H)} {j : Nat} {t e : TypeId} {d : DataW H} {W : World} {v : Value} {p : List MemPlace} {S : Nat → Prop} {ρ : Pl} {cs : List AV} {len sz : Nat}
    (hw : (DataW.weightsEach P ts ds).all (· ≤ reachBytes) = true) (hts : ts[j]? = some t) (hds : ds[j]? = some d) (ht : P.underlying t = some (.slice e)) (hv : DataW.Trod enc P W 0 (fun _ => true) true t v d p) (hr : R S W (.row cs len sz) ρ v) : len * P.bytesOf e ≤ 140737488351232 := by
  simp only [R] at hr
  obtain ⟨a, cap, rfl, _⟩ := hr
  obtain ⟨fuel, hf⟩ := hv
  have hc : (Value.slice a len cap).cells.toList = [.slice a len cap] := rfl
  rw [hc] at hf
  rcases DataW.trod_slice ht hf with ⟨h1, _⟩ | ⟨a', len', cap', elems, rest, n, _, h2, h3, _, _, _, h4, _⟩
  · simp only [List.cons.injEq, Value.slice.injEq] at h1
    rw [h1.1.2.1]; simp
  · simp only [List.cons.injEq, Value.slice.injEq] at h2
    simp only [Prod.mk.injEq] at h3
    have hds2 := hds
    rw [h3.1] at hds2
    have h5 := sized_slice hw hts hds2 ht
    rw [List.length_map, List.length_map, h4] at h5
    have hrb : reachBytes = 140737488351232 := by decide
    rw [hrb, Nat.add_mul] at h5
    rw [h2.1.2.1]
    omega
end Go.Ab
