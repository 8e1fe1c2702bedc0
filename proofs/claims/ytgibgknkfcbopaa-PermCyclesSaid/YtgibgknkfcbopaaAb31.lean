/-
  A logic of values for the walk: slices.Sort at []int, out of the library's contract.
-/
import Derived.Test.YtgibgknkfcbopaaAb30
import Derived.Sort.Grow
namespace Go.Ab
open Go
set_option linter.unusedVariables false
set_option linter.unusedSimpArgs false
set_option maxHeartbeats 1000000

abbrev isA (l : List Int) : List (List AV) := l.map fun n => [AV.i n]
/-- The numbers in ascending order. -/
def sorted (l : List Int) : List Int := l.mergeSort fun x y => decide (x ≤ y)
theorem sorted_len (l : List Int) : (sorted l).length = l.length := List.length_mergeSort l
theorem isA_flat : ∀ l : List Int, (isA l).flatten = l.map AV.i
  | [] => rfl
  | a :: l => by
    show [AV.i a] ++ (isA l).flatten = _
    rw [isA_flat l]; rfl
theorem RL_ints {S : Nat → Prop} {w : World} {ρ : Pl} : ∀ {l : List Int} {ys : List Value}, RL S w (l.map AV.i) ρ ys ↔ ys = l.map (Value.int .i64)
  | [], ys => by simp [RL]
  | a :: l, ys => by
    simp only [List.map_cons, RL, R]
    constructor
    · rintro ⟨y, zs, rfl, rfl, h⟩
      rw [RL_ints.1 h]
    · rintro rfl
      exact ⟨_, _, rfl, rfl, RL_ints.2 rfl⟩
theorem sort_heap {w : World} {n b off : Nat} {d : List Int} {os : Array Obj} {c : Array Value} {e : TypeId} (hc : w.heap[b]? = some (.cells c e (0, 0))) (hb : b < w.heap.size) :
    (Sort.grow (Sort.putRow (Value.int .i64) (Sort.ahead w n) b off d.toArray) os).heap[b]? = some (.cells (Sort.putCells (Value.int .i64) off d.toArray c) e (0, 0)) := by
  rw [Sort.heap_grow_old _ _ (by rw [Sort.size_putRow]; exact hb)]
  unfold Sort.putRow Sort.mapBlock
  show (w.heap.modify b _)[b]? = _
  rw [Array.getElem?_modify, if_pos rfl, hc]; rfl
theorem sort_ext {w : World} {n b off : Nat} {d : List Int} {os : Array Obj} {c : Array Value} {e : TypeId} (hc : w.heap[b]? = some (.cells c e (0, 0))) (hb : b < w.heap.size) :
    Ext (fun x => x = b) w (Sort.grow (Sort.putRow (Value.int .i64) (Sort.ahead w n) b off d.toArray) os) := by
  have other : ∀ x, x < w.heap.size → x ≠ b → (Sort.grow (Sort.putRow (Value.int .i64) (Sort.ahead w n) b off d.toArray) os).heap[x]? = w.heap[x]? := fun x hx hne => by
    rw [Sort.heap_grow_old _ _ (by rw [Sort.size_putRow]; exact hx)]
    unfold Sort.putRow Sort.mapBlock
    show (w.heap.modify b _)[x]? = _
    rw [Array.getElem?_modify, if_neg (Ne.symm hne)]
  refine ⟨rfl, rfl, rfl, by rw [Sort.size_grow, Sort.size_putRow]; exact Nat.le_add_right _ _, fun x hx hne => other x hx hne, fun x cc ee hcc => ?_⟩
  by_cases hx : x = b
  · subst hx
    rw [hc] at hcc
    cases hcc
    exact ⟨_, sort_heap hc hb, by simp [Sort.putCells]⟩
  · exact ⟨cc, by rw [other x (Array.getElem?_eq_some_iff.1 hcc).1 hx]; exact hcc, rfl⟩
theorem acall_sort {P : Program} {f : FuncId} (hfn : ∃ fn, P.funcs[f]? = some fn ∧ (fn.name == "runtime.NumGoroutine") = false ∧ fn.body.isNone = false)
    (hs : ∀ (blk off cap : Nat) (zs : List Int) (w : World), Sort.Holds (Value.int .i64) w blk off zs.toArray → blk < w.heap.size → zs.length < 4611686018427387904 →
      Calls P f #[.slice (some ⟨blk, off, none⟩) zs.length cap] w fun e w' => e = .returned (.tuple #[]) ∧ ∃ n os, w' = Sort.grow (Sort.putRow (Value.int .i64) (Sort.ahead w n) blk off (zs.mergeSort fun x y => decide (x ≤ y)).toArray) os)
    (hn : ∀ (p : Option Addr) (cap : Nat) (w : World), Calls P f #[.slice p 0 cap] w fun e w' => e = .returned (.tuple #[]) ∧ w' = w)
    (l : List Int) (hl : l.length ≤ 17592186043904) : ACall P f [.sl 0 0 l.length 1] [.arr (isA l) 1] (.tup []) [.arr (isA (sorted l)) 1] := by
  refine ⟨hfn, fun ρ S w vs s hv => ?_⟩
  simp only [RL] at hv
  obtain ⟨y, _, rfl, hy, rfl⟩ := hv
  simp only [R] at hy
  obtain ⟨a, cap, rfl, hcap, hy⟩ := hy
  cases l with
  | nil =>
    refine (hn a cap w).mono fun e w' ⟨he, hw⟩ => ?_
    subst he hw
    rw [show sorted [] = [] from by simp [sorted]]
    exact ⟨_, ρ, S, rfl, s, by simp [R, RL]⟩
  | cons i0 l0 =>
    rcases hy with ⟨h0, _⟩ | ⟨b, o, hp, ha, hcl, _⟩
    · cases h0
    · obtain ⟨_, _, h3⟩ := s.blk 0 _ rfl
      rcases h3 with h3 | ⟨b', o', ys, h4, h5, h6⟩
      · cases h3
      · rw [hp] at h4
        cases h4
        rw [isA_flat] at h6
        have h6 := RL_ints.1 h6
        subst h6
        obtain ⟨c, ty, hc, hg⟩ := h5
        have hb := (Array.getElem?_eq_some_iff.1 hc).1
        rw [Nat.zero_mul, Nat.add_zero] at ha
        subst ha
        have hH : Sort.Holds (Value.int .i64) w b o (i0 :: l0).toArray := fun j hj => by
          have hj : j < (i0 :: l0).length := by simpa using hj
          have := hg j (.int .i64 (i0 :: l0)[j]) (by rw [List.getElem?_map, List.getElem?_eq_getElem hj]; rfl)
          refine ⟨?_, ?_⟩
          · unfold World.cell?
            simp only [hc]
            rw [if_neg (by simp), this]
            congr 2
            rw [getElem!_pos _ j (by simpa using hj)]
            simp
          · unfold World.frozen?
            simp only [hc]
            simp
        refine (hs b o cap (i0 :: l0) w hH hb (by omega)).mono fun e w' ⟨he, n, os, hw⟩ => ?_
        subst he
        have hlen := sorted_len (i0 :: l0)
        have hw : w' = Sort.grow (Sort.putRow (Value.int .i64) (Sort.ahead w n) b o (sorted (i0 :: l0)).toArray) os := hw
        have hh : w'.heap[b]? = some (.cells (Sort.putCells (Value.int .i64) o (sorted (i0 :: l0)).toArray c) ty (0, 0)) := by rw [hw]; exact sort_heap hc hb
        obtain ⟨s', _⟩ := s.upd (k := 0) (b0 := .arr (isA (i0 :: l0)) 1) (nb := .arr (isA (sorted (i0 :: l0))) 1) (w' := w') rfl (by simp) hp (by rw [hw]; exact sort_ext hc hb) (fun _ => by
          refine ⟨fun e he => by obtain ⟨i, _, rfl⟩ := List.mem_map.1 he; rfl, Nat.one_pos, .inr ⟨b, o, (sorted (i0 :: l0)).map (Value.int .i64), rfl, ⟨_, ty, hh, fun j y hj => ?_⟩, by rw [isA_flat]; exact RL_ints.2 rfl⟩⟩
          rw [List.getElem?_map] at hj
          obtain ⟨z, hz, rfl⟩ := Option.map_eq_some_iff.1 hj
          obtain ⟨hjl, hz⟩ := List.getElem?_eq_some_iff.1 hz
          have hold := hg j (.int .i64 ((i0 :: l0)[j]'(by omega))) (by rw [List.getElem?_map, List.getElem?_eq_getElem (by omega)]; rfl)
          have hlt := (Array.getElem?_eq_some_iff.1 hold).1
          unfold Sort.putCells
          rw [Array.getElem?_mapIdx, hold]
          show some (if o ≤ o + j ∧ o + j < o + (sorted (i0 :: l0)).toArray.size then _ else _) = _
          rw [if_pos ⟨by omega, by simpa using hjl⟩]
          congr 2
          rw [show o + j - o = j by omega, getElem!_pos _ j (by simpa using hjl)]
          simpa using hz)
        exact ⟨_, ρ, S, rfl, s', by simp [R, RL]⟩
end Go.Ab
