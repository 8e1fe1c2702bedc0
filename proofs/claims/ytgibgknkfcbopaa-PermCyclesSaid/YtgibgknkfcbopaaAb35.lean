/-
  A logic of values for the walk: slices.Reverse and slices.Delete at []int, out of the library's contracts.
-/
import Derived.Test.YtgibgknkfcbopaaAb34
namespace Go.Ab
open Go
set_option linter.unusedVariables false
set_option linter.unusedSimpArgs false
set_option maxHeartbeats 1000000

theorem grow_nil (w : World) : Sort.grow w #[] = w := by simp [Sort.grow]
/-- The object's cells, as the library's contracts ask for them. -/
theorem holds_hs {c : Ctx} {ρ : Pl} {S : Nat → Prop} {l : List Int} {w : World} {b o : Nat} (s : HS c ρ S [.arr (isA l) 1] w) (hp : ρ 0 = some (b, o)) (hne : l ≠ []) : Sort.Holds (Value.int .i64) w b o l.toArray ∧ b < w.heap.size := by
  obtain ⟨_, _, h3⟩ := s.blk 0 _ rfl
  rcases h3 with h3 | ⟨b', o', ys, h4, h5, h6⟩
  · exact absurd (List.map_eq_nil_iff.1 h3) hne
  · rw [hp] at h4
    cases h4
    rw [isA_flat] at h6
    have h6 := RL_ints.1 h6
    subst h6
    obtain ⟨c, ty, hc, hg⟩ := h5
    refine ⟨fun j hj => ?_, (Array.getElem?_eq_some_iff.1 hc).1⟩
    have hj : j < l.length := by simpa using hj
    have := hg j (.int .i64 l[j]) (by rw [List.getElem?_map, List.getElem?_eq_getElem hj]; rfl)
    refine ⟨?_, ?_⟩
    · unfold World.cell?
      simp only [hc]
      rw [if_neg (by simp), this]
      congr 2
      rw [getElem!_pos _ j (by simpa using hj)]
      simp
    · unfold World.frozen?
      simp only [hc]
      simp
theorem put_hs {c : Ctx} {ρ : Pl} {S : Nat → Prop} {l d : List Int} {w w' : World} {b o n : Nat} {os : Array Obj} (s : HS c ρ S [.arr (isA l) 1] w) (hp : ρ 0 = some (b, o)) (hne : l ≠ []) (hl : d.length = l.length)
    (hw : w' = Sort.grow (Sort.putRow (Value.int .i64) (Sort.ahead w n) b o d.toArray) os) : HS c ρ S [.arr (isA d) 1] w' := by
  obtain ⟨_, _, h3⟩ := s.blk 0 _ rfl
  rcases h3 with h3 | ⟨b', o', ys, h4, h5, h6⟩
  · exact absurd (List.map_eq_nil_iff.1 h3) hne
  · rw [hp] at h4
    cases h4
    rw [isA_flat] at h6
    have h6 := RL_ints.1 h6
    subst h6
    obtain ⟨c, ty, hc, hg⟩ := h5
    have hb := (Array.getElem?_eq_some_iff.1 hc).1
    have hh : w'.heap[b]? = some (.cells (Sort.putCells (Value.int .i64) o d.toArray c) ty (0, 0)) := by rw [hw]; exact sort_heap hc hb
    obtain ⟨s', _⟩ := s.upd (k := 0) (b0 := .arr (isA l) 1) (nb := .arr (isA d) 1) (w' := w') rfl (by simp) hp (by rw [hw]; exact sort_ext hc hb) (fun _ => by
      refine ⟨fun e he => by obtain ⟨i, _, rfl⟩ := List.mem_map.1 he; rfl, Nat.one_pos, .inr ⟨b, o, d.map (Value.int .i64), rfl, ⟨_, ty, hh, fun j y hj => ?_⟩, by rw [isA_flat]; exact RL_ints.2 rfl⟩⟩
      rw [List.getElem?_map] at hj
      obtain ⟨z, hz, rfl⟩ := Option.map_eq_some_iff.1 hj
      obtain ⟨hjl, hz⟩ := List.getElem?_eq_some_iff.1 hz
      have hold := hg j (.int .i64 (l[j]'(by omega))) (by rw [List.getElem?_map, List.getElem?_eq_getElem (by omega)]; rfl)
      unfold Sort.putCells
      rw [Array.getElem?_mapIdx, hold]
      show some (if o ≤ o + j ∧ o + j < o + d.toArray.size then _ else _) = _
      rw [if_pos ⟨by omega, by simpa using hjl⟩]
      congr 2
      rw [show o + j - o = j by omega, getElem!_pos _ j (by simpa using hjl)]
      simpa using hz)
    exact s'
theorem acall_reverse {P : Program} {f : FuncId} (hfn : ∃ fn, P.funcs[f]? = some fn ∧ (fn.name == "runtime.NumGoroutine") = false ∧ fn.body.isNone = false)
    (hs : ∀ (blk off cap : Nat) (zs : List Int) (w : World), Sort.Holds (Value.int .i64) w blk off zs.toArray → zs.length ≤ 9223372036854775807 →
      Calls P f #[.slice (some ⟨blk, off, none⟩) zs.length cap] w fun e w' => e = .returned (.tuple #[]) ∧ ∃ n, w' = Sort.putRow (Value.int .i64) (Sort.ahead w n) blk off zs.reverse.toArray)
    (hn : ∀ (p : Option Addr) (cap : Nat) (w : World), Calls P f #[.slice p 0 cap] w fun e w' => e = .returned (.tuple #[]) ∧ w' = w)
    (l : List Int) (pre : List Int) (hl : pre.length + l.length ≤ 1000000) (hpre : pre = []) : ACall P f [.sl 0 0 l.length 1] [.arr (isA l) 1] (.tup []) [.arr (isA l.reverse) 1] := by
  refine ⟨hfn, fun ρ S w vs s hv => ?_⟩
  simp only [RL] at hv
  obtain ⟨y, _, rfl, hy, rfl⟩ := hv
  simp only [R] at hy
  obtain ⟨a, cap, rfl, hcap, hy⟩ := hy
  cases l with
  | nil =>
    refine (hn a cap w).mono fun e w' ⟨he, hw⟩ => ?_
    subst he hw
    exact ⟨_, ρ, S, rfl, s, by simp [R, RL]⟩
  | cons i0 l0 =>
    rcases hy with ⟨h0, _⟩ | ⟨b, o, hp, ha, hcl, _⟩
    · cases h0
    · obtain ⟨hH, hb⟩ := holds_hs s hp (by simp)
      rw [Nat.zero_mul, Nat.add_zero] at ha
      subst ha
      refine (hs b o cap (i0 :: l0) w hH (by omega)).mono fun e w' ⟨he, n, hw⟩ => ?_
      subst he
      exact ⟨_, ρ, S, rfl, put_hs (n := n) (os := #[]) s hp (by simp) (by simp) (by rw [grow_nil]; exact hw), by simp [R, RL]⟩
theorem acall_delete {P : Program} {f : FuncId} (hfn : ∃ fn, P.funcs[f]? = some fn ∧ (fn.name == "runtime.NumGoroutine") = false ∧ fn.body.isNone = false)
    (hs : ∀ (blk off cap i j : Nat) (zs : List Int) (w : World), Sort.Holds (Value.int .i64) w blk off zs.toArray → zs.length ≤ cap → cap ≤ 9223372036854775807 → i ≤ j → j ≤ zs.length →
      Calls P f #[.slice (some ⟨blk, off, none⟩) zs.length cap, .int .i64 i, .int .i64 j] w fun e w' => e = .returned (.slice (some ⟨blk, off, none⟩) (zs.length - (j - i)) cap) ∧ ∃ q, w' = Sort.putRow (Value.int .i64) (Sort.ahead w q) blk off (zs.take i ++ zs.drop j ++ List.replicate (j - i) 0).toArray)
    (l : List Int) (i j : Nat) (hij : i ≤ j) (hj : j ≤ l.length) (hne : l ≠ []) :
    ACall P f [.sl 0 0 l.length 1, .i (i : Int), .i (j : Int)] [.arr (isA l) 1] (.sl 0 0 (l.length - (j - i)) 1) [.arr (isA (l.take i ++ l.drop j)) 1] := by
  refine ⟨hfn, fun ρ S w vs s hv => ?_⟩
  simp only [RL] at hv
  obtain ⟨y, _, rfl, hy, y2, _, rfl, hy2, y3, _, rfl, hy3, rfl⟩ := hv
  simp only [R] at hy hy2 hy3
  subst hy2 hy3
  obtain ⟨a, cap, rfl, hcap, hy⟩ := hy
  have hl0 : 0 < l.length := List.length_pos_iff.2 hne
  rcases hy with ⟨h0, _⟩ | ⟨b, o, hp, ha, hcl, hrm⟩
  · omega
  · obtain ⟨hH, hb⟩ := holds_hs s hp hne
    rw [Nat.zero_mul, Nat.add_zero] at ha
    subst ha
    have hmax : maxLen ≤ 9223372036854775807 := by decide
    refine (hs b o cap i j l w hH hcl (by omega) hij hj).mono fun e w' ⟨he, n, hw⟩ => ?_
    subst he
    have s' := put_hs (n := n) (os := #[]) (w' := w') (d := l.take i ++ l.drop j ++ List.replicate (j - i) 0) s hp hne (by simp only [List.length_append, List.length_take, List.length_drop, List.length_replicate]; omega) (by rw [grow_nil]; exact hw)
    have e2 : isA (l.take i ++ l.drop j) = (isA (l.take i ++ l.drop j ++ List.replicate (j - i) 0)).take (l.take i ++ l.drop j).length := by
      rw [← List.map_take, List.take_append_of_le_length (Nat.le_refl _), List.take_length]
    refine ⟨_, ρ, S, rfl, ?_, ?_⟩
    · have := s'.alter (k := 0) (b1 := .arr (isA (l.take i ++ l.drop j)) 1) rfl (fun h => by rw [e2]; exact RB_take _ h) (by simp)
      exact this
    · have hE := s'.ext
      have hx : room w' b (o + (0 + cap) * 1) := by
        have hext : Ext (fun _ => True) w w' := ?_
        exact hext.room hrm
        rw [hw]
        have := s.blk 0 _ rfl
        obtain ⟨_, _, h3⟩ := this
        rcases h3 with h3 | ⟨b', o', ys, h4, h5, h6⟩
        · exact absurd (List.map_eq_nil_iff.1 h3) hne
        · rw [hp] at h4; cases h4
          obtain ⟨c, ty, hc, _⟩ := h5
          have := sort_ext (n := n) (off := o) (d := l.take i ++ l.drop j ++ List.replicate (j - i) 0) (os := #[]) hc hb
          rw [grow_nil] at this
          exact this.mono fun _ _ _ => trivial
      simp only [R]
      exact ⟨_, cap, rfl, hcap, .inr ⟨b, o, hp, by simp, by omega, hx⟩⟩
end Go.Ab
