/-
  A logic of values for the walk, texts 29, 30, 31, 32, 33, 34, 35, 40, 36.
-/
import Derived.Test.YtcdgmjfmmnklnaaAb28
import Derived.Sort.Grow
import Derived.Lib.SliceRun
import Derived.Test.YtcdgmjfmmnklnaaAb16
import Derived.SizedLaws

/-! A logic of values for the walk, twenty-ninth part: conversions of integers whose types are told by name. -/
namespace Go.Ab
open Go
set_option linter.unusedVariables false
set_option linter.unusedSimpArgs false
section
variable {P : Program} {env : Env} {h : Hp} {d : Option Nat} {ty : TypeId} {pos : String} {af : Array Edge} {g : Option (Nat × Bool)}
end
end Go.Ab

/-! A logic of values for the walk, thirtieth part: looking a key up without asking whether it is there; keys that are numbers. -/
namespace Go.Ab
open Go Go.MapKept
set_option linter.unusedVariables false
set_option linter.unusedSimpArgs false
section
variable {P : Program} {env : Env} {h : Hp} {d : Option Nat} {ty : TypeId} {pos : String} {af : Array Edge} {g : Option (Nat × Bool)}
variable {t kt et : TypeId} {good : Value → Prop} {x y : Operand} {k i : Nat} {kv : Value} {ks : List Value} {vs : List AV} {v : AV}
theorem fs_mapGet1 (ht : P.underlying t = some (.map kt et)) (ko : KeyOk P kt good) (hx : evu env x = some (.mp k)) {yv : AV} (hy : evu env y = some yv) (hyv : IsV yv kv) (hk : h[k]? = some (.mapO ks vs)) (hkeys : ∀ q, q ∈ ks → good q) (hkey : good kv) (hnd : ks.Nodup) (hi : ks[i]? = some kv) (hv : vs[i]? = some v) :
    FStep P ⟨d, .lookup t x y false, ty, pos, af, g⟩ env h 0 (fun _ => v) (fun _ => []) := by
  refine fs_val fun ρ S a w p => ?_
  have h1 := p.evu hx
  simp only [R] at h1
  obtain ⟨b, o, h2, h3⟩ := h1
  have h4 := hyv _ _ _ _ (p.evu hy)
  obtain ⟨b', o', l, ck, h5, h6, h7, h8⟩ := map_find (p.blk k _ hk)
  rw [h2] at h5; cases h5
  obtain ⟨e, h9, h10, _⟩ := find_some ko w h7 hkeys hkey hnd hi
  refine ⟨e.val, ?_, ?_⟩
  · simp [execOp, h3, h4, Instr.lookup, run_underlying ht, MapKept.run_getObj_map h6, ko.check w _ hkey, h9]
  · obtain ⟨u, h11, h12⟩ := RL_get h8 i v hv
    rw [List.getElem?_map, h10] at h11
    cases h11
    exact h12
end
abbrev kI (n : Int) : Value := .int .i64 n
theorem isv_i (n : Int) : IsV (.i n) (kI n) := IsV.v _
theorem KeyOk.int {P : Program} {kt : TypeId} (hd : P.underlying kt = some (.int .i64)) : KeyOk P kt (IsKey (.int .i64)) := KeyOk.plain hd
theorem good_i (n : Int) : IsKey (.int .i64) (kI n) := rfl
end Go.Ab

/-! A logic of values for the walk: slices.Sort at []int, out of the library's contract. -/
namespace Go.Ab
open Go
set_option linter.unusedVariables false
set_option linter.unusedSimpArgs false
set_option maxHeartbeats 1000000

abbrev isA (l : List Int) : List (List AV) := l.map fun n => [AV.i n]
def sorted (l : List Int) : List Int := l.mergeSort fun x y => decide (x ≤ y)
theorem sorted_len (l : List Int) : (sorted l).length = l.length := List.length_mergeSort l
theorem isA_flat : ∀ l : List Int, (isA l).flatten = l.map AV.i
  | [] => rfl
  | a :: l => by
    show [AV.i a] ++ (isA l).flatten = _
    rw [isA_flat l]; rfl
theorem RL_ints {S : Nat → Prop} {w : World} {ρ : Pl} : ∀ {l : List Int} {ys : List Value}, RL S w (l.map AV.i) ρ ys ↔ ys = l.map (Value.int .i64)
  | [], ys => by simp [RL]
  | a :: l, ys => by
    simp only [List.map_cons, RL, R]
    constructor
    · rintro ⟨y, zs, rfl, rfl, h⟩
      rw [RL_ints.1 h]
    · rintro rfl
      exact ⟨_, _, rfl, rfl, RL_ints.2 rfl⟩
theorem sort_heap {w : World} {n b off : Nat} {d : List Int} {os : Array Obj} {c : Array Value} {e : TypeId} (hc : w.heap[b]? = some (.cells c e (0, 0))) (hb : b < w.heap.size) :
    (Sort.grow (Sort.putRow (Value.int .i64) (Sort.ahead w n) b off d.toArray) os).heap[b]? = some (.cells (Sort.putCells (Value.int .i64) off d.toArray c) e (0, 0)) := by
  rw [Sort.heap_grow_old _ _ (by rw [Sort.size_putRow]; exact hb)]
  unfold Sort.putRow Sort.mapBlock
  show (w.heap.modify b _)[b]? = _
  rw [Array.getElem?_modify, if_pos rfl, hc]; rfl
theorem sort_ext {w : World} {n b off : Nat} {d : List Int} {os : Array Obj} {c : Array Value} {e : TypeId} (hc : w.heap[b]? = some (.cells c e (0, 0))) (hb : b < w.heap.size) :
    Ext (fun x => x = b) w (Sort.grow (Sort.putRow (Value.int .i64) (Sort.ahead w n) b off d.toArray) os) := by
  have other : ∀ x, x < w.heap.size → x ≠ b → (Sort.grow (Sort.putRow (Value.int .i64) (Sort.ahead w n) b off d.toArray) os).heap[x]? = w.heap[x]? := fun x hx hne => by
    rw [Sort.heap_grow_old _ _ (by rw [Sort.size_putRow]; exact hx)]
    unfold Sort.putRow Sort.mapBlock
    show (w.heap.modify b _)[x]? = _
    rw [Array.getElem?_modify, if_neg (Ne.symm hne)]
  refine ⟨rfl, rfl, rfl, by rw [Sort.size_grow, Sort.size_putRow]; exact Nat.le_add_right _ _, fun x hx hne => other x hx hne, fun x cc ee fz hcc => ?_⟩
  by_cases hx : x = b
  · subst hx
    rw [hc] at hcc
    cases hcc
    exact ⟨_, _, sort_heap hc hb, by simp [Sort.putCells]⟩
  · exact ⟨cc, fz, by rw [other x (Array.getElem?_eq_some_iff.1 hcc).1 hx]; exact hcc, rfl⟩
theorem acall_sort {P : Program} {f : FuncId} (hfn : ∃ fn, P.funcs[f]? = some fn ∧ (fn.name == "runtime.NumGoroutine") = false ∧ fn.body.isNone = false)
    (hs : ∀ (blk off cap : Nat) (zs : List Int) (w : World), Sort.Holds (Value.int .i64) w blk off zs.toArray → blk < w.heap.size → zs.length < 4611686018427387904 →
      Calls P f #[.slice (some ⟨blk, off, none⟩) zs.length cap] w fun e w' => e = .returned (.tuple #[]) ∧ ∃ n os, w' = Sort.grow (Sort.putRow (Value.int .i64) (Sort.ahead w n) blk off (zs.mergeSort fun x y => decide (x ≤ y)).toArray) os)
    (hn : ∀ (p : Option Addr) (cap : Nat) (w : World), Calls P f #[.slice p 0 cap] w fun e w' => e = .returned (.tuple #[]) ∧ w' = w)
    (l : List Int) (hl : l.length ≤ 17592186043904) : ACall P f [.sl 0 0 l.length 1] [.arr (isA l) 1] (.tup []) [.arr (isA (sorted l)) 1] := by
  refine ⟨hfn, fun ρ S w vs s hv => ?_⟩
  simp only [RL] at hv
  obtain ⟨y, _, rfl, hy, rfl⟩ := hv
  simp only [R] at hy
  obtain ⟨a, cap, rfl, hcap, hy⟩ := hy
  cases l with
  | nil =>
    refine (hn a cap w).mono fun e w' ⟨he, hw⟩ => ?_
    subst he hw
    rw [show sorted [] = [] from by simp [sorted]]
    exact ⟨_, ρ, S, rfl, s, by simp [R, RL]⟩
  | cons i0 l0 =>
    rcases hy with ⟨h0, _⟩ | ⟨b, o, hp, ha, hcl, _⟩
    · cases h0
    · obtain ⟨_, _, h3⟩ := s.blk 0 _ rfl
      rcases h3 with ⟨h3, _⟩ | ⟨b', o', ys, h4, h5, h6⟩
      · cases h3
      · rw [hp] at h4
        cases h4
        rw [isA_flat] at h6
        have h6 := RL_ints.1 h6
        subst h6
        obtain ⟨c, ty, hc, hg⟩ := h5
        have hb := (Array.getElem?_eq_some_iff.1 hc).1
        rw [Nat.zero_mul, Nat.add_zero] at ha
        subst ha
        have hH : Sort.Holds (Value.int .i64) w b o (i0 :: l0).toArray := fun j hj => by
          have hj : j < (i0 :: l0).length := by simpa using hj
          have := hg j (.int .i64 (i0 :: l0)[j]) (by rw [List.getElem?_map, List.getElem?_eq_getElem hj]; rfl)
          refine ⟨?_, ?_⟩
          · unfold World.cell?
            simp only [hc]
            rw [if_neg (by simp), this]
            congr 2
            rw [getElem!_pos _ j (by simpa using hj)]
            simp
          · unfold World.frozen?
            simp only [hc]
            simp
        refine (hs b o cap (i0 :: l0) w hH hb (by omega)).mono fun e w' ⟨he, n, os, hw⟩ => ?_
        subst he
        have hlen := sorted_len (i0 :: l0)
        have hw : w' = Sort.grow (Sort.putRow (Value.int .i64) (Sort.ahead w n) b o (sorted (i0 :: l0)).toArray) os := hw
        have hh : w'.heap[b]? = some (.cells (Sort.putCells (Value.int .i64) o (sorted (i0 :: l0)).toArray c) ty (0, 0)) := by rw [hw]; exact sort_heap hc hb
        obtain ⟨s', _⟩ := s.upd (k := 0) (b0 := .arr (isA (i0 :: l0)) 1) (nb := .arr (isA (sorted (i0 :: l0))) 1) (w' := w') rfl (by simp) hp (by rw [hw]; exact sort_ext hc hb) (fun _ => by
          refine ⟨fun e he => by obtain ⟨i, _, rfl⟩ := List.mem_map.1 he; rfl, Nat.one_pos, .inr ⟨b, o, (sorted (i0 :: l0)).map (Value.int .i64), rfl, ⟨_, ty, hh, fun j y hj => ?_⟩, by rw [isA_flat]; exact RL_ints.2 rfl⟩⟩
          rw [List.getElem?_map] at hj
          obtain ⟨z, hz, rfl⟩ := Option.map_eq_some_iff.1 hj
          obtain ⟨hjl, hz⟩ := List.getElem?_eq_some_iff.1 hz
          have hold := hg j (.int .i64 ((i0 :: l0)[j]'(by omega))) (by rw [List.getElem?_map, List.getElem?_eq_getElem (by omega)]; rfl)
          have hlt := (Array.getElem?_eq_some_iff.1 hold).1
          unfold Sort.putCells
          rw [Array.getElem?_mapIdx, hold]
          show some (if o ≤ o + j ∧ o + j < o + (sorted (i0 :: l0)).toArray.size then _ else _) = _
          rw [if_pos ⟨by omega, by simpa using hjl⟩]
          congr 2
          rw [show o + j - o = j by omega, getElem!_pos _ j (by simpa using hjl)]
          simpa using hz)
        exact ⟨_, ρ, S, rfl, s', by simp [R, RL]⟩
end Go.Ab

/-! A logic of values for the walk: clear of a slice of integers: what is behind it is forgotten. -/
namespace Go.Ab
open Go
set_option linter.unusedVariables false
set_option linter.unusedSimpArgs false
set_option maxHeartbeats 1000000
section
variable {P : Program} {env : Env} {h : Hp} {n : Nat × Nat} {ops : Array Oper} {rest : List Oper} {K : Env → Hp → Prop} {ty : TypeId} {pos : String} {af : Array Edge}
end
end Go.Ab

/-! A logic of values for the walk: is a slice nil that is only read? -/
namespace Go.Ab
open Go
set_option linter.unusedVariables false
set_option linter.unusedSimpArgs false
section
variable {P : Program} {env : Env} {h : Hp} {n : Nat × Nat} {ops : Array Oper} {rest : List Oper} {K : Env → Hp → Prop} {ty : TypeId} {pos : String} {af : Array Edge}
end
end Go.Ab

/-! A logic of values for the walk: a variable that nobody writes any more; lists of numbers. -/
namespace Go.Ab
open Go
set_option linter.unusedVariables false
set_option linter.unusedSimpArgs false

theorem HS.freezeC {c : Ctx} {ρ : Pl} {S : Nat → Prop} {h : Hp} {w : World} {k : Nat} {x : AB} (s : HS c ρ S h w) (hk : h[k]? = some x) (hx : x ≠ .gone) : HS c ρ (fun b => S b ∨ ∃ o, ρ k = some (b, o)) (h.set k .gone) w := by
  have get : ∀ {j : Nat} {b : AB}, (h.set k .gone)[j]? = some b → b ≠ .gone → j ≠ k ∧ h[j]? = some b := fun {j b} hj hg => by
    rw [List.getElem?_set] at hj
    split at hj
    · split at hj
      · cases hj; exact absurd rfl hg
      · cases hj
    · rename_i e; exact ⟨fun e' => e e'.symm, hj⟩
  have l : Later ρ ρ S (fun b => S b ∨ ∃ o, ρ k = some (b, o)) w w := ⟨fun _ _ h => h, fun _ h => .inl h, fun _ _ => rfl, fun _ _ _ _ _ h => h⟩
  refine ⟨fun j hj => s.dom j (by simpa using hj), s.rng, fun j b hb => ?_, fun j b p hb hg hp => ?_, fun j j' b b' p p' hb hb' hg hg' hp hp' e => s.inj j j' b b' p p' (get hb hg).2 (get hb' hg').2 hg hg' hp hp' e, fun b hb => ?_, s.ext, fun b hb => .inl (s.st0 b hb), fun b hb => ?_, by simpa using s.mle, s.keep, s.glob.st (fun b hb => .inl hb)⟩
  · by_cases hg : b = .gone
    · subst hg; trivial
    · exact RB.later l (fun _ _ _ => rfl) (s.blk j b (get hb hg).2)
  · obtain ⟨h1, h2⟩ := s.live j b p (get hb hg).2 hg hp
    refine ⟨h1, fun hs => ?_⟩
    rcases hs with hs | ⟨o, ho⟩
    · exact h2 hs
    · exact (get hb hg).1 (s.inj j k b _ p _ (get hb hg).2 hk hg hx hp ho rfl)
  · rcases hb with hb | ⟨o, ho⟩
    · exact s.stab b hb
    · exact s.rng k _ ho
  · rcases hb with hb | ⟨o, ho⟩
    · exact s.st1 b hb
    · exact .inr (s.live k _ _ hk hx ho).1
theorem frzC_val {S : Nat → Prop} {w : World} {ρ : Pl} {k off : Nat} {cs : List AV} (hi : AV.idfL cs = true) (hb : RB S w ρ (ρ k) (.cells cs)) {y : Value} (hy : R S w (.ptr k off) ρ y) : R (fun c => S c ∨ ∃ o, ρ k = some (c, o)) w (.pr cs off) ρ y := by
  simp only [RB] at hb
  obtain ⟨b, o, ys, h1, h2, h3⟩ := hb
  simp only [R] at hy ⊢
  obtain ⟨b', o', h4, rfl⟩ := hy
  rw [h1] at h4; cases h4
  exact ⟨b, o, ys, rfl, .inr ⟨o, h1⟩, h2.lies, RL_st (fun _ h => .inl h) (RL_idf ρ _ _ _ hi h3)⟩
theorem acall_frzC {P : Program} {f : FuncId} {args cs : List AV} {fn : Fn} (hi : AV.idfL cs = true) (h : ACall P f args [] (.clo fn [] [.ptr 0 0]) [.cells cs]) : ACall P f args [] (.clo fn [] [.pr cs 0]) [] := by
  refine ⟨h.1, fun ρ S w vs hs ha => (h.2 ρ S w vs hs ha).mono ?_⟩
  rintro e w' ⟨y, ρ', S', rfl, h2, h3⟩
  simp only [R, RL] at h3
  obtain ⟨ys, zs, rfl, h4, y2, z2, e2, h5, e3⟩ := h3
  refine ⟨_, _, _, rfl, (h2.freezeC (k := 0) rfl (by simp)).none rfl, ?_⟩
  unfold R
  refine ⟨ys, zs, rfl, ?_, ?_⟩
  · simp only [RL]; exact h4
  · rw [e2, e3]
    simp only [RL]
    refine ⟨y2, [], rfl, R_idf ρ' _ _ _ rfl (frzC_val hi (h2.blk 0 _ rfl) ?_), rfl⟩
    simp only [R]; exact h5

/-! ### Lists of numbers -/
abbrev ints (l : List Int) : List (List AV) := l.map fun n => [AV.i n]
abbrev bools (l : List Bool) : List (List AV) := l.map fun n => [AV.b n]
theorem ints_len (l : List Int) : ∀ e, e ∈ ints l → e.length = 1 := by intro e he; obtain ⟨n, _, rfl⟩ := List.mem_map.1 he; rfl
theorem ints_idf (l : List Int) : ∀ e, e ∈ ints l → AV.idfL e = true := by intro e he; obtain ⟨i, _, rfl⟩ := List.mem_map.1 he; rfl
theorem ints_rf (l : List Int) : AV.rfL (ints l).flatten = true := by
  induction l with
  | nil => rfl
  | cons c l ih => exact ih
theorem ints_map (θ : Nat → Nat) (l : List Int) : (ints l).map (AV.mapL θ) = ints l := by
  rw [List.map_map]; rfl
theorem ints_one (l : List Int) : (ints l).flatten.all AV.one = true :=
  List.all_eq_true.2 fun x hx => by obtain ⟨i, _, rfl⟩ := List.mem_map.1 ((isA_flat l) ▸ hx); rfl
theorem ints_idfF (l : List Int) : AV.idfL (ints l).flatten = true := by
  induction l with
  | nil => rfl
  | cons c l ih => exact ih
theorem ints_gI {l : List Int} {j : Int} {i : Nat} (d : Int) (h : i < l.length) (e : j = i) : (ints l)[j.toNat]? = some [AV.i (l.getD i d)] := by
  subst e
  rw [Int.toNat_natCast, List.getElem?_map, List.getElem?_eq_getElem h, List.getD_eq_getElem?_getD, List.getElem?_eq_getElem h]; rfl
theorem ints_gO {l : List Int} {j : Int} {i : Nat} (d : Int) (h : i < l.length) (e : j = i) : (ints l)[0 + j.toNat]? = some [AV.i (l.getD i d)] := by
  rw [Nat.zero_add]; exact ints_gI d h e
theorem viewL_ints (h : Hp) : ∀ l : List Int, ViewL h (ints l).flatten (ints l).flatten
  | [] => .nil
  | _ :: l => .cons (.v _) (viewL_ints h l)
theorem view_ints {h : Hp} {k n : Nat} {l : List Int} (hk : h[k]? = some (.arr (ints l) 1)) (hn : n = l.length) : View h (.sl k 0 n 1) (.rowE (ints l) 1) := by
  subst hn
  have := View.sl (h := h) (k := k) (off := 0) (len := l.length) hk (by simp) (by rw [List.drop_zero, List.take_of_length_le (by simp)]; exact viewL_ints h l)
  rwa [show l.length = (ints l).length by simp] at this ⊢
theorem ints_length (l : List Int) : (ints l).length = l.length := List.length_map _
end Go.Ab

/-! A logic of values for the walk: slices.Reverse and slices.Delete at []int, out of the library's contracts. -/
namespace Go.Ab
open Go
set_option linter.unusedVariables false
set_option linter.unusedSimpArgs false
set_option maxHeartbeats 1000000

end Go.Ab

/-! A logic of values for the walk: slices.Reverse at the end of a slice of integers. -/
namespace Go.Ab
open Go
set_option linter.unusedVariables false
set_option linter.unusedSimpArgs false
set_option maxHeartbeats 1000000
end Go.Ab

/-! A logic of values for the walk: how long a slice is that is handed to a law. -/
namespace Go.Ab
open Go
set_option linter.unusedVariables false
set_option linter.unusedSimpArgs false
end Go.Ab
