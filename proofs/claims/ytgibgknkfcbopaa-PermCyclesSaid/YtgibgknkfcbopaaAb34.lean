/-
  A logic of values for the walk: a variable that nobody writes any more; lists of numbers.
-/
import Derived.Test.YtgibgknkfcbopaaAb33
namespace Go.Ab
open Go
set_option linter.unusedVariables false
set_option linter.unusedSimpArgs false

theorem HS.freezeC {c : Ctx} {ρ : Pl} {S : Nat → Prop} {h : Hp} {w : World} {k : Nat} {x : AB} (s : HS c ρ S h w) (hk : h[k]? = some x) (hx : x ≠ .gone) : HS c ρ (fun b => S b ∨ ∃ o, ρ k = some (b, o)) (h.set k .gone) w := by
  have get : ∀ {j : Nat} {b : AB}, (h.set k .gone)[j]? = some b → b ≠ .gone → j ≠ k ∧ h[j]? = some b := fun {j b} hj hg => by
    rw [List.getElem?_set] at hj
    split at hj
    · split at hj
      · cases hj; exact absurd rfl hg
      · cases hj
    · rename_i e; exact ⟨fun e' => e e'.symm, hj⟩
  have l : Later ρ ρ S (fun b => S b ∨ ∃ o, ρ k = some (b, o)) w w := ⟨fun _ _ h => h, fun _ h => .inl h, fun _ _ => rfl, fun _ _ _ _ _ h => h⟩
  refine ⟨fun j hj => s.dom j (by simpa using hj), s.rng, fun j b hb => ?_, fun j b p hb hg hp => ?_, fun j j' b b' p p' hb hb' hg hg' hp hp' e => s.inj j j' b b' p p' (get hb hg).2 (get hb' hg').2 hg hg' hp hp' e, fun b hb => ?_, s.ext, fun b hb => .inl (s.st0 b hb), fun b hb => ?_, by simpa using s.mle, s.keep⟩
  · by_cases hg : b = .gone
    · subst hg; trivial
    · exact RB.later l (fun _ _ _ => rfl) (s.blk j b (get hb hg).2)
  · obtain ⟨h1, h2⟩ := s.live j b p (get hb hg).2 hg hp
    refine ⟨h1, fun hs => ?_⟩
    rcases hs with hs | ⟨o, ho⟩
    · exact h2 hs
    · exact (get hb hg).1 (s.inj j k b _ p _ (get hb hg).2 hk hg hx hp ho rfl)
  · rcases hb with hb | ⟨o, ho⟩
    · exact s.stab b hb
    · exact s.rng k _ ho
  · rcases hb with hb | ⟨o, ho⟩
    · exact s.st1 b hb
    · exact .inr (s.live k _ _ hk hx ho).1
theorem frzC_val {S : Nat → Prop} {w : World} {ρ : Pl} {k off : Nat} {cs : List AV} (hi : AV.idfL cs = true) (hb : RB S w ρ (ρ k) (.cells cs)) {y : Value} (hy : R S w (.ptr k off) ρ y) : R (fun c => S c ∨ ∃ o, ρ k = some (c, o)) w (.pr cs off) ρ y := by
  simp only [RB] at hb
  obtain ⟨b, o, ys, h1, h2, h3⟩ := hb
  simp only [R] at hy ⊢
  obtain ⟨b', o', h4, rfl⟩ := hy
  rw [h1] at h4; cases h4
  exact ⟨b, o, ys, rfl, .inr ⟨o, h1⟩, h2.lies, RL_st (fun _ h => .inl h) (RL_idf ρ _ _ _ hi h3)⟩
/-- A closure over one variable that nobody writes any more. -/
theorem acall_frzC {P : Program} {f : FuncId} {args cs : List AV} {fn : Fn} (hi : AV.idfL cs = true) (h : ACall P f args [] (.clo fn [] [.ptr 0 0]) [.cells cs]) : ACall P f args [] (.clo fn [] [.pr cs 0]) [] := by
  refine ⟨h.1, fun ρ S w vs hs ha => (h.2 ρ S w vs hs ha).mono ?_⟩
  rintro e w' ⟨y, ρ', S', rfl, h2, h3⟩
  simp only [R, RL] at h3
  obtain ⟨ys, zs, rfl, h4, y2, z2, e2, h5, e3⟩ := h3
  refine ⟨_, _, _, rfl, (h2.freezeC (k := 0) rfl (by simp)).none rfl, ?_⟩
  unfold R
  refine ⟨ys, zs, rfl, ?_, ?_⟩
  · simp only [RL]; exact h4
  · rw [e2, e3]
    simp only [RL]
    refine ⟨y2, [], rfl, R_idf ρ' _ _ _ rfl (frzC_val hi (h2.blk 0 _ rfl) ?_), rfl⟩
    simp only [R]; exact h5

/-! ### Lists of numbers -/
abbrev ints (l : List Int) : List (List AV) := l.map fun n => [AV.i n]
abbrev bools (l : List Bool) : List (List AV) := l.map fun n => [AV.b n]
abbrev nats (l : List Nat) : List Int := l.map fun n : Nat => (n : Int)
theorem ints_len (l : List Int) : ∀ e, e ∈ ints l → e.length = 1 := by intro e he; obtain ⟨n, _, rfl⟩ := List.mem_map.1 he; rfl
theorem bools_len (l : List Bool) : ∀ e, e ∈ bools l → e.length = 1 := by intro e he; obtain ⟨n, _, rfl⟩ := List.mem_map.1 he; rfl
theorem ints_idf (l : List Int) : ∀ e, e ∈ ints l → AV.idfL e = true := by intro e he; obtain ⟨i, _, rfl⟩ := List.mem_map.1 he; rfl
theorem bools_idf (l : List Bool) : ∀ e, e ∈ bools l → AV.idfL e = true := by intro e he; obtain ⟨i, _, rfl⟩ := List.mem_map.1 he; rfl
theorem ints_rf (l : List Int) : AV.rfL (ints l).flatten = true := by
  induction l with
  | nil => rfl
  | cons c l ih => exact ih
theorem ints_map (θ : Nat → Nat) (l : List Int) : (ints l).map (AV.mapL θ) = ints l := by
  rw [List.map_map]; rfl
theorem ints_one (l : List Int) : (ints l).flatten.all AV.one = true :=
  List.all_eq_true.2 fun x hx => by obtain ⟨i, _, rfl⟩ := List.mem_map.1 ((isA_flat l) ▸ hx); rfl
theorem ints_idfF (l : List Int) : AV.idfL (ints l).flatten = true := by
  induction l with
  | nil => rfl
  | cons c l ih => exact ih
theorem ints_gI {l : List Int} {j : Int} {i : Nat} (d : Int) (h : i < l.length) (e : j = i) : (ints l)[j.toNat]? = some [AV.i (l.getD i d)] := by
  subst e
  rw [Int.toNat_natCast, List.getElem?_map, List.getElem?_eq_getElem h, List.getD_eq_getElem?_getD, List.getElem?_eq_getElem h]; rfl
theorem ints_gO {l : List Int} {j : Int} {i : Nat} (d : Int) (h : i < l.length) (e : j = i) : (ints l)[0 + j.toNat]? = some [AV.i (l.getD i d)] := by
  rw [Nat.zero_add]; exact ints_gI d h e
theorem nats_gI {l : List Nat} {j : Int} {i : Nat} (h : i < l.length) (e : j = i) : (ints (nats l))[j.toNat]? = some [AV.i (l.getD i 0 : Nat)] := by
  subst e
  rw [Int.toNat_natCast, List.getElem?_map, List.getElem?_map, List.getElem?_eq_getElem h, List.getD_eq_getElem?_getD, List.getElem?_eq_getElem h]; rfl
theorem nats_gO {l : List Nat} {j : Int} {i : Nat} (h : i < l.length) (e : j = i) : (ints (nats l))[0 + j.toNat]? = some [AV.i (l.getD i 0 : Nat)] := by
  rw [Nat.zero_add]; exact nats_gI h e
theorem bools_gO {l : List Bool} {j : Int} {i : Nat} (h : i < l.length) (e : j = i) : (bools l)[0 + j.toNat]? = some [AV.b (l.getD i false)] := by
  subst e
  rw [Nat.zero_add, Int.toNat_natCast, List.getElem?_map, List.getElem?_eq_getElem h, List.getD_eq_getElem?_getD, List.getElem?_eq_getElem h]; rfl
theorem ints_sO {l : List Int} {j x : Int} {i : Nat} (e : j = i) : (ints l).set (0 + j.toNat) [AV.i x] = ints (l.set i x) := by
  subst e
  rw [Nat.zero_add, Int.toNat_natCast, ← List.map_set]
theorem nats_sO {l : List Nat} {j x : Int} {i y : Nat} (e : j = i) (ex : x = y) : (ints (nats l)).set (0 + j.toNat) [AV.i x] = ints (nats (l.set i y)) := by
  subst e ex
  rw [Nat.zero_add, Int.toNat_natCast]
  show _ = ((l.set i y).map _).map _
  rw [List.map_set, List.map_set]
theorem bools_sO {l : List Bool} {j : Int} {x : Bool} {i : Nat} (e : j = i) : (bools l).set (0 + j.toNat) [AV.b x] = bools (l.set i x) := by
  subst e
  rw [Nat.zero_add, Int.toNat_natCast, ← List.map_set]
theorem lt0z {m : Nat} {L : List Nat} (h : m = 0) : ∀ i : Nat, i < m → L[i]? = some i := fun i hi => absurd hi (by omega)
theorem lt1z : ∀ i : Nat, i < 1 → ([0] : List Nat)[i]? = some i := by decide
theorem viewL_ints (h : Hp) : ∀ l : List Int, ViewL h (ints l).flatten (ints l).flatten
  | [] => .nil
  | _ :: l => .cons (.v _) (viewL_ints h l)
theorem view_ints {h : Hp} {k n : Nat} {l : List Int} (hk : h[k]? = some (.arr (ints l) 1)) (hn : n = l.length) : View h (.sl k 0 n 1) (.rowE (ints l) 1) := by
  subst hn
  have := View.sl (h := h) (k := k) (off := 0) (len := l.length) hk (by simp) (by rw [List.drop_zero, List.take_of_length_le (by simp)]; exact viewL_ints h l)
  rwa [show l.length = (ints l).length by simp] at this ⊢
theorem app_one {l : List (List AV)} {n : Nat} {x : List AV} (h : n = l.length) : List.take n (List.drop 0 l) ++ [x] = l ++ [x] := by
  rw [List.drop_zero, h, List.take_length]
theorem ints_snoc (l : List Int) (x : Int) : ints l ++ [[AV.i x]] = ints (l ++ [x]) := by simp
theorem nats_snoc (l : List Nat) (x : Nat) : ints (nats l) ++ [[AV.i (x : Int)]] = ints (nats (l ++ [x])) := by simp
theorem ints_length (l : List Int) : (ints l).length = l.length := List.length_map _
theorem nats_length (l : List Nat) : (ints (nats l)).length = l.length := by simp
theorem bools_length (l : List Bool) : (bools l).length = l.length := List.length_map _
end Go.Ab
