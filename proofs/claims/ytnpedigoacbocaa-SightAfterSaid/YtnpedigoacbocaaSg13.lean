/-
  Layer 36: After in full.
-/
import Derived.Test.YtnpedigoacbocaaSg12
namespace Go.Ab
open Go
set_option linter.unusedVariables false
set_option linter.unusedSimpArgs false
section
variable {P : Program} {env : Env} {h : Hp} {d : Option Nat} {ty : TypeId} {pos : String} {af : Array Edge} {g : Option (Nat × Bool)}
theorem fs_leqT {t t2 : TypeId} {x y : Operand} {a b : Int} (hx : evu env x = some (.i a)) (hy : evu env y = some (.i b)) (e : a ≤ b) : FStep P ⟨d, .binOp .leq t x y t2, ty, pos, af, g⟩ env h 0 (fun _ => .b true) (fun _ => []) := by
  have := fs_leq (P := P) (d := d) (ty := ty) (pos := pos) (af := af) (g := g) (h := h) (t := t) (t2 := t2) hx hy
  simpa [e] using this
theorem fs_leqF {t t2 : TypeId} {x y : Operand} {a b : Int} (hx : evu env x = some (.i a)) (hy : evu env y = some (.i b)) (e : ¬ a ≤ b) : FStep P ⟨d, .binOp .leq t x y t2, ty, pos, af, g⟩ env h 0 (fun _ => .b false) (fun _ => []) := by
  have := fs_leq (P := P) (d := d) (ty := ty) (pos := pos) (af := af) (g := g) (h := h) (t := t) (t2 := t2) hx hy
  simpa [e] using this
/-- Structures of three numbers that are the same. -/
theorem fs_neqS3 {t t2 : TypeId} {x y : Operand} {a b c a' b' c' : Int} (ht : IntStruct P t 3) (hx : evu env x = some (.agg [.i a, .i b, .i c])) (hy : evu env y = some (.agg [.i a', .i b', .i c'])) (e1 : a = a') (e2 : b = b') (e3 : c = c') :
    FStep P ⟨d, .binOp .neq t x y t2, ty, pos, af, g⟩ env h 0 (fun _ => .b false) (fun _ => []) := by
  subst e1 e2 e3
  have := fs_neqStruct (d := d) (ty := ty) (pos := pos) (af := af) (g := g) (h := h) (t2 := t2) («as» := [a, b, c]) (bs := [a, b, c]) ht hx hy rfl rfl
  simpa using this
end
end Go.Ab
namespace Go.Proofs.Ytnpedigoacbocaa
open Go Go.Ab
set_option linter.unusedVariables false
set_option linter.unusedSimpArgs false
attribute [local irreducible] VC AW FStep ACall
set_option maxHeartbeats 4000000

theorem ints_idfF' (l : List Int) : AV.idfL (ints l).flatten = true := by
  induction l with
  | nil => rfl
  | cons x l ih => exact ih
theorem boxes_idfF (l : List BX) : AV.idfL (boxes l).flatten = true := by
  induction l with
  | nil => rfl
  | cons x l ih => exact ih
theorem mem_swap {l : List Int} {A B : Nat} {x y v : Int} (hA : l[A]? = some x) (hB : l[B]? = some y) (hne : A ≠ B) (hv : v ∈ l) : v ∈ (l.set A y).set B x := by
  obtain ⟨hA1, hA2⟩ := List.getElem?_eq_some_iff.1 hA
  obtain ⟨hB1, hB2⟩ := List.getElem?_eq_some_iff.1 hB
  obtain ⟨j, hj, rfl⟩ := List.mem_iff_getElem.1 hv
  by_cases h1 : j = A
  · subst h1
    exact List.mem_iff_getElem.2 ⟨B, by simpa using hB1, by simp [hA2]⟩
  · by_cases h2 : j = B
    · subst h2
      refine List.mem_iff_getElem.2 ⟨A, by simpa using hA1, ?_⟩
      rw [List.getElem_set_ne (by omega), List.getElem_set_self, hB2]
    · refine List.mem_iff_getElem.2 ⟨j, by simpa using hj, ?_⟩
      rw [List.getElem_set_ne (by omega), List.getElem_set_ne (by omega)]
/-- What was done changes so much. -/
structure Then (ks : List KD) (ls : List LT) (ps : List Int) (bs : List BX) (k a b done id : Int) (ps' : List Int) (bs' : List BX) : Prop where
  t : TruthOk ks ls ps' bs'
  len : ps'.length = ps.length
  p1 : ∀ i : Nat, i < ps.length → k = 4 ∧ done = 1 ∧ (i : Int) = a → ps'.getD i 0 = ps.getD b.toNat 0
  p2 : ∀ i : Nat, i < ps.length → k = 4 ∧ done = 1 ∧ (i : Int) ≠ a ∧ (i : Int) = b → ps'.getD i 0 = id
  p3 : ∀ i : Nat, i < ps.length → ¬ (k = 4 ∧ done = 1 ∧ ((i : Int) = a ∨ (i : Int) = b)) → ps'.getD i 0 = ps.getD i 0
  b1 : ∀ i : Nat, i < ps.length → (bs'.getD i (0, 0, 0)).1 = (bs.getD i (0, 0, 0)).1 ∧ (bs'.getD i (0, 0, 0)).2.2 = (bs.getD i (0, 0, 0)).2.2
  b2 : ∀ i : Nat, i < ps.length → k = 2 ∧ (i : Int) = id → (bs'.getD i (0, 0, 0)).2.1 = (bs.getD i (0, 0, 0)).2.1 - done
  b3 : ∀ i : Nat, i < ps.length → ¬ (k = 2 ∧ (i : Int) = id) → (bs'.getD i (0, 0, 0)).2.1 = (bs.getD i (0, 0, 0)).2.1
  dn : k = 2 → 0 ≤ done ∧ done ≤ (bs.getD id.toNat (0, 0, 0)).2.1
theorem after_full {ks : List KD} {ls : List LT} {ps : List Int} {bs : List BX} (f : Fit ks ls ps bs) (t : TruthOk ks ls ps bs) {m st er sl k a b n done : Int} {ids : List Int} {id lot ct ta : Int} (hs : SensesOk m st er sl) (ha : 0 ≤ a) (hn : 0 ≤ n ∧ n ≤ 1099511627776) (hl : ids.length ≤ 9223372036854775807)
    (hid : ps[a.toNat]? = some id) (hbx : bs[id.toNat]? = some (lot, ct, ta)) (hb : k = 4 → a + 1 ≤ b ∧ b ≤ (ps.length : Int) - 1) :
    (ACall Try.prog 11 [sensesA m st er sl, .rowE (kinds ks) 2, .rowE (lots ls) 3, .rowE (ints ps) 1, .rowE (boxes bs) 3, sightA k a b n ids, .i done] [] (.tup [.nils, .nils, .b false]) [] ∧ (agOk st er sl id ct (ta + ct * unitF ks ls lot) k n ids = false ∨ done ≠ 0 ∨ k = 2)) ∨
    (agOk st er sl id ct (ta + ct * unitF ks ls lot) k n ids = true ∧ ∃ ps' bs', Then ks ls ps bs k a b done id ps' bs' ∧ ACall Try.prog 11 [sensesA m st er sl, .rowE (kinds ks) 2, .rowE (lots ls) 3, .rowE (ints ps) 1, .rowE (boxes bs) 3, sightA k a b n ids, .i done] [] (.tup [.rowE (ints ps') 1, .rowE (boxes bs') 3, .b true]) []) := by
  have hag := agrees_c (k := k) (b := b) (n := n) (ids := ids) f hs ha hn hl hid hbx
  have hs' := hs
  unfold SensesOk at hs'
  have hcan := can_c m st er sl lot ct ta k a b n ids done hn (by omega)
  have hx1 := (List.getElem?_eq_some_iff.1 hid).1
  have hi0 : 0 ≤ id := by
    have := f.p _ hx1
    rw [(List.getElem?_eq_some_iff.1 hid).2] at this
    exact this.1
  have hgid : ps.getD a.toNat 0 = id := by rw [List.getD_eq_getElem?_getD, hid]; rfl
  have hgbx : bs.getD id.toNat (0, 0, 0) = (lot, ct, ta) := by rw [List.getD_eq_getElem?_getD, hbx]; rfl
  cases h1 : agOk st er sl id ct (ta + ct * unitF ks ls lot) k n ids
  · rw [h1] at hag
    exact .inl ⟨after_no f ha hid hbx hi0 (.inl rfl) hag hcan, .inl rfl⟩
  rw [h1] at hag
  cases h2 : canB sl ct k n done
  · rw [h2] at hcan
    refine .inl ⟨after_no f ha hid hbx hi0 (.inr ⟨rfl, rfl⟩) hag hcan, .inr ?_⟩
    apply Classical.byContradiction
    intro hc
    have hk2 : ¬ k = 2 := fun h => hc (.inr h)
    have hd0 : done = 0 := Classical.byContradiction fun h => hc (.inl h)
    unfold canB at h2
    rw [if_neg hk2] at h2
    split at h2 <;> simp [hd0] at h2
  rw [h2] at hcan
  refine .inr ⟨rfl, ?_⟩
  by_cases hk2 : k = 2
  · have hd : 0 ≤ done ∧ done ≤ ct := by
      unfold canB at h2
      rw [if_pos hk2] at h2
      simp only [withinB, Bool.and_eq_true, decide_eq_true_eq] at h2
      exact h2.1
    have hy := (List.getElem?_eq_some_iff.1 hbx).1
    have hg2 : ∀ i : Nat, i < ps.length → (bs.set id.toNat (lot, ct - done, ta)).getD i (0, 0, 0) = if id.toNat = i then (lot, ct - done, ta) else bs.getD i (0, 0, 0) := fun i hi => by
      have := f.len
      rw [List.getD_eq_getElem?_getD, List.getD_eq_getElem?_getD, List.getElem?_set]
      split
      · rename_i h; subst h; simp [hy]
      · rfl
    refine ⟨ps, bs.set id.toNat (lot, ct - done, ta), ⟨⟨by rw [List.length_set]; exact t.len, t.p, t.k, t.l, fun i hi => ?_⟩, rfl, fun i hi h => by omega, fun i hi h => by omega, fun i hi h => rfl, fun i hi => ?_, fun i hi h => ?_, fun i hi h => ?_, fun _ => by rw [hgbx]; exact hd⟩, acall_frz3 (by simp) (by simp) (ints_idfF' _) (boxes_idfF _) rfl (after_pick f ha hid hbx hi0 hk2 hd hag hcan)⟩
    · rw [List.length_set] at hi
      have hbi := t.b i hi
      have hbd := t.b id.toNat hy
      rw [(List.getElem?_eq_some_iff.1 hbx).2] at hbd
      dsimp only at hbd
      rw [List.getElem_set]
      split
      · dsimp only
        refine ⟨hbd.1, hbd.2.1, by omega, by omega, fun h => ?_, hbd.2.2.2.2.2⟩
        have := hbd.2.2.2.2.1 h
        omega
      · exact hbi
    · rw [hg2 i hi]
      split
      · rename_i h; subst h; rw [hgbx]; exact ⟨rfl, rfl⟩
      · exact ⟨rfl, rfl⟩
    · rw [hg2 i hi, if_pos (by omega)]
      have : id.toNat = i := by omega
      rw [← this, hgbx]
    · rw [hg2 i hi, if_neg (by omega)]
  · by_cases hk4 : k = 4 ∧ done = 1
    · obtain ⟨hk4, hd⟩ := hk4
      have hb' := hb hk4
      have hx2 : b.toNat < ps.length := by omega
      have hgb : ps.getD b.toNat 0 = ps[b.toNat] := by rw [List.getD_eq_getElem?_getD, List.getElem?_eq_getElem hx2]; rfl
      have hg2 : ∀ i : Nat, i < ps.length → ((ps.set a.toNat ps[b.toNat]).set b.toNat id).getD i 0 = if b.toNat = i then id else if a.toNat = i then ps[b.toNat] else ps.getD i 0 := fun i hi => by
        rw [List.getD_eq_getElem?_getD, List.getD_eq_getElem?_getD, List.getElem?_set, List.getElem?_set]
        split
        · rename_i h; subst h; simp [hi]
        · split
          · rename_i h; subst h; simp [hi]
          · rfl
      refine ⟨(ps.set a.toNat ps[b.toNat]).set b.toNat id, bs, ⟨⟨by simp [t.len], fun i hi => ?_, t.k, t.l, t.b⟩, by simp, fun i hi h => ?_, fun i hi h => ?_, fun i hi h => ?_, fun i hi => ⟨rfl, rfl⟩, fun i hi h => by omega, fun i hi h => rfl, fun h => by omega⟩, acall_frz3 (by simp) (by simp) (ints_idfF' _) (boxes_idfF _) rfl (after_swap (idb := ps[b.toNat]) f ha hid hbx hi0 hk4 hd (by omega) (by omega) (List.getElem?_eq_getElem hx2) hag hcan)⟩
      · exact mem_swap hid (List.getElem?_eq_getElem hx2) (by omega) (t.p i (by simpa using hi))
      · rw [hg2 i hi, if_neg (by omega), if_pos (by omega), hgb]
      · rw [hg2 i hi, if_pos (by omega)]
      · rw [hg2 i hi, if_neg (by omega), if_neg (by omega)]
    · exact ⟨ps, bs, ⟨t, rfl, fun i hi h => absurd ⟨h.1, h.2.1⟩ hk4, fun i hi h => absurd ⟨h.1, h.2.1⟩ hk4, fun i hi h => rfl, fun i hi => ⟨rfl, rfl⟩, fun i hi h => absurd h.1 hk2, fun i hi h => rfl, fun h => absurd h hk2⟩, acall_frz3 (by simp) (by simp) (ints_idfF' _) (boxes_idfF _) rfl (after_same f ha hid hbx hi0 hk2 hk4 hag hcan)⟩
end Go.Proofs.Ytnpedigoacbocaa
