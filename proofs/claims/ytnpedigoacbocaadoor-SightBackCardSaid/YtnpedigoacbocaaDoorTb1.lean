/-
  SightBack: evidence as bytes, and back (plain).
-/
import Derived.Test.YtnpedigoacbocaaDoorStC
namespace Go.Proofs.YtnpedigoacbocaaDoor
open Go Go.Ab Go.Wr
set_option linter.unusedVariables false
set_option linter.unusedSimpArgs false
theorem int_read {n : Int} (h : I64 n) (r : List UInt8) : intS (some (intB n ++ r)) = (n, some r) := by
  unfold intS intB
  rw [List.append_assoc, List.singleton_append]
  exact numS_some (numP_mk h h.1 (by decide))
theorem items_read : ∀ (l : List Int) (r : List UInt8), (∀ x, x ∈ l → I64 x) → itemsL l.length (some ((l.map intB).flatten ++ r)) = (l, some r)
  | [], r, _ => rfl
  | x :: l, r, h => by
    have ih := items_read l r fun y hy => h y (List.mem_cons_of_mem _ hy)
    have hi := int_read (h x List.mem_cons_self) ((l.map intB).flatten ++ r)
    rw [List.map_cons, List.flatten_cons, List.append_assoc, List.length_cons]
    show ((intS (some (intB x ++ ((l.map intB).flatten ++ r)))).1 :: (itemsL l.length (intS (some (intB x ++ ((l.map intB).flatten ++ r)))).2).1, (itemsL l.length (intS (some (intB x ++ ((l.map intB).flatten ++ r)))).2).2) = _
    rw [hi]
    dsimp only
    rw [ih]
theorem nums_read {l : List Int} (h : ∀ x, x ∈ l → I64 x) (hl : l.length ≤ 1000000) (r : List UInt8) : numsS (some (numsB l ++ r)) = (l, some r) := by
  have e : numsB l ++ r = Lib.itoa l.length ++ 91 :: ((l.map intB).flatten ++ (93 :: r)) := by
    unfold numsB accB
    rw [List.take_length]
    simp
  have h1 : numS (some (numsB l ++ r)) 91 0 = ((l.length : Int), some ((l.map intB).flatten ++ (93 :: r))) := by
    rw [e]
    exact numS_some (numP_mk ⟨by omega, by omega⟩ (by omega) (by decide))
  unfold numsS
  rw [h1]
  dsimp only
  rw [Int.toNat_natCast, items_read l _ h]
  rfl
/-- Evidence: kind, body, other body, number, identities. -/
abbrev SG := Int × Int × Int × Int × List Int
def bytesS (x : SG) : List UInt8 := intB x.1 ++ intB x.2.1 ++ intB x.2.2.1 ++ intB x.2.2.2.1 ++ numsB x.2.2.2.2
structure OkS (x : SG) : Prop where
  k : I64 x.1
  a : I64 x.2.1
  b : I64 x.2.2.1
  n : I64 x.2.2.2.1
  ids : ∀ y, y ∈ x.2.2.2.2 → I64 y
def st1 (l : List UInt8) : St := (intS (some l)).2
def st2 (l : List UInt8) : St := (intS (st1 l)).2
def st3 (l : List UInt8) : St := (intS (st2 l)).2
def st4 (l : List UInt8) : St := (intS (st3 l)).2
def st5 (l : List UInt8) : St := (numsS (st4 l)).2
def sgS (l : List UInt8) : SG := ((intS (some l)).1, (intS (st1 l)).1, (intS (st2 l)).1, (intS (st3 l)).1, (numsS (st4 l)).1)
def readS (l : List UInt8) : Option SG := if st5 l = some [] ∧ bytesS (sgS l) = l then some (sgS l) else none
theorem itemsL_I64 : ∀ (k : Nat) (s : St) (y : Int), y ∈ (itemsL k s).1 → I64 y
  | 0, s, y, h => by cases h
  | k + 1, none, y, h => by rw [itemsL_none] at h; cases h
  | k + 1, some r, y, h => by
    rcases List.mem_cons.1 (show y ∈ (intS (some r)).1 :: (itemsL k (intS (some r)).2).1 from h) with h | h
    · rw [h]; exact numS_I64 _ _ _
    · exact itemsL_I64 k _ y h
theorem numsS_I64 (s : St) (y : Int) (h : y ∈ (numsS s).1) : I64 y := by
  unfold numsS at h
  dsimp only at h
  split at h
  · cases h
  · exact itemsL_I64 _ _ y h
theorem sgS_ok (l : List UInt8) : OkS (sgS l) := ⟨numS_I64 _ _ _, numS_I64 _ _ _, numS_I64 _ _ _, numS_I64 _ _ _, fun y h => numsS_I64 _ y h⟩
theorem read_bytesS {x : SG} (h : OkS x) (hl : x.2.2.2.2.length ≤ 1000000) : readS (bytesS x) = some x := by
  obtain ⟨k, a, b, n, ids⟩ := x
  have e : bytesS (k, a, b, n, ids) = intB k ++ (intB a ++ (intB b ++ (intB n ++ (numsB ids ++ [])))) := by
    unfold bytesS; simp
  have e1 := int_read h.k (intB a ++ (intB b ++ (intB n ++ (numsB ids ++ []))))
  have e2 := int_read h.a (intB b ++ (intB n ++ (numsB ids ++ [])))
  have e3 := int_read h.b (intB n ++ (numsB ids ++ []))
  have e4 := int_read h.n (numsB ids ++ [])
  have e5 := nums_read h.ids hl []
  dsimp only at e1 e2 e3 e4 e5
  rw [← e] at e1
  have f1 : st1 (bytesS (k, a, b, n, ids)) = some (intB a ++ (intB b ++ (intB n ++ (numsB ids ++ [])))) := by unfold st1; rw [e1]
  have f2 : st2 (bytesS (k, a, b, n, ids)) = some (intB b ++ (intB n ++ (numsB ids ++ []))) := by unfold st2; rw [f1, e2]
  have f3 : st3 (bytesS (k, a, b, n, ids)) = some (intB n ++ (numsB ids ++ [])) := by unfold st3; rw [f2, e3]
  have f4 : st4 (bytesS (k, a, b, n, ids)) = some (numsB ids ++ []) := by unfold st4; rw [f3, e4]
  have f5 : st5 (bytesS (k, a, b, n, ids)) = some [] := by unfold st5; rw [f4, e5]
  have g : sgS (bytesS (k, a, b, n, ids)) = (k, a, b, n, ids) := by
    unfold sgS
    rw [f1, f2, f3, f4, e1, e2, e3, e4, e5]
  unfold readS
  rw [f5, g, if_pos ⟨rfl, rfl⟩]
theorem readS_some {l : List UInt8} {x : SG} (h : readS l = some x) : x = sgS l ∧ bytesS x = l ∧ st5 l = some [] := by
  unfold readS at h
  split at h
  · rename_i hc
    cases h
    exact ⟨rfl, hc.2, hc.1⟩
  · cases h
end Go.Proofs.YtnpedigoacbocaaDoor
