/-
  Layer 17: tables after operations; the documentation's examples.
-/
import Derived.Test.YtgnnbmgljadokaaGreatDoorHoC
namespace Go.Proofs.YtgnnbmgljadokaaGreatDoor
open Go Go.Ab Go.Ho Go.MapKept
set_option linter.unusedVariables false
set_option linter.unusedSimpArgs false
attribute [local irreducible] VC AW FStep ACall
set_option maxHeartbeats 4000000
def OkOp (x : OP) : Prop := I64 x.2.1 ∧ I64 x.2.2.1 ∧ x.2.2.2.length ≤ 20
theorem putL_lenk (m : Tb) (l : List Int) (o : Int) : ∀ k, (putL m l o k).length ≤ m.length + k
  | 0 => by simp [putL]
  | k + 1 => by
    by_cases hk : k < l.length
    · rw [putL_next hk]
      have := putL_lenk m l o k
      unfold put
      split <;> simp <;> omega
    · have e : putL m l o (k + 1) = putL m l o k := by unfold putL; rw [List.take_of_length_le (by omega), List.take_of_length_le (by omega)]
      have := putL_lenk m l o k
      rw [e]; omega
theorem ask_0 {m : Tb} {o : Int} {l : List Int} : askE m o l = 0 ↔ 0 ≤ o ∧ (∀ n, n ∈ l → 0 ≤ n ∧ n < 8192) ∧ ∀ n, n ∈ l → own m n < 0 ∨ own m n = o := by
  have := chkP_0 (m := m) (o := o) (l := l) (p := fun x => decide (x < 0) || decide (x = o)) (wrong := 15) (by decide)
  simpa [askE] using this
theorem free_0 {m : Tb} {o : Int} {l : List Int} : freeE m o l = 0 ↔ 0 ≤ o ∧ (∀ n, n ∈ l → 0 ≤ n ∧ n < 8192) ∧ ∀ n, n ∈ l → own m n = o := by
  have := chkP_0 (m := m) (o := o) (l := l) (p := fun x => decide (x = o)) (wrong := 4) (by decide)
  simpa [freeE] using this
theorem give_0 {m : Tb} {a b : Int} {l : List Int} : giveE m a b l = 0 ↔ 0 ≤ min a b ∧ (∀ n, n ∈ l → 0 ≤ n ∧ n < 8192) ∧ ∀ n, n ∈ l → own m n = a := by
  have := chkP_0 (m := m) (o := min a b) (l := l) (p := fun x => decide (x = a)) (wrong := 4) (by decide)
  simpa [giveE] using this
theorem Ok.askT {m : Tb} (h : Ok m) {o : Int} {l : List Int} (ho : o ≤ 9223372036854775807) : Ok (askT m o l) := by
  unfold Go.Proofs.YtgnnbmgljadokaaGreatDoor.askT
  split
  · rename_i e
    obtain ⟨h1, h2, _⟩ := ask_0.1 e
    exact Ok.putL h h2 ⟨h1, ho⟩ _
  · exact h
theorem Ok.giveT {m : Tb} (h : Ok m) {a b : Int} {l : List Int} (ho : b ≤ 9223372036854775807) : Ok (giveT m a b l) := by
  unfold Go.Proofs.YtgnnbmgljadokaaGreatDoor.giveT
  split
  · rename_i e
    obtain ⟨h1, h2, _⟩ := give_0.1 e
    exact Ok.putL h h2 ⟨by omega, ho⟩ _
  · exact h
theorem Ok.freeT {m : Tb} (h : Ok m) {o : Int} {l : List Int} : Ok (freeT m o l) := by
  unfold Go.Proofs.YtgnnbmgljadokaaGreatDoor.freeT
  split
  · exact Ok.delL h _
  · exact h
theorem Ok.doT {m : Tb} (h : Ok m) {x : OP} (hx : OkOp x) : Ok (doT m x) := by
  unfold Go.Proofs.YtgnnbmgljadokaaGreatDoor.doT
  have h1 := hx.1.2
  have h2 := hx.2.1.2
  split
  · exact Ok.freeT h
  · split
    · exact Ok.giveT h h2
    · split
      · exact Ok.delL h _
      · split
        · exact h
        · exact Ok.askT h h1
theorem ptrU : Tryz.prog.underlying 25 = some (.pointer 59) := by kernel_rfl
theorem doT_5 {m : Tb} {x : OP} (h : doQ x = 5) : doT m x = m := by
  unfold doT; simp [h]
theorem itoa1 (n : Nat) (h : n < 10) : Go.Lib.itoa (n : Int) = [UInt8.ofNat (48 + n)] := by rw [Go.Lib.itoa_nonneg, Go.Lib.decDigits_one h]
def exT : Tb := [(4, 1), (5, 2)]
theorem exOf1 : ofL exT 1 = [4] := sorted_id (l := [4]) (by simp)
theorem exOf2 : ofL exT 2 = [5] := sorted_id (l := [5]) (by simp)
theorem exOws : owsL exT = [1, 2] := sorted_id (l := [1, 2]) (by simp)
theorem exBytes : bytesB exT = [50, 59, 49, 59, 49, 91, 52, 59, 93, 50, 59, 49, 91, 53, 59, 93] := by
  unfold bytesB accO
  rw [exOws]
  simp only [entB, exOf1, exOf2, List.take, List.length_cons, List.length_nil, List.map_cons, List.map_nil, List.flatten_cons, List.flatten_nil, numsB, accB, intB]
  have e1 := itoa1 1 (by decide)
  have e2 := itoa1 2 (by decide)
  have e4 := itoa1 4 (by decide)
  have e5 := itoa1 5 (by decide)
  simp at e1 e2 e4 e5
  simp [e1, e2, e4, e5]
end Go.Proofs.YtgnnbmgljadokaaGreatDoor
