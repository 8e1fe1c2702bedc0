/-
  Layer 17: tables after operations; the documentation's examples.
-/
import Derived.Test.YtgnnbmgljadokaaDoorHoC
namespace Go.Proofs.YtgnnbmgljadokaaDoor
open Go Go.Ab Go.Ho Go.MapKept
set_option linter.unusedVariables false
set_option linter.unusedSimpArgs false
attribute [local irreducible] VC AW FStep ACall
set_option maxHeartbeats 4000000
def OkOp (x : OP) : Prop := I64 x.2.1 ∧ I64 x.2.2.1 ∧ x.2.2.2.length ≤ 20
theorem putL_lenk (m : Tb) (l : List Int) (o : Int) : ∀ k, (putL m l o k).length ≤ m.length + k
  | 0 => by simp [putL]
  | k + 1 => by
    by_cases hk : k < l.length
    · rw [putL_next hk]
      have := putL_lenk m l o k
      unfold put
      split <;> simp <;> omega
    · have e : putL m l o (k + 1) = putL m l o k := by unfold putL; rw [List.take_of_length_le (by omega), List.take_of_length_le (by omega)]
      have := putL_lenk m l o k
      rw [e]; omega
theorem del_len (m : Tb) (n : Int) : (del m n).length ≤ m.length := List.length_filter_le _ _
theorem delF_len : ∀ (l : List Int) (m : Tb), (l.foldl del m).length ≤ m.length
  | [], m => Nat.le_refl _
  | n :: l, m => Nat.le_trans (delF_len l (del m n)) (del_len m n)
theorem ask_0 {m : Tb} {o : Int} {l : List Int} : askE m o l = 0 ↔ 0 ≤ o ∧ (∀ n, n ∈ l → 0 ≤ n ∧ n < 8192) ∧ ∀ n, n ∈ l → own m n < 0 ∨ own m n = o := by
  have := chkP_0 (m := m) (o := o) (l := l) (p := fun x => decide (x < 0) || decide (x = o)) (wrong := 15) (by decide)
  simpa [askE] using this
theorem free_0 {m : Tb} {o : Int} {l : List Int} : freeE m o l = 0 ↔ 0 ≤ o ∧ (∀ n, n ∈ l → 0 ≤ n ∧ n < 8192) ∧ ∀ n, n ∈ l → own m n = o := by
  have := chkP_0 (m := m) (o := o) (l := l) (p := fun x => decide (x = o)) (wrong := 4) (by decide)
  simpa [freeE] using this
theorem give_0 {m : Tb} {a b : Int} {l : List Int} : giveE m a b l = 0 ↔ 0 ≤ min a b ∧ (∀ n, n ∈ l → 0 ≤ n ∧ n < 8192) ∧ ∀ n, n ∈ l → own m n = a := by
  have := chkP_0 (m := m) (o := min a b) (l := l) (p := fun x => decide (x = a)) (wrong := 4) (by decide)
  simpa [giveE] using this
theorem Ok.askT {m : Tb} (h : Ok m) {o : Int} {l : List Int} (ho : o ≤ 9223372036854775807) : Ok (askT m o l) := by
  unfold Go.Proofs.YtgnnbmgljadokaaDoor.askT
  split
  · rename_i e
    obtain ⟨h1, h2, _⟩ := ask_0.1 e
    exact Ok.putL h h2 ⟨h1, ho⟩ _
  · exact h
theorem Ok.giveT {m : Tb} (h : Ok m) {a b : Int} {l : List Int} (ho : b ≤ 9223372036854775807) : Ok (giveT m a b l) := by
  unfold Go.Proofs.YtgnnbmgljadokaaDoor.giveT
  split
  · rename_i e
    obtain ⟨h1, h2, _⟩ := give_0.1 e
    exact Ok.putL h h2 ⟨by omega, ho⟩ _
  · exact h
theorem Ok.freeT {m : Tb} (h : Ok m) {o : Int} {l : List Int} : Ok (freeT m o l) := by
  unfold Go.Proofs.YtgnnbmgljadokaaDoor.freeT
  split
  · exact Ok.delL h _
  · exact h
theorem Ok.doT {m : Tb} (h : Ok m) {x : OP} (hx : OkOp x) : Ok (doT m x) := by
  unfold Go.Proofs.YtgnnbmgljadokaaDoor.doT
  have h1 := hx.1.2
  have h2 := hx.2.1.2
  split
  · exact Ok.freeT h
  · split
    · exact Ok.giveT h h2
    · split
      · exact Ok.delL h _
      · split
        · exact h
        · exact Ok.askT h h1
theorem doT_len {m : Tb} {x : OP} (hx : OkOp x) : (doT m x).length ≤ m.length + 20 := by
  have h3 := hx.2.2
  have h4 : ∀ o, (putL m x.2.2.2 o x.2.2.2.length).length ≤ m.length + 20 := fun o => by have := putL_lenk m x.2.2.2 o x.2.2.2.length; omega
  have h5 : ∀ l k, (delL m l k).length ≤ m.length + 20 := fun l k => by have := delF_len (l.take k) m; unfold delL; omega
  unfold doT freeT giveT askT dropT
  split
  · split
    · exact h5 _ _
    · omega
  · split
    · split
      · exact h4 _
      · omega
    · split
      · exact h5 _ _
      · split
        · omega
        · split
          · exact h4 _
          · omega
def mkT (l : List OP) : Tb := l.foldl doT []
theorem mkT_ok : ∀ {l : List OP}, (∀ x, x ∈ l → OkOp x) → Ok (mkT l) ∧ (mkT l).length ≤ 20 * l.length := by
  have key : ∀ (l : List OP) (m : Tb), Ok m → (∀ x, x ∈ l → OkOp x) → Ok (l.foldl doT m) ∧ (l.foldl doT m).length ≤ m.length + 20 * l.length := by
    intro l
    induction l with
    | nil => intro m h _; exact ⟨h, by simp⟩
    | cons x l ih =>
      intro m h hx
      have h1 := hx x List.mem_cons_self
      obtain ⟨h2, h3⟩ := ih (doT m x) (Ok.doT h h1) fun y hy => hx y (List.mem_cons_of_mem _ hy)
      have h4 := doT_len (m := m) h1
      exact ⟨h2, by simp only [List.foldl_cons, List.length_cons]; omega⟩
  intro l hl
  have := key l [] Ok.nil hl
  simpa [mkT] using this
theorem mkT_next {l : List OP} {k : Nat} (hk : k < l.length) : mkT (l.take (k + 1)) = doT (mkT (l.take k)) l[k] := by
  unfold mkT
  rw [List.take_succ_eq_append_getElem hk, List.foldl_append]; rfl
theorem ptrU : Tryd.prog.underlying 28 = some (.pointer 54) := by kernel_rfl
theorem doT_5 {m : Tb} {x : OP} (h : doQ x = 5) : doT m x = m := by
  unfold doT; simp [h]
theorem itoa1 (n : Nat) (h : n < 10) : Go.Lib.itoa (n : Int) = [UInt8.ofNat (48 + n)] := by rw [Go.Lib.itoa_nonneg, Go.Lib.decDigits_one h]
def exT : Tb := [(4, 1), (5, 2)]
theorem exOf1 : ofL exT 1 = [4] := sorted_id (l := [4]) (by simp)
theorem exOf2 : ofL exT 2 = [5] := sorted_id (l := [5]) (by simp)
theorem exOws : owsL exT = [1, 2] := sorted_id (l := [1, 2]) (by simp)
theorem exBytes : bytesB exT = [50, 59, 49, 59, 49, 91, 52, 59, 93, 50, 59, 49, 91, 53, 59, 93] := by
  unfold bytesB accO
  rw [exOws]
  simp only [entB, exOf1, exOf2, List.take, List.length_cons, List.length_nil, List.map_cons, List.map_nil, List.flatten_cons, List.flatten_nil, numsB, accB, intB]
  have e1 := itoa1 1 (by decide)
  have e2 := itoa1 2 (by decide)
  have e4 := itoa1 4 (by decide)
  have e5 := itoa1 5 (by decide)
  simp at e1 e2 e4 e5
  simp [e1, e2, e4, e5]
end Go.Proofs.YtgnnbmgljadokaaDoor
