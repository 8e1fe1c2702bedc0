/-
  Layer 1: reading numbers (plain).
-/
import Derived.Test.YtnpedigoacbocaaDoorSt2
import Derived.Shelf.Strconv.ErrVarAll
import Derived.Lib.IndexLaws
namespace Go.Wr
open Go Go.Ab Go.Lib
set_option linter.unusedVariables false
set_option linter.unusedSimpArgs false
theorem parse_dec (r : List UInt8) : ∀ u : Nat, u ≤ 9223372036854775808 → parseUint10 0 (decDigits u ++ r) = parseUint10 u r := by
  intro u
  induction u using Nat.strongRecOn generalizing r with
  | _ u ih =>
    intro hu
    rw [decDigits]
    split
    · rename_i h
      have e : (UInt8.ofNat (48 + u)).toNat = 48 + u := by simp; omega
      rw [List.singleton_append]
      rw [parseUint10, e, if_pos (by omega), if_neg (by omega), if_neg (by omega)]
      congr 1
      omega
    · rename_i h
      have e : (UInt8.ofNat (48 + u % 10)).toNat = 48 + u % 10 := by simp; omega
      rw [List.append_assoc, ih (u / 10) (by omega) _ (by omega), List.singleton_append]
      rw [parseUint10, e, if_pos (by omega), if_neg (by omega), if_neg (by omega)]
      congr 1
      omega
theorem dec_ne (u : Nat) : decDigits u ≠ [] := by
  rw [decDigits]
  split <;> simp
theorem dec_chars : ∀ u : Nat, ∀ c, c ∈ decDigits u → 48 ≤ c.toNat ∧ c.toNat ≤ 57 := by
  intro u
  induction u using Nat.strongRecOn with
  | _ u ih =>
    intro c hc
    rw [decDigits] at hc
    split at hc
    · rw [List.mem_singleton] at hc
      subst hc
      have e : (UInt8.ofNat (48 + u)).toNat = 48 + u := by simp; omega
      omega
    · rcases List.mem_append.1 hc with hc | hc
      · exact ih _ (by omega) c hc
      · rw [List.mem_singleton] at hc
        subst hc
        have e : (UInt8.ofNat (48 + u % 10)).toNat = 48 + u % 10 := by simp; omega
        omega
theorem mag_dec {u : Nat} (hu : u ≤ 9223372036854775808) : parseMag (decDigits u) = .ok u := by
  have := parse_dec [] u hu
  rw [List.append_nil] at this
  unfold parseMag
  rw [if_neg (dec_ne u), this]
  rfl
theorem atoi_itoa {n : Int} (h : -9223372036854775808 ≤ n ∧ n ≤ 9223372036854775807) : atoiAll (itoa n) = .ok n := by
  unfold itoa
  split
  · rw [atoiAll_minus, mag_dec (by omega)]
    unfold signed
    dsimp only
    rw [if_neg (by omega)]
    congr 1
    omega
  · have hm := mag_dec (u := n.toNat) (by omega)
    cases hd : decDigits n.toNat with
    | nil => exact absurd hd (dec_ne _)
    | cons c r =>
      have hc := dec_chars n.toNat c (by rw [hd]; simp)
      rw [hd] at hm
      rw [atoiAll_plain c r (by omega) (by omega), hm]
      unfold signless
      dsimp only
      rw [if_neg (by omega)]
      congr 1
      omega
theorem itoa_chars {n : Int} {c : UInt8} (h : c ∈ itoa n) : c.toNat = 45 ∨ (48 ≤ c.toNat ∧ c.toNat ≤ 57) := by
  unfold itoa at h
  split at h
  · rcases List.mem_cons.1 h with h | h
    · subst h; exact .inl rfl
    · exact .inr (dec_chars _ _ h)
  · exact .inr (dec_chars _ _ h)
theorem nDig_le : ∀ (k u : Nat), u < 10 ^ (k + 1) → nDigits u ≤ k + 1
  | 0, u, h => by rw [nDigits_small (by simpa using h)]; exact Nat.le_refl _
  | k + 1, u, h => by
    by_cases hu : u < 10
    · rw [nDigits_small hu]; omega
    · rw [nDigits_big hu]
      have := nDig_le k (u / 10) (by rw [Nat.div_lt_iff_lt_mul (by decide)]; rw [Nat.pow_succ] at h; exact h)
      omega
theorem itoa_le20 {n : Int} (h : -9223372036854775808 ≤ n ∧ n ≤ 9223372036854775807) : (itoa n).length ≤ 20 := by
  have hp : (10 : Nat) ^ (18 + 1) = 10000000000000000000 := by decide
  unfold itoa
  split
  · rw [List.length_cons, decDigits_length]
    have := nDig_le 18 n.natAbs (by omega)
    omega
  · rw [decDigits_length]
    have := nDig_le 18 n.toNat (by omega)
    omega
theorem itoa_ne (n : Int) : itoa n ≠ [] := by
  unfold itoa
  split
  · simp
  · exact dec_ne _
theorem index_at {a b : List UInt8} {e : UInt8} (h : e ∉ a) : indexByte (a ++ e :: b) e = a.length := by
  induction a with
  | nil => simp [indexByte]
  | cons c a ih =>
    simp only [List.mem_cons, not_or] at h
    have h1 := ih h.2
    show indexByte (c :: (a ++ e :: b)) e = _
    unfold indexByte
    rw [if_neg (by simpa using fun q => h.1 q.symm), h1, if_neg (by simp)]
    simp
theorem index_split {l : List UInt8} {e : UInt8} (h : 0 ≤ indexByte l e) : l = l.take (indexByte l e).toNat ++ e :: l.drop ((indexByte l e).toNat + 1) ∧ (indexByte l e).toNat < l.length := by
  obtain ⟨h1, h2⟩ := indexByte_some (l := l) (c := e) (o := (indexByte l e).toNat) (by omega)
  obtain ⟨h3, h4⟩ := List.getElem?_eq_some_iff.1 h1
  refine ⟨?_, h3⟩
  conv => lhs; rw [← List.take_append_drop (indexByte l e).toNat l]
  rw [List.drop_eq_getElem_cons h3, h4]
/-- A number that stands ahead, with a sign behind it. -/
def numP (r : List UInt8) (e : UInt8) (lo : Int) : Option (Int × List UInt8) :=
  if indexByte (r.take 21) e < 0 then none else
  match atoiAll (r.take (indexByte (r.take 21) e).toNat) with
  | .ok n => if itoa n = r.take (indexByte (r.take 21) e).toNat ∧ lo ≤ n then some (n, r.drop ((indexByte (r.take 21) e).toNat + 1)) else none
  | _ => none
theorem index_le {r : List UInt8} {e : UInt8} (h : 0 ≤ indexByte (r.take 21) e) : (indexByte (r.take 21) e).toNat < r.length ∧ (indexByte (r.take 21) e).toNat < 21 := by
  have := (index_split h).2
  rw [List.length_take] at this
  omega
theorem numP_some {r r' : List UInt8} {e : UInt8} {lo n : Int} (h : numP r e lo = some (n, r')) : r = itoa n ++ e :: r' ∧ lo ≤ n ∧ -9223372036854775808 ≤ n ∧ n ≤ 9223372036854775807 := by
  unfold numP at h
  split at h
  · cases h
  · rename_i h0
    have hs := index_split (Int.not_lt.1 h0)
    have hi := index_le (Int.not_lt.1 h0)
    split at h
    · rename_i n' ha
      split at h
      · rename_i hc
        simp only [Option.some.injEq, Prod.mk.injEq] at h
        obtain ⟨rfl, rfl⟩ := h
        have hb := atoiAll_bounds ha
        refine ⟨?_, hc.2, hb.1, hb.2⟩
        rw [hc.1]
        generalize indexByte (r.take 21) e = k at *
        have h3 : (r.take 21)[k.toNat]? = some e := by
          rw [hs.1, List.getElem?_append_right (by rw [List.length_take, List.length_take]; omega)]
          simp [List.length_take]
          rw [show k.toNat - min k.toNat (min 21 r.length) = 0 by omega]
          rfl
        rw [List.getElem?_take, if_pos hi.2] at h3
        obtain ⟨h4, h5⟩ := List.getElem?_eq_some_iff.1 h3
        conv => lhs; rw [← List.take_append_drop k.toNat r]
        rw [List.drop_eq_getElem_cons h4, h5]
      · cases h
    · cases h
theorem numP_mk {r' : List UInt8} {e : UInt8} {lo n : Int} (h : -9223372036854775808 ≤ n ∧ n ≤ 9223372036854775807) (hl : lo ≤ n) (he : e.toNat ≠ 45 ∧ (e.toNat < 48 ∨ 57 < e.toNat)) : numP (itoa n ++ e :: r') e lo = some (n, r') := by
  have hni : e ∉ itoa n := fun hm => by have := itoa_chars hm; omega
  have h20 := itoa_le20 h
  have hi : indexByte ((itoa n ++ e :: r').take 21) e = (itoa n).length := by
    rw [List.take_append, show 21 - (itoa n).length = (20 - (itoa n).length) + 1 by omega, List.take_succ_cons, List.take_of_length_le (by omega)]
    exact index_at hni
  unfold numP
  rw [hi, if_neg (by omega), Int.toNat_natCast, List.take_left, atoi_itoa h]
  dsimp only
  rw [if_pos ⟨rfl, hl⟩, List.drop_append, List.drop_of_length_le (by omega)]
  simp
theorem numP_nil (e : UInt8) (lo : Int) : numP [] e lo = none := by
  unfold numP
  simp [indexByte]
theorem numP_len {r r' : List UInt8} {e : UInt8} {lo n : Int} (h : numP r e lo = some (n, r')) : r'.length + 2 ≤ r.length := by
  have h1 := (numP_some h).1
  have h2 := itoa_ne n
  rw [h1, List.length_append, List.length_cons]
  have : 0 < (itoa n).length := List.length_pos_iff.2 h2
  omega

/-- What a reader still has to read; nothing behind a fault. -/
abbrev St := Option (List UInt8)
abbrev rdH (s : St) : Hp := [.cells [.s (s.getD []), .b s.isNone]]
def numS (s : St) (e : UInt8) (lo : Int) : Int × St := match numP (s.getD []) e lo with
  | some (n, r) => if s.isNone then (0, none) else (n, some r)
  | none => (0, none)
theorem numS_none (e : UInt8) (lo : Int) : numS none e lo = (0, none) := by unfold numS; rw [show (none : St).getD [] = [] from rfl, numP_nil]
def closeS (s : St) (e : UInt8) : St := match s with
  | some (c :: r) => if c = e then some r else none
  | _ => none
def intS (s : St) : Int × St := numS s 59 (-9223372036854775808)
/-- What a list's loop reads: k numbers, as long as there is no fault. -/
def itemsL : Nat → St → List Int × St
  | 0, s => ([], s)
  | k + 1, none => ([], none)
  | k + 1, some r => let p := intS (some r); let q := itemsL k p.2; (p.1 :: q.1, q.2)
def numsS (s : St) : List Int × St :=
  let p := numS s 91 0
  let q := itemsL p.1.toNat p.2
  let t := closeS q.2 93
  if t.isNone then ([], none) else (q.1, t)
theorem itemsL_none (k : Nat) : itemsL k none = ([], none) := by cases k <;> rfl
theorem numS_I64 (s : St) (e : UInt8) (lo : Int) : -9223372036854775808 ≤ (numS s e lo).1 ∧ (numS s e lo).1 ≤ 9223372036854775807 := by
  unfold numS
  split
  · rename_i n r h
    have := numP_some h
    split <;> simp <;> omega
  · simp
theorem numS_some {r : List UInt8} {e : UInt8} {lo n : Int} {r' : List UInt8} (h : numP r e lo = some (n, r')) : numS (some r) e lo = (n, some r') := by
  unfold numS
  rw [show (some r : St).getD [] = r from rfl, h]
  rfl
theorem numS_fail {r : List UInt8} {e : UInt8} {lo : Int} (h : numP r e lo = none) : numS (some r) e lo = (0, none) := by
  unfold numS
  rw [show (some r : St).getD [] = r from rfl, h]
theorem numS_len {s : St} {e : UInt8} {lo : Int} {r : List UInt8} (h : (numS s e lo).2 = some r) : ∃ r0, s = some r0 ∧ numP r0 e lo = some ((numS s e lo).1, r) ∧ r.length + 2 ≤ r0.length := by
  cases s with
  | none => rw [numS_none] at h; cases h
  | some r0 =>
    cases hp : numP r0 e lo with
    | none => rw [numS_fail hp] at h; cases h
    | some p =>
      obtain ⟨n, r'⟩ := p
      rw [numS_some hp] at h ⊢
      cases h
      exact ⟨r0, rfl, hp, numP_len hp⟩
theorem numS_getD (s : St) (e : UInt8) (lo : Int) : ((numS s e lo).2.getD []).length ≤ (s.getD []).length := by
  cases h : (numS s e lo).2 with
  | none => simp
  | some r =>
    obtain ⟨r0, rfl, _, h3⟩ := numS_len h
    simp
    omega
end Go.Wr
