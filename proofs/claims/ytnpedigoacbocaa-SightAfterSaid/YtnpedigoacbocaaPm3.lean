/-
  Layer 37, in plain terms: right lists, and the states of the loops.
-/
import Derived.Test.YtnpedigoacbocaaPm2
import Derived.Test.YtnpedigoacbocaaAb36
namespace Go.Pm
open Go.Ab
set_option linter.unusedVariables false
set_option linter.unusedSimpArgs false
set_option linter.unusedVariables false
set_option linter.unusedSimpArgs false

def permB (p : List Int) : Bool := decide (sorted p = nats (List.range p.length))
theorem le_tr : ∀ (a b c : Int), decide (a ≤ b) = true → decide (b ≤ c) = true → decide (a ≤ c) = true := fun a b c h1 h2 => by simp at *; omega
theorem le_tot : ∀ (a b : Int), (decide (a ≤ b) || decide (b ≤ a)) = true := fun a b => by simp; omega
theorem sorted_perm (p : List Int) : (sorted p).Perm p := List.mergeSort_perm _ _
theorem sorted_up (p : List Int) : (sorted p).Pairwise (fun a b => a ≤ b) :=
  (List.pairwise_mergeSort le_tr le_tot p).imp (fun h => by simpa using h)
theorem nats_len (q : List Nat) : (nats q).length = q.length := List.length_map _
theorem nats_perm {q r : List Nat} (h : q.Perm r) : (nats q).Perm (nats r) := h.map _
theorem sorted_eq {p q : List Int} (h : p.Perm q) (hq : q.Pairwise (fun a b => a ≤ b)) : sorted p = q :=
  List.Perm.eq_of_pairwise (le := fun a b => a ≤ b) (fun a b _ _ h1 h2 => by omega) (sorted_up p) hq ((sorted_perm p).trans h)
theorem range_le (n : Nat) : (nats (List.range n)).Pairwise (fun a b => a ≤ b) :=
  List.Pairwise.map _ (fun a b h => by omega) (List.pairwise_lt_range (n := n))
theorem permB_nats {q : List Nat} (r : Rt q) : permB (nats q) = true := by
  unfold permB
  rw [decide_eq_true_eq, nats_len]
  exact sorted_eq (nats_perm r.perm) (range_le _)
theorem nats_toNat (q : List Nat) : (nats q).map Int.toNat = q := by
  rw [List.map_map]
  conv => rhs; rw [← List.map_id q]
  rfl
theorem nats_inj {p q : List Nat} (h : nats p = nats q) : p = q := by rw [← nats_toNat p, h, nats_toNat]
theorem permB_ex {p : List Int} (h : permB p = true) : ∃ q, Rt q ∧ p = nats q := by
  unfold permB at h
  rw [decide_eq_true_eq] at h
  have hp : p.Perm (nats (List.range p.length)) := by rw [← h]; exact (sorted_perm p).symm
  have e : p = nats (p.map Int.toNat) := by
    show p = (p.map Int.toNat).map _
    rw [List.map_map]
    conv => lhs; rw [← List.map_id p]
    refine List.map_congr_left fun x hx => ?_
    obtain ⟨k, _, rfl⟩ := List.mem_map.1 (hp.mem_iff.1 hx)
    rfl
  have hq : (p.map Int.toNat).Perm (List.range p.length) := by
    have := hp.map Int.toNat
    rwa [nats_toNat] at this
  exact ⟨_, (rt_perm hq).2, e⟩
theorem permB_iff {q : List Nat} : permB (nats q) = true ↔ Rt q := by
  constructor
  · intro h
    obtain ⟨r, hr, e⟩ := permB_ex h
    rw [nats_inj e]; exact hr
  · exact permB_nats

theorem nt_gI {l : List Nat} {j : Int} {i : Nat} (h : i < l.length) (e : j = i) : (ints (nats l))[j.toNat]? = some [AV.i (at' l i : Nat)] := nats_gI h e
theorem nt_gO {l : List Nat} {j : Int} {i : Nat} (h : i < l.length) (e : j = i) : (ints (nats l))[0 + j.toNat]? = some [AV.i (at' l i : Nat)] := nats_gO h e
/-- Of the first list so far, of the second one from there on. -/
def mix (a b : List Nat) (i : Nat) : List Nat := a.take i ++ b.drop i
theorem mix_0 (a b : List Nat) : mix a b 0 = b := by simp [mix]
theorem mix_all {a b : List Nat} {i : Nat} (h1 : a.length ≤ i) (h2 : b.length ≤ i) : mix a b i = a := by
  unfold mix
  rw [List.take_of_length_le h1, List.drop_of_length_le h2, List.append_nil]
theorem mix_len {a b : List Nat} {i : Nat} (h : a.length = b.length) (hi : i ≤ a.length) : (mix a b i).length = a.length := by
  simp [mix]; omega
theorem mix_set {a b : List Nat} {i : Nat} (h : a.length = b.length) (hi : i < a.length) : (mix a b i).set i (at' a i) = mix a b (i + 1) := by
  unfold mix
  rw [List.set_append_right _ _ (by simp; omega), List.length_take, Nat.min_eq_left (by omega), Nat.sub_self, List.drop_eq_getElem_cons (by omega : i < b.length), List.set_cons_zero, List.take_succ_eq_append_getElem hi, at_get hi, List.append_assoc]
  rfl
/-- The inverse, as far as it has come. -/
def invS (p d : List Nat) (i : Nat) : List Nat := (List.range p.length).map fun x => if p.idxOf x < i then p.idxOf x else at' d x
theorem invS_len (p d : List Nat) (i : Nat) : (invS p d i).length = p.length := by simp [invS]
theorem invS_0 {p d : List Nat} (h : d.length = p.length) : invS p d 0 = d := by
  refine ext_at (by rw [invS_len, h]) fun i hi => ?_
  rw [invS_len] at hi
  rw [invS, at_mapr hi, if_neg (Nat.not_lt_zero _)]
theorem invS_all {p d : List Nat} (r : Rt p) : invS p d p.length = inv p := by
  refine ext_at (by rw [invS_len, inv_len]) fun i hi => ?_
  rw [invS_len] at hi
  rw [invS, at_mapr hi, if_pos (r.idxLt hi), inv_at hi]
theorem invS_set {p d : List Nat} (r : Rt p) {i : Nat} (hi : i < p.length) : (invS p d i).set (at' p i) i = invS p d (i + 1) := by
  refine ext_at (by simp [invS_len]) fun x hx => ?_
  simp only [List.length_set, invS_len] at hx
  rw [at_set (by rw [invS_len]; exact r.ltAt hi), invS, at_mapr hx, invS, at_mapr hx]
  by_cases e : at' p i = x
  · subst e
    rw [if_pos rfl, r.idx hi, if_pos (Nat.lt_succ_self i)]
  · rw [if_neg e]
    have : p.idxOf x ≠ i := fun h => e (by rw [← h, r.atIdx hx])
    by_cases h : p.idxOf x < i
    · rw [if_pos h, if_pos (by omega)]
    · rw [if_neg h, if_neg (by omega)]
/-- A swap, if the places are there. -/
def swapI (p : List Int) (a b : Int) : List Int := if (0 ≤ a ∧ a < p.length) ∧ (0 ≤ b ∧ b < p.length) then (p.set a.toNat (p.getD b.toNat 0)).set b.toNat (p.getD a.toNat 0) else p
theorem swapI_no {p : List Int} {a b : Int} (h : ¬ ((0 ≤ a ∧ a < p.length) ∧ (0 ≤ b ∧ b < p.length))) : swapI p a b = p := if_neg h
theorem nats_set (p : List Nat) (i x : Nat) : (nats p).set i (x : Int) = nats (p.set i x) := List.map_set.symm
theorem nats_getD (p : List Nat) (i : Nat) : (nats p).getD i 0 = (at' p i : Nat) := by
  rw [List.getD_eq_getElem?_getD, at', List.getD_eq_getElem?_getD, List.getElem?_map]
  cases p[i]? <;> rfl
theorem swapI_nats {p : List Nat} {a b : Nat} (ha : a < p.length) (hb : b < p.length) : swapI (nats p) a b = nats (swp p a b) := by
  unfold swapI
  rw [if_pos (by rw [nats_len]; omega), Int.toNat_natCast, Int.toNat_natCast, nats_getD, nats_getD, nats_set, nats_set]; rfl
theorem cycF_stop {p : List Nat} {sn : List Bool} {c : List Nat} {k : Nat} (h : bt sn k = true) : ∀ f, cycF p f sn c k = (sn, c)
  | 0 => rfl
  | f + 1 => by unfold cycF; rw [if_pos h]
theorem cycF_go {p : List Nat} {sn : List Bool} {c : List Nat} {k f : Nat} (h : bt sn k = false) : cycF p (f + 1) sn c k = cycF p f (sn.set k true) (c ++ [k]) (at' p k) := by
  rw [cycF, if_neg (by rw [h]; simp)]
theorem count_seen {sn : List Bool} {k : Nat} (hk : k < sn.length) (h : bt sn k = false) : (sn.set k true).count false + 1 = sn.count false := by
  rw [bt_get hk] at h
  have hm : false ∈ sn := by rw [← h]; exact List.getElem_mem _
  have h1 := List.count_pos_iff.2 hm
  have h2 : (sn[k] == false) = true := by rw [h]; rfl
  rw [List.count_set hk, if_pos h2, if_neg (by decide)]
  omega
theorem cycF_len {p : List Nat} : ∀ (f : Nat) (sn : List Bool) (c : List Nat) (k : Nat), (cycF p f sn c k).1.length = sn.length
  | 0, _, _, _ => rfl
  | f + 1, sn, c, k => by
    unfold cycF
    split
    · rfl
    · rw [cycF_len f]; simp
theorem cycF_clen {p : List Nat} : ∀ (f : Nat) (sn : List Bool) (c : List Nat) (k : Nat), (cycF p f sn c k).2.length ≤ c.length + f
  | 0, _, _, _ => Nat.le_refl _
  | f + 1, sn, c, k => by
    unfold cycF
    split
    · show c.length ≤ _; omega
    · have := cycF_clen (p := p) f (sn.set k true) (c ++ [k]) (at' p k)
      rw [List.length_append, List.length_singleton] at this; omega
theorem cycS_len (p : List Nat) : ∀ i, (cycS p i).1.length = p.length ∧ (cycS p i).2.length ≤ i
  | 0 => by simp [cycS]
  | i + 1 => by
    obtain ⟨h1, h2⟩ := cycS_len p i
    refine ⟨?_, ?_⟩
    · show (cycF p p.length (cycS p i).1 [] i).1.length = _
      rw [cycF_len, h1]
    · show (if 1 < (cycF p p.length (cycS p i).1 [] i).2.length then (cycS p i).2 ++ [(cycF p p.length (cycS p i).1 [] i).2] else (cycS p i).2).length ≤ _
      split
      · simp; omega
      · omega
theorem less_take {x : Nat} {l : List Nat} {m : Nat} (h : m < l.length) : lessN x (l.take (m + 1)) = lessN x (l.take m) + if at' l m < x then 1 else 0 := by
  unfold lessN
  rw [List.take_succ_eq_append_getElem h, List.countP_append, at_get h]
  simp [List.countP_cons]
theorem eraseIdx_two {l : List Nat} {i : Nat} : l.take i ++ l.drop (i + 1) = l.eraseIdx i := (List.eraseIdx_eq_take_drop_succ l i).symm
theorem nats_take (l : List Nat) (i : Nat) : (nats l).take i = nats (l.take i) := List.map_take.symm
theorem nats_drop (l : List Nat) (i : Nat) : (nats l).drop i = nats (l.drop i) := List.map_drop.symm
end Go.Pm
