/-
  Layer 17: what the reference reads (plain).
-/
import Derived.Test.YtgnnbmgljadokaaGreatDoorHqB
namespace Go.Proofs.YtgnnbmgljadokaaGreatDoor
open Go Go.Ab Go.Ho Go.Wr
set_option linter.unusedVariables false
set_option linter.unusedSimpArgs false
instance ascDec (l : List Int) : Decidable (Asc l) := by unfold Asc; infer_instance
def readQL : Nat → St → Tb → List Int → Int → Option (St × Tb × List Int)
  | 0, s, m, w, _ => some (s, m, w)
  | k + 1, s, m, w, last => if (s.getD []).length = 0 then some (s, m, w) else
    if (intS s).1 ≤ last ∨ (numsS (intS s).2).1 = [] ∨ ¬ Asc (numsS (intS s).2).1 ∨ askE m (intS s).1 (numsS (intS s).2).1 ≠ 0 then none
    else readQL k (numsS (intS s).2).2 (askT m (intS s).1 (numsS (intS s).2).1) (askW w m (intS s).1 (numsS (intS s).2).1) (intS s).1
def readQE (n : Int) : Option (St × Tb × List Int) → Option (Tb × List Int)
  | some (s, m, w) => if s = some [] ∧ ((owsL m).length : Int) = n then some (m, w) else none
  | none => none
def readQ (l : List UInt8) : Option (Tb × List Int) := readQE (numS (some l) 59 0).1 (readQL (numS (some l) 59 0).1.toNat (numS (some l) 59 0).2 [] (repI 8192) (-1))
theorem int_some {r r' : List UInt8} {o : Int} (h : intS (some r) = (o, some r')) : r = intB o ++ r' ∧ I64 o := by
  have h2 : (numS (some r) 59 (-9223372036854775808)).2 = some r' := by rw [show numS (some r) 59 (-9223372036854775808) = intS (some r) from rfl, h]
  obtain ⟨r0, e, h3, _⟩ := numS_len h2
  cases e
  rw [show numS (some r) 59 (-9223372036854775808) = intS (some r) from rfl, h] at h3
  have h4 := numP_some h3
  refine ⟨?_, h4.2.2⟩
  rw [h4.1]
  unfold intB
  simp
theorem items_some : ∀ (k : Nat) (r : List UInt8) {l : List Int} {r' : List UInt8}, itemsL k (some r) = (l, some r') → l.length = k ∧ r = (l.map intB).flatten ++ r' ∧ ∀ x, x ∈ l → I64 x
  | 0, r, l, r', h => by
    simp only [itemsL, Prod.mk.injEq, Option.some.injEq] at h
    obtain ⟨rfl, rfl⟩ := h
    simp
  | k + 1, r, l, r', h => by
    have hs : itemsL (k + 1) (some r) = ((intS (some r)).1 :: (itemsL k (intS (some r)).2).1, (itemsL k (intS (some r)).2).2) := rfl
    rw [hs, Prod.mk.injEq] at h
    cases h2 : (intS (some r)).2 with
    | none => rw [h2, itemsL_none] at h; cases h.2
    | some r2 =>
      rw [h2] at h
      have h3 := int_some (o := (intS (some r)).1) (r := r) (r' := r2) (by rw [← h2])
      obtain ⟨h4, h5, h6⟩ := items_some k r2 (l := (itemsL k (some r2)).1) (r' := r') (by rw [← h.2])
      rw [← h.1]
      refine ⟨by rw [List.length_cons, h4], ?_, fun x hx => ?_⟩
      · rw [List.map_cons, List.flatten_cons, List.append_assoc, ← h5]
        exact h3.1
      · rcases List.mem_cons.1 hx with hx | hx
        · rw [hx]; exact h3.2
        · exact h6 x hx
theorem nums_some {r r' : List UInt8} {l : List Int} (h : numsS (some r) = (l, some r')) : r = numsB l ++ r' ∧ ∀ x, x ∈ l → I64 x := by
  unfold numsS at h
  dsimp only at h
  cases h1 : (numS (some r) 91 0).2 with
  | none =>
    rw [h1, itemsL_none] at h
    simp [closeS] at h
  | some r1 =>
    obtain ⟨r0, e, h3, _⟩ := numS_len h1
    cases e
    rw [h1] at h
    cases h4 : (itemsL (numS (some r) 91 0).1.toNat (some r1)).2 with
    | none => rw [h4] at h; simp [closeS] at h
    | some r2 =>
      rw [h4] at h
      obtain ⟨h5, h6, h7⟩ := items_some _ r1 (l := (itemsL (numS (some r) 91 0).1.toNat (some r1)).1) (r' := r2) (by rw [← h4])
      cases r2 with
      | nil => simp [closeS] at h
      | cons c r2 =>
        by_cases hc : c = 93
        · rw [show closeS (some (c :: r2)) 93 = some r2 from if_pos hc] at h
          simp only [Option.isNone_some, Bool.false_eq_true, if_false, Prod.mk.injEq, Option.some.injEq] at h
          obtain ⟨g1, g2⟩ := h
          rw [← g1]
          refine ⟨?_, h7⟩
          have h8 := (numP_some h3).1
          have h9 := (numP_some h3).2.1
          generalize (numS (some r) 91 0).1 = n at *
          generalize (itemsL n.toNat (some r1)).1 = L at *
          rw [h8, h6, hc, g2]
          unfold numsB accB
          rw [List.take_length, h5, Int.toNat_of_nonneg h9]
          simp
        · rw [show closeS (some (c :: r2)) 93 = none from if_neg hc] at h
          simp at h
theorem numsS_none : numsS none = ([], none) := by
  unfold numsS
  rw [numS_none]
  simp [itemsL, closeS]
theorem nums_cases (s : St) : (numsS s).1 = [] ∨ ∃ r r', s = some r ∧ numsS (some r) = ((numsS s).1, some r') := by
  cases s with
  | none => rw [numsS_none]; exact .inl rfl
  | some r =>
    cases h : (numsS (some r)).2 with
    | none =>
      left
      unfold numsS at h ⊢
      dsimp only at h ⊢
      split
      · rfl
      · rename_i hn
        rw [if_neg hn] at h
        dsimp only at h
        rw [h] at hn
        exact absurd rfl hn
    | some r' => exact .inr ⟨r, r', rfl, by rw [← h]⟩
theorem own_ask {m : Tb} {o : Int} {l : List Int} (h : askE m o l = 0) (n : Int) : own (askT m o l) n = if n ∈ l then o else own m n := by rw [own_askT, if_pos h]
structure Ent1 (m m1 : Tb) (o : Int) (q : List Int) : Prop where
  ows : owsL m1 = owsL m ++ [o]
  of : ofL m1 o = q
  old : ∀ o', o' ∈ owsL m → ofL m1 o' = ofL m o'
theorem ows_iff {m : Tb} (h : Ok m) {o : Int} : o ∈ owsL m ↔ 0 ≤ o ∧ ∃ n, own m n = o := by
  rw [mem_owsL]
  constructor
  · rintro ⟨n, hn⟩
    have := h.mem.1 hn
    exact ⟨this.2, n, this.1⟩
  · rintro ⟨h0, n, hn⟩
    exact ⟨n, h.mem.2 ⟨hn, h0⟩⟩
theorem ent1 {m : Tb} (h : Ok m) {o last : Int} {q : List Int} (hl : -1 ≤ last) (ho : last < o) (hlast : ∀ o', o' ∈ owsL m → o' ≤ last) (hq : q ≠ []) (hA : Asc q) (hask : askE m o q = 0) (hi : o ≤ 9223372036854775807) : Ent1 m (askT m o q) o q := by
  obtain ⟨h0, hin, hfr⟩ := ask_0.1 hask
  have hk := Ok.askT h (o := o) (l := q) hi
  have hoo := own_ask hask
  have hno : ∀ n, own m n ≠ o := fun n e => by
    have := hlast o ((ows_iff h).2 ⟨h0, n, e⟩)
    omega
  have hneg : ∀ n, n ∈ q → own m n < 0 := fun n hn => by
    rcases hfr n hn with h1 | h1
    · exact h1
    · exact absurd h1 (hno n)
  refine ⟨?_, ?_, fun o' ho' => ?_⟩
  · refine asc_eq (nd_asc (nd_dd _)) (List.pairwise_append.2 ⟨nd_asc (nd_dd _), List.pairwise_singleton _ _, fun x hx y hy => ?_⟩) fun x => ?_
    · rw [List.mem_singleton] at hy
      have := hlast x hx
      omega
    · show x ∈ owsL (askT m o q) ↔ x ∈ owsL m ++ [o]
      rw [ows_iff hk, List.mem_append, List.mem_singleton, ows_iff h]
      constructor
      · rintro ⟨hx, n, hn⟩
        rw [hoo] at hn
        by_cases hm : n ∈ q
        · rw [if_pos hm] at hn; exact .inr hn.symm
        · rw [if_neg hm] at hn; exact .inl ⟨hx, n, hn⟩
      · rintro (⟨hx, n, hn⟩ | hx)
        · refine ⟨hx, n, ?_⟩
          rw [hoo, if_neg (fun hm => by have := hneg n hm; omega)]
          exact hn
        · obtain ⟨n, q', rfl⟩ := List.exists_cons_of_ne_nil hq
          exact ⟨by omega, n, by rw [hoo, if_pos List.mem_cons_self]; exact hx.symm⟩
  · refine asc_eq (nd_asc (nd_outL hk List.nodup_range fun i hi => List.mem_range.1 hi)) hA fun n => ?_
    show n ∈ ofL (askT m o q) o ↔ _
    rw [of_iff hk h0, hoo]
    by_cases hm : n ∈ q
    · simp [hm]
    · simp [hm, hno n]
  · have h0' := ((ows_iff h).1 ho').1
    refine asc_eq (nd_asc (nd_outL hk List.nodup_range fun i hi => List.mem_range.1 hi)) (nd_asc (nd_outL h List.nodup_range fun i hi => List.mem_range.1 hi)) fun n => ?_
    show n ∈ ofL (askT m o q) o' ↔ n ∈ ofL m o'
    rw [of_iff hk h0', of_iff h h0', hoo]
    by_cases hm : n ∈ q
    · rw [if_pos hm]
      have h1 := hlast o' ho'
      have h2 := hneg n hm
      constructor <;> intro h3 <;> omega
    · rw [if_neg hm]
theorem readQL_some : ∀ (k : Nat) (s : St) (m : Tb) (w : List Int) (last : Int) {m' : Tb} {w' : List Int}, Ok m → Rep w m → (∀ o, o ∈ owsL m → o ≤ last) → -1 ≤ last → readQL k s m w last = some (some [], m', w') →
    Ok m' ∧ Rep w' m' ∧ ∃ E : List Int, owsL m' = owsL m ++ E ∧ (∀ o, o ∈ owsL m → entB m' o = entB m o) ∧ s = some ((E.map (entB m')).flatten)
  | 0, s, m, w, last, m', w', h, r, _, _, e => by
    simp only [readQL, Option.some.injEq, Prod.mk.injEq] at e
    obtain ⟨rfl, rfl, rfl⟩ := e
    exact ⟨h, r, [], by simp, fun _ _ => rfl, rfl⟩
  | k + 1, s, m, w, last, m', w', h, r, hl, hm1, e => by
    unfold readQL at e
    split at e
    · simp only [Option.some.injEq, Prod.mk.injEq] at e
      obtain ⟨rfl, rfl, rfl⟩ := e
      exact ⟨h, r, [], by simp, fun _ _ => rfl, rfl⟩
    · rename_i hlen
      split at e
      · cases e
      · rename_i hc
        simp only [not_or, Classical.not_not] at hc
        obtain ⟨c1, c2, c3, c4⟩ := hc
        have hi := (numS_I64 s 59 (-9223372036854775808)).2
        change (intS s).1 ≤ _ at hi
        rcases nums_cases (intS s).2 with h5 | ⟨r2, r3, h5, h6⟩
        · exact absurd h5 c2
        · cases s with
          | none => exact absurd rfl hlen
          | some r0 =>
            obtain ⟨g1, g2⟩ := int_some (r := r0) (r' := r2) (o := (intS (some r0)).1) (by rw [← h5])
            rw [h5] at h6 c2 c3 c4 e
            obtain ⟨g3, g4⟩ := nums_some h6
            have h7 : (numsS (some r2)).2 = some r3 := by rw [h6]
            rw [h7] at e
            generalize (intS (some r0)).1 = o at *
            generalize (numsS (some r2)).1 = q at *
            have en := ent1 h hm1 (by omega) hl c2 c3 c4 hi
            have hk := Ok.askT h (o := o) (l := q) hi
            have r' := r.ask o q
            obtain ⟨a1, a2, E, a3, a4, a5⟩ := readQL_some k (some r3) (askT m o q) (askW w m o q) o hk r' (fun o' ho' => by
              rw [en.ows, List.mem_append, List.mem_singleton] at ho'
              rcases ho' with ho' | ho'
              · have := hl o' ho'; omega
              · omega) (by omega) e
            refine ⟨a1, a2, o :: E, by rw [a3, en.ows, List.append_assoc, List.singleton_append], fun o' ho' => ?_, ?_⟩
            · rw [a4 o' (by rw [en.ows]; exact List.mem_append.2 (.inl ho'))]
              unfold entB
              rw [en.old o' ho']
            · have e1 : entB m' o = intB o ++ numsB q := by
                rw [a4 o (by rw [en.ows]; exact List.mem_append.2 (.inr (by simp)))]
                unfold entB
                rw [en.of]
              rw [List.map_cons, List.flatten_cons, e1, List.append_assoc]
              congr 1
              rw [g1, g3]
              congr 1
              congr 1
              exact Option.some.inj a5
theorem owsL_nil : owsL [] = [] := by
  rw [List.eq_nil_iff_forall_not_mem]
  intro o ho
  obtain ⟨n, hn⟩ := mem_owsL.1 ho
  cases hn
theorem readQ_some {l : List UInt8} {m : Tb} {w : List Int} (h : readQ l = some (m, w)) : Ok m ∧ Rep w m ∧ bytesB m = l := by
  unfold readQ at h
  cases hr : readQL (numS (some l) 59 0).1.toNat (numS (some l) 59 0).2 [] (repI 8192) (-1) with
  | none => rw [hr] at h; cases h
  | some p =>
    obtain ⟨s, m1, w1⟩ := p
    rw [hr] at h
    unfold readQE at h
    dsimp only at h
    split at h
    · rename_i hc
      cases h
      obtain ⟨rfl, hc⟩ := hc
      obtain ⟨a1, a2, E, a3, _, a5⟩ := readQL_some _ _ _ _ _ Ok.nil rep_new (fun o ho => by rw [owsL_nil] at ho; cases ho) (by decide) hr
      refine ⟨a1, a2, ?_⟩
      rw [owsL_nil, List.nil_append] at a3
      obtain ⟨r0, e, h3, _⟩ := numS_len a5
      cases e
      have h4 := (numP_some h3).1
      rw [h4, ← hc]
      unfold bytesB accO intB
      rw [List.take_length, a3]
      simp
    · cases h
theorem readQL_mk {m : Tb} (h : Ok m) : ∀ (L : List Int) (m0 : Tb) (w0 : List Int) (last : Int), Ok m0 → Asc L → (∀ o, o ∈ L → last < o) → (∀ o, o ∈ L → o ∈ owsL m) → (∀ o, o ∈ L → ∀ n, n ∈ ofL m o → own m0 n < 0) →
    ∃ m1 w1, readQL L.length (some ((L.map (entB m)).flatten)) m0 w0 last = some (some [], m1, w1) ∧ Ok m1 ∧ ∀ n, own m1 n = if own m n ∈ L then own m n else own m0 n
  | [], m0, w0, last, h0, _, _, _, _ => ⟨m0, w0, rfl, h0, fun n => by simp⟩
  | o :: L, m0, w0, last, h0, hA, hlt, hin, hfr => by
    have ho := owsL_rng h (hin o List.mem_cons_self)
    have hof : ∀ n, n ∈ ofL m o ↔ own m n = o := fun n => of_iff h ho.1
    have hask : askE m0 o (ofL m o) = 0 := ask_0.2 ⟨ho.1, fun n hn => h.slot (by rw [(hof n).1 hn]; exact ho.1), fun n hn => .inl (hfr o List.mem_cons_self n hn)⟩
    have hne : ofL m o ≠ [] := fun q => by
      obtain ⟨_, n, hn⟩ := (ows_iff h).1 (hin o List.mem_cons_self)
      have := (hof n).2 hn
      rw [q] at this
      cases this
    have hasc : Asc (ofL m o) := nd_asc (nd_outL h List.nodup_range fun i hi => List.mem_range.1 hi)
    rw [Asc, List.pairwise_cons] at hA
    obtain ⟨m1, w1, h1, h2, h3⟩ := readQL_mk h L (askT m0 o (ofL m o)) (askW w0 m0 o (ofL m o)) o (Ok.askT h0 ho.2) hA.2 (fun o' h' => hA.1 o' h') (fun o' h' => hin o' (List.mem_cons_of_mem _ h')) (fun o' h' n hn => by
      have ho' := owsL_rng h (hin o' (List.mem_cons_of_mem _ h'))
      rw [own_askT, if_pos hask, if_neg (fun q => ?_)]
      · exact hfr o' (List.mem_cons_of_mem _ h') n hn
      · have e1 := (hof n).1 q
        have e2 := (of_iff h ho'.1).1 hn
        have := hA.1 o' h'
        omega)
    refine ⟨m1, w1, ?_, h2, fun n => ?_⟩
    · rw [List.map_cons, List.flatten_cons, List.length_cons]
      have hi : intS (some (entB m o ++ (L.map (entB m)).flatten)) = (o, some (numsB (ofL m o) ++ (L.map (entB m)).flatten)) := by
        unfold entB
        rw [List.append_assoc]
        exact int_read ⟨by omega, ho.2⟩ _
      have hn : numsS (some (numsB (ofL m o) ++ (L.map (entB m)).flatten)) = (ofL m o, some (L.map (entB m)).flatten) := nums_read (fun x hx => ofL_I64 h hx) (by have := ofL_len (m := m) (o := o); have := h.len; omega) _
      have hp := ent_ne m o (L.map (entB m)).flatten
      have hlo := hlt o List.mem_cons_self
      show (if (entB m o ++ (L.map (entB m)).flatten).length = 0 then some (some (entB m o ++ (L.map (entB m)).flatten), m0, w0) else _) = _
      rw [if_neg (by omega), hi]
      dsimp only
      rw [hn]
      dsimp only
      rw [if_neg (by rintro (q | q | q | q)
                     · omega
                     · exact hne q
                     · exact q hasc
                     · exact q hask)]
      exact h1
    · rw [h3, own_askT, if_pos hask]
      simp only [List.mem_cons, hof]
      by_cases e : own m n = o
      · by_cases e2 : o ∈ L
        · simp [e]
        · simp [e, e2]
      · simp [e]
theorem readQ_mk {l : List UInt8} {m : Tb} (h : readT l = some m) : ∃ p, readQ l = some p := by
  obtain ⟨k, rfl⟩ := readT_some h
  have h0 := k
  obtain ⟨m1, w1, h1, h2, h3⟩ := readQL_mk k (owsL m) [] (repI 8192) (-1) Ok.nil (nd_asc (nd_dd _)) (fun o ho => by have := (owsL_rng k ho).1; omega) (fun _ h => h) (fun _ _ n _ => by rw [kk_nil_own]; decide)
  have hown : ∀ n, own m1 n = own m n := fun n => by
    rw [h3, kk_nil_own]
    split
    · rfl
    · rename_i hn
      have hg := k.ge n
      by_cases h0 : 0 ≤ own m n
      · exact absurd ((ows_iff k).2 ⟨h0, n, rfl⟩) hn
      · omega
  have hl : (owsL m).length ≤ 8192 := by have := owsL_len m; have := k.len; omega
  have e : bytesB m = intB (owsL m).length ++ ((owsL m).map (entB m)).flatten := by
    unfold bytesB accO
    rw [List.take_length]
  have hn : numS (some (bytesB m)) 59 0 = (((owsL m).length : Int), some ((owsL m).map (entB m)).flatten) := by
    rw [e]
    exact num_read ⟨by omega, by omega⟩ (by omega) _
  refine ⟨(m1, w1), ?_⟩
  unfold readQ
  rw [hn]
  dsimp only
  rw [Int.toNat_natCast, h1]
  exact if_pos ⟨rfl, by rw [owsL_own h2 k hown]⟩
end Go.Proofs.YtgnnbmgljadokaaGreatDoor
