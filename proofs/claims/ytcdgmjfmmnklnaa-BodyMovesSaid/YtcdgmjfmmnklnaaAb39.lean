/-
  A logic of values for the walk, texts 37, 38, 39.
-/
import Derived.Test.YtcdgmjfmmnklnaaAb28

/-! A logic of values for the walk: a loop over an iterator, whose rounds call an outer yield. -/
namespace Go.Ab
open Go
set_option linter.unusedVariables false
set_option linter.unusedSimpArgs false
set_option maxHeartbeats 1000000

section
variable {cA : Ctx} {l : Nat} {rec0 : Loop} {E : Env} {HA : Nat → Hp} {GO : Nat → Nat × Bool} {J : JT} {A : Nat → Prop} {Q : Nat × Bool → Exit → Env → Hp → Prop}
theorem JS1.later {g : Nat × Bool} {c c' : Ctx} {ρ ρ' : Pl} {S S' W N N' : Nat → Prop} {h h' : Hp} {w w' : World} (hJ : JOk J) (j : JS1 J A g c ρ S h w W N) (x : Ext (fun b => ¬ N' b) w w') (hN : ∀ b, N b → N' b)
    (hl : ∀ (k : Nat) x p, h'[k]? = some x → x ≠ .gone → ρ' k = some p → ¬ N p.1) (hst : ∀ b, S' b → ¬ W b) (hc : ∀ b, S' b → c'.lo ≤ b → N b → isData w b) (hwm : ∀ b, W b → c'.M b) (haS : ∀ b, S' b → A b) (haM : ∀ b, c'.M b → A b) (hnn : ∀ b, N b → c'.nb b ∨ c'.S0 b ∨ c'.M b) : JS1 J A g c' ρ' S' h' w' W N := by
  refine ⟨hJ.st j.j (x.mono fun b _ hb h => hb (hN b h)), hl, hst, fun b hb h1 h2 => ?_, hwm, haS, haM, hnn⟩
  obtain ⟨cc, e, h4⟩ := hc b hb h1 h2
  exact ⟨cc, e, by rw [x.same b (hJ.lt j.j b h2) (fun h => h (hN b h2))]; exact h4⟩
end

end Go.Ab

/-! A logic of values for the walk: a region that draws its order, and calls yield behind what may come in any order. -/
namespace Go.Ab
open Go
set_option linter.unusedVariables false
set_option linter.unusedSimpArgs false
set_option maxHeartbeats 1000000

def chkTail (l : List Oper) (pres : List (List Nat)) (k : Nat) : Bool :=
  okDraw l.toArray pres && Nat.ble k l.length && (List.range l.length).all fun i => match Nat.blt i k with
    | true => match l[i]? with
      | some o => match o.guard with
        | some (j, _) => Nat.blt j k
        | none => true
      | none => true
    | false => (List.range i).all fun j => (pres.getD i []).any (Nat.beq j)
section
variable {P : Program} {r : Option Nat} {Q Q1 : Exit → Act → World → Prop} {l : List Oper} {pres : List (List Nat)} {k : Nat}
theorem chkTail_ok (h : chkTail l pres k = true) : okDraw l.toArray pres = true ∧ k ≤ l.length ∧ (∀ i, i < k → ∀ o j b, l[i]? = some o → o.guard = some (j, b) → j < k) ∧ ∀ i, k ≤ i → i < l.length → ∀ j, j < i → j ∈ pres.getD i [] := by
  unfold chkTail at h
  simp only [Bool.and_eq_true] at h
  obtain ⟨⟨h1, h2⟩, h3⟩ := h
  have h2 := Nat.le_of_ble_eq_true h2
  rw [List.all_eq_true] at h3
  refine ⟨h1, h2, fun i hi o j b ho hg => ?_, fun i hi hl j hj => ?_⟩
  · have := h3 i (List.mem_range.2 (by omega))
    rw [show Nat.blt i k = true from Nat.ble_eq_true_of_le hi] at this
    simp only [ho, hg] at this
    exact Nat.le_of_ble_eq_true this
  · have := h3 i (List.mem_range.2 hl)
    have hb : Nat.blt i k = false := by
      rw [← Bool.not_eq_true]; intro hb; have := Nat.le_of_ble_eq_true hb; omega
    rw [hb] at this
    simp only [List.all_eq_true] at this
    have := this j (List.mem_range.2 hj)
    rw [List.any_eq_true] at this
    obtain ⟨x, hx, hxe⟩ := this
    rw [Nat.eq_of_beq_eq_true hxe]; exact hx
theorem pre_listed (hok : okDraw l.toArray pres = true) {listed : Array Bool} (hcl : ∀ (i : Nat) o, l.toArray[i]? = some o → listed.getD i false = true → ∀ e, e ∈ o.after → Region.binds .any e = true → listed.getD e.on false = true) :
    ∀ (i : Nat) o, l.toArray[i]? = some o → (∀ e, e ∈ o.after → Region.binds .any e = true → listed.getD e.on false = true) → ∀ j, j ∈ pres.getD i [] → listed.getD j false = true := by
  intro i
  induction i using Nat.strongRecOn with
  | _ i ih =>
    intro o ho hall j hj
    have hlt : i < l.toArray.size := (Array.getElem?_eq_some_iff.1 ho).1
    have h := List.all_eq_true.1 hok i (by simpa using hlt)
    rw [ho] at h
    simp only [Bool.and_eq_true] at h
    have h2 := h.2
    cases hp : pres[i]? with
    | none => rw [List.getD_eq_getElem?_getD, hp] at hj; simp at hj
    | some pre =>
      rw [List.getD_eq_getElem?_getD, hp] at hj
      rw [hp] at h2
      simp only [List.all_eq_true, Bool.and_eq_true, decide_eq_true_eq] at h2
      obtain ⟨h3, h4⟩ := h2 j hj
      rw [List.any_eq_true] at h4
      obtain ⟨e, he, h5⟩ := h4
      rw [Bool.and_eq_true, Bool.or_eq_true] at h5
      obtain ⟨hb, h6⟩ := h5
      have he' : e ∈ o.after := by simpa using he
      have hel := hall e he' hb
      rcases h6 with h6 | h6
      · rw [← Nat.eq_of_beq_eq_true h6]; exact hel
      · rw [List.any_eq_true] at h6
        obtain ⟨x, hx, hxe⟩ := h6
        rw [Nat.eq_of_beq_eq_true hxe]
        have hei := okDraw_lt hok ho e he' hb
        exact ih e.on hei _ (Array.getElem?_eq_getElem (by omega)) (fun e2 he2 hb2 => hcl e.on _ (Array.getElem?_eq_getElem (by omega)) hel e2 he2 hb2) x hx
theorem tail_in (hc : chkTail l pres k = true) : ∀ (m k' fuel : Nat) (listed : Array Bool) (a : Act) (w : World), k' + m = l.length → k ≤ k' → m ≤ fuel → listed.size = l.length → (∀ j, j < l.length → listed.getD j false = decide (j < k')) →
    wpListIn (rd r) 0 P l.toArray Q (l.drop k') a w → wpAnyIn (rd r) 0 P .any l.toArray Q fuel listed a w := by
  obtain ⟨hok, hkl, _, hpre⟩ := chkTail_ok hc
  intro m
  induction m with
  | zero =>
    intro k' fuel listed a w hk hkk hf hsz hl h
    rw [List.drop_of_length_le (by omega)] at h
    have hre : Region.ready .any l.toArray listed = [] := by
      rw [List.eq_nil_iff_forall_not_mem]
      intro i hi
      obtain ⟨h1, o, ho, _⟩ := mem_ready.1 hi
      have hil : i < l.length := by have := (Array.getElem?_eq_some_iff.1 ho).1; simpa using this
      have e : listed.getD i true = listed.getD i false := by simp [Array.getD, hsz, hil]
      rw [e, hl i hil] at h1
      have : ¬ i < k' := by simpa using h1
      omega
    cases fuel with
    | zero => exact ⟨hre, h⟩
    | succ f => exact ⟨fun _ => h, fun i hi => by rw [hre] at hi; cases hi⟩
  | succ m ih =>
    intro k' fuel listed a w hk hkk hf hsz hl h
    obtain ⟨f, rfl⟩ : ∃ f, fuel = f + 1 := ⟨fuel - 1, by omega⟩
    have hlt : k' < l.length := by omega
    have ho : l.toArray[k']? = some l[k'] := by simp [List.getElem?_eq_getElem hlt]
    have hin : k' ∈ Region.ready .any l.toArray listed := mem_ready.2 ⟨by
      have e : listed.getD k' true = listed.getD k' false := by simp [Array.getD, hsz, hlt]
      rw [e, hl k' hlt]; simp, l[k'], ho, fun e he hb => by
      have := okDraw_lt hok ho e he hb
      rw [hl e.on (by omega)]; simpa using this⟩
    refine ⟨(fun hr => by rw [hr] at hin; cases hin), fun i hi => ?_⟩
    obtain ⟨h1, o, hoi, hall⟩ := mem_ready.1 hi
    have hil : i < l.length := by have := (Array.getElem?_eq_some_iff.1 hoi).1; simpa using this
    have hcl : ∀ (i : Nat) o, l.toArray[i]? = some o → listed.getD i false = true → ∀ e, e ∈ o.after → Region.binds .any e = true → listed.getD e.on false = true := fun i o ho hi e he hb => by
      have hil : i < l.length := by have := (Array.getElem?_eq_some_iff.1 ho).1; simpa using this
      have := okDraw_lt hok ho e he hb
      rw [hl i hil] at hi
      have : i < k' := by simpa using hi
      rw [hl e.on (by omega)]; simp; omega
    have hik : i = k' := by
      have e : listed.getD i true = listed.getD i false := by simp [Array.getD, hsz, hil]
      rw [e, hl i hil] at h1
      have h2 : ¬ i < k' := by simpa using h1
      rcases Nat.lt_or_ge k' i with h3 | h3
      · have := pre_listed hok hcl i o hoi hall k' (hpre i (by omega) hil k' h3)
        rw [hl k' hlt] at this
        simp at this
      · omega
    subst hik
    rw [List.drop_eq_getElem_cons hlt] at h
    unfold wpListIn at h
    unfold wpOpIn
    rw [ho]
    have nx : ∀ a w, wpListIn (rd r) 0 P l.toArray Q (l.drop (i + 1)) a w → wpAnyIn (rd r) 0 P .any l.toArray Q f (listed.setIfInBounds i true) a w := fun a w h' =>
      ih (i + 1) f _ a w (by omega) (by omega) (by omega) (by simpa using hsz) (fun j hj => by
        by_cases hij : i = j
        · subst hij
          simp [Array.getD, hsz, hlt]
        · rw [getD_set_ne false hij, hl j hj]
          simp; omega) h'
    simp only
    split at h
    · rename_i hw
      rw [if_pos hw]
      exact Oper.wpIn_mono nx h
    · rename_i hw
      rw [if_neg hw]
      exact ⟨h.1, nx _ _ h.2⟩
theorem any_split_in (hc : chkTail l pres k = true) (hnd : noDef (l.take k) = true) (hq1 : ∀ e a w, Q1 e a w → e = .normal) (hrest : ∀ a w, Q1 .normal a w → wpListIn (rd r) 0 P l.toArray Q (l.drop k) a w) :
    ∀ (fuel' fuel : Nat) (listed listedf : Array Bool) (U : List Nat) (a : Act) (w : World), listed.size = l.length → listedf.size = k → (∀ j, j < k → listed.getD j false = listedf.getD j false) → (∀ j, k ≤ j → listed.getD j false = false) →
      (∀ (i : Nat) o, l.toArray[i]? = some o → listed.getD i false = true → ∀ e, e ∈ o.after → Region.binds .any e = true → listed.getD e.on false = true) →
      (∀ j, j < k → listed.getD j false = false → j ∈ U) → U.length ≤ fuel' → fuel' + (l.length - k) ≤ fuel →
      wpAny P .any (l.take k).toArray Q1 fuel' listedf a w → wpAnyIn (rd r) 0 P .any l.toArray Q fuel listed a w := by
  obtain ⟨hok, hkl, hgd, hpre⟩ := chkTail_ok hc
  have hlk : (l.take k).toArray.size = k := by simp; omega
  have done : ∀ (fuel : Nat) (listed : Array Bool) (a : Act) (w : World), listed.size = l.length → (∀ j, k ≤ j → listed.getD j false = false) → (∀ j, j < k → listed.getD j false = true) → l.length - k ≤ fuel → Q1 .normal a w → wpAnyIn (rd r) 0 P .any l.toArray Q fuel listed a w := fun fuel listed a w hsz ht hf hfu hq =>
    tail_in hc (l.length - k) k fuel listed a w (by omega) (Nat.le_refl _) hfu hsz (fun j hj => by
      by_cases h : j < k
      · rw [hf j h]; simp [h]
      · rw [ht j (by omega)]; simp [h]) (hrest a w hq)
  intro fuel'
  induction fuel' with
  | zero =>
    intro fuel listed listedf U a w hsz hszf hlf ht hcl hU hUl hfu h
    have hU0 : U = [] := List.eq_nil_of_length_eq_zero (by omega)
    subst hU0
    exact done fuel listed a w hsz ht (fun j hj => by
      cases hb : listed.getD j false with
      | true => rfl
      | false => exact absurd (hU j hj hb) (by simp)) (by omega) h.2
  | succ fuel' ih =>
    intro fuel listed listedf U a w hsz hszf hlf ht hcl hU hUl hfu h
    by_cases hfl : ∀ j, j < k → listed.getD j false = true
    · refine done fuel listed a w hsz ht hfl (by omega) (h.1 ?_)
      rw [List.eq_nil_iff_forall_not_mem]
      intro i hi
      obtain ⟨h1, o, ho, _⟩ := mem_ready.1 hi
      have hil : i < k := by have := (Array.getElem?_eq_some_iff.1 ho).1; omega
      have e : listedf.getD i true = listedf.getD i false := by simp [Array.getD, hszf, hil]
      rw [e, ← hlf i hil, hfl i hil] at h1
      cases h1
    · obtain ⟨j0, hj0, hjf⟩ : ∃ j, j < k ∧ listed.getD j false = false := by
        apply Classical.byContradiction
        intro hn
        apply hfl
        intro j hj
        cases hb : listed.getD j false with
        | true => rfl
        | false => exact absurd ⟨j, hj, hb⟩ hn
      obtain ⟨f, rfl⟩ : ∃ f, fuel = f + 1 := ⟨fuel - 1, by omega⟩
      have hex : Region.ready .any l.toArray listed ≠ [] := by
        have least : ∃ j, j < k ∧ listed.getD j false = false ∧ ∀ i, i < j → listed.getD i false = true := by
          have : ∀ b j, j ≤ b → j < k → listed.getD j false = false → ∃ j, j < k ∧ listed.getD j false = false ∧ ∀ i, i < j → listed.getD i false = true := by
            intro b
            induction b with
            | zero => exact fun j hj h5 h6 => ⟨j, h5, h6, fun k hk => by omega⟩
            | succ b ihb =>
              intro j hj h5 h6
              by_cases hk : ∃ k, k < j ∧ listed.getD k false = false
              · obtain ⟨k, hk1, hk2⟩ := hk
                exact ihb k (by omega) (by omega) hk2
              · refine ⟨j, h5, h6, fun k hk' => ?_⟩
                cases hb : listed.getD k false with
                | true => rfl
                | false => exact absurd ⟨k, hk', hb⟩ hk
          exact this j0 j0 (Nat.le_refl _) hj0 hjf
        obtain ⟨j, h5, h6, h7⟩ := least
        intro he
        have hlt : j < l.toArray.size := by simp; omega
        have : j ∈ Region.ready .any l.toArray listed := mem_ready.2 ⟨by
          have e : listed.getD j true = listed.getD j false := by simp only [Array.getD, hsz, show j < l.length by omega, dif_pos]
          rw [e, h6], _, Array.getElem?_eq_getElem hlt, fun e he hb => h7 _ (okDraw_lt hok (Array.getElem?_eq_getElem hlt) e he hb)⟩
        rw [he] at this; cases this
      refine ⟨fun h5 => absurd h5 hex, fun i hi => ?_⟩
      obtain ⟨h1, o, hoi, hall⟩ := mem_ready.1 hi
      have hil : i < l.length := by have := (Array.getElem?_eq_some_iff.1 hoi).1; simpa using this
      have hik : i < k := by
        apply Classical.byContradiction
        intro hge
        have := pre_listed hok hcl i o hoi hall j0 (hpre i (by omega) hil j0 (by omega))
        rw [hjf] at this; cases this
      have ei : listed.getD i true = listed.getD i false := by simp [Array.getD, hsz, hil]
      have eif : listedf.getD i true = listedf.getD i false := by simp [Array.getD, hszf, hik]
      have hil0 : listed.getD i false = false := by rw [← ei]; exact h1
      have hof : (l.take k).toArray[i]? = some o := by
        have : l[i]? = some o := by simpa using hoi
        simp [List.getElem?_take, hik, this]
      have hif : i ∈ Region.ready .any (l.take k).toArray listedf := mem_ready.2 ⟨by rw [eif, ← hlf i hik]; exact hil0, o, hof, fun e he hb => by
        have hlt := okDraw_lt hok hoi e he hb
        rw [← hlf e.on (by omega)]; exact hall e he hb⟩
      have hop := h.2 i hif
      unfold wpOp at hop
      unfold wpOpIn
      rw [hof] at hop
      rw [hoi]
      simp only at hop ⊢
      have hoi' : l[i]? = some o := by simpa using hoi
      have hwant : Region.wanted o (yielded (l.take k).toArray a.tmps) = Region.wanted o (yielded l.toArray a.tmps) := by
        unfold Region.wanted
        cases hg : o.guard with
        | none => rfl
        | some g =>
          obtain ⟨j, b⟩ := g
          have hj := hgd i hik o j b hoi' hg
          simp only
          unfold yielded
          have : (l.take k).toArray[j]? = l.toArray[j]? := by simp [List.getElem?_take, hj]
          rw [this]
      have nx : ∀ a w, wpAny P .any (l.take k).toArray Q1 fuel' (listedf.setIfInBounds i true) a w → wpAnyIn (rd r) 0 P .any l.toArray Q f (listed.setIfInBounds i true) a w := fun a' w' h' => by
        refine ih f _ _ (U.erase i) a' w' (by simpa using hsz) (by simpa using hszf) (fun j hj => ?_) (fun j hj => ?_) (fun i2 o2 ho2 hi2 e he hb => ?_) (fun j hj hjl => ?_) ?_ (by omega) h'
        · by_cases hij : i = j
          · subst hij; simp [Array.getD, hsz, hszf, hil, hik]
          · rw [getD_set_ne false hij, getD_set_ne false hij]; exact hlf j hj
        · rw [getD_set_ne false (by omega)]; exact ht j hj
        · by_cases hij : i = i2
          · subst hij
            rw [hoi] at ho2; cases ho2
            exact getD_set_true (hall e he hb)
          · rw [getD_set_ne false hij] at hi2
            exact getD_set_true (hcl i2 o2 ho2 hi2 e he hb)
        · by_cases hij : i = j
          · subst hij; simp [Array.getD, hsz, hil] at hjl
          · rw [getD_set_ne false hij] at hjl
            exact (List.mem_erase_of_ne (Ne.symm hij)).2 (hU j hj hjl)
        · have := List.length_erase_of_mem (hU i hik hil0)
          have hpos : 0 < U.length := List.length_pos_of_mem (hU i hik hil0)
          omega
      have hnd1 : noDef1 o = true := noDef_get hnd (i := i) (by simp [List.getElem?_take, hik, hoi'])
      split at hop
      · rename_i hw
        rw [if_pos (by rw [← hwant]; exact hw)]
        rcases hop with hop | ⟨_, a', w', hop⟩
        · exact op_monoQ (Q := Q1) hq1 (Oper.wpIn_mono nx (op_in hnd1 hop))
        · have := hq1 _ _ _ hop; cases this
      · rename_i hw
        rw [if_neg (by rw [← hwant]; exact hw)]
        exact ⟨fun _ _ => trivial, nx _ _ hop⟩
end

end Go.Ab

/-! A logic of values for the walk: a slice's literal is a block that holds just its elements, so what is appended to it goes into a new block; and a slice that nobody writes any more, in code that calls yield. -/
namespace Go.Ab
open Go
set_option linter.unusedVariables false
set_option linter.unusedSimpArgs false
set_option maxHeartbeats 1000000
section
variable {P : Program} {env : Env} {h : Hp} {d : Option Nat} {ty : TypeId} {pos : String} {af : Array Edge} {g : Option (Nat × Bool)}
end
end Go.Ab
