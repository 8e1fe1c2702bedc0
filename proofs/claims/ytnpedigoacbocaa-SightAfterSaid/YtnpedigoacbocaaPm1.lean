/-
  Layer 37, in plain terms: cycles.
-/
import Derived.Test.YtnpedigoacbocaaPm0
namespace Go.Pm
set_option linter.unusedVariables false
set_option linter.unusedSimpArgs false

/-! ### Cycles -/
abbrev bt (s : List Bool) (i : Nat) : Bool := s.getD i false
theorem bt_get {s : List Bool} {i : Nat} (h : i < s.length) : bt s i = s[i] := by
  rw [bt, List.getD_eq_getElem?_getD, List.getElem?_eq_getElem h]; rfl
theorem bt_set {s : List Bool} {i j : Nat} {v : Bool} (h : i < s.length) : bt (s.set i v) j = if i = j then v else bt s j := by
  rw [bt, List.getD_eq_getElem?_getD, List.getElem?_set]
  by_cases e : i = j
  · rw [if_pos e, if_pos e, if_pos h]; rfl
  · rw [if_neg e, if_neg e, bt, List.getD_eq_getElem?_getD]
theorem bt_rep {n i : Nat} : bt (List.replicate n false) i = false := by
  rw [bt, List.getD_eq_getElem?_getD, List.getElem?_replicate]
  split <;> rfl
/-- From place k on, until a place has been seen. -/
def cycF (p : List Nat) : Nat → List Bool → List Nat → Nat → List Bool × List Nat
  | 0, sn, c, _ => (sn, c)
  | f + 1, sn, c, k => if bt sn k then (sn, c) else cycF p f (sn.set k true) (c ++ [k]) (at' p k)
def cycS (p : List Nat) : Nat → List Bool × List (List Nat)
  | 0 => (List.replicate p.length false, [])
  | i + 1 => ((cycF p p.length (cycS p i).1 [] i).1, if 1 < (cycF p p.length (cycS p i).1 [] i).2.length then (cycS p i).2 ++ [(cycF p p.length (cycS p i).1 [] i).2] else (cycS p i).2)
def cycles (p : List Nat) : List (List Nat) := (cycS p p.length).2

structure CI (p : List Nat) (sn0 : List Bool) (i : Nat) (sn : List Bool) (c : List Nat) (k : Nat) : Prop where
  len : sn.length = p.length
  nd : c.Nodup
  lt : ∀ x, x ∈ c → x < p.length
  sn : ∀ x, x < p.length → (bt sn x = true ↔ bt sn0 x = true ∨ x ∈ c)
  new : ∀ x, x ∈ c → bt sn0 x = false
  z : c = [] → k = i
  hd : c ≠ [] → at' c 0 = i
  nx : c ≠ [] → k = at' p (at' c (c.length - 1))
  st : ∀ j, j + 1 < c.length → at' c (j + 1) = at' p (at' c j)
  k : k < p.length
theorem at_snoc {c : List Nat} {k j : Nat} : at' (c ++ [k]) j = if j < c.length then at' c j else if j = c.length then k else 0 := by
  rw [at', List.getD_eq_getElem?_getD]
  by_cases h : j < c.length
  · rw [if_pos h, List.getElem?_append_left h, at', List.getD_eq_getElem?_getD]
  · rw [if_neg h, List.getElem?_append_right (by omega)]
    by_cases h2 : j = c.length
    · rw [if_pos h2, h2]; simp
    · rw [if_neg h2]
      rw [List.getElem?_eq_none (by simp; omega)]; rfl
theorem CI.step {p : List Nat} (r : Rt p) {sn0 sn : List Bool} {i k : Nat} {c : List Nat} (h : CI p sn0 i sn c k) (hb : bt sn k = false) : CI p sn0 i (sn.set k true) (c ++ [k]) (at' p k) := by
  have hk := h.k
  have hkc : ¬ (bt sn0 k = true ∨ k ∈ c) := fun q => by rw [(h.sn k hk).2 q] at hb; cases hb
  refine ⟨by simp [h.len], ?_, fun x hx => ?_, fun x hx => ?_, fun x hx => ?_, fun e => by simp at e, fun _ => ?_, fun _ => ?_, fun j hj => ?_, r.ltAt hk⟩
  · rw [List.nodup_append]
    exact ⟨h.nd, by simp, fun a ha b hb e => by simp at hb; subst hb; subst e; exact hkc (.inr ha)⟩
  · rcases List.mem_append.1 hx with hx | hx
    · exact h.lt x hx
    · simp at hx; subst hx; exact hk
  · rw [bt_set (by rw [h.len]; exact hk)]
    by_cases e : k = x
    · subst e; simp
    · rw [if_neg e, h.sn x hx]
      simp [Ne.symm e]
  · rcases List.mem_append.1 hx with hx | hx
    · exact h.new x hx
    · simp at hx; subst hx
      rw [← Bool.not_eq_true]; exact fun q => hkc (.inl q)
  · rw [at_snoc]
    cases c with
    | nil => simp; exact h.z rfl
    | cons a c => simp; exact h.hd (by simp)
  · simp [at_snoc]
  · simp at hj
    rw [at_snoc, at_snoc, if_pos hj]
    by_cases e : j + 1 < c.length
    · rw [if_pos e]; exact h.st j e
    · rw [if_neg e, if_pos (by omega)]
      have := h.nx (by intro q; subst q; simp at hj)
      rw [this, show c.length - 1 = j by omega]
/-- A whole cycle. -/
structure Cyc (p : List Nat) (c : List Nat) : Prop where
  ne : c ≠ []
  nd : c.Nodup
  lt : ∀ x, x ∈ c → x < p.length
  st : ∀ j, j < c.length → at' p (at' c j) = at' c ((j + 1) % c.length)
theorem CI.fin {p : List Nat} (r : Rt p) {sn0 sn : List Bool} {i k : Nat} {c : List Nat} (h : CI p sn0 i sn c k) (hcl : ∀ x, x < p.length → bt sn0 (at' p x) = true → bt sn0 x = true) (hb : bt sn k = true) (hc : c ≠ []) : Cyc p c := by
  have hc0 : 0 < c.length := List.length_pos_iff.2 hc
  have hlast : at' c (c.length - 1) ∈ c := by rw [at_get (by omega)]; exact List.getElem_mem _
  have hki : k = at' c 0 := by
    have hnx := h.nx hc
    rcases (h.sn k h.k).1 hb with h1 | h1
    · rw [hnx] at h1
      have := hcl _ (h.lt _ hlast) h1
      rw [h.new _ hlast] at this; cases this
    · obtain ⟨j, hj, e⟩ := List.mem_iff_getElem.1 h1
      rw [← at_get hj] at e
      cases j with
      | zero => exact e.symm
      | succ j =>
        have h2 := h.st j hj
        rw [e, hnx] at h2
        have hjm : at' c j ∈ c := by rw [at_get (by omega)]; exact List.getElem_mem _
        have h3 := r.inj (h.lt _ hlast) (h.lt _ hjm) h2
        rw [at_get (by omega), at_get (by omega)] at h3
        have hp := List.pairwise_iff_getElem.1 h.nd
        exact absurd h3.symm (hp j (c.length - 1) (by omega) (by omega) (by omega))
  refine ⟨hc, h.nd, h.lt, fun j hj => ?_⟩
  by_cases e : j + 1 < c.length
  · rw [Nat.mod_eq_of_lt e, h.st j e]
  · have : j = c.length - 1 := by omega
    rw [show j + 1 = c.length by omega, Nat.mod_self, ← hki, h.nx hc, this]
theorem cycF_spec {p : List Nat} (r : Rt p) {sn0 : List Bool} {i : Nat} (hcl : ∀ x, x < p.length → bt sn0 (at' p x) = true → bt sn0 x = true) : ∀ (f : Nat) (sn : List Bool) (c : List Nat) (k : Nat), CI p sn0 i sn c k → p.length ≤ c.length + f → ∃ k', CI p sn0 i (cycF p f sn c k).1 (cycF p f sn c k).2 k' ∧ bt (cycF p f sn c k).1 k' = true
  | 0, sn, c, k, h, hf => by
    refine ⟨k, h, (h.sn k h.k).2 (.inr ?_)⟩
    apply Classical.byContradiction
    intro hk
    have h1 : (k :: c).Nodup := List.nodup_cons.2 ⟨hk, h.nd⟩
    have := h1.length_le_of_subset (l₂ := List.range p.length) (fun y hy => by
      rw [List.mem_range]
      rcases List.mem_cons.1 hy with rfl | hy
      · exact h.k
      · exact h.lt y hy)
    simp at this
    omega
  | f + 1, sn, c, k, h, hf => by
    unfold cycF
    cases hb : bt sn k
    · rw [if_neg (by simp)]
      exact cycF_spec r hcl f _ _ _ (h.step r hb) (by simp; omega)
    · rw [if_pos rfl]
      exact ⟨k, h, hb⟩
/-- What is known of the outer loop. -/
structure CO (p : List Nat) (i : Nat) (s : List Bool × List (List Nat)) : Prop where
  len : s.1.length = p.length
  cl : ∀ x, x < p.length → bt s.1 (at' p x) = true → bt s.1 x = true
  bel : ∀ j, j < i → bt s.1 j = true
  cyc : ∀ c, c ∈ s.2 → Cyc p c ∧ 2 ≤ c.length ∧ (∀ x, x ∈ c → at' c 0 ≤ x) ∧ at' c 0 < i
  asc : s.2.Pairwise fun c d => at' c 0 < at' d 0
  nd : s.2.flatten.Nodup
  sn : ∀ x, x < p.length → (bt s.1 x = true → x ∈ s.2.flatten ∨ at' p x = x)
  out : ∀ x, x ∈ s.2.flatten → bt s.1 x = true
theorem cycS_spec {p : List Nat} (r : Rt p) : ∀ i, i ≤ p.length → CO p i (cycS p i)
  | 0, _ => by
    refine ⟨by simp [cycS], fun x _ h => ?_, fun j h => absurd h (Nat.not_lt_zero _), fun c h => by simp [cycS] at h, by simp [cycS], by simp [cycS], fun x _ h => ?_, fun x h => by simp [cycS] at h⟩
    all_goals (simp only [cycS, bt_rep] at h; cases h)
  | i + 1, hi => by
    have ih := cycS_spec r i (by omega)
    have h0 : CI p (cycS p i).1 i (cycS p i).1 [] i := ⟨ih.len, List.nodup_nil, by simp, fun x _ => by simp, by simp, fun _ => rfl, by simp, by simp, by simp, by omega⟩
    obtain ⟨k', h1, h2⟩ := cycF_spec r ih.cl p.length _ _ _ h0 (by simp)
    have hempty : bt (cycS p i).1 i = true → cycF p p.length (cycS p i).1 [] i = ((cycS p i).1, []) := fun hb => by
      obtain ⟨m, hm⟩ : ∃ m, p.length = m + 1 := ⟨p.length - 1, by omega⟩
      rw [hm]; unfold cycF; rw [if_pos hb]
    have hne : bt (cycS p i).1 i = false → (cycF p p.length (cycS p i).1 [] i).2 ≠ [] := fun hb e => by
      have h3 := h1.z e
      have h4 := (h1.sn k' h1.k).1 h2
      rw [e, h3, hb] at h4
      simp at h4
    unfold cycS
    generalize hr : cycF p p.length (cycS p i).1 [] i = res at *
    obtain ⟨sn, c⟩ := res
    dsimp only at *
    generalize cycS p i = s at *
    by_cases hc : c = []
    · -- nothing new
      have hbi : bt s.1 i = true := by
        rw [← Bool.not_eq_false]; exact fun hb => hne hb hc
      have := hempty hbi
      rw [Prod.mk.injEq] at this
      obtain ⟨e1, e2⟩ := this
      subst e1 e2
      rw [if_neg (by simp)]
      exact ⟨ih.len, ih.cl, fun j hj => by by_cases e : j = i; subst e; exact hbi; exact ih.bel j (by omega), fun c hc => ⟨(ih.cyc c hc).1, (ih.cyc c hc).2.1, (ih.cyc c hc).2.2.1, by have := (ih.cyc c hc).2.2.2; omega⟩, ih.asc, ih.nd, ih.sn, ih.out⟩
    · have hcy := h1.fin r ih.cl h2 hc
      have hc0 : 0 < c.length := List.length_pos_iff.2 hc
      have hhd := h1.hd hc
      have hic : i ∈ c := by rw [← hhd, at_get hc0]; exact List.getElem_mem _
      have hcl : ∀ x, x < p.length → bt sn (at' p x) = true → bt sn x = true := fun x hx hb => by
        rcases (h1.sn _ (r.ltAt hx)).1 hb with h | h
        · exact (h1.sn x hx).2 (.inl (ih.cl x hx h))
        · refine (h1.sn x hx).2 (.inr ?_)
          obtain ⟨j, hj, e⟩ := List.mem_iff_getElem.1 h
          rw [← at_get hj] at e
          have hj' : (j + c.length - 1) % c.length < c.length := Nat.mod_lt _ hc0
          have h3 := hcy.st _ hj'
          have h4 : ((j + c.length - 1) % c.length + 1) % c.length = j := by
            rw [Nat.mod_add_mod, show j + c.length - 1 + 1 = j + c.length by omega, Nat.add_mod_right, Nat.mod_eq_of_lt hj]
          rw [h4, e] at h3
          have hm : at' c ((j + c.length - 1) % c.length) ∈ c := by rw [at_get hj']; exact List.getElem_mem _
          have := r.inj (hcy.lt _ hm) hx h3
          rw [← this]; exact hm
      have hbel : ∀ j, j < i + 1 → bt sn j = true := fun j hj => by
        refine (h1.sn j (by omega)).2 ?_
        by_cases e : j = i
        · subst e; exact .inr hic
        · exact .inl (ih.bel j (by omega))
      have hge : ∀ x, x ∈ c → at' c 0 ≤ x := fun x hx => by
        rw [hhd]
        apply Classical.byContradiction
        intro hlt
        have := ih.bel x (by omega)
        rw [h1.new x hx] at this; cases this
      by_cases h2c : 1 < c.length
      · rw [if_pos h2c]
        refine ⟨h1.len, hcl, hbel, fun d hd => ?_, ?_, ?_, fun x hx hb => ?_, fun x hx => ?_⟩
        · rcases List.mem_append.1 hd with hd | hd
          · exact ⟨(ih.cyc d hd).1, (ih.cyc d hd).2.1, (ih.cyc d hd).2.2.1, by have := (ih.cyc d hd).2.2.2; omega⟩
          · simp at hd; subst hd
            exact ⟨hcy, by omega, hge, by omega⟩
        · rw [List.pairwise_append]
          refine ⟨ih.asc, by simp, fun d hd e he => ?_⟩
          simp at he; subst he
          have := (ih.cyc d hd).2.2.2
          omega
        · rw [List.flatten_append, List.nodup_append]
          refine ⟨ih.nd, by simpa using hcy.nd, fun a ha b hb e => ?_⟩
          simp at hb; subst e
          have := ih.out a ha
          rw [h1.new a hb] at this; cases this
        · rcases (h1.sn x hx).1 hb with h | h
          · rcases ih.sn x hx h with h | h
            · left; rw [List.flatten_append]; exact List.mem_append_left _ h
            · exact .inr h
          · left; rw [List.flatten_append]; exact List.mem_append_right _ (by simpa using h)
        · rw [List.flatten_append] at hx
          rcases List.mem_append.1 hx with h | h
          · have hb := ih.out x h
            have hx : x < p.length := by
              rw [List.mem_flatten] at h
              obtain ⟨d, hd, hxd⟩ := h
              exact (ih.cyc d hd).1.lt x hxd
            exact (h1.sn x hx).2 (.inl hb)
          · have h : x ∈ c := by simpa using h
            exact (h1.sn x (h1.lt x h)).2 (.inr h)
      · rw [if_neg h2c]
        have hl1 : c.length = 1 := by omega
        have hfix : at' p i = i := by
          have := hcy.st 0 hc0
          rwa [hl1, show (0 + 1) % 1 = 0 from rfl, hhd] at this
        have hci : ∀ x, x ∈ c → x = i := fun x hx => by
          obtain ⟨j, hj, e⟩ := List.mem_iff_getElem.1 hx
          rw [← at_get hj] at e
          rw [← e, show j = 0 by omega, hhd]
        refine ⟨h1.len, hcl, hbel, fun d hd => ⟨(ih.cyc d hd).1, (ih.cyc d hd).2.1, (ih.cyc d hd).2.2.1, by have := (ih.cyc d hd).2.2.2; omega⟩, ih.asc, ih.nd, fun x hx hb => ?_, fun x hx => ?_⟩
        · rcases (h1.sn x hx).1 hb with h | h
          · exact ih.sn x hx h
          · rw [hci x h]; exact .inr hfix
        · have hb := ih.out x hx
          have hx : x < p.length := by
            rw [List.mem_flatten] at hx
            obtain ⟨d, hd, hxd⟩ := hx
            exact (ih.cyc d hd).1.lt x hxd
          exact (h1.sn x hx).2 (.inl hb)
theorem cycles_spec {p : List Nat} (r : Rt p) : CO p p.length (cycS p p.length) := cycS_spec r _ (Nat.le_refl _)

/-! ### Swapping along cycles -/
def chainK (x c : List Nat) : Nat → List Nat
  | 0 => x
  | k + 1 => swp (chainK x c k) (at' c k) (at' c (k + 1))
def chain (x c : List Nat) : List Nat := chainK x c (c.length - 1)
def chains (x : List Nat) : List (List Nat) → List Nat
  | [] => x
  | c :: l => chains (chain x c) l
theorem chainK_len (x c : List Nat) : ∀ k, (chainK x c k).length = x.length
  | 0 => rfl
  | k + 1 => by unfold chainK; rw [swp_len, chainK_len x c k]
theorem chain_len (x c : List Nat) : (chain x c).length = x.length := chainK_len _ _ _
theorem chains_snoc (c : List Nat) : ∀ (l : List (List Nat)) (x : List Nat), chains x (l ++ [c]) = chain (chains x l) c
  | [], _ => rfl
  | d :: l, x => by show chains _ _ = _; exact chains_snoc c l _
theorem nd_at {c : List Nat} (h : c.Nodup) {i j : Nat} (hi : i < c.length) (hj : j < c.length) (e : at' c i = at' c j) : i = j := by
  rw [at_get hi, at_get hj] at e
  have h := List.pairwise_iff_getElem.1 h
  rcases Nat.lt_trichotomy i j with h1 | h1 | h1
  · exact absurd e (h i j hi hj h1)
  · exact h1
  · exact absurd e.symm (h j i hj hi h1)
theorem chainK_at {x c : List Nat} (hn : c.Nodup) (hl : ∀ j, j < c.length → at' c j < x.length) : ∀ k, k < c.length →
    (∀ j, j < k → at' (chainK x c k) (at' c j) = at' x (at' c (j + 1))) ∧ at' (chainK x c k) (at' c k) = at' x (at' c 0) ∧ ∀ y, (∀ j, j ≤ k → at' c j ≠ y) → at' (chainK x c k) y = at' x y
  | 0, _ => ⟨fun j h => absurd h (Nat.not_lt_zero _), rfl, fun _ _ => rfl⟩
  | k + 1, hk => by
    obtain ⟨h1, h2, h3⟩ := chainK_at hn hl k (by omega)
    have ha : at' c k < (chainK x c k).length := by rw [chainK_len]; exact hl k (by omega)
    have hb : at' c (k + 1) < (chainK x c k).length := by rw [chainK_len]; exact hl (k + 1) hk
    have hne : ∀ {i j : Nat}, i < c.length → j < c.length → i ≠ j → at' c i ≠ at' c j := fun hi hj hij e => hij (nd_at hn hi hj e)
    unfold chainK
    refine ⟨fun j hj => ?_, ?_, fun y hy => ?_⟩
    · rw [swp_at ha hb, if_neg (hne hk (by omega) (by omega))]
      by_cases e : j = k
      · subst e
        rw [if_pos rfl]
        exact h3 _ fun i hi => hne (by omega) hk (by omega)
      · rw [if_neg (hne (by omega) (by omega) (by omega))]
        exact h1 j (by omega)
    · rw [swp_at ha hb, if_pos rfl]; exact h2
    · rw [swp_at ha hb, if_neg (hy _ (Nat.le_refl _)), if_neg (hy k (by omega))]
      exact h3 y fun j hj => hy j (by omega)
theorem chainK_sw {x0 x c : List Nat} {b : Bool} (h : Sw x0 b x) (hn : c.Nodup) (hl : ∀ j, j < c.length → at' c j < x.length) : ∀ k, k < c.length → Sw x0 (xor b (decide (k % 2 = 1))) (chainK x c k)
  | 0, _ => by
    show Sw x0 (xor b false) x
    rw [Bool.xor_false]; exact h
  | k + 1, hk => by
    have ih := chainK_sw h hn hl k (by omega)
    have hx := h.len
    have := Sw.swap ih (i := at' c k) (j := at' c (k + 1)) (by rw [← hx]; exact hl k (by omega)) (by rw [← hx]; exact hl _ hk) (fun e => by have := nd_at hn (by omega) hk e; omega)
    have e : (!(xor b (decide (k % 2 = 1)))) = xor b (decide ((k + 1) % 2 = 1)) := by
      rw [odd_add k 1]
      cases b <;> cases decide (k % 2 = 1) <;> rfl
    rw [← e]; exact this
def oddL : List (List Nat) → Bool
  | [] => false
  | c :: l => xor (decide (c.length % 2 = 0)) (oddL l)
theorem oddL_snoc (c : List Nat) : ∀ l, oddL (l ++ [c]) = xor (oddL l) (decide (c.length % 2 = 0))
  | [] => by simp [oddL]
  | d :: l => by
    show xor _ (oddL (l ++ [c])) = xor (xor _ (oddL l)) _
    rw [oddL_snoc c l, Bool.xor_assoc]
/-- The state of the swapping, when the first cycles are done. -/
theorem chains_at {p : List Nat} {n : Nat} (hpn : p.length = n) : ∀ (l done : List (List Nat)) (x : List Nat) (b : Bool), (∀ c, c ∈ l → Cyc p c) → (done ++ l).flatten.Nodup → x.length = n → Sw (List.range n) b x → (∀ y, y < n → at' x y = if y ∈ done.flatten then at' p y else y) →
    (∀ y, y < n → at' (chains x l) y = if y ∈ (done ++ l).flatten then at' p y else y) ∧ Sw (List.range n) (xor b (oddL l)) (chains x l)
  | [], done, x, b, _, _, _, hs, h => by
    refine ⟨by rw [List.append_nil]; exact h, ?_⟩
    show Sw _ (xor b false) x
    rw [Bool.xor_false]; exact hs
  | c :: l, done, x, b, hc, hnd, hxl, hs, h => by
    have hcc := hc c (by simp)
    have hc0 : 0 < c.length := List.length_pos_iff.2 hcc.ne
    have hcm : ∀ j, j < c.length → at' c j ∈ c := fun j hj => by rw [at_get hj]; exact List.getElem_mem _
    have hlt : ∀ j, j < c.length → at' c j < x.length := fun j hj => by rw [hxl, ← hpn]; exact hcc.lt _ (hcm j hj)
    have hdis : ∀ y, y ∈ c → y ∉ done.flatten := fun y hy hd => by
      rw [List.flatten_append, List.nodup_append] at hnd
      exact hnd.2.2 y hd y (by simp [hy]) rfl
    have hxc : ∀ j, j < c.length → at' x (at' c j) = at' c j := fun j hj => by
      rw [h _ (by rw [← hxl]; exact hlt j hj), if_neg (hdis _ (hcm j hj))]
    obtain ⟨h1, h2, h3⟩ := chainK_at hcc.nd hlt (c.length - 1) (by omega)
    have hsw := chainK_sw hs hcc.nd hlt (c.length - 1) (by omega)
    have hod : decide ((c.length - 1) % 2 = 1) = decide (c.length % 2 = 0) := by
      rw [decide_eq_decide]; omega
    rw [hod] at hsw
    have := chains_at hpn l (done ++ [c]) (chain x c) (xor b (decide (c.length % 2 = 0))) (fun d hd => hc d (by simp [hd])) (by simpa using hnd) (by rw [chain_len, hxl]) hsw (fun y hy => ?_)
    · refine ⟨by have h6 := this.1; rwa [List.append_assoc] at h6, ?_⟩
      have h5 := this.2
      rw [Bool.xor_assoc] at h5
      exact h5
    · show at' (chainK x c (c.length - 1)) y = _
      by_cases hyc : y ∈ c
      · rw [if_pos (by simp [hyc])]
        obtain ⟨j, hj, e⟩ := List.mem_iff_getElem.1 hyc
        rw [← at_get hj] at e
        subst e
        rw [hcc.st j hj]
        by_cases hj2 : j < c.length - 1
        · rw [h1 j hj2, Nat.mod_eq_of_lt (by omega), hxc _ (by omega)]
        · rw [show j = c.length - 1 by omega, h2, show c.length - 1 + 1 = c.length by omega, Nat.mod_self, hxc _ hc0]
      · rw [h3 y (fun j hj e => hyc (e ▸ hcm j (by omega))), h y hy]
        by_cases hyd : y ∈ done.flatten
        · rw [if_pos hyd, if_pos (by simp only [List.flatten_append, List.mem_append]; exact .inl hyd)]
        · rw [if_neg hyd, if_neg (by simp only [List.flatten_append, List.mem_append]; simp [hyd, hyc])]
theorem chains_all {p : List Nat} (r : Rt p) : chains (List.range p.length) (cycles p) = p ∧ Sw (List.range p.length) (oddL (cycles p)) p := by
  have hs := cycles_spec r
  have h := chains_at (p := p) rfl (cycles p) [] (List.range p.length) false (fun c hc => (hs.cyc c hc).1) hs.nd (by simp) .refl (fun y hy => by rw [at_range hy, if_neg (by simp)])
  have e : chains (List.range p.length) (cycles p) = p := by
    have hl : ∀ (l : List (List Nat)) (x : List Nat), (chains x l).length = x.length := by
      intro l
      induction l with
      | nil => exact fun _ => rfl
      | cons c l ih => exact fun x => by show (chains _ l).length = _; rw [ih, chain_len]
    refine ext_at (by rw [hl]; simp) fun i hi => ?_
    rw [hl, List.length_range] at hi
    rw [h.1 i hi]
    split
    · rfl
    · rename_i hn
      rcases hs.sn i hi (hs.bel i hi) with h5 | h5
      · exact absurd h5 hn
      · exact h5.symm
  refine ⟨e, ?_⟩
  have h2 := h.2
  rw [e] at h2
  simpa using h2
theorem odd_par {p : List Nat} (r : Rt p) : oddL (cycles p) = par p := by
  rw [(chains_all r).2.par (rt_range _), par_range]
  cases oddL (cycles p) <;> rfl
theorem odd_comp {p q : List Nat} (hp : Rt p) (hq : Rt q) (hl : p.length = q.length) : oddL (cycles (comp p q)) = xor (oddL (cycles p)) (oddL (cycles q)) := by
  rw [odd_par (comp_rt hp hq hl), odd_par hp, odd_par hq]
  exact par_comp hp hl (chains_all hq).2
theorem odd_swp {p : List Nat} (hp : Rt p) {a b : Nat} (ha : a < p.length) (hb : b < p.length) (hab : a ≠ b) : oddL (cycles (swp p a b)) = !oddL (cycles p) := by
  rw [odd_par (swp_rt hp ha hb), odd_par hp, par_swp hp.nd ha hb hab]
end Go.Pm
