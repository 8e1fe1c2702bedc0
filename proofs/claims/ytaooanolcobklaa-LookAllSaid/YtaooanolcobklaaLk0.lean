/-
  Layer 40, the plain part: arrangements, and how many looks a question needs.
-/
import Derived.WalkKit
set_option linter.unusedVariables false
namespace Go.Lk

abbrev Ws := List (List Int)
/-- The place of the first of a list's elements of which q is so; -1, if there is none. -/
def fidx {α : Type} (q : α → Bool) : List α → Int → Int
  | [], _ => -1
  | a :: r, k => if q a then k else fidx q r (k + 1)
theorem fidx_any {α : Type} (q : α → Bool) : ∀ (l : List α) (k : Int), 0 ≤ k → (0 ≤ fidx q l k ↔ l.any q = true)
  | [], k, _ => by simp [fidx]
  | x :: r, k, h => by
    simp only [fidx]
    by_cases e : q x = true
    · rw [if_pos e]; simp [e, h]
    · rw [if_neg e, fidx_any q r (k + 1) (by omega)]; simp [e]
theorem fidx_drop {α : Type} {q : α → Bool} {l : List α} {k : Nat} (h : k < l.length) : fidx q (l.drop k) k = if q l[k] then (k : Int) else fidx q (l.drop (k + 1)) ((k + 1 : Nat) : Int) := by
  rw [List.drop_eq_getElem_cons h]
  simp [fidx]
theorem fidx_ge {α : Type} (q : α → Bool) : ∀ (l : List α) (k : Int), 0 ≤ k → -1 ≤ fidx q l k ∧ fidx q l k < k + l.length
  | [], k, h => by simp [fidx]; omega
  | x :: r, k, h => by
    simp only [fidx]
    have := fidx_ge q r (k + 1) (by omega)
    split <;> simp <;> omega
def atM (a : List Int) (id : Int) : Int := fidx (fun x => decide (id = x)) a 0
def cell (a : List Int) (p : Nat) : Int := a.getD p 0
def hd (w : Ws) : List Int := w.headD []
def decM (w : Ws) (ids : List Int) : Bool := ids.all fun id => w.all fun a => decide (atM a id = atM (hd w) id)
def leftM (w : Ws) (p : Nat) (v : Int) : Ws := w.filter fun a => decide (cell a p = v)
def constM (w : Ws) (p : Nat) : Bool := w.all fun a => decide (cell a p = cell (hd w) p)
def mx (l : List Nat) : Nat := l.foldl max 0
def worstM (nd : Ws → Nat) (w : Ws) (p : Nat) : Nat := if constM w p then 0 else mx (w.map fun a => 1 + nd (leftM w p (cell a p)))
def bstep (wf : Nat → Nat) (b : Nat × Int) (p : Nat) : Nat × Int := if 0 < wf p ∧ wf p < b.1 then (wf p, (p : Int)) else b
def best (wf : Nat → Nat) (B n : Nat) : Nat × Int := (List.range n).foldl (bstep wf) (B, -1)
def needF (ids : List Int) : Nat → Ws → Nat × Int
  | 0, _ => (0, -1)
  | k + 1, w => if decM w ids then (0, -1) else best (worstM (fun u => (needF ids k u).1) w) ((hd w).length + 1) (hd w).length
def needM (ids : List Int) (w : Ws) : Nat × Int := needF ids w.length w

structure Ok (n : Nat) (w : Ws) : Prop where
  ne : w ≠ []
  len : ∀ a, a ∈ w → a.length = n
  nd : ∀ a, a ∈ w → a.Nodup
  pos : ∀ a, a ∈ w → ∀ x, x ∈ a → 0 ≤ x

theorem mx_le {l : List Nat} {b : Nat} : mx l ≤ b ↔ ∀ x, x ∈ l → x ≤ b := by
  have key : ∀ (l : List Nat) (s : Nat), l.foldl max s ≤ b ↔ s ≤ b ∧ ∀ x, x ∈ l → x ≤ b := by
    intro l
    induction l with
    | nil => intro s; simp
    | cons x l ih =>
      intro s
      rw [List.foldl_cons, ih]
      simp only [List.mem_cons, forall_eq_or_imp]
      rw [← and_assoc]
      exact and_congr_left fun _ => by omega
  unfold mx
  rw [key]
  simp
theorem mx_mem {l : List Nat} {x : Nat} (h : x ∈ l) : x ≤ mx l := mx_le.1 (Nat.le_refl _) x h
theorem mx_eq {l l' : List Nat} (h : ∀ x, x ∈ l ↔ x ∈ l') : mx l = mx l' :=
  Nat.le_antisymm (mx_le.2 fun x hx => mx_mem ((h x).1 hx)) (mx_le.2 fun x hx => mx_mem ((h x).2 hx))
theorem mx_some {l : List Nat} (h : l ≠ []) : ∃ x, x ∈ l ∧ mx l = x := by
  have key : ∀ (l : List Nat) (s : Nat), l.foldl max s = s ∨ ∃ x, x ∈ l ∧ l.foldl max s = x := by
    intro l
    induction l with
    | nil => intro s; simp
    | cons x l ih =>
      intro s
      rw [List.foldl_cons]
      rcases ih (max s x) with h | ⟨y, h1, h2⟩
      · by_cases hsx : s ≤ x
        · exact .inr ⟨x, by simp, by rw [h]; omega⟩
        · exact .inl (by rw [h]; omega)
      · exact .inr ⟨y, by simp [h1], h2⟩
  unfold mx
  rcases key l 0 with h1 | h1
  · cases l with
    | nil => exact absurd rfl h
    | cons x l =>
      refine ⟨x, by simp, ?_⟩
      have : x ≤ mx (x :: l) := mx_mem (by simp)
      unfold mx at this
      omega
  · exact h1
theorem mx_snoc (l : List Nat) (x : Nat) : mx (l ++ [x]) = max (mx l) x := by simp [mx]

theorem hd_mem {w : Ws} (h : w ≠ []) : hd w ∈ w := by
  cases w with
  | nil => exact absurd rfl h
  | cons a w => simp [hd]
theorem Ok.hd_len {n : Nat} {w : Ws} (h : Ok n w) : (hd w).length = n := h.len _ (hd_mem h.ne)
theorem mem_leftM {w : Ws} {p : Nat} {v : Int} {a : List Int} : a ∈ leftM w p v ↔ a ∈ w ∧ cell a p = v := by simp [leftM]
theorem left_lt {w : Ws} {p : Nat} {a : List Int} (hc : constM w p = false) (ha : a ∈ w) : (leftM w p (cell a p)).length < w.length := by
  unfold leftM
  rw [List.length_filter_lt_length_iff_exists]
  have hw : w ≠ [] := fun e => by rw [e] at ha; cases ha
  unfold constM at hc
  rw [List.all_eq_false] at hc
  obtain ⟨b, hb, hne⟩ := hc
  by_cases h : cell a p = cell (hd w) p
  · exact ⟨b, hb, by rw [h]; simpa using hne⟩
  · exact ⟨hd w, hd_mem hw, by simpa using fun e => h e.symm⟩
theorem left_all {w : Ws} {p : Nat} {a : List Int} (hc : constM w p = true) (ha : a ∈ w) : leftM w p (cell a p) = w := by
  unfold leftM
  rw [List.filter_eq_self]
  intro b hb
  simp only [constM, List.all_eq_true, decide_eq_true_eq] at hc
  simp [hc b hb, hc a ha]
theorem left_le (w : Ws) (p : Nat) (v : Int) : (leftM w p v).length ≤ w.length := List.length_filter_le _ _
theorem Ok.sub {n : Nat} {w u : Ws} (h : Ok n w) (hu : u ≠ []) (hs : ∀ a, a ∈ u → a ∈ w) : Ok n u :=
  ⟨hu, fun a ha => h.len a (hs a ha), fun a ha => h.nd a (hs a ha), fun a ha => h.pos a (hs a ha)⟩
theorem left_ne {w : Ws} {p : Nat} {a : List Int} (ha : a ∈ w) : leftM w p (cell a p) ≠ [] := fun e => by
  have : a ∈ leftM w p (cell a p) := mem_leftM.2 ⟨ha, rfl⟩
  rw [e] at this; cases this
theorem Ok.left {n : Nat} {w : Ws} (h : Ok n w) {p : Nat} {a : List Int} (ha : a ∈ w) : Ok n (leftM w p (cell a p)) :=
  h.sub (left_ne ha) fun _ hb => (mem_leftM.1 hb).1

theorem best_succ (wf : Nat → Nat) (B n : Nat) : best wf B (n + 1) = bstep wf (best wf B n) n := by simp [best, List.range_succ]
/-- What the search for the best place ends with. -/
theorem best_spec (wf : Nat → Nat) (B : Nat) : ∀ n, (best wf B n = (B, -1) ∧ ∀ q, q < n → wf q = 0 ∨ B ≤ wf q) ∨ ∃ p, p < n ∧ best wf B n = (wf p, (p : Int)) ∧ 0 < wf p ∧ wf p < B ∧ (∀ q, q < n → wf q = 0 ∨ wf p ≤ wf q) ∧ ∀ q, q < p → wf q = 0 ∨ wf p < wf q
  | 0 => .inl ⟨rfl, fun q hq => absurd hq (Nat.not_lt_zero q)⟩
  | n + 1 => by
    have up : ∀ {Q : Nat → Prop}, (∀ q, q < n → Q q) → Q n → ∀ q, q < n + 1 → Q q := fun h1 h2 q hq => by
      rcases Nat.lt_or_eq_of_le (Nat.le_of_lt_succ hq) with h | rfl
      · exact h1 q h
      · exact h2
    rw [best_succ]
    unfold bstep
    rcases best_spec wf B n with ⟨h1, h2⟩ | ⟨p, h1, h2, h3, h4, h5, h6⟩
    · rw [h1]
      by_cases h : 0 < wf n ∧ wf n < B
      · rw [if_pos h]
        refine .inr ⟨n, by omega, rfl, h.1, h.2, up (fun q hq => ?_) (by omega), fun q hq => ?_⟩ <;>
          have := h2 q hq <;> omega
      · rw [if_neg h]
        exact .inl ⟨rfl, up h2 (by omega)⟩
    · rw [h2]
      by_cases h : 0 < wf n ∧ wf n < wf p
      · rw [if_pos h]
        refine .inr ⟨n, by omega, rfl, h.1, by omega, up (fun q hq => ?_) (by omega), fun q hq => ?_⟩ <;>
          have := h5 q hq <;> omega
      · rw [if_neg h]
        exact .inr ⟨p, by omega, rfl, h3, h4, up h5 (by omega), h6⟩
theorem best_start {wf : Nat → Nat} {B B' n p : Nat} (hp : p < n) (h0 : 0 < wf p) (hB : ∀ q, q < n → wf q < B) (hB' : ∀ q, q < n → wf q < B') : best wf B n = best wf B' n := by
  have a := hB p hp
  have b := hB' p hp
  rcases best_spec wf B n with ⟨_, h2⟩ | ⟨q, h1, h2, h3, h4, h5, h6⟩
  · have := h2 p hp; omega
  · rcases best_spec wf B' n with ⟨_, g2⟩ | ⟨r, g1, g2, g3, g4, g5, g6⟩
    · have := g2 p hp; omega
    · have : q = r := by
        have e1 := h5 r g1
        have e2 := g5 q h1
        rcases Nat.lt_trichotomy q r with h | h | h
        · have := g6 q h; omega
        · exact h
        · have := h6 r h; omega
      subst this
      rw [h2, g2]
theorem best_congr {wf wf' : Nat → Nat} {B n : Nat} (h : ∀ q, q < n → wf q = wf' q) : best wf B n = best wf' B n := by
  induction n with
  | zero => rfl
  | succ n ih =>
    rw [best_succ, best_succ, ih fun q hq => h q (by omega)]
    simp only [bstep, h n (by omega)]

theorem worst_congr {nd nd' : Ws → Nat} {w : Ws} (h : ∀ u, u.length < w.length → nd u = nd' u) (p : Nat) : worstM nd w p = worstM nd' w p := by
  unfold worstM
  split
  · rfl
  · rename_i hc
    refine congrArg mx (List.map_congr_left fun a ha => ?_)
    rw [h _ (left_lt (by simpa using hc) ha)]
theorem needF_fuel (ids : List Int) : ∀ (k k' : Nat) (w : Ws), w.length ≤ k → w.length ≤ k' → needF ids k w = needF ids k' w := by
  intro k
  induction k with
  | zero =>
    intro k' w h _
    obtain rfl : w = [] := List.eq_nil_of_length_eq_zero (by omega)
    cases k' with
    | zero => rfl
    | succ k' => simp [needF, decM]
  | succ k ih =>
    intro k' w h h'
    cases k' with
    | zero =>
      obtain rfl : w = [] := List.eq_nil_of_length_eq_zero (by omega)
      simp [needF, decM]
    | succ k' =>
      unfold needF
      split
      · rfl
      · exact best_congr fun q _ => worst_congr (fun u hu => by rw [ih k' u (by omega) (by omega)]) q
theorem needM_eq (ids : List Int) (w : Ws) : needM ids w = if decM w ids then (0, -1) else best (worstM (fun u => (needM ids u).1) w) ((hd w).length + 1) (hd w).length := by
  have : needM ids w = needF ids (w.length + 1) w := needF_fuel ids _ _ w (Nat.le_refl _) (by omega)
  rw [this]
  unfold needF
  split
  · rfl
  · exact best_congr fun q _ => worst_congr (fun u hu => by rw [show needM ids u = needF ids w.length u from needF_fuel ids _ _ u (Nat.le_refl _) (by omega)]) q

/-! ### How many looks may be needed -/
def nc (n : Nat) (w : Ws) : Nat := (List.range n).countP fun p => !constM w p
theorem nc_le (n : Nat) (w : Ws) : nc n w ≤ n := by
  unfold nc
  have := List.countP_le_length (p := fun p => !constM w p) (l := List.range n)
  simpa using this
theorem countP_lt {f g : Nat → Bool} : ∀ {l : List Nat} {p : Nat}, (∀ q, q ∈ l → f q = true → g q = true) → p ∈ l → g p = true → f p = false → l.countP f < l.countP g
  | [], _, _, hp, _, _ => by cases hp
  | x :: l, p, hfg, hp, hg, hf => by
    have hle : l.countP f ≤ l.countP g := List.countP_mono_left fun q hq => hfg q (by simp [hq])
    rw [List.countP_cons, List.countP_cons]
    rcases List.mem_cons.1 hp with rfl | hp
    · rw [hf, hg]; simp; omega
    · have ih := countP_lt (fun q hq => hfg q (by simp [hq])) hp hg hf
      by_cases hx : f x = true
      · rw [hx, hfg x (by simp) hx]; simp; omega
      · rw [if_neg hx]; split <;> omega
theorem const_sub {w u : Ws} {p : Nat} (hs : ∀ a, a ∈ u → a ∈ w) (h : constM w p = true) : constM u p = true := by
  simp only [constM, List.all_eq_true, decide_eq_true_eq] at *
  intro a ha
  have hu : u ≠ [] := fun e => by rw [e] at ha; cases ha
  rw [h a (hs a ha), h _ (hs _ (hd_mem hu))]
theorem const_left (w : Ws) (p : Nat) (v : Int) : constM (leftM w p v) p = true := by
  simp only [constM, List.all_eq_true, decide_eq_true_eq]
  intro a ha
  have hu : leftM w p v ≠ [] := fun e => by rw [e] at ha; cases ha
  rw [(mem_leftM.1 ha).2, (mem_leftM.1 (hd_mem hu)).2]
theorem nc_left {n : Nat} {w : Ws} {p : Nat} (hp : p < n) (hc : constM w p = false) (v : Int) : nc n (leftM w p v) < nc n w := by
  refine countP_lt (p := p) (fun q _ hq => ?_) (by simpa using hp) (by simp [hc]) (by simp [const_left])
  cases h : constM w q
  · rfl
  · rw [const_sub (fun a ha => (mem_leftM.1 ha).1) h] at hq; simp at hq
theorem cell_ext {n : Nat} {a b : List Int} (ha : a.length = n) (hb : b.length = n) (h : ∀ p, p < n → cell a p = cell b p) : a = b := by
  apply List.ext_getElem (by rw [ha, hb])
  intro i h1 h2
  have := h i (by omega)
  simpa [cell, List.getD_eq_getElem?_getD, h1, h2] using this
theorem undec {n : Nat} {w : Ws} {ids : List Int} (hw : Ok n w) (h : decM w ids = false) : ∃ p, p < n ∧ constM w p = false := by
  apply Classical.byContradiction
  intro hn
  have hall : ∀ p, p < n → constM w p = true := fun p hp => by
    cases hc : constM w p
    · exact absurd ⟨p, hp, hc⟩ hn
    · rfl
  have heq : ∀ a, a ∈ w → a = hd w := fun a ha => cell_ext (hw.len a ha) hw.hd_len fun p hp => by
    have := hall p hp
    simp only [constM, List.all_eq_true, decide_eq_true_eq] at this
    exact this a ha
  have : decM w ids = true := by
    simp only [decM, List.all_eq_true, decide_eq_true_eq]
    intro id _ a ha
    rw [heq a ha]
  rw [this] at h; cases h
theorem worst_pos {nd : Ws → Nat} {w : Ws} {p : Nat} (hw : w ≠ []) (hc : constM w p = false) : 0 < worstM nd w p := by
  unfold worstM
  rw [hc, if_neg (by simp)]
  have : 1 + nd (leftM w p (cell (hd w) p)) ≤ mx (w.map fun a => 1 + nd (leftM w p (cell a p))) := mx_mem (List.mem_map.2 ⟨hd w, hd_mem hw, rfl⟩)
  omega
theorem worst_const {nd : Ws → Nat} {w : Ws} {p : Nat} (hc : constM w p = true) : worstM nd w p = 0 := by simp [worstM, hc]
theorem worst_le {nd : Ws → Nat} {w : Ws} {p b : Nat} (h : constM w p = false → ∀ a, a ∈ w → 1 + nd (leftM w p (cell a p)) ≤ b) : worstM nd w p ≤ b := by
  unfold worstM
  split
  · exact Nat.zero_le _
  · rename_i hc
    rw [mx_le]
    intro x hx
    obtain ⟨a, ha, rfl⟩ := List.mem_map.1 hx
    exact h (by simpa using hc) a ha
theorem worst_ge {nd : Ws → Nat} {w : Ws} {p : Nat} (hc : constM w p = false) {a : List Int} (ha : a ∈ w) : 1 + nd (leftM w p (cell a p)) ≤ worstM nd w p := by
  unfold worstM
  rw [hc, if_neg (by simp)]
  exact mx_mem (List.mem_map.2 ⟨a, ha, rfl⟩)
theorem worst_at {nd : Ws → Nat} {w : Ws} {p : Nat} (hw : w ≠ []) (hc : constM w p = false) : ∃ a, a ∈ w ∧ worstM nd w p = 1 + nd (leftM w p (cell a p)) := by
  unfold worstM
  rw [hc, if_neg (by simp)]
  obtain ⟨x, h1, h2⟩ := mx_some (l := w.map fun a => 1 + nd (leftM w p (cell a p))) (by simpa using hw)
  obtain ⟨a, ha, rfl⟩ := List.mem_map.1 h1
  exact ⟨a, ha, h2⟩

abbrev need (ids : List Int) (w : Ws) : Nat := (needM ids w).1
/-- An upper bound that each look lowers holds for the need. -/
theorem need_bound {n : Nat} {ids : List Int} (f : Ws → Nat) (ok : Ws → Prop) (hl : ∀ w, Ok n w → ok w → ∀ p, p < n → constM w p = false → ∀ a, a ∈ w → ok (leftM w p (cell a p)) ∧ f (leftM w p (cell a p)) < f w) :
    ∀ (k : Nat) (w : Ws), w.length ≤ k → Ok n w → ok w → need ids w ≤ f w := by
  intro k
  induction k with
  | zero => intro w h hw _; exact absurd (List.eq_nil_of_length_eq_zero (by omega)) hw.ne
  | succ k ih =>
    intro w h hw ho
    unfold need
    rw [needM_eq]
    cases hd' : decM w ids with
    | true => simp
    | false =>
      rw [if_neg (by simp), hw.hd_len]
      obtain ⟨p, hp, hc⟩ := undec hw hd'
      have hle : worstM (fun u => (needM ids u).1) w p ≤ f w := worst_le fun hc a ha => by
        have h1 := hl w hw ho p hp hc a ha
        have h2 := ih (leftM w p (cell a p)) (by have := left_lt hc ha; omega) (hw.left ha) h1.1
        have h2 : (needM ids (leftM w p (cell a p))).1 ≤ f (leftM w p (cell a p)) := h2
        omega
      have hpos := worst_pos (nd := fun u => (needM ids u).1) hw.ne hc
      rcases best_spec (worstM (fun u => (needM ids u).1) w) (n + 1) n with ⟨h1, h2⟩ | ⟨q, h1, h2, h3, h4, h5, h6⟩
      · rw [h1]
        have := h2 p hp
        show n + 1 ≤ f w
        omega
      · rw [h2]
        have := h5 p hp
        show worstM (fun u => (needM ids u).1) w q ≤ f w
        omega
theorem need_nc {n : Nat} {w : Ws} (hw : Ok n w) (ids : List Int) : need ids w ≤ nc n w :=
  need_bound (nc n) (fun _ => True) (fun w _ _ p hp hc a _ => ⟨trivial, nc_left hp hc _⟩) w.length w (Nat.le_refl _) hw trivial
theorem need_le {n : Nat} {w : Ws} (hw : Ok n w) (ids : List Int) : need ids w ≤ n := Nat.le_trans (need_nc hw ids) (nc_le n w)
theorem worst_n {n : Nat} {w : Ws} (hw : Ok n w) (ids : List Int) {p : Nat} (hp : p < n) : worstM (need ids) w p ≤ n :=
  worst_le fun hc a ha => by
    have h1 := need_nc (hw.left (p := p) ha) ids
    have h2 := nc_left hp hc (cell a p)
    have h3 := nc_le n w
    omega
/-- What is known of a need: it is 0 where the question is decided; else the next place is one whose worst answer is the best. -/
theorem need_spec {n : Nat} {w : Ws} (hw : Ok n w) (ids : List Int) : (decM w ids = true ∧ needM ids w = (0, -1)) ∨ (decM w ids = false ∧ ∃ p, p < n ∧ constM w p = false ∧ needM ids w = (worstM (need ids) w p, (p : Int)) ∧ 0 < worstM (need ids) w p ∧ ∀ q, q < n → constM w q = false → worstM (need ids) w p ≤ worstM (need ids) w q) := by
  cases hd' : decM w ids with
  | true => exact .inl ⟨rfl, by rw [needM_eq, hd', if_pos rfl]⟩
  | false =>
    refine .inr ⟨rfl, ?_⟩
    rw [needM_eq, hd', if_neg (by simp), hw.hd_len]
    obtain ⟨p, hp, hc⟩ := undec hw hd'
    have hpos := worst_pos (nd := need ids) hw.ne hc
    rcases best_spec (worstM (need ids) w) (n + 1) n with ⟨h1, h2⟩ | ⟨q, h1, h2, h3, h4, h5, h6⟩
    · have := h2 p hp
      have := worst_n hw ids hp
      omega
    · refine ⟨q, h1, ?_, h2, h3, fun r hr hc' => ?_⟩
      · cases h : constM w q
        · rfl
        · rw [worst_const h] at h3; omega
      · have := h5 r hr
        have := worst_pos (nd := need ids) hw.ne hc'
        omega
theorem need_zero {n : Nat} {w : Ws} (hw : Ok n w) (ids : List Int) : need ids w = 0 ↔ decM w ids = true := by
  rcases need_spec hw ids with ⟨h1, h2⟩ | ⟨h1, p, _, _, h2, h3, _⟩
  · simp [need, h1, h2]
  · simp only [need, h1, h2]
    constructor
    · intro h; omega
    · intro h; cases h
/-- Each answer at the next place makes the need less. -/
theorem need_next {n : Nat} {w : Ws} (hw : Ok n w) (ids : List Int) {p : Nat} (h : (needM ids w).2 = (p : Int)) {a : List Int} (ha : a ∈ w) : p < n ∧ need ids (leftM w p (cell a p)) < need ids w ∧ (leftM w p (cell a p)).length < w.length := by
  rcases need_spec hw ids with ⟨h1, h2⟩ | ⟨h1, q, hq, hc, h2, h3, _⟩
  · rw [h2] at h; simp only at h; omega
  · rw [h2] at h
    simp only at h
    obtain rfl : q = p := by omega
    refine ⟨hq, ?_, left_lt hc ha⟩
    show _ < (needM ids w).1
    rw [h2]
    have := worst_ge (nd := need ids) hc ha
    show need ids (leftM w q (cell a q)) < worstM (need ids) w q
    omega
/-- At each place there is an answer after which one less than the need is needed. -/
theorem need_worst {n : Nat} {w : Ws} (hw : Ok n w) (ids : List Int) {p : Nat} (hp : p < n) : ∃ a, a ∈ w ∧ need ids w ≤ need ids (leftM w p (cell a p)) + 1 := by
  cases hc : constM w p with
  | true => exact ⟨hd w, hd_mem hw.ne, by rw [left_all hc (hd_mem hw.ne)]; omega⟩
  | false =>
    rcases need_spec hw ids with ⟨h1, h2⟩ | ⟨h1, q, hq, hc', h2, h3, h4⟩
    · exact ⟨hd w, hd_mem hw.ne, by show (needM ids w).1 ≤ _; rw [h2]; exact Nat.zero_le _⟩
    · obtain ⟨a, ha, h5⟩ := worst_at (nd := need ids) hw.ne hc
      refine ⟨a, ha, ?_⟩
      show (needM ids w).1 ≤ _
      rw [h2]
      have := h4 p hp hc
      show worstM (need ids) w q ≤ _
      omega
theorem dec_sub {w u : Ws} {ids ids' : List Int} (hs : ∀ a, a ∈ u → a ∈ w) (hi : ∀ x, x ∈ ids' → x ∈ ids) (h : decM w ids = true) : decM u ids' = true := by
  simp only [decM, List.all_eq_true, decide_eq_true_eq] at *
  intro id hid a ha
  have hu : u ≠ [] := fun e => by rw [e] at ha; cases ha
  rw [h id (hi id hid) a (hs a ha), h id (hi id hid) _ (hs _ (hd_mem hu))]
/-- Fewer arrangements, and fewer identities, need no more looks. -/
theorem need_fewer {n : Nat} {ids ids' : List Int} (hi : ∀ x, x ∈ ids' → x ∈ ids) : ∀ (k : Nat) (w u : Ws), w.length ≤ k → Ok n w → u ≠ [] → (∀ a, a ∈ u → a ∈ w) → need ids' u ≤ need ids w := by
  intro k
  induction k with
  | zero => intro w u h hw; exact absurd (List.eq_nil_of_length_eq_zero (by omega)) hw.ne
  | succ k ih =>
    intro w u h hw hu hs
    have ho := hw.sub hu hs
    rcases need_spec hw ids with ⟨h1, h2⟩ | ⟨h1, p, hp, hc, h2, h3, h4⟩
    · rw [(need_zero ho ids').2 (dec_sub hs hi h1)]; exact Nat.zero_le _
    · have hlt : ∀ a, a ∈ u → need ids' (leftM u p (cell a p)) + 1 ≤ need ids w := fun a ha => by
        have h5 := ih (leftM w p (cell a p)) (leftM u p (cell a p)) (by have := left_lt hc (hs a ha); omega) (hw.left (hs a ha)) (left_ne ha) (fun b hb => mem_leftM.2 ⟨hs b (mem_leftM.1 hb).1, (mem_leftM.1 hb).2⟩)
        have h6 := (need_next hw ids (by rw [h2]) (hs a ha)).2.1
        omega
      cases hcu : constM u p with
      | true =>
        have h5 := hlt (hd u) (hd_mem hu)
        rw [left_all hcu (hd_mem hu)] at h5
        omega
      | false =>
        rcases need_spec ho ids' with ⟨g1, g2⟩ | ⟨g1, q, hq, gc, g2, g3, g4⟩
        · show (needM ids' u).1 ≤ _
          rw [g2]; exact Nat.zero_le _
        · obtain ⟨a, ha, h5⟩ := worst_at (nd := need ids') hu hcu
          have h6 := g4 p hp hcu
          have h7 := hlt a ha
          show (needM ids' u).1 ≤ _
          rw [g2]
          show worstM (need ids') u q ≤ _
          omega
/-! ### Arrangements of the same identities -/
def Same (w : Ws) : Prop := ∀ a, a ∈ w → ∀ b, b ∈ w → ∀ x, x ∈ a → x ∈ b
theorem cell_mem {a : List Int} {p : Nat} (hp : p < a.length) : cell a p ∈ a := by
  simp only [cell, List.getD_eq_getElem?_getD, List.getElem?_eq_getElem hp, Option.getD_some]
  exact List.getElem_mem hp
theorem mem_cell {a : List Int} {x : Int} (h : x ∈ a) : ∃ p, p < a.length ∧ cell a p = x := by
  obtain ⟨i, hi, e⟩ := List.mem_iff_getElem.1 h
  exact ⟨i, hi, by simp [cell, List.getD_eq_getElem?_getD, hi, e]⟩
theorem cell_inj {a : List Int} (h : a.Nodup) {p q : Nat} (hp : p < a.length) (hq : q < a.length) (e : cell a p = cell a q) : p = q := by
  simp only [cell, List.getD_eq_getElem?_getD, List.getElem?_eq_getElem hp, List.getElem?_eq_getElem hq, Option.getD_some] at e
  exact (List.getElem_inj h).1 e
theorem other {n : Nat} {w : Ws} (hw : Ok n w) (hs : Same w) {p : Nat} (hp : p < n) (hc : constM w p = false) : ∃ q, q < n ∧ q ≠ p ∧ constM w q = false := by
  unfold constM at hc
  rw [List.all_eq_false] at hc
  obtain ⟨a, ha, hne⟩ := hc
  have hne : cell a p ≠ cell (hd w) p := by simpa using hne
  have hm := hd_mem hw.ne
  obtain ⟨q, hq, e⟩ := mem_cell (hs a ha _ hm _ (cell_mem (p := p) (by rw [hw.len a ha]; exact hp)))
  rw [hw.hd_len] at hq
  have hqp : q ≠ p := fun h => by rw [h] at e; exact hne e.symm
  refine ⟨q, hq, hqp, ?_⟩
  cases h : constM w q
  · rfl
  · simp only [constM, List.all_eq_true, decide_eq_true_eq] at h
    exact absurd (cell_inj (hw.nd a ha) (by rw [hw.len a ha]; exact hq) (by rw [hw.len a ha]; exact hp) ((h a ha).trans e)) hqp
theorem nc_two {n : Nat} {w : Ws} (hw : Ok n w) (hs : Same w) {p : Nat} (hp : p < n) (hc : constM w p = false) : 2 ≤ nc n w := by
  obtain ⟨q, hq, hqp, hcq⟩ := other hw hs hp hc
  have h1 : (List.range n).countP (fun r => !constM w r && r != p) < nc n w := countP_lt (p := p) (fun r _ hr => by simp at hr; simp [hr.1]) (by simpa using hp) (by simp [hc]) (by simp)
  have h2 : 0 < (List.range n).countP (fun r => !constM w r && r != p) := by
    rw [List.countP_pos_iff]
    exact ⟨q, by simpa using hq, by simp [hcq, hqp]⟩
  omega
theorem need_same {n : Nat} {w : Ws} (hw : Ok n w) (hs : Same w) (h0 : 0 < n) (ids : List Int) : need ids w ≤ n - 1 := by
  have key := need_bound (n := n) (ids := ids) (fun w => nc n w - 1) Same (fun w hw hs p hp hc a ha => by
    refine ⟨fun b hb c hc => hs b (mem_leftM.1 hb).1 c (mem_leftM.1 hc).1, ?_⟩
    have h1 := nc_left hp hc (cell a p)
    have h2 := nc_two hw hs hp hc
    show nc n (leftM w p (cell a p)) - 1 < nc n w - 1
    omega) w.length w (Nat.le_refl _) hw hs
  have := nc_le n w
  have key : need ids w ≤ nc n w - 1 := key
  omega
end Go.Lk
