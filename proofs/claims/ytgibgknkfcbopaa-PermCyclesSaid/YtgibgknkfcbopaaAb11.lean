/-
  A logic of values for the walk, eleventh part: from what a row reads to abstract values.
-/
import Derived.Test.YtgibgknkfcbopaaAb10
import Derived.ProofKit
import Derived.OpenShut
import Derived.ShutString
import Derived.ChangeOld
namespace Go.Ab
open Go
set_option linter.unusedVariables false
set_option linter.unusedSimpArgs false

/-- What is read of this type is some 'a', whose cells are 'enc a'. -/
def Opens (P : Program) (t : TypeId) {α : Type} (ok : α → Prop) (enc : α → List AV) : Prop :=
  ∀ {H : Type} (e : TypeId × Value → H) (W : World) (fuel : Nat) (cs : List Value) x, DataW.trod e P W 0 (fun _ => true) true fuel t cs = some x →
    ∃ a, ok a ∧ (enc a).length = P.cellsOf t ∧ RL (fun b => b < W.heap.size) W (enc a) (fun _ => none) cs

section
variable {P : Program} {t : TypeId}

theorem Opens.int {k : IntKind} (ht : P.underlying t = some (.int k)) (hc : P.cellsOf t = 1) : Opens P t (fun n => (Lit.int k n).wf = true) (fun n => [.v (.int k n)]) := by
  intro H e W fuel cs x h
  obtain ⟨n, rfl, _, hw⟩ := DataW.trod_int ht h
  exact ⟨n, hw, by simp [hc], by simp [RL, R]⟩
theorem Opens.bool (ht : P.underlying t = some .bool) (hc : P.cellsOf t = 1) : Opens P t (fun _ => True) (fun b => [AV.b b]) := by
  intro H e W fuel cs x h
  obtain ⟨b, rfl, _⟩ := DataW.trod_bool ht h
  exact ⟨b, trivial, by simp [hc], by simp [RL, R]⟩
theorem Opens.string (ht : P.underlying t = some .string) (hc : P.cellsOf t = 1) : Opens P t (fun s => s.size ≤ maxLen) (fun s => [.v (.string s)]) := by
  intro H e W fuel cs x h
  obtain ⟨s, rfl, _, hs⟩ := DataW.trod_string ht h
  exact ⟨s, hs, by simp [hc], by simp [RL, R]⟩
theorem Opens.iso {α β : Type} {ok : α → Prop} {enc : α → List AV} {ok' : β → Prop} {enc' : β → List AV} (h : Opens P t ok enc) (f : α → β) (hf : ∀ a, ok a → ok' (f a) ∧ enc' (f a) = enc a) : Opens P t ok' enc' := by
  intro H e W fuel cs x hx
  obtain ⟨a, h1, h2, h3⟩ := h e W fuel cs x hx
  obtain ⟨h4, h5⟩ := hf a h1
  exact ⟨f a, h4, by rw [h5]; exact h2, by rw [h5]; exact h3⟩

theorem mapM_range {α : Type} {n : Nat} {f : Nat → Option α} {l : List α} (h : (List.range n).mapM f = some l) : l.length = n ∧ ∀ i, i < n → f i = l[i]? := by
  induction n generalizing l with
  | zero => simp at h; subst h; simp
  | succ n ih =>
    rw [List.range_succ, List.mapM_append] at h
    cases h1 : (List.range n).mapM f with
    | none => simp [h1] at h
    | some l1 =>
      cases h2 : f n with
      | none => simp [h1, h2] at h
      | some y =>
        simp [h1, h2] at h
        subst h
        obtain ⟨h3, h4⟩ := ih h1
        refine ⟨by simp [h3], fun i hi => ?_⟩
        by_cases hin : i < n
        · rw [h4 i hin, List.getElem?_append_left (by omega)]
        · have : i = n := by omega
          subst this
          rw [h2, List.getElem?_append_right (by omega)]; simp [h3]

theorem add_add' (a : Addr) (n j : Nat) (h : n ≤ j) : (a.add n).add (j - n) = a.add j := by
  cases a with
  | mk bb oo sp =>
    unfold Addr.add
    by_cases q1 : n = 0
    · rw [if_pos q1, q1]; simp
    · rw [if_neg q1]
      by_cases q2 : j - n = 0
      · rw [if_pos q2, if_neg (by omega)]; congr 1; omega
      · rw [if_neg q2, if_neg (by omega)]; simp; omega

/-- A slice. -/
theorem Opens.slice {e : TypeId} {sz : Nat} {α : Type} {ok : α → Prop} {enc : α → List AV} (ht : P.underlying t = some (.slice e)) (hc : P.cellsOf t = 1) (hsz : P.cellsOf e = sz) (h0 : 0 < sz) (he : Opens P e ok enc) :
    Opens P t (fun l => l.length ≤ maxLen ∧ ∀ a, a ∈ l → ok a) (fun l : List α => [.rowE (l.map enc) sz]) := by
  intro H en W fuel cs x h
  rcases DataW.trod_slice ht h with ⟨rfl, _⟩ | ⟨a, len, cap, elems, rest, n, _, rfl, _, _, hlc, hcm, hel, hget, _, _⟩
  · refine ⟨[], ⟨by simp, by simp⟩, by simp [hc], ?_⟩
    simp only [RL, R]
    exact ⟨_, [], rfl, ⟨none, 0, rfl, by simp, fun _ => rfl, by simp, by simp, .inl (by simp)⟩, rfl⟩
  · have key : ∀ m, m ≤ len → ∃ (l : List α) (ys : List Value), l.length = m ∧ (∀ a, a ∈ l → ok a) ∧ RL (fun b => b < W.heap.size) W (l.map enc).flatten (fun _ => none) ys ∧ ys.length = m * sz ∧ ∀ (j : Nat) y, ys[j]? = some y → W.cell? (a.add j) = some y := by
      intro m
      induction m with
      | zero => exact fun _ => ⟨[], [], rfl, by simp, by simp [RL], by simp, by simp⟩
      | succ m ih =>
        intro hm
        obtain ⟨l, ys, h1, h2, h3, h4, h5⟩ := ih (by omega)
        have hg := hget m (by omega)
        rw [List.getElem?_eq_getElem (by omega)] at hg
        obtain ⟨cs', h6, h7⟩ := Option.bind_eq_some_iff.1 hg
        obtain ⟨b, h8, _, h9⟩ := he en W n cs' _ h7
        unfold World.cells? at h6
        split at h6
        · obtain ⟨g1, g2⟩ := mapM_range h6
          refine ⟨l ++ [b], ys ++ cs', by simp [h1], fun c hcc => ?_, ?_, by rw [List.length_append, h4, g1, hsz, Nat.add_mul, Nat.one_mul], fun j y hj => ?_⟩
          · rcases List.mem_append.1 hcc with hcc | hcc
            · exact h2 c hcc
            · simp at hcc; subst hcc; exact h8
          · rw [List.map_append, List.flatten_append]
            exact RL_append h3 (by simpa using h9)
          · by_cases hjl : j < ys.length
            · rw [List.getElem?_append_left hjl] at hj; exact h5 j y hj
            · rw [List.getElem?_append_right (by omega)] at hj
              have hjl2 := (List.getElem?_eq_some_iff.1 hj).1
              have := g2 (j - ys.length) (by omega)
              rw [hj] at this
              have e2 : (a.add (m * P.cellsOf e)).add (j - ys.length) = a.add j := by
                rw [hsz, ← h4]
                exact add_add' a ys.length j (by omega)
              rw [e2] at this
              exact this
        · cases h6
    obtain ⟨l, ys, h1, h2, h3, h4, h5⟩ := key len (Nat.le_refl _)
    refine ⟨l, ⟨by omega, h2⟩, by simp [hc], ?_⟩
    simp only [RL, R]
    refine ⟨_, [], rfl, ⟨some a, cap, by simp [h1], by simpa [h1] using hlc, (fun e => by cases e), hcm, ?_, ?_⟩, rfl⟩
    · rw [RL_length h3] at h4; simpa [h1] using h4
    · by_cases hz : len = 0
      · left; simp [h1, hz]
      · right
        have hlt : 0 < ys.length := by rw [h4]; exact Nat.mul_pos (by omega) h0
        have hcell := h5 0 ys[0] (List.getElem?_eq_getElem hlt)
        have ha : a.add 0 = a := by simp [Addr.add]
        rw [ha] at hcell
        have hsp := World.cell?_spot hcell
        obtain ⟨bb, oo, sp⟩ := a
        simp only at hsp
        subst hsp
        refine ⟨bb, oo, ys, rfl, World.block_lt_of_cell? W _ hcell, ?_, h3⟩
        unfold World.cell? at hcell
        split at hcell
        · rename_i c e fz hb
          refine ⟨c, e, fz, hb, fun j y hj => ?_⟩
          have := h5 j y hj
          rw [Addr.add_lit] at this
          simpa [World.cell?, hb] using this
        · cases hcell

/-- The parts of a struct, one after the other. -/
def OpensF (P : Program) (ts : List TypeId) {α : Type} (ok : α → Prop) (enc : α → List AV) : Prop :=
  ∀ {H : Type} (e : TypeId × Value → H) (W : World) (fuel : Nat) (css : List (List Value)), css.length = ts.length → (∀ (i : Nat) t cs, ts[i]? = some t → css[i]? = some cs → ∃ x, DataW.trod e P W 0 (fun _ => true) true fuel t cs = some x) →
    ∃ a, ok a ∧ (enc a).length = (ts.map P.cellsOf).sum ∧ RL (fun b => b < W.heap.size) W (enc a) (fun _ => none) css.flatten
theorem OpensF.nil : OpensF P [] (fun _ : Unit => True) (fun _ => []) := by
  intro H e W fuel css hl _
  have : css = [] := List.eq_nil_of_length_eq_zero hl
  subst this
  exact ⟨(), trivial, rfl, by simp [RL]⟩
theorem OpensF.cons {ts : List TypeId} {α β : Type} {ok : α → Prop} {enc : α → List AV} {ok' : β → Prop} {enc' : β → List AV} (h : Opens P t ok enc) (h' : OpensF P ts ok' enc') :
    OpensF P (t :: ts) (fun a : α × β => ok a.1 ∧ ok' a.2) (fun a => enc a.1 ++ enc' a.2) := by
  intro H e W fuel css hl hx
  match css, hl with
  | cs :: css, hl =>
    obtain ⟨x, hx0⟩ := hx 0 t cs (by simp) (by simp)
    obtain ⟨a, h1, h2, h3⟩ := h e W fuel cs x hx0
    obtain ⟨b, h4, h5, h6⟩ := h' e W fuel css (by simpa using hl) (fun i t cs hi hi' => hx (i + 1) t cs (by simpa using hi) (by simpa using hi'))
    exact ⟨(a, b), ⟨h1, h4⟩, by simp [h2, h5], by simpa using RL_append h3 h6⟩

/-- A struct's fields: type, first cell. -/
def fieldsP (P : Program) (t : TypeId) : Option (List (TypeId × Nat)) := match P.underlying t with
  | some (.struct fs) => some (fs.toList.map fun f => (f.type, f.offset))
  | _ => none
/-- They stand one behind the other, from cell o on, n cells in all. -/
def rowOf (P : Program) : Nat → List (TypeId × Nat) → Nat → Bool
  | o, [], n => Nat.beq o n
  | o, (t, o') :: r, n => Nat.beq o o' && rowOf P (o + P.cellsOf t) r n

theorem split_row {cs : List Value} : ∀ {fs : List (TypeId × Nat)} {o n : Nat}, rowOf P o fs n = true → n = cs.length → o ≤ n ∧ (fs.map fun f => (cs.drop f.2).take (P.cellsOf f.1)).flatten = cs.drop o
  | [], o, n, h, hn => by
    have := Nat.eq_of_beq_eq_true h
    subst this
    simp [hn]
  | (t, o') :: r, o, n, h, hn => by
    simp only [rowOf, Bool.and_eq_true] at h
    have := Nat.eq_of_beq_eq_true h.1
    subst this
    obtain ⟨h1, h2⟩ := split_row h.2 hn
    refine ⟨by omega, ?_⟩
    simp only [List.map_cons, List.flatten_cons, h2]
    rw [← List.drop_drop, List.take_append_drop]

theorem Opens.struct {fs : List (TypeId × Nat)} {α : Type} {ok : α → Prop} {enc : α → List AV} (ht : fieldsP P t = some fs) (hr : rowOf P 0 fs (P.cellsOf t) = true) (h : OpensF P (fs.map (·.1)) ok enc) (hl : ∀ a, (enc a).length = P.cellsOf t) : Opens P t ok enc := by
  intro H e W fuel cs x hx
  unfold fieldsP at ht
  split at ht
  · rename_i fields hu
    simp only [Option.some.injEq] at ht
    subst ht
    obtain ⟨xs, n, _, _, h1, h2, h3⟩ := DataW.trod_struct hu hx
    obtain ⟨_, hsplit⟩ := split_row (cs := cs) hr h1.symm
    obtain ⟨a, h4, h5, h6⟩ := h e W n ((fields.toList.map fun f => (f.type, f.offset)).map fun f => (cs.drop f.2).take (P.cellsOf f.1)) (by simp) (fun i tt cc hi hi' => by
      simp only [List.map_map, List.getElem?_map, Option.map_eq_some_iff] at hi hi'
      obtain ⟨f, hf, rfl⟩ := hi
      obtain ⟨f', hf', rfl⟩ := hi'
      rw [hf] at hf'
      cases hf'
      have hlt : i < xs.length := by rw [h2]; simpa using (List.getElem?_eq_some_iff.1 hf).1
      have := h3 i f (by simpa using hf)
      rw [List.getElem?_eq_getElem hlt] at this
      exact ⟨_, this⟩)
    refine ⟨a, h4, hl a, ?_⟩
    rw [hsplit] at h6
    simpa using h6
  · cases ht

/-- An argument that is one cell. -/
theorem Opens.one {α : Type} {ok : α → Prop} {enc : α → AV} (h : Opens P t ok (fun a => [enc a])) {H : Type} {e : TypeId × Value → H} {W : World} {v : Value} {d : DataW H} {p : List MemPlace} {base : Nat} (hok : Value.okWide P W .any base t v) (ha : aggB P t = some false) (hv : DataW.Trod e P W 0 (fun _ => true) true t v d p) :
    ∃ a, ok a ∧ R (fun b => b < W.heap.size) W (enc a) (fun _ => none) v := by
  obtain ⟨fuel, hf⟩ := hv
  obtain ⟨a, h1, _, h3⟩ := h e W fuel _ _ hf
  refine ⟨a, h1, ?_⟩
  simp only [RL] at h3
  obtain ⟨y, zs, h4, h5, h6⟩ := h3
  subst h6
  have hone : v.cells = #[v] := by
    cases v with
    | agg cs =>
      exfalso
      unfold aggB at ha
      unfold Value.okWide at hok
      split at ha <;> rename_i hu <;> try (cases ha; done)
      · cases h4' : cs.toList with
        | nil => simp [Value.cells, h4'] at h4
        | cons u r =>
          rename_i d hn1 hn2
          rw [hu] at hok
          cases d <;> first | exact absurd rfl (hn1 _) | exact absurd rfl (hn2 _ _) | (simp [Cell.okWide, Cell.ok, hu] at hok)
    | _ => rfl
  rw [hone] at h4
  simp at h4
  rw [h4]; exact h5

/-- An argument that is a struct. -/
theorem Opens.aggr {α : Type} {ok : α → Prop} {enc : α → List AV} (h : Opens P t ok enc) {H : Type} {e : TypeId × Value → H} {W : World} {v : Value} {d : DataW H} {p : List MemPlace} {base : Nat} (hok : Value.okWide P W .any base t v) (ha : aggB P t = some true) (hv : DataW.Trod e P W 0 (fun _ => true) true t v d p) :
    ∃ a, ok a ∧ R (fun b => b < W.heap.size) W (.agg (enc a)) (fun _ => none) v := by
  obtain ⟨fuel, hf⟩ := hv
  obtain ⟨a, h1, _, h3⟩ := h e W fuel _ _ hf
  refine ⟨a, h1, ?_⟩
  have hag : ∃ cs, v = .agg cs := by
    unfold aggB at ha
    unfold Value.okWide at hok
    split at ha <;> rename_i hu <;> try (cases ha; done)
    · rw [hu] at hok; obtain ⟨cs, hc, _⟩ := hok; exact ⟨cs, hc⟩
    · rw [hu] at hok; obtain ⟨cs, hc, _⟩ := hok; exact ⟨cs, hc⟩
  obtain ⟨cs, rfl⟩ := hag
  simp only [R]
  exact ⟨cs, rfl, h3⟩

open RowKit in
/-- A law's contract, as the row asks for it. -/
theorem calls_of_acall {f : FuncId} {xs : List AV} {vs : List Value} {W : World} (h : ACall P f xs [] (.b true) []) (hv : RL (fun b => b < W.heap.size) W xs (fun _ => none) vs) :
    Calls P f vs.toArray W fun e w' => e = .returned (.bool true) ∧ Below W.heap.size W w' := by
  refine (h.2 (fun _ => none) (fun b => b < W.heap.size) W vs ⟨fun _ _ => rfl, (fun _ _ h => by cases h), (fun k b hb => by simp at hb), (fun k b p hb => by simp at hb), (fun k _ b _ _ _ hb => by simp at hb), fun _ h => h, Ext.refl _ _, fun _ h => h, fun _ h => .inl h, Nat.le_refl _, (fun _ h => by simp [ctx0] at h)⟩ hv).mono ?_
  rintro e w' ⟨y, ρ', S', rfl, hs, hy⟩
  have := R_v hy
  subst this
  refine ⟨rfl, hs.ext.os, hs.ext.tape, hs.ext.output, hs.ext.size, fun k hk => hs.ext.same k hk fun hm => ?_⟩
  rcases hm with hm | ⟨_, _, _, hm, _⟩
  · omega
  · simp at hm

end
end Go.Ab
