/-
  A logic of values for the walk, texts 11, 12, 13, 14, 15, 16.
-/
import Derived.Test.YtcdgmjfmmnklnaaAb10
import Derived.ProofKit
import Derived.OpenShut
import Derived.ShutString
import Derived.ChangeOld
import Derived.Laws.StructEq
import Derived.ChangeKeysEq
import Derived.Below
import Derived.ChangeSame
import Derived.WideKeyArgs

/-! A logic of values for the walk, eleventh part: from what a row reads to abstract values. -/
namespace Go.Ab
open Go
set_option linter.unusedVariables false
set_option linter.unusedSimpArgs false

def Opens (P : Program) (t : TypeId) {α : Type} (ok : α → Prop) (enc : α → List AV) : Prop :=
  ∀ {H : Type} (e : TypeId × Value → H) (W : World) (fuel : Nat) (cs : List Value) x, DataW.trod e P W 0 (fun _ => true) true fuel t cs = some x →
    ∃ a, ok a ∧ (enc a).length = P.cellsOf t ∧ RL (fun b => b < W.heap.size) W (enc a) (fun _ => none) cs

section
variable {P : Program} {t : TypeId}

theorem Opens.int {k : IntKind} (ht : P.underlying t = some (.int k)) (hc : P.cellsOf t = 1) : Opens P t (fun n => (Lit.int k n).wf = true) (fun n => [.v (.int k n)]) := by
  intro H e W fuel cs x h
  obtain ⟨n, rfl, _, hw⟩ := DataW.trod_int ht h
  exact ⟨n, hw, by simp [hc], by simp [RL, R]⟩
theorem Opens.bool (ht : P.underlying t = some .bool) (hc : P.cellsOf t = 1) : Opens P t (fun _ => True) (fun b => [AV.b b]) := by
  intro H e W fuel cs x h
  obtain ⟨b, rfl, _⟩ := DataW.trod_bool ht h
  exact ⟨b, trivial, by simp [hc], by simp [RL, R]⟩
theorem Opens.string (ht : P.underlying t = some .string) (hc : P.cellsOf t = 1) : Opens P t (fun s => s.size ≤ maxLen) (fun s => [.v (.string s)]) := by
  intro H e W fuel cs x h
  obtain ⟨s, rfl, _, hs⟩ := DataW.trod_string ht h
  exact ⟨s, hs, by simp [hc], by simp [RL, R]⟩
theorem Opens.iso {α β : Type} {ok : α → Prop} {enc : α → List AV} {ok' : β → Prop} {enc' : β → List AV} (h : Opens P t ok enc) (f : α → β) (hf : ∀ a, ok a → ok' (f a) ∧ enc' (f a) = enc a) : Opens P t ok' enc' := by
  intro H e W fuel cs x hx
  obtain ⟨a, h1, h2, h3⟩ := h e W fuel cs x hx
  obtain ⟨h4, h5⟩ := hf a h1
  exact ⟨f a, h4, by rw [h5]; exact h2, by rw [h5]; exact h3⟩

theorem mapM_range {α : Type} {n : Nat} {f : Nat → Option α} {l : List α} (h : (List.range n).mapM f = some l) : l.length = n ∧ ∀ i, i < n → f i = l[i]? := by
  induction n generalizing l with
  | zero => simp at h; subst h; simp
  | succ n ih =>
    rw [List.range_succ, List.mapM_append] at h
    cases h1 : (List.range n).mapM f with
    | none => simp [h1] at h
    | some l1 =>
      cases h2 : f n with
      | none => simp [h1, h2] at h
      | some y =>
        simp [h1, h2] at h
        subst h
        obtain ⟨h3, h4⟩ := ih h1
        refine ⟨by simp [h3], fun i hi => ?_⟩
        by_cases hin : i < n
        · rw [h4 i hin, List.getElem?_append_left (by omega)]
        · have : i = n := by omega
          subst this
          rw [h2, List.getElem?_append_right (by omega)]; simp [h3]

theorem add_add' (a : Addr) (n j : Nat) (h : n ≤ j) : (a.add n).add (j - n) = a.add j := by
  cases a with
  | mk bb oo sp =>
    unfold Addr.add
    by_cases q1 : n = 0
    · rw [if_pos q1, q1]; simp
    · rw [if_neg q1]
      by_cases q2 : j - n = 0
      · rw [if_pos q2, if_neg (by omega)]; congr 1; omega
      · rw [if_neg q2, if_neg (by omega)]; simp; omega

theorem Opens.slice {e : TypeId} {sz : Nat} {α : Type} {ok : α → Prop} {enc : α → List AV} (ht : P.underlying t = some (.slice e)) (hc : P.cellsOf t = 1) (hsz : P.cellsOf e = sz) (h0 : 0 < sz) (he : Opens P e ok enc) :
    Opens P t (fun l => l.length ≤ maxLen ∧ ∀ a, a ∈ l → ok a) (fun l : List α => [.rowE (l.map enc) sz]) := by
  intro H en W fuel cs x h
  rcases DataW.trod_slice ht h with ⟨rfl, _⟩ | ⟨a, len, cap, elems, rest, n, _, rfl, _, _, hlc, hcm, hel, hget, _, _⟩
  · refine ⟨[], ⟨by simp, by simp⟩, by simp [hc], ?_⟩
    simp only [RL, R]
    exact ⟨_, [], rfl, ⟨none, 0, rfl, by simp, fun _ => rfl, by simp, by simp, .inl (by simp)⟩, rfl⟩
  · have key : ∀ m, m ≤ len → ∃ (l : List α) (ys : List Value), l.length = m ∧ (∀ a, a ∈ l → ok a) ∧ RL (fun b => b < W.heap.size) W (l.map enc).flatten (fun _ => none) ys ∧ ys.length = m * sz ∧ ∀ (j : Nat) y, ys[j]? = some y → W.cell? (a.add j) = some y := by
      intro m
      induction m with
      | zero => exact fun _ => ⟨[], [], rfl, by simp, by simp [RL], by simp, by simp⟩
      | succ m ih =>
        intro hm
        obtain ⟨l, ys, h1, h2, h3, h4, h5⟩ := ih (by omega)
        have hg := hget m (by omega)
        rw [List.getElem?_eq_getElem (by omega)] at hg
        obtain ⟨cs', h6, h7⟩ := Option.bind_eq_some_iff.1 hg
        obtain ⟨b, h8, _, h9⟩ := he en W n cs' _ h7
        unfold World.cells? at h6
        split at h6
        · obtain ⟨g1, g2⟩ := mapM_range h6
          refine ⟨l ++ [b], ys ++ cs', by simp [h1], fun c hcc => ?_, ?_, by rw [List.length_append, h4, g1, hsz, Nat.add_mul, Nat.one_mul], fun j y hj => ?_⟩
          · rcases List.mem_append.1 hcc with hcc | hcc
            · exact h2 c hcc
            · simp at hcc; subst hcc; exact h8
          · rw [List.map_append, List.flatten_append]
            exact RL_append h3 (by simpa using h9)
          · by_cases hjl : j < ys.length
            · rw [List.getElem?_append_left hjl] at hj; exact h5 j y hj
            · rw [List.getElem?_append_right (by omega)] at hj
              have hjl2 := (List.getElem?_eq_some_iff.1 hj).1
              have := g2 (j - ys.length) (by omega)
              rw [hj] at this
              have e2 : (a.add (m * P.cellsOf e)).add (j - ys.length) = a.add j := by
                rw [hsz, ← h4]
                exact add_add' a ys.length j (by omega)
              rw [e2] at this
              exact this
        · cases h6
    obtain ⟨l, ys, h1, h2, h3, h4, h5⟩ := key len (Nat.le_refl _)
    refine ⟨l, ⟨by omega, h2⟩, by simp [hc], ?_⟩
    simp only [RL, R]
    refine ⟨_, [], rfl, ⟨some a, cap, by simp [h1], by simpa [h1] using hlc, (fun e => by cases e), hcm, ?_, ?_⟩, rfl⟩
    · rw [RL_length h3] at h4; simpa [h1] using h4
    · by_cases hz : len = 0
      · left; simp [h1, hz]
      · right
        have hlt : 0 < ys.length := by rw [h4]; exact Nat.mul_pos (by omega) h0
        have hcell := h5 0 ys[0] (List.getElem?_eq_getElem hlt)
        have ha : a.add 0 = a := by simp [Addr.add]
        rw [ha] at hcell
        have hsp := World.cell?_spot hcell
        obtain ⟨bb, oo, sp⟩ := a
        simp only at hsp
        subst hsp
        refine ⟨bb, oo, ys, rfl, World.block_lt_of_cell? W _ hcell, ?_, h3⟩
        unfold World.cell? at hcell
        split at hcell
        · rename_i c e fz hb
          refine ⟨c, e, fz, hb, fun j y hj => ?_⟩
          have := h5 j y hj
          rw [Addr.add_lit] at this
          simpa [World.cell?, hb] using this
        · cases hcell

def OpensF (P : Program) (ts : List TypeId) {α : Type} (ok : α → Prop) (enc : α → List AV) : Prop :=
  ∀ {H : Type} (e : TypeId × Value → H) (W : World) (fuel : Nat) (css : List (List Value)), css.length = ts.length → (∀ (i : Nat) t cs, ts[i]? = some t → css[i]? = some cs → ∃ x, DataW.trod e P W 0 (fun _ => true) true fuel t cs = some x) →
    ∃ a, ok a ∧ (enc a).length = (ts.map P.cellsOf).sum ∧ RL (fun b => b < W.heap.size) W (enc a) (fun _ => none) css.flatten
theorem OpensF.nil : OpensF P [] (fun _ : Unit => True) (fun _ => []) := by
  intro H e W fuel css hl _
  have : css = [] := List.eq_nil_of_length_eq_zero hl
  subst this
  exact ⟨(), trivial, rfl, by simp [RL]⟩
theorem OpensF.cons {ts : List TypeId} {α β : Type} {ok : α → Prop} {enc : α → List AV} {ok' : β → Prop} {enc' : β → List AV} (h : Opens P t ok enc) (h' : OpensF P ts ok' enc') :
    OpensF P (t :: ts) (fun a : α × β => ok a.1 ∧ ok' a.2) (fun a => enc a.1 ++ enc' a.2) := by
  intro H e W fuel css hl hx
  match css, hl with
  | cs :: css, hl =>
    obtain ⟨x, hx0⟩ := hx 0 t cs (by simp) (by simp)
    obtain ⟨a, h1, h2, h3⟩ := h e W fuel cs x hx0
    obtain ⟨b, h4, h5, h6⟩ := h' e W fuel css (by simpa using hl) (fun i t cs hi hi' => hx (i + 1) t cs (by simpa using hi) (by simpa using hi'))
    exact ⟨(a, b), ⟨h1, h4⟩, by simp [h2, h5], by simpa using RL_append h3 h6⟩

def fieldsP (P : Program) (t : TypeId) : Option (List (TypeId × Nat)) := match P.underlying t with
  | some (.struct fs) => some (fs.toList.map fun f => (f.type, f.offset))
  | _ => none
def rowOf (P : Program) : Nat → List (TypeId × Nat) → Nat → Bool
  | o, [], n => Nat.beq o n
  | o, (t, o') :: r, n => Nat.beq o o' && rowOf P (o + P.cellsOf t) r n

theorem split_row {cs : List Value} : ∀ {fs : List (TypeId × Nat)} {o n : Nat}, rowOf P o fs n = true → n = cs.length → o ≤ n ∧ (fs.map fun f => (cs.drop f.2).take (P.cellsOf f.1)).flatten = cs.drop o
  | [], o, n, h, hn => by
    have := Nat.eq_of_beq_eq_true h
    subst this
    simp [hn]
  | (t, o') :: r, o, n, h, hn => by
    simp only [rowOf, Bool.and_eq_true] at h
    have := Nat.eq_of_beq_eq_true h.1
    subst this
    obtain ⟨h1, h2⟩ := split_row h.2 hn
    refine ⟨by omega, ?_⟩
    simp only [List.map_cons, List.flatten_cons, h2]
    rw [← List.drop_drop, List.take_append_drop]

theorem Opens.struct {fs : List (TypeId × Nat)} {α : Type} {ok : α → Prop} {enc : α → List AV} (ht : fieldsP P t = some fs) (hr : rowOf P 0 fs (P.cellsOf t) = true) (h : OpensF P (fs.map (·.1)) ok enc) (hl : ∀ a, (enc a).length = P.cellsOf t) : Opens P t ok enc := by
  intro H e W fuel cs x hx
  unfold fieldsP at ht
  split at ht
  · rename_i fields hu
    simp only [Option.some.injEq] at ht
    subst ht
    obtain ⟨xs, n, _, _, h1, h2, h3⟩ := DataW.trod_struct hu hx
    obtain ⟨_, hsplit⟩ := split_row (cs := cs) hr h1.symm
    obtain ⟨a, h4, h5, h6⟩ := h e W n ((fields.toList.map fun f => (f.type, f.offset)).map fun f => (cs.drop f.2).take (P.cellsOf f.1)) (by simp) (fun i tt cc hi hi' => by
      simp only [List.map_map, List.getElem?_map, Option.map_eq_some_iff] at hi hi'
      obtain ⟨f, hf, rfl⟩ := hi
      obtain ⟨f', hf', rfl⟩ := hi'
      rw [hf] at hf'
      cases hf'
      have hlt : i < xs.length := by rw [h2]; simpa using (List.getElem?_eq_some_iff.1 hf).1
      have := h3 i f (by simpa using hf)
      rw [List.getElem?_eq_getElem hlt] at this
      exact ⟨_, this⟩)
    refine ⟨a, h4, hl a, ?_⟩
    rw [hsplit] at h6
    simpa using h6
  · cases ht

theorem Opens.one {α : Type} {ok : α → Prop} {enc : α → AV} (h : Opens P t ok (fun a => [enc a])) {H : Type} {e : TypeId × Value → H} {W : World} {v : Value} {d : DataW H} {p : List MemPlace} {base : Nat} (hok : Value.okWide P W .any base t v) (ha : aggB P t = some false) (hv : DataW.Trod e P W 0 (fun _ => true) true t v d p) :
    ∃ a, ok a ∧ R (fun b => b < W.heap.size) W (enc a) (fun _ => none) v := by
  obtain ⟨fuel, hf⟩ := hv
  obtain ⟨a, h1, _, h3⟩ := h e W fuel _ _ hf
  refine ⟨a, h1, ?_⟩
  simp only [RL] at h3
  obtain ⟨y, zs, h4, h5, h6⟩ := h3
  subst h6
  have hone : v.cells = #[v] := by
    cases v with
    | agg cs =>
      exfalso
      unfold aggB at ha
      unfold Value.okWide at hok
      split at ha <;> rename_i hu <;> try (cases ha; done)
      · cases h4' : cs.toList with
        | nil => simp [Value.cells, h4'] at h4
        | cons u r =>
          rename_i d hn1 hn2
          rw [hu] at hok
          cases d <;> first | exact absurd rfl (hn1 _) | exact absurd rfl (hn2 _ _) | (simp [Cell.okWide, Cell.ok, hu] at hok)
    | _ => rfl
  rw [hone] at h4
  simp at h4
  rw [h4]; exact h5

theorem Opens.aggr {α : Type} {ok : α → Prop} {enc : α → List AV} (h : Opens P t ok enc) {H : Type} {e : TypeId × Value → H} {W : World} {v : Value} {d : DataW H} {p : List MemPlace} {base : Nat} (hok : Value.okWide P W .any base t v) (ha : aggB P t = some true) (hv : DataW.Trod e P W 0 (fun _ => true) true t v d p) :
    ∃ a, ok a ∧ R (fun b => b < W.heap.size) W (.agg (enc a)) (fun _ => none) v := by
  obtain ⟨fuel, hf⟩ := hv
  obtain ⟨a, h1, _, h3⟩ := h e W fuel _ _ hf
  refine ⟨a, h1, ?_⟩
  have hag : ∃ cs, v = .agg cs := by
    unfold aggB at ha
    unfold Value.okWide at hok
    split at ha <;> rename_i hu <;> try (cases ha; done)
    · rw [hu] at hok; obtain ⟨cs, hc, _⟩ := hok; exact ⟨cs, hc⟩
    · rw [hu] at hok; obtain ⟨cs, hc, _⟩ := hok; exact ⟨cs, hc⟩
  obtain ⟨cs, rfl⟩ := hag
  simp only [R]
  exact ⟨cs, rfl, h3⟩

open RowKit in
theorem calls_of_acall {f : FuncId} {xs : List AV} {vs : List Value} {W : World} (h : ACall P f xs [] (.b true) []) (hv : RL (fun b => b < W.heap.size) W xs (fun _ => none) vs) (hgl : GlobOk (fun b => b < W.heap.size) W := by exact GlobOk.none rfl) :
    Calls P f vs.toArray W fun e w' => e = .returned (.bool true) ∧ Below W.heap.size W w' := by
  refine (h.2 (fun _ => none) (fun b => b < W.heap.size) W vs ⟨fun _ _ => rfl, (fun _ _ h => by cases h), (fun k b hb => by simp at hb), (fun k b p hb => by simp at hb), (fun k _ b _ _ _ hb => by simp at hb), fun _ h => h, Ext.refl _ _, fun _ h => h, fun _ h => .inl h, Nat.le_refl _, (fun _ h => by simp [ctx0] at h), hgl⟩ hv).mono ?_
  rintro e w' ⟨y, ρ', S', rfl, hs, hy⟩
  have := R_v hy
  subst this
  refine ⟨rfl, hs.ext.os, hs.ext.tape, hs.ext.output, hs.ext.size, fun k hk => hs.ext.same k hk fun hm => ?_⟩
  rcases hm with hm | ⟨_, _, _, hm, _⟩
  · omega
  · simp at hm

end
end Go.Ab

/-! A logic of values for the walk, twelfth part: regions whose operations may come in more than one order.
  The first operations, which only read, compute and make memory, may come in any order that their edges allow; each is shown from what its own predecessors leave. -/
namespace Go.Ab
open Go
set_option linter.unusedVariables false
set_option linter.unusedSimpArgs false

structure Eff where
  d : Option Nat
  x : AV
  new : List AB

theorem HS.fill {c : Ctx} {ρ ρ' : Pl} {S S' : Nat → Prop} {h h' : Hp} {w w' : World} {q m : Nat} {x : AV} {new : List AB} {y : Value} (s : HS c ρ S h w) (p : Post ρ ρ' S S' w w' q m x new y) (hn : ∀ j, j < m → ρ (q + j) = none)
    (hl : h.length ≤ h'.length) (hout : ∀ k, k < q ∨ q + m ≤ k → h'[k]? = h[k]?) (hin : ∀ j, j < m → h'[q + j]? = new[j]?) (hm : c.m ≤ q ∨ m = 0) : HS c ρ' S' h' w' := by
  have l := p.later hn s.stab
  have hsz : c.w0.heap.size ≤ w.heap.size := s.ext.size
  have cs : ∀ k, (k < q ∨ q + m ≤ k) ∨ ∃ j, j < m ∧ k = q + j := fun k => by
    by_cases h1 : k < q ∨ q + m ≤ k
    · exact .inl h1
    · exact .inr ⟨k - q, by omega, by omega⟩
  have new_lt : ∀ {k : Nat} {b : AB}, h'[k]? = some b → (∃ j, j < m ∧ k = q + j ∧ new[j]? = some b) ∨ ((k < q ∨ q + m ≤ k) ∧ h[k]? = some b) := fun {k b} hb => by
    rcases cs k with h1 | ⟨j, h1, rfl⟩
    · exact .inr ⟨h1, by rw [← hout k h1]; exact hb⟩
    · exact .inl ⟨j, h1, rfl, by rw [← hin j h1]; exact hb⟩
  refine ⟨fun k hk => ?_, fun k r hr => ?_, fun k b hb => ?_, fun k b r hb hg hr => ?_, fun k k' b b' r r' hb hb' hg hg' hr hr' e => ?_, fun b hb => ?_, s.ext.trans p.ext (fun _ h => h.elim), fun b hb => p.st b (s.st0 b hb), fun b hb => ?_, Nat.le_trans s.mle hl, fun k hk => ?_, s.glob.later l⟩
  · rcases cs k with h1 | ⟨j, h1, rfl⟩
    · rw [p.keep k h1]; exact s.dom k (by omega)
    · have := hin j h1
      rw [List.getElem?_eq_none hk] at this
      have h2 : j < new.length := by rw [p.len]; exact h1
      rw [List.getElem?_eq_getElem h2] at this; cases this
  · rcases cs k with h1 | ⟨j, h1, rfl⟩
    · rw [p.keep k h1] at hr
      exact Nat.lt_of_lt_of_le (s.rng k r hr) p.ext.size
    · exact (p.fresh _ r (by omega) (by omega) hr).2.1
  · rcases new_lt hb with ⟨j, h1, rfl, h2⟩ | ⟨h1, h2⟩
    · exact p.blk j b h2
    · rw [p.keep k h1]
      exact RB.later l (fun b' o hb' => p.ext.same b' (s.rng k _ hb') (by simp)) (s.blk k b h2)
  · rcases new_lt hb with ⟨j, h1, rfl, h2⟩ | ⟨h1, h2⟩
    · obtain ⟨f1, _, f3⟩ := p.fresh _ r (by omega) (by omega) hr
      exact ⟨c.new _ (by omega), f3⟩
    · rw [p.keep k h1] at hr
      obtain ⟨f1, f2⟩ := s.live k b r h2 hg hr
      refine ⟨f1, fun hs => ?_⟩
      rcases p.stn _ hs with hs | hs
      · exact f2 hs
      · have := s.rng k r hr; omega
  · rcases new_lt hb with ⟨j, h1, rfl, h2⟩ | ⟨h1, h2⟩ <;> rcases new_lt hb' with ⟨j', h1', rfl, h2'⟩ | ⟨h1', h2'⟩
    · exact p.inj _ _ r r' (by omega) (by omega) (by omega) (by omega) hr hr' e
    · rw [p.keep k' h1'] at hr'
      have f1 := s.rng k' r' hr'
      have f2 := (p.fresh _ r (by omega) (by omega) hr).1
      omega
    · rw [p.keep k h1] at hr
      have f1 := s.rng k r hr
      have f2 := (p.fresh _ r' (by omega) (by omega) hr').1
      omega
    · rw [p.keep k h1] at hr
      rw [p.keep k' h1'] at hr'
      exact s.inj k k' b b' r r' h2 h2' hg hg' hr hr' e
  · rcases p.stn b hb with hb | hb
    · exact Nat.lt_of_lt_of_le (s.stab b hb) p.ext.size
    · exact hb.2
  · rcases p.stn b hb with hb | hb
    · exact s.st1 b hb
    · exact .inr (c.new b (by omega))
  · rcases hm with hm | hm
    · rw [p.keep k (.inl (by omega))]; exact s.keep k hk
    · rw [p.keep k (by omega)]; exact s.keep k hk

def stE (env : Env) (all : List Eff) : List Nat → Env
  | [] => env
  | j :: r => match all[j]? with
    | some f => putd f.d f.x (stE env all r)
    | none => stE env all r
def seg (L : Nat → Bool) : Nat → List Eff → Hp
  | _, [] => []
  | i, f :: r => (match L i with | true => f.new | false => List.replicate f.new.length .gone) ++ seg L (i + 1) r
def lens : List Eff → Nat
  | [] => 0
  | f :: r => f.new.length + lens r

theorem stE_look {env : Env} {all : List Eff} : ∀ {pre : List Nat} {t : Nat} {x : AV}, look (stE env all pre) t = some x → look env t = some x ∨ ∃ j f, j ∈ pre ∧ all[j]? = some f ∧ f.d = some t ∧ f.x = x
  | [], _, _, h => .inl h
  | j :: r, t, x, h => by
    simp only [stE] at h
    have up : (look env t = some x ∨ ∃ j f, j ∈ r ∧ all[j]? = some f ∧ f.d = some t ∧ f.x = x) → (look env t = some x ∨ ∃ j' f, j' ∈ j :: r ∧ all[j']? = some f ∧ f.d = some t ∧ f.x = x) := fun h => h.imp id fun ⟨j', f, h1, h2⟩ => ⟨j', f, List.mem_cons_of_mem _ h1, h2⟩
    split at h
    · rename_i f hf
      cases hd : f.d with
      | none => rw [hd] at h; exact up (stE_look h)
      | some d =>
        rw [hd] at h
        simp only [putd, look_cons] at h
        split at h
        · rename_i he; subst he; cases h
          exact .inr ⟨j, f, List.mem_cons_self, hf, hd, rfl⟩
        · exact up (stE_look h)
    · exact up (stE_look h)

theorem seg_length (L : Nat → Bool) : ∀ (i : Nat) (l : List Eff), (seg L i l).length = lens l
  | _, [] => rfl
  | i, f :: r => by
    simp only [seg, lens, List.length_append, seg_length L (i + 1) r]
    cases L i <;> simp
theorem lens_append : ∀ (a b : List Eff), lens (a ++ b) = lens a + lens b
  | [], b => by simp [lens]
  | f :: a, b => by simp [lens, lens_append a b, Nat.add_assoc]
theorem seg_append (L : Nat → Bool) : ∀ (i : Nat) (a b : List Eff), seg L i (a ++ b) = seg L i a ++ seg L (i + a.length) b
  | i, [], b => by simp [seg]
  | i, f :: a, b => by
    simp only [List.cons_append, seg, seg_append L (i + 1) a b, List.length_cons, List.append_assoc]
    rw [show i + 1 + a.length = i + (a.length + 1) by omega]
theorem seg_congr {L L' : Nat → Bool} : ∀ (l : List Eff) (i : Nat), (∀ j, i ≤ j → j < i + l.length → L j = L' j) → seg L i l = seg L' i l
  | [], _, _ => rfl
  | f :: r, i, h => by
    simp only [seg, h i (Nat.le_refl _) (by simp), seg_congr r (i + 1) (fun j h1 h2 => h j (by omega) (by simp; omega))]
theorem seg_mono {L L' : Nat → Bool} : ∀ (l : List Eff) (i k : Nat) (b : AB), (∀ j, L j = true → L' j = true) → (seg L i l)[k]? = some b → b ≠ .gone → (seg L' i l)[k]? = some b
  | [], _, k, b, _, h, _ => by simp [seg] at h
  | f :: r, i, k, b, hL, h, hg => by
    simp only [seg] at h ⊢
    have len : ∀ L : Nat → Bool, (match L i with | true => f.new | false => List.replicate f.new.length .gone).length = f.new.length := fun L => by cases L i <;> simp
    by_cases hk : k < f.new.length
    · rw [List.getElem?_append_left (by rw [len]; exact hk)] at h ⊢
      cases h1 : L i with
      | true => rw [h1] at h; rw [hL i h1]; exact h
      | false =>
        rw [h1] at h
        simp only [List.getElem?_replicate] at h
        rw [if_pos hk] at h
        cases h; exact absurd rfl hg
    · rw [List.getElem?_append_right (by rw [len]; omega), len] at h ⊢
      exact seg_mono r (i + 1) _ b hL h hg

def dropE (ds : List Nat) : Env → Env
  | [] => []
  | (t, x) :: r => match ds.any (Nat.beq t) with
    | true => dropE ds r
    | false => (t, x) :: dropE ds r
theorem any_beq {ds : List Nat} {t : Nat} : ds.any (Nat.beq t) = true ↔ t ∈ ds := by
  rw [List.any_eq_true]
  constructor
  · rintro ⟨x, h1, h2⟩; rw [Nat.eq_of_beq_eq_true h2]; exact h1
  · exact fun h => ⟨t, h, Nat.beq_refl t⟩
theorem look_dropE {ds : List Nat} : ∀ {env : Env} {t : Nat} {x : AV}, look (dropE ds env) t = some x → look env t = some x ∧ t ∉ ds
  | [], _, _, h => by cases h
  | (k, u) :: r, t, x, h => by
    simp only [dropE] at h
    split at h
    · rename_i hb
      obtain ⟨h1, h2⟩ := look_dropE h
      refine ⟨?_, h2⟩
      rw [look_cons, if_neg (fun e : k = t => h2 (e ▸ any_beq.1 hb))]; exact h1
    · rename_i hb
      rw [look_cons] at h ⊢
      split at h
      · rename_i he; subst he
        exact ⟨by rw [if_pos rfl]; exact h, fun hm => by rw [any_beq.2 hm] at hb; cases hb⟩
      · rename_i he
        rw [if_neg he]; exact look_dropE h

theorem mid_out {α : Type} (A B B' C : List α) (hB : B.length = B'.length) (k : Nat) (hk : k < A.length ∨ A.length + B.length ≤ k) : (A ++ (B ++ C))[k]? = (A ++ (B' ++ C))[k]? := by
  rcases hk with hk | hk
  · rw [List.getElem?_append_left hk, List.getElem?_append_left hk]
  · rw [List.getElem?_append_right (by omega), List.getElem?_append_right (by omega), List.getElem?_append_right (by omega), List.getElem?_append_right (by omega), hB]

def okDraw (ops : Array Oper) (pres : List (List Nat)) : Bool :=
  (List.range ops.size).all fun i => match ops[i]? with
    | none => false
    | some o =>
      (o.after.toList.all fun e => !Region.binds .any e || decide (e.on < i)) &&
      (match pres[i]? with
        | some pre => pre.all fun j => decide (j < i) && o.after.toList.any fun e => Region.binds .any e && (Nat.beq e.on j || (pres.getD e.on []).any (Nat.beq j))
        | none => (List.range i).all fun j => o.after.toList.any fun e => Region.binds .any e && Nat.beq e.on j)

def dstsOf (all : List Eff) : List Nat := all.filterMap (·.d)

def GStep (P : Program) (ops : Array Oper) (i : Nat) (env : Env) (h : Hp) (f : Eff) : Prop :=
  ∃ o, ops[i]? = some o ∧ o.dst = f.d ∧
    ((∃ x new, (o.guard = none ∨ ∃ g want t, o.guard = some (g, want) ∧ (ops[g]?).bind (·.dst) = some t ∧ look env t = some (.b want)) ∧ FStep P ⟨o.dst, o.op, o.type, o.pos, o.after, none⟩ env h f.new.length x new ∧ x h.length = f.x ∧ new h.length = f.new) ∨
     (∃ g want t, o.guard = some (g, want) ∧ (ops[g]?).bind (·.dst) = some t ∧ (look env t = some (.b (!want)) ∨ look env t = some (.v undef)) ∧ f.x = .v undef ∧ f.new = []))

def DV (P : Program) (n : Nat × Nat) (ops : Array Oper) (pres : List (List Nat)) (ds : List Nat) (env : Env) (h : Hp) (effs : List Eff) (K : Env → Hp → Prop) : Prop :=
  ∃ more, (effs ++ more).length = pres.length ∧ dstsOf (effs ++ more) = ds ∧
    (∀ i f pre, effs.length ≤ i → (effs ++ more)[i]? = some f → pres[i]? = some pre → GStep P ops i (stE env ((effs ++ more).take i) pre) (h ++ seg (fun j => pre.any (Nat.beq j)) 0 ((effs ++ more).take i)) f) ∧
    VC P n ops (ops.toList.drop pres.length) (stE env (effs ++ more) (List.range pres.length)) (h ++ seg (fun _ => true) 0 (effs ++ more)) K

theorem dv_step {P : Program} {n : Nat × Nat} {ops : Array Oper} {pres : List (List Nat)} {ds : List Nat} {env : Env} {h : Hp} {effs : List Eff} {K : Env → Hp → Prop} {f : Eff} {pre : List Nat} {i : Nat} (hi : effs.length = i) (hp : pres[i]? = some pre)
    (hg : GStep P ops i (stE env effs pre) (h ++ seg (fun j => pre.any (Nat.beq j)) 0 effs) f) (hk : DV P n ops pres ds env h (effs ++ [f]) K) : DV P n ops pres ds env h effs K := by
  obtain ⟨more, h1, h2, h3, h4⟩ := hk
  have e : effs ++ [f] ++ more = effs ++ (f :: more) := by simp
  rw [e] at h1 h2 h3 h4
  refine ⟨f :: more, h1, h2, fun j g p hj hgj hpj => ?_, h4⟩
  by_cases hji : j = i
  · subst hji
    rw [hp] at hpj
    cases hpj
    rw [List.getElem?_append_right (by omega), hi, Nat.sub_self] at hgj
    simp at hgj
    subst hgj
    rw [List.take_append, List.take_of_length_le (by omega), hi, Nat.sub_self]
    simpa using hg
  · exact h3 j g p (by simp; omega) hgj hpj
theorem dv_end {P : Program} {n : Nat × Nat} {ops : Array Oper} {pres : List (List Nat)} {ds : List Nat} {env : Env} {h : Hp} {effs : List Eff} {K : Env → Hp → Prop} (hl : effs.length = pres.length) (hd : dstsOf effs = ds)
    (hk : VC P n ops (ops.toList.drop pres.length) (stE env effs (List.range pres.length)) (h ++ seg (fun _ => true) 0 effs) K) : DV P n ops pres ds env h effs K := by
  refine ⟨[], by simpa using hl, by simpa using hd, fun i f pre hi hf _ => ?_, by simpa using hk⟩
  have := (List.getElem?_eq_some_iff.1 hf).1
  simp at this
  omega

structure Stand (P : Program) (n : Nat × Nat) (c : Ctx) (env : Env) (h : Hp) (all : List Eff) (L : Nat → Bool) (ρ : Pl) (S : Nat → Prop) (a : Act) (w : World) : Prop where
  size : a.tmps.size = n.1
  defers : Marks c S a.defers w
  cm : c.m = n.2
  env0 : ∀ t x, look env t = some x → R S w x ρ (a.tmps.getD t undef)
  done : ∀ (i : Nat) f t, all[i]? = some f → L i = true → f.d = some t → R S w f.x ρ (a.tmps.getD t undef)
  hs : HS c ρ S (h ++ seg L 0 all) w
  undone : ∀ (i : Nat) f, all[i]? = some f → L i = false → ∀ j, j < f.new.length → ρ (h.length + lens (all.take i) + j) = none

theorem Stand.step {P : Program} {n : Nat × Nat} {c : Ctx} {env : Env} {h : Hp} {all : List Eff} {L L' : Nat → Bool} {ρ ρ' : Pl} {S S' : Nat → Prop} {a : Act} {w w' : World} {i : Nat} {f : Eff} {y : Value} (s : Stand P n c env h all L ρ S a w)
    (hf : all[i]? = some f) (hi : L i = false) (hL : ∀ j, L' j = (L j || Nat.beq j i)) (p : Post ρ ρ' S S' w w' (h.length + lens (all.take i)) f.new.length f.x f.new y) (hd : okd f.d n = true) (hnd : (dstsOf all).Nodup) (henv : ∀ t x, look env t = some x → t ∉ dstsOf all) (hm : c.m ≤ h.length) :
    Stand P n c env h all L' ρ' S' (a.put f.d y) w' := by
  have hn := s.undone i f hf hi
  have l := p.later hn s.hs.stab
  have hil : i < all.length := (List.getElem?_eq_some_iff.1 hf).1
  have dst_ne : ∀ {j : Nat} {g : Eff} {t : Nat}, all[j]? = some g → j ≠ i → g.d = some t → f.d ≠ some t := fun {j g t} hg hne hgt hft => by
    have key : ∀ {l : List Eff} {i j : Nat} {f g : Eff}, (dstsOf l).Nodup → l[i]? = some f → l[j]? = some g → i < j → f.d = some t → g.d = some t → False := by
      intro l
      induction l with
      | nil => intro i j f g _ h1; simp at h1
      | cons e l ih =>
        intro i j f g hnd h1 h2 hij hf hg
        have tail : (dstsOf l).Nodup := by
          unfold dstsOf at hnd ⊢
          rw [List.filterMap_cons] at hnd
          split at hnd
          · exact hnd
          · exact (List.nodup_cons.1 hnd).2
        cases j with
        | zero => omega
        | succ j =>
          simp only [List.getElem?_cons_succ] at h2
          cases i with
          | zero =>
            simp only [List.getElem?_cons_zero, Option.some.injEq] at h1
            subst h1
            unfold dstsOf at hnd
            rw [List.filterMap_cons, hf] at hnd
            exact (List.nodup_cons.1 hnd).1 (List.mem_filterMap.2 ⟨g, List.mem_of_getElem? h2, hg⟩)
          | succ i => exact ih tail (by simpa using h1) h2 (by omega) hf hg
    rcases Nat.lt_or_gt_of_ne hne with h1 | h1
    · exact key hnd hg hf h1 hgt hft
    · exact key hnd hf hg h1 hft hgt
  have other : ∀ {t : Nat}, f.d ≠ some t → (a.put f.d y).tmps.getD t undef = a.tmps.getD t undef := fun {t} ht => by
    cases hfd : f.d with
    | none => rfl
    | some d => exact getD_put_other (fun e => ht (by rw [hfd, e]))
  have hsplit : all = all.take i ++ f :: all.drop (i + 1) := by
    have := List.take_append_drop i all
    rw [List.drop_eq_getElem_cons hil] at this
    have e : all[i] = f := by rw [List.getElem?_eq_getElem hil] at hf; exact Option.some.inj hf
    rw [e] at this
    exact this.symm
  have hti : (all.take i).length = i := by rw [List.length_take]; omega
  have sL : ∀ M : Nat → Bool, seg M 0 all = seg M 0 (all.take i) ++ ((match M i with | true => f.new | false => List.replicate f.new.length .gone) ++ seg M (i + 1) (all.drop (i + 1))) := fun M => by
    conv => lhs; rw [hsplit]
    rw [seg_append, hti, Nat.zero_add]; rfl
  have e1 : seg L' 0 (all.take i) = seg L 0 (all.take i) := seg_congr _ _ fun j _ hj => by
    rw [hti] at hj
    rw [hL, show Nat.beq j i = false from by rw [← Bool.not_eq_true]; intro hb; have := Nat.eq_of_beq_eq_true hb; omega, Bool.or_false]
  have e2 : seg L' (i + 1) (all.drop (i + 1)) = seg L (i + 1) (all.drop (i + 1)) := seg_congr _ _ fun j hj _ => by
    rw [hL, show Nat.beq j i = false from by rw [← Bool.not_eq_true]; intro hb; have := Nat.eq_of_beq_eq_true hb; omega, Bool.or_false]
  have hLi : L' i = true := by rw [hL, Nat.beq_refl, Bool.or_true]
  have hA : h ++ seg L 0 all = h ++ (seg L 0 (all.take i) ++ (List.replicate f.new.length .gone ++ seg L (i + 1) (all.drop (i + 1)))) := by rw [sL L, hi]
  have hB : h ++ seg L' 0 all = h ++ (seg L 0 (all.take i) ++ (f.new ++ seg L (i + 1) (all.drop (i + 1)))) := by rw [sL L', hLi, e1, e2]
  have hlen := seg_length L 0 (all.take i)
  refine ⟨by rw [size_put]; exact s.size, by rw [defers_put]; exact s.defers.later l, s.cm, fun t x hx => ?_, fun j g t hg hj ht => ?_, ?_, fun j g hg hj k hk => ?_⟩
  · rw [other (fun e => henv t x hx (List.mem_filterMap.2 ⟨f, List.mem_of_getElem? hf, e⟩))]
    exact (s.env0 t x hx).later l
  · by_cases hji : j = i
    · subst hji
      rw [hf] at hg
      cases hg
      rw [ht] at hd ⊢
      have hlt : t < a.tmps.size := by rw [s.size]; exact Nat.le_of_ble_eq_true hd
      rw [getD_put_same hlt]; exact p.val
    · rw [other (dst_ne hg hji ht)]
      have hjL : L j = true := by
        rw [hL] at hj
        rcases Bool.or_eq_true_iff.1 hj with hj | hj
        · exact hj
        · exact absurd (Nat.eq_of_beq_eq_true hj) hji
      exact (s.done j g t hg hjL ht).later l
  · have hs := s.hs
    rw [hA] at hs
    rw [hB]
    refine hs.fill p hn (by simp) (fun k hk => ?_) (fun j hj => ?_) (.inl (by omega))
    · have := mid_out (h ++ seg L 0 (all.take i)) f.new (List.replicate f.new.length .gone) (seg L (i + 1) (all.drop (i + 1))) (by simp) k (by rw [List.length_append, hlen]; omega)
      simpa only [List.append_assoc] using this
    · rw [List.getElem?_append_right (by omega), List.getElem?_append_right (by omega), List.getElem?_append_left (by omega)]
      congr 1
      omega
  · have hjne : j ≠ i := fun e => by rw [e, hLi] at hj; cases hj
    have hjL : L j = false := by
      rw [hL] at hj
      exact (Bool.or_eq_false_iff.1 hj).1
    have h1 := s.undone j g hg hjL k hk
    rw [p.keep _ ?_]; exact h1
    have hjl : j < all.length := (List.getElem?_eq_some_iff.1 hg).1
    have eg : all[j] = g := by rw [List.getElem?_eq_getElem hjl] at hg; exact Option.some.inj hg
    have ef : all[i] = f := by rw [List.getElem?_eq_getElem hil] at hf; exact Option.some.inj hf
    have mono : ∀ {u v : Nat}, u < v → (hv : v ≤ all.length) → (hu : u < all.length) → lens (all.take u) + all[u].new.length ≤ lens (all.take v) := fun {u v} huv hv hu => by
      have e3 : all.take v = all.take u ++ (all[u] :: (all.take v).drop (u + 1)) := by
        have := List.take_append_drop u (all.take v)
        rw [List.take_take, Nat.min_eq_left (by omega), List.drop_eq_getElem_cons (by simp; omega)] at this
        rw [List.getElem_take] at this
        exact this.symm
      rw [e3, lens_append, lens]; omega
    rcases Nat.lt_or_gt_of_ne hjne with h2 | h2
    · left
      have := mono h2 (by omega) hjl
      rw [eg] at this
      omega
    · right
      have := mono h2 (by omega) hil
      rw [ef] at this
      omega

theorem okDraw_lt {ops : Array Oper} {pres : List (List Nat)} (hok : okDraw ops pres = true) {i : Nat} {o : Oper} (ho : ops[i]? = some o) : ∀ e, e ∈ o.after → Region.binds .any e = true → e.on < i := by
  intro e he hb
  have hlt : i < ops.size := (Array.getElem?_eq_some_iff.1 ho).1
  have h := List.all_eq_true.1 hok i (by simpa using hlt)
  rw [ho] at h
  simp only [Bool.and_eq_true, List.all_eq_true] at h
  have := h.1 e (by simpa using he)
  simpa [hb] using this
theorem okDraw_pre {ops : Array Oper} {pres : List (List Nat)} (hok : okDraw ops pres = true) {i : Nat} {o : Oper} {pre : List Nat} (ho : ops[i]? = some o) (hp : pres[i]? = some pre) : ∀ j, j ∈ pre → j < i ∧ ∃ e, e ∈ o.after ∧ Region.binds .any e = true ∧ (e.on = j ∨ j ∈ pres.getD e.on []) := by
  intro j hj
  have hlt : i < ops.size := (Array.getElem?_eq_some_iff.1 ho).1
  have h := List.all_eq_true.1 hok i (by simpa using hlt)
  rw [ho] at h
  simp only [hp, Bool.and_eq_true, List.all_eq_true] at h
  have := h.2 j hj
  simp only [decide_eq_true_eq, List.any_eq_true, Bool.and_eq_true, Bool.or_eq_true] at this
  obtain ⟨h1, e, h2, h3, h4⟩ := this
  refine ⟨h1, e, by simpa using h2, h3, ?_⟩
  rcases h4 with h4 | ⟨x, h5, h6⟩
  · exact .inl (Nat.eq_of_beq_eq_true h4)
  · right; rw [Nat.eq_of_beq_eq_true h6]; exact h5
theorem okDraw_tail {ops : Array Oper} {pres : List (List Nat)} (hok : okDraw ops pres = true) {i : Nat} {o : Oper} (ho : ops[i]? = some o) (hp : pres.length ≤ i) : ∀ j, j < i → ∃ e, e ∈ o.after ∧ Region.binds .any e = true ∧ e.on = j := by
  intro j hj
  have hlt : i < ops.size := (Array.getElem?_eq_some_iff.1 ho).1
  have h := List.all_eq_true.1 hok i (by simpa using hlt)
  rw [ho] at h
  simp only [List.getElem?_eq_none hp, Bool.and_eq_true, List.all_eq_true] at h
  have := h.2 j (by simpa using hj)
  simp only [List.any_eq_true, Bool.and_eq_true] at this
  obtain ⟨e, h2, h3, h4⟩ := this
  exact ⟨e, by simpa using h2, h3, Nat.eq_of_beq_eq_true h4⟩

theorem wpAny_tail {P : Program} {ops : Array Oper} {pres : List (List Nat)} {Q : Exit → Act → World → Prop} (hok : okDraw ops pres = true) : ∀ (r k fuel : Nat) (listed : Array Bool) (a : Act) (w : World), k + r = ops.size → pres.length ≤ k → r ≤ fuel → listed.size = ops.size → (∀ j, j < ops.size → listed.getD j false = decide (j < k)) →
    wpList P ops Q (ops.toList.drop k) a w → wpAny P .any ops Q fuel listed a w := by
  intro r
  induction r with
  | zero =>
    intro k fuel listed a w hk _ _ hsz hl h
    have hk' : k = ops.size := by omega
    have hr : Region.ready .any ops listed = [] := by
      rw [List.eq_nil_iff_forall_not_mem]
      intro i hi
      obtain ⟨h1, o, ho, _⟩ := mem_ready.1 hi
      have hlt : i < ops.size := (Array.getElem?_eq_some_iff.1 ho).1
      have := hl i hlt
      have e : listed.getD i true = listed.getD i false := by simp [Array.getD, hsz, hlt]
      rw [e, this] at h1
      simp at h1; omega
    rw [List.drop_of_length_le (by simp; omega)] at h
    cases fuel with
    | zero => exact ⟨hr, h⟩
    | succ fuel => exact ⟨fun _ => h, fun i hi => by rw [hr] at hi; cases hi⟩
  | succ r ih =>
    intro k fuel listed a w hk hp hf hsz hl h
    obtain ⟨fuel, rfl⟩ : ∃ f, fuel = f + 1 := ⟨fuel - 1, by omega⟩
    have hlt : k < ops.size := by omega
    have ho : ops[k]? = some ops[k] := Array.getElem?_eq_getElem hlt
    have hin : k ∈ Region.ready .any ops listed := mem_ready.2 ⟨by
      have e : listed.getD k true = listed.getD k false := by simp [Array.getD, hsz, hlt]
      rw [e, hl k hlt]; simp, ops[k], ho, fun e he hb => by
      have := okDraw_lt hok ho e he hb
      rw [hl e.on (by omega)]; simpa using this⟩
    refine ⟨(fun hr => by rw [hr] at hin; cases hin), fun i hi => ?_⟩
    obtain ⟨h1, o, hoi, hall⟩ := mem_ready.1 hi
    have hil : i < ops.size := (Array.getElem?_eq_some_iff.1 hoi).1
    have hik : i = k := by
      have e : listed.getD i true = listed.getD i false := by simp [Array.getD, hsz, hil]
      rw [e, hl i hil] at h1
      have h2 : k ≤ i := by simpa using h1
      rcases Nat.eq_or_lt_of_le h2 with h3 | h3
      · exact h3.symm
      · obtain ⟨e, he, hb, hon⟩ := okDraw_tail hok hoi (by omega) k h3
        have := hall e he hb
        rw [hon, hl k hlt] at this
        simp at this
    subst hik
    have hlist : ops.toList.drop i = ops[i] :: ops.toList.drop (i + 1) := by
      rw [List.drop_eq_getElem_cons (by simpa using hlt)]; simp
    rw [hlist] at h
    have : wpOp P ops Q i (wpList P ops Q (ops.toList.drop (i + 1))) a w := by
      unfold wpOp
      rw [ho]
      exact h
    refine wpOp_mono (fun a' w' h' => ih (i + 1) fuel _ a' w' (by omega) (by omega) (by omega) (by simpa using hsz) (fun j hj => ?_) h') this
    by_cases hij : i = j
    · subst hij
      simp [Array.getD, hsz, hlt]
    · rw [getD_set_ne false hij, hl j hj]
      simp; omega

theorem any_draw {P : Program} {n : Nat × Nat} {env : Env} {h : Hp} {KK : Env → Hp → Prop} {l : List Oper} (pres : List (List Nat)) (ds : List Nat) (hok : okDraw l.toArray pres = true) (hnd : ds.Nodup) (hds : (ds.all fun d => Nat.blt d n.1) = true) (hsz : Nat.ble pres.length l.length = true)
    (hv : DV P n l.toArray pres ds (dropE ds env) h [] KK) : ∀ c ρ S a w QQ, Sim n c ρ S env h a w → (∀ env' h' ρ' S' a' w', KK env' h' → Sim n c ρ' S' env' h' a' w' → QQ Exit.normal a' w') →
    wpAny P .any l.toArray QQ l.toArray.size (Array.replicate l.toArray.size false) a { w with drawn := w.drawn + 1 } := by
  intro c ρ S a w QQ s hQ
  obtain ⟨all, h1, h2, h3, h4⟩ := hv
  simp only [List.nil_append, List.length_nil, Nat.zero_le, true_implies] at h1 h2 h3 h4
  have hple : pres.length ≤ l.toArray.size := by simpa using Nat.le_of_ble_eq_true hsz
  have henv : ∀ t x, look (dropE ds env) t = some x → look env t = some x ∧ t ∉ dstsOf all := fun t x hx => by rw [h2]; exact look_dropE hx
  -- the first operations, in whatever order
  have key : ∀ (fuel : Nat) (listed : Array Bool) (U : List Nat) (ρ : Pl) (S : Nat → Prop) (a : Act) (w : World), listed.size = l.toArray.size → (∀ j, j < l.toArray.size → listed.getD j false = false → j ∈ U) → U.length ≤ fuel → (∀ j, pres.length ≤ j → listed.getD j false = false) →
      (∀ (i : Nat) o, l.toArray[i]? = some o → listed.getD i false = true → ∀ e, e ∈ o.after → Region.binds .any e = true → listed.getD e.on false = true) →
      Stand P n c (dropE ds env) h all (fun j => listed.getD j false) ρ S a w → wpAny P .any l.toArray QQ fuel listed a w := by
    intro fuel
    induction fuel with
    | zero =>
      intro listed U ρ S a w hls hU hUl htail hcl st
      have hU0 : U = [] := List.eq_nil_of_length_eq_zero (by omega)
      subst hU0
      have hall : ∀ j, j < l.toArray.size → listed.getD j false = true := fun j hj => by
        cases hb : listed.getD j false with
        | true => rfl
        | false => exact absurd (hU j hj hb) (by simp)
      have hpm : pres.length = l.toArray.size := by
        rcases Nat.lt_or_ge pres.length l.toArray.size with h5 | h5
        · have := htail pres.length (Nat.le_refl _)
          rw [hall _ h5] at this; cases this
        · omega
      refine wpAny_tail (k := pres.length) (r := 0) hok _ _ a w (by omega) (Nat.le_refl _) (Nat.le_refl _) hls (fun j hj => ?_) (h4 c ρ S a w QQ ?_ fun env' h' ρ' S' a' w' k s' => hQ env' h' ρ' S' a' w' k s')
      · rw [hall j hj]; simp; omega
      · refine ⟨st.size, st.defers, fun t x hx => ?_, ?_, st.cm⟩
        · rcases stE_look hx with hx | ⟨j, f, h5, h6, h7, rfl⟩
          · exact st.env0 t x hx
          · exact st.done j f t h6 (hall j (by have := (List.getElem?_eq_some_iff.1 h6).1; omega)) h7
        · have := st.hs
          rwa [seg_congr (L := fun j => listed.getD j false) (L' := fun _ => true) all 0 (fun j _ hj => hall j (by omega))] at this
    | succ fuel ih =>
      intro listed U ρ S a w hls hU hUl htail hcl st
      by_cases hfl : ∀ j, j < pres.length → listed.getD j false = true
      · -- all of the first ones have come up
        refine wpAny_tail (k := pres.length) (r := l.toArray.size - pres.length) hok _ _ a w (by omega) (Nat.le_refl _) ?_ hls (fun j hj => ?_) (h4 c ρ S a w QQ ?_ fun env' h' ρ' S' a' w' k s' => hQ env' h' ρ' S' a' w' k s')
        · have hsub : ∀ j, j ∈ List.range' pres.length (l.toArray.size - pres.length) → j ∈ U := fun j hj => by
            rw [List.mem_range'_1] at hj
            exact hU j (by omega) (htail j hj.1)
          have := (List.nodup_range' (s := pres.length) (n := l.toArray.size - pres.length)).length_le_of_subset hsub
          rw [List.length_range'] at this
          omega
        · by_cases hj' : j < pres.length
          · rw [hfl j hj']; simp [hj']
          · rw [htail j (by omega)]; simp; omega
        · refine ⟨st.size, st.defers, fun t x hx => ?_, ?_, st.cm⟩
          · rcases stE_look hx with hx | ⟨j, f, h5, h6, h7, rfl⟩
            · exact st.env0 t x hx
            · exact st.done j f t h6 (hfl j (by have := (List.getElem?_eq_some_iff.1 h6).1; omega)) h7
          · have := st.hs
            rwa [seg_congr (L := fun j => listed.getD j false) (L' := fun _ => true) all 0 (fun j _ hj => hfl j (by omega))] at this
      · obtain ⟨j0, hj0, hjf⟩ : ∃ j, j < pres.length ∧ listed.getD j false = false := by
          apply Classical.byContradiction
          intro hc
          apply hfl
          intro j hj
          cases hb : listed.getD j false with
          | true => rfl
          | false => exact absurd ⟨j, hj, hb⟩ hc
        -- something is ready
        have hex : Region.ready .any l.toArray listed ≠ [] := by
          have least : ∃ j, j < pres.length ∧ listed.getD j false = false ∧ ∀ k, k < j → listed.getD k false = true := by
            have : ∀ b j, j ≤ b → j < pres.length → listed.getD j false = false → ∃ j, j < pres.length ∧ listed.getD j false = false ∧ ∀ k, k < j → listed.getD k false = true := by
              intro b
              induction b with
              | zero => exact fun j hj h5 h6 => ⟨j, h5, h6, fun k hk => by omega⟩
              | succ b ihb =>
                intro j hj h5 h6
                by_cases hk : ∃ k, k < j ∧ listed.getD k false = false
                · obtain ⟨k, hk1, hk2⟩ := hk
                  exact ihb k (by omega) (by omega) hk2
                · refine ⟨j, h5, h6, fun k hk' => ?_⟩
                  cases hb : listed.getD k false with
                  | true => rfl
                  | false => exact absurd ⟨k, hk', hb⟩ hk
            exact this j0 j0 (Nat.le_refl _) hj0 hjf
          obtain ⟨j, h5, h6, h7⟩ := least
          intro he
          have hlt : j < l.toArray.size := by omega
          have : j ∈ Region.ready .any l.toArray listed := mem_ready.2 ⟨by
            have e : listed.getD j true = listed.getD j false := by simp only [Array.getD, hls, hlt, dif_pos]
            rw [e, h6], _, Array.getElem?_eq_getElem hlt, fun e he hb => h7 _ (okDraw_lt hok (Array.getElem?_eq_getElem hlt) e he hb)⟩
          rw [he] at this; cases this
        refine ⟨fun h5 => absurd h5 hex, fun i hi => ?_⟩
        obtain ⟨g1, o, ho, hall⟩ := mem_ready.1 hi
        have hil : i < l.toArray.size := (Array.getElem?_eq_some_iff.1 ho).1
        have g1' : listed.getD i false = false := by
          have e : listed.getD i true = listed.getD i false := by simp only [Array.getD, hls, hil, dif_pos]
          rw [← e]; exact g1
        have him : i < pres.length := by
          rcases Nat.lt_or_ge i pres.length with h5 | h5
          · exact h5
          · obtain ⟨e, he, hb, hon⟩ := okDraw_tail hok ho h5 j0 (by omega)
            have := hall e he hb
            rw [hon, hjf] at this; cases this
        have hfi : all[i]? = some all[i] := List.getElem?_eq_getElem (by omega)
        obtain ⟨pre, hpre⟩ : ∃ pre, pres[i]? = some pre := ⟨_, List.getElem?_eq_getElem him⟩
        obtain ⟨o', ho', hd', hg⟩ := h3 i all[i] pre hfi hpre
        rw [ho] at ho'
        cases ho'
        -- its predecessors have come up
        have hprel : ∀ j, j ∈ pre → listed.getD j false = true := by
          have up : ∀ (b k : Nat) (p : List Nat), k ≤ b → pres[k]? = some p → (k = i ∨ listed.getD k false = true) → ∀ j, j ∈ p → listed.getD j false = true := by
            intro b
            induction b with
            | zero =>
              intro k p hk hp _ j hj
              obtain ⟨ok, hok1⟩ : ∃ o, l.toArray[k]? = some o := ⟨_, Array.getElem?_eq_getElem (by have := (List.getElem?_eq_some_iff.1 hp).1; omega)⟩
              have := (okDraw_pre hok hok1 hp j hj).1
              omega
            | succ b ihb =>
              intro k p hk hp hki j hj
              obtain ⟨ok, hok1⟩ : ∃ o, l.toArray[k]? = some o := ⟨_, Array.getElem?_eq_getElem (by have := (List.getElem?_eq_some_iff.1 hp).1; omega)⟩
              obtain ⟨_, e, he, hb, hor⟩ := okDraw_pre hok hok1 hp j hj
              have hle : listed.getD e.on false = true := by
                rcases hki with rfl | hki
                · rw [ho] at hok1; cases hok1; exact hall e he hb
                · exact hcl k ok hok1 hki e he hb
              rcases hor with hor | hor
              · rw [← hor]; exact hle
              · have hon := okDraw_lt hok hok1 e he hb
                cases hpe : pres[e.on]? with
                | none => rw [List.getD_eq_getElem?_getD, hpe] at hor; simp at hor
                | some p' =>
                  rw [List.getD_eq_getElem?_getD, hpe] at hor
                  exact ihb e.on p' (by omega) hpe (.inr hle) j hor
          exact up i i pre (Nat.le_refl _) hpre (.inl rfl)
        have hpreP : Pre ρ S (stE (dropE ds env) (all.take i) pre) (h ++ seg (fun j => pre.any (Nat.beq j)) 0 (all.take i)) a w := by
          have sub : ∀ (k : Nat) b, (h ++ seg (fun j => pre.any (Nat.beq j)) 0 (all.take i))[k]? = some b → b ≠ .gone → (h ++ seg (fun j => listed.getD j false) 0 all)[k]? = some b := fun k b hb hgb => by
            by_cases hk : k < h.length
            · rw [List.getElem?_append_left hk] at hb ⊢; exact hb
            · rw [List.getElem?_append_right (by omega)] at hb ⊢
              have h5 := seg_mono (L' := fun j => listed.getD j false) _ _ _ _ (fun j hj => hprel j (any_beq.1 hj)) hb hgb
              have h6 : seg (fun j => listed.getD j false) 0 all = seg (fun j => listed.getD j false) 0 (all.take i) ++ seg (fun j => listed.getD j false) (0 + (all.take i).length) (all.drop i) := by
                rw [← seg_append, List.take_append_drop]
              rw [h6, List.getElem?_append_left (List.getElem?_eq_some_iff.1 h5).1]
              exact h5
          refine ⟨fun t x hx => ?_, st.hs.rng, fun k b hb => ?_, fun k b p hb hgb hp => (st.hs.live k b p (sub k b hb hgb) hgb hp).2, st.hs.stab, st.hs.glob⟩
          · rcases stE_look hx with hx | ⟨j, f, h5, h6, h7, rfl⟩
            · exact st.env0 t x hx
            · rw [List.getElem?_take] at h6
              split at h6
              · exact st.done j f t h6 (hprel j h5) h7
              · cases h6
          · by_cases hgb : b = .gone
            · subst hgb; trivial
            · exact st.hs.blk k b (sub k b hb hgb)
        have hposl : (h ++ seg (fun j => pre.any (Nat.beq j)) 0 (all.take i)).length = h.length + lens (all.take i) := by rw [List.length_append, seg_length]
        have hokd : okd all[i].d n = true := by
          cases hdi : all[i].d with
          | none => rfl
          | some d =>
            have : d ∈ ds := by rw [← h2]; exact List.mem_filterMap.2 ⟨all[i], List.getElem_mem _, hdi⟩
            exact List.all_eq_true.1 hds d this
        -- on, behind it
        have on : ∀ y ρ' S' w', Post ρ ρ' S S' w w' (h.length + lens (all.take i)) all[i].new.length all[i].x all[i].new y → wpAny P .any l.toArray QQ fuel (listed.setIfInBounds i true) (a.put all[i].d y) w' := fun y ρ' S' w' p => by
          have hiU : i ∈ U := hU i hil g1'
          have hget : ∀ j, (listed.setIfInBounds i true).getD j false = (listed.getD j false || Nat.beq j i) := fun j => by
            by_cases hij : i = j
            · subst hij
              rw [Nat.beq_refl, Bool.or_true]
              simp only [Array.getD, Array.size_setIfInBounds, hls, hil, dif_pos]
              simp
            · rw [getD_set_ne false hij, show Nat.beq j i = false from by rw [← Bool.not_eq_true]; intro hb; have := Nat.eq_of_beq_eq_true hb; omega, Bool.or_false]
          refine ih (listed.setIfInBounds i true) (U.erase i) ρ' S' _ w' (by simpa using hls) (fun j hj hjl => ?_) (by rw [List.length_erase_of_mem hiU]; omega) (fun j hj => ?_) (fun k ok hok1 hkl e he hb => ?_) (st.step (L' := fun j => (listed.setIfInBounds i true).getD j false) hfi g1' hget p hokd (by rw [h2]; exact hnd) (fun t x hx => (henv t x hx).2) s.hs.mle)
          · rw [hget] at hjl
            obtain ⟨h5, h6⟩ := Bool.or_eq_false_iff.1 hjl
            have hne : j ≠ i := fun e => by rw [e, Nat.beq_refl] at h6; cases h6
            exact (List.mem_erase_of_ne hne).2 (hU j hj h5)
          · rw [hget, htail j hj, show Nat.beq j i = false from by rw [← Bool.not_eq_true]; intro hb; have := Nat.eq_of_beq_eq_true hb; omega]; rfl
          · rw [hget] at hkl ⊢
            rcases Bool.or_eq_true_iff.1 hkl with h5 | h5
            · rw [hcl k ok hok1 h5 e he hb]; rfl
            · have := Nat.eq_of_beq_eq_true h5
              subst this
              rw [ho] at hok1
              cases hok1
              rw [hall e he hb]; rfl
        have yv : ∀ {g t : Nat} {b : Bool}, (l.toArray[g]?).bind (·.dst) = some t → look (stE (dropE ds env) (all.take i) pre) t = some (.b b) → yielded l.toArray a.tmps g = some b := fun {g t b} h5 h6 => by
          have h7 := R_v (hpreP.env t _ h6)
          unfold yielded
          rw [h5]
          have : a.tmps[t]? = some (.bool b) := by
            rw [Array.getD_eq_getD_getElem?] at h7
            cases h8 : a.tmps[t]? with
            | none => rw [h8] at h7; simp [undef] at h7
            | some v => rw [h8] at h7; simp at h7; rw [h7]
          simp [this]
        have yvu : ∀ {g t : Nat}, (l.toArray[g]?).bind (·.dst) = some t → look (stE (dropE ds env) (all.take i) pre) t = some (.v undef) → yielded l.toArray a.tmps g = none := fun {g t} h5 h6 => by
          have h7 := R_v (hpreP.env t _ h6)
          unfold yielded
          rw [h5]
          rw [Array.getD_eq_getD_getElem?] at h7
          cases h8 : a.tmps[t]? with
          | none => simp [h8]
          | some v => rw [h8] at h7; simp at h7; simp [h8, h7, undef]
        unfold wpOp
        rw [ho]
        simp only
        rcases hg with ⟨x, new, hgu, hfs, hx, hn⟩ | ⟨g, want, t, hgu, h5, h6, hx, hn⟩
        · have hw : Region.wanted o (yielded l.toArray a.tmps) = true := by
            rcases hgu with hgu | ⟨g, want, t, hgu, h5, h6⟩
            · exact wanted_none hgu
            · simp [Region.wanted, hgu, yv h5 h6]
          rw [if_pos hw]
          left
          have := hfs ρ S a w hpreP (h ++ seg (fun j => pre.any (Nat.beq j)) 0 (all.take i)).length (fun j hj => by rw [hposl]; exact st.undone i _ hfi g1' j hj)
          refine this (wpAny P .any l.toArray QQ fuel (listed.setIfInBounds i true)) QQ fun y ρ' S' w' p => ?_
          rw [hx, hn, hposl] at p
          have := on y ρ' S' w' p
          rw [← hd'] at this
          exact this
        · have hw : Region.wanted o (yielded l.toArray a.tmps) = false := by
            rcases h6 with h6 | h6
            · simp [Region.wanted, hgu, yv h5 h6]
            · simp [Region.wanted, hgu, yvu h5 h6]
          rw [if_neg (by rw [hw]; exact Bool.false_ne_true)]
          have := on undef ρ S w ⟨Ext.refl _ _, rfl, fun _ _ => rfl, fun _ h => h, fun _ h => .inl h, fun k p hk1 hk2 => by rw [hn] at hk2; simp at hk2; omega, fun k k' p p' hk1 hk2 => by rw [hn] at hk2; simp at hk2; omega, by rw [hx]; exact R_v_mk _, fun j b hb => by rw [hn] at hb; simp at hb⟩
          rw [← hd'] at this
          exact this
  have hsize : l.toArray.size = l.length := by simp
  have hrep : ∀ j, (Array.replicate l.toArray.size false).getD j false = false := fun j => by
    simp only [Array.getD]
    split <;> simp
  refine key l.toArray.size _ (List.range l.toArray.size) ρ S a _ (by simp) (fun j hj _ => by simpa using hj) (by simp) (fun j _ => hrep j) (fun i o _ hi => by rw [hrep] at hi; cases hi) ?_
  have hseg : ∀ (r : List Eff) (i : Nat), seg (fun _ => false) i r = List.replicate (lens r) .gone := by
    intro r
    induction r with
    | nil => intro i; rfl
    | cons f r ih => intro i; simp only [seg, ih, lens, List.replicate_append_replicate]
  have hL : (fun j => (Array.replicate l.toArray.size false).getD j false) = fun _ => false := funext hrep
  rw [hL]
  have l0 : Later ρ ρ S S w { w with drawn := w.drawn + 1 } := ⟨fun _ _ h => h, fun _ h => h, fun _ _ => rfl, fun _ _ _ _ _ h => h⟩
  refine ⟨s.size, s.defers.later l0, s.cm, fun t x hx => (s.env t x (look_dropE hx).1).later l0, fun i f t _ hi => (by cases hi), ?_, fun i f _ _ j _ => s.hs.dom _ (by omega)⟩
  rw [hseg]
  have ext : Ext c.M c.w0 { w with drawn := w.drawn + 1 } := s.hs.ext.drew
  have at_ : ∀ {k : Nat} {b : AB}, (h ++ List.replicate (lens all) .gone)[k]? = some b → b ≠ .gone → h[k]? = some b := fun {k b} hb hg => by
    by_cases hk : k < h.length
    · rwa [List.getElem?_append_left hk] at hb
    · rw [List.getElem?_append_right (by omega), List.getElem?_replicate] at hb
      split at hb
      · cases hb; exact absurd rfl hg
      · cases hb
  refine ⟨fun k hk => s.hs.dom k (by simp at hk; omega), s.hs.rng, fun k b hb => ?_, fun k b p hb hg hp => s.hs.live k b p (at_ hb hg) hg hp, fun k k' b b' p p' hb hb' hg hg' hp hp' e => s.hs.inj k k' b b' p p' (at_ hb hg) (at_ hb' hg') hg hg' hp hp' e, s.hs.stab, ext, s.hs.st0, s.hs.st1, by simp; exact Nat.le_trans s.hs.mle (Nat.le_add_right _ _), s.hs.keep, s.hs.glob.later l0⟩
  by_cases hg : b = .gone
  · subst hg; trivial
  · exact RB.later l0 (fun _ _ _ => rfl) (s.hs.blk k b (at_ hb hg))

theorem region_any_in {P : Program} {QQ : Exit → Act → World → Prop} {id : Nat} {l : List Oper} {a : Act} {w : World} {r : Option Nat} (hm : P.follows .mixedOrders = true) (hnd : noDef l = true) (h : wpAny P .any l.toArray (fun e a w => e = .normal ∧ QQ .normal a w) l.toArray.size (Array.replicate l.toArray.size false) a { w with drawn := w.drawn + 1 }) :
    (Code.region id l.toArray true).wpIn (rd r) 0 P QQ a w :=
  wpIn_mono (wpIn_region_any hm (wpAny_in (fun e a w h => h.1) hnd h)) fun e a w he => by obtain ⟨rfl, h3⟩ := he; exact h3
end Go.Ab

/-! A logic of values for the walk, thirteenth part: the steps through a region that draws its order; objects that no longer change. -/
namespace Go.Ab
open Go
set_option linter.unusedVariables false
set_option linter.unusedSimpArgs false

theorem stE_range {env : Env} {all : List Eff} : ∀ (s n : Nat), s + n = all.length → stE env all (List.range' s n) = (all.drop s).foldr (fun f e => putd f.d f.x e) env
  | s, 0, h => by rw [List.drop_of_length_le (by omega)]; rfl
  | s, n + 1, h => by
    have hlt : s < all.length := by omega
    rw [List.range'_succ, List.drop_eq_getElem_cons hlt]
    simp only [stE, List.getElem?_eq_getElem hlt, List.foldr_cons]
    rw [stE_range (s + 1) n (by omega)]
theorem seg_true : ∀ (i : Nat) (l : List Eff), seg (fun _ => true) i l = l.flatMap (·.new)
  | _, [] => rfl
  | i, f :: r => by simp only [seg, List.flatMap_cons, seg_true (i + 1) r]

def envOf (env : Env) : List Eff → Env
  | [] => env
  | f :: r => putd f.d f.x (envOf env r)
def hpOf : List Eff → Hp
  | [] => []
  | f :: r => f.new ++ hpOf r
theorem envOf_eq (env : Env) : ∀ l : List Eff, envOf env l = l.foldr (fun f e => putd f.d f.x e) env
  | [] => rfl
  | f :: r => by simp only [envOf, List.foldr_cons, envOf_eq env r]
theorem hpOf_eq : ∀ l : List Eff, hpOf l = l.flatMap (·.new)
  | [] => rfl
  | f :: r => by simp only [hpOf, List.flatMap_cons, hpOf_eq r]

section
variable {P : Program} {n : Nat × Nat} {ops : Array Oper} {pres : List (List Nat)} {ds : List Nat} {env : Env} {h : Hp} {effs : List Eff} {K : Env → Hp → Prop} {pre : List Nat}
variable {op : Op} {ty : TypeId} {pos : String} {af : Array Edge} {d : Option Nat}

theorem dv_v {u : AV} (hp : pres[effs.length]? = some pre) (ho : ops[effs.length]? = some ⟨d, op, ty, pos, af, none⟩) (hs : FStep P ⟨d, op, ty, pos, af, none⟩ (stE env effs pre) (h ++ seg (fun j => pre.any (Nat.beq j)) 0 effs) 0 (fun _ => u) (fun _ => []))
    (hk : DV P n ops pres ds env h (effs ++ [⟨d, u, []⟩]) K) : DV P n ops pres ds env h effs K :=
  dv_step (f := ⟨d, u, []⟩) rfl hp ⟨_, ho, rfl, .inl ⟨fun _ => u, fun _ => [], .inl rfl, hs, rfl, rfl⟩⟩ hk
theorem dv_n {u : Nat → AV} {b : Nat → List AB} {m : Nat} (hp : pres[effs.length]? = some pre) (ho : ops[effs.length]? = some ⟨d, op, ty, pos, af, none⟩) (hs : FStep P ⟨d, op, ty, pos, af, none⟩ (stE env effs pre) (h ++ seg (fun j => pre.any (Nat.beq j)) 0 effs) m u b)
    (hm : (b (h ++ seg (fun j => pre.any (Nat.beq j)) 0 effs).length).length = m)
    (hk : DV P n ops pres ds env h (effs ++ [⟨d, u (h ++ seg (fun j => pre.any (Nat.beq j)) 0 effs).length, b (h ++ seg (fun j => pre.any (Nat.beq j)) 0 effs).length⟩]) K) : DV P n ops pres ds env h effs K :=
  dv_step rfl hp ⟨_, ho, rfl, .inl ⟨u, b, .inl rfl, by simp only [hm]; exact hs, rfl, rfl⟩⟩ hk
theorem dv_gt {u : AV} {g t : Nat} {want : Bool} (hp : pres[effs.length]? = some pre) (ho : ops[effs.length]? = some ⟨d, op, ty, pos, af, some (g, want)⟩) (hj : (ops[g]?).bind (·.dst) = some t) (hl : look (stE env effs pre) t = some (.b want)) (hs : FStep P ⟨d, op, ty, pos, af, none⟩ (stE env effs pre) (h ++ seg (fun j => pre.any (Nat.beq j)) 0 effs) 0 (fun _ => u) (fun _ => []))
    (hk : DV P n ops pres ds env h (effs ++ [⟨d, u, []⟩]) K) : DV P n ops pres ds env h effs K :=
  dv_step (f := ⟨d, u, []⟩) rfl hp ⟨_, ho, rfl, .inl ⟨fun _ => u, fun _ => [], .inr ⟨g, want, t, rfl, hj, hl⟩, hs, rfl, rfl⟩⟩ hk
theorem dv_gf {g t : Nat} {want : Bool} (hp : pres[effs.length]? = some pre) (ho : ops[effs.length]? = some ⟨d, op, ty, pos, af, some (g, want)⟩) (hj : (ops[g]?).bind (·.dst) = some t) (hl : look (stE env effs pre) t = some (.b (!want)))
    (hk : DV P n ops pres ds env h (effs ++ [⟨d, .v undef, []⟩]) K) : DV P n ops pres ds env h effs K :=
  dv_step rfl hp ⟨_, ho, rfl, .inr ⟨g, want, t, rfl, hj, .inl hl, rfl, rfl⟩⟩ hk
theorem dv_gu {g t : Nat} {want : Bool} (hp : pres[effs.length]? = some pre) (ho : ops[effs.length]? = some ⟨d, op, ty, pos, af, some (g, want)⟩) (hj : (ops[g]?).bind (·.dst) = some t) (hl : look (stE env effs pre) t = some (.v undef))
    (hk : DV P n ops pres ds env h (effs ++ [⟨d, .v undef, []⟩]) K) : DV P n ops pres ds env h effs K :=
  dv_step rfl hp ⟨_, ho, rfl, .inr ⟨g, want, t, rfl, hj, .inr hl, rfl, rfl⟩⟩ hk
theorem dv_fin {rest : List Oper} {env' : Env} {h' : Hp} (hl : effs.length = pres.length) (hd : dstsOf effs = ds) (hr : ops.toList.drop pres.length = rest) (he : envOf env effs = env') (hh : h ++ hpOf effs = h')
    (hk : VC P n ops rest env' h' K) : DV P n ops pres ds env h effs K := by
  refine dv_end hl hd ?_
  rw [← hl, List.range_eq_range', stE_range 0 effs.length (by omega), List.drop_zero, ← envOf_eq, seg_true, ← hpOf_eq, hl, hr, he, hh]
  exact hk
end

/-! ### Objects that no longer change -/
theorem R_st {S S' : Nat → Prop} {w : World} {ρ : Pl} {x : AV} {y : Value} (hS : ∀ b, S b → S' b) (h : R S w x ρ y) : R S' w x ρ y :=
  R_later hS (fun _ _ => rfl) x ρ ρ y (fun _ _ h => h) (fun _ _ _ _ _ h => h) h
theorem RL_st {S S' : Nat → Prop} {w : World} {ρ : Pl} {x : List AV} {y : List Value} (hS : ∀ b, S b → S' b) (h : RL S w x ρ y) : RL S' w x ρ y :=
  RL_later hS (fun _ _ => rfl) x ρ ρ y (fun _ _ h => h) (fun _ _ _ _ _ h => h) h

theorem frz_val {S : Nat → Prop} {w : World} {ρ : Pl} {k sz : Nat} {es : List (List AV)} (hi : AV.idfL es.flatten = true) (hb : RB S w ρ (ρ k) (.arr es sz)) {y : Value} (hy : R S w (.sl k 0 es.length sz) ρ y) : R (fun c => S c ∨ ∃ o, ρ k = some (c, o)) w (.rowE es sz) ρ y := by
  simp only [RB] at hb
  obtain ⟨hl, h0, hb⟩ := hb
  simp only [R] at hy ⊢
  obtain ⟨a, cap, rfl, hcm, hc⟩ := hy
  rcases hc with ⟨h1, rfl⟩ | ⟨b, o, h5, rfl, h7, h8⟩
  · exact ⟨a, 0, rfl, by omega, fun _ => rfl, hcm, length_flatten_of hl, .inl h1⟩
  · refine ⟨_, cap, rfl, h7, (fun e => by cases e), hcm, length_flatten_of hl, ?_⟩
    rcases hb with ⟨rfl, _⟩ | ⟨b', o', ys, g1, g2, g3⟩
    · exact .inl rfl
    · rw [h5] at g1
      cases g1
      exact .inr ⟨b, o, ys, by simp, .inr ⟨o, h5⟩, g2.lies, RL_st (fun _ h => .inl h) (RL_idf ρ _ _ _ hi g3)⟩

theorem HS.freeze {c : Ctx} {ρ : Pl} {S : Nat → Prop} {h : Hp} {w : World} {k sz : Nat} {es : List (List AV)} (s : HS c ρ S h w) (hk : h[k]? = some (.arr es sz)) : HS c ρ (fun b => S b ∨ ∃ o, ρ k = some (b, o)) (h.set k .gone) w := by
  have get : ∀ {j : Nat} {b : AB}, (h.set k .gone)[j]? = some b → b ≠ .gone → j ≠ k ∧ h[j]? = some b := fun {j b} hj hg => by
    rw [List.getElem?_set] at hj
    split at hj
    · split at hj
      · cases hj; exact absurd rfl hg
      · cases hj
    · rename_i e; exact ⟨fun e' => e e'.symm, hj⟩
  have l : Later ρ ρ S (fun b => S b ∨ ∃ o, ρ k = some (b, o)) w w := ⟨fun _ _ h => h, fun _ h => .inl h, fun _ _ => rfl, fun _ _ _ _ _ h => h⟩
  refine ⟨fun j hj => s.dom j (by simpa using hj), s.rng, fun j b hb => ?_, fun j b p hb hg hp => ?_, fun j j' b b' p p' hb hb' hg hg' hp hp' e => s.inj j j' b b' p p' (get hb hg).2 (get hb' hg').2 hg hg' hp hp' e, fun b hb => ?_, s.ext, fun b hb => .inl (s.st0 b hb), fun b hb => ?_, by simpa using s.mle, s.keep, s.glob.st (fun b hb => .inl hb)⟩
  · by_cases hg : b = .gone
    · subst hg; trivial
    · exact RB.later l (fun _ _ _ => rfl) (s.blk j b (get hb hg).2)
  · obtain ⟨h1, h2⟩ := s.live j b p (get hb hg).2 hg hp
    refine ⟨h1, fun hs => ?_⟩
    rcases hs with hs | ⟨o, ho⟩
    · exact h2 hs
    · exact (get hb hg).1 (s.inj j k b _ p _ (get hb hg).2 hk hg (by simp) hp ho rfl)
  · rcases hb with hb | ⟨o, ho⟩
    · exact s.stab b hb
    · exact s.rng k _ ho
  · rcases hb with hb | ⟨o, ho⟩
    · exact s.st1 b hb
    · exact .inr (s.live k _ _ hk (by simp) ho).1

theorem Sim.freeze {n : Nat × Nat} {c : Ctx} {ρ : Pl} {S : Nat → Prop} {env : Env} {h : Hp} {a : Act} {w : World} {t k len sz : Nat} {es : List (List AV)} (s : Sim n c ρ S env h a w) (ht : look env t = some (.sl k 0 len sz)) (hk : h[k]? = some (.arr es sz)) (hn : len = es.length) (hi : AV.idfL es.flatten = true) :
    Sim n c ρ (fun b => S b ∨ ∃ o, ρ k = some (b, o)) ((t, .rowE es sz) :: env) (h.set k .gone) a w := by
  refine ⟨s.size, s.defers.st (fun _ h => .inl h), fun t' x hx => ?_, s.hs.freeze hk, s.cm⟩
  rw [look_cons] at hx
  split at hx
  · rename_i e
    subst e
    cases hx
    have := s.env t _ ht
    rw [hn] at this
    exact frz_val hi (s.hs.blk k _ hk) this
  · exact R_st (fun _ h => .inl h) (s.env t' x hx)

section
variable {P : Program} {n : Nat × Nat} {ops : Array Oper} {env : Env} {h : Hp} {K : Env → Hp → Prop} {rest : List Oper} {Q : Exit → Env → Hp → Prop} {code : Code}
theorem vc_frz (t : Nat) {k len sz : Nat} {es : List (List AV)} (ht : look env t = some (.sl k 0 len sz)) (hk : h[k]? = some (.arr es sz)) (hn : len = es.length) (hi : AV.idfL es.flatten = true) (hv : VC P n ops rest ((t, .rowE es sz) :: env) (h.set k .gone) K) : VC P n ops rest env h K :=
  fun c ρ S a w Q s hQ => hv c ρ _ a w Q (s.freeze ht hk hn hi) hQ
theorem aw_frz (t : Nat) {k len sz : Nat} {es : List (List AV)} (ht : look env t = some (.sl k 0 len sz)) (hk : h[k]? = some (.arr es sz)) (hn : len = es.length) (hi : AV.idfL es.flatten = true) (hv : AW P n code ((t, .rowE es sz) :: env) (h.set k .gone) Q) : AW P n code env h Q :=
  fun c ρ S a w QQ s hQ => hv c ρ _ a w QQ (s.freeze ht hk hn hi) hQ

theorem HS.none {c : Ctx} {ρ : Pl} {S : Nat → Prop} {h : Hp} {w : World} (s : HS c ρ S h w) (hm : c.m = 0) : HS c (fun _ => none) S [] w :=
  ⟨fun _ _ => rfl, (fun _ _ h => by cases h), (fun _ _ hb => by simp at hb), (fun _ _ _ hb => by simp at hb), (fun _ _ _ _ _ _ hb => by simp at hb), s.stab, s.ext, s.st0, s.st1, (by rw [hm]; exact Nat.zero_le _), (fun _ hk => by omega), s.glob⟩
theorem acall_frz {f : FuncId} {args : List AV} {es : List (List AV)} {len sz : Nat} (hn : len = es.length) (hi : AV.idfL es.flatten = true) (h : ACall P f args [] (.sl 0 0 len sz) [.arr es sz]) : ACall P f args [] (.rowE es sz) [] := by
  refine ⟨h.1, fun ρ S w vs hs ha => (h.2 ρ S w vs hs ha).mono ?_⟩
  rintro e w' ⟨y, ρ', S', rfl, h2, h3⟩
  rw [hn] at h3
  exact ⟨y, _, _, rfl, (h2.freeze (k := 0) rfl).none rfl, R_idf ρ' _ _ _ rfl (frz_val hi (h2.blk 0 _ rfl) h3)⟩
end
end Go.Ab

/-! A logic of values for the walk, fourteenth part: the steps through a region that draws its order, with the frame as it grows. -/
namespace Go.Ab
open Go
set_option linter.unusedVariables false
set_option linter.unusedSimpArgs false

theorem FStep.more {P : Program} {o : Oper} {env env' : Env} {h : Hp} {m : Nat} {x : Nat → AV} {new : Nat → List AB} (hs : FStep P o env h m x new) (he : ∀ t u, look env t = some u → look env' t = some u) : FStep P o env' h m x new :=
  fun ρ S a w p => hs ρ S a w ⟨fun t u hu => p.env t u (he t u hu), p.rng, p.blk, p.live, p.stab, p.glob⟩

def growE (env : Env) : List Eff → Env
  | [] => env
  | f :: r => growE (putd f.d f.x env) r
theorem growE_snoc (f : Eff) : ∀ (l : List Eff) (env : Env), growE env (l ++ [f]) = putd f.d f.x (growE env l)
  | [], _ => rfl
  | g :: r, env => by simp only [List.cons_append, growE, growE_snoc f r]
def objsOf : Nat → List Eff → List (Nat × Hp)
  | _, [] => []
  | i, f :: r => match f.new with
    | [] => objsOf (i + 1) r
    | b :: q => (i, b :: q) :: objsOf (i + 1) r
def hvis (pre : List Nat) : List (Nat × Hp) → Hp
  | [] => []
  | (i, l) :: r => (match pre.any (Nat.beq i) with | true => l | false => List.replicate l.length .gone) ++ hvis pre r
theorem hvis_seg (pre : List Nat) : ∀ (i : Nat) (l : List Eff), seg (fun j => pre.any (Nat.beq j)) i l = hvis pre (objsOf i l)
  | _, [] => rfl
  | i, f :: r => by
    simp only [seg, objsOf]
    cases hf : f.new with
    | nil => simp only [List.length_nil, List.replicate_zero] <;> (cases pre.any (Nat.beq i) <;> simpa using hvis_seg pre (i + 1) r)
    | cons b q => simp only [hvis]; rw [hvis_seg pre (i + 1) r]; try rfl
theorem objsOf_snoc_nil {f : Eff} (hf : f.new = []) : ∀ (l : List Eff) (i : Nat), objsOf i (l ++ [f]) = objsOf i l
  | [], i => by simp [objsOf, hf]
  | g :: r, i => by
    simp only [List.cons_append, objsOf]
    rw [objsOf_snoc_nil hf r (i + 1)]
theorem objsOf_snoc {f : Eff} (hf : f.new ≠ []) : ∀ (l : List Eff) (i : Nat), objsOf i (l ++ [f]) = objsOf i l ++ [(i + l.length, f.new)]
  | [], i => by
    simp only [List.nil_append, objsOf, List.length_nil, Nat.add_zero]
    cases h : f.new with
    | nil => exact absurd h hf
    | cons b q => rfl
  | g :: r, i => by
    simp only [List.cons_append, objsOf]
    rw [objsOf_snoc hf r (i + 1)]
    have : i + (g :: r).length = i + 1 + r.length := by simp; omega
    rw [this]
    cases g.new <;> rfl
theorem objsOf_hp : ∀ (l : List Eff) (i : Nat), hpOf l = ((objsOf i l).map (·.2)).flatten
  | [], _ => rfl
  | f :: r, i => by
    simp only [hpOf, objsOf]
    rw [objsOf_hp r (i + 1)]
    cases hf : f.new <;> simp
def allObjs : List (Nat × Hp) → Hp
  | [] => []
  | (_, l) :: r => l ++ allObjs r
theorem allObjs_eq : ∀ l : List (Nat × Hp), allObjs l = (l.map (·.2)).flatten
  | [] => rfl
  | (_, l) :: r => by simp only [allObjs, List.map_cons, List.flatten_cons, allObjs_eq r]

def chkDraw (ops : List Oper) (pres : List (List Nat)) (ds : List Nat) (bads : List (List Nat)) (n : Nat) : Bool :=
  okDraw ops.toArray pres && decide ds.Nodup && ds.all (fun d => Nat.blt d n) && Nat.ble pres.length ops.length &&
  decide ((ops.take pres.length).filterMap (·.dst) = ds) &&
  (List.range pres.length).all fun i => (List.range i).all fun j => (pres.getD i []).any (Nat.beq j) || (match ops[j]? with
    | some o => (match o.dst with | some d => (bads.getD i []).any (Nat.beq d) | none => true)
    | none => true)

section
variable {P : Program} {n : Nat × Nat} {ops : List Oper} {pres : List (List Nat)} {ds : List Nat} {bads : List (List Nat)} {env : Env} {h : Hp} {K : Env → Hp → Prop} {pre bad : List Nat}

structure Good (ops : List Oper) (env : Env) (i : Nat) (cur : Env) (objs : List (Nat × Hp)) (effs : List Eff) : Prop where
  len : effs.length = i
  cur : cur = growE env effs
  objs : objs = objsOf 0 effs
  dst : ∀ (j : Nat) f, effs[j]? = some f → ∃ o, ops[j]? = some o ∧ o.dst = f.d

def DW (P : Program) (n : Nat × Nat) (ops : List Oper) (pres : List (List Nat)) (ds : List Nat) (bads : List (List Nat)) (env : Env) (h : Hp) (i : Nat) (cur : Env) (objs : List (Nat × Hp)) (K : Env → Hp → Prop) : Prop :=
  chkDraw ops pres ds bads n.1 = true → (∀ t, t ∈ ds → look env t = none) → ∀ effs, Good ops env i cur objs effs → DV P n ops.toArray pres ds env h effs K

theorem any_draw2 {KK : Env → Hp → Prop} {l : List Oper} (pres : List (List Nat)) (ds : List Nat) (bads : List (List Nat)) (hok : chkDraw l pres ds bads n.1 = true)
    (hv : DW P n l pres ds bads (dropE ds env) h 0 (dropE ds env) [] KK) : ∀ c ρ S a w QQ, Sim n c ρ S env h a w → (∀ env' h' ρ' S' a' w', KK env' h' → Sim n c ρ' S' env' h' a' w' → QQ Exit.normal a' w') →
    wpAny P .any l.toArray QQ l.toArray.size (Array.replicate l.toArray.size false) a { w with drawn := w.drawn + 1 } := by
  have hok' := hok
  simp only [chkDraw, Bool.and_eq_true, decide_eq_true_eq] at hok'
  obtain ⟨⟨⟨⟨⟨h1, h2⟩, h3⟩, h4⟩, h5⟩, h6⟩ := hok'
  refine any_draw pres ds h1 h2 h3 h4 (hv hok (fun t ht => ?_) [] ⟨rfl, rfl, rfl, fun j f hf => by simp at hf⟩)
  cases hl : look (dropE ds env) t with
  | none => rfl
  | some x => exact absurd ht (look_dropE hl).2
theorem aw_draw2 {Q : Exit → Env → Hp → Prop} {id : Nat} {l : List Oper} (pres : List (List Nat)) (ds : List Nat) (bads : List (List Nat)) (hm : P.follows .mixedOrders = true) (hok : chkDraw l pres ds bads n.1 = true)
    (hv : DW P n l pres ds bads (dropE ds env) h 0 (dropE ds env) [] (fun v h => Q .normal v h)) (hndf : noDef l = true := by rfl) : AW P n (.region id l.toArray true) env h Q :=
  fun c ρ S a w QQ s hQ => region_any_in hm hndf (any_draw2 pres ds bads hok hv c ρ S a w (fun e a w => e = .normal ∧ QQ .normal a w) s fun env' h' ρ' S' a' w' k s' => ⟨rfl, hQ .normal env' h' ρ' S' a' w' k s'⟩)

theorem growE_look : ∀ {effs : List Eff} {env : Env} {t : Nat} {x : AV}, look (growE env effs) t = some x → (look env t = some x ∧ ∀ (j : Nat) f, effs[j]? = some f → f.d ≠ some t) ∨ ∃ (j : Nat) (f : Eff), effs[j]? = some f ∧ f.d = some t ∧ f.x = x
  | [], env, t, x, h => .inl ⟨h, fun j f hf => by simp at hf⟩
  | f :: r, env, t, x, h => by
    rcases growE_look (effs := r) h with ⟨h1, h2⟩ | ⟨j, g, h1, h2, h3⟩
    · cases hd : f.d with
      | none =>
        rw [hd] at h1
        refine .inl ⟨h1, fun j g hg => ?_⟩
        cases j with
        | zero => simp at hg; subst hg; rw [hd]; simp
        | succ j => exact h2 j g (by simpa using hg)
      | some d =>
        rw [hd] at h1
        simp only [putd, look_cons] at h1
        split at h1
        · rename_i e; subst e; cases h1
          exact .inr ⟨0, f, rfl, hd, rfl⟩
        · rename_i e
          refine .inl ⟨h1, fun j g hg => ?_⟩
          cases j with
          | zero => simp at hg; subst hg; rw [hd]; simpa using e
          | succ j => exact h2 j g (by simpa using hg)
    · exact .inr ⟨j + 1, g, by simpa using h1, h2, h3⟩

theorem stE_miss {env : Env} {effs : List Eff} {t : Nat} : ∀ {pre : List Nat}, (∀ (j : Nat) f, effs[j]? = some f → f.d ≠ some t) → look (stE env effs pre) t = look env t
  | [], _ => rfl
  | k :: r, hn => by
    simp only [stE]
    cases hk : effs[k]? with
    | none => exact stE_miss hn
    | some f =>
      have := hn k f hk
      simp only
      cases hd : f.d with
      | none => exact stE_miss hn
      | some d =>
        rw [hd] at this
        simp only [putd, look_cons]
        rw [if_neg (fun e => this (by rw [e])), stE_miss hn]
theorem stE_hit {env : Env} {effs : List Eff} {t j : Nat} {f : Eff} (hf : effs[j]? = some f) (hd : f.d = some t) (hu : ∀ (k : Nat) g, effs[k]? = some g → g.d = some t → k = j) : ∀ {pre : List Nat}, j ∈ pre → look (stE env effs pre) t = some f.x
  | k :: r, hj => by
    simp only [stE]
    by_cases hkj : k = j
    · subst hkj
      rw [hf]
      simp only [hd, putd, look_cons, if_pos]
    · have hr : j ∈ r := by
        rcases List.mem_cons.1 hj with e | e
        · exact absurd e.symm hkj
        · exact e
      cases hk : effs[k]? with
      | none => exact stE_hit hf hd hu hr
      | some g =>
        simp only
        cases hgd : g.d with
        | none => exact stE_hit hf hd hu hr
        | some d =>
          simp only [putd, look_cons]
          rw [if_neg (fun e => hkj (hu k g hk (by rw [hgd, e])))]
          exact stE_hit hf hd hu hr

theorem filterMap_nodup {α β : Type} {f : α → Option β} : ∀ {l : List α}, (l.filterMap f).Nodup → ∀ {i j : Nat} {a b : α} {x : β}, l[i]? = some a → l[j]? = some b → f a = some x → f b = some x → i = j
  | [], _, i, j, a, b, x, hi, _, _, _ => by simp at hi
  | c :: r, hnd, i, j, a, b, x, hi, hj, ha, hb => by
    have mem : ∀ {k : Nat} {u : α}, r[k]? = some u → f u = some x → x ∈ r.filterMap f := fun hk hu => List.mem_filterMap.2 ⟨_, List.mem_of_getElem? hk, hu⟩
    have hr : (r.filterMap f).Nodup := by
      cases hc : f c with
      | none => rwa [List.filterMap_cons_none hc] at hnd
      | some y => rw [List.filterMap_cons_some hc] at hnd; exact (List.nodup_cons.1 hnd).2
    cases i with
    | zero =>
      cases j with
      | zero => rfl
      | succ j =>
        simp at hi hj; subst hi
        rw [List.filterMap_cons_some ha] at hnd
        exact absurd (mem hj hb) (List.nodup_cons.1 hnd).1
    | succ i =>
      cases j with
      | zero =>
        simp at hi hj; subst hj
        rw [List.filterMap_cons_some hb] at hnd
        exact absurd (mem hi ha) (List.nodup_cons.1 hnd).1
      | succ j => exact congrArg (· + 1) (filterMap_nodup hr (a := a) (b := b) (i := i) (j := j) (by simpa using hi) (by simpa using hj) ha hb)

theorem Good.see {i : Nat} {cur : Env} {objs : List (Nat × Hp)} {effs : List Eff} (hok : chkDraw ops pres ds bads n.1 = true) (g : Good ops env i cur objs effs) (hp : pres[i]? = some pre) (hb : bads[i]? = some bad) : ∀ t x, look (dropE bad cur) t = some x → look (stE env effs pre) t = some x := by
  intro t x hx
  simp only [chkDraw, Bool.and_eq_true, decide_eq_true_eq] at hok
  obtain ⟨⟨⟨⟨⟨h1, h2⟩, h3⟩, h4⟩, h5⟩, h6⟩ := hok
  obtain ⟨h7, h8⟩ := look_dropE hx
  rw [g.cur] at h7
  have hi : i < pres.length := (List.getElem?_eq_some_iff.1 hp).1
  rcases growE_look h7 with ⟨h9, h10⟩ | ⟨j, f, h9, h10, h11⟩
  · rw [stE_miss h10]; exact h9
  · have hji : j < i := by rw [← g.len]; exact (List.getElem?_eq_some_iff.1 h9).1
    obtain ⟨o, ho, hod⟩ := g.dst j f h9
    have huniq : ∀ (k : Nat) q, effs[k]? = some q → q.d = some t → k = j := fun k q hk hq => by
      obtain ⟨o', ho', hod'⟩ := g.dst k q hk
      have hki : k < i := by rw [← g.len]; exact (List.getElem?_eq_some_iff.1 hk).1
      rw [← h5] at h2
      refine filterMap_nodup h2 (i := k) (j := j) (a := o') (b := o) (x := t) ?_ ?_ (by rw [hod', hq]) (by rw [hod, h10])
      · rw [List.getElem?_take, if_pos (by omega)]; exact ho'
      · rw [List.getElem?_take, if_pos (by omega)]; exact ho
    rw [← h11]
    refine stE_hit h9 h10 huniq ?_
    have h12 := List.all_eq_true.1 (List.all_eq_true.1 h6 i (by simpa using hi)) j (by simpa using hji)
    rcases Bool.or_eq_true_iff.1 h12 with h12 | h12
    · rw [List.getD_eq_getElem?_getD, hp] at h12; exact any_beq.1 h12
    · rw [ho] at h12
      simp only [hod, h10] at h12
      rw [List.getD_eq_getElem?_getD, hb] at h12
      exact absurd (any_beq.1 h12) h8

section
variable {op : Op} {ty : TypeId} {pos : String} {af : Array Edge} {d : Option Nat} {i : Nat} {cur : Env} {objs : List (Nat × Hp)}

theorem Good.snoc {effs : List Eff} {f : Eff} {o : Oper} (g : Good ops env i cur objs effs) (ho : ops[i]? = some o) (hd : o.dst = f.d) (hf : f.new = []) : Good ops env (i + 1) (putd f.d f.x cur) objs (effs ++ [f]) := by
  refine ⟨by simp [g.len], by rw [growE_snoc, g.cur], by rw [objsOf_snoc_nil hf]; exact g.objs, fun j q hj => ?_⟩
  by_cases hlt : j < effs.length
  · rw [List.getElem?_append_left hlt] at hj; exact g.dst j q hj
  · have hle := (List.getElem?_eq_some_iff.1 hj).1
    have hji : j = i := by have := g.len; simp at hle; omega
    subst hji
    rw [List.getElem?_append_right (by omega), g.len] at hj
    simp at hj; subst hj
    exact ⟨o, ho, hd⟩
theorem Good.snoc' {effs : List Eff} {f : Eff} {o : Oper} (g : Good ops env i cur objs effs) (ho : ops[i]? = some o) (hd : o.dst = f.d) (hf : f.new ≠ []) : Good ops env (i + 1) (putd f.d f.x cur) (objs ++ [(i, f.new)]) (effs ++ [f]) := by
  refine ⟨by simp [g.len], by rw [growE_snoc, g.cur], by rw [objsOf_snoc hf, g.len, Nat.zero_add, g.objs], fun j q hj => ?_⟩
  by_cases hlt : j < effs.length
  · rw [List.getElem?_append_left hlt] at hj; exact g.dst j q hj
  · have hle := (List.getElem?_eq_some_iff.1 hj).1
    have hji : j = i := by have := g.len; simp at hle; omega
    subst hji
    rw [List.getElem?_append_right (by omega), g.len] at hj
    simp at hj; subst hj
    exact ⟨o, ho, hd⟩

theorem dw_v {dd : Nat} {u : AV} (ho : ops[i]? = some ⟨some dd, op, ty, pos, af, none⟩) (hp : pres[i]? = some pre) (hb : bads[i]? = some bad) (hs : FStep P ⟨some dd, op, ty, pos, af, none⟩ (dropE bad cur) (h ++ hvis pre objs) 0 (fun _ => u) (fun _ => []))
    (hk : DW P n ops pres ds bads env h (i + 1) ((dd, u) :: cur) objs K) : DW P n ops pres ds bads env h i cur objs K := by
  intro hok hen effs g
  refine dv_v (u := u) (d := some dd) (by rw [g.len]; exact hp) (by rw [g.len]; simpa using ho) (by rw [hvis_seg, ← g.objs]; exact hs.more (g.see hok hp hb)) (hk hok hen _ (g.snoc (f := ⟨some dd, u, []⟩) ho rfl rfl))
theorem dw_gt {dd : Nat} {u : AV} {gd t : Nat} {want : Bool} (ho : ops[i]? = some ⟨some dd, op, ty, pos, af, some (gd, want)⟩) (hp : pres[i]? = some pre) (hb : bads[i]? = some bad) (hj : (ops[gd]?).bind (·.dst) = some t) (hl : look (dropE bad cur) t = some (.b want)) (hs : FStep P ⟨some dd, op, ty, pos, af, none⟩ (dropE bad cur) (h ++ hvis pre objs) 0 (fun _ => u) (fun _ => []))
    (hk : DW P n ops pres ds bads env h (i + 1) ((dd, u) :: cur) objs K) : DW P n ops pres ds bads env h i cur objs K := by
  intro hok hen effs g
  refine dv_gt (u := u) (d := some dd) (by rw [g.len]; exact hp) (by rw [g.len]; simpa using ho) (by simpa using hj) (g.see hok hp hb _ _ hl) (by rw [hvis_seg, ← g.objs]; exact hs.more (g.see hok hp hb)) (hk hok hen _ (g.snoc (f := ⟨some dd, u, []⟩) ho rfl rfl))
theorem dw_gf {dd : Nat} {gd t : Nat} {want : Bool} (ho : ops[i]? = some ⟨some dd, op, ty, pos, af, some (gd, want)⟩) (hp : pres[i]? = some pre) (hb : bads[i]? = some bad) (hj : (ops[gd]?).bind (·.dst) = some t) (hl : look (dropE bad cur) t = some (.b (!want)))
    (hk : DW P n ops pres ds bads env h (i + 1) ((dd, .v undef) :: cur) objs K) : DW P n ops pres ds bads env h i cur objs K := by
  intro hok hen effs g
  refine dv_gf (d := some dd) (by rw [g.len]; exact hp) (by rw [g.len]; simpa using ho) (by simpa using hj) (g.see hok hp hb _ _ hl) (hk hok hen _ (g.snoc (f := ⟨some dd, .v undef, []⟩) ho rfl rfl))
theorem dw_gu {dd : Nat} {gd t : Nat} {want : Bool} (ho : ops[i]? = some ⟨some dd, op, ty, pos, af, some (gd, want)⟩) (hp : pres[i]? = some pre) (hb : bads[i]? = some bad) (hj : (ops[gd]?).bind (·.dst) = some t) (hl : look (dropE bad cur) t = some (.v undef))
    (hk : DW P n ops pres ds bads env h (i + 1) ((dd, .v undef) :: cur) objs K) : DW P n ops pres ds bads env h i cur objs K := by
  intro hok hen effs g
  refine dv_gu (d := some dd) (by rw [g.len]; exact hp) (by rw [g.len]; simpa using ho) (by simpa using hj) (g.see hok hp hb _ _ hl) (hk hok hen _ (g.snoc (f := ⟨some dd, .v undef, []⟩) ho rfl rfl))
theorem dw_split {gd t : Nat} {want b : Bool} (ho : ops[i]? = some ⟨d, op, ty, pos, af, some (gd, want)⟩) (hb : bads[i]? = some bad) (hj : (ops[gd]?).bind (·.dst) = some t) (hl : look (dropE bad cur) t = some (.b b))
    (ht : b = true → DW P n ops pres ds bads env h i cur objs K) (hf : b = false → DW P n ops pres ds bads env h i cur objs K) : DW P n ops pres ds bads env h i cur objs K := by
  cases b
  · exact hf rfl
  · exact ht rfl
theorem dw_n {dd : Nat} {u : Nat → AV} {b : Nat → List AB} {m : Nat} (ho : ops[i]? = some ⟨some dd, op, ty, pos, af, none⟩) (hp : pres[i]? = some pre) (hb : bads[i]? = some bad) (hs : FStep P ⟨some dd, op, ty, pos, af, none⟩ (dropE bad cur) (h ++ hvis pre objs) (m + 1) u b) (hm : (b (h ++ hvis pre objs).length).length = m + 1)
    (hk : DW P n ops pres ds bads env h (i + 1) ((dd, u (h ++ hvis pre objs).length) :: cur) (objs ++ [(i, b (h ++ hvis pre objs).length)]) K) : DW P n ops pres ds bads env h i cur objs K := by
  intro hok hen effs g
  have e : h ++ seg (fun j => pre.any (Nat.beq j)) 0 effs = h ++ hvis pre objs := by rw [hvis_seg, ← g.objs]
  refine dv_n (u := u) (b := b) (d := some dd) (m := m + 1) (by rw [g.len]; exact hp) (by rw [g.len]; simpa using ho) (by rw [e]; exact hs.more (g.see hok hp hb)) (by rw [e]; exact hm) ?_
  rw [e]
  refine hk hok hen _ (g.snoc' (f := ⟨some dd, u (h ++ hvis pre objs).length, b (h ++ hvis pre objs).length⟩) ho rfl ?_)
  intro e2
  rw [show b (h ++ hvis pre objs).length = [] from e2] at hm
  cases hm
theorem dw_gn {dd gd t : Nat} {want : Bool} {u : Nat → AV} {b : Nat → List AB} {m : Nat} (ho : ops[i]? = some ⟨some dd, op, ty, pos, af, some (gd, want)⟩) (hp : pres[i]? = some pre) (hb : bads[i]? = some bad) (hj : (ops[gd]?).bind (·.dst) = some t) (hl : look (dropE bad cur) t = some (.b want)) (hs : FStep P ⟨some dd, op, ty, pos, af, none⟩ (dropE bad cur) (h ++ hvis pre objs) (m + 1) u b) (hm : (b (h ++ hvis pre objs).length).length = m + 1)
    (hk : DW P n ops pres ds bads env h (i + 1) ((dd, u (h ++ hvis pre objs).length) :: cur) (objs ++ [(i, b (h ++ hvis pre objs).length)]) K) : DW P n ops pres ds bads env h i cur objs K := by
  intro hok hen effs g
  have e : h ++ seg (fun j => pre.any (Nat.beq j)) 0 effs = h ++ hvis pre objs := by rw [hvis_seg, ← g.objs]
  refine dv_step (f := ⟨some dd, u (h ++ hvis pre objs).length, b (h ++ hvis pre objs).length⟩) rfl (by rw [g.len]; exact hp) ⟨_, by rw [g.len]; simpa using ho, rfl, .inl ⟨u, b, .inr ⟨gd, want, t, rfl, by simpa using hj, g.see hok hp hb _ _ hl⟩, by rw [e]; simp only [hm]; exact hs.more (g.see hok hp hb), by rw [e], by rw [e]⟩⟩ ?_
  refine hk hok hen _ (g.snoc' (f := ⟨some dd, u (h ++ hvis pre objs).length, b (h ++ hvis pre objs).length⟩) ho rfl ?_)
  intro e2
  rw [show b (h ++ hvis pre objs).length = [] from e2] at hm
  cases hm
theorem growE_env {effs : List Eff} {env : Env} {t : Nat} {x : AV} (hd : (effs.filterMap (·.d)).Nodup) (hx : look (growE env effs) t = some x) : look (envOf env effs) t = some x := by
  induction effs generalizing env with
  | nil => exact hx
  | cons f r ih =>
    have hr : (r.filterMap (·.d)).Nodup := by
      cases hc : f.d with
      | none => rwa [List.filterMap_cons_none hc] at hd
      | some y => rw [List.filterMap_cons_some hc] at hd; exact (List.nodup_cons.1 hd).2
    have miss : ∀ {l : List Eff} {env : Env}, (∀ (j : Nat) f, l[j]? = some f → f.d ≠ some t) → look (envOf env l) t = look env t := fun {l env} hl => by
      induction l with
      | nil => rfl
      | cons g q ihq =>
        have h0 := hl 0 g rfl
        have hq := ihq (fun j f hf => hl (j + 1) f (by simpa using hf))
        simp only [envOf]
        cases hg : g.d with
        | none => exact hq
        | some d =>
          simp only [putd, look_cons]
          rw [if_neg (fun e => h0 (by rw [hg, e])), hq]
    simp only [growE] at hx
    simp only [envOf]
    rcases growE_look hx with ⟨h1, h2⟩ | ⟨j, g, h1, h2, h3⟩
    · cases hfd : f.d with
      | none => rw [hfd] at h1; simp only [putd] at h1 ⊢; rw [miss h2]; exact h1
      | some d =>
        rw [hfd] at h1
        simp only [putd, look_cons] at h1 ⊢
        split at h1
        · rename_i e; rw [if_pos e]; exact h1
        · rename_i e; rw [if_neg e, miss h2]; exact h1
    · have hne : f.d ≠ some t := fun e => by
        rw [List.filterMap_cons_some e] at hd
        exact (List.nodup_cons.1 hd).1 (List.mem_filterMap.2 ⟨g, List.mem_of_getElem? h1, h2⟩)
      have hx' : look (growE env r) t = some x := by
        cases hfd : f.d with
        | none => rw [hfd] at hx; exact hx
        | some d =>
          rw [hfd] at hx
          have key : ∀ (l : List Eff) (e1 e2 : Env), look e1 t = look e2 t → look (growE e1 l) t = look (growE e2 l) t := by
            intro l
            induction l with
            | nil => exact fun _ _ h => h
            | cons q l ihl =>
              intro e1 e2 he
              simp only [growE]
              refine ihl _ _ ?_
              cases q.d with
              | none => exact he
              | some d => simp only [putd, look_cons]; rw [he]
          have hdt : d ≠ t := fun e => hne (by rw [hfd, e])
          rw [← hx]
          exact key r env _ (by simp only [putd, look_cons]; rw [if_neg hdt])
      have := ih hr hx'
      cases hfd : f.d with
      | none => exact this
      | some d => simp only [putd, look_cons]; rw [if_neg (fun e => hne (by rw [hfd, e]))]; exact this

theorem VC.moreE {ops : Array Oper} {rest : List Oper} {env env' : Env} {h : Hp} {K : Env → Hp → Prop} (hv : VC P n ops rest env h K) (he : ∀ t x, look env t = some x → look env' t = some x) : VC P n ops rest env' h K :=
  fun c ρ S a w Q s hQ => hv c ρ S a w Q (s.fewer he) hQ

theorem dw_fin (hi : pres.length = i) {rest : List Oper} {h' : Hp} (hr : ops.drop i = rest) (hh : h ++ allObjs objs = h')
    (hk : VC P n ops.toArray rest cur h' K) : DW P n ops pres ds bads env h i cur objs K := by
  intro hok hen effs g
  have hok' := hok
  simp only [chkDraw, Bool.and_eq_true, decide_eq_true_eq] at hok'
  obtain ⟨⟨⟨⟨⟨h1, h2⟩, h3⟩, h4⟩, h5⟩, h6⟩ := hok'
  have hds : dstsOf effs = ds := by
    rw [← h5]
    have hle : i ≤ ops.length := by rw [← hi]; exact Nat.le_of_ble_eq_true h4
    unfold dstsOf
    have : effs.map (·.d) = (ops.take pres.length).map (·.dst) := by
      apply List.ext_getElem?
      intro j
      simp only [List.getElem?_map, List.getElem?_take, hi]
      by_cases hj : j < i
      · rw [if_pos hj]
        have hje : j < effs.length := by rw [g.len]; exact hj
        obtain ⟨o, ho, hod⟩ := g.dst j effs[j] (List.getElem?_eq_getElem hje)
        rw [List.getElem?_eq_getElem hje, ho]
        simp [hod]
      · rw [if_neg hj, List.getElem?_eq_none (by rw [g.len]; omega)]; rfl
    have e1 : effs.filterMap (·.d) = (effs.map (·.d)).filterMap id := by rw [List.filterMap_map]; rfl
    have e2 : (ops.take pres.length).filterMap (·.dst) = ((ops.take pres.length).map (·.dst)).filterMap id := by rw [List.filterMap_map]; rfl
    rw [e1, e2, this]
  refine dv_fin (rest := rest) (env' := envOf env effs) (h' := h ++ hpOf effs) (by rw [g.len, hi]) hds (by rw [hi]; simpa using hr) rfl rfl ?_
  have e : h ++ hpOf effs = h' := by rw [objsOf_hp effs 0, ← g.objs, ← allObjs_eq]; exact hh
  rw [e]
  refine hk.moreE fun t x hx => ?_
  rw [g.cur] at hx
  exact growE_env (by have : dstsOf effs = effs.filterMap (·.d) := rfl; rw [← this, hds]; exact h2) hx
end
end
end Go.Ab

/-! A logic of values for the walk, fifteenth part: equality of bools and of structs of integers; slices that are made; own slices out of nil. -/
namespace Go.Ab
open Go
set_option linter.unusedVariables false
set_option linter.unusedSimpArgs false

def BoolT (P : Program) (t : TypeId) : Prop := P.underlying t = some .bool

section
variable {P : Program} {env : Env} {h : Hp}
variable {d : Option Nat} {ty : TypeId} {pos : String} {af : Array Edge} {g : Option (Nat × Bool)}

theorem fs_eqlB {t t2 : TypeId} {x y : Operand} {a b : Bool} (ht : BoolT P t) (hx : evu env x = some (.b a)) (hy : evu env y = some (.b b)) : FStep P ⟨d, .binOp .eql t x y t2, ty, pos, af, g⟩ env h 0 (fun _ => .b (a == b)) (fun _ => []) := by
  refine fs_val fun ρ S ac w p => ⟨.bool (a == b), ?_, R_v_mk _⟩
  have h1 := R_v (p.evu hx)
  have h2 := R_v (p.evu hy)
  have hg : (eqGuard .eql t x y (.bool a) (.bool b)).run P w = .ok () w := rfl
  simp [execOp, h1, h2, hg, run_eql_bool w t a b ht]
end

section
variable {P : Program} {n : Nat × Nat} {ops : Array Oper} {env : Env} {h : Hp} {K : Env → Hp → Prop} {rest : List Oper} {Q : Exit → Env → Hp → Prop} {code : Code}
theorem Sim.own {c : Ctx} {ρ : Pl} {S : Nat → Prop} {a : Act} {w : World} {t sz : Nat} (s : Sim n c ρ S env h a w) (ht : look env t = some .nils) (hs : 0 < sz) : Sim n c ρ S ((t, .sl h.length 0 0 sz) :: env) (h ++ [.arr [] sz]) a w := by
  refine ⟨s.size, s.defers, fun t' x hx => ?_, ?_, s.cm⟩
  · rw [look_cons] at hx
    split at hx
    · rename_i e
      subst e
      cases hx
      rw [R_v (s.env t _ ht)]
      simp only [R]
      exact ⟨none, 0, rfl, Nat.zero_le _, .inl ⟨trivial, rfl⟩⟩
    · exact s.env t' x hx
  · have hd := s.hs.dom h.length (Nat.le_refl _)
    have get : ∀ {j : Nat} {b : AB}, (h ++ [.arr [] sz])[j]? = some b → h[j]? = some b ∨ (j = h.length ∧ b = .arr [] sz) := fun {j b} hj => by
      by_cases hlt : j < h.length
      · rw [List.getElem?_append_left hlt] at hj; exact .inl hj
      · have := (List.getElem?_eq_some_iff.1 hj).1
        simp at this
        have e : j = h.length := by omega
        subst e
        simp at hj
        exact .inr ⟨rfl, hj.symm⟩
    refine ⟨fun k hk => s.hs.dom k (by simp at hk; omega), s.hs.rng, fun k b hb => ?_, fun k b p hb hg hp => ?_, fun k k' b b' p p' hb hb' hg hg' hp hp' e => ?_, s.hs.stab, s.hs.ext, s.hs.st0, s.hs.st1, by simp; exact Nat.le_succ_of_le s.hs.mle, s.hs.keep, s.hs.glob⟩
    · rcases get hb with hb | ⟨rfl, rfl⟩
      · exact s.hs.blk k b hb
      · simp only [RB]; exact ⟨(fun e he => by cases he), hs, .inl ⟨trivial, fun b o e => by rw [hd] at e; cases e⟩⟩
    · rcases get hb with hb | ⟨rfl, rfl⟩
      · exact s.hs.live k b p hb hg hp
      · rw [hd] at hp; cases hp
    · rcases get hb with hb | ⟨rfl, rfl⟩
      · rcases get hb' with hb' | ⟨rfl, rfl⟩
        · exact s.hs.inj k k' b b' p p' hb hb' hg hg' hp hp' e
        · rw [hd] at hp'; cases hp'
      · rw [hd] at hp; cases hp
theorem aw_own (t sz : Nat) (ht : look env t = some .nils) (hs : 0 < sz) (hv : AW P n code ((t, .sl h.length 0 0 sz) :: env) (h ++ [.arr [] sz]) Q) : AW P n code env h Q :=
  fun c ρ S a w QQ s hQ => hv c ρ S a w QQ (s.own ht hs) hQ
end
end Go.Ab

/-! A logic of values for the walk, sixteenth part: the last step of a law's row. -/
namespace Go.Ab
open Go Go.RowKit Go.WideShapes Go.ChangeShapes Go.ChangeAt
set_option linter.unusedVariables false
set_option linter.unusedSimpArgs false

section
variable {H : Type} {enc : TypeId × Value → H} {P : Program}
theorem trodAll_stays (hl : laidOutB P = true) {W W' : World} {sp : Nat → Bool} (hb : Below W.heap.size W W') : ∀ {ts : List TypeId} {vs : List Value} {ds : List (DataW H)} {ps : List MemPlace}, (∀ t, t ∈ ts → P.readableRec t = true ∧ t < P.types.size) → DataW.TrodAll enc P W 0 (fun _ => true) true ts vs ds ps → (∀ p ∈ ps, p.block < W.heap.size) → (∀ p ∈ ps, sp p.block = true) → DataW.TrodAll enc P W' 0 sp true ts vs ds ps
  | [], vs, ds, ps, _, h, _, _ => by
    cases vs with
    | nil =>
      cases ds with
      | nil => simp only [DataW.TrodAll] at h ⊢; exact h
      | cons _ _ => simp [DataW.TrodAll] at h
    | cons _ _ => simp [DataW.TrodAll] at h
  | t :: ts, vs, ds, ps, ht, h, hlt, hsp => by
    obtain ⟨v, vs', d, ds', p, q, rfl, rfl, rfl, h1, h2⟩ := trodAll_cons h
    obtain ⟨h3, h4⟩ := ht t (by simp)
    exact trodAll_cons_mk (WideElems.Trod_stays hl h3 h4 h1 (fun x hx => hb.same (hlt x (by simp [hx]))) (fun x hx => hsp x (by simp [hx]))) (trodAll_stays hl hb (fun u hu => ht u (by simp [hu])) h2 (fun x hx => hlt x (by simp [hx])) (fun x hx => hsp x (by simp [hx])))

theorem post_law (hl : laidOutB P = true) {f : Func} {s : ChangeSpec} {W W' : World} {args : Array Value} {ds gs : List (DataW H)} {before : List MemPlace} {tb : TypeId}
    (hts' : (f.params.toList.all fun t => P.readableRec t && decide (t < P.types.size)) = true) (hv : s.vars = []) (hrt : f.resultTypes = #[tb]) (htb : P.underlying tb = some .bool)
    (hW : DataW.Whole enc P f.params.toList s.vars false W args.toList ds gs before)
    (hfn : (s.fn H (ds ++ gs)).results = [.lit (.bool true)] ∧ (s.fn H (ds ++ gs)).args = ds ∧ (s.fn H (ds ++ gs)).vars = []) (hb : Below W.heap.size W W') :
    s.post enc P f false true false false W args (.bool true) W' := by
  have hW2 := hW
  have hts : ∀ t, t ∈ f.params.toList → P.readableRec t = true ∧ t < P.types.size := fun t ht => by
    have := List.all_eq_true.1 hts' t ht
    simpa using this
  have hlt : ∀ p ∈ before, p.block < W.heap.size := fun p hp => hW.lt p hp
  obtain ⟨p, q, hA, hV, rfl, hz, hn⟩ := hW
  rw [hv] at hV
  obtain ⟨_, rfl⟩ := trodVars_none hV
  obtain ⟨f1, f2, f3⟩ := hfn
  have hargs : ∀ sp : Nat → Bool, (∀ x ∈ p ++ [], sp x.block = true) → DataW.TrodAll enc P W' 0 sp true f.params.toList args.toList (s.fn H (ds ++ gs)).args p := fun sp hsp => by
    rw [f2]
    exact trodAll_stays hl hb hts hA (fun x hx => hlt x (by simpa using hx)) (fun x hx => hsp x (by simpa using hx))
  have hres : ∀ (b : Nat) (sp : Nat → Bool) (hd : Bool), DataW.TrodAll enc P W' b sp hd f.resultTypes.toList ((Value.bool true).resultList f.resultTypes.size) (s.fn H (ds ++ gs)).results [] := fun b sp hd => by
    rw [f1, hrt]
    exact trodAll_cons_mk (shut_bool htb _) trodAll_mk0
  have hvars : ∀ sp : Nat → Bool, DataW.TrodVars enc P W' sp s.vars (s.fn H (ds ++ gs)).vars [] := fun sp => by
    rw [f3, hv]; rfl
  have hold : ∀ x ∈ p ++ [], (fun b => decide (b < W.heap.size)) x.block = true := fun x hx => by simpa using hlt x hx
  refine ⟨ds, gs, p ++ [], [], p, [], hW2, hres _ _ _, hargs _ hold, hvars _, World.keptBut_mono (fun x hx => ⟨hx, by simpa using hx⟩) (hb.frame (· ∈ p ++ [])), fun _ => ?_⟩
  refine ⟨?_, _, _, ([] ++ p) ++ [], ⟨[] ++ p, [], trodAll_append (hargs _ (fun _ _ => rfl)) (hres _ _ _), hvars _, rfl, ?_, fun ha => by cases ha⟩, fun x hx _ => by simpa using hx⟩
  · exact ok_one hrt rfl (okWide_bool_mk htb _)
  · intro b off hp
    have hin : MemPlace.cell b off ∈ p ++ [] := by simpa using hp
    rw [hb.frozen (hlt _ hin)]
    exact hz b off hin
end
end Go.Ab
