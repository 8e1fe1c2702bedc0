/-
  A logic of values for the walk, twelfth part: regions whose operations may come in more than one order.
  The first operations, which only read, compute and make memory, may come in any order that their edges allow; each is shown from what its own predecessors leave.
-/
import Derived.Test.YtgibgknkfcbopaaAb11
namespace Go.Ab
open Go
set_option linter.unusedVariables false
set_option linter.unusedSimpArgs false

/-- What an operation leaves: its slot, its value, its new objects. -/
structure Eff where
  d : Option Nat
  x : AV
  new : List AB

theorem HS.fill {c : Ctx} {ρ ρ' : Pl} {S S' : Nat → Prop} {h h' : Hp} {w w' : World} {q m : Nat} {x : AV} {new : List AB} {y : Value} (s : HS c ρ S h w) (p : Post ρ ρ' S S' w w' q m x new y) (hn : ∀ j, j < m → ρ (q + j) = none)
    (hl : h.length ≤ h'.length) (hout : ∀ k, k < q ∨ q + m ≤ k → h'[k]? = h[k]?) (hin : ∀ j, j < m → h'[q + j]? = new[j]?) (hm : c.m ≤ q ∨ m = 0) : HS c ρ' S' h' w' := by
  have l := p.later hn s.stab
  have hsz : c.w0.heap.size ≤ w.heap.size := s.ext.size
  have cs : ∀ k, (k < q ∨ q + m ≤ k) ∨ ∃ j, j < m ∧ k = q + j := fun k => by
    by_cases h1 : k < q ∨ q + m ≤ k
    · exact .inl h1
    · exact .inr ⟨k - q, by omega, by omega⟩
  have new_lt : ∀ {k : Nat} {b : AB}, h'[k]? = some b → (∃ j, j < m ∧ k = q + j ∧ new[j]? = some b) ∨ ((k < q ∨ q + m ≤ k) ∧ h[k]? = some b) := fun {k b} hb => by
    rcases cs k with h1 | ⟨j, h1, rfl⟩
    · exact .inr ⟨h1, by rw [← hout k h1]; exact hb⟩
    · exact .inl ⟨j, h1, rfl, by rw [← hin j h1]; exact hb⟩
  refine ⟨fun k hk => ?_, fun k r hr => ?_, fun k b hb => ?_, fun k b r hb hg hr => ?_, fun k k' b b' r r' hb hb' hg hg' hr hr' e => ?_, fun b hb => ?_, s.ext.trans p.ext (fun _ h => h.elim), fun b hb => p.st b (s.st0 b hb), fun b hb => ?_, Nat.le_trans s.mle hl, fun k hk => ?_⟩
  · rcases cs k with h1 | ⟨j, h1, rfl⟩
    · rw [p.keep k h1]; exact s.dom k (by omega)
    · have := hin j h1
      rw [List.getElem?_eq_none hk] at this
      have h2 : j < new.length := by rw [p.len]; exact h1
      rw [List.getElem?_eq_getElem h2] at this; cases this
  · rcases cs k with h1 | ⟨j, h1, rfl⟩
    · rw [p.keep k h1] at hr
      exact Nat.lt_of_lt_of_le (s.rng k r hr) p.ext.size
    · exact (p.fresh _ r (by omega) (by omega) hr).2.1
  · rcases new_lt hb with ⟨j, h1, rfl, h2⟩ | ⟨h1, h2⟩
    · exact p.blk j b h2
    · rw [p.keep k h1]
      exact RB.later l (fun b' o hb' => p.ext.same b' (s.rng k _ hb') (by simp)) (s.blk k b h2)
  · rcases new_lt hb with ⟨j, h1, rfl, h2⟩ | ⟨h1, h2⟩
    · obtain ⟨f1, _, f3⟩ := p.fresh _ r (by omega) (by omega) hr
      exact ⟨c.new _ (by omega), f3⟩
    · rw [p.keep k h1] at hr
      obtain ⟨f1, f2⟩ := s.live k b r h2 hg hr
      refine ⟨f1, fun hs => ?_⟩
      rcases p.stn _ hs with hs | hs
      · exact f2 hs
      · have := s.rng k r hr; omega
  · rcases new_lt hb with ⟨j, h1, rfl, h2⟩ | ⟨h1, h2⟩ <;> rcases new_lt hb' with ⟨j', h1', rfl, h2'⟩ | ⟨h1', h2'⟩
    · exact p.inj _ _ r r' (by omega) (by omega) (by omega) (by omega) hr hr' e
    · rw [p.keep k' h1'] at hr'
      have f1 := s.rng k' r' hr'
      have f2 := (p.fresh _ r (by omega) (by omega) hr).1
      omega
    · rw [p.keep k h1] at hr
      have f1 := s.rng k r hr
      have f2 := (p.fresh _ r' (by omega) (by omega) hr').1
      omega
    · rw [p.keep k h1] at hr
      rw [p.keep k' h1'] at hr'
      exact s.inj k k' b b' r r' h2 h2' hg hg' hr hr' e
  · rcases p.stn b hb with hb | hb
    · exact Nat.lt_of_lt_of_le (s.stab b hb) p.ext.size
    · exact hb.2
  · rcases p.stn b hb with hb | hb
    · exact s.st1 b hb
    · exact .inr (c.new b (by omega))
  · rcases hm with hm | hm
    · rw [p.keep k (.inl (by omega))]; exact s.keep k hk
    · rw [p.keep k (by omega)]; exact s.keep k hk

/-- The frame behind these operations. -/
def stE (env : Env) (all : List Eff) : List Nat → Env
  | [] => env
  | j :: r => match all[j]? with
    | some f => putd f.d f.x (stE env all r)
    | none => stE env all r
/-- The objects of the operations, those that have not come up: gone. -/
def seg (L : Nat → Bool) : Nat → List Eff → Hp
  | _, [] => []
  | i, f :: r => (match L i with | true => f.new | false => List.replicate f.new.length .gone) ++ seg L (i + 1) r
def lens : List Eff → Nat
  | [] => 0
  | f :: r => f.new.length + lens r

theorem stE_look {env : Env} {all : List Eff} : ∀ {pre : List Nat} {t : Nat} {x : AV}, look (stE env all pre) t = some x → look env t = some x ∨ ∃ j f, j ∈ pre ∧ all[j]? = some f ∧ f.d = some t ∧ f.x = x
  | [], _, _, h => .inl h
  | j :: r, t, x, h => by
    simp only [stE] at h
    have up : (look env t = some x ∨ ∃ j f, j ∈ r ∧ all[j]? = some f ∧ f.d = some t ∧ f.x = x) → (look env t = some x ∨ ∃ j' f, j' ∈ j :: r ∧ all[j']? = some f ∧ f.d = some t ∧ f.x = x) := fun h => h.imp id fun ⟨j', f, h1, h2⟩ => ⟨j', f, List.mem_cons_of_mem _ h1, h2⟩
    split at h
    · rename_i f hf
      cases hd : f.d with
      | none => rw [hd] at h; exact up (stE_look h)
      | some d =>
        rw [hd] at h
        simp only [putd, look_cons] at h
        split at h
        · rename_i he; subst he; cases h
          exact .inr ⟨j, f, List.mem_cons_self, hf, hd, rfl⟩
        · exact up (stE_look h)
    · exact up (stE_look h)

theorem seg_length (L : Nat → Bool) : ∀ (i : Nat) (l : List Eff), (seg L i l).length = lens l
  | _, [] => rfl
  | i, f :: r => by
    simp only [seg, lens, List.length_append, seg_length L (i + 1) r]
    cases L i <;> simp
theorem lens_append : ∀ (a b : List Eff), lens (a ++ b) = lens a + lens b
  | [], b => by simp [lens]
  | f :: a, b => by simp [lens, lens_append a b, Nat.add_assoc]
theorem seg_append (L : Nat → Bool) : ∀ (i : Nat) (a b : List Eff), seg L i (a ++ b) = seg L i a ++ seg L (i + a.length) b
  | i, [], b => by simp [seg]
  | i, f :: a, b => by
    simp only [List.cons_append, seg, seg_append L (i + 1) a b, List.length_cons, List.append_assoc]
    rw [show i + 1 + a.length = i + (a.length + 1) by omega]
theorem seg_congr {L L' : Nat → Bool} : ∀ (l : List Eff) (i : Nat), (∀ j, i ≤ j → j < i + l.length → L j = L' j) → seg L i l = seg L' i l
  | [], _, _ => rfl
  | f :: r, i, h => by
    simp only [seg, h i (Nat.le_refl _) (by simp), seg_congr r (i + 1) (fun j h1 h2 => h j (by omega) (by simp; omega))]
/-- What has come up by one account has by a larger one. -/
theorem seg_mono {L L' : Nat → Bool} : ∀ (l : List Eff) (i k : Nat) (b : AB), (∀ j, L j = true → L' j = true) → (seg L i l)[k]? = some b → b ≠ .gone → (seg L' i l)[k]? = some b
  | [], _, k, b, _, h, _ => by simp [seg] at h
  | f :: r, i, k, b, hL, h, hg => by
    simp only [seg] at h ⊢
    have len : ∀ L : Nat → Bool, (match L i with | true => f.new | false => List.replicate f.new.length .gone).length = f.new.length := fun L => by cases L i <;> simp
    by_cases hk : k < f.new.length
    · rw [List.getElem?_append_left (by rw [len]; exact hk)] at h ⊢
      cases h1 : L i with
      | true => rw [h1] at h; rw [hL i h1]; exact h
      | false =>
        rw [h1] at h
        simp only [List.getElem?_replicate] at h
        rw [if_pos hk] at h
        cases h; exact absurd rfl hg
    · rw [List.getElem?_append_right (by rw [len]; omega), len] at h ⊢
      exact seg_mono r (i + 1) _ b hL h hg

def dropE (ds : List Nat) : Env → Env
  | [] => []
  | (t, x) :: r => match ds.any (Nat.beq t) with
    | true => dropE ds r
    | false => (t, x) :: dropE ds r
theorem any_beq {ds : List Nat} {t : Nat} : ds.any (Nat.beq t) = true ↔ t ∈ ds := by
  rw [List.any_eq_true]
  constructor
  · rintro ⟨x, h1, h2⟩; rw [Nat.eq_of_beq_eq_true h2]; exact h1
  · exact fun h => ⟨t, h, Nat.beq_refl t⟩
theorem look_dropE {ds : List Nat} : ∀ {env : Env} {t : Nat} {x : AV}, look (dropE ds env) t = some x → look env t = some x ∧ t ∉ ds
  | [], _, _, h => by cases h
  | (k, u) :: r, t, x, h => by
    simp only [dropE] at h
    split at h
    · rename_i hb
      obtain ⟨h1, h2⟩ := look_dropE h
      refine ⟨?_, h2⟩
      rw [look_cons, if_neg (fun e : k = t => h2 (e ▸ any_beq.1 hb))]; exact h1
    · rename_i hb
      rw [look_cons] at h ⊢
      split at h
      · rename_i he; subst he
        exact ⟨by rw [if_pos rfl]; exact h, fun hm => by rw [any_beq.2 hm] at hb; cases hb⟩
      · rename_i he
        rw [if_neg he]; exact look_dropE h

theorem mid_out {α : Type} (A B B' C : List α) (hB : B.length = B'.length) (k : Nat) (hk : k < A.length ∨ A.length + B.length ≤ k) : (A ++ (B ++ C))[k]? = (A ++ (B' ++ C))[k]? := by
  rcases hk with hk | hk
  · rw [List.getElem?_append_left hk, List.getElem?_append_left hk]
  · rw [List.getElem?_append_right (by omega), List.getElem?_append_right (by omega), List.getElem?_append_right (by omega), List.getElem?_append_right (by omega), hB]

/-- The edges allow what is claimed: operation i < m comes behind those of 'pres i'; each from m on comes behind all before it. -/
def okDraw (ops : Array Oper) (pres : List (List Nat)) : Bool :=
  (List.range ops.size).all fun i => match ops[i]? with
    | none => false
    | some o =>
      (o.after.toList.all fun e => !Region.binds .any e || decide (e.on < i)) &&
      (match pres[i]? with
        | some pre => pre.all fun j => decide (j < i) && o.after.toList.any fun e => Region.binds .any e && (Nat.beq e.on j || (pres.getD e.on []).any (Nat.beq j))
        | none => (List.range i).all fun j => o.after.toList.any fun e => Region.binds .any e && Nat.beq e.on j)

def dstsOf (all : List Eff) : List Nat := all.filterMap (·.d)

/-- One of the first operations: at what its predecessors leave it yields this; or its guard says no. -/
def GStep (P : Program) (ops : Array Oper) (i : Nat) (env : Env) (h : Hp) (f : Eff) : Prop :=
  ∃ o, ops[i]? = some o ∧ o.dst = f.d ∧
    ((∃ x new, (o.guard = none ∨ ∃ g want t, o.guard = some (g, want) ∧ (ops[g]?).bind (·.dst) = some t ∧ look env t = some (.b want)) ∧ FStep P ⟨o.dst, o.op, o.type, o.pos, o.after, none⟩ env h f.new.length x new ∧ x h.length = f.x ∧ new h.length = f.new) ∨
     (∃ g want t, o.guard = some (g, want) ∧ (ops[g]?).bind (·.dst) = some t ∧ (look env t = some (.b (!want)) ∨ look env t = some (.v undef)) ∧ f.x = .v undef ∧ f.new = []))

/-- What is left to show of such a region, once these operations are done with. -/
def DV (P : Program) (n : Nat × Nat) (ops : Array Oper) (pres : List (List Nat)) (ds : List Nat) (env : Env) (h : Hp) (effs : List Eff) (K : Env → Hp → Prop) : Prop :=
  ∃ more, (effs ++ more).length = pres.length ∧ dstsOf (effs ++ more) = ds ∧
    (∀ i f pre, effs.length ≤ i → (effs ++ more)[i]? = some f → pres[i]? = some pre → GStep P ops i (stE env ((effs ++ more).take i) pre) (h ++ seg (fun j => pre.any (Nat.beq j)) 0 ((effs ++ more).take i)) f) ∧
    VC P n ops (ops.toList.drop pres.length) (stE env (effs ++ more) (List.range pres.length)) (h ++ seg (fun _ => true) 0 (effs ++ more)) K

theorem dv_step {P : Program} {n : Nat × Nat} {ops : Array Oper} {pres : List (List Nat)} {ds : List Nat} {env : Env} {h : Hp} {effs : List Eff} {K : Env → Hp → Prop} {f : Eff} {pre : List Nat} {i : Nat} (hi : effs.length = i) (hp : pres[i]? = some pre)
    (hg : GStep P ops i (stE env effs pre) (h ++ seg (fun j => pre.any (Nat.beq j)) 0 effs) f) (hk : DV P n ops pres ds env h (effs ++ [f]) K) : DV P n ops pres ds env h effs K := by
  obtain ⟨more, h1, h2, h3, h4⟩ := hk
  have e : effs ++ [f] ++ more = effs ++ (f :: more) := by simp
  rw [e] at h1 h2 h3 h4
  refine ⟨f :: more, h1, h2, fun j g p hj hgj hpj => ?_, h4⟩
  by_cases hji : j = i
  · subst hji
    rw [hp] at hpj
    cases hpj
    rw [List.getElem?_append_right (by omega), hi, Nat.sub_self] at hgj
    simp at hgj
    subst hgj
    rw [List.take_append, List.take_of_length_le (by omega), hi, Nat.sub_self]
    simpa using hg
  · exact h3 j g p (by simp; omega) hgj hpj
theorem dv_end {P : Program} {n : Nat × Nat} {ops : Array Oper} {pres : List (List Nat)} {ds : List Nat} {env : Env} {h : Hp} {effs : List Eff} {K : Env → Hp → Prop} (hl : effs.length = pres.length) (hd : dstsOf effs = ds)
    (hk : VC P n ops (ops.toList.drop pres.length) (stE env effs (List.range pres.length)) (h ++ seg (fun _ => true) 0 effs) K) : DV P n ops pres ds env h effs K := by
  refine ⟨[], by simpa using hl, by simpa using hd, fun i f pre hi hf _ => ?_, by simpa using hk⟩
  have := (List.getElem?_eq_some_iff.1 hf).1
  simp at this
  omega

/-- Where the region stands when these operations have come up. -/
structure Stand (P : Program) (n : Nat × Nat) (c : Ctx) (env : Env) (h : Hp) (all : List Eff) (L : Nat → Bool) (ρ : Pl) (S : Nat → Prop) (a : Act) (w : World) : Prop where
  size : a.tmps.size = n.1
  defers : Marks c S a.defers w
  cm : c.m = n.2
  env0 : ∀ t x, look env t = some x → R S w x ρ (a.tmps.getD t undef)
  done : ∀ (i : Nat) f t, all[i]? = some f → L i = true → f.d = some t → R S w f.x ρ (a.tmps.getD t undef)
  hs : HS c ρ S (h ++ seg L 0 all) w
  undone : ∀ (i : Nat) f, all[i]? = some f → L i = false → ∀ j, j < f.new.length → ρ (h.length + lens (all.take i) + j) = none

theorem Stand.step {P : Program} {n : Nat × Nat} {c : Ctx} {env : Env} {h : Hp} {all : List Eff} {L L' : Nat → Bool} {ρ ρ' : Pl} {S S' : Nat → Prop} {a : Act} {w w' : World} {i : Nat} {f : Eff} {y : Value} (s : Stand P n c env h all L ρ S a w)
    (hf : all[i]? = some f) (hi : L i = false) (hL : ∀ j, L' j = (L j || Nat.beq j i)) (p : Post ρ ρ' S S' w w' (h.length + lens (all.take i)) f.new.length f.x f.new y) (hd : okd f.d n = true) (hnd : (dstsOf all).Nodup) (henv : ∀ t x, look env t = some x → t ∉ dstsOf all) (hm : c.m ≤ h.length) :
    Stand P n c env h all L' ρ' S' (a.put f.d y) w' := by
  have hn := s.undone i f hf hi
  have l := p.later hn s.hs.stab
  have hil : i < all.length := (List.getElem?_eq_some_iff.1 hf).1
  have dst_ne : ∀ {j : Nat} {g : Eff} {t : Nat}, all[j]? = some g → j ≠ i → g.d = some t → f.d ≠ some t := fun {j g t} hg hne hgt hft => by
    have key : ∀ {l : List Eff} {i j : Nat} {f g : Eff}, (dstsOf l).Nodup → l[i]? = some f → l[j]? = some g → i < j → f.d = some t → g.d = some t → False := by
      intro l
      induction l with
      | nil => intro i j f g _ h1; simp at h1
      | cons e l ih =>
        intro i j f g hnd h1 h2 hij hf hg
        have tail : (dstsOf l).Nodup := by
          unfold dstsOf at hnd ⊢
          rw [List.filterMap_cons] at hnd
          split at hnd
          · exact hnd
          · exact (List.nodup_cons.1 hnd).2
        cases j with
        | zero => omega
        | succ j =>
          simp only [List.getElem?_cons_succ] at h2
          cases i with
          | zero =>
            simp only [List.getElem?_cons_zero, Option.some.injEq] at h1
            subst h1
            unfold dstsOf at hnd
            rw [List.filterMap_cons, hf] at hnd
            exact (List.nodup_cons.1 hnd).1 (List.mem_filterMap.2 ⟨g, List.mem_of_getElem? h2, hg⟩)
          | succ i => exact ih tail (by simpa using h1) h2 (by omega) hf hg
    rcases Nat.lt_or_gt_of_ne hne with h1 | h1
    · exact key hnd hg hf h1 hgt hft
    · exact key hnd hf hg h1 hft hgt
  have other : ∀ {t : Nat}, f.d ≠ some t → (a.put f.d y).tmps.getD t undef = a.tmps.getD t undef := fun {t} ht => by
    cases hfd : f.d with
    | none => rfl
    | some d => exact getD_put_other (fun e => ht (by rw [hfd, e]))
  have hsplit : all = all.take i ++ f :: all.drop (i + 1) := by
    have := List.take_append_drop i all
    rw [List.drop_eq_getElem_cons hil] at this
    have e : all[i] = f := by rw [List.getElem?_eq_getElem hil] at hf; exact Option.some.inj hf
    rw [e] at this
    exact this.symm
  have hti : (all.take i).length = i := by rw [List.length_take]; omega
  have sL : ∀ M : Nat → Bool, seg M 0 all = seg M 0 (all.take i) ++ ((match M i with | true => f.new | false => List.replicate f.new.length .gone) ++ seg M (i + 1) (all.drop (i + 1))) := fun M => by
    conv => lhs; rw [hsplit]
    rw [seg_append, hti, Nat.zero_add]; rfl
  have e1 : seg L' 0 (all.take i) = seg L 0 (all.take i) := seg_congr _ _ fun j _ hj => by
    rw [hti] at hj
    rw [hL, show Nat.beq j i = false from by rw [← Bool.not_eq_true]; intro hb; have := Nat.eq_of_beq_eq_true hb; omega, Bool.or_false]
  have e2 : seg L' (i + 1) (all.drop (i + 1)) = seg L (i + 1) (all.drop (i + 1)) := seg_congr _ _ fun j hj _ => by
    rw [hL, show Nat.beq j i = false from by rw [← Bool.not_eq_true]; intro hb; have := Nat.eq_of_beq_eq_true hb; omega, Bool.or_false]
  have hLi : L' i = true := by rw [hL, Nat.beq_refl, Bool.or_true]
  have hA : h ++ seg L 0 all = h ++ (seg L 0 (all.take i) ++ (List.replicate f.new.length .gone ++ seg L (i + 1) (all.drop (i + 1)))) := by rw [sL L, hi]
  have hB : h ++ seg L' 0 all = h ++ (seg L 0 (all.take i) ++ (f.new ++ seg L (i + 1) (all.drop (i + 1)))) := by rw [sL L', hLi, e1, e2]
  have hlen := seg_length L 0 (all.take i)
  refine ⟨by rw [size_put]; exact s.size, by rw [defers_put]; exact s.defers.later l, s.cm, fun t x hx => ?_, fun j g t hg hj ht => ?_, ?_, fun j g hg hj k hk => ?_⟩
  · rw [other (fun e => henv t x hx (List.mem_filterMap.2 ⟨f, List.mem_of_getElem? hf, e⟩))]
    exact (s.env0 t x hx).later l
  · by_cases hji : j = i
    · subst hji
      rw [hf] at hg
      cases hg
      rw [ht] at hd ⊢
      have hlt : t < a.tmps.size := by rw [s.size]; exact Nat.le_of_ble_eq_true hd
      rw [getD_put_same hlt]; exact p.val
    · rw [other (dst_ne hg hji ht)]
      have hjL : L j = true := by
        rw [hL] at hj
        rcases Bool.or_eq_true_iff.1 hj with hj | hj
        · exact hj
        · exact absurd (Nat.eq_of_beq_eq_true hj) hji
      exact (s.done j g t hg hjL ht).later l
  · have hs := s.hs
    rw [hA] at hs
    rw [hB]
    refine hs.fill p hn (by simp) (fun k hk => ?_) (fun j hj => ?_) (.inl (by omega))
    · have := mid_out (h ++ seg L 0 (all.take i)) f.new (List.replicate f.new.length .gone) (seg L (i + 1) (all.drop (i + 1))) (by simp) k (by rw [List.length_append, hlen]; omega)
      simpa only [List.append_assoc] using this
    · rw [List.getElem?_append_right (by omega), List.getElem?_append_right (by omega), List.getElem?_append_left (by omega)]
      congr 1
      omega
  · have hjne : j ≠ i := fun e => by rw [e, hLi] at hj; cases hj
    have hjL : L j = false := by
      rw [hL] at hj
      exact (Bool.or_eq_false_iff.1 hj).1
    have h1 := s.undone j g hg hjL k hk
    rw [p.keep _ ?_]; exact h1
    have hjl : j < all.length := (List.getElem?_eq_some_iff.1 hg).1
    have eg : all[j] = g := by rw [List.getElem?_eq_getElem hjl] at hg; exact Option.some.inj hg
    have ef : all[i] = f := by rw [List.getElem?_eq_getElem hil] at hf; exact Option.some.inj hf
    have mono : ∀ {u v : Nat}, u < v → (hv : v ≤ all.length) → (hu : u < all.length) → lens (all.take u) + all[u].new.length ≤ lens (all.take v) := fun {u v} huv hv hu => by
      have e3 : all.take v = all.take u ++ (all[u] :: (all.take v).drop (u + 1)) := by
        have := List.take_append_drop u (all.take v)
        rw [List.take_take, Nat.min_eq_left (by omega), List.drop_eq_getElem_cons (by simp; omega)] at this
        rw [List.getElem_take] at this
        exact this.symm
      rw [e3, lens_append, lens]; omega
    rcases Nat.lt_or_gt_of_ne hjne with h2 | h2
    · left
      have := mono h2 (by omega) hjl
      rw [eg] at this
      omega
    · right
      have := mono h2 (by omega) hil
      rw [ef] at this
      omega

theorem okDraw_lt {ops : Array Oper} {pres : List (List Nat)} (hok : okDraw ops pres = true) {i : Nat} {o : Oper} (ho : ops[i]? = some o) : ∀ e, e ∈ o.after → Region.binds .any e = true → e.on < i := by
  intro e he hb
  have hlt : i < ops.size := (Array.getElem?_eq_some_iff.1 ho).1
  have h := List.all_eq_true.1 hok i (by simpa using hlt)
  rw [ho] at h
  simp only [Bool.and_eq_true, List.all_eq_true] at h
  have := h.1 e (by simpa using he)
  simpa [hb] using this
theorem okDraw_pre {ops : Array Oper} {pres : List (List Nat)} (hok : okDraw ops pres = true) {i : Nat} {o : Oper} {pre : List Nat} (ho : ops[i]? = some o) (hp : pres[i]? = some pre) : ∀ j, j ∈ pre → j < i ∧ ∃ e, e ∈ o.after ∧ Region.binds .any e = true ∧ (e.on = j ∨ j ∈ pres.getD e.on []) := by
  intro j hj
  have hlt : i < ops.size := (Array.getElem?_eq_some_iff.1 ho).1
  have h := List.all_eq_true.1 hok i (by simpa using hlt)
  rw [ho] at h
  simp only [hp, Bool.and_eq_true, List.all_eq_true] at h
  have := h.2 j hj
  simp only [decide_eq_true_eq, List.any_eq_true, Bool.and_eq_true, Bool.or_eq_true] at this
  obtain ⟨h1, e, h2, h3, h4⟩ := this
  refine ⟨h1, e, by simpa using h2, h3, ?_⟩
  rcases h4 with h4 | ⟨x, h5, h6⟩
  · exact .inl (Nat.eq_of_beq_eq_true h4)
  · right; rw [Nat.eq_of_beq_eq_true h6]; exact h5
theorem okDraw_tail {ops : Array Oper} {pres : List (List Nat)} (hok : okDraw ops pres = true) {i : Nat} {o : Oper} (ho : ops[i]? = some o) (hp : pres.length ≤ i) : ∀ j, j < i → ∃ e, e ∈ o.after ∧ Region.binds .any e = true ∧ e.on = j := by
  intro j hj
  have hlt : i < ops.size := (Array.getElem?_eq_some_iff.1 ho).1
  have h := List.all_eq_true.1 hok i (by simpa using hlt)
  rw [ho] at h
  simp only [List.getElem?_eq_none hp, Bool.and_eq_true, List.all_eq_true] at h
  have := h.2 j (by simpa using hj)
  simp only [List.any_eq_true, Bool.and_eq_true] at this
  obtain ⟨e, h2, h3, h4⟩ := this
  exact ⟨e, by simpa using h2, h3, Nat.eq_of_beq_eq_true h4⟩

/-- All before number k have come up, and no other one: what is left comes in the order of the text. -/
theorem wpAny_tail {P : Program} {ops : Array Oper} {pres : List (List Nat)} {Q : Exit → Act → World → Prop} (hok : okDraw ops pres = true) : ∀ (r k fuel : Nat) (listed : Array Bool) (a : Act) (w : World), k + r = ops.size → pres.length ≤ k → r ≤ fuel → listed.size = ops.size → (∀ j, j < ops.size → listed.getD j false = decide (j < k)) →
    wpList P ops Q (ops.toList.drop k) a w → wpAny P .any ops Q fuel listed a w := by
  intro r
  induction r with
  | zero =>
    intro k fuel listed a w hk _ _ hsz hl h
    have hk' : k = ops.size := by omega
    have hr : Region.ready .any ops listed = [] := by
      rw [List.eq_nil_iff_forall_not_mem]
      intro i hi
      obtain ⟨h1, o, ho, _⟩ := mem_ready.1 hi
      have hlt : i < ops.size := (Array.getElem?_eq_some_iff.1 ho).1
      have := hl i hlt
      have e : listed.getD i true = listed.getD i false := by simp [Array.getD, hsz, hlt]
      rw [e, this] at h1
      simp at h1; omega
    rw [List.drop_of_length_le (by simp; omega)] at h
    cases fuel with
    | zero => exact ⟨hr, h⟩
    | succ fuel => exact ⟨fun _ => h, fun i hi => by rw [hr] at hi; cases hi⟩
  | succ r ih =>
    intro k fuel listed a w hk hp hf hsz hl h
    obtain ⟨fuel, rfl⟩ : ∃ f, fuel = f + 1 := ⟨fuel - 1, by omega⟩
    have hlt : k < ops.size := by omega
    have ho : ops[k]? = some ops[k] := Array.getElem?_eq_getElem hlt
    have hin : k ∈ Region.ready .any ops listed := mem_ready.2 ⟨by
      have e : listed.getD k true = listed.getD k false := by simp [Array.getD, hsz, hlt]
      rw [e, hl k hlt]; simp, ops[k], ho, fun e he hb => by
      have := okDraw_lt hok ho e he hb
      rw [hl e.on (by omega)]; simpa using this⟩
    refine ⟨(fun hr => by rw [hr] at hin; cases hin), fun i hi => ?_⟩
    obtain ⟨h1, o, hoi, hall⟩ := mem_ready.1 hi
    have hil : i < ops.size := (Array.getElem?_eq_some_iff.1 hoi).1
    have hik : i = k := by
      have e : listed.getD i true = listed.getD i false := by simp [Array.getD, hsz, hil]
      rw [e, hl i hil] at h1
      have h2 : k ≤ i := by simpa using h1
      rcases Nat.eq_or_lt_of_le h2 with h3 | h3
      · exact h3.symm
      · obtain ⟨e, he, hb, hon⟩ := okDraw_tail hok hoi (by omega) k h3
        have := hall e he hb
        rw [hon, hl k hlt] at this
        simp at this
    subst hik
    have hlist : ops.toList.drop i = ops[i] :: ops.toList.drop (i + 1) := by
      rw [List.drop_eq_getElem_cons (by simpa using hlt)]; simp
    rw [hlist] at h
    have : wpOp P ops Q i (wpList P ops Q (ops.toList.drop (i + 1))) a w := by
      unfold wpOp
      rw [ho]
      exact h
    refine wpOp_mono (fun a' w' h' => ih (i + 1) fuel _ a' w' (by omega) (by omega) (by omega) (by simpa using hsz) (fun j hj => ?_) h') this
    by_cases hij : i = j
    · subst hij
      simp [Array.getD, hsz, hlt]
    · rw [getD_set_ne false hij, hl j hj]
      simp; omega

theorem any_draw {P : Program} {n : Nat × Nat} {env : Env} {h : Hp} {KK : Env → Hp → Prop} {l : List Oper} (pres : List (List Nat)) (ds : List Nat) (hok : okDraw l.toArray pres = true) (hnd : ds.Nodup) (hds : (ds.all fun d => Nat.blt d n.1) = true) (hsz : Nat.ble pres.length l.length = true)
    (hv : DV P n l.toArray pres ds (dropE ds env) h [] KK) : ∀ c ρ S a w QQ, Sim n c ρ S env h a w → (∀ env' h' ρ' S' a' w', KK env' h' → Sim n c ρ' S' env' h' a' w' → QQ Exit.normal a' w') →
    wpAny P .any l.toArray QQ l.toArray.size (Array.replicate l.toArray.size false) a { w with drawn := w.drawn + 1 } := by
  intro c ρ S a w QQ s hQ
  obtain ⟨all, h1, h2, h3, h4⟩ := hv
  simp only [List.nil_append, List.length_nil, Nat.zero_le, true_implies] at h1 h2 h3 h4
  have hple : pres.length ≤ l.toArray.size := by simpa using Nat.le_of_ble_eq_true hsz
  have henv : ∀ t x, look (dropE ds env) t = some x → look env t = some x ∧ t ∉ dstsOf all := fun t x hx => by rw [h2]; exact look_dropE hx
  -- the first operations, in whatever order
  have key : ∀ (fuel : Nat) (listed : Array Bool) (U : List Nat) (ρ : Pl) (S : Nat → Prop) (a : Act) (w : World), listed.size = l.toArray.size → (∀ j, j < l.toArray.size → listed.getD j false = false → j ∈ U) → U.length ≤ fuel → (∀ j, pres.length ≤ j → listed.getD j false = false) →
      (∀ (i : Nat) o, l.toArray[i]? = some o → listed.getD i false = true → ∀ e, e ∈ o.after → Region.binds .any e = true → listed.getD e.on false = true) →
      Stand P n c (dropE ds env) h all (fun j => listed.getD j false) ρ S a w → wpAny P .any l.toArray QQ fuel listed a w := by
    intro fuel
    induction fuel with
    | zero =>
      intro listed U ρ S a w hls hU hUl htail hcl st
      have hU0 : U = [] := List.eq_nil_of_length_eq_zero (by omega)
      subst hU0
      have hall : ∀ j, j < l.toArray.size → listed.getD j false = true := fun j hj => by
        cases hb : listed.getD j false with
        | true => rfl
        | false => exact absurd (hU j hj hb) (by simp)
      have hpm : pres.length = l.toArray.size := by
        rcases Nat.lt_or_ge pres.length l.toArray.size with h5 | h5
        · have := htail pres.length (Nat.le_refl _)
          rw [hall _ h5] at this; cases this
        · omega
      refine wpAny_tail (k := pres.length) (r := 0) hok _ _ a w (by omega) (Nat.le_refl _) (Nat.le_refl _) hls (fun j hj => ?_) (h4 c ρ S a w QQ ?_ fun env' h' ρ' S' a' w' k s' => hQ env' h' ρ' S' a' w' k s')
      · rw [hall j hj]; simp; omega
      · refine ⟨st.size, st.defers, fun t x hx => ?_, ?_, st.cm⟩
        · rcases stE_look hx with hx | ⟨j, f, h5, h6, h7, rfl⟩
          · exact st.env0 t x hx
          · exact st.done j f t h6 (hall j (by have := (List.getElem?_eq_some_iff.1 h6).1; omega)) h7
        · have := st.hs
          rwa [seg_congr (L := fun j => listed.getD j false) (L' := fun _ => true) all 0 (fun j _ hj => hall j (by omega))] at this
    | succ fuel ih =>
      intro listed U ρ S a w hls hU hUl htail hcl st
      by_cases hfl : ∀ j, j < pres.length → listed.getD j false = true
      · -- all of the first ones have come up
        refine wpAny_tail (k := pres.length) (r := l.toArray.size - pres.length) hok _ _ a w (by omega) (Nat.le_refl _) ?_ hls (fun j hj => ?_) (h4 c ρ S a w QQ ?_ fun env' h' ρ' S' a' w' k s' => hQ env' h' ρ' S' a' w' k s')
        · have hsub : ∀ j, j ∈ List.range' pres.length (l.toArray.size - pres.length) → j ∈ U := fun j hj => by
            rw [List.mem_range'_1] at hj
            exact hU j (by omega) (htail j hj.1)
          have := (List.nodup_range' (s := pres.length) (n := l.toArray.size - pres.length)).length_le_of_subset hsub
          rw [List.length_range'] at this
          omega
        · by_cases hj' : j < pres.length
          · rw [hfl j hj']; simp [hj']
          · rw [htail j (by omega)]; simp; omega
        · refine ⟨st.size, st.defers, fun t x hx => ?_, ?_, st.cm⟩
          · rcases stE_look hx with hx | ⟨j, f, h5, h6, h7, rfl⟩
            · exact st.env0 t x hx
            · exact st.done j f t h6 (hfl j (by have := (List.getElem?_eq_some_iff.1 h6).1; omega)) h7
          · have := st.hs
            rwa [seg_congr (L := fun j => listed.getD j false) (L' := fun _ => true) all 0 (fun j _ hj => hfl j (by omega))] at this
      · obtain ⟨j0, hj0, hjf⟩ : ∃ j, j < pres.length ∧ listed.getD j false = false := by
          apply Classical.byContradiction
          intro hc
          apply hfl
          intro j hj
          cases hb : listed.getD j false with
          | true => rfl
          | false => exact absurd ⟨j, hj, hb⟩ hc
        -- something is ready
        have hex : Region.ready .any l.toArray listed ≠ [] := by
          have least : ∃ j, j < pres.length ∧ listed.getD j false = false ∧ ∀ k, k < j → listed.getD k false = true := by
            have : ∀ b j, j ≤ b → j < pres.length → listed.getD j false = false → ∃ j, j < pres.length ∧ listed.getD j false = false ∧ ∀ k, k < j → listed.getD k false = true := by
              intro b
              induction b with
              | zero => exact fun j hj h5 h6 => ⟨j, h5, h6, fun k hk => by omega⟩
              | succ b ihb =>
                intro j hj h5 h6
                by_cases hk : ∃ k, k < j ∧ listed.getD k false = false
                · obtain ⟨k, hk1, hk2⟩ := hk
                  exact ihb k (by omega) (by omega) hk2
                · refine ⟨j, h5, h6, fun k hk' => ?_⟩
                  cases hb : listed.getD k false with
                  | true => rfl
                  | false => exact absurd ⟨k, hk', hb⟩ hk
            exact this j0 j0 (Nat.le_refl _) hj0 hjf
          obtain ⟨j, h5, h6, h7⟩ := least
          intro he
          have hlt : j < l.toArray.size := by omega
          have : j ∈ Region.ready .any l.toArray listed := mem_ready.2 ⟨by
            have e : listed.getD j true = listed.getD j false := by simp only [Array.getD, hls, hlt, dif_pos]
            rw [e, h6], _, Array.getElem?_eq_getElem hlt, fun e he hb => h7 _ (okDraw_lt hok (Array.getElem?_eq_getElem hlt) e he hb)⟩
          rw [he] at this; cases this
        refine ⟨fun h5 => absurd h5 hex, fun i hi => ?_⟩
        obtain ⟨g1, o, ho, hall⟩ := mem_ready.1 hi
        have hil : i < l.toArray.size := (Array.getElem?_eq_some_iff.1 ho).1
        have g1' : listed.getD i false = false := by
          have e : listed.getD i true = listed.getD i false := by simp only [Array.getD, hls, hil, dif_pos]
          rw [← e]; exact g1
        have him : i < pres.length := by
          rcases Nat.lt_or_ge i pres.length with h5 | h5
          · exact h5
          · obtain ⟨e, he, hb, hon⟩ := okDraw_tail hok ho h5 j0 (by omega)
            have := hall e he hb
            rw [hon, hjf] at this; cases this
        have hfi : all[i]? = some all[i] := List.getElem?_eq_getElem (by omega)
        obtain ⟨pre, hpre⟩ : ∃ pre, pres[i]? = some pre := ⟨_, List.getElem?_eq_getElem him⟩
        obtain ⟨o', ho', hd', hg⟩ := h3 i all[i] pre hfi hpre
        rw [ho] at ho'
        cases ho'
        -- its predecessors have come up
        have hprel : ∀ j, j ∈ pre → listed.getD j false = true := by
          have up : ∀ (b k : Nat) (p : List Nat), k ≤ b → pres[k]? = some p → (k = i ∨ listed.getD k false = true) → ∀ j, j ∈ p → listed.getD j false = true := by
            intro b
            induction b with
            | zero =>
              intro k p hk hp _ j hj
              obtain ⟨ok, hok1⟩ : ∃ o, l.toArray[k]? = some o := ⟨_, Array.getElem?_eq_getElem (by have := (List.getElem?_eq_some_iff.1 hp).1; omega)⟩
              have := (okDraw_pre hok hok1 hp j hj).1
              omega
            | succ b ihb =>
              intro k p hk hp hki j hj
              obtain ⟨ok, hok1⟩ : ∃ o, l.toArray[k]? = some o := ⟨_, Array.getElem?_eq_getElem (by have := (List.getElem?_eq_some_iff.1 hp).1; omega)⟩
              obtain ⟨_, e, he, hb, hor⟩ := okDraw_pre hok hok1 hp j hj
              have hle : listed.getD e.on false = true := by
                rcases hki with rfl | hki
                · rw [ho] at hok1; cases hok1; exact hall e he hb
                · exact hcl k ok hok1 hki e he hb
              rcases hor with hor | hor
              · rw [← hor]; exact hle
              · have hon := okDraw_lt hok hok1 e he hb
                cases hpe : pres[e.on]? with
                | none => rw [List.getD_eq_getElem?_getD, hpe] at hor; simp at hor
                | some p' =>
                  rw [List.getD_eq_getElem?_getD, hpe] at hor
                  exact ihb e.on p' (by omega) hpe (.inr hle) j hor
          exact up i i pre (Nat.le_refl _) hpre (.inl rfl)
        have hpreP : Pre ρ S (stE (dropE ds env) (all.take i) pre) (h ++ seg (fun j => pre.any (Nat.beq j)) 0 (all.take i)) a w := by
          have sub : ∀ (k : Nat) b, (h ++ seg (fun j => pre.any (Nat.beq j)) 0 (all.take i))[k]? = some b → b ≠ .gone → (h ++ seg (fun j => listed.getD j false) 0 all)[k]? = some b := fun k b hb hgb => by
            by_cases hk : k < h.length
            · rw [List.getElem?_append_left hk] at hb ⊢; exact hb
            · rw [List.getElem?_append_right (by omega)] at hb ⊢
              have h5 := seg_mono (L' := fun j => listed.getD j false) _ _ _ _ (fun j hj => hprel j (any_beq.1 hj)) hb hgb
              have h6 : seg (fun j => listed.getD j false) 0 all = seg (fun j => listed.getD j false) 0 (all.take i) ++ seg (fun j => listed.getD j false) (0 + (all.take i).length) (all.drop i) := by
                rw [← seg_append, List.take_append_drop]
              rw [h6, List.getElem?_append_left (List.getElem?_eq_some_iff.1 h5).1]
              exact h5
          refine ⟨fun t x hx => ?_, st.hs.rng, fun k b hb => ?_, fun k b p hb hgb hp => (st.hs.live k b p (sub k b hb hgb) hgb hp).2, st.hs.stab⟩
          · rcases stE_look hx with hx | ⟨j, f, h5, h6, h7, rfl⟩
            · exact st.env0 t x hx
            · rw [List.getElem?_take] at h6
              split at h6
              · exact st.done j f t h6 (hprel j h5) h7
              · cases h6
          · by_cases hgb : b = .gone
            · subst hgb; trivial
            · exact st.hs.blk k b (sub k b hb hgb)
        have hposl : (h ++ seg (fun j => pre.any (Nat.beq j)) 0 (all.take i)).length = h.length + lens (all.take i) := by rw [List.length_append, seg_length]
        have hokd : okd all[i].d n = true := by
          cases hdi : all[i].d with
          | none => rfl
          | some d =>
            have : d ∈ ds := by rw [← h2]; exact List.mem_filterMap.2 ⟨all[i], List.getElem_mem _, hdi⟩
            exact List.all_eq_true.1 hds d this
        -- on, behind it
        have on : ∀ y ρ' S' w', Post ρ ρ' S S' w w' (h.length + lens (all.take i)) all[i].new.length all[i].x all[i].new y → wpAny P .any l.toArray QQ fuel (listed.setIfInBounds i true) (a.put all[i].d y) w' := fun y ρ' S' w' p => by
          have hiU : i ∈ U := hU i hil g1'
          have hget : ∀ j, (listed.setIfInBounds i true).getD j false = (listed.getD j false || Nat.beq j i) := fun j => by
            by_cases hij : i = j
            · subst hij
              rw [Nat.beq_refl, Bool.or_true]
              simp only [Array.getD, Array.size_setIfInBounds, hls, hil, dif_pos]
              simp
            · rw [getD_set_ne false hij, show Nat.beq j i = false from by rw [← Bool.not_eq_true]; intro hb; have := Nat.eq_of_beq_eq_true hb; omega, Bool.or_false]
          refine ih (listed.setIfInBounds i true) (U.erase i) ρ' S' _ w' (by simpa using hls) (fun j hj hjl => ?_) (by rw [List.length_erase_of_mem hiU]; omega) (fun j hj => ?_) (fun k ok hok1 hkl e he hb => ?_) (st.step (L' := fun j => (listed.setIfInBounds i true).getD j false) hfi g1' hget p hokd (by rw [h2]; exact hnd) (fun t x hx => (henv t x hx).2) s.hs.mle)
          · rw [hget] at hjl
            obtain ⟨h5, h6⟩ := Bool.or_eq_false_iff.1 hjl
            have hne : j ≠ i := fun e => by rw [e, Nat.beq_refl] at h6; cases h6
            exact (List.mem_erase_of_ne hne).2 (hU j hj h5)
          · rw [hget, htail j hj, show Nat.beq j i = false from by rw [← Bool.not_eq_true]; intro hb; have := Nat.eq_of_beq_eq_true hb; omega]; rfl
          · rw [hget] at hkl ⊢
            rcases Bool.or_eq_true_iff.1 hkl with h5 | h5
            · rw [hcl k ok hok1 h5 e he hb]; rfl
            · have := Nat.eq_of_beq_eq_true h5
              subst this
              rw [ho] at hok1
              cases hok1
              rw [hall e he hb]; rfl
        have yv : ∀ {g t : Nat} {b : Bool}, (l.toArray[g]?).bind (·.dst) = some t → look (stE (dropE ds env) (all.take i) pre) t = some (.b b) → yielded l.toArray a.tmps g = some b := fun {g t b} h5 h6 => by
          have h7 := R_v (hpreP.env t _ h6)
          unfold yielded
          rw [h5]
          have : a.tmps[t]? = some (.bool b) := by
            rw [Array.getD_eq_getD_getElem?] at h7
            cases h8 : a.tmps[t]? with
            | none => rw [h8] at h7; simp [undef] at h7
            | some v => rw [h8] at h7; simp at h7; rw [h7]
          simp [this]
        have yvu : ∀ {g t : Nat}, (l.toArray[g]?).bind (·.dst) = some t → look (stE (dropE ds env) (all.take i) pre) t = some (.v undef) → yielded l.toArray a.tmps g = none := fun {g t} h5 h6 => by
          have h7 := R_v (hpreP.env t _ h6)
          unfold yielded
          rw [h5]
          rw [Array.getD_eq_getD_getElem?] at h7
          cases h8 : a.tmps[t]? with
          | none => simp [h8]
          | some v => rw [h8] at h7; simp at h7; simp [h8, h7, undef]
        unfold wpOp
        rw [ho]
        simp only
        rcases hg with ⟨x, new, hgu, hfs, hx, hn⟩ | ⟨g, want, t, hgu, h5, h6, hx, hn⟩
        · have hw : Region.wanted o (yielded l.toArray a.tmps) = true := by
            rcases hgu with hgu | ⟨g, want, t, hgu, h5, h6⟩
            · exact wanted_none hgu
            · simp [Region.wanted, hgu, yv h5 h6]
          rw [if_pos hw]
          left
          have := hfs ρ S a w hpreP (h ++ seg (fun j => pre.any (Nat.beq j)) 0 (all.take i)).length (fun j hj => by rw [hposl]; exact st.undone i _ hfi g1' j hj)
          refine this (wpAny P .any l.toArray QQ fuel (listed.setIfInBounds i true)) QQ fun y ρ' S' w' p => ?_
          rw [hx, hn, hposl] at p
          have := on y ρ' S' w' p
          rw [← hd'] at this
          exact this
        · have hw : Region.wanted o (yielded l.toArray a.tmps) = false := by
            rcases h6 with h6 | h6
            · simp [Region.wanted, hgu, yv h5 h6]
            · simp [Region.wanted, hgu, yvu h5 h6]
          rw [if_neg (by rw [hw]; exact Bool.false_ne_true)]
          have := on undef ρ S w ⟨Ext.refl _ _, rfl, fun _ _ => rfl, fun _ h => h, fun _ h => .inl h, fun k p hk1 hk2 => by rw [hn] at hk2; simp at hk2; omega, fun k k' p p' hk1 hk2 => by rw [hn] at hk2; simp at hk2; omega, by rw [hx]; exact R_v_mk _, fun j b hb => by rw [hn] at hb; simp at hb⟩
          rw [← hd'] at this
          exact this
  have hsize : l.toArray.size = l.length := by simp
  have hrep : ∀ j, (Array.replicate l.toArray.size false).getD j false = false := fun j => by
    simp only [Array.getD]
    split <;> simp
  refine key l.toArray.size _ (List.range l.toArray.size) ρ S a _ (by simp) (fun j hj _ => by simpa using hj) (by simp) (fun j _ => hrep j) (fun i o _ hi => by rw [hrep] at hi; cases hi) ?_
  have hseg : ∀ (r : List Eff) (i : Nat), seg (fun _ => false) i r = List.replicate (lens r) .gone := by
    intro r
    induction r with
    | nil => intro i; rfl
    | cons f r ih => intro i; simp only [seg, ih, lens, List.replicate_append_replicate]
  have hL : (fun j => (Array.replicate l.toArray.size false).getD j false) = fun _ => false := funext hrep
  rw [hL]
  have l0 : Later ρ ρ S S w { w with drawn := w.drawn + 1 } := ⟨fun _ _ h => h, fun _ h => h, fun _ _ => rfl, fun _ _ _ _ _ h => h⟩
  refine ⟨s.size, s.defers.later l0, s.cm, fun t x hx => (s.env t x (look_dropE hx).1).later l0, fun i f t _ hi => (by cases hi), ?_, fun i f _ _ j _ => s.hs.dom _ (by omega)⟩
  rw [hseg]
  have ext : Ext c.M c.w0 { w with drawn := w.drawn + 1 } := s.hs.ext.drew
  have at_ : ∀ {k : Nat} {b : AB}, (h ++ List.replicate (lens all) .gone)[k]? = some b → b ≠ .gone → h[k]? = some b := fun {k b} hb hg => by
    by_cases hk : k < h.length
    · rwa [List.getElem?_append_left hk] at hb
    · rw [List.getElem?_append_right (by omega), List.getElem?_replicate] at hb
      split at hb
      · cases hb; exact absurd rfl hg
      · cases hb
  refine ⟨fun k hk => s.hs.dom k (by simp at hk; omega), s.hs.rng, fun k b hb => ?_, fun k b p hb hg hp => s.hs.live k b p (at_ hb hg) hg hp, fun k k' b b' p p' hb hb' hg hg' hp hp' e => s.hs.inj k k' b b' p p' (at_ hb hg) (at_ hb' hg') hg hg' hp hp' e, s.hs.stab, ext, s.hs.st0, s.hs.st1, by simp; exact Nat.le_trans s.hs.mle (Nat.le_add_right _ _), s.hs.keep⟩
  by_cases hg : b = .gone
  · subst hg; trivial
  · exact RB.later l0 (fun _ _ _ => rfl) (s.hs.blk k b (at_ hb hg))

theorem region_any_in {P : Program} {QQ : Exit → Act → World → Prop} {id : Nat} {l : List Oper} {a : Act} {w : World} {r : Option Nat} (hm : P.follows .mixedOrders = true) (hnd : noDef l = true) (h : wpAny P .any l.toArray (fun e a w => e = .normal ∧ QQ .normal a w) l.toArray.size (Array.replicate l.toArray.size false) a { w with drawn := w.drawn + 1 }) :
    (Code.region id l.toArray true).wpIn (rd r) 0 P QQ a w :=
  wpIn_mono (wpIn_region_any hm (wpAny_in (fun e a w h => h.1) hnd h)) fun e a w he => by obtain ⟨rfl, h3⟩ := he; exact h3
theorem aw_draw {P : Program} {n : Nat × Nat} {env : Env} {h : Hp} {Q : Exit → Env → Hp → Prop} {id : Nat} {l : List Oper} (pres : List (List Nat)) (ds : List Nat) (hm : P.follows .mixedOrders = true) (hok : okDraw l.toArray pres = true) (hnd : ds.Nodup) (hds : (ds.all fun d => Nat.blt d n.1) = true) (hsz : Nat.ble pres.length l.length = true)
    (hv : DV P n l.toArray pres ds (dropE ds env) h [] (fun v h => Q .normal v h)) (hndf : noDef l = true := by rfl) : AW P n (.region id l.toArray true) env h Q :=
  fun c ρ S a w QQ s hQ => region_any_in hm hndf (any_draw pres ds hok hnd hds hsz hv c ρ S a w (fun e a w => e = .normal ∧ QQ .normal a w) s fun env' h' ρ' S' a' w' k s' => ⟨rfl, hQ .normal env' h' ρ' S' a' w' k s'⟩)

end Go.Ab
