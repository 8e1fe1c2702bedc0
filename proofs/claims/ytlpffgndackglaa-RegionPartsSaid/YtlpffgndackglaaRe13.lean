/-
  RegionParts: the plain law.
-/
import Derived.Test.YtlpffgndackglaaReT
namespace Go.Proofs.Ytlpffgndackglaa
open Go Go.Ab Go.Fl Go.Re
set_option linter.unusedVariables false
set_option linter.unusedSimpArgs false
set_option maxHeartbeats 4000000
section
variable {f : Flo} {r : List Int}
def Rch (f : Flo) (r : List Int) (a b : Nat) : Prop := ∃ k, Go.Fl.Way f.k.length (mvN f) (okR f r) a k b
theorem way_start {N : Nat} {mv : MV} {ok : Nat → Bool} {s k c : Nat} (w : Go.Fl.Way N mv ok s k c) : s < N ∧ ok s = true := by
  induction w with
  | here h1 h2 => exact ⟨h1, h2⟩
  | on _ _ _ _ _ ih => exact ih
theorem Rch.st {a b : Nat} (h : Rch f r a b) : a < f.k.length ∧ okR f r a = true := by obtain ⟨k, w⟩ := h; exact way_start w
theorem Rch.en {a b : Nat} (h : Rch f r a b) : b < f.k.length ∧ okR f r b = true := by obtain ⟨k, w⟩ := h; exact w.ok_end
theorem Rch.trans {a b c : Nat} (h : Rch f r a b) (h' : Rch f r b c) : Rch f r a c := by
  obtain ⟨k, w'⟩ := h'
  induction w' with
  | here _ _ => exact h
  | on _ hd hm hn ho ih => obtain ⟨j, w⟩ := ih; exact ⟨j + 1, .on w hd hm hn ho⟩
theorem rch_refl {a : Nat} (h : a < f.k.length) (ho : okR f r a = true) : Rch f r a a := ⟨0, .here h ho⟩
theorem Rch.mono {s : List Int} (hs : ∀ x, x ∈ r → x ∈ s) {a b : Nat} (h : Rch f r a b) : Rch f s a b := by
  have hok : ∀ c, okR f r c = true → okR f s c = true := fun c q => okR_t.2 ⟨(okR_t.1 q).1, hs _ (okR_t.1 q).2⟩
  obtain ⟨k, w⟩ := h
  induction w with
  | here h1 h2 => exact ⟨0, .here h1 (hok _ h2)⟩
  | on _ hd hm hn ho ih => obtain ⟨j, w⟩ := ih; exact ⟨j + 1, .on w hd hm hn (hok _ ho)⟩
theorem cells_one (g : Fine f) {c : Nat} (hc : c < f.k.length) : cellsF f [(c : Int)] = [c] := by
  have := size_eq g
  simp only [cellsF, List.filterMap_cons, List.filterMap_nil]
  rw [if_pos (by omega)]
  simp
theorem far_eq {N : Nat} {mv : MV} {ok : Nat → Bool} {l : List Nat} {c : Nat} {F : Nat → Int} (h : Far N mv ok (· ∈ l) F) (e : l = [c]) : Far N mv ok (· = c) F := by
  obtain ⟨a1, a2, a3, a4, a5⟩ := h
  exact ⟨a1, a2, fun x hx => (a3 x hx).trans (by rw [e, List.mem_singleton]), a4, a5⟩
theorem out_rch (g : Fine f) {c x : Nat} (hc : c < f.k.length) (hx : x < f.k.length) : 0 ≤ (outR f r [(c : Int)]).getD x (-1) ↔ Rch f r c x := by
  have hF := far_eq (far_out g r c) (cells_one g hc)
  constructor
  · intro h; exact ⟨_, hF.way ((outR f r [(c : Int)]).getD x (-1)).toNat x hx (by omega)⟩
  · rintro ⟨k, w⟩; exact (w.le hF).2.1
theorem bck_rch (g : Fine f) {c x : Nat} (hc : c < f.k.length) (hx : x < f.k.length) : 0 ≤ (outB f r [(c : Int)]).getD x (-1) ↔ Rch f r x c := by
  have hF := far_eq (far_bck g r c) (cells_one g hc)
  constructor
  · intro h
    exact ⟨_, (hF.way ((outB f r [(c : Int)]).getD x (-1)).toNat x hx (by omega)).first (mv' := mvN f) (fun a d n _ _ _ hm => (mv_bv g).2 hm)⟩
  · rintro ⟨k, w⟩
    exact ((w.first (mv' := bvN f) (fun a d n _ _ _ hm => (mv_bv g).1 hm)).le hF).2.1
def Eqv (f : Flo) (r : List Int) (a b : Nat) : Prop := Rch f r a b ∧ Rch f r b a
theorem Eqv.trans {a b c : Nat} (h : Eqv f r a b) (h' : Eqv f r b c) : Eqv f r a c := ⟨h.1.trans h'.1, h'.2.trans h.2⟩
theorem Eqv.symm {a b : Nat} (h : Eqv f r a b) : Eqv f r b a := ⟨h.2, h.1⟩
theorem mem_part (g : Fine f) (hr : RegP r) {c x : Nat} : (x : Int) ∈ partM f r c ↔ Eqv f r c x := by
  constructor
  · intro h
    obtain ⟨⟨_, hc⟩, _⟩ := part_mem g hr h
    unfold partM at h
    rw [List.mem_filter, Bool.and_eq_true, decide_eq_true_eq, decide_eq_true_eq, Int.toNat_natCast] at h
    have hx : x < f.k.length := Classical.byContradiction fun hn => by
      have := h.2.1; rw [out_big g r [(c : Int)] (by omega)] at this; omega
    exact ⟨(out_rch g (by omega) hx).1 h.2.1, (bck_rch g (by omega) hx).1 h.2.2⟩
  · intro h
    unfold partM
    rw [List.mem_filter, Bool.and_eq_true, decide_eq_true_eq, decide_eq_true_eq, Int.toNat_natCast]
    exact ⟨(okR_t.1 h.1.en.2).2, (out_rch g h.1.st.1 h.1.en.1).2 h.1, (bck_rch g h.1.st.1 h.1.en.1).2 h.2⟩
theorem reg_ext {a b : List Int} (ha : RegP a) (hb : RegP b) (h : ∀ x : Nat, (x : Int) ∈ a ↔ (x : Int) ∈ b) : a = b := by
  refine asc_ext ha.1 hb.1 fun z => ⟨fun hz => ?_, fun hz => ?_⟩
  · obtain ⟨x, rfl⟩ := Int.eq_ofNat_of_zero_le (ha.2 z hz).1; exact (h x).1 hz
  · obtain ⟨x, rfl⟩ := Int.eq_ofNat_of_zero_le (hb.2 z hz).1; exact (h x).2 hz
theorem part_eq (g : Fine f) (hr : RegP r) {c c' : Nat} (h : Eqv f r c c') : partM f r c = partM f r c' :=
  reg_ext (part_reg hr) (part_reg hr) fun x => by
    rw [mem_part g hr, mem_part g hr]
    exact ⟨fun q => h.symm.trans q, fun q => h.trans q⟩
/-- A part is linked within itself. -/
theorem part_in (g : Fine f) (hr : RegP r) {c a b : Nat} (ha : Eqv f r c a) (hb : Eqv f r c b) : Rch f (partM f r c) a b := by
  have key : ∀ {a k b : Nat}, Go.Fl.Way f.k.length (mvN f) (okR f r) a k b → Eqv f r c a → Rch f r b a → Rch f (partM f r c) a b := by
    intro a k b w ha
    have hin : ∀ {y : Nat}, Eqv f r c y → okR f (partM f r c) y = true := fun {y} hy => okR_t.2 ⟨(okR_t.1 hy.1.en.2).1, (mem_part g hr).2 hy⟩
    induction w with
    | here h1 h2 => exact fun _ => rch_refl h1 (hin ha)
    | on w' hd hm hn ho ih =>
      intro hba
      have h1 : Rch f r a _ := ⟨_, Go.Fl.Way.on w' hd hm hn ho⟩
      obtain ⟨j, wj⟩ := ih ⟨Rch.trans ⟨1, Go.Fl.Way.on (.here w'.ok_end.1 w'.ok_end.2) hd hm hn ho⟩ hba |>.choose, (Rch.trans ⟨1, Go.Fl.Way.on (.here w'.ok_end.1 w'.ok_end.2) hd hm hn ho⟩ hba).choose_spec⟩
      exact ⟨j + 1, .on wj hd hm hn (hin (ha.trans ⟨h1, hba⟩))⟩
  obtain ⟨⟨k, w⟩, h2⟩ := ha.symm.trans hb
  exact key w ha h2
theorem head_mem {p : List Int} (h : p ≠ []) : p.headD 0 ∈ p := by
  cases p with
  | nil => exact absurd rfl h
  | cons a l => exact List.mem_cons_self
theorem part_link (g : Fine f) (hr : RegP r) {c : Nat} : linkM f (partM f r c) = true := by
  unfold linkM
  rw [decide_eq_true_eq]
  by_cases hne : partM f r c = []
  · exact .inl hne
  refine .inr ?_
  have hp := part_reg (f := f) (c := c) hr
  have hm := head_mem hne
  obtain ⟨h, hh⟩ := Int.eq_ofNat_of_zero_le (hp.2 _ hm).1
  rw [hh] at hm ⊢
  have hch := (mem_part g hr).1 hm
  refine reg_ext (part_reg hp) hp fun x => ?_
  rw [mem_part g hp]
  constructor
  · intro q; exact (okR_t.1 q.1.en.2).2
  · intro q
    have hcx := (mem_part g hr).1 q
    exact ⟨part_in g hr hch hcx, part_in g hr hcx hch⟩
theorem part_apart (g : Fine f) (hr : RegP r) {c c' : Nat} {p q : List Int} (ep : p = partM f r c) (eq : q = partM f r c') (hp : p ≠ []) (hq : q ≠ []) (hd : ∀ x, x ∈ p → x ∉ q) : linkM f (unionM p q) = false := by
  cases e : linkM f (unionM p q)
  · rfl
  exfalso
  have rp : RegP p := ep ▸ part_reg hr
  have rq : RegP q := eq ▸ part_reg hr
  have hsub : ∀ x, x ∈ unionM p q → x ∈ r := fun x hx => by
    rcases (mem_union rp.1 rq.1).1 hx with h | h
    · rw [ep] at h; exact (List.mem_filter.1 h).1
    · rw [eq] at h; exact (List.mem_filter.1 h).1
  have rU : RegP (unionM p q) := ⟨union_asc rp.1 rq.1, fun x hx => hr.2 x (hsub x hx)⟩
  unfold linkM at e
  rw [decide_eq_true_eq] at e
  have hx := head_mem hp
  have hy := head_mem hq
  obtain ⟨x, ex⟩ := Int.eq_ofNat_of_zero_le (rp.2 _ hx).1
  obtain ⟨y, ey⟩ := Int.eq_ofNat_of_zero_le (rq.2 _ hy).1
  rw [ex] at hx
  rw [ey] at hy
  have hxU := (mem_union rp.1 rq.1).2 (.inl hx)
  have hyU := (mem_union rp.1 rq.1).2 (.inr hy)
  rcases e with e | e
  · rw [e] at hxU; cases hxU
  · have hne : unionM p q ≠ [] := fun q => by rw [q] at hxU; cases hxU
    have hm := head_mem hne
    obtain ⟨h, eh⟩ := Int.eq_ofNat_of_zero_le (rU.2 _ hm).1
    rw [eh] at e
    rw [← e] at hxU hyU
    have h1 := (mem_part g rU).1 hxU
    have h2 := (mem_part g rU).1 hyU
    have h3 := h1.symm.trans h2
    have h4 : Eqv f r x y := ⟨h3.1.mono hsub, h3.2.mono hsub⟩
    have h5 := (mem_part g hr).1 (ep ▸ hx)
    exact hd y (ep ▸ (mem_part g hr).2 (h5.trans h4)) hy
structure PSpec (f : Flo) (r left : List Int) (ps : List (List Int)) : Prop where
  form : ∀ p, p ∈ ps → ∃ c : Nat, (c : Int) ∈ left ∧ p = partM f r c ∧ p ≠ [] ∧ p.headD 0 = c ∧ ∀ x, x ∈ p → x ∈ left
  asc : ps.Pairwise fun p q => p.headD 0 < q.headD 0
  dis : ps.Pairwise fun p q => ∀ x, x ∈ p → x ∉ q
  cov : ∀ x : Nat, (x : Int) ∈ left → x < f.k.length → okR f r x = true → ∃ p, p ∈ ps ∧ (x : Int) ∈ p
theorem parts_spec (g : Fine f) (hr : RegP r) : ∀ (k : Nat) (left : List Int), left.length ≤ k → Asc left → (∀ x, x ∈ left → x ∈ r) → (∀ a b : Nat, (a : Int) ∈ left → Eqv f r a b → (b : Int) ∈ left) → PSpec f r left (partsF f r k left)
  | 0, left, hl, _, _, _ => by
    obtain rfl : left = [] := List.length_eq_zero_iff.1 (by omega)
    exact ⟨(fun p h => nomatch h), .nil, .nil, (fun x h => nomatch h)⟩
  | k + 1, [], _, _, _, _ => ⟨(fun p h => nomatch h), .nil, .nil, (fun x h => nomatch h)⟩
  | k + 1, c :: l, hl, ha, hs, hc => by
    have hl : l.length + 1 ≤ k + 1 := hl
    obtain ⟨a1, a2⟩ := List.pairwise_cons.1 ha
    obtain ⟨c, rfl⟩ := Int.eq_ofNat_of_zero_le (hr.2 c (hs c List.mem_cons_self)).1
    have hcr := hs _ List.mem_cons_self
    have hself : c < f.k.length → okR f r c = true → ((c : Int) ∈ partM f r c) := fun h1 h2 => (mem_part g hr).2 ⟨rch_refl h1 h2, rch_refl h1 h2⟩
    unfold partsF
    by_cases hne : partM f r c = []
    · rw [if_pos hne]
      have hno : ∀ a : Nat, Eqv f r a c → False := fun a h => by
        have := hself h.1.en.1 h.1.en.2
        rw [hne] at this; cases this
      obtain ⟨s1, s2, s3, s4⟩ := parts_spec g hr k l (by omega) a2 (fun x hx => hs x (by simp [hx])) (fun a b h1 h2 => by
        rcases List.mem_cons.1 (hc a b (by simp [h1]) h2) with e | e
        · rw [show b = c by omega] at h2; exact (hno a h2).elim
        · exact e)
      refine ⟨fun p hp => ?_, s2, s3, fun x hx hx1 hx2 => ?_⟩
      · obtain ⟨c', q1, q2, q3, q4, q5⟩ := s1 p hp
        exact ⟨c', by simp [q1], q2, q3, q4, fun x hx => by simp [q5 x hx]⟩
      · rcases List.mem_cons.1 hx with e | e
        · rw [show x = c by omega] at hx1 hx2
          exact (hno c ⟨rch_refl hx1 hx2, rch_refl hx1 hx2⟩).elim
        · exact s4 x e hx1 hx2
    · rw [if_neg hne]
      have hp := part_reg (f := f) (c := (c : Int)) hr
      have hcp : (c : Int) ∈ partM f r c := part_self g hr hne
      have hpl : ∀ x, x ∈ partM f r c → x ∈ (c : Int) :: l := fun x hx => by
        obtain ⟨y, rfl⟩ := Int.eq_ofNat_of_zero_le (hp.2 x hx).1
        exact hc c y List.mem_cons_self ((mem_part g hr).1 hx)
      have hD := fun {x : Int} => mem_diff ha hp.1 (c := x)
      obtain ⟨s1, s2, s3, s4⟩ := parts_spec g hr k (diffM ((c : Int) :: l) (partM f r c)) (by have := diff_shrinks g (l := l) hr ha hne; omega) (diff_asc ha hp.1) (fun x hx => hs x (hD.1 hx).1) (fun a b h1 h2 => by
        obtain ⟨u1, u2⟩ := hD.1 h1
        refine hD.2 ⟨hc a b u1 h2, fun q => u2 ?_⟩
        exact (mem_part g hr).2 (((mem_part g hr).1 q).trans h2.symm))
      refine ⟨fun p hpm => ?_, ?_, ?_, fun x hx hx1 hx2 => ?_⟩
      · rcases List.mem_cons.1 hpm with rfl | h
        · refine ⟨c, List.mem_cons_self, rfl, hne, ?_, hpl⟩
          have hh := head_mem hne
          have h1 := hpl _ hh
          cases e : partM f r c with
          | nil => exact absurd e hne
          | cons x t =>
            rw [e] at hcp h1 hp
            have hx : x ∈ (c : Int) :: l := h1
            show x = c
            rcases List.mem_cons.1 hcp with q | q
            · exact q.symm
            · have := (List.pairwise_cons.1 hp.1).1 _ q
              rcases List.mem_cons.1 hx with q2 | q2
              · exact q2
              · have := a1 _ q2; omega
        · obtain ⟨c', q1, q2, q3, q4, q5⟩ := s1 p h
          exact ⟨c', (hD.1 q1).1, q2, q3, q4, fun x hx => (hD.1 (q5 x hx)).1⟩
      · refine List.pairwise_cons.2 ⟨fun q hq => ?_, s2⟩
        obtain ⟨c', q1, q2, q3, q4, q5⟩ := s1 q hq
        rw [q4]
        have hh := head_mem hne
        have hle : (partM f r c).headD 0 ≤ c := by
          cases e : partM f r c with
          | nil => exact absurd e hne
          | cons x t =>
            rw [e] at hcp hp
            show x ≤ c
            rcases List.mem_cons.1 hcp with q | q
            · omega
            · have := (List.pairwise_cons.1 hp.1).1 _ q; omega
        obtain ⟨u1, u2⟩ := hD.1 q1
        rcases List.mem_cons.1 u1 with e | e
        · rw [e] at u2; exact absurd hcp u2
        · have := a1 _ e; omega
      · refine List.pairwise_cons.2 ⟨fun q hq x hx hxq => ?_, s3⟩
        obtain ⟨c', q1, q2, q3, q4, q5⟩ := s1 q hq
        exact (hD.1 (q5 x hxq)).2 hx
      · by_cases hxp : (x : Int) ∈ partM f r c
        · exact ⟨_, List.mem_cons_self, hxp⟩
        · obtain ⟨p, h1, h2⟩ := s4 x (hD.2 ⟨hx, hxp⟩) hx1 hx2
          exact ⟨p, List.mem_cons_of_mem _ h1, h2⟩
theorem parts_all (g : Fine f) (hr : RegP r) : PSpec f r r (partsM f r) := parts_spec g hr r.length r (Nat.le_refl _) hr.1 (fun _ h => h) (fun _ _ _ h => (okR_t.1 h.1.en.2).2)
theorem diff_self {a : List Int} (ha : Asc a) : diffM a a = [] := diff_sub ha ha fun _ h => h
theorem link_parts (g : Fine f) (hr : RegP r) (hne : r ≠ []) : linkM f r = true ↔ partsM f r = [r] := by
  have hS := parts_all g hr
  have hm := head_mem hne
  obtain ⟨h, eh⟩ := Int.eq_ofNat_of_zero_le (hr.2 _ hm).1
  have hL : linkM f r = true ↔ partM f r h = r := by
    unfold linkM
    rw [decide_eq_true_eq, eh]
    exact ⟨fun q => q.resolve_left hne, .inr⟩
  rw [hL]
  constructor
  · intro e
    unfold partsM
    cases r with
    | nil => exact absurd rfl hne
    | cons c l =>
      have eh : c = (h : Int) := eh
      subst eh
      show partsF f _ (l.length + 1) _ = _
      unfold partsF
      rw [e, if_neg (by simp), diff_self hr.1]
      cases l.length <;> simp [partsF]
  · intro e
    obtain ⟨c, q1, q2, q3, q4, q5⟩ := hS.form r (by rw [e]; simp)
    have : (h : Int) ∈ partM f r c := by rw [← q2, ← eh]; exact hm
    rw [← part_eq g hr ((mem_part g hr).1 this), ← q2]
def allM (ps : List (List Int)) : Nat → List Int
  | 0 => []
  | i + 1 => unionM (allM ps i) (ps.getD i [])
theorem getD_mem' {ps : List (List Int)} {i : Nat} (h : i < ps.length) : ps.getD i [] ∈ ps := by
  rw [List.getD_eq_getElem?_getD, List.getElem?_eq_getElem h]; exact List.getElem_mem h
theorem all_spec {ps : List (List Int)} (h : ∀ p, p ∈ ps → Asc p) : ∀ i, i ≤ ps.length → Asc (allM ps i) ∧ ∀ x, x ∈ allM ps i ↔ ∃ j, j < i ∧ x ∈ ps.getD j []
  | 0, _ => ⟨.nil, fun x => ⟨(fun h => nomatch h), fun ⟨j, h, _⟩ => by omega⟩⟩
  | i + 1, hi => by
    obtain ⟨h1, h2⟩ := all_spec h i (by omega)
    have h3 := h _ (getD_mem' (by omega : i < ps.length))
    refine ⟨union_asc h1 h3, fun x => ?_⟩
    show x ∈ unionM _ _ ↔ _
    rw [mem_union h1 h3, h2]
    constructor
    · rintro (⟨j, hj, q⟩ | q)
      · exact ⟨j, by omega, q⟩
      · exact ⟨i, by omega, q⟩
    · rintro ⟨j, hj, q⟩
      by_cases e : j = i
      · subst e; exact .inr q
      · exact .inl ⟨j, by omega, q⟩
theorem inter_none {a b : List Int} (ha : Asc a) (hb : Asc b) (h : ∀ x, x ∈ a → x ∉ b) : interM a b = [] := by
  rw [List.eq_nil_iff_forall_not_mem]
  exact fun x hx => h x ((mem_inter ha hb).1 hx).1 ((mem_inter ha hb).1 hx).2
theorem pair_getD {R : List Int → List Int → Prop} {ps : List (List Int)} (h : ps.Pairwise R) {i j : Nat} (hij : i < j) (hj : j < ps.length) : R (ps.getD i []) (ps.getD j []) := by
  rw [List.getD_eq_getElem?_getD, List.getD_eq_getElem?_getD, List.getElem?_eq_getElem hj, List.getElem?_eq_getElem (by omega : i < ps.length)]
  exact List.pairwise_iff_getElem.1 h i j _ hj hij
def wantB (f : Flo) (x : Int) : Bool := decide (x < f.k.length) && decide (f.k.getD x.toNat 0 ≠ 0)
/-- What the law's walk needs of the parts. -/
structure PFacts (f : Flo) (r : List Int) (ps : List (List Int)) : Prop where
  len : ps.length ≤ r.length
  ne : ∀ i, i < ps.length → 0 < (ps.getD i []).length
  le : ∀ i, i < ps.length → (ps.getD i []).length ≤ r.length
  reg : ∀ i, i < ps.length → RegP (ps.getD i [])
  link : ∀ i, i < ps.length → linkM f (ps.getD i []) = true
  alle : ∀ i, i ≤ ps.length → (allM ps i).length ≤ r.length
  inter : ∀ i, i < ps.length → interM (allM ps i) (ps.getD i []) = []
  heads : ∀ i, i + 1 < ps.length → (ps.getD i []).headD 0 < (ps.getD (i + 1) []).headD 0
  apart : ∀ i k, k < i → i < ps.length → RegP (unionM (ps.getD i []) (ps.getD k [])) ∧ linkM f (unionM (ps.getD i []) (ps.getD k [])) = false
  want : allM ps ps.length = r.filter (wantB f)
  only : r ≠ [] → (linkM f r = true ↔ ps = [r])
theorem parts_facts (g : Fine f) (hr : RegP r) : PFacts f r (partsM f r) := by
  have hS := parts_all g hr
  have hon := link_parts g hr
  have hlen : (partsM f r).length ≤ r.length := parts_len f r _ _
  generalize partsM f r = ps at *
  have F := fun (i : Nat) (hi : i < ps.length) => hS.form _ (getD_mem' hi)
  have hasc : ∀ p, p ∈ ps → Asc p := fun p hp => by
    obtain ⟨c, _, e, _⟩ := hS.form p hp; rw [e]; exact (part_reg hr).1
  have hA := all_spec hasc
  have hsub : ∀ i, i ≤ ps.length → ∀ x, x ∈ allM ps i → x ∈ r := fun i hi x hx => by
    obtain ⟨j, hj, q⟩ := ((hA i hi).2 x).1 hx
    obtain ⟨c, _, _, _, _, h5⟩ := F j (by omega)
    exact h5 x q
  refine ⟨hlen, fun i hi => ?_, fun i hi => ?_, fun i hi => ?_, fun i hi => ?_, fun i hi => ?_, fun i hi => ?_, fun i hi => pair_getD hS.asc (by omega) hi, fun i k hk hi => ?_, ?_, hon⟩
  · obtain ⟨c, _, _, h, _⟩ := F i hi; exact List.length_pos_iff.2 h
  · obtain ⟨c, _, h, _⟩ := F i hi; rw [h]; exact List.length_filter_le _ _
  · obtain ⟨c, _, h, _⟩ := F i hi; rw [h]; exact part_reg hr
  · obtain ⟨c, _, h, _⟩ := F i hi; rw [h]; exact part_link g hr
  · exact (asc_nodup (hA i hi).1).length_le_of_subset (fun x hx => hsub i hi x hx)
  · refine inter_none (hA i (by omega)).1 (hasc _ (getD_mem' hi)) fun x hx => ?_
    obtain ⟨j, hj, q⟩ := ((hA i (by omega)).2 x).1 hx
    exact pair_getD hS.dis hj hi x q
  · obtain ⟨c, _, h1, h2, _, h5⟩ := F i hi
    obtain ⟨c', _, k1, k2, _, k5⟩ := F k (by omega)
    have r1 : RegP (ps.getD i []) := by rw [h1]; exact part_reg hr
    have r2 : RegP (ps.getD k []) := by rw [k1]; exact part_reg hr
    refine ⟨⟨union_asc r1.1 r2.1, fun x hx => ?_⟩, part_apart g hr h1 k1 h2 k2 fun x hx hx' => pair_getD hS.dis hk hi x hx' hx⟩
    rcases (mem_union r1.1 r2.1).1 hx with q | q
    · exact r1.2 x q
    · exact r2.2 x q
  · refine asc_ext (hA _ (Nat.le_refl _)).1 (List.Pairwise.sublist List.filter_sublist hr.1) fun x => ?_
    rw [List.mem_filter, (hA _ (Nat.le_refl _)).2]
    unfold wantB
    rw [Bool.and_eq_true, decide_eq_true_eq, decide_eq_true_eq]
    constructor
    · rintro ⟨j, hj, q⟩
      obtain ⟨c, _, h1, _, _, h5⟩ := F j hj
      have hxr := h5 x q
      refine ⟨hxr, ?_⟩
      obtain ⟨y, rfl⟩ := Int.eq_ofNat_of_zero_le (hr.2 x hxr).1
      rw [h1] at q
      have e := (mem_part g hr).1 q
      have := e.1.en
      rw [Int.toNat_natCast]
      exact ⟨by omega, (okR_t.1 this.2).1⟩
    · rintro ⟨hxr, h1, h2⟩
      obtain ⟨y, rfl⟩ := Int.eq_ofNat_of_zero_le (hr.2 x hxr).1
      rw [Int.toNat_natCast] at h2
      obtain ⟨p, hp, q⟩ := hS.cov y hxr (by omega) (okR_t.2 ⟨h2, hxr⟩)
      obtain ⟨j, hj, e⟩ := List.getElem_of_mem hp
      exact ⟨j, hj, by rw [List.getD_eq_getElem?_getD, List.getElem?_eq_getElem hj]; exact e ▸ q⟩
end
end Go.Proofs.Ytlpffgndackglaa
