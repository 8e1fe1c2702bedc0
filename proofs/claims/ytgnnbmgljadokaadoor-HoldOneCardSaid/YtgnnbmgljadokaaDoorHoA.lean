/-
  Layer 17: the encoding of a table, in plain terms.
-/
import Derived.Test.YtgnnbmgljadokaaDoorHo8
import Derived.Test.YtgnnbmgljadokaaDoorAb51
namespace Go.Proofs.YtgnnbmgljadokaaDoor
open Go Go.Ab Go.Ho
set_option linter.unusedVariables false
set_option linter.unusedSimpArgs false
/-- Each once. -/
def dd : List Int → List Int
  | [] => []
  | x :: l => if x ∈ dd l then dd l else x :: dd l
theorem mem_dd {y : Int} : ∀ {l : List Int}, y ∈ dd l ↔ y ∈ l
  | [] => by simp [dd]
  | x :: l => by
    have ih := mem_dd (y := y) (l := l)
    unfold dd
    split
    · rename_i h
      rw [ih, List.mem_cons]
      exact ⟨.inr, fun h2 => h2.elim (fun e => by rw [e]; exact mem_dd.1 h) id⟩
    · rw [List.mem_cons, List.mem_cons, ih]
theorem nd_dd : ∀ (l : List Int), (dd l).Nodup
  | [] => by simp [dd]
  | x :: l => by
    unfold dd
    split
    · exact nd_dd l
    · rename_i h; exact List.nodup_cons.2 ⟨h, nd_dd l⟩
theorem dd_len : ∀ (l : List Int), (dd l).length ≤ l.length
  | [] => by simp [dd]
  | x :: l => by
    have := dd_len l
    unfold dd
    split <;> simp <;> omega
theorem sorted_pw (l : List Int) : (sorted l).Pairwise fun a b => a ≤ b := by
  have := List.pairwise_mergeSort (le := fun a b : Int => decide (a ≤ b)) (fun a b c h1 h2 => by simp at *; omega) (fun a b => by simp; omega) l
  exact this.imp fun h => by simpa using h
theorem sorted_id {l : List Int} (h : l.Pairwise fun a b => a ≤ b) : sorted l = l := List.mergeSort_of_pairwise (h.imp fun h => by simpa using h)
theorem mem_sorted {l : List Int} {x : Int} : x ∈ sorted l ↔ x ∈ l := (List.mergeSort_perm _ _).mem_iff
theorem nd_sorted {l : List Int} (h : l.Nodup) : (sorted l).Nodup := (List.mergeSort_perm _ _).nodup_iff.2 h
/-- The owners, in order. -/
def owsL (m : Tb) : List Int := sorted (dd (m.map (·.2)))
theorem mem_owsL {m : Tb} {o : Int} : o ∈ owsL m ↔ ∃ n, (n, o) ∈ m := by
  unfold owsL
  rw [mem_sorted, mem_dd, List.mem_map]
  constructor
  · rintro ⟨p, hp, rfl⟩; exact ⟨p.1, hp⟩
  · rintro ⟨n, hn⟩; exact ⟨(n, o), hn, rfl⟩
theorem owsL_nd (m : Tb) : (owsL m).Nodup := nd_sorted (nd_dd _)
theorem owsL_len (m : Tb) : (owsL m).length ≤ m.length := by
  unfold owsL; rw [sorted_len]
  have := dd_len (m.map (·.2))
  simpa using this
def entB (m : Tb) (o : Int) : List UInt8 := intB o ++ numsB (ofL m o)
def accO (m : Tb) (k : Nat) : List UInt8 := intB (owsL m).length ++ (((owsL m).take k).map (entB m)).flatten
def bytesB (m : Tb) : List UInt8 := accO m (owsL m).length
theorem accO_next {m : Tb} {k : Nat} (h : k < (owsL m).length) : accO m (k + 1) = accO m k ++ entB m (owsL m)[k] := by
  unfold accO
  rw [List.take_succ_eq_append_getElem h, List.map_append, List.flatten_append]
  simp
theorem accO_ne (m : Tb) (k : Nat) : accO m k ≠ [] := by simp [accO, intB]
theorem flat_len {f : Int → List UInt8} {B : Nat} : ∀ {l : List Int}, (∀ x, x ∈ l → (f x).length ≤ B) → ((l.map f).flatten).length ≤ B * l.length
  | [], _ => by simp
  | x :: l, h => by
    have h1 := flat_len (f := f) (l := l) fun y hy => h y (List.mem_cons_of_mem _ hy)
    have h2 := h x List.mem_cons_self
    simp only [List.map_cons, List.flatten_cons, List.length_append, List.length_cons, Nat.mul_succ]
    omega
theorem ofL_I64 {m : Tb} (h : Ok m) {o x : Int} (hx : x ∈ ofL m o) : I64 x := by
  have := (h.rng _ (mem_ofL.1 hx)).1
  simp only at this
  unfold I64; omega
theorem owsL_rng {m : Tb} (h : Ok m) {o : Int} (ho : o ∈ owsL m) : 0 ≤ o ∧ o ≤ 9223372036854775807 := by
  obtain ⟨n, hn⟩ := mem_owsL.1 ho
  exact (h.rng _ hn).2
theorem entB_len {m : Tb} (h : Ok m) {o : Int} (ho : o ∈ owsL m) (hl : m.length ≤ 8192) : (entB m o).length ≤ 181000 := by
  have h1 := owsL_rng h ho
  have h2 := intB_len (n := o) ⟨by omega, h1.2⟩
  have h3 := accB_len (l := ofL m o) (fun x hx => ofL_I64 h hx) (by have := ofL_len (m := m) (o := o); omega) (ofL m o).length
  have h4 := ofL_len (m := m) (o := o)
  unfold entB numsB
  simp only [List.length_append, List.length_cons, List.length_nil]
  omega
theorem accO_len {m : Tb} (h : Ok m) (hl : m.length ≤ 8192) (k : Nat) : (accO m k).length ≤ 1500000000 := by
  unfold accO
  have h1 := flat_len (f := entB m) (B := 181000) (l := (owsL m).take k) fun x hx => entB_len h (List.mem_of_mem_take hx) hl
  have h2 := owsL_len m
  have h3 : ((owsL m).take k).length ≤ (owsL m).length := by rw [List.length_take]; omega
  have h4 := intB_len (n := ((owsL m).length : Int)) ⟨by omega, by omega⟩
  simp only [List.length_append]
  omega
/-- The slots of an owner, among the first ones in order. -/
def ksM (m : Tb) : List Int := sorted (kk m)
def gr (m : Tb) (o : Int) (d : Nat) : List Int := ((ksM m).take d).filter fun n => decide (own m n = o)
theorem ksM_len (m : Tb) : (ksM m).length = m.length := by unfold ksM; rw [sorted_len]; simp [kk]
theorem gr_len (m : Tb) (o : Int) (d : Nat) : (gr m o d).length ≤ d := by
  have := List.length_filter_le (fun n => decide (own m n = o)) ((ksM m).take d)
  rw [List.length_take] at this
  unfold gr; omega
theorem gr_all {m : Tb} (h : Ok m) {o : Int} (ho : 0 ≤ o) : gr m o (ksM m).length = ofL m o := by
  have h1 : (gr m o (ksM m).length).Pairwise fun a b => a ≤ b := by
    unfold gr
    rw [List.take_length]
    exact (sorted_pw _).filter _
  rw [← sorted_id h1]
  unfold ofL
  refine sorted_perm ((List.perm_ext_iff_of_nodup ?_ (nd_outL h List.nodup_range fun i hi => List.mem_range.1 hi)).2 fun n => ?_)
  · unfold gr
    rw [List.take_length]
    exact (nd_sorted h.nd).filter _
  · rw [mem_outL fun i hi => List.mem_range.2 hi]
    unfold gr
    rw [List.take_length, List.mem_filter, decide_eq_true_eq, h.mem]
    unfold ksM
    rw [mem_sorted, h.iff]
    constructor
    · rintro ⟨h1, h2⟩; exact ⟨h2, ho⟩
    · rintro ⟨h1, h2⟩; exact ⟨by omega, h1⟩
theorem gr_next {m : Tb} {d : Nat} (hd : d < (ksM m).length) (o : Int) : gr m o (d + 1) = if own m (ksM m)[d] = o then gr m o d ++ [(ksM m)[d]] else gr m o d := by
  unfold gr
  rw [List.take_succ_eq_append_getElem hd, List.filter_append]
  split
  · rename_i e; simp [e]
  · rename_i e; simp [e]
/-- What has been gathered: owners, where their slots lie, and these. -/
structure Grp (m : Tb) (d : Nat) (L : List (Int × Nat × List Int)) (X : Hp) : Prop where
  nd : (L.map (·.1)).Nodup
  ndq : (L.map (·.2.1)).Nodup
  obj : ∀ e, e ∈ L → X[e.2.1]? = some (.arr (ints e.2.2) 1)
  val : ∀ e, e ∈ L → e.2.2 = gr m e.1 d ∧ e.2.2 ≠ []
  cov : ∀ n, n ∈ (ksM m).take d → own m n ∈ L.map (·.1)
theorem Grp.nil (m : Tb) (X : Hp) : Grp m 0 [] X := ⟨by simp, by simp, fun e he => (by cases he), fun e he => (by cases he), fun n hn => (by simp at hn)⟩
theorem Grp.more {m : Tb} {d : Nat} {L : List (Int × Nat × List Int)} {X X' : Hp} (g : Grp m d L X) (hd : d < (ksM m).length) {j q' : Nat} {o : Int} {q : Nat} {s : List Int} (hj : L[j]? = some (o, q, s)) (ho : own m (ksM m)[d] = o)
    (hX : ∀ i, i < X.length → i ≠ q → X'[i]? = X[i]?) (hq' : X.length ≤ q') (hn : X'[q']? = some (.arr (ints (s ++ [(ksM m)[d]])) 1)) : Grp m (d + 1) (L.set j (o, q', s ++ [(ksM m)[d]])) X' := by
  have hjl := (List.getElem?_eq_some_iff.1 hj).1
  have hm : (o, q, s) ∈ L := List.mem_of_getElem? hj
  have hk : (L.set j (o, q', s ++ [(ksM m)[d]])).map (·.1) = L.map (·.1) := by
    rw [List.map_set]
    apply List.ext_getElem?
    intro i
    rw [List.getElem?_set]
    split
    · rename_i e; subst e; rw [List.getElem?_map, hj]; simp [hjl]
    · rfl
  have hlt : ∀ e, e ∈ L → e.2.1 < X.length := fun e he => (List.getElem?_eq_some_iff.1 (g.obj e he)).1
  have hqn : ∀ {i : Nat} {e : Int × Nat × List Int}, L[i]? = some e → e.2.1 = q → i = j := fun {i e} hi he => by
    have hil := (List.getElem?_eq_some_iff.1 hi).1
    exact (List.getElem?_inj (by simpa using hil) g.ndq).1 (by rw [List.getElem?_map, List.getElem?_map, hi, hj]; simp [he])
  have hon : ∀ {i : Nat} {e : Int × Nat × List Int}, L[i]? = some e → e.1 = o → i = j := fun {i e} hi he => by
    have hil := (List.getElem?_eq_some_iff.1 hi).1
    exact (List.getElem?_inj (by simpa using hil) g.nd).1 (by rw [List.getElem?_map, List.getElem?_map, hi, hj]; simp [he])
  have hget : ∀ {e : Int × Nat × List Int}, e ∈ L.set j (o, q', s ++ [(ksM m)[d]]) → e = (o, q', s ++ [(ksM m)[d]]) ∨ (e ∈ L ∧ e.2.1 ≠ q ∧ e.1 ≠ o) := fun {e} he => by
    obtain ⟨i, hi⟩ := List.mem_iff_getElem?.1 he
    rw [List.getElem?_set] at hi
    split at hi
    · exact .inl (Option.some.inj (by simpa [hjl] using hi)).symm
    · rename_i hne
      exact .inr ⟨List.mem_of_getElem? hi, fun h => hne (hqn hi h).symm, fun h => hne (hon hi h).symm⟩
  refine ⟨by rw [hk]; exact g.nd, ?_, fun e he => ?_, fun e he => ?_, fun n hn => ?_⟩
  · rw [List.map_set]
    show ((L.map (·.2.1)).set j q').Nodup
    rw [List.set_eq_take_append_cons_drop, if_pos (by simpa using hjl), List.nodup_append]
    have h1 : ∀ x, x ∈ L.map (·.2.1) → x ≠ q' := fun x hx e => by
      obtain ⟨e', he', rfl⟩ := List.mem_map.1 hx
      have := hlt e' he'; omega
    have h2 := g.ndq
    rw [← List.take_append_drop j (L.map (·.2.1)), List.drop_eq_getElem_cons (by simpa using hjl), List.nodup_append] at h2
    obtain ⟨h3, h4, h5⟩ := h2
    rw [List.nodup_cons] at h4
    refine ⟨h3, List.nodup_cons.2 ⟨fun h6 => h1 _ (List.mem_of_mem_drop h6) rfl, h4.2⟩, fun a ha b hb => ?_⟩
    rcases List.mem_cons.1 hb with rfl | hb
    · exact h1 a (List.mem_of_mem_take ha)
    · exact h5 a ha b (List.mem_cons_of_mem _ hb)
  · rcases hget he with rfl | ⟨h1, h2, _⟩
    · exact hn
    · rw [hX _ (hlt e h1) h2]; exact g.obj e h1
  · rcases hget he with rfl | ⟨h1, _, h3⟩
    · refine ⟨?_, by simp⟩
      show s ++ _ = _
      rw [gr_next hd, if_pos ho, ← (g.val _ hm).1]
    · rw [gr_next hd, if_neg (fun h => h3 (by rw [← h, ho]))]
      exact g.val e h1
  · rw [hk]
    rw [List.take_succ_eq_append_getElem hd] at hn
    rcases List.mem_append.1 hn with hn | hn
    · exact g.cov n hn
    · simp at hn; subst hn
      rw [ho]; exact List.mem_map.2 ⟨_, hm, rfl⟩
theorem Grp.new {m : Tb} {d : Nat} {L : List (Int × Nat × List Int)} {X X' : Hp} (g : Grp m d L X) (hd : d < (ksM m).length) {q' : Nat} {o : Int} (hno : o ∉ L.map (·.1)) (ho : own m (ksM m)[d] = o)
    (hX : ∀ i, i < X.length → X'[i]? = X[i]?) (hq' : X.length ≤ q') (hn : X'[q']? = some (.arr (ints [(ksM m)[d]]) 1)) : Grp m (d + 1) (L ++ [(o, q', [(ksM m)[d]])]) X' := by
  have hlt : ∀ e, e ∈ L → e.2.1 < X.length := fun e he => (List.getElem?_eq_some_iff.1 (g.obj e he)).1
  have h0 : gr m o d = [] := by
    unfold gr
    rw [List.filter_eq_nil_iff]
    intro n hn e
    rw [decide_eq_true_eq] at e
    exact hno (by rw [← e]; exact g.cov n hn)
  refine ⟨?_, ?_, fun e he => ?_, fun e he => ?_, fun n hn => ?_⟩
  · rw [List.map_append, List.nodup_append]
    exact ⟨g.nd, by simp, fun a ha b hb e => hno (by simp at hb; rw [← hb, ← e]; exact ha)⟩
  · rw [List.map_append, List.nodup_append]
    exact ⟨g.ndq, by simp, fun a ha b hb e => by
      simp at hb
      obtain ⟨e', he', rfl⟩ := List.mem_map.1 ha
      have := hlt e' he'; omega⟩
  · rcases List.mem_append.1 he with he | he
    · rw [hX _ (hlt e he)]; exact g.obj e he
    · simp at he; subst he; exact hn
  · rcases List.mem_append.1 he with he | he
    · rw [gr_next hd, if_neg (fun h => hno (by rw [← ho, h]; exact List.mem_map.2 ⟨e, he, rfl⟩))]
      exact g.val e he
    · simp at he; subst he
      refine ⟨?_, by simp⟩
      show [_] = gr m o (d + 1)
      rw [gr_next hd, if_pos ho, h0]; rfl
  · rw [List.map_append]
    rw [List.take_succ_eq_append_getElem hd] at hn
    rcases List.mem_append.1 hn with hn | hn
    · exact List.mem_append_left _ (g.cov n hn)
    · simp at hn; subst hn
      rw [ho]; simp
theorem Grp.ows {m : Tb} (h : Ok m) {L : List (Int × Nat × List Int)} {X : Hp} (g : Grp m (ksM m).length L X) : sorted (L.map (·.1)) = owsL m := by
  unfold owsL
  refine sorted_perm ((List.perm_ext_iff_of_nodup g.nd (nd_dd _)).2 fun o => ?_)
  rw [mem_dd]
  constructor
  · intro ho
    obtain ⟨e, he, rfl⟩ := List.mem_map.1 ho
    obtain ⟨h1, h2⟩ := g.val e he
    obtain ⟨n, hn⟩ := List.exists_mem_of_ne_nil _ h2
    rw [h1] at hn
    unfold gr at hn
    rw [List.take_length, List.mem_filter, decide_eq_true_eq] at hn
    have h3 : n ∈ kk m := mem_sorted.1 hn.1
    exact List.mem_map.2 ⟨(n, e.1), h.mem.2 ⟨hn.2, by rw [← hn.2]; exact h.iff.1 h3⟩, rfl⟩
  · intro ho
    obtain ⟨p, hp, rfl⟩ := List.mem_map.1 ho
    have h1 := own_of h.nd (n := p.1) (o := p.2) hp
    have h2 := g.cov p.1 (by rw [List.take_length]; exact mem_sorted.2 (List.mem_map.2 ⟨p, hp, rfl⟩))
    rwa [h1] at h2
/-- Tables with the same owners have the same encoding. -/
theorem ofL_own {m m' : Tb} (h : Ok m) (h' : Ok m') (e : ∀ n, own m n = own m' n) (o : Int) : ofL m o = ofL m' o := by
  unfold ofL
  refine sorted_perm ((List.perm_ext_iff_of_nodup (nd_outL h List.nodup_range fun i hi => List.mem_range.1 hi) (nd_outL h' List.nodup_range fun i hi => List.mem_range.1 hi)).2 fun n => ?_)
  rw [mem_outL fun i hi => List.mem_range.2 hi, mem_outL fun i hi => List.mem_range.2 hi, h.mem, h'.mem, e]
theorem owsL_own {m m' : Tb} (h : Ok m) (h' : Ok m') (e : ∀ n, own m n = own m' n) : owsL m = owsL m' := by
  unfold owsL
  refine sorted_perm ((List.perm_ext_iff_of_nodup (nd_dd _) (nd_dd _)).2 fun o => ?_)
  rw [mem_dd, mem_dd]
  have := (perm_of_own h h' e).map (·.2)
  exact this.mem_iff
theorem bytesB_own {m m' : Tb} (h : Ok m) (h' : Ok m') (e : ∀ n, own m n = own m' n) : bytesB m = bytesB m' := by
  unfold bytesB accO
  rw [owsL_own h h' e]
  congr 3
  funext o
  unfold entB
  rw [ofL_own h h' e]
end Go.Proofs.YtgnnbmgljadokaaDoor
