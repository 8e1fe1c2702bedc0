/-
  A logic of values for the walk, twenty-third part: in a region that draws its order, an operation that only takes a part of a value may be thought to come before a store that does not wait for it.
-/
import Derived.Test.YtgibgknkfcbopaaAb22
namespace Go.Ab
open Go
set_option linter.unusedVariables false
set_option linter.unusedSimpArgs false

/-- One more edge: operation j waits for operation i. -/
def addE (i : Nat) : Nat → List Oper → List Oper
  | _, [] => []
  | 0, o :: r => { o with after := o.after.push ⟨i, .phase⟩ } :: r
  | j + 1, o :: r => o :: addE i j r
theorem addE_length (i : Nat) : ∀ (j : Nat) (l : List Oper), (addE i j l).length = l.length
  | _, [] => by cases ‹Nat› <;> rfl
  | 0, _ :: _ => rfl
  | j + 1, _ :: r => by simp [addE, addE_length i j r]
theorem addE_get (i : Nat) : ∀ (j k : Nat) (l : List Oper), (addE i j l)[k]? = if k = j then (l[k]?).map (fun o => { o with after := o.after.push ⟨i, .phase⟩ }) else l[k]?
  | j, k, [] => by cases j <;> simp [addE]
  | 0, k, o :: r => by cases k <;> simp [addE]
  | j + 1, k, o :: r => by
    cases k with
    | zero => simp [addE]
    | succ k => simp only [addE, List.getElem?_cons_succ, addE_get i j k r, Nat.add_right_cancel_iff]

section
variable {P : Program} {ops ops' : Array Oper} {i j : Nat} {oi oj : Oper} {Q : Exit → Act → World → Prop}

theorem yielded_edge (hd : ∀ k : Nat, (ops'[k]?).bind (·.dst) = (ops[k]?).bind (·.dst)) (tmps : Array Value) : yielded ops' tmps = yielded ops tmps := by
  funext g
  simp only [yielded, hd]
theorem wpOp_edge (ho : ∀ k, k ≠ j → ops'[k]? = ops[k]?) (hj : ops[j]? = some oj) (hj' : ops'[j]? = some { oj with after := oj.after.push ⟨i, .phase⟩ }) (k : Nat) (K : Act → World → Prop) (a : Act) (w : World) : wpOp P ops' Q k K a w = wpOp P ops Q k K a w := by
  have hd : ∀ k : Nat, (ops'[k]?).bind (·.dst) = (ops[k]?).bind (·.dst) := fun k => by
    by_cases h : k = j
    · subst h; rw [hj, hj']; rfl
    · rw [ho k h]
  unfold wpOp
  by_cases h : k = j
  · subst h
    rw [hj, hj']
    simp only [yielded_edge hd]
    cases oj
    rfl
  · rw [ho k h]
    simp only [yielded_edge hd]

/-- An operation that takes a part of a value that has several. -/
def isExtract (o : Oper) : Bool := match o.op, o.guard with
  | .extract .., none => true
  | _, _ => false
theorem extract_yields (hi : ops[i]? = some oi) (hx : isExtract oi = true) (hq : ¬ LetsOut Q) {K : Act → World → Prop} {a : Act} {w : World} (h : wpOp P ops Q i K a w) : ∃ v, Yields P ops oi v a ∧ K (a.put oi.dst v) w := by
  obtain ⟨dst, op, ty, pos, af, g⟩ := oi
  unfold isExtract at hx
  split at hx
  · rename_i x n h1 h2
    simp only at h1 h2
    subst h1 h2
    unfold wpOp at h
    rw [hi] at h
    have hw : Region.wanted (⟨dst, .extract x n, ty, pos, af, none⟩ : Oper) (yielded ops a.tmps) = true := wanted_none rfl
    simp only [hw, if_true] at h
    rcases h with h | h
    · unfold Oper.wp at h
      have key : (∃ v, ∀ w, (execOp a.eval ⟨dst, .extract x n, ty, pos, af, none⟩).run P w = .ok (.value v) w) ∨ ∀ K', ¬ Oper.upon P (⟨dst, .extract x n, ty, pos, af, none⟩ : Oper) a K' Q ((execOp a.eval ⟨dst, .extract x n, ty, pos, af, none⟩).run P w) := by
        simp only [execOp, Instr.extract]
        split
        · split
          · rename_i v _
            exact .inl ⟨v, fun w => by simp⟩
          · exact .inr fun K' hk => by simp [stuck, Oper.upon] at hk
        · exact .inr fun K' hk => by simp [stuck, Oper.upon] at hk
      rcases key with ⟨v, hv⟩ | hv
      · rw [hv w] at h
        exact ⟨v, .inl ⟨hw, hv⟩, h⟩
      · exact absurd h (hv K)
    · exact absurd h.2 hq
  · cases hx

def chkE (ops : Array Oper) (i j : Nat) : Bool :=
  match ops[i]?, ops[j]? with
  | some oi, some oj => isExtract oi && Region.noSelect ops && !Nat.beq i j &&
    (oi.after.all fun e => !Region.binds .any e || (oj.after.any fun e' => Region.binds .any e' && Nat.beq e'.on e.on)) &&
    ((List.range ops.size).all fun k => Nat.beq k i || (oi.after.any fun e => Region.binds .any e && Nat.beq e.on k) || match ops[k]? with
      | some ok => (ok.after.any fun e => Region.binds .any e && Nat.beq e.on i) || oi.apart ops ok
      | none => true)
  | _, _ => false

theorem wpAny_edge (hsz : ops'.size = ops.size) (ho : ∀ k, k ≠ j → ops'[k]? = ops[k]?) (hi : ops[i]? = some oi) (hj : ops[j]? = some oj) (hj' : ops'[j]? = some { oj with after := oj.after.push ⟨i, .phase⟩ }) (hc : chkE ops i j = true) (hq : ∀ e a w, Q e a w → e = .normal) :
    ∀ (fuel : Nat) (listed : Array Bool) (a : Act) (w : World), listed.size = ops.size → wpAny P .any ops' Q fuel listed a w → wpAny P .any ops Q fuel listed a w := by
  unfold chkE at hc
  rw [hi, hj] at hc
  simp only [Bool.and_eq_true, List.all_eq_true, List.mem_range] at hc
  obtain ⟨⟨⟨⟨hx, hns⟩, hij⟩, hcov⟩, hfree⟩ := hc
  have hij : i ≠ j := fun e => by rw [e] at hij; simp at hij
  have hlo : ¬ LetsOut Q := fun ⟨a, w, h⟩ => by have := hq _ _ _ h; cases this
  have hi' : ops'[i]? = some oi := by rw [ho i hij]; exact hi
  have hilt : i < ops.size := (Array.getElem?_eq_some_iff.1 hi).1
  have d2 : ∀ (listed : Array Bool) (k : Nat), listed.size = ops.size → k < ops.size → listed.getD k true = listed.getD k false := fun listed k hl hk => by
    simp [Array.getD, hl, hk]
  -- what is ready there is ready here; what is ready here is ready there, or waits for i, which is ready
  have r1 : ∀ (listed : Array Bool) (k : Nat), k ≠ j → (k ∈ Region.ready .any ops listed ↔ k ∈ Region.ready .any ops' listed) := fun listed k hk => by
    rw [mem_ready, mem_ready, ho k hk]
  have r2 : ∀ (listed : Array Bool), listed.size = ops.size → j ∈ Region.ready .any ops listed → j ∈ Region.ready .any ops' listed ∨ i ∈ Region.ready .any ops listed := fun listed hl hjr => by
    obtain ⟨h1, o, h2, h3⟩ := mem_ready.1 hjr
    rw [hj] at h2; cases h2
    cases hli : listed.getD i false with
    | true =>
      refine .inl (mem_ready.2 ⟨h1, _, hj', fun e he hb => ?_⟩)
      simp only [Array.mem_push] at he
      rcases he with he | rfl
      · exact h3 e he hb
      · exact hli
    | false =>
      refine .inr (mem_ready.2 ⟨by rw [d2 listed i hl hilt]; exact hli, oi, hi, fun e he hb => ?_⟩)
      rw [Array.all_eq_true_iff_forall_mem] at hcov
      have := hcov e he
      simp only [hb, Bool.not_true, Bool.false_or] at this
      obtain ⟨e', he', hb'⟩ := Array.any_eq_true'.1 this
      simp only [Bool.and_eq_true] at hb'
      rw [← Nat.eq_of_beq_eq_true hb'.2]
      exact h3 e' he' hb'.1
  have r3 : ∀ (listed : Array Bool), j ∈ Region.ready .any ops' listed → j ∈ Region.ready .any ops listed := fun listed hjr => by
    obtain ⟨h1, o, h2, h3⟩ := mem_ready.1 hjr
    rw [hj'] at h2; cases h2
    exact mem_ready.2 ⟨h1, _, hj, fun e he hb => h3 e (by simp [he]) hb⟩
  have emp : ∀ (listed : Array Bool), listed.size = ops.size → (Region.ready .any ops listed = [] ↔ Region.ready .any ops' listed = []) := fun listed hl => by
    rw [List.eq_nil_iff_forall_not_mem, List.eq_nil_iff_forall_not_mem]
    constructor
    · intro h k hk
      by_cases hkj : k = j
      · subst hkj; exact h k (r3 listed hk)
      · exact h k ((r1 listed k hkj).2 hk)
    · intro h k hk
      by_cases hkj : k = j
      · subst hkj
        rcases r2 listed hl hk with h1 | h1
        · exact h _ h1
        · exact h _ ((r1 listed i hij).1 h1)
      · exact h k ((r1 listed k hkj).1 hk)
  intro fuel
  induction fuel with
  | zero =>
    intro listed a w hl H
    exact ⟨(emp listed hl).2 H.1, H.2⟩
  | succ fuel ih =>
    intro listed a w hl H
    by_cases hri : i ∈ Region.ready .any ops listed
    · have h1 := H.2 i ((r1 listed i hij).1 hri)
      rw [wpOp_edge ho hj hj'] at h1
      obtain ⟨v, h2, h3⟩ := extract_yields hi hx hlo h1
      have h4 := ih _ _ _ (by simpa using hl) h3
      obtain ⟨g1, o, g2, g3⟩ := mem_ready.1 hri
      rw [hi] at g2; cases g2
      refine wpAny_first hi (Region.noSelect_spec hns) (fun c a w hp => by have := hq _ _ _ hp; cases this) fuel listed a w (fun k ok hk hki hun hno => ?_) hri h2 h4
      have h5 := hfree k (Array.getElem?_eq_some_iff.1 hk).1
      simp only [hk, Bool.or_eq_true] at h5
      rcases h5 with (h5 | h5) | h5 | h5
      · exact absurd (Nat.eq_of_beq_eq_true h5) hki
      · obtain ⟨e, he, hb⟩ := Array.any_eq_true'.1 h5
        simp only [Bool.and_eq_true] at hb
        have h6 := g3 e he hb.1
        rw [Nat.eq_of_beq_eq_true hb.2] at h6
        rw [d2 listed k hl (Array.getElem?_eq_some_iff.1 hk).1, h6] at hun
        cases hun
      · obtain ⟨e, he, hb⟩ := Array.any_eq_true'.1 h5
        simp only [Bool.and_eq_true] at hb
        exact absurd (Nat.eq_of_beq_eq_true hb.2) (hno e he hb.1)
      · exact h5
    · refine ⟨fun h => H.1 ((emp listed hl).1 h), fun k hk => ?_⟩
      have hk' : k ∈ Region.ready .any ops' listed := by
        by_cases hkj : k = j
        · subst hkj; exact (r2 listed hl hk).resolve_right hri
        · exact (r1 listed k hkj).1 hk
      have h1 := H.2 k hk'
      rw [wpOp_edge ho hj hj'] at h1
      exact wpOp_mono (fun a' w' h2 => ih _ a' w' (by simpa using hl) h2) h1
end

section
variable {P : Program} {n : Nat × Nat} {env : Env} {h : Hp}
/-- A region that draws its order, in which operation j may be thought to wait for operation i. -/
theorem aw_drawE {Q : Exit → Env → Hp → Prop} {id : Nat} {l l' : List Oper} (i j k : Nat) (hl : addE i j l = l') (hc : chkE l.toArray i j = true) (pres : List (List Nat)) (ds : List Nat) (bads : List (List Nat)) (hm : P.follows .mixedOrders = true) (hn : n.1 = k) (hok : chkDraw l' pres ds bads k = true)
    (hv : DW P n l' pres ds bads (dropE ds env) h 0 (dropE ds env) [] (fun v h => Q .normal v h)) (hndf : noDef l = true := by rfl) : AW P n (.region id l.toArray true) env h Q := by
  intro c ρ S a w QQ s hQ
  subst hl
  have hc' := hc
  unfold chkE at hc'
  cases hi : l.toArray[i]? with
  | none => rw [hi] at hc'; cases hc'
  | some oi =>
    cases hj : l.toArray[j]? with
    | none => rw [hi, hj] at hc'; cases hc'
    | some oj =>
      have h1 := any_draw2 pres ds bads (by rw [hn]; exact hok) hv c ρ S a w (fun e a w => e = .normal ∧ QQ .normal a w) s fun env' h' ρ' S' a' w' k s' => ⟨rfl, hQ .normal env' h' ρ' S' a' w' k s'⟩
      have hj2 : l[j]? = some oj := by simpa using hj
      have hsz : (addE i j l).toArray.size = l.toArray.size := by simp [addE_length]
      have h2 := wpAny_edge (P := P) (ops := l.toArray) (ops' := (addE i j l).toArray) (j := j) hsz (fun k hk => by simp [addE_get, hk]) hi hj (by simp [addE_get, hj2]) hc (fun e a w h => h.1) _ _ _ _ (by simp [addE_length]) h1
      rw [hsz] at h2
      exact region_any_in hm hndf h2
end
end Go.Ab
