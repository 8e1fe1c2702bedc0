/-
  A logic of values for the walk, fourteenth part: the steps through a region that draws its order, with the frame as it grows.
-/
import Derived.Test.YtgibgknkfcbopaaAb13
namespace Go.Ab
open Go
set_option linter.unusedVariables false
set_option linter.unusedSimpArgs false

theorem FStep.more {P : Program} {o : Oper} {env env' : Env} {h : Hp} {m : Nat} {x : Nat → AV} {new : Nat → List AB} (hs : FStep P o env h m x new) (he : ∀ t u, look env t = some u → look env' t = some u) : FStep P o env' h m x new :=
  fun ρ S a w p => hs ρ S a w ⟨fun t u hu => p.env t u (he t u hu), p.rng, p.blk, p.live, p.stab⟩

/-- The frame as it grows. -/
def growE (env : Env) : List Eff → Env
  | [] => env
  | f :: r => growE (putd f.d f.x env) r
theorem growE_snoc (f : Eff) : ∀ (l : List Eff) (env : Env), growE env (l ++ [f]) = putd f.d f.x (growE env l)
  | [], _ => rfl
  | g :: r, env => by simp only [List.cons_append, growE, growE_snoc f r]
/-- The objects as they come up, by their operations' numbers. -/
def objsOf : Nat → List Eff → List (Nat × Hp)
  | _, [] => []
  | i, f :: r => match f.new with
    | [] => objsOf (i + 1) r
    | b :: q => (i, b :: q) :: objsOf (i + 1) r
def hvis (pre : List Nat) : List (Nat × Hp) → Hp
  | [] => []
  | (i, l) :: r => (match pre.any (Nat.beq i) with | true => l | false => List.replicate l.length .gone) ++ hvis pre r
theorem hvis_seg (pre : List Nat) : ∀ (i : Nat) (l : List Eff), seg (fun j => pre.any (Nat.beq j)) i l = hvis pre (objsOf i l)
  | _, [] => rfl
  | i, f :: r => by
    simp only [seg, objsOf]
    cases hf : f.new with
    | nil => simp only [List.length_nil, List.replicate_zero]; cases pre.any (Nat.beq i) <;> simpa using hvis_seg pre (i + 1) r
    | cons b q => simp only [hvis]; rw [hvis_seg pre (i + 1) r]; rfl
theorem objsOf_snoc_nil {f : Eff} (hf : f.new = []) : ∀ (l : List Eff) (i : Nat), objsOf i (l ++ [f]) = objsOf i l
  | [], i => by simp [objsOf, hf]
  | g :: r, i => by
    simp only [List.cons_append, objsOf]
    rw [objsOf_snoc_nil hf r (i + 1)]
theorem objsOf_snoc {f : Eff} (hf : f.new ≠ []) : ∀ (l : List Eff) (i : Nat), objsOf i (l ++ [f]) = objsOf i l ++ [(i + l.length, f.new)]
  | [], i => by
    simp only [List.nil_append, objsOf, List.length_nil, Nat.add_zero]
    cases h : f.new with
    | nil => exact absurd h hf
    | cons b q => rfl
  | g :: r, i => by
    simp only [List.cons_append, objsOf]
    rw [objsOf_snoc hf r (i + 1)]
    have : i + (g :: r).length = i + 1 + r.length := by simp; omega
    rw [this]
    cases g.new <;> rfl
theorem objsOf_hp : ∀ (l : List Eff) (i : Nat), hpOf l = ((objsOf i l).map (·.2)).flatten
  | [], _ => rfl
  | f :: r, i => by
    simp only [hpOf, objsOf]
    rw [objsOf_hp r (i + 1)]
    cases hf : f.new <;> simp
def allObjs : List (Nat × Hp) → Hp
  | [] => []
  | (_, l) :: r => l ++ allObjs r
theorem allObjs_eq : ∀ l : List (Nat × Hp), allObjs l = (l.map (·.2)).flatten
  | [] => rfl
  | (_, l) :: r => by simp only [allObjs, List.map_cons, List.flatten_cons, allObjs_eq r]

/-- What is asked of the lists beside 'okDraw': the slots; and that an operation does not see those of 'bads'. -/
def chkDraw (ops : List Oper) (pres : List (List Nat)) (ds : List Nat) (bads : List (List Nat)) (n : Nat) : Bool :=
  okDraw ops.toArray pres && decide ds.Nodup && ds.all (fun d => Nat.blt d n) && Nat.ble pres.length ops.length &&
  decide ((ops.take pres.length).filterMap (·.dst) = ds) &&
  (List.range pres.length).all fun i => (List.range i).all fun j => (pres.getD i []).any (Nat.beq j) || (match ops[j]? with
    | some o => (match o.dst with | some d => (bads.getD i []).any (Nat.beq d) | none => true)
    | none => true)

section
variable {P : Program} {n : Nat × Nat} {ops : List Oper} {pres : List (List Nat)} {ds : List Nat} {bads : List (List Nat)} {env : Env} {h : Hp} {K : Env → Hp → Prop} {pre bad : List Nat}

structure Good (ops : List Oper) (env : Env) (i : Nat) (cur : Env) (objs : List (Nat × Hp)) (effs : List Eff) : Prop where
  len : effs.length = i
  cur : cur = growE env effs
  objs : objs = objsOf 0 effs
  dst : ∀ (j : Nat) f, effs[j]? = some f → ∃ o, ops[j]? = some o ∧ o.dst = f.d

/-- What is left of such a region: operation i is next; the frame; the objects. -/
def DW (P : Program) (n : Nat × Nat) (ops : List Oper) (pres : List (List Nat)) (ds : List Nat) (bads : List (List Nat)) (env : Env) (h : Hp) (i : Nat) (cur : Env) (objs : List (Nat × Hp)) (K : Env → Hp → Prop) : Prop :=
  chkDraw ops pres ds bads n.1 = true → (∀ t, t ∈ ds → look env t = none) → ∀ effs, Good ops env i cur objs effs → DV P n ops.toArray pres ds env h effs K

theorem any_draw2 {KK : Env → Hp → Prop} {l : List Oper} (pres : List (List Nat)) (ds : List Nat) (bads : List (List Nat)) (hok : chkDraw l pres ds bads n.1 = true)
    (hv : DW P n l pres ds bads (dropE ds env) h 0 (dropE ds env) [] KK) : ∀ c ρ S a w QQ, Sim n c ρ S env h a w → (∀ env' h' ρ' S' a' w', KK env' h' → Sim n c ρ' S' env' h' a' w' → QQ Exit.normal a' w') →
    wpAny P .any l.toArray QQ l.toArray.size (Array.replicate l.toArray.size false) a { w with drawn := w.drawn + 1 } := by
  have hok' := hok
  simp only [chkDraw, Bool.and_eq_true, decide_eq_true_eq] at hok'
  obtain ⟨⟨⟨⟨⟨h1, h2⟩, h3⟩, h4⟩, h5⟩, h6⟩ := hok'
  refine any_draw pres ds h1 h2 h3 h4 (hv hok (fun t ht => ?_) [] ⟨rfl, rfl, rfl, fun j f hf => by simp at hf⟩)
  cases hl : look (dropE ds env) t with
  | none => rfl
  | some x => exact absurd ht (look_dropE hl).2
theorem aw_draw2 {Q : Exit → Env → Hp → Prop} {id : Nat} {l : List Oper} (pres : List (List Nat)) (ds : List Nat) (bads : List (List Nat)) (hm : P.follows .mixedOrders = true) (hok : chkDraw l pres ds bads n.1 = true)
    (hv : DW P n l pres ds bads (dropE ds env) h 0 (dropE ds env) [] (fun v h => Q .normal v h)) (hndf : noDef l = true := by rfl) : AW P n (.region id l.toArray true) env h Q :=
  fun c ρ S a w QQ s hQ => region_any_in hm hndf (any_draw2 pres ds bads hok hv c ρ S a w (fun e a w => e = .normal ∧ QQ .normal a w) s fun env' h' ρ' S' a' w' k s' => ⟨rfl, hQ .normal env' h' ρ' S' a' w' k s'⟩)

theorem growE_look : ∀ {effs : List Eff} {env : Env} {t : Nat} {x : AV}, look (growE env effs) t = some x → (look env t = some x ∧ ∀ (j : Nat) f, effs[j]? = some f → f.d ≠ some t) ∨ ∃ (j : Nat) (f : Eff), effs[j]? = some f ∧ f.d = some t ∧ f.x = x
  | [], env, t, x, h => .inl ⟨h, fun j f hf => by simp at hf⟩
  | f :: r, env, t, x, h => by
    rcases growE_look (effs := r) h with ⟨h1, h2⟩ | ⟨j, g, h1, h2, h3⟩
    · cases hd : f.d with
      | none =>
        rw [hd] at h1
        refine .inl ⟨h1, fun j g hg => ?_⟩
        cases j with
        | zero => simp at hg; subst hg; rw [hd]; simp
        | succ j => exact h2 j g (by simpa using hg)
      | some d =>
        rw [hd] at h1
        simp only [putd, look_cons] at h1
        split at h1
        · rename_i e; subst e; cases h1
          exact .inr ⟨0, f, rfl, hd, rfl⟩
        · rename_i e
          refine .inl ⟨h1, fun j g hg => ?_⟩
          cases j with
          | zero => simp at hg; subst hg; rw [hd]; simpa using e
          | succ j => exact h2 j g (by simpa using hg)
    · exact .inr ⟨j + 1, g, by simpa using h1, h2, h3⟩

theorem stE_miss {env : Env} {effs : List Eff} {t : Nat} : ∀ {pre : List Nat}, (∀ (j : Nat) f, effs[j]? = some f → f.d ≠ some t) → look (stE env effs pre) t = look env t
  | [], _ => rfl
  | k :: r, hn => by
    simp only [stE]
    cases hk : effs[k]? with
    | none => exact stE_miss hn
    | some f =>
      have := hn k f hk
      simp only
      cases hd : f.d with
      | none => exact stE_miss hn
      | some d =>
        rw [hd] at this
        simp only [putd, look_cons]
        rw [if_neg (fun e => this (by rw [e])), stE_miss hn]
theorem stE_hit {env : Env} {effs : List Eff} {t j : Nat} {f : Eff} (hf : effs[j]? = some f) (hd : f.d = some t) (hu : ∀ (k : Nat) g, effs[k]? = some g → g.d = some t → k = j) : ∀ {pre : List Nat}, j ∈ pre → look (stE env effs pre) t = some f.x
  | k :: r, hj => by
    simp only [stE]
    by_cases hkj : k = j
    · subst hkj
      rw [hf]
      simp only [hd, putd, look_cons, if_pos]
    · have hr : j ∈ r := by
        rcases List.mem_cons.1 hj with e | e
        · exact absurd e.symm hkj
        · exact e
      cases hk : effs[k]? with
      | none => exact stE_hit hf hd hu hr
      | some g =>
        simp only
        cases hgd : g.d with
        | none => exact stE_hit hf hd hu hr
        | some d =>
          simp only [putd, look_cons]
          rw [if_neg (fun e => hkj (hu k g hk (by rw [hgd, e])))]
          exact stE_hit hf hd hu hr

theorem filterMap_nodup {α β : Type} {f : α → Option β} : ∀ {l : List α}, (l.filterMap f).Nodup → ∀ {i j : Nat} {a b : α} {x : β}, l[i]? = some a → l[j]? = some b → f a = some x → f b = some x → i = j
  | [], _, i, j, a, b, x, hi, _, _, _ => by simp at hi
  | c :: r, hnd, i, j, a, b, x, hi, hj, ha, hb => by
    have mem : ∀ {k : Nat} {u : α}, r[k]? = some u → f u = some x → x ∈ r.filterMap f := fun hk hu => List.mem_filterMap.2 ⟨_, List.mem_of_getElem? hk, hu⟩
    have hr : (r.filterMap f).Nodup := by
      cases hc : f c with
      | none => rwa [List.filterMap_cons_none hc] at hnd
      | some y => rw [List.filterMap_cons_some hc] at hnd; exact (List.nodup_cons.1 hnd).2
    cases i with
    | zero =>
      cases j with
      | zero => rfl
      | succ j =>
        simp at hi hj; subst hi
        rw [List.filterMap_cons_some ha] at hnd
        exact absurd (mem hj hb) (List.nodup_cons.1 hnd).1
    | succ i =>
      cases j with
      | zero =>
        simp at hi hj; subst hj
        rw [List.filterMap_cons_some hb] at hnd
        exact absurd (mem hi ha) (List.nodup_cons.1 hnd).1
      | succ j => exact congrArg (· + 1) (filterMap_nodup hr (a := a) (b := b) (i := i) (j := j) (by simpa using hi) (by simpa using hj) ha hb)

/-- What the next operation may read. -/
theorem Good.see {i : Nat} {cur : Env} {objs : List (Nat × Hp)} {effs : List Eff} (hok : chkDraw ops pres ds bads n.1 = true) (g : Good ops env i cur objs effs) (hp : pres[i]? = some pre) (hb : bads[i]? = some bad) : ∀ t x, look (dropE bad cur) t = some x → look (stE env effs pre) t = some x := by
  intro t x hx
  simp only [chkDraw, Bool.and_eq_true, decide_eq_true_eq] at hok
  obtain ⟨⟨⟨⟨⟨h1, h2⟩, h3⟩, h4⟩, h5⟩, h6⟩ := hok
  obtain ⟨h7, h8⟩ := look_dropE hx
  rw [g.cur] at h7
  have hi : i < pres.length := (List.getElem?_eq_some_iff.1 hp).1
  rcases growE_look h7 with ⟨h9, h10⟩ | ⟨j, f, h9, h10, h11⟩
  · rw [stE_miss h10]; exact h9
  · have hji : j < i := by rw [← g.len]; exact (List.getElem?_eq_some_iff.1 h9).1
    obtain ⟨o, ho, hod⟩ := g.dst j f h9
    have huniq : ∀ (k : Nat) q, effs[k]? = some q → q.d = some t → k = j := fun k q hk hq => by
      obtain ⟨o', ho', hod'⟩ := g.dst k q hk
      have hki : k < i := by rw [← g.len]; exact (List.getElem?_eq_some_iff.1 hk).1
      rw [← h5] at h2
      refine filterMap_nodup h2 (i := k) (j := j) (a := o') (b := o) (x := t) ?_ ?_ (by rw [hod', hq]) (by rw [hod, h10])
      · rw [List.getElem?_take, if_pos (by omega)]; exact ho'
      · rw [List.getElem?_take, if_pos (by omega)]; exact ho
    rw [← h11]
    refine stE_hit h9 h10 huniq ?_
    have h12 := List.all_eq_true.1 (List.all_eq_true.1 h6 i (by simpa using hi)) j (by simpa using hji)
    rcases Bool.or_eq_true_iff.1 h12 with h12 | h12
    · rw [List.getD_eq_getElem?_getD, hp] at h12; exact any_beq.1 h12
    · rw [ho] at h12
      simp only [hod, h10] at h12
      rw [List.getD_eq_getElem?_getD, hb] at h12
      exact absurd (any_beq.1 h12) h8

section
variable {op : Op} {ty : TypeId} {pos : String} {af : Array Edge} {d : Option Nat} {i : Nat} {cur : Env} {objs : List (Nat × Hp)}

theorem Good.snoc {effs : List Eff} {f : Eff} {o : Oper} (g : Good ops env i cur objs effs) (ho : ops[i]? = some o) (hd : o.dst = f.d) (hf : f.new = []) : Good ops env (i + 1) (putd f.d f.x cur) objs (effs ++ [f]) := by
  refine ⟨by simp [g.len], by rw [growE_snoc, g.cur], by rw [objsOf_snoc_nil hf]; exact g.objs, fun j q hj => ?_⟩
  by_cases hlt : j < effs.length
  · rw [List.getElem?_append_left hlt] at hj; exact g.dst j q hj
  · have hle := (List.getElem?_eq_some_iff.1 hj).1
    have hji : j = i := by have := g.len; simp at hle; omega
    subst hji
    rw [List.getElem?_append_right (by omega), g.len] at hj
    simp at hj; subst hj
    exact ⟨o, ho, hd⟩
theorem Good.snoc' {effs : List Eff} {f : Eff} {o : Oper} (g : Good ops env i cur objs effs) (ho : ops[i]? = some o) (hd : o.dst = f.d) (hf : f.new ≠ []) : Good ops env (i + 1) (putd f.d f.x cur) (objs ++ [(i, f.new)]) (effs ++ [f]) := by
  refine ⟨by simp [g.len], by rw [growE_snoc, g.cur], by rw [objsOf_snoc hf, g.len, Nat.zero_add, g.objs], fun j q hj => ?_⟩
  by_cases hlt : j < effs.length
  · rw [List.getElem?_append_left hlt] at hj; exact g.dst j q hj
  · have hle := (List.getElem?_eq_some_iff.1 hj).1
    have hji : j = i := by have := g.len; simp at hle; omega
    subst hji
    rw [List.getElem?_append_right (by omega), g.len] at hj
    simp at hj; subst hj
    exact ⟨o, ho, hd⟩

theorem dw_v {dd : Nat} {u : AV} (ho : ops[i]? = some ⟨some dd, op, ty, pos, af, none⟩) (hp : pres[i]? = some pre) (hb : bads[i]? = some bad) (hs : FStep P ⟨some dd, op, ty, pos, af, none⟩ (dropE bad cur) (h ++ hvis pre objs) 0 (fun _ => u) (fun _ => []))
    (hk : DW P n ops pres ds bads env h (i + 1) ((dd, u) :: cur) objs K) : DW P n ops pres ds bads env h i cur objs K := by
  intro hok hen effs g
  refine dv_v (u := u) (d := some dd) (by rw [g.len]; exact hp) (by rw [g.len]; simpa using ho) (by rw [hvis_seg, ← g.objs]; exact hs.more (g.see hok hp hb)) (hk hok hen _ (g.snoc (f := ⟨some dd, u, []⟩) ho rfl rfl))
theorem dw_gt {dd : Nat} {u : AV} {gd t : Nat} {want : Bool} (ho : ops[i]? = some ⟨some dd, op, ty, pos, af, some (gd, want)⟩) (hp : pres[i]? = some pre) (hb : bads[i]? = some bad) (hj : (ops[gd]?).bind (·.dst) = some t) (hl : look (dropE bad cur) t = some (.b want)) (hs : FStep P ⟨some dd, op, ty, pos, af, none⟩ (dropE bad cur) (h ++ hvis pre objs) 0 (fun _ => u) (fun _ => []))
    (hk : DW P n ops pres ds bads env h (i + 1) ((dd, u) :: cur) objs K) : DW P n ops pres ds bads env h i cur objs K := by
  intro hok hen effs g
  refine dv_gt (u := u) (d := some dd) (by rw [g.len]; exact hp) (by rw [g.len]; simpa using ho) (by simpa using hj) (g.see hok hp hb _ _ hl) (by rw [hvis_seg, ← g.objs]; exact hs.more (g.see hok hp hb)) (hk hok hen _ (g.snoc (f := ⟨some dd, u, []⟩) ho rfl rfl))
theorem dw_gf {dd : Nat} {gd t : Nat} {want : Bool} (ho : ops[i]? = some ⟨some dd, op, ty, pos, af, some (gd, want)⟩) (hp : pres[i]? = some pre) (hb : bads[i]? = some bad) (hj : (ops[gd]?).bind (·.dst) = some t) (hl : look (dropE bad cur) t = some (.b (!want)))
    (hk : DW P n ops pres ds bads env h (i + 1) ((dd, .v undef) :: cur) objs K) : DW P n ops pres ds bads env h i cur objs K := by
  intro hok hen effs g
  refine dv_gf (d := some dd) (by rw [g.len]; exact hp) (by rw [g.len]; simpa using ho) (by simpa using hj) (g.see hok hp hb _ _ hl) (hk hok hen _ (g.snoc (f := ⟨some dd, .v undef, []⟩) ho rfl rfl))
theorem dw_gu {dd : Nat} {gd t : Nat} {want : Bool} (ho : ops[i]? = some ⟨some dd, op, ty, pos, af, some (gd, want)⟩) (hp : pres[i]? = some pre) (hb : bads[i]? = some bad) (hj : (ops[gd]?).bind (·.dst) = some t) (hl : look (dropE bad cur) t = some (.v undef))
    (hk : DW P n ops pres ds bads env h (i + 1) ((dd, .v undef) :: cur) objs K) : DW P n ops pres ds bads env h i cur objs K := by
  intro hok hen effs g
  refine dv_gu (d := some dd) (by rw [g.len]; exact hp) (by rw [g.len]; simpa using ho) (by simpa using hj) (g.see hok hp hb _ _ hl) (hk hok hen _ (g.snoc (f := ⟨some dd, .v undef, []⟩) ho rfl rfl))
theorem dw_split {gd t : Nat} {want b : Bool} (ho : ops[i]? = some ⟨d, op, ty, pos, af, some (gd, want)⟩) (hb : bads[i]? = some bad) (hj : (ops[gd]?).bind (·.dst) = some t) (hl : look (dropE bad cur) t = some (.b b))
    (ht : b = true → DW P n ops pres ds bads env h i cur objs K) (hf : b = false → DW P n ops pres ds bads env h i cur objs K) : DW P n ops pres ds bads env h i cur objs K := by
  cases b
  · exact hf rfl
  · exact ht rfl
theorem dw_n {dd : Nat} {u : Nat → AV} {b : Nat → List AB} {m : Nat} (ho : ops[i]? = some ⟨some dd, op, ty, pos, af, none⟩) (hp : pres[i]? = some pre) (hb : bads[i]? = some bad) (hs : FStep P ⟨some dd, op, ty, pos, af, none⟩ (dropE bad cur) (h ++ hvis pre objs) (m + 1) u b) (hm : (b (h ++ hvis pre objs).length).length = m + 1)
    (hk : DW P n ops pres ds bads env h (i + 1) ((dd, u (h ++ hvis pre objs).length) :: cur) (objs ++ [(i, b (h ++ hvis pre objs).length)]) K) : DW P n ops pres ds bads env h i cur objs K := by
  intro hok hen effs g
  have e : h ++ seg (fun j => pre.any (Nat.beq j)) 0 effs = h ++ hvis pre objs := by rw [hvis_seg, ← g.objs]
  refine dv_n (u := u) (b := b) (d := some dd) (m := m + 1) (by rw [g.len]; exact hp) (by rw [g.len]; simpa using ho) (by rw [e]; exact hs.more (g.see hok hp hb)) (by rw [e]; exact hm) ?_
  rw [e]
  refine hk hok hen _ (g.snoc' (f := ⟨some dd, u (h ++ hvis pre objs).length, b (h ++ hvis pre objs).length⟩) ho rfl ?_)
  intro e2
  rw [show b (h ++ hvis pre objs).length = [] from e2] at hm
  cases hm
theorem dw_gn {dd gd t : Nat} {want : Bool} {u : Nat → AV} {b : Nat → List AB} {m : Nat} (ho : ops[i]? = some ⟨some dd, op, ty, pos, af, some (gd, want)⟩) (hp : pres[i]? = some pre) (hb : bads[i]? = some bad) (hj : (ops[gd]?).bind (·.dst) = some t) (hl : look (dropE bad cur) t = some (.b want)) (hs : FStep P ⟨some dd, op, ty, pos, af, none⟩ (dropE bad cur) (h ++ hvis pre objs) (m + 1) u b) (hm : (b (h ++ hvis pre objs).length).length = m + 1)
    (hk : DW P n ops pres ds bads env h (i + 1) ((dd, u (h ++ hvis pre objs).length) :: cur) (objs ++ [(i, b (h ++ hvis pre objs).length)]) K) : DW P n ops pres ds bads env h i cur objs K := by
  intro hok hen effs g
  have e : h ++ seg (fun j => pre.any (Nat.beq j)) 0 effs = h ++ hvis pre objs := by rw [hvis_seg, ← g.objs]
  refine dv_step (f := ⟨some dd, u (h ++ hvis pre objs).length, b (h ++ hvis pre objs).length⟩) rfl (by rw [g.len]; exact hp) ⟨_, by rw [g.len]; simpa using ho, rfl, .inl ⟨u, b, .inr ⟨gd, want, t, rfl, by simpa using hj, g.see hok hp hb _ _ hl⟩, by rw [e]; simp only [hm]; exact hs.more (g.see hok hp hb), by rw [e], by rw [e]⟩⟩ ?_
  refine hk hok hen _ (g.snoc' (f := ⟨some dd, u (h ++ hvis pre objs).length, b (h ++ hvis pre objs).length⟩) ho rfl ?_)
  intro e2
  rw [show b (h ++ hvis pre objs).length = [] from e2] at hm
  cases hm
theorem growE_env {effs : List Eff} {env : Env} {t : Nat} {x : AV} (hd : (effs.filterMap (·.d)).Nodup) (hx : look (growE env effs) t = some x) : look (envOf env effs) t = some x := by
  induction effs generalizing env with
  | nil => exact hx
  | cons f r ih =>
    have hr : (r.filterMap (·.d)).Nodup := by
      cases hc : f.d with
      | none => rwa [List.filterMap_cons_none hc] at hd
      | some y => rw [List.filterMap_cons_some hc] at hd; exact (List.nodup_cons.1 hd).2
    have miss : ∀ {l : List Eff} {env : Env}, (∀ (j : Nat) f, l[j]? = some f → f.d ≠ some t) → look (envOf env l) t = look env t := fun {l env} hl => by
      induction l with
      | nil => rfl
      | cons g q ihq =>
        have h0 := hl 0 g rfl
        have hq := ihq (fun j f hf => hl (j + 1) f (by simpa using hf))
        simp only [envOf]
        cases hg : g.d with
        | none => exact hq
        | some d =>
          simp only [putd, look_cons]
          rw [if_neg (fun e => h0 (by rw [hg, e])), hq]
    simp only [growE] at hx
    simp only [envOf]
    rcases growE_look hx with ⟨h1, h2⟩ | ⟨j, g, h1, h2, h3⟩
    · cases hfd : f.d with
      | none => rw [hfd] at h1; simp only [putd] at h1 ⊢; rw [miss h2]; exact h1
      | some d =>
        rw [hfd] at h1
        simp only [putd, look_cons] at h1 ⊢
        split at h1
        · rename_i e; rw [if_pos e]; exact h1
        · rename_i e; rw [if_neg e, miss h2]; exact h1
    · have hne : f.d ≠ some t := fun e => by
        rw [List.filterMap_cons_some e] at hd
        exact (List.nodup_cons.1 hd).1 (List.mem_filterMap.2 ⟨g, List.mem_of_getElem? h1, h2⟩)
      have hx' : look (growE env r) t = some x := by
        cases hfd : f.d with
        | none => rw [hfd] at hx; exact hx
        | some d =>
          rw [hfd] at hx
          have key : ∀ (l : List Eff) (e1 e2 : Env), look e1 t = look e2 t → look (growE e1 l) t = look (growE e2 l) t := by
            intro l
            induction l with
            | nil => exact fun _ _ h => h
            | cons q l ihl =>
              intro e1 e2 he
              simp only [growE]
              refine ihl _ _ ?_
              cases q.d with
              | none => exact he
              | some d => simp only [putd, look_cons]; rw [he]
          have hdt : d ≠ t := fun e => hne (by rw [hfd, e])
          rw [← hx]
          exact key r env _ (by simp only [putd, look_cons]; rw [if_neg hdt])
      have := ih hr hx'
      cases hfd : f.d with
      | none => exact this
      | some d => simp only [putd, look_cons]; rw [if_neg (fun e => hne (by rw [hfd, e]))]; exact this

theorem VC.moreE {ops : Array Oper} {rest : List Oper} {env env' : Env} {h : Hp} {K : Env → Hp → Prop} (hv : VC P n ops rest env h K) (he : ∀ t x, look env t = some x → look env' t = some x) : VC P n ops rest env' h K :=
  fun c ρ S a w Q s hQ => hv c ρ S a w Q (s.fewer he) hQ

theorem dw_fin (hi : pres.length = i) {rest : List Oper} {h' : Hp} (hr : ops.drop i = rest) (hh : h ++ allObjs objs = h')
    (hk : VC P n ops.toArray rest cur h' K) : DW P n ops pres ds bads env h i cur objs K := by
  intro hok hen effs g
  have hok' := hok
  simp only [chkDraw, Bool.and_eq_true, decide_eq_true_eq] at hok'
  obtain ⟨⟨⟨⟨⟨h1, h2⟩, h3⟩, h4⟩, h5⟩, h6⟩ := hok'
  have hds : dstsOf effs = ds := by
    rw [← h5]
    have hle : i ≤ ops.length := by rw [← hi]; exact Nat.le_of_ble_eq_true h4
    unfold dstsOf
    have : effs.map (·.d) = (ops.take pres.length).map (·.dst) := by
      apply List.ext_getElem?
      intro j
      simp only [List.getElem?_map, List.getElem?_take, hi]
      by_cases hj : j < i
      · rw [if_pos hj]
        have hje : j < effs.length := by rw [g.len]; exact hj
        obtain ⟨o, ho, hod⟩ := g.dst j effs[j] (List.getElem?_eq_getElem hje)
        rw [List.getElem?_eq_getElem hje, ho]
        simp [hod]
      · rw [if_neg hj, List.getElem?_eq_none (by rw [g.len]; omega)]; rfl
    have e1 : effs.filterMap (·.d) = (effs.map (·.d)).filterMap id := by rw [List.filterMap_map]; rfl
    have e2 : (ops.take pres.length).filterMap (·.dst) = ((ops.take pres.length).map (·.dst)).filterMap id := by rw [List.filterMap_map]; rfl
    rw [e1, e2, this]
  refine dv_fin (rest := rest) (env' := envOf env effs) (h' := h ++ hpOf effs) (by rw [g.len, hi]) hds (by rw [hi]; simpa using hr) rfl rfl ?_
  have e : h ++ hpOf effs = h' := by rw [objsOf_hp effs 0, ← g.objs, ← allObjs_eq]; exact hh
  rw [e]
  refine hk.moreE fun t x hx => ?_
  rw [g.cur] at hx
  exact growE_env (by have : dstsOf effs = effs.filterMap (·.d) := rfl; rw [← this, hds]; exact h2) hx
end
end
end Go.Ab
