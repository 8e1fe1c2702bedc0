/-
  A logic of values for the walk, texts 22, 23, 24.
-/
import Derived.Test.YtnpedigoacbocaaDoorAb21

/-! A logic of values for the walk, twenty-second part: fields of structures that are values, stores at a cell that is not known, masks of any number. -/
namespace Go.Ab
open Go
set_option linter.unusedVariables false
set_option linter.unusedSimpArgs false

section
variable {P : Program} {env : Env} {h : Hp}
variable {d : Option Nat} {ty : TypeId} {pos : String} {af : Array Edge} {g : Option (Nat × Bool)}
theorem part_val (T : Tab P) {S : Nat → Prop} {w : World} {ρ : Pl} {e off : Nat} {i : TI} {cs : List AV} {ys : Array Value} {z : AV} (h5 : RL S w cs ρ ys.toList) (he : T.ti e = some i) (hz : loadAV i cs off = some z) : ∃ v, (part e ys off).run P w = .ok v w ∧ R S w z ρ v := by
  unfold loadAV at hz
  split at hz
  · rename_i hagg
    split at hz
    · rename_i zs hg
      simp only [Option.some.injEq] at hz
      subst hz
      refine ⟨.agg (ys.extract off (off + i.size)), by simp [part, T.agg he, hagg, T.sizeOf he], ?_⟩
      rw [grab_take hg]
      simp only [R]
      refine ⟨_, rfl, ?_⟩
      have := RL_take (RL_drop h5 off) i.size
      simpa [Array.toList_extract, List.extract_eq_take_drop] using this
    · cases hz
  · rename_i hagg
    obtain ⟨v, h7, h8⟩ := RL_get h5 _ _ hz
    have h9 : ys[off]? = some v := by simpa using h7
    exact ⟨v, by simp [part, T.agg he, hagg, h9], h8⟩
def fieldT (P : Program) (t : TypeId) (f : Nat) : Option (Nat × Nat) := match P.underlying t with
  | some (.struct fs) => (fs[f]?).map fun fd => (fd.type, fd.offset)
  | _ => none
/-- A field of a structure that is a value. -/
theorem fs_fieldV (T : Tab P) {t f e o : Nat} {i : TI} {x : Operand} {cs : List AV} {z : AV} (hx : evu env x = some (.agg cs)) (hf : fieldT P t f = some (e, o)) (he : T.ti e = some i) (hz : loadAV i cs o = some z) :
    FStep P ⟨d, .field t x f, ty, pos, af, g⟩ env h 0 (fun _ => z) (fun _ => []) := by
  refine fs_val fun ρ S a w p => ?_
  have h3 := p.evu hx
  simp only [R] at h3
  obtain ⟨ys, h4, h5⟩ := h3
  obtain ⟨v, h6, h7⟩ := part_val T h5 he hz
  unfold fieldT at hf
  split at hf
  · rename_i fs hu
    cases hfd : fs[f]? with
    | none => rw [hfd] at hf; cases hf
    | some fd =>
      rw [hfd] at hf
      simp only [Option.map_some, Option.some.injEq, Prod.mk.injEq] at hf
      obtain ⟨rfl, rfl⟩ := hf
      exact ⟨v, by simp [execOp, h4, Instr.field, run_underlying hu, hfd, asAgg, h6], h7⟩
  · cases hf
/-- The first k elements of a row, and those from the k-th on. -/
theorem fs_sliceToE (T : Tab P) {t e sz k : Nat} {es : List (List AV)} {i : TI} {x : Operand} {hi : Option Operand} (hx : evu env x = some (.rowE es sz)) (ht : T.elem t = some e) (he : T.ti e = some i) (hs : i.size = sz) (hhi : evB env hi es.length = some (k : Int)) (h2 : k ≤ es.length) (hl : ∀ e, e ∈ es → e.length = sz) :
    FStep P ⟨d, .slice t x none hi none, ty, pos, af, g⟩ env h 0 (fun _ => .rowE (es.take k) sz) (fun _ => []) := by
  have := fs_sliceRowE (env := env) (h := h) (d := d) (ty := ty) (pos := pos) (af := af) (g := g) (lo := none) (l := 0) T hx ht he hs rfl hhi (by omega) (by omega) (by omega) hl
  simpa using this
theorem fs_sliceFromE (T : Tab P) {t e sz k : Nat} {es : List (List AV)} {i : TI} {x : Operand} {lo : Option Operand} (hx : evu env x = some (.rowE es sz)) (ht : T.elem t = some e) (he : T.ti e = some i) (hs : i.size = sz) (hlo : evB env lo 0 = some (k : Int)) (h2 : k ≤ es.length) (hl : ∀ e, e ∈ es → e.length = sz) :
    FStep P ⟨d, .slice t x lo none none, ty, pos, af, g⟩ env h 0 (fun _ => .rowE (es.drop k) sz) (fun _ => []) := by
  have := fs_sliceRowE (env := env) (h := h) (d := d) (ty := ty) (pos := pos) (af := af) (g := g) (hi := none) (r := (es.length : Int)) T hx ht he hs hlo rfl (by omega) (by omega) (by omega) hl
  have e1 : ((es.length : Int) - (k : Int)).toNat = es.length - k := by omega
  rw [e1] at this
  rw [show ((es.drop ((k : Int).toNat)).take (es.length - k)) = es.drop k by rw [Int.toNat_natCast]; exact List.take_of_length_le (by simp)] at this
  exact this
theorem fs_and1Z {t t2 : TypeId} {x y : Operand} {a : Int} (hx : evu env x = some (.i a)) (hy : evu env y = some (.i 1)) :
    FStep P ⟨d, .binOp .and t x y t2, ty, pos, af, g⟩ env h 0 (fun _ => .i (a % 2)) (fun _ => []) := by
  refine fs_bin hx hy fun w => ?_
  have e : ((BitVec.ofInt 64 a &&& BitVec.ofInt 64 1).toNat : Int) = a % 2 := by
    rw [BitVec.toNat_and, BitVec.toNat_ofInt, BitVec.toNat_ofInt]
    rw [show ((1 : Int) % ((2 ^ 64 : Nat) : Int)).toNat = 1 by decide, Nat.and_one_is_mod]
    have : ((2 ^ 64 : Nat) : Int) = 18446744073709551616 := by decide
    rw [this]
    omega
  have e3 : IntKind.i64.wrap (a % 2) = a % 2 := IntWalk.i64_in _ (by omega)
  show (Op.intBits .and .i64 a 1).run P w = _
  simp only [Op.intBits]
  show Result.ok (Value.int .i64 (IntKind.i64.wrap ((BitVec.ofInt 64 a &&& BitVec.ofInt 64 1).toNat : Int))) w = _
  rw [e, e3]
end

theorem putAt_one (cs : List AV) (off : Nat) (v : AV) : putAt cs off [v] = cs.set off v := rfl
/-- A store into one cell of a variable. -/
theorem upd_at {h : Hp} {k off : Nat} {cs cs' : List AV} {v : AV} (hk : h[k]? = some (.cells cs)) (hl : off < cs.length) (he : cs.set off v = cs') : upd h (.ptr k off) [v] = some (h.set k (.cells cs')) := by
  have : Nat.ble (off + [v].length) cs.length = true := Nat.ble_eq_true_of_le (show off + 1 ≤ cs.length from hl)
  simp only [upd, hk, this, putAt_one, he]
end Go.Ab

/-! A logic of values for the walk, twenty-third part: in a region that draws its order, an operation that only takes a part of a value may be thought to come before a store that does not wait for it. -/
namespace Go.Ab
open Go
set_option linter.unusedVariables false
set_option linter.unusedSimpArgs false

/-- One more edge: operation j waits for operation i. -/
def addE (i : Nat) : Nat → List Oper → List Oper
  | _, [] => []
  | 0, o :: r => { o with after := o.after.push ⟨i, .phase⟩ } :: r
  | j + 1, o :: r => o :: addE i j r
theorem addE_length (i : Nat) : ∀ (j : Nat) (l : List Oper), (addE i j l).length = l.length
  | _, [] => by cases ‹Nat› <;> rfl
  | 0, _ :: _ => rfl
  | j + 1, _ :: r => by simp [addE, addE_length i j r]
theorem addE_get (i : Nat) : ∀ (j k : Nat) (l : List Oper), (addE i j l)[k]? = if k = j then (l[k]?).map (fun o => { o with after := o.after.push ⟨i, .phase⟩ }) else l[k]?
  | j, k, [] => by cases j <;> simp [addE]
  | 0, k, o :: r => by cases k <;> simp [addE]
  | j + 1, k, o :: r => by
    cases k with
    | zero => simp [addE]
    | succ k => simp only [addE, List.getElem?_cons_succ, addE_get i j k r, Nat.add_right_cancel_iff]

section
variable {P : Program} {ops ops' : Array Oper} {i j : Nat} {oi oj : Oper} {Q : Exit → Act → World → Prop}

theorem yielded_edge (hd : ∀ k : Nat, (ops'[k]?).bind (·.dst) = (ops[k]?).bind (·.dst)) (tmps : Array Value) : yielded ops' tmps = yielded ops tmps := by
  funext g
  simp only [yielded, hd]
theorem wpOp_edge (ho : ∀ k, k ≠ j → ops'[k]? = ops[k]?) (hj : ops[j]? = some oj) (hj' : ops'[j]? = some { oj with after := oj.after.push ⟨i, .phase⟩ }) (k : Nat) (K : Act → World → Prop) (a : Act) (w : World) : wpOp P ops' Q k K a w = wpOp P ops Q k K a w := by
  have hd : ∀ k : Nat, (ops'[k]?).bind (·.dst) = (ops[k]?).bind (·.dst) := fun k => by
    by_cases h : k = j
    · subst h; rw [hj, hj']; rfl
    · rw [ho k h]
  unfold wpOp
  by_cases h : k = j
  · subst h
    rw [hj, hj']
    simp only [yielded_edge hd]
    cases oj
    rfl
  · rw [ho k h]
    simp only [yielded_edge hd]

/-- An operation that takes a part of a value that has several. -/
def isExtract (o : Oper) : Bool := match o.op, o.guard with
  | .extract .., none => true
  | _, _ => false
theorem extract_yields (hi : ops[i]? = some oi) (hx : isExtract oi = true) (hq : ¬ LetsOut Q) {K : Act → World → Prop} {a : Act} {w : World} (h : wpOp P ops Q i K a w) : ∃ v, Yields P ops oi v a ∧ K (a.put oi.dst v) w := by
  obtain ⟨dst, op, ty, pos, af, g⟩ := oi
  unfold isExtract at hx
  split at hx
  · rename_i x n h1 h2
    simp only at h1 h2
    subst h1 h2
    unfold wpOp at h
    rw [hi] at h
    have hw : Region.wanted (⟨dst, .extract x n, ty, pos, af, none⟩ : Oper) (yielded ops a.tmps) = true := wanted_none rfl
    simp only [hw, if_true] at h
    rcases h with h | h
    · unfold Oper.wp at h
      have key : (∃ v, ∀ w, (execOp a.eval ⟨dst, .extract x n, ty, pos, af, none⟩).run P w = .ok (.value v) w) ∨ ∀ K', ¬ Oper.upon P (⟨dst, .extract x n, ty, pos, af, none⟩ : Oper) a K' Q ((execOp a.eval ⟨dst, .extract x n, ty, pos, af, none⟩).run P w) := by
        simp only [execOp, Instr.extract]
        split
        · split
          · rename_i v _
            exact .inl ⟨v, fun w => by simp⟩
          · exact .inr fun K' hk => by simp [stuck, Oper.upon] at hk
        · exact .inr fun K' hk => by simp [stuck, Oper.upon] at hk
      rcases key with ⟨v, hv⟩ | hv
      · rw [hv w] at h
        exact ⟨v, .inl ⟨hw, hv⟩, h⟩
      · exact absurd h (hv K)
    · exact absurd h.2 hq
  · cases hx

def chkE (ops : Array Oper) (i j : Nat) : Bool :=
  match ops[i]?, ops[j]? with
  | some oi, some oj => isExtract oi && Region.noSelect ops && !Nat.beq i j &&
    (oi.after.all fun e => !Region.binds .any e || (oj.after.any fun e' => Region.binds .any e' && Nat.beq e'.on e.on)) &&
    ((List.range ops.size).all fun k => Nat.beq k i || (oi.after.any fun e => Region.binds .any e && Nat.beq e.on k) || match ops[k]? with
      | some ok => (ok.after.any fun e => Region.binds .any e && Nat.beq e.on i) || oi.apart ops ok
      | none => true)
  | _, _ => false

theorem wpAny_edge (hsz : ops'.size = ops.size) (ho : ∀ k, k ≠ j → ops'[k]? = ops[k]?) (hi : ops[i]? = some oi) (hj : ops[j]? = some oj) (hj' : ops'[j]? = some { oj with after := oj.after.push ⟨i, .phase⟩ }) (hc : chkE ops i j = true) (hq : ∀ e a w, Q e a w → e = .normal) :
    ∀ (fuel : Nat) (listed : Array Bool) (a : Act) (w : World), listed.size = ops.size → wpAny P .any ops' Q fuel listed a w → wpAny P .any ops Q fuel listed a w := by
  unfold chkE at hc
  rw [hi, hj] at hc
  simp only [Bool.and_eq_true, List.all_eq_true, List.mem_range] at hc
  obtain ⟨⟨⟨⟨hx, hns⟩, hij⟩, hcov⟩, hfree⟩ := hc
  have hij : i ≠ j := fun e => by rw [e] at hij; simp at hij
  have hlo : ¬ LetsOut Q := fun ⟨a, w, h⟩ => by have := hq _ _ _ h; cases this
  have hi' : ops'[i]? = some oi := by rw [ho i hij]; exact hi
  have hilt : i < ops.size := (Array.getElem?_eq_some_iff.1 hi).1
  have d2 : ∀ (listed : Array Bool) (k : Nat), listed.size = ops.size → k < ops.size → listed.getD k true = listed.getD k false := fun listed k hl hk => by
    simp [Array.getD, hl, hk]
  -- what is ready there is ready here; what is ready here is ready there, or waits for i, which is ready
  have r1 : ∀ (listed : Array Bool) (k : Nat), k ≠ j → (k ∈ Region.ready .any ops listed ↔ k ∈ Region.ready .any ops' listed) := fun listed k hk => by
    rw [mem_ready, mem_ready, ho k hk]
  have r2 : ∀ (listed : Array Bool), listed.size = ops.size → j ∈ Region.ready .any ops listed → j ∈ Region.ready .any ops' listed ∨ i ∈ Region.ready .any ops listed := fun listed hl hjr => by
    obtain ⟨h1, o, h2, h3⟩ := mem_ready.1 hjr
    rw [hj] at h2; cases h2
    cases hli : listed.getD i false with
    | true =>
      refine .inl (mem_ready.2 ⟨h1, _, hj', fun e he hb => ?_⟩)
      simp only [Array.mem_push] at he
      rcases he with he | rfl
      · exact h3 e he hb
      · exact hli
    | false =>
      refine .inr (mem_ready.2 ⟨by rw [d2 listed i hl hilt]; exact hli, oi, hi, fun e he hb => ?_⟩)
      rw [Array.all_eq_true_iff_forall_mem] at hcov
      have := hcov e he
      simp only [hb, Bool.not_true, Bool.false_or] at this
      obtain ⟨e', he', hb'⟩ := Array.any_eq_true'.1 this
      simp only [Bool.and_eq_true] at hb'
      rw [← Nat.eq_of_beq_eq_true hb'.2]
      exact h3 e' he' hb'.1
  have r3 : ∀ (listed : Array Bool), j ∈ Region.ready .any ops' listed → j ∈ Region.ready .any ops listed := fun listed hjr => by
    obtain ⟨h1, o, h2, h3⟩ := mem_ready.1 hjr
    rw [hj'] at h2; cases h2
    exact mem_ready.2 ⟨h1, _, hj, fun e he hb => h3 e (by simp [he]) hb⟩
  have emp : ∀ (listed : Array Bool), listed.size = ops.size → (Region.ready .any ops listed = [] ↔ Region.ready .any ops' listed = []) := fun listed hl => by
    rw [List.eq_nil_iff_forall_not_mem, List.eq_nil_iff_forall_not_mem]
    constructor
    · intro h k hk
      by_cases hkj : k = j
      · subst hkj; exact h k (r3 listed hk)
      · exact h k ((r1 listed k hkj).2 hk)
    · intro h k hk
      by_cases hkj : k = j
      · subst hkj
        rcases r2 listed hl hk with h1 | h1
        · exact h _ h1
        · exact h _ ((r1 listed i hij).1 h1)
      · exact h k ((r1 listed k hkj).1 hk)
  intro fuel
  induction fuel with
  | zero =>
    intro listed a w hl H
    exact ⟨(emp listed hl).2 H.1, H.2⟩
  | succ fuel ih =>
    intro listed a w hl H
    by_cases hri : i ∈ Region.ready .any ops listed
    · have h1 := H.2 i ((r1 listed i hij).1 hri)
      rw [wpOp_edge ho hj hj'] at h1
      obtain ⟨v, h2, h3⟩ := extract_yields hi hx hlo h1
      have h4 := ih _ _ _ (by simpa using hl) h3
      obtain ⟨g1, o, g2, g3⟩ := mem_ready.1 hri
      rw [hi] at g2; cases g2
      refine wpAny_first hi (Region.noSelect_spec hns) (fun c a w hp => by have := hq _ _ _ hp; cases this) fuel listed a w (fun k ok hk hki hun hno => ?_) hri h2 h4
      have h5 := hfree k (Array.getElem?_eq_some_iff.1 hk).1
      simp only [hk, Bool.or_eq_true] at h5
      rcases h5 with (h5 | h5) | h5 | h5
      · exact absurd (Nat.eq_of_beq_eq_true h5) hki
      · obtain ⟨e, he, hb⟩ := Array.any_eq_true'.1 h5
        simp only [Bool.and_eq_true] at hb
        have h6 := g3 e he hb.1
        rw [Nat.eq_of_beq_eq_true hb.2] at h6
        rw [d2 listed k hl (Array.getElem?_eq_some_iff.1 hk).1, h6] at hun
        cases hun
      · obtain ⟨e, he, hb⟩ := Array.any_eq_true'.1 h5
        simp only [Bool.and_eq_true] at hb
        exact absurd (Nat.eq_of_beq_eq_true hb.2) (hno e he hb.1)
      · exact h5
    · refine ⟨fun h => H.1 ((emp listed hl).1 h), fun k hk => ?_⟩
      have hk' : k ∈ Region.ready .any ops' listed := by
        by_cases hkj : k = j
        · subst hkj; exact (r2 listed hl hk).resolve_right hri
        · exact (r1 listed k hkj).1 hk
      have h1 := H.2 k hk'
      rw [wpOp_edge ho hj hj'] at h1
      exact wpOp_mono (fun a' w' h2 => ih _ a' w' (by simpa using hl) h2) h1
end

section
variable {P : Program} {n : Nat × Nat} {env : Env} {h : Hp}
/-- A region that draws its order, in which operation j may be thought to wait for operation i. -/
theorem aw_drawE {Q : Exit → Env → Hp → Prop} {id : Nat} {l l' : List Oper} (i j k : Nat) (hl : addE i j l = l') (hc : chkE l.toArray i j = true) (pres : List (List Nat)) (ds : List Nat) (bads : List (List Nat)) (hm : P.follows .mixedOrders = true) (hn : n.1 = k) (hok : chkDraw l' pres ds bads k = true)
    (hv : DW P n l' pres ds bads (dropE ds env) h 0 (dropE ds env) [] (fun v h => Q .normal v h)) (hndf : noDef l = true := by rfl) : AW P n (.region id l.toArray true) env h Q := by
  intro c ρ S a w QQ s hQ
  subst hl
  have hc' := hc
  unfold chkE at hc'
  cases hi : l.toArray[i]? with
  | none => rw [hi] at hc'; cases hc'
  | some oi =>
    cases hj : l.toArray[j]? with
    | none => rw [hi, hj] at hc'; cases hc'
    | some oj =>
      have h1 := any_draw2 pres ds bads (by rw [hn]; exact hok) hv c ρ S a w (fun e a w => e = .normal ∧ QQ .normal a w) s fun env' h' ρ' S' a' w' k s' => ⟨rfl, hQ .normal env' h' ρ' S' a' w' k s'⟩
      have hj2 : l[j]? = some oj := by simpa using hj
      have hsz : (addE i j l).toArray.size = l.toArray.size := by simp [addE_length]
      have h2 := wpAny_edge (P := P) (ops := l.toArray) (ops' := (addE i j l).toArray) (j := j) hsz (fun k hk => by simp [addE_get, hk]) hi hj (by simp [addE_get, hj2]) hc (fun e a w h => h.1) _ _ _ _ (by simp [addE_length]) h1
      rw [hsz] at h2
      exact region_any_in hm hndf h2
end
end Go.Ab

/-! A logic of values for the walk, twenty-fourth part: in a region that draws its order, operations that look at no memory may be thought to come first. -/
namespace Go.Ab
open Go
set_option linter.unusedVariables false
set_option linter.unusedSimpArgs false

/-- An operation whose value is the same in every world. -/
def PStep (P : Program) (o : Oper) (env : Env) (h : Hp) (u : AV) : Prop :=
  ∀ ρ S a w, Pre ρ S env h a w → ∃ y, (∀ w', (execOp a.eval o).run P w' = .ok (.value y) w') ∧ R S w u ρ y

section
variable {P : Program} {env : Env} {h : Hp}
variable {d : Option Nat} {ty : TypeId} {pos : String} {af : Array Edge} {g : Option (Nat × Bool)}
theorem ps_move {x : Operand} {u : AV} (hx : evu env x = some u) : PStep P ⟨d, .move x, ty, pos, af, g⟩ env h u := fun ρ S a w p => ⟨a.eval x, fun w' => by simp [execOp], p.evu hx⟩
theorem ps_assign {x : Operand} {u : AV} (hx : evu env x = some u) : PStep P ⟨d, .assign x, ty, pos, af, g⟩ env h u := fun ρ S a w p => ⟨a.eval x, fun w' => by simp [execOp], p.evu hx⟩
theorem ps_bin {op : BinOp} {t t2 : TypeId} {x y : Operand} {k : IntKind} {a b : Int} {z : Value} (hx : evu env x = some (.v (.int k a))) (hy : evu env y = some (.v (.int k b)))
    (hz : ∀ w, (binOp op t (.int k a) (.int k b)).run P w = .ok z w) : PStep P ⟨d, .binOp op t x y t2, ty, pos, af, g⟩ env h (.v z) := by
  intro ρ S ac w p
  have h1 := R_v (p.evu hx)
  have h2 := R_v (p.evu hy)
  refine ⟨z, ?_, R_v_mk z⟩
  have hg : ∀ w, (eqGuard op t x y (.int k a) (.int k b)).run P w = .ok () w := fun w => by
    unfold eqGuard
    cases op <;> rfl
  intro w'
  simp [execOp, h1, h2, hg, hz]
theorem ps_addr {t t2 : TypeId} {x y : Operand} {a b : Int} (hx : evu env x = some (.i a)) (hy : evu env y = some (.i b)) (h1 : -9223372036854775808 ≤ a + b) (h2 : a + b ≤ 9223372036854775807) :
    PStep P ⟨d, .binOp .add t x y t2, ty, pos, af, g⟩ env h (.i (a + b)) := ps_bin hx hy fun w => by simp [binOp, Op.intArith, IntWalk.i64_in (a + b) ⟨h1, h2⟩]
theorem run_bounds2 {ρ : Pl} {S : Nat → Prop} {a : Act} {w : World} (p : Pre ρ S env h a w) {lo hi : Option Operand} {l r : Int} {len cap : Nat} (hlo : evB env lo 0 = some l) (hhi : evB env hi len = some r) (h0 : 0 ≤ l) (h1 : l ≤ r) (h2 : r ≤ len) (hc : len ≤ cap) :
    ∀ w, (Instr.sliceBounds true len cap (lo.map a.eval) (hi.map a.eval) none).run P w = .ok (l.toNat, r.toNat, cap) w := by
  intro w
  have hr : ∀ k code, (Instr.sliceBound (.int k r) cap code).run P w = .ok r.toNat w := fun k code => by
    simp only [Instr.sliceBound, asIntOf, Sem.run_bind, Sem.run_pure, Result.andThen_ok]
    rw [if_pos ⟨by omega, by omega⟩]; rfl
  have hl : ∀ k code, (Instr.sliceBound (.int k l) r.toNat code).run P w = .ok l.toNat w := fun k code => by
    simp only [Instr.sliceBound, asIntOf, Sem.run_bind, Sem.run_pure, Result.andThen_ok]
    rw [if_pos ⟨by omega, by omega⟩]; rfl
  cases lo with
  | none =>
    simp only [evB, Option.some.injEq] at hlo
    subst hlo
    cases hi with
    | none =>
      simp only [evB, Option.some.injEq] at hhi
      subst hhi
      simp [Instr.sliceBounds]
    | some x =>
      obtain ⟨k, hk⟩ := evB_val p hhi
      simp [Instr.sliceBounds, hk, hr]
  | some y =>
    obtain ⟨k', hk'⟩ := evB_val p hlo
    cases hi with
    | none =>
      simp only [evB, Option.some.injEq] at hhi
      subst hhi
      have := hl k'
      simp only [Int.toNat_natCast] at this
      simp [Instr.sliceBounds, hk', this]
    | some x =>
      obtain ⟨k, hk⟩ := evB_val p hhi
      simp [Instr.sliceBounds, hk, hk', hr, hl]
theorem ps_sliceRow (T : Tab P) {t e len sz : Nat} {cs : List AV} {i : TI} {x : Operand} {lo hi : Option Operand} {l r : Int} (hx : evu env x = some (.row cs len sz)) (ht : T.elem t = some e) (he : T.ti e = some i) (hs : i.size = sz) (hlo : evB env lo 0 = some l) (hhi : evB env hi len = some r) (h0 : 0 ≤ l) (h1 : l ≤ r) (h2 : r ≤ len) :
    PStep P ⟨d, .slice t x lo hi none, ty, pos, af, g⟩ env h (.row ((cs.drop (l.toNat * sz)).take ((r - l).toNat * sz)) (r - l).toNat sz) := by
  intro ρ S a w p
  have h3 := p.evu hx
  simp only [R] at h3
  obtain ⟨ad, cap, h4, hlc, hn, hcm, hcl, h5⟩ := h3
  have hb := run_bounds2 (P := P) p hlo hhi h0 h1 h2 hlc
  have hrl : r.toNat - l.toNat = (r - l).toNat := by omega
  refine ⟨.slice (if cap = l.toNat then ad else ad.map (·.add (l.toNat * sz))) (r - l).toNat (cap - l.toNat), ?_, ?_⟩
  · intro w'
    simp [execOp, h4, Instr.sliceAt, Instr.slice, run_underlying (T.elemOk _ _ ht), hb, T.sizeOf he, hs, hrl]
  · have hmul : l.toNat * sz + (r - l).toNat * sz ≤ len * sz := by rw [← Nat.add_mul]; exact Nat.mul_le_mul_right _ (by omega)
    simp only [R]
    refine ⟨_, _, rfl, by omega, ?_, by omega, by rw [List.length_take, List.length_drop, hcl]; omega, ?_⟩
    · intro hnone
      by_cases hc : cap = l.toNat
      · omega
      · rw [if_neg hc] at hnone
        have : ad = none := by cases ad <;> simp at hnone ⊢
        have := hn this
        omega
    · by_cases hz : (r - l).toNat = 0
      · exact .inl hz
      · right
        rcases h5 with h5 | ⟨b, o, ys, h6, h7, ⟨cc, ee, fz, h8, h9⟩, h10⟩
        · omega
        · refine ⟨b, o + l.toNat * sz, (ys.drop (l.toNat * sz)).take ((r - l).toNat * sz), ?_, h7, ⟨cc, ee, fz, h8, fun j y hy => ?_⟩, RL_take (RL_drop h10 _) _⟩
          · rw [if_neg (by omega), h6]; simp [Addr.add_lit]
          · rw [List.getElem?_take] at hy
            split at hy
            · rw [List.getElem?_drop] at hy
              rw [Nat.add_assoc]; exact h9 _ _ hy
            · cases hy
theorem ps_sliceToE (T : Tab P) {t e sz k : Nat} {es : List (List AV)} {i : TI} {x : Operand} {hi : Option Operand} (hx : evu env x = some (.rowE es sz)) (ht : T.elem t = some e) (he : T.ti e = some i) (hs : i.size = sz) (hhi : evB env hi es.length = some (k : Int)) (h2 : k ≤ es.length) (hl : ∀ e, e ∈ es → e.length = sz) :
    PStep P ⟨d, .slice t x none hi none, ty, pos, af, g⟩ env h (.rowE (es.take k) sz) := by
  have := ps_sliceRow (env := env) (h := h) (d := d) (ty := ty) (pos := pos) (af := af) (g := g) (lo := none) (l := 0) T hx ht he hs rfl hhi (by omega) (by omega) (by omega)
  have e1 : ((k : Int) - 0).toNat = k := by omega
  rw [e1] at this
  simp only [Int.toNat_zero, Nat.zero_mul, List.drop_zero] at this
  rw [flatten_take _ hl] at this
  have e2 : k = (es.take k).length := by rw [List.length_take]; omega
  have e3 : AV.row (es.take k).flatten k sz = AV.rowE (es.take k) sz := by
    show _ = AV.row _ (es.take k).length sz
    rw [← e2]
  rw [e3] at this
  exact this
theorem ps_sliceFromE (T : Tab P) {t e sz k : Nat} {es : List (List AV)} {i : TI} {x : Operand} {lo : Option Operand} (hx : evu env x = some (.rowE es sz)) (ht : T.elem t = some e) (he : T.ti e = some i) (hs : i.size = sz) (hlo : evB env lo 0 = some (k : Int)) (h2 : k ≤ es.length) (hl : ∀ e, e ∈ es → e.length = sz) :
    PStep P ⟨d, .slice t x lo none none, ty, pos, af, g⟩ env h (.rowE (es.drop k) sz) := by
  have := ps_sliceRow (env := env) (h := h) (d := d) (ty := ty) (pos := pos) (af := af) (g := g) (hi := none) (r := (es.length : Int)) T hx ht he hs hlo rfl (by omega) (by omega) (by omega)
  have e1 : ((es.length : Int) - (k : Int)).toNat = es.length - k := by omega
  rw [e1, Int.toNat_natCast] at this
  rw [flatten_drop _ hl, flatten_take _ (fun e he => hl e (List.mem_of_mem_drop he)), List.take_of_length_le (by simp)] at this
  have e2 : es.length - k = (es.drop k).length := by simp
  have e3 : AV.row (es.drop k).flatten (es.length - k) sz = AV.rowE (es.drop k) sz := by
    show _ = AV.row _ (es.drop k).length sz
    rw [← e2]
  rw [e3] at this
  exact this
end

/-- A region at some point: what is listed, the frame, the objects; r operations are left. -/
def AnyAt (P : Program) (n : Nat × Nat) (ops : Array Oper) (listed : Array Bool) (r : Nat) (env : Env) (h : Hp) (K : Env → Hp → Prop) : Prop :=
  ∀ c ρ S a w QQ, Sim n c ρ S env h a w → (∀ e a w, QQ e a w → e = Exit.normal) → (∀ env' h' ρ' S' a' w', K env' h' → Sim n c ρ' S' env' h' a' w' → QQ Exit.normal a' w') → wpAny P .any ops QQ r listed a w

/-- The rest comes in this order and in no other. -/
def chkSeq (ops : Array Oper) : Array Bool → List Nat → Bool
  | listed, [] => match Region.ready .any ops listed with | [] => true | _ => false
  | listed, i :: r => (match Region.ready .any ops listed with | [j] => Nat.beq i j | _ => false) && chkSeq ops (listed.setIfInBounds i true) r

section
variable {P : Program} {n : Nat × Nat} {ops : Array Oper} {env : Env} {h : Hp} {K : Env → Hp → Prop} {listed : Array Bool} {r : Nat}
theorem any_p {i dd : Nat} {op : Op} {ty : TypeId} {pos : String} {af : Array Edge} {u : AV} (i' : Nat) (hi' : i' = i) (ho : ops[i]? = some ⟨some dd, op, ty, pos, af, none⟩) (hs : Region.noSelect ops = true) (hf : Region.free .any ops listed i = true) (hr : (Region.ready .any ops listed).contains i = true) (hp : PStep P ⟨some dd, op, ty, pos, af, none⟩ env h u) (hd : Nat.blt dd n.1 = true)
    (hk : AnyAt P n ops (listed.setIfInBounds i true) r ((dd, u) :: env) h K) : AnyAt P n ops listed (r + 1) env h K := by
  intro c ρ S a w QQ s hq hQ
  obtain ⟨y, h1, h2⟩ := hp ρ S a w s.pre
  refine wpAny_take ho hs hf hr (fun c a w hp => by have := hq _ _ _ hp; cases this) (.inl ⟨wanted_none rfl, h1⟩) ?_
  exact hk c ρ S (a.put (some dd) y) w QQ ⟨by rw [size_put]; exact s.size, by rw [defers_put]; exact s.defers, env_put (d := some dd) s.size hd s.env h2, s.hs, s.cm⟩ hq hQ
theorem wpAny_seq {Q : Exit → Act → World → Prop} : ∀ (order : List Nat) (rest : List Oper) (r : Nat) (listed : Array Bool) (a : Act) (w : World), chkSeq ops listed order = true → order.length ≤ r → order.map (ops[·]?) = rest.map some → wpList P ops Q rest a w → wpAny P .any ops Q r listed a w
  | [], rest, r, listed, a, w, hc, _, he, hw => by
    have : rest = [] := by cases rest with | nil => rfl | cons x xs => simp at he
    subst this
    have hr : Region.ready .any ops listed = [] := by
      unfold chkSeq at hc
      split at hc
      · assumption
      · cases hc
    exact wpAny_done hr hw r
  | i :: order, rest, r, listed, a, w, hc, hl, he, hw => by
    cases rest with
    | nil => simp at he
    | cons o rest =>
      simp only [List.map_cons, List.cons.injEq] at he
      obtain ⟨r, rfl⟩ : ∃ f, r = f + 1 := ⟨r - 1, by simp at hl; omega⟩
      simp only [chkSeq, Bool.and_eq_true] at hc
      obtain ⟨h1, h2⟩ := hc
      split at h1
      · rename_i j hj
        have := Nat.eq_of_beq_eq_true h1
        subst this
        refine wpAny_all hj (by simp) fun k hk => ?_
        simp only [List.mem_singleton] at hk
        subst hk
        have h3 : wpOp P ops Q k (wpList P ops Q rest) a w := by
          unfold wpOp
          rw [he.1]
          exact hw
        exact wpOp_mono (fun a' w' h4 => wpAny_seq order rest r _ a' w' h2 (by simpa using hl) he.2 h4) h3
      · cases h1
def pickL (ops : Array Oper) : List Nat → Option (List Oper)
  | [] => some []
  | i :: l => match ops[i]?, pickL ops l with
    | some o, some r => some (o :: r)
    | _, _ => none
theorem pickL_map : ∀ {l : List Nat} {rest : List Oper}, pickL ops l = some rest → l.map (ops[·]?) = rest.map some
  | [], rest, h => by cases h; rfl
  | i :: l, rest, h => by
    simp only [pickL] at h
    split at h
    · rename_i o r h1 h2
      cases h
      simp [h1, pickL_map h2]
    · cases h
theorem any_vc (order : List Nat) {rest : List Oper} (hc : chkSeq ops listed order = true) (hl : Nat.ble order.length r = true) (he : pickL ops order = some rest) (hv : VC P n ops rest env h K) : AnyAt P n ops listed r env h K := by
  intro c ρ S a w QQ s hq hQ
  exact wpAny_seq order rest r listed a w hc (Nat.le_of_ble_eq_true hl) (pickL_map he) (hv c ρ S a w QQ s hQ)
theorem Sim.drew {c : Ctx} {ρ : Pl} {S : Nat → Prop} {a : Act} {w : World} (s : Sim n c ρ S env h a w) : Sim n c ρ S env h a { w with drawn := w.drawn + 1 } := by
  have l0 : Later ρ ρ S S w { w with drawn := w.drawn + 1 } := ⟨fun _ _ h => h, fun _ h => h, fun _ _ => rfl, fun _ _ _ _ _ h => h⟩
  refine ⟨s.size, s.defers.later l0, fun t x hx => (s.env t x hx).later l0, ?_, s.cm⟩
  exact ⟨s.hs.dom, s.hs.rng, fun k b hb => RB.later l0 (fun _ _ _ => rfl) (s.hs.blk k b hb), s.hs.live, s.hs.inj, s.hs.stab, s.hs.ext.drew, s.hs.st0, s.hs.st1, s.hs.mle, s.hs.keep, s.hs.glob.later l0⟩
/-- A region that draws its order, step by step. -/
theorem aw_anyAt {Q : Exit → Env → Hp → Prop} {id : Nat} {l : List Oper} (hm : P.follows .mixedOrders = true) (hv : AnyAt P n l.toArray (Array.replicate l.length false) l.length env h (fun v h => Q .normal v h)) (hndf : noDef l = true := by rfl) : AW P n (.region id l.toArray true) env h Q := by
  intro c ρ S a w QQ s hQ
  have h1 := hv c ρ S a { w with drawn := w.drawn + 1 } (fun e a w => e = .normal ∧ QQ .normal a w) s.drew (fun e a w h => h.1) fun env' h' ρ' S' a' w' k s' => ⟨rfl, hQ .normal env' h' ρ' S' a' w' k s'⟩
  exact region_any_in hm hndf (by simpa using h1)
end
/-- Of a state only this is kept. -/
theorem aw_keep {P : Program} {n : Nat × Nat} {code : Code} {env : Env} {h : Hp} {Q : Exit → Env → Hp → Prop} (env' : Env) (h' : Hp) (hs : Sub n.2 env h env' h') (hv : AW P n code env' h' Q) : AW P n code env h Q := aw_sub hs hv
structure Hold (T : Prop) : Prop where
  get : T
/-- What is left is the same in several cases: it is shown once. -/
theorem cutT {G T : Prop} (h : Hold T → G) (ht : T) : G := h ⟨ht⟩
section
variable {P : Program} {env : Env} {h : Hp} {d : Option Nat} {ty : TypeId} {pos : String} {af : Array Edge} {g : Option (Nat × Bool)}
theorem fs_eqlT {t t2 : TypeId} {x y : Operand} {a b : Int} (hx : evu env x = some (.i a)) (hy : evu env y = some (.i b)) (e : a = b) : FStep P ⟨d, .binOp .eql t x y t2, ty, pos, af, g⟩ env h 0 (fun _ => .b true) (fun _ => []) := by
  have := fs_eql (P := P) (d := d) (ty := ty) (pos := pos) (af := af) (g := g) (h := h) (t := t) (t2 := t2) hx hy
  simpa [e] using this
theorem fs_eqlF {t t2 : TypeId} {x y : Operand} {a b : Int} (hx : evu env x = some (.i a)) (hy : evu env y = some (.i b)) (e : a ≠ b) : FStep P ⟨d, .binOp .eql t x y t2, ty, pos, af, g⟩ env h 0 (fun _ => .b false) (fun _ => []) := by
  have := fs_eql (P := P) (d := d) (ty := ty) (pos := pos) (af := af) (g := g) (h := h) (t := t) (t2 := t2) hx hy
  simpa [e] using this
theorem fs_neqT {t t2 : TypeId} {x y : Operand} {a b : Int} (hx : evu env x = some (.i a)) (hy : evu env y = some (.i b)) (e : a ≠ b) : FStep P ⟨d, .binOp .neq t x y t2, ty, pos, af, g⟩ env h 0 (fun _ => .b true) (fun _ => []) := by
  have := fs_neq (P := P) (d := d) (ty := ty) (pos := pos) (af := af) (g := g) (h := h) (t := t) (t2 := t2) hx hy
  simpa [e] using this
theorem fs_neqF {t t2 : TypeId} {x y : Operand} {a b : Int} (hx : evu env x = some (.i a)) (hy : evu env y = some (.i b)) (e : a = b) : FStep P ⟨d, .binOp .neq t x y t2, ty, pos, af, g⟩ env h 0 (fun _ => .b false) (fun _ => []) := by
  have := fs_neq (P := P) (d := d) (ty := ty) (pos := pos) (af := af) (g := g) (h := h) (t := t) (t2 := t2) hx hy
  simpa [e] using this
theorem fs_eqlBs {t t2 : TypeId} {x y : Operand} {a : Bool} (ht : BoolT P t) (hx : evu env x = some (.b a)) (hy : evu env y = some (.b a)) : FStep P ⟨d, .binOp .eql t x y t2, ty, pos, af, g⟩ env h 0 (fun _ => .b true) (fun _ => []) := by
  have := fs_eqlB (d := d) (ty := ty) (pos := pos) (af := af) (g := g) (h := h) (t2 := t2) ht hx hy
  simpa using this
theorem fs_neqBs {t t2 : TypeId} {x y : Operand} {a : Bool} (ht : BoolT P t) (hx : evu env x = some (.b a)) (hy : evu env y = some (.b a)) : FStep P ⟨d, .binOp .neq t x y t2, ty, pos, af, g⟩ env h 0 (fun _ => .b false) (fun _ => []) := by
  have := fs_neqB (d := d) (ty := ty) (pos := pos) (af := af) (g := g) (h := h) (t2 := t2) ht hx hy
  simpa using this
end
end Go.Ab
