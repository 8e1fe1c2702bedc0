/-
  A logic of values for the walk, twenty-fourth part: in a region that draws its order, operations that look at no memory may be thought to come first.
-/
import Derived.Test.YtgibgknkfcbopaaAb23
namespace Go.Ab
open Go
set_option linter.unusedVariables false
set_option linter.unusedSimpArgs false

/-- An operation whose value is the same in every world. -/
def PStep (P : Program) (o : Oper) (env : Env) (h : Hp) (u : AV) : Prop :=
  ∀ ρ S a w, Pre ρ S env h a w → ∃ y, (∀ w', (execOp a.eval o).run P w' = .ok (.value y) w') ∧ R S w u ρ y

section
variable {P : Program} {env : Env} {h : Hp}
variable {d : Option Nat} {ty : TypeId} {pos : String} {af : Array Edge} {g : Option (Nat × Bool)}
theorem ps_move {x : Operand} {u : AV} (hx : evu env x = some u) : PStep P ⟨d, .move x, ty, pos, af, g⟩ env h u := fun ρ S a w p => ⟨a.eval x, fun w' => by simp [execOp], p.evu hx⟩
theorem ps_assign {x : Operand} {u : AV} (hx : evu env x = some u) : PStep P ⟨d, .assign x, ty, pos, af, g⟩ env h u := fun ρ S a w p => ⟨a.eval x, fun w' => by simp [execOp], p.evu hx⟩
theorem ps_bin {op : BinOp} {t t2 : TypeId} {x y : Operand} {k : IntKind} {a b : Int} {z : Value} (hx : evu env x = some (.v (.int k a))) (hy : evu env y = some (.v (.int k b)))
    (hz : ∀ w, (binOp op t (.int k a) (.int k b)).run P w = .ok z w) : PStep P ⟨d, .binOp op t x y t2, ty, pos, af, g⟩ env h (.v z) := by
  intro ρ S ac w p
  have h1 := R_v (p.evu hx)
  have h2 := R_v (p.evu hy)
  refine ⟨z, ?_, R_v_mk z⟩
  have hg : ∀ w, (eqGuard op t x y (.int k a) (.int k b)).run P w = .ok () w := fun w => by
    unfold eqGuard
    cases op <;> rfl
  intro w'
  simp [execOp, h1, h2, hg, hz]
theorem ps_addr {t t2 : TypeId} {x y : Operand} {a b : Int} (hx : evu env x = some (.i a)) (hy : evu env y = some (.i b)) (h1 : -9223372036854775808 ≤ a + b) (h2 : a + b ≤ 9223372036854775807) :
    PStep P ⟨d, .binOp .add t x y t2, ty, pos, af, g⟩ env h (.i (a + b)) := ps_bin hx hy fun w => by simp [binOp, Op.intArith, IntWalk.i64_in (a + b) ⟨h1, h2⟩]
theorem run_bounds2 {ρ : Pl} {S : Nat → Prop} {a : Act} {w : World} (p : Pre ρ S env h a w) {lo hi : Option Operand} {l r : Int} {len cap : Nat} (hlo : evB env lo 0 = some l) (hhi : evB env hi len = some r) (h0 : 0 ≤ l) (h1 : l ≤ r) (h2 : r ≤ len) (hc : len ≤ cap) :
    ∀ w, (Instr.sliceBounds true len cap (lo.map a.eval) (hi.map a.eval) none).run P w = .ok (l.toNat, r.toNat, cap) w := by
  intro w
  have hr : ∀ k code, (Instr.sliceBound (.int k r) cap code).run P w = .ok r.toNat w := fun k code => by
    simp only [Instr.sliceBound, asIntOf, Sem.run_bind, Sem.run_pure, Result.andThen_ok]
    rw [if_pos ⟨by omega, by omega⟩]; rfl
  have hl : ∀ k code, (Instr.sliceBound (.int k l) r.toNat code).run P w = .ok l.toNat w := fun k code => by
    simp only [Instr.sliceBound, asIntOf, Sem.run_bind, Sem.run_pure, Result.andThen_ok]
    rw [if_pos ⟨by omega, by omega⟩]; rfl
  cases lo with
  | none =>
    simp only [evB, Option.some.injEq] at hlo
    subst hlo
    cases hi with
    | none =>
      simp only [evB, Option.some.injEq] at hhi
      subst hhi
      simp [Instr.sliceBounds]
    | some x =>
      obtain ⟨k, hk⟩ := evB_val p hhi
      simp [Instr.sliceBounds, hk, hr]
  | some y =>
    obtain ⟨k', hk'⟩ := evB_val p hlo
    cases hi with
    | none =>
      simp only [evB, Option.some.injEq] at hhi
      subst hhi
      have := hl k'
      simp only [Int.toNat_natCast] at this
      simp [Instr.sliceBounds, hk', this]
    | some x =>
      obtain ⟨k, hk⟩ := evB_val p hhi
      simp [Instr.sliceBounds, hk, hk', hr, hl]
theorem ps_sliceRow (T : Tab P) {t e len sz : Nat} {cs : List AV} {i : TI} {x : Operand} {lo hi : Option Operand} {l r : Int} (hx : evu env x = some (.row cs len sz)) (ht : T.elem t = some e) (he : T.ti e = some i) (hs : i.size = sz) (hlo : evB env lo 0 = some l) (hhi : evB env hi len = some r) (h0 : 0 ≤ l) (h1 : l ≤ r) (h2 : r ≤ len) :
    PStep P ⟨d, .slice t x lo hi none, ty, pos, af, g⟩ env h (.row ((cs.drop (l.toNat * sz)).take ((r - l).toNat * sz)) (r - l).toNat sz) := by
  intro ρ S a w p
  have h3 := p.evu hx
  simp only [R] at h3
  obtain ⟨ad, cap, h4, hlc, hn, hcm, hcl, h5⟩ := h3
  have hb := run_bounds2 (P := P) p hlo hhi h0 h1 h2 hlc
  have hrl : r.toNat - l.toNat = (r - l).toNat := by omega
  refine ⟨.slice (if cap = l.toNat then ad else ad.map (·.add (l.toNat * sz))) (r - l).toNat (cap - l.toNat), ?_, ?_⟩
  · intro w'
    simp [execOp, h4, Instr.sliceAt, Instr.slice, run_underlying (T.elemOk _ _ ht), hb, T.sizeOf he, hs, hrl]
  · have hmul : l.toNat * sz + (r - l).toNat * sz ≤ len * sz := by rw [← Nat.add_mul]; exact Nat.mul_le_mul_right _ (by omega)
    simp only [R]
    refine ⟨_, _, rfl, by omega, ?_, by omega, by rw [List.length_take, List.length_drop, hcl]; omega, ?_⟩
    · intro hnone
      by_cases hc : cap = l.toNat
      · omega
      · rw [if_neg hc] at hnone
        have : ad = none := by cases ad <;> simp at hnone ⊢
        have := hn this
        omega
    · by_cases hz : (r - l).toNat = 0
      · exact .inl hz
      · right
        rcases h5 with h5 | ⟨b, o, ys, h6, h7, ⟨cc, ee, fz, h8, h9⟩, h10⟩
        · omega
        · refine ⟨b, o + l.toNat * sz, (ys.drop (l.toNat * sz)).take ((r - l).toNat * sz), ?_, h7, ⟨cc, ee, fz, h8, fun j y hy => ?_⟩, RL_take (RL_drop h10 _) _⟩
          · rw [if_neg (by omega), h6]; simp [Addr.add_lit]
          · rw [List.getElem?_take] at hy
            split at hy
            · rw [List.getElem?_drop] at hy
              rw [Nat.add_assoc]; exact h9 _ _ hy
            · cases hy
theorem ps_sliceToE (T : Tab P) {t e sz k : Nat} {es : List (List AV)} {i : TI} {x : Operand} {hi : Option Operand} (hx : evu env x = some (.rowE es sz)) (ht : T.elem t = some e) (he : T.ti e = some i) (hs : i.size = sz) (hhi : evB env hi es.length = some (k : Int)) (h2 : k ≤ es.length) (hl : ∀ e, e ∈ es → e.length = sz) :
    PStep P ⟨d, .slice t x none hi none, ty, pos, af, g⟩ env h (.rowE (es.take k) sz) := by
  have := ps_sliceRow (env := env) (h := h) (d := d) (ty := ty) (pos := pos) (af := af) (g := g) (lo := none) (l := 0) T hx ht he hs rfl hhi (by omega) (by omega) (by omega)
  have e1 : ((k : Int) - 0).toNat = k := by omega
  rw [e1] at this
  simp only [Int.toNat_zero, Nat.zero_mul, List.drop_zero] at this
  rw [flatten_take _ hl] at this
  have e2 : k = (es.take k).length := by rw [List.length_take]; omega
  have e3 : AV.row (es.take k).flatten k sz = AV.rowE (es.take k) sz := by
    show _ = AV.row _ (es.take k).length sz
    rw [← e2]
  rw [e3] at this
  exact this
theorem ps_sliceFromE (T : Tab P) {t e sz k : Nat} {es : List (List AV)} {i : TI} {x : Operand} {lo : Option Operand} (hx : evu env x = some (.rowE es sz)) (ht : T.elem t = some e) (he : T.ti e = some i) (hs : i.size = sz) (hlo : evB env lo 0 = some (k : Int)) (h2 : k ≤ es.length) (hl : ∀ e, e ∈ es → e.length = sz) :
    PStep P ⟨d, .slice t x lo none none, ty, pos, af, g⟩ env h (.rowE (es.drop k) sz) := by
  have := ps_sliceRow (env := env) (h := h) (d := d) (ty := ty) (pos := pos) (af := af) (g := g) (hi := none) (r := (es.length : Int)) T hx ht he hs hlo rfl (by omega) (by omega) (by omega)
  have e1 : ((es.length : Int) - (k : Int)).toNat = es.length - k := by omega
  rw [e1, Int.toNat_natCast] at this
  rw [flatten_drop _ hl, flatten_take _ (fun e he => hl e (List.mem_of_mem_drop he)), List.take_of_length_le (by simp)] at this
  have e2 : es.length - k = (es.drop k).length := by simp
  have e3 : AV.row (es.drop k).flatten (es.length - k) sz = AV.rowE (es.drop k) sz := by
    show _ = AV.row _ (es.drop k).length sz
    rw [← e2]
  rw [e3] at this
  exact this
end

/-- A region at some point: what is listed, the frame, the objects; r operations are left. -/
def AnyAt (P : Program) (n : Nat × Nat) (ops : Array Oper) (listed : Array Bool) (r : Nat) (env : Env) (h : Hp) (K : Env → Hp → Prop) : Prop :=
  ∀ c ρ S a w QQ, Sim n c ρ S env h a w → (∀ e a w, QQ e a w → e = Exit.normal) → (∀ env' h' ρ' S' a' w', K env' h' → Sim n c ρ' S' env' h' a' w' → QQ Exit.normal a' w') → wpAny P .any ops QQ r listed a w

/-- The rest comes in this order and in no other. -/
def chkSeq (ops : Array Oper) : Array Bool → List Nat → Bool
  | listed, [] => match Region.ready .any ops listed with | [] => true | _ => false
  | listed, i :: r => (match Region.ready .any ops listed with | [j] => Nat.beq i j | _ => false) && chkSeq ops (listed.setIfInBounds i true) r

section
variable {P : Program} {n : Nat × Nat} {ops : Array Oper} {env : Env} {h : Hp} {K : Env → Hp → Prop} {listed : Array Bool} {r : Nat}
theorem any_p {i dd : Nat} {op : Op} {ty : TypeId} {pos : String} {af : Array Edge} {u : AV} (i' : Nat) (hi' : i' = i) (ho : ops[i]? = some ⟨some dd, op, ty, pos, af, none⟩) (hs : Region.noSelect ops = true) (hf : Region.free .any ops listed i = true) (hr : (Region.ready .any ops listed).contains i = true) (hp : PStep P ⟨some dd, op, ty, pos, af, none⟩ env h u) (hd : Nat.blt dd n.1 = true)
    (hk : AnyAt P n ops (listed.setIfInBounds i true) r ((dd, u) :: env) h K) : AnyAt P n ops listed (r + 1) env h K := by
  intro c ρ S a w QQ s hq hQ
  obtain ⟨y, h1, h2⟩ := hp ρ S a w s.pre
  refine wpAny_take ho hs hf hr (fun c a w hp => by have := hq _ _ _ hp; cases this) (.inl ⟨wanted_none rfl, h1⟩) ?_
  exact hk c ρ S (a.put (some dd) y) w QQ ⟨by rw [size_put]; exact s.size, by rw [defers_put]; exact s.defers, env_put (d := some dd) s.size hd s.env h2, s.hs, s.cm⟩ hq hQ
theorem wpAny_seq {Q : Exit → Act → World → Prop} : ∀ (order : List Nat) (rest : List Oper) (r : Nat) (listed : Array Bool) (a : Act) (w : World), chkSeq ops listed order = true → order.length ≤ r → order.map (ops[·]?) = rest.map some → wpList P ops Q rest a w → wpAny P .any ops Q r listed a w
  | [], rest, r, listed, a, w, hc, _, he, hw => by
    have : rest = [] := by cases rest with | nil => rfl | cons x xs => simp at he
    subst this
    have hr : Region.ready .any ops listed = [] := by
      unfold chkSeq at hc
      split at hc
      · assumption
      · cases hc
    exact wpAny_done hr hw r
  | i :: order, rest, r, listed, a, w, hc, hl, he, hw => by
    cases rest with
    | nil => simp at he
    | cons o rest =>
      simp only [List.map_cons, List.cons.injEq] at he
      obtain ⟨r, rfl⟩ : ∃ f, r = f + 1 := ⟨r - 1, by simp at hl; omega⟩
      simp only [chkSeq, Bool.and_eq_true] at hc
      obtain ⟨h1, h2⟩ := hc
      split at h1
      · rename_i j hj
        have := Nat.eq_of_beq_eq_true h1
        subst this
        refine wpAny_all hj (by simp) fun k hk => ?_
        simp only [List.mem_singleton] at hk
        subst hk
        have h3 : wpOp P ops Q k (wpList P ops Q rest) a w := by
          unfold wpOp
          rw [he.1]
          exact hw
        exact wpOp_mono (fun a' w' h4 => wpAny_seq order rest r _ a' w' h2 (by simpa using hl) he.2 h4) h3
      · cases h1
def pickL (ops : Array Oper) : List Nat → Option (List Oper)
  | [] => some []
  | i :: l => match ops[i]?, pickL ops l with
    | some o, some r => some (o :: r)
    | _, _ => none
theorem pickL_map : ∀ {l : List Nat} {rest : List Oper}, pickL ops l = some rest → l.map (ops[·]?) = rest.map some
  | [], rest, h => by cases h; rfl
  | i :: l, rest, h => by
    simp only [pickL] at h
    split at h
    · rename_i o r h1 h2
      cases h
      simp [h1, pickL_map h2]
    · cases h
theorem any_vc (order : List Nat) {rest : List Oper} (hc : chkSeq ops listed order = true) (hl : Nat.ble order.length r = true) (he : pickL ops order = some rest) (hv : VC P n ops rest env h K) : AnyAt P n ops listed r env h K := by
  intro c ρ S a w QQ s hq hQ
  exact wpAny_seq order rest r listed a w hc (Nat.le_of_ble_eq_true hl) (pickL_map he) (hv c ρ S a w QQ s hQ)
theorem Sim.drew {c : Ctx} {ρ : Pl} {S : Nat → Prop} {a : Act} {w : World} (s : Sim n c ρ S env h a w) : Sim n c ρ S env h a { w with drawn := w.drawn + 1 } := by
  have l0 : Later ρ ρ S S w { w with drawn := w.drawn + 1 } := ⟨fun _ _ h => h, fun _ h => h, fun _ _ => rfl, fun _ _ _ _ _ h => h⟩
  refine ⟨s.size, s.defers.later l0, fun t x hx => (s.env t x hx).later l0, ?_, s.cm⟩
  exact ⟨s.hs.dom, s.hs.rng, fun k b hb => RB.later l0 (fun _ _ _ => rfl) (s.hs.blk k b hb), s.hs.live, s.hs.inj, s.hs.stab, s.hs.ext.drew, s.hs.st0, s.hs.st1, s.hs.mle, s.hs.keep⟩
/-- A region that draws its order, step by step. -/
theorem aw_anyAt {Q : Exit → Env → Hp → Prop} {id : Nat} {l : List Oper} (hm : P.follows .mixedOrders = true) (hv : AnyAt P n l.toArray (Array.replicate l.length false) l.length env h (fun v h => Q .normal v h)) (hndf : noDef l = true := by rfl) : AW P n (.region id l.toArray true) env h Q := by
  intro c ρ S a w QQ s hQ
  have h1 := hv c ρ S a { w with drawn := w.drawn + 1 } (fun e a w => e = .normal ∧ QQ .normal a w) s.drew (fun e a w h => h.1) fun env' h' ρ' S' a' w' k s' => ⟨rfl, hQ .normal env' h' ρ' S' a' w' k s'⟩
  exact region_any_in hm hndf (by simpa using h1)
end
/-- Of a state only this is kept. -/
theorem aw_keep {P : Program} {n : Nat × Nat} {code : Code} {env : Env} {h : Hp} {Q : Exit → Env → Hp → Prop} (env' : Env) (h' : Hp) (hs : Sub n.2 env h env' h') (hv : AW P n code env' h' Q) : AW P n code env h Q := aw_sub hs hv
structure Hold (T : Prop) : Prop where
  get : T
/-- What is left is the same in several cases: it is shown once. -/
theorem cutT {G T : Prop} (h : Hold T → G) (ht : T) : G := h ⟨ht⟩
section
variable {P : Program} {env : Env} {h : Hp} {d : Option Nat} {ty : TypeId} {pos : String} {af : Array Edge} {g : Option (Nat × Bool)}
theorem fs_eqlT {t t2 : TypeId} {x y : Operand} {a b : Int} (hx : evu env x = some (.i a)) (hy : evu env y = some (.i b)) (e : a = b) : FStep P ⟨d, .binOp .eql t x y t2, ty, pos, af, g⟩ env h 0 (fun _ => .b true) (fun _ => []) := by
  have := fs_eql (P := P) (d := d) (ty := ty) (pos := pos) (af := af) (g := g) (h := h) (t := t) (t2 := t2) hx hy
  simpa [e] using this
theorem fs_eqlF {t t2 : TypeId} {x y : Operand} {a b : Int} (hx : evu env x = some (.i a)) (hy : evu env y = some (.i b)) (e : a ≠ b) : FStep P ⟨d, .binOp .eql t x y t2, ty, pos, af, g⟩ env h 0 (fun _ => .b false) (fun _ => []) := by
  have := fs_eql (P := P) (d := d) (ty := ty) (pos := pos) (af := af) (g := g) (h := h) (t := t) (t2 := t2) hx hy
  simpa [e] using this
theorem fs_neqT {t t2 : TypeId} {x y : Operand} {a b : Int} (hx : evu env x = some (.i a)) (hy : evu env y = some (.i b)) (e : a ≠ b) : FStep P ⟨d, .binOp .neq t x y t2, ty, pos, af, g⟩ env h 0 (fun _ => .b true) (fun _ => []) := by
  have := fs_neq (P := P) (d := d) (ty := ty) (pos := pos) (af := af) (g := g) (h := h) (t := t) (t2 := t2) hx hy
  simpa [e] using this
theorem fs_neqF {t t2 : TypeId} {x y : Operand} {a b : Int} (hx : evu env x = some (.i a)) (hy : evu env y = some (.i b)) (e : a = b) : FStep P ⟨d, .binOp .neq t x y t2, ty, pos, af, g⟩ env h 0 (fun _ => .b false) (fun _ => []) := by
  have := fs_neq (P := P) (d := d) (ty := ty) (pos := pos) (af := af) (g := g) (h := h) (t := t) (t2 := t2) hx hy
  simpa [e] using this
theorem fs_eqlBs {t t2 : TypeId} {x y : Operand} {a : Bool} (ht : BoolT P t) (hx : evu env x = some (.b a)) (hy : evu env y = some (.b a)) : FStep P ⟨d, .binOp .eql t x y t2, ty, pos, af, g⟩ env h 0 (fun _ => .b true) (fun _ => []) := by
  have := fs_eqlB (d := d) (ty := ty) (pos := pos) (af := af) (g := g) (h := h) (t2 := t2) ht hx hy
  simpa using this
theorem fs_neqBs {t t2 : TypeId} {x y : Operand} {a : Bool} (ht : BoolT P t) (hx : evu env x = some (.b a)) (hy : evu env y = some (.b a)) : FStep P ⟨d, .binOp .neq t x y t2, ty, pos, af, g⟩ env h 0 (fun _ => .b false) (fun _ => []) := by
  have := fs_neqB (d := d) (ty := ty) (pos := pos) (af := af) (g := g) (h := h) (t2 := t2) ht hx hy
  simpa using this
end
end Go.Ab
