/-
  A logic of values for the walk, tenth part: guards, and the steps in the form in which they are taken.
-/
import Derived.Test.YtgibgknkfcbopaaAb9
namespace Go.Ab
open Go
set_option linter.unusedVariables false
set_option linter.unusedSimpArgs false

theorem kr {α : Type} {a b : α} (h : a = b) : a = b := h
def lookN {α : Type} : List (Nat × α) → Nat → Option α
  | [], _ => none
  | (k, x) :: r, t => match Nat.beq k t with
    | true => some x
    | false => lookN r t
def lookNN {α : Type} : List ((Nat × Nat) × α) → Nat → Nat → Option α
  | [], _, _ => none
  | ((k, l), x) :: r, t, f => match Nat.beq k t, Nat.beq l f with
    | true, true => some x
    | _, _ => lookNN r t f
def AllL {κ α : Type} (p : κ → α → Prop) : List (κ × α) → Prop
  | [] => True
  | (k, x) :: r => p k x ∧ AllL p r
theorem lookN_ok {α : Type} {p : Nat → α → Prop} : ∀ {l : List (Nat × α)}, AllL p l → ∀ {t : Nat} {x : α}, lookN l t = some x → p t x
  | [], _, _, _, h => by cases h
  | (k, u) :: r, ha, t, x, h => by
    simp only [lookN] at h
    split at h
    · rename_i hb
      have := Nat.eq_of_beq_eq_true hb
      subst this
      cases h
      exact ha.1
    · exact lookN_ok ha.2 h
theorem lookNN_ok {α : Type} {p : Nat × Nat → α → Prop} : ∀ {l : List ((Nat × Nat) × α)}, AllL p l → ∀ {t f : Nat} {x : α}, lookNN l t f = some x → p (t, f) x
  | [], _, _, _, _, h => by cases h
  | ((k, k2), u) :: r, ha, t, f, x, h => by
    simp only [lookNN] at h
    split at h
    · rename_i hb hb2
      obtain rfl := Nat.eq_of_beq_eq_true hb
      obtain rfl := Nat.eq_of_beq_eq_true hb2
      cases h
      exact ha.1
    · exact lookNN_ok ha.2 h

section
variable {P : Program} {n : Nat × Nat} {ops : Array Oper} {env : Env} {h : Hp} {K : Env → Hp → Prop} {rest : List Oper}
variable {ty : TypeId} {pos : String} {af : Array Edge} {dd : Nat}

theorem yielded_val {c : Ctx} {ρ : Pl} {S : Nat → Prop} {a : Act} {w : World} (s : Sim n c ρ S env h a w) {j t : Nat} {b : Bool} (hj : (ops[j]?).bind (·.dst) = some t) (hl : look env t = some (.b b)) : yielded ops a.tmps j = some b := by
  have h1 := R_v (s.env t _ hl)
  unfold yielded
  rw [hj]
  have : a.tmps[t]? = some (.bool b) := by
    rw [Array.getD_eq_getD_getElem?] at h1
    cases h2 : a.tmps[t]? with
    | none => rw [h2] at h1; simp [undef] at h1
    | some v => rw [h2] at h1; simp at h1; rw [h1]
  simp [this]

/-- A guarded operation, by its guard. -/
theorem vc_guard {op : Op} {d : Option Nat} {j t : Nat} {want b : Bool} (hj : (ops[j]?).bind (·.dst) = some t) (hl : look env t = some (.b b))
    (ht : b = want → VC P n ops (⟨d, op, ty, pos, af, none⟩ :: rest) env h K) (hf : b = !want → VC P n ops rest (putd d (.v undef) env) h K) (hd : okd d n = true) : VC P n ops (⟨d, op, ty, pos, af, some (j, want)⟩ :: rest) env h K := by
  intro c ρ S a w Q s hQ
  have hy := yielded_val (ops := ops) s hj hl
  by_cases hb : b = want
  · have := ht hb c ρ S a w Q s hQ
    unfold wpList at this ⊢
    have hw : Region.wanted ⟨d, op, ty, pos, af, some (j, want)⟩ (yielded ops a.tmps) = true := by simp [Region.wanted, hy, hb]
    rw [if_pos hw]
    rw [if_pos (by simp [Region.wanted])] at this
    exact this
  · have hb' : b = !want := by cases b <;> cases want <;> simp at *
    unfold wpList
    have hw : Region.wanted ⟨d, op, ty, pos, af, some (j, want)⟩ (yielded ops a.tmps) = false := by simp [Region.wanted, hy]; exact hb
    rw [if_neg (by rw [hw]; exact Bool.false_ne_true)]
    exact hf hb' c ρ S _ w Q ⟨by rw [size_put]; exact s.size, by rw [defers_put]; exact s.defers, env_put s.size hd s.env (R_v_mk _), s.hs, s.cm⟩ hQ
theorem vc_gt {op : Op} {d : Option Nat} {j t : Nat} {want : Bool} (hj : (ops[j]?).bind (·.dst) = some t) (hl : look env t = some (.b want)) (ht : VC P n ops (⟨d, op, ty, pos, af, none⟩ :: rest) env h K) (hd : okd d n = true) : VC P n ops (⟨d, op, ty, pos, af, some (j, want)⟩ :: rest) env h K :=
  vc_guard hj hl (fun _ => ht) (fun e => by cases want <;> cases e) hd
theorem vc_gf {op : Op} {d : Option Nat} {j t : Nat} {want : Bool} (hj : (ops[j]?).bind (·.dst) = some t) (hl : look env t = some (.b (!want))) (hf : VC P n ops rest (putd d (.v undef) env) h K) (hd : okd d n = true) : VC P n ops (⟨d, op, ty, pos, af, some (j, want)⟩ :: rest) env h K :=
  vc_guard hj hl (fun e => by cases want <;> cases e) (fun _ => hf) hd

/-- An operation whose guard was not reached. -/
theorem vc_gu {op : Op} {d : Option Nat} {j t : Nat} {want : Bool} (hj : (ops[j]?).bind (·.dst) = some t) (hl : look env t = some (.v undef)) (hf : VC P n ops rest (putd d (.v undef) env) h K) (hd : okd d n = true) : VC P n ops (⟨d, op, ty, pos, af, some (j, want)⟩ :: rest) env h K := by
  intro c ρ S a w Q s hQ
  have hy : yielded ops a.tmps j = none := by
    have h1 := R_v (s.env t _ hl)
    unfold yielded
    rw [hj]
    rw [Array.getD_eq_getD_getElem?] at h1
    cases h2 : a.tmps[t]? with
    | none => simp [h2]
    | some v => rw [h2] at h1; simp at h1; simp [h2, h1, undef]
  unfold wpList
  have hw : Region.wanted ⟨d, op, ty, pos, af, some (j, want)⟩ (yielded ops a.tmps) = false := by simp [Region.wanted, hy]
  rw [if_neg (by rw [hw]; exact Bool.false_ne_true)]
  exact hf c ρ S _ w Q ⟨by rw [size_put]; exact s.size, by rw [defers_put]; exact s.defers, env_put s.size hd s.env (R_v_mk _), s.hs, s.cm⟩ hQ
/-- A value. -/
theorem vc_v {op : Op} {u : AV} (hs : FStep P ⟨some dd, op, ty, pos, af, none⟩ env h 0 (fun _ => u) (fun _ => [])) (hd : Nat.blt dd n.1 = true) (hk : VC P n ops rest ((dd, u) :: env) h K) : VC P n ops (⟨some dd, op, ty, pos, af, none⟩ :: rest) env h K :=
  vc_f hs rfl hd (by simpa [putd] using hk)
/-- A new object. -/
theorem vc_n {op : Op} {u : Nat → AV} {b : Nat → List AB} {m : Nat} (hs : FStep P ⟨some dd, op, ty, pos, af, none⟩ env h m u b) (hd : Nat.blt dd n.1 = true) (hk : VC P n ops rest ((dd, u h.length) :: env) (h ++ b h.length) K) : VC P n ops (⟨some dd, op, ty, pos, af, none⟩ :: rest) env h K :=
  vc_f hs rfl hd hk
/-- A call without a result that is kept. -/
theorem vc_call0 {op : Op} {u : Nat → AV} {b : Nat → List AB} {m : Nat} (hs : FStep P ⟨none, op, ty, pos, af, none⟩ env h m u b) (hk : VC P n ops rest env (h ++ b h.length) K) : VC P n ops (⟨none, op, ty, pos, af, none⟩ :: rest) env h K :=
  vc_f hs rfl rfl hk

theorem fs_addr {d : Option Nat} {g : Option (Nat × Bool)} {t t2 : TypeId} {x y : Operand} {a b : Int} (hx : evu env x = some (.i a)) (hy : evu env y = some (.i b)) (h1 : -9223372036854775808 ≤ a + b) (h2 : a + b ≤ 9223372036854775807) :
    FStep P ⟨d, .binOp .add t x y t2, ty, pos, af, g⟩ env h 0 (fun _ => .i (a + b)) (fun _ => []) := by
  have := fs_add (P := P) (h := h) (d := d) (ty := ty) (pos := pos) (af := af) (g := g) (t := t) (t2 := t2) hx hy
  rwa [IntWalk.i64_in _ (by omega)] at this
theorem fs_subr {d : Option Nat} {g : Option (Nat × Bool)} {t t2 : TypeId} {x y : Operand} {a b : Int} (hx : evu env x = some (.i a)) (hy : evu env y = some (.i b)) (h1 : -9223372036854775808 ≤ a - b) (h2 : a - b ≤ 9223372036854775807) :
    FStep P ⟨d, .binOp .sub t x y t2, ty, pos, af, g⟩ env h 0 (fun _ => .i (a - b)) (fun _ => []) := by
  have := fs_sub (P := P) (h := h) (d := d) (ty := ty) (pos := pos) (af := af) (g := g) (t := t) (t2 := t2) hx hy
  rwa [IntWalk.i64_in _ (by omega)] at this
theorem fs_mulr {d : Option Nat} {g : Option (Nat × Bool)} {t t2 : TypeId} {x y : Operand} {a b : Int} (hx : evu env x = some (.i a)) (hy : evu env y = some (.i b)) (h1 : -9223372036854775808 ≤ a * b) (h2 : a * b ≤ 9223372036854775807) :
    FStep P ⟨d, .binOp .mul t x y t2, ty, pos, af, g⟩ env h 0 (fun _ => .i (a * b)) (fun _ => []) := by
  have := fs_mul (P := P) (h := h) (d := d) (ty := ty) (pos := pos) (af := af) (g := g) (t := t) (t2 := t2) hx hy
  rwa [IntWalk.i64_in _ (by omega)] at this
theorem fs_quor {d : Option Nat} {g : Option (Nat × Bool)} {t t2 : TypeId} {x y : Operand} {a b : Int} (hx : evu env x = some (.i a)) (hy : evu env y = some (.i b)) (h0 : 0 ≤ a) (h1 : 0 < b) (h2 : a ≤ 9223372036854775807) :
    FStep P ⟨d, .binOp .quo t x y t2, ty, pos, af, g⟩ env h 0 (fun _ => .i (a / b)) (fun _ => []) := by
  have := fs_quo (P := P) (h := h) (d := d) (ty := ty) (pos := pos) (af := af) (g := g) (t := t) (t2 := t2) hx hy (by omega)
  have h3 : 0 ≤ a / b := Int.ediv_nonneg h0 (by omega)
  have h4 : a / b ≤ a := Int.ediv_le_self _ h0
  rwa [Int.tdiv_eq_ediv_of_nonneg h0, IntWalk.i64_in _ (by omega)] at this
theorem fs_remr {d : Option Nat} {g : Option (Nat × Bool)} {t t2 : TypeId} {x y : Operand} {a b : Int} (hx : evu env x = some (.i a)) (hy : evu env y = some (.i b)) (h0 : 0 ≤ a) (h1 : b ≠ 0) :
    FStep P ⟨d, .binOp .rem t x y t2, ty, pos, af, g⟩ env h 0 (fun _ => .i (a % b)) (fun _ => []) := by
  have := fs_rem (P := P) (h := h) (d := d) (ty := ty) (pos := pos) (af := af) (g := g) (t := t) (t2 := t2) hx hy h1
  rwa [Int.tmod_eq_emod_of_nonneg h0] at this
theorem fs_pickt {d : Option Nat} {g : Option (Nat × Bool)} {c x y : Operand} {u : AV} (hc : evu env c = some (.b true)) (hx : evu env x = some u) : FStep P ⟨d, .pick c x y, ty, pos, af, g⟩ env h 0 (fun _ => u) (fun _ => []) := by
  refine fs_val fun ρ S a w p => ⟨a.eval x, by simp [execOp, R_v (p.evu hc), asBool], p.evu hx⟩
theorem fs_pickf {d : Option Nat} {g : Option (Nat × Bool)} {c x y : Operand} {v : AV} (hc : evu env c = some (.b false)) (hy : evu env y = some v) : FStep P ⟨d, .pick c x y, ty, pos, af, g⟩ env h 0 (fun _ => v) (fun _ => []) := by
  refine fs_val fun ρ S a w p => ⟨a.eval y, by simp [execOp, R_v (p.evu hc), asBool], p.evu hy⟩

theorem aw_condt {x : Operand} {p q : Code} {Q : Exit → Env → Hp → Prop} (hx : ev env x = some (.b true)) (ht : AW P n p env h Q) : AW P n (.cond x p q) env h Q :=
  aw_cond hx (fun _ => ht) (fun e => by cases e)
theorem aw_condf {x : Operand} {p q : Code} {Q : Exit → Env → Hp → Prop} (hx : ev env x = some (.b false)) (hf : AW P n q env h Q) : AW P n (.cond x p q) env h Q :=
  aw_cond hx (fun e => by cases e) (fun _ => hf)
theorem aw_seq' {x y : Code} {Q : Exit → Env → Hp → Prop} (hx : AW P n x env h (nextQ (fun v h => AW P n y v h Q) Q)) : AW P n (.seq x y) env h Q := aw_seq hx

end

/-- A return that hands back no object. -/
theorem ret_plain {P : Program} {T : Tab P} {rs : List ResultVar} {res : AV} {e : Exit} {v : Env} {h : Hp} {xs : List AV} (he : e = .ret ∨ e = .normal) (h1 : retAV T v h rs = some xs) (h2 : oneOf xs = res.map (th [] h.length)) : retQ T rs 0 res [] e v h :=
  ⟨he, [], xs, h1, h2, rfl, trivial, List.nodup_nil, fun _ h => by omega⟩
end Go.Ab
