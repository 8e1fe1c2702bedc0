/-
  A logic of values for the walk, eighteenth part: min and max of several, an empty slice with no room, what is not looked at any more.
-/
import Derived.Test.YtgibgknkfcbopaaAb17
import Derived.Lib.SliceRun
namespace Go.Ab
open Go
set_option linter.unusedVariables false
set_option linter.unusedSimpArgs false

section
variable {P : Program} {env : Env} {h : Hp}
variable {d : Option Nat} {ty : TypeId} {pos : String} {af : Array Edge} {g : Option (Nat × Bool)}
theorem fs_min4 {ts : Array TypeId} {x y z u : Operand} {k : IntKind} {a b c e : Int} (hx : evu env x = some (.v (.int k a))) (hy : evu env y = some (.v (.int k b))) (hz : evu env z = some (.v (.int k c))) (hu : evu env u = some (.v (.int k e))) :
    FStep P ⟨d, .call { callee := .builtin .min, args := #[x, y, z, u], argTypes := ts }, ty, pos, af, g⟩ env h 0 (fun _ => .v (.int k (min (min (min a b) c) e))) (fun _ => []) := by
  refine fs_val fun ρ S ac w p => ⟨.int k (min (min (min a b) c) e), ?_, R_v_mk _⟩
  have h1 := R_v (p.evu hx)
  have h2 := R_v (p.evu hy)
  have h3 := R_v (p.evu hz)
  have h4 := R_v (p.evu hu)
  have m2 : ∀ a b : Int, (if b < a then b else a) = min a b := fun a b => by split <;> omega
  have e2 := fun (a b : Int) => run_min_int2 (P := P) (w := w) #[] 0 k k a b
  simp only [Builtin.min_, List.foldlM_cons, List.foldlM_nil] at e2
  simp only [bind_pure] at e2
  simp [execOp, resolve, invoke, builtin, h1, h2, h3, h4, Builtin.min_, e2, m2]
theorem fs_max4 {ts : Array TypeId} {x y z u : Operand} {k : IntKind} {a b c e : Int} (hx : evu env x = some (.v (.int k a))) (hy : evu env y = some (.v (.int k b))) (hz : evu env z = some (.v (.int k c))) (hu : evu env u = some (.v (.int k e))) :
    FStep P ⟨d, .call { callee := .builtin .max, args := #[x, y, z, u], argTypes := ts }, ty, pos, af, g⟩ env h 0 (fun _ => .v (.int k (max (max (max a b) c) e))) (fun _ => []) := by
  refine fs_val fun ρ S ac w p => ⟨.int k (max (max (max a b) c) e), ?_, R_v_mk _⟩
  have h1 := R_v (p.evu hx)
  have h2 := R_v (p.evu hy)
  have h3 := R_v (p.evu hz)
  have h4 := R_v (p.evu hu)
  have m2 : ∀ a b : Int, (if a < b then b else a) = max a b := fun a b => by split <;> omega
  have e2 := fun (a b : Int) => run_max_int2 (P := P) (w := w) #[] 0 k k a b
  simp only [Builtin.max_, List.foldlM_cons, List.foldlM_nil] at e2
  simp only [bind_pure] at e2
  simp [execOp, resolve, invoke, builtin, h1, h2, h3, h4, Builtin.max_, e2, m2]

/-- A slice that is not empty is not nil. -/
theorem fs_eqlNilRow {t t2 e len sz : Nat} {cs : List AV} {x y : Operand} (T : Tab P) (hx : evu env x = some (.row cs len sz)) (hy : evu env y = some .nils) (ht : T.elem t = some e) (hl : 0 < len) :
    FStep P ⟨d, .binOp .eql t x y t2, ty, pos, af, g⟩ env h 0 (fun _ => .b false) (fun _ => []) := by
  refine fs_val fun ρ S a w p => ⟨.bool false, ?_, R_v_mk _⟩
  have h3 := p.evu hx
  simp only [R] at h3
  obtain ⟨ad, cap, h4, hlc, hn, _⟩ := h3
  have h5 := R_v (p.evu hy)
  cases ad with
  | none => have := hn rfl; omega
  | some ad =>
    have hg : (eqGuard .eql t x y (.slice (some ad) len cap) (.slice none 0 0)).run P w = .ok () w := rfl
    have he := Lib.run_eql_slice_nil w t e (some ad) len cap 0 0 (T.elemOk _ _ ht)
    simp [execOp, h4, h5, hg, he]

/-- 's[:0:0]' of a slice that is only read: an empty slice of one's own. -/
theorem fs_slice00 (T : Tab P) {t e len sz : Nat} {cs : List AV} {i : TI} {x hi mx : Operand} {k k' : IntKind} (hx : evu env x = some (.row cs len sz)) (ht : T.elem t = some e) (he : T.ti e = some i) (hs : 0 < sz) (hh : evu env hi = some (.v (.int k 0))) (hm : evu env mx = some (.v (.int k' 0))) :
    FStep P ⟨d, .slice t x none (some hi) (some mx), ty, pos, af, g⟩ env h 1 (fun p => .sl p 0 0 sz) (fun _ => [.arr [] sz]) := by
  intro ρ S a w p q hq K Q hk
  have h3 := p.evu hx
  simp only [R] at h3
  obtain ⟨ad, cap, h4, hlc, _⟩ := h3
  have h5 := R_v (p.evu hh)
  have h6 := R_v (p.evu hm)
  have hq0 : ρ q = none := by simpa using hq 0 (by omega)
  unfold Oper.wp
  have hrun : (execOp a.eval ⟨d, .slice t x none (some hi) (some mx), ty, pos, af, g⟩).run P w = .ok (.value (.slice ad 0 0)) w := by
    simp [execOp, h4, h5, h6, Instr.sliceAt, Instr.slice, run_underlying (T.elemOk _ _ ht), Instr.sliceBounds, Instr.sliceBound, asIntOf, T.sizeOf he]
  rw [hrun]
  refine hk _ ρ S w ⟨Ext.refl _ _, rfl, fun _ _ => rfl, fun _ h => h, fun _ h => .inl h, fun k p hk1 hk2 hr => ?_, fun k k' p p' a1 a2 a3 a4 hr hr' e => by omega, ?_, fun j b hb => ?_⟩
  · have : k = q := by omega
    subst this
    rw [hq0] at hr; cases hr
  · simp only [R]; exact ⟨ad, 0, rfl, Nat.zero_le _, .inl ⟨trivial, rfl⟩⟩
  · cases j with
    | zero =>
      simp at hb
      subst hb
      simp only [RB]; exact ⟨fun e he => by simp at he, hs, .inl trivial⟩
    | succ j => simp at hb
end

section
variable {P : Program} {n : Nat × Nat} {ops : Array Oper} {env : Env} {h : Hp} {Q : Exit → Env → Hp → Prop} {code : Code}
/-- What is not looked at any more. -/
theorem aw_any (t : Nat) (hv : AW P n code ((t, .any) :: env) h Q) : AW P n code env h Q := by
  intro c ρ S a w QQ s hQ
  refine hv c ρ S a w QQ ⟨s.size, s.defers, fun t' x hx => ?_, s.hs, s.cm⟩ hQ
  rw [look_cons] at hx
  split at hx
  · cases hx; simp [R]
  · exact s.env t' x hx
end

/-! ### Lists that are not known element by element -/
theorem mapL_idfs (θ : Nat → Nat) : ∀ {es : List (List AV)}, (∀ e, e ∈ es → AV.idfL e = true) → es.map (AV.mapL θ) = es
  | [], _ => rfl
  | e :: es, h => by simp only [List.map_cons]; rw [mapL_idf θ e (h e (by simp)), mapL_idfs θ fun q hq => h q (by simp [hq])]
theorem sub_arr {h : Hp} {i sz : Nat} {θ : Nat → Nat} {es es' : List (List AV)} (hk : h[i]? = some (.arr es' sz)) (he : es' = es) (hi : ∀ e, e ∈ es → AV.idfL e = true) : h[i]? = some ((AB.arr es sz).map θ) := by
  subst he
  rw [hk]
  simp only [AB.map, mapL_idfs θ hi]
theorem upd_ep {h : Hp} {k i off sz : Nat} {es : List (List AV)} {c xs : List AV} (hk : h[k]? = some (.arr es sz)) (hc : es[i]? = some c) (hl : Nat.ble (off + xs.length) sz = true) : upd h (.ep k i off sz) xs = some (h.set k (.arr (es.set i (putAt c off xs)) sz)) := by
  simp only [upd, hk, hc, Nat.beq_refl, hl]
theorem behind_ep {h : Hp} {k i off sz : Nat} {es : List (List AV)} {c : List AV} (hk : h[k]? = some (.arr es sz)) (hc : es[i]? = some c) : behind h (.ep k i off sz) = some (c, off) := by
  simp only [behind, hk, hc, Nat.beq_refl]
/-- Of three results the first two are not looked at. -/
theorem acall_any3 {P : Program} {f : FuncId} {args : List AV} {x y z : AV} {hout : Hp} (hz : z.idf = true) (h : ACall P f args [] (.tup [x, y, z]) hout) : ACall P f args [] (.tup [.any, .any, z]) [] := by
  refine ⟨h.1, fun ρ S w vs hs ha => (h.2 ρ S w vs hs ha).mono ?_⟩
  rintro e w' ⟨u, ρ', S', rfl, h2, h3⟩
  simp only [R, RL] at h3
  obtain ⟨ys, rfl, y1, z1, e1, _, y2, z2, e2, _, y3, z3, e3, h5, e4⟩ := h3
  refine ⟨_, _, _, rfl, h2.none rfl, ?_⟩
  simp only [R, RL]
  exact ⟨ys, rfl, y1, z1, e1, trivial, y2, z2, e2, trivial, y3, z3, e3, R_idf ρ' _ _ _ hz h5, e4⟩
end Go.Ab
