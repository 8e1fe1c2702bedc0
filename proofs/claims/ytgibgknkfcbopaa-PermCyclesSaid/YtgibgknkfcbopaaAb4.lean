/-
  A logic of values for the walk, fourth part: loads, addresses, composite values.
-/
import Derived.Test.YtgibgknkfcbopaaAb3
namespace Go.Ab
open Go
set_option linter.unusedVariables false
set_option linter.unusedSimpArgs false

section
variable {P : Program} {env : Env} {h : Hp}
variable {d : Option Nat} {ty : TypeId} {pos : String} {af : Array Edge} {g : Option (Nat × Bool)}

/-- n cells, from number off on. -/
def grab (cs : List AV) (off : Nat) : Nat → Option (List AV)
  | 0 => some []
  | n + 1 => match cs[off]?, grab cs (off + 1) n with
    | some x, some r => some (x :: r)
    | _, _ => none
theorem grab_get : ∀ {n : Nat} {cs : List AV} {off : Nat} {zs : List AV}, grab cs off n = some zs → zs.length = n ∧ ∀ j, j < n → cs[off + j]? = zs[j]?
  | 0, cs, off, zs, h => by simp only [grab, Option.some.injEq] at h; subst h; simp
  | n + 1, cs, off, zs, h => by
    simp only [grab] at h
    split at h
    · rename_i x r h1 h2
      cases h
      obtain ⟨h3, h4⟩ := grab_get h2
      refine ⟨by simp [h3], fun j hj => ?_⟩
      cases j with
      | zero => simpa using h1
      | succ j =>
        have := h4 j (by omega)
        rw [show off + (j + 1) = off + 1 + j by omega, this]; simp
    · cases h
theorem grab_all : ∀ {n : Nat} {cs : List AV} {off : Nat}, off + n = cs.length → grab cs off n = some (cs.drop off)
  | 0, cs, off, h => by simp [grab]; omega
  | n + 1, cs, off, h => by
    have hlt : off < cs.length := by omega
    simp only [grab, List.getElem?_eq_getElem hlt, grab_all (show off + 1 + n = cs.length by omega)]
    rw [List.drop_eq_getElem_cons hlt]

theorem R_none {S : Nat → Prop} {w : World} {ρ : Pl} {x : AV} {y : Value} (h : R S w x (fun _ => none) y) : R S w x ρ y :=
  R_later (fun _ h => h) (fun _ _ => rfl) x _ ρ y (fun _ _ h => by cases h) (fun _ _ _ _ h => by cases h) h

theorem run_loadCells' {w : World} {b o : Nat} : ∀ (ys : List Value) (i : Nat) (acc : Array Value), (∀ j y, ys[j]? = some y → w.cell? ⟨b, o + (i + j), none⟩ = some y) → (loadCellsFrom ⟨b, o, none⟩ i ys.length acc).run P w = .ok (acc ++ ys.toArray) w
  | [], i, acc, _ => by simp [loadCellsFrom]
  | y :: ys, i, acc, hy => by
    have h0 := hy 0 y (by simp)
    simp only [Nat.add_zero] at h0
    simp only [List.length_cons, loadCellsFrom, Sem.run_bind, Addr.add_lit, run_load, h0, Result.andThen_ok]
    rw [run_loadCells' ys (i + 1) (acc.push y) (fun j z hz => by have := hy (j + 1) z (by simpa using hz); rwa [show i + 1 + j = i + (j + 1) by omega])]
    simp

/-- What is read at a pointer. -/
def loadAV (i : TI) (cs : List AV) (off : Nat) : Option AV := match i.agg with
  | true => match grab cs off i.size with
    | some zs => some (.agg zs)
    | none => none
  | false => cs[off]?
theorem load_val (T : Tab P) {S : Nat → Prop} {w : World} {ρ : Pl} {t : Nat} {i : TI} (ht : T.ti t = some i) {x z : AV} {y : Value} {cs : List AV} {off : Nat} (hb : ∀ (k : Nat) b, h[k]? = some b → RB S w ρ (ρ k) b) (hy : R S w x ρ y) (hc : behind h x = some (cs, off)) (hz : loadAV i cs off = some z) :
    ∃ v, (Instr.loadAt t y).run P w = .ok v w ∧ R S w z ρ v := by
  obtain ⟨b, o, ρ', rfl, hcell⟩ := behind_val hb hy hc
  have up : ∀ {u : AV} {v : Value}, R S w u ρ' v → ((ρ' = fun _ => none) ∨ ρ' = ρ) → R S w u ρ v := fun {u v} hu hρ => by
    rcases hρ with rfl | rfl
    · exact R_none hu
    · exact hu
  unfold loadAV at hz
  split at hz
  · rename_i hagg
    split at hz
    · rename_i zs hg
      simp only [Option.some.injEq] at hz
      subst hz
      obtain ⟨h1, h2⟩ := grab_get hg
      have key : ∀ (l : List AV) (off : Nat), (∀ j, j < l.length → cs[off + j]? = l[j]?) → ∃ ys : List Value, ys.length = l.length ∧ (∀ j v, ys[j]? = some v → w.cell? ⟨b, o + (off + j), none⟩ = some v) ∧ RL S w l ρ ys := by
        intro l
        induction l with
        | nil => exact fun _ _ => ⟨[], rfl, fun j v hv => by simp at hv, by simp [RL]⟩
        | cons u l ih =>
          intro off hl
          obtain ⟨ys, h3, h4, h5⟩ := ih (off + 1) (fun j hj => by
            have := hl (j + 1) (by simpa using hj)
            rw [show off + 1 + j = off + (j + 1) by omega, this]; simp)
          obtain ⟨v, h6, h7, h8⟩ := hcell off u (by simpa using hl 0 (by simp))
          refine ⟨v :: ys, by simp [h3], fun j u' hu' => ?_, by simp only [RL]; exact ⟨v, ys, rfl, up h7 h8, h5⟩⟩
          cases j with
          | zero => simp at hu'; subst hu'; simpa using h6
          | succ j => have := h4 j u' (by simpa using hu'); rwa [show off + (j + 1) = off + 1 + j by omega]
      obtain ⟨ys, h3, h4, h5⟩ := key zs off (fun j hj => h2 j (by omega))
      refine ⟨.agg ys.toArray, ?_, by simp only [R]; exact ⟨_, rfl, h5⟩⟩
      have := run_loadCells' (P := P) (w := w) (b := b) (o := o + off) ys 0 #[] (fun j v hv => by have := h4 j v hv; rwa [show o + off + (0 + j) = o + (off + j) by omega])
      rw [h3, h1] at this
      simp [Instr.loadAt, Instr.sureAddr, loadVar, T.agg ht, hagg, T.sizeOf ht, loadCells, this]
    · cases hz
  · rename_i hagg
    obtain ⟨v, h6, h7, h8⟩ := hcell off z hz
    exact ⟨v, by simp [Instr.loadAt, Instr.sureAddr, loadVar, T.agg ht, hagg, h6], up h7 h8⟩

theorem fs_load (T : Tab P) {t : Nat} {i : TI} {x : Operand} {u z : AV} {cs : List AV} {off : Nat} (hx : evu env x = some u) (ht : T.ti t = some i) (hb : behind h u = some (cs, off)) (hz : loadAV i cs off = some z) :
    FStep P ⟨d, .load t x, ty, pos, af, g⟩ env h 0 (fun _ => z) (fun _ => []) := by
  refine fs_val fun ρ S a w p => ?_
  obtain ⟨v, h1, h2⟩ := load_val T ht p.blk (p.evu hx) hb hz
  exact ⟨v, by simp [execOp, h1], h2⟩

/-- The pointer n cells further on. -/
def AV.plus : AV → Nat → Option AV
  | .ptr k off, n => some (.ptr k (off + n))
  | .ep k i off sz, n => some (.ep k i (off + n) sz)
  | .pr cs off, n => some (.pr cs (off + n))
  | _, _ => none
theorem plus_val {S : Nat → Prop} {w : World} {ρ : Pl} {x z : AV} {n : Nat} {y : Value} (h : R S w x ρ y) (hz : x.plus n = some z) : ∃ b o, y = .pointer (some ⟨b, o, none⟩) ∧ R S w z ρ (.pointer (some ⟨b, o + n, none⟩)) := by
  cases x <;> simp only [AV.plus, Option.some.injEq] at hz <;> try (cases hz; done)
  all_goals subst hz
  · simp only [R] at h ⊢
    obtain ⟨b, o, h1, rfl⟩ := h
    exact ⟨b, _, rfl, b, o, h1, by rw [Nat.add_assoc]⟩
  · simp only [R] at h ⊢
    obtain ⟨b, o, h1, rfl⟩ := h
    exact ⟨b, _, rfl, b, o, h1, by rw [Nat.add_assoc, Nat.add_assoc]⟩
  · simp only [R] at h ⊢
    obtain ⟨b, o, ys, rfl, h2, h3, h4⟩ := h
    exact ⟨b, _, rfl, b, o, ys, by rw [Nat.add_assoc], h2, h3, h4⟩

theorem fs_fieldAddr (T : Tab P) {t f n : Nat} {x : Operand} {u z : AV} (hx : evu env x = some u) (hf : T.field t f = some n) (hz : u.plus n = some z) :
    FStep P ⟨d, .fieldAddr t x f, ty, pos, af, g⟩ env h 0 (fun _ => z) (fun _ => []) := by
  refine fs_val fun ρ S a w p => ?_
  obtain ⟨b, o, h1, h2⟩ := plus_val (p.evu hx) hz
  obtain ⟨fs, fd, inf, h3, h4, h5, h6, h7⟩ := T.fieldOk t f n hf
  exact ⟨_, by simp [execOp, h1, Instr.fieldAt, run_underlying h3, h4, Instr.sureAddr, fieldPlace, Go.sizeOf, typeInfo, h6, h7, Addr.add_lit, h5], h2⟩

theorem fs_nilCheck {x : Operand} {u z : AV} (hx : evu env x = some u) (hz : u.plus 0 = some z) : FStep P ⟨d, .nilCheck x, ty, pos, af, g⟩ env h 0 (fun _ => u) (fun _ => []) := by
  refine fs_val fun ρ S a w p => ?_
  obtain ⟨b, o, h1, h2⟩ := plus_val (p.evu hx) hz
  have h3 := p.evu hx
  rw [h1] at h3
  exact ⟨_, by simp [execOp, h1], h3⟩

/-- A field of a struct, a part of an array, by value. -/
theorem fs_extract {x : Operand} {vs : List AV} {j : Nat} {z : AV} (hx : evu env x = some (.tup vs)) (hz : vs[j]? = some z) : FStep P ⟨d, .extract x j, ty, pos, af, g⟩ env h 0 (fun _ => z) (fun _ => []) := by
  refine fs_val fun ρ S a w p => ?_
  have h1 := p.evu hx
  simp only [R] at h1
  obtain ⟨ys, h2, h3⟩ := h1
  obtain ⟨v, h4, h5⟩ := RL_get h3 j z hz
  refine ⟨v, ?_, h5⟩
  simp only [Array.getElem?_toList] at h4
  simp [execOp, h2, Instr.extract, h4]

/-- An element of an array behind a pointer. -/
theorem fs_indexArr (T : Tab P) {t n e : Nat} {i : TI} {x y : Operand} {u z : AV} {k : IntKind} {j : Int} (hx : evu env x = some u) (hy : evu env y = some (.v (.int k j))) (ha : T.arr t = some (n, e)) (he : T.ti e = some i) (h0 : 0 ≤ j) (h1 : j < n) (hz : u.plus (j.toNat * i.size) = some z) :
    FStep P ⟨d, .indexAddr t x y, ty, pos, af, g⟩ env h 0 (fun _ => z) (fun _ => []) := by
  refine fs_val fun ρ S a w p => ?_
  obtain ⟨b, o, h2, h3⟩ := plus_val (p.evu hx) hz
  have h4 := R_v (p.evu hy)
  exact ⟨_, by simp [execOp, h2, h4, Instr.indexAt, asIntOf, run_underlying (T.arrOk _ _ _ ha), Instr.sureAddr, h0, h1, T.sizeOf he, Addr.add_lit], h3⟩

/-- An element of a slice of one's own. -/
theorem fs_indexOwn (T : Tab P) {t e k off len sz : Nat} {i : TI} {x y : Operand} {kk : IntKind} {j : Int} (hx : evu env x = some (.sl k off len sz)) (hy : evu env y = some (.v (.int kk j))) (ha : T.elem t = some e) (he : T.ti e = some i) (hs : i.size = sz) (h0 : 0 ≤ j) (h1 : j < len) :
    FStep P ⟨d, .indexAddr t x y, ty, pos, af, g⟩ env h 0 (fun _ => .ep k (off + j.toNat) 0 sz) (fun _ => []) := by
  refine fs_val fun ρ S a w p => ?_
  have h2 := p.evu hx
  simp only [R] at h2
  obtain ⟨ad, cap, h3, hcm, h4⟩ := h2
  rcases h4 with ⟨h4, _⟩ | ⟨b, o, h5, h6, h7, h8⟩
  · omega
  have h9 := R_v (p.evu hy)
  subst h6
  refine ⟨.pointer (some ⟨b, o + off * sz + j.toNat * sz, none⟩), by simp [execOp, h3, h9, Instr.indexAt, asIntOf, run_underlying (T.elemOk _ _ ha), h0, h1, T.sizeOf he, Addr.add_lit, hs], ?_⟩
  simp only [R]
  exact ⟨b, o, h5, by rw [Nat.add_mul]; simp only [Nat.add_zero, Nat.add_assoc]⟩

/-- An element of a slice over memory that no longer changes. -/
theorem fs_indexRow (T : Tab P) {t e len sz : Nat} {cs : List AV} {i : TI} {x y : Operand} {kk : IntKind} {j : Int} (hx : evu env x = some (.row cs len sz)) (hy : evu env y = some (.v (.int kk j))) (ha : T.elem t = some e) (he : T.ti e = some i) (hs : i.size = sz) (h0 : 0 ≤ j) (h1 : j < len) :
    FStep P ⟨d, .indexAddr t x y, ty, pos, af, g⟩ env h 0 (fun _ => .pr cs (j.toNat * sz)) (fun _ => []) := by
  refine fs_val fun ρ S a w p => ?_
  have h2 := p.evu hx
  simp only [R] at h2
  obtain ⟨ad, cap, h3, _, _, _, _, h4⟩ := h2
  rcases h4 with h4 | ⟨b, o, ys, h5, h6, h7, h8⟩
  · omega
  have h9 := R_v (p.evu hy)
  subst h5
  refine ⟨.pointer (some ⟨b, o + j.toNat * sz, none⟩), by simp [execOp, h3, h9, Instr.indexAt, asIntOf, run_underlying (T.elemOk _ _ ha), h0, h1, T.sizeOf he, Addr.add_lit, hs], ?_⟩
  simp only [R]
  exact ⟨b, o, ys, rfl, h6, h7, h8⟩

/-- The pointer to one element's cells, out of one to all cells. -/
theorem pr_elem {S : Nat → Prop} {w : World} {ρ : Pl} {es : List (List AV)} {sz j : Nat} {c : List AV} {y : Value} (hl : ∀ e, e ∈ es → e.length = sz) (hc : es[j]? = some c) (h : R S w (.pr es.flatten (j * sz)) ρ y) : R S w (.pr c 0) ρ y := by
  simp only [R] at h ⊢
  obtain ⟨b, o, ys, h1, h2, ⟨cc, e, fz, h3, h4⟩, h5⟩ := h
  refine ⟨b, o + j * sz, (ys.drop (j * sz)).take sz, by simpa using h1, h2, ⟨cc, e, fz, h3, fun i y hy => ?_⟩, ?_⟩
  · rw [List.getElem?_take] at hy
    split at hy
    · rw [List.getElem?_drop] at hy
      rw [Nat.add_assoc]; exact h4 _ _ hy
    · cases hy
  · have := RL_take (RL_drop h5 (j * sz)) sz
    have hce : (es.flatten.drop (j * sz)).take sz = c := by
      apply List.ext_getElem?
      intro i
      rw [List.getElem?_take]
      split
      · rename_i hi; rw [List.getElem?_drop, flatten_at hl hc i hi]
      · have := hl c (List.mem_of_getElem? hc)
        rw [List.getElem?_eq_none (by omega)]
    rwa [hce] at this

theorem fs_indexRowE (T : Tab P) {t e sz : Nat} {es : List (List AV)} {c : List AV} {i : TI} {x y : Operand} {kk : IntKind} {j : Int} (hx : evu env x = some (.rowE es sz)) (hy : evu env y = some (.v (.int kk j))) (ha : T.elem t = some e) (he : T.ti e = some i) (hs : i.size = sz) (h0 : 0 ≤ j) (hl : ∀ e, e ∈ es → e.length = sz) (hc : es[j.toNat]? = some c) :
    FStep P ⟨d, .indexAddr t x y, ty, pos, af, g⟩ env h 0 (fun _ => .pr c 0) (fun _ => []) := by
  intro ρ S a w p q hq K Q hk
  have hlt : j < es.length := by have := (List.getElem?_eq_some_iff.1 hc).1; omega
  refine fs_indexRow T hx hy ha he hs h0 hlt ρ S a w p q hq K Q fun y ρ' S' w' po => hk y ρ' S' w' ⟨po.ext, po.len, po.keep, po.st, po.stn, po.fresh, po.inj, pr_elem hl hc po.val, po.blk⟩

theorem fs_lenOwn (T : Tab P) {t e k off len sz : Nat} {x : Operand} (hx : evu env x = some (.sl k off len sz)) (ha : T.elem t = some e) :
    FStep P ⟨d, .call { callee := .builtin .len, args := #[x], argTypes := #[t] }, ty, pos, af, g⟩ env h 0 (fun _ => .i len) (fun _ => []) := by
  refine fs_val fun ρ S a w p => ⟨.int .i64 len, ?_, R_v_mk _⟩
  have h2 := p.evu hx
  simp only [R] at h2
  obtain ⟨ad, cap, h3, _⟩ := h2
  simp [execOp, resolve, invoke, builtin, h3, Builtin.len_, run_underlying (T.elemOk _ _ ha), goInt]
theorem fs_lenRow (T : Tab P) {t e len sz : Nat} {cs : List AV} {x : Operand} (hx : evu env x = some (.row cs len sz)) (ha : T.elem t = some e) :
    FStep P ⟨d, .call { callee := .builtin .len, args := #[x], argTypes := #[t] }, ty, pos, af, g⟩ env h 0 (fun _ => .i len) (fun _ => []) := by
  refine fs_val fun ρ S a w p => ⟨.int .i64 len, ?_, R_v_mk _⟩
  have h2 := p.evu hx
  simp only [R] at h2
  obtain ⟨ad, cap, h3, _⟩ := h2
  simp [execOp, resolve, invoke, builtin, h3, Builtin.len_, run_underlying (T.elemOk _ _ ha), goInt]
theorem fs_lenNil (T : Tab P) {t e : Nat} {x : Operand} (hx : evu env x = some .nils) (ha : T.elem t = some e) :
    FStep P ⟨d, .call { callee := .builtin .len, args := #[x], argTypes := #[t] }, ty, pos, af, g⟩ env h 0 (fun _ => .i 0) (fun _ => []) := by
  refine fs_val fun ρ S a w p => ⟨.int .i64 0, ?_, R_v_mk _⟩
  have h2 := R_v (p.evu hx)
  simp [execOp, resolve, invoke, builtin, h2, Builtin.len_, run_underlying (T.elemOk _ _ ha), goInt]
theorem fs_max {t1 t2 : Nat} {x y : Operand} {k : IntKind} {a b : Int} (hx : evu env x = some (.v (.int k a))) (hy : evu env y = some (.v (.int k b))) :
    FStep P ⟨d, .call { callee := .builtin .max, args := #[x, y], argTypes := #[t1, t2] }, ty, pos, af, g⟩ env h 0 (fun _ => .v (.int k (max a b))) (fun _ => []) := by
  refine fs_val fun ρ S ac w p => ⟨.int k (max a b), ?_, R_v_mk _⟩
  have h1 := R_v (p.evu hx)
  have h2 := R_v (p.evu hy)
  have e : (if a < b then b else a) = max a b := by split <;> omega
  simp [execOp, resolve, invoke, builtin, h1, h2, run_max_int2, e]
theorem fs_min {t1 t2 : Nat} {x y : Operand} {k : IntKind} {a b : Int} (hx : evu env x = some (.v (.int k a))) (hy : evu env y = some (.v (.int k b))) :
    FStep P ⟨d, .call { callee := .builtin .min, args := #[x, y], argTypes := #[t1, t2] }, ty, pos, af, g⟩ env h 0 (fun _ => .v (.int k (min a b))) (fun _ => []) := by
  refine fs_val fun ρ S ac w p => ⟨.int k (min a b), ?_, R_v_mk _⟩
  have h1 := R_v (p.evu hx)
  have h2 := R_v (p.evu hy)
  have e : (if b < a then b else a) = min a b := by split <;> omega
  simp [execOp, resolve, invoke, builtin, h1, h2, run_min_int2, e]

end
end Go.Ab
