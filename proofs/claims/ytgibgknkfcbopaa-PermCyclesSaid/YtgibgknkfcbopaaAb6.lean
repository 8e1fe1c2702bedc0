/-
  A logic of values for the walk, sixth part: slice literals, slicing, stores.
-/
import Derived.Test.YtgibgknkfcbopaaAb5
namespace Go.Ab
open Go
set_option linter.unusedVariables false
set_option linter.unusedSimpArgs false

section
variable {P : Program} {env : Env} {h : Hp}
variable {d : Option Nat} {ty : TypeId} {pos : String} {af : Array Edge} {g : Option (Nat × Bool)}

theorem putAt_all {α : Type} (xs cs : List α) (hl : xs.length = cs.length) : putAt cs 0 xs = xs := by
  rw [putAt_eq xs cs 0 (by omega)]
  simp [hl]

theorem fillE_flat {sz : Nat} : ∀ {as : List (Nat × List AV)} {es zs : List (List AV)}, (∀ e, e ∈ es → e.length = sz) → fillE es as = some zs → fillA (fun j => some (j * sz, sz)) es.flatten as = some zs.flatten ∧ (∀ e, e ∈ zs → e.length = sz) ∧ zs.length = es.length
  | [], es, zs, hl, hf => by
    simp only [fillE, Option.some.injEq] at hf
    subst hf
    exact ⟨rfl, hl, rfl⟩
  | (i, xs) :: rest, es, zs, hl, hf => by
    simp only [fillE] at hf
    split at hf
    · rename_i e he
      split at hf
      · rename_i hb
        have e1 := Nat.eq_of_beq_eq_true hb
        have e2 := hl e (List.mem_of_getElem? he)
        have hlt : i < es.length := (List.getElem?_eq_some_iff.1 he).1
        have hl' : ∀ e, e ∈ es.set i xs → e.length = sz := fun e he' => by
          rcases List.mem_or_eq_of_mem_set he' with h1 | h1
          · exact hl e h1
          · subst h1; omega
        obtain ⟨h1, h2, h3⟩ := fillE_flat hl' hf
        refine ⟨?_, h2, by rw [h3]; simp⟩
        simp only [fillA]
        have hb1 : Nat.beq xs.length sz = true := by rw [← e2, ← e1]; exact Nat.beq_refl _
        have hb2 : Nat.ble (i * sz + sz) es.flatten.length = true := by
          refine Nat.ble_eq_true_of_le ?_
          rw [length_flatten_of hl]
          calc i * sz + sz = (i + 1) * sz := by rw [Nat.add_mul]; omega
            _ ≤ es.length * sz := Nat.mul_le_mul_right _ hlt
        rw [hb1, hb2]
        simp only
        have hput := putAt_flatten hl he (off := 0) (xs := xs) (by omega)
        rw [putAt_all xs e e1, Nat.add_zero] at hput
        rw [hput]
        exact h1
      · cases hf
    · cases hf

theorem fs_buildSlice (T : Tab P) {t e len : Nat} {i : TI} {l : List (Nat × Operand)} {as : List (Nat × List AV)} {es : List (List AV)} (ht : T.elem t = some e) (he : T.ti e = some i) (hs : 0 < i.size) (hn : len * i.size ≤ 16777216) (hl : evParts env l = some as) (hz : fillE (List.replicate len (i.zero.map .v)) as = some es) (hes : es.length = len) :
    FStep P ⟨d, .buildSlice t len l.toArray, ty, pos, af, g⟩ env h 1 (fun p => .sl p 0 len i.size) (fun _ => [.arr es i.size]) := by
  obtain ⟨inf, z, a1, a2, a3, a4, a5, a6, a7⟩ := T.tiOk e i he
  have hrep : ∀ e, e ∈ List.replicate len (i.zero.map AV.v) → e.length = i.size := fun e he => by rw [List.eq_of_mem_replicate he]; simp [a6]
  obtain ⟨f1, f2, f3⟩ := fillE_flat hrep hz
  have key := fs_newSlice (P := P) (env := env) (h := h) (o := ⟨d, .buildSlice t len l.toArray, ty, pos, af, g⟩) (es := es) (sz := i.size) hs f2 fun ρ S a w p => by
    have hcells : RL S w (List.replicate len (i.zero.map AV.v)).flatten ρ (madeCells z.cells (len * i.size)).toList := by
      have h1 : (List.replicate len (i.zero.map AV.v)).flatten = ((List.replicate len i.zero).flatten).map AV.v := by
        rw [List.map_flatten, List.map_replicate]
      have h2 : (madeCells z.cells (len * i.size)).toList = (List.replicate len i.zero).flatten := by
        apply List.ext_getElem?
        intro j
        by_cases hj : j < len * i.size
        · have hlen : (List.replicate len i.zero).flatten.length = len * i.size := by
            rw [length_flatten_of (sz := i.size) (fun e he => by rw [List.eq_of_mem_replicate he]; exact a6)]; simp
          obtain ⟨y, hy⟩ : ∃ y, (List.replicate len i.zero).flatten[j]? = some y := ⟨_, List.getElem?_eq_getElem (by rw [hlen]; exact hj)⟩
          rw [hy]
          obtain ⟨_, c2⟩ := flatten_replicate_get i.zero len j y hy
          have := madeCells_get (z := z.cells) (n := len * i.size) (j := j) (y := y) hj (by
            have hzs : z.cells.size = i.zero.length := by rw [← a5]; simp
            rw [hzs, a5]; exact c2)
          simpa using this
        · rw [List.getElem?_eq_none (by simp [size_madeCells]; omega), List.getElem?_eq_none]
          rw [length_flatten_of (sz := i.size) (fun e he => by rw [List.eq_of_mem_replicate he]; exact a6)]
          simp; omega
      rw [h1, h2]
      exact RL_vs _
    obtain ⟨us, u1, u2⟩ := fill_val (parts_val p hl) hcells f1
    have ul := RL_length u2
    refine ⟨us, e, len, false, us.toList, ?_, by omega, ?_, ?_, fun j y hy => by simpa using hy, u2⟩
    · have hn' : ¬ (len * i.size > 2 ^ 24) := by omega
      have hparts : (l.toArray.map fun (i, x) => (i, a.eval x)).toList = l.map fun (i, x) => (i, a.eval x) := by simp
      have hmade : ∀ zz : Array Value, (len * i.size = 0 ∨ zz = z.cells) → ((Array.range (len * i.size)).map fun x => zz[x % zz.size]!) = madeCells z.cells (len * i.size) := fun zz hzz => by
        rcases hzz with h0 | h0
        · simp [h0, madeCells]
        · rw [h0]; rfl
      by_cases h0 : len * i.size = 0
      · have hm := hmade #[] (.inl h0)
        simp only [execOp, Instr.buildSlice, Sem.run_bind, run_underlying (T.elemOk _ _ ht), Result.andThen_ok, Go.sizeOf, typeInfo, run_program, a1, Sem.run_pure, a2, hn', if_false]
        rw [if_pos h0]
        simp only [Sem.run_bind, Sem.run_pure, Result.andThen_ok]
        rw [hm, hparts, u1]
        simp [newRow, hes]
      · have hm := hmade z.cells (.inr rfl)
        simp only [execOp, Instr.buildSlice, Sem.run_bind, run_underlying (T.elemOk _ _ ht), Result.andThen_ok, Go.sizeOf, typeInfo, run_program, a1, Sem.run_pure, a2, hn', if_false]
        rw [if_neg h0]
        simp only [Sem.run_bind, zeroValue, typeInfo, run_program, a1, a4, Sem.run_pure, Result.andThen_ok]
        rw [hm, hparts, u1]
        simp [newRow, hes]
    · have : len ≤ len * i.size := Nat.le_mul_of_pos_right _ hs
      simp only [maxLen]; omega
    · simp only [Array.length_toList] at ul
      rw [ul, length_flatten_of f2, hes]; exact Nat.le_refl _
  rw [hes] at key
  exact key

/-! ### Slicing -/
def evB (env : Env) (o : Option Operand) (dflt : Int) : Option Int := match o with
  | none => some dflt
  | some x => match evu env x with
    | some (.v (.int _ j)) => some j
    | _ => none
theorem evB_val {ρ : Pl} {S : Nat → Prop} {a : Act} {w : World} (p : Pre ρ S env h a w) {x : Operand} {dflt j : Int} (hj : evB env (some x) dflt = some j) : ∃ k, a.eval x = .int k j := by
  simp only [evB] at hj
  split at hj
  · rename_i k j' hx
    cases hj
    exact ⟨k, R_v (p.evu hx)⟩
  · cases hj

theorem run_bounds {ρ : Pl} {S : Nat → Prop} {a : Act} {w : World} (p : Pre ρ S env h a w) {lo hi : Option Operand} {l r : Int} {len cap : Nat} (hlo : evB env lo 0 = some l) (hhi : evB env hi len = some r) (h0 : 0 ≤ l) (h1 : l ≤ r) (h2 : r ≤ len) (hc : len ≤ cap) :
    (Instr.sliceBounds true len cap (lo.map a.eval) (hi.map a.eval) none).run P w = .ok (l.toNat, r.toNat, cap) w := by
  have hr : ∀ k code, (Instr.sliceBound (.int k r) cap code).run P w = .ok r.toNat w := fun k code => by
    simp only [Instr.sliceBound, asIntOf, Sem.run_bind, Sem.run_pure, Result.andThen_ok]
    rw [if_pos ⟨by omega, by omega⟩]; rfl
  have hl : ∀ k code, (Instr.sliceBound (.int k l) r.toNat code).run P w = .ok l.toNat w := fun k code => by
    simp only [Instr.sliceBound, asIntOf, Sem.run_bind, Sem.run_pure, Result.andThen_ok]
    rw [if_pos ⟨by omega, by omega⟩]; rfl
  cases lo with
  | none =>
    simp only [evB, Option.some.injEq] at hlo
    subst hlo
    cases hi with
    | none =>
      simp only [evB, Option.some.injEq] at hhi
      subst hhi
      simp [Instr.sliceBounds]
    | some x =>
      obtain ⟨k, hk⟩ := evB_val p hhi
      simp [Instr.sliceBounds, hk, hr]
  | some y =>
    obtain ⟨k', hk'⟩ := evB_val p hlo
    cases hi with
    | none =>
      simp only [evB, Option.some.injEq] at hhi
      subst hhi
      have := hl k'
      simp only [Int.toNat_natCast] at this
      simp [Instr.sliceBounds, hk', this]
    | some x =>
      obtain ⟨k, hk⟩ := evB_val p hhi
      simp [Instr.sliceBounds, hk, hk', hr, hl]

theorem fs_sliceOwn (T : Tab P) {t e k off len sz : Nat} {i : TI} {x : Operand} {lo hi : Option Operand} {l r : Int} (hx : evu env x = some (.sl k off len sz)) (ht : T.elem t = some e) (he : T.ti e = some i) (hs : i.size = sz) (hlo : evB env lo 0 = some l) (hhi : evB env hi len = some r) (h0 : 0 ≤ l) (h1 : l ≤ r) (h2 : r ≤ len) :
    FStep P ⟨d, .slice t x lo hi none, ty, pos, af, g⟩ env h 0 (fun _ => .sl k (off + l.toNat) (r - l).toNat sz) (fun _ => []) := by
  refine fs_val fun ρ S a w p => ?_
  have h3 := p.evu hx
  simp only [R] at h3
  obtain ⟨ad, cap, h4, hcm, h5⟩ := h3
  have hlc : len ≤ cap := by rcases h5 with ⟨h5, h6⟩ | ⟨b, o, _, _, h7, _⟩ <;> omega
  have hb := run_bounds (P := P) (w := w) p hlo hhi h0 h1 h2 hlc
  have hrl : r.toNat - l.toNat = (r - l).toNat := by omega
  refine ⟨.slice (if cap = l.toNat then ad else ad.map (·.add (l.toNat * sz))) (r - l).toNat (cap - l.toNat), ?_, ?_⟩
  · simp [execOp, h4, Instr.sliceAt, Instr.slice, run_underlying (T.elemOk _ _ ht), hb, T.sizeOf he, hs, hrl]
  · simp only [R]
    refine ⟨_, _, rfl, by omega, ?_⟩
    rcases h5 with ⟨h5, h6⟩ | ⟨b, o, h6, h7, h8, h9⟩
    · exact .inl ⟨by omega, by omega⟩
    · by_cases hcl : cap = l.toNat
      · exact .inl ⟨by omega, by omega⟩
      · refine .inr ⟨b, o, h6, ?_, by omega, ?_⟩
        · rw [if_neg hcl, h7]
          simp only [Option.map_some, Addr.add_lit]
          rw [Nat.add_mul, Nat.add_assoc]
        · rw [show off + l.toNat + (cap - l.toNat) = off + cap by omega]; exact h9

theorem fs_sliceRow (T : Tab P) {t e len sz : Nat} {cs : List AV} {i : TI} {x : Operand} {lo hi : Option Operand} {l r : Int} (hx : evu env x = some (.row cs len sz)) (ht : T.elem t = some e) (he : T.ti e = some i) (hs : i.size = sz) (hlo : evB env lo 0 = some l) (hhi : evB env hi len = some r) (h0 : 0 ≤ l) (h1 : l ≤ r) (h2 : r ≤ len) :
    FStep P ⟨d, .slice t x lo hi none, ty, pos, af, g⟩ env h 0 (fun _ => .row ((cs.drop (l.toNat * sz)).take ((r - l).toNat * sz)) (r - l).toNat sz) (fun _ => []) := by
  refine fs_val fun ρ S a w p => ?_
  have h3 := p.evu hx
  simp only [R] at h3
  obtain ⟨ad, cap, h4, hlc, hn, hcm, hcl, h5⟩ := h3
  have hb := run_bounds (P := P) (w := w) p hlo hhi h0 h1 h2 hlc
  have hrl : r.toNat - l.toNat = (r - l).toNat := by omega
  refine ⟨.slice (if cap = l.toNat then ad else ad.map (·.add (l.toNat * sz))) (r - l).toNat (cap - l.toNat), ?_, ?_⟩
  · simp [execOp, h4, Instr.sliceAt, Instr.slice, run_underlying (T.elemOk _ _ ht), hb, T.sizeOf he, hs, hrl]
  · have hmul : l.toNat * sz + (r - l).toNat * sz ≤ len * sz := by rw [← Nat.add_mul]; exact Nat.mul_le_mul_right _ (by omega)
    simp only [R]
    refine ⟨_, _, rfl, by omega, ?_, by omega, by rw [List.length_take, List.length_drop, hcl]; omega, ?_⟩
    · intro hnone
      by_cases hc : cap = l.toNat
      · omega
      · rw [if_neg hc] at hnone
        have : ad = none := by cases ad <;> simp at hnone ⊢
        have := hn this
        omega
    · by_cases hz : (r - l).toNat = 0
      · exact .inl hz
      · right
        rcases h5 with h5 | ⟨b, o, ys, h6, h7, ⟨cc, ee, fz, h8, h9⟩, h10⟩
        · omega
        · refine ⟨b, o + l.toNat * sz, (ys.drop (l.toNat * sz)).take ((r - l).toNat * sz), ?_, h7, ⟨cc, ee, fz, h8, fun j y hy => ?_⟩, RL_take (RL_drop h10 _) _⟩
          · rw [if_neg (by omega), h6]; simp [Addr.add_lit]
          · rw [List.getElem?_take] at hy
            split at hy
            · rw [List.getElem?_drop] at hy
              rw [Nat.add_assoc]; exact h9 _ _ hy
            · cases hy

theorem flatten_drop {α : Type} {sz : Nat} : ∀ {es : List (List α)} (n : Nat), (∀ e, e ∈ es → e.length = sz) → es.flatten.drop (n * sz) = (es.drop n).flatten
  | es, 0, _ => by simp
  | [], n + 1, _ => by simp
  | e :: es, n + 1, hl => by
    have h0 := hl e List.mem_cons_self
    rw [List.flatten_cons, List.drop_succ_cons, ← flatten_drop n (fun e he => hl e (List.mem_cons_of_mem _ he)), Nat.add_mul, Nat.one_mul, Nat.add_comm, ← List.drop_drop]
    congr 1
    rw [← h0]; simp
theorem flatten_take {α : Type} {sz : Nat} : ∀ {es : List (List α)} (n : Nat), (∀ e, e ∈ es → e.length = sz) → es.flatten.take (n * sz) = (es.take n).flatten
  | es, 0, _ => by simp
  | [], n + 1, _ => by simp
  | e :: es, n + 1, hl => by
    have h0 := hl e List.mem_cons_self
    rw [List.flatten_cons, List.take_succ_cons, List.flatten_cons, ← flatten_take n (fun e he => hl e (List.mem_cons_of_mem _ he)), Nat.add_mul, Nat.one_mul, Nat.add_comm]
    rw [List.take_append, h0, List.take_of_length_le (by omega)]
    congr 2
    omega

theorem fs_sliceRowE (T : Tab P) {t e sz : Nat} {es : List (List AV)} {i : TI} {x : Operand} {lo hi : Option Operand} {l r : Int} (hx : evu env x = some (.rowE es sz)) (ht : T.elem t = some e) (he : T.ti e = some i) (hs : i.size = sz) (hlo : evB env lo 0 = some l) (hhi : evB env hi es.length = some r) (h0 : 0 ≤ l) (h1 : l ≤ r) (h2 : r ≤ es.length) (hl : ∀ e, e ∈ es → e.length = sz) :
    FStep P ⟨d, .slice t x lo hi none, ty, pos, af, g⟩ env h 0 (fun _ => .rowE ((es.drop l.toNat).take (r - l).toNat) sz) (fun _ => []) := by
  have := fs_sliceRow (env := env) (h := h) (d := d) (ty := ty) (pos := pos) (af := af) (g := g) T hx ht he hs hlo hhi h0 h1 h2
  rw [flatten_drop _ hl, flatten_take _ (fun e he => hl e (List.mem_of_mem_drop he))] at this
  have e : (r - l).toNat = ((es.drop l.toNat).take (r - l).toNat).length := by rw [List.length_take, List.length_drop]; omega
  have e2 : AV.row ((es.drop l.toNat).take (r - l).toNat).flatten (r - l).toNat sz = AV.rowE ((es.drop l.toNat).take (r - l).toNat) sz := by
    show _ = AV.row _ ((es.drop l.toNat).take (r - l).toNat).length sz
    rw [← e]
  rw [e2] at this
  exact this

/-! ### Stores -/
def upd (h : Hp) : AV → List AV → Option Hp
  | .ptr k off, xs => match h[k]? with
    | some (.cells cs) => match Nat.ble (off + xs.length) cs.length with
      | true => some (h.set k (.cells (putAt cs off xs)))
      | false => none
    | _ => none
  | .ep k i off sz, xs => match h[k]? with
    | some (.arr es s) => match Nat.beq s sz, es[i]?, Nat.ble (off + xs.length) sz with
      | true, some c, true => some (h.set k (.arr (es.set i (putAt c off xs)) s))
      | _, _, _ => none
    | _ => none
  | _, _ => none

/-- One object has been written. -/
theorem HS.upd {c : Ctx} {ρ : Pl} {S : Nat → Prop} {w w' : World} {k : Nat} {b0 nb : AB} {b o : Nat} (s : HS c ρ S h w) (hk : h[k]? = some b0) (hg : b0 ≠ .gone) (hp : ρ k = some (b, o)) (hw : Ext (fun x => x = b) w w') (hnew : Later ρ ρ S S w w' → RB S w' ρ (some (b, o)) nb) : HS c ρ S (h.set k nb) w' ∧ Later ρ ρ S S w w' := by
  obtain ⟨hM, hS⟩ := s.live k b0 _ hk hg hp
  have l : Later ρ ρ S S w w' := ⟨fun _ _ h => h, fun _ h => h, fun x hx => hw.same x (s.stab x hx) (fun e => hS (e ▸ hx)), fun _ _ _ _ _ hr => hw.room hr⟩
  have hlt : k < h.length := (List.getElem?_eq_some_iff.1 hk).1
  have old : ∀ {k' : Nat} {b' : AB}, k' ≠ k → (h.set k nb)[k']? = some b' → h[k']? = some b' := fun hne hb => by
    rwa [List.getElem?_set_ne (Ne.symm hne)] at hb
  refine ⟨⟨fun k' hk' => s.dom k' (by simpa using hk'), fun k' p hp' => Nat.lt_of_lt_of_le (s.rng k' p hp') hw.size, fun k' b' hb' => ?_, fun k' b' p hb' hg' hp' => ?_, fun k1 k2 b1 b2 p1 p2 h1 h2 g1 g2 q1 q2 e => ?_, fun x hx => Nat.lt_of_lt_of_le (s.stab x hx) hw.size, s.ext.trans hw (fun x hx _ => hx ▸ hM), s.st0, s.st1, by rw [List.length_set]; exact s.mle, s.keep⟩, l⟩
  · by_cases hne : k' = k
    · subst hne
      rw [List.getElem?_set_self hlt] at hb'
      cases hb'
      rw [hp]; exact hnew l
    · have hb := old hne hb'
      cases b' with
      | gone => trivial
      | _ =>
        refine RB.later l (fun b1 o1 hp1 => hw.same b1 (s.rng k' _ hp1) (fun e => ?_)) (s.blk k' _ hb)
        subst e
        exact hne (s.inj k' k _ _ _ _ hb hk (by simp) hg hp1 hp rfl)
  · by_cases hne : k' = k
    · subst hne; rw [hp] at hp'; cases hp'; exact ⟨hM, hS⟩
    · exact s.live k' b' p (old hne hb') hg' hp'
  · have g : ∀ {k' : Nat} {b' : AB}, (h.set k nb)[k']? = some b' → b' ≠ .gone → ∃ b'', h[k']? = some b'' ∧ b'' ≠ .gone := fun {k' b'} hb hg' => by
      by_cases hne : k' = k
      · subst hne; exact ⟨b0, hk, hg⟩
      · exact ⟨b', old hne hb, hg'⟩
    obtain ⟨b1', h1', g1'⟩ := g h1 g1
    obtain ⟨b2', h2', g2'⟩ := g h2 g2
    exact s.inj k1 k2 b1' b2' p1 p2 h1' h2' g1' g2' q1 q2 e

theorem ext_setRow {w : World} {b : Nat} {c c' : Array Value} {e : TypeId} (hc : w.heap[b]? = some (.cells c e (0, 0))) (hs : c'.size = c.size) : Ext (fun x => x = b) w (w.setRow b c') := by
  refine ⟨rfl, rfl, rfl, by simp [World.setRow], fun x _ hx => setRow_other w b x c' hx, fun x cc ee hcc => ?_⟩
  by_cases hx : x = b
  · subst hx
    rw [hc] at hcc
    cases hcc
    exact ⟨c', setRow_heap w x c c' e _ hc, hs⟩
  · exact ⟨cc, by rw [setRow_other w b x c' hx]; exact hcc, rfl⟩

/-- A row of the model, some cells of which are written. -/
theorem holds_write {w : World} {b o off : Nat} {ys zs : List Value} {c : Array Value} {e : TypeId} (hc : w.heap[b]? = some (.cells c e (0, 0))) (hy : ∀ (j : Nat) (y : Value), ys[j]? = some y → c[o + j]? = some y) (hl : off + zs.length ≤ ys.length) (hz0 : 0 < zs.length) :
    o + off + zs.length ≤ c.size ∧ holds (w.setRow b (c.toList.take (o + off) ++ zs ++ c.toList.drop (o + off + zs.length)).toArray) b o (putAt ys off zs) ∧ ((c.toList.take (o + off) ++ zs ++ c.toList.drop (o + off + zs.length)).toArray).size = c.size := by
  have hsz' : o + ys.length ≤ c.size := by
    have := hy (ys.length - 1) _ (List.getElem?_eq_getElem (by omega))
    have := (Array.getElem?_eq_some_iff.1 this).1
    omega
  have hsize : ((c.toList.take (o + off) ++ zs ++ c.toList.drop (o + off + zs.length)).toArray).size = c.size := by
    simp only [List.size_toArray, List.length_append, List.length_take, List.length_drop, Array.length_toList]; omega
  refine ⟨by omega, ⟨_, e, setRow_heap w b c _ e _ hc, fun j y hj => ?_⟩, hsize⟩
  rw [putAt_eq _ _ _ hl] at hj
  rw [List.getElem?_toArray]
  by_cases h1 : j < off
  · rw [List.append_assoc, List.getElem?_append_left (by simp; omega), List.getElem?_take, if_pos h1] at hj
    rw [List.append_assoc, List.getElem?_append_left (by simp; omega), List.getElem?_take, if_pos (by omega)]
    simpa using hy j y hj
  · by_cases h2 : j < off + zs.length
    · rw [List.getElem?_append_left (by simp; omega), List.getElem?_append_right (by simp; omega)] at hj
      rw [List.getElem?_append_left (by simp; omega), List.getElem?_append_right (by simp; omega)]
      rw [← hj]
      congr 1
      simp only [List.length_take, Array.length_toList]
      omega
    · rw [List.getElem?_append_right (by simp; omega), List.getElem?_drop] at hj
      rw [List.getElem?_append_right (by simp; omega), List.getElem?_drop]
      have := hy _ _ hj
      simp only [Array.getElem?_toList]
      rw [← this]
      congr 1
      simp only [List.length_append, List.length_take, Array.length_toList]
      omega

theorem one_all {S : Nat → Prop} {w : World} {ρ : Pl} {xs : List AV} {ys : List Value} (h : RL S w xs ρ ys) (h1 : xs.all AV.one = true) : ∀ y, y ∈ ys → y.oneCell' = true := by
  intro y hy
  obtain ⟨j, hj⟩ := List.getElem?_of_mem hy
  have hlt : j < xs.length := by rw [← RL_length h]; exact (List.getElem?_eq_some_iff.1 hj).1
  obtain ⟨y', h2, h3⟩ := RL_get h j xs[j] (List.getElem?_eq_getElem hlt)
  rw [hj] at h2
  cases h2
  exact one_val h3 (List.all_eq_true.1 h1 _ (List.getElem_mem hlt))

/-- A store. -/
theorem vc_store {n : Nat × Nat} {ops : Array Oper} {rest : List Oper} {K : Env → Hp → Prop} (T : Tab P) {t : Nat} {i : TI} {x y : Operand} {u v : AV} {xs : List AV} {h' : Hp} (hx : evu env x = some u) (hy : evu env y = some v) (ht : T.ti t = some i) (hv : v.cellsOf = some xs) (hl : xs.length = i.size) (h1 : xs.all AV.one = true) (h0 : 0 < i.size) (hu : upd h u xs = some h')
    (hk : VC P n ops rest env h' K) : VC P n ops (⟨none, .store t x y, ty, pos, af, none⟩ :: rest) env h K := by
  intro c ρ S a w Q s hQ
  refine wpList_plain rfl fun K' hK' => ?_
  have p := s.pre
  have hxv := p.evu hx
  have hyv := cellsOf_val (p.evu hy) hv
  have hone := one_all hyv h1
  have hlen := RL_length hyv
  simp only [Array.length_toList] at hlen
  -- the store itself
  have run : ∀ {b o : Nat} {cc : Array Value} {e : TypeId}, a.eval x = .pointer (some ⟨b, o, none⟩) → w.heap[b]? = some (.cells cc e (0, 0)) → o + (a.eval y).cells.toList.length ≤ cc.size →
      (execOp a.eval ⟨none, .store t x y, ty, pos, af, none⟩).run P w = .ok .skip (w.setRow b (cc.toList.take o ++ (a.eval y).cells.toList ++ cc.toList.drop (o + (a.eval y).cells.toList.length)).toArray) := fun {b o cc e} he hc hle => by
    have hst := run_storeCells_at P b o e (a.eval y).cells.toList 0 cc w hc (by simpa using hle) hone
    simp only [Nat.add_zero] at hst
    simp only [execOp, he, Instr.storeAt, Instr.sureAddr, storeVar, Sem.run_bind, Sem.run_pure, Result.andThen_ok, T.sizeOf ht]
    rw [if_neg (by simp; omega)]
    simp only [hst, Result.andThen_ok]
  have fin : ∀ {k b o : Nat} {b0 nb : AB} {cc : Array Value} {e : TypeId} {off : Nat} {ys : List Value}, h' = h.set k nb → h[k]? = some b0 → b0 ≠ .gone → ρ k = some (b, o) → w.heap[b]? = some (.cells cc e (0, 0)) → (∀ (j : Nat) (y : Value), ys[j]? = some y → cc[o + j]? = some y) → off + (a.eval y).cells.toList.length ≤ ys.length → a.eval x = .pointer (some ⟨b, o + off, none⟩) →
      (∀ w', Later ρ ρ S S w w' → holds w' b o (putAt ys off (a.eval y).cells.toList) → RB S w' ρ (some (b, o)) nb) →
      Oper.wp P ⟨none, .store t x y, ty, pos, af, none⟩ a w K' Q := fun {k b o b0 nb cc e off ys} e1 e2 e3 e4 e5 e6 e7 e8 e9 => by
    obtain ⟨f1, f2, f3⟩ := holds_write e5 e6 e7 (by simp; omega)
    have hr := run e8 e5 f1
    unfold Oper.wp
    rw [hr]
    obtain ⟨g1, g2⟩ := s.hs.upd e2 e3 e4 (ext_setRow e5 f3) (fun l => e9 _ l f2)
    refine hK' _ _ (hk c ρ S _ _ Q ⟨by rw [size_put]; exact s.size, by rw [defers_put]; exact s.defers.later g2, fun tt uu huu => (s.env tt uu huu).later g2, ?_, s.cm⟩ hQ)
    rw [e1]; exact g1
  cases u with
  | ptr k off =>
    simp only [upd] at hu
    split at hu
    · rename_i cs hk'
      split at hu
      · rename_i hble
        cases hu
        have hle := Nat.le_of_ble_eq_true hble
        simp only [R] at hxv
        obtain ⟨b, o, hp, hev⟩ := hxv
        have hb := p.blk k _ hk'
        simp only [RB, hp] at hb
        obtain ⟨b', o', ys, hq, ⟨cc, e, hc, hcy⟩, hcs⟩ := hb
        cases hq
        have hyl := RL_length hcs
        refine fin rfl hk' (by simp) hp hc hcy (by simp; omega) hev fun w' l hh => ?_
        simp only [RB]
        exact ⟨b, o, _, rfl, hh, RL_put (hcs.later l) (hyv.later l)⟩
      · cases hu
    · cases hu
  | ep k j off sz =>
    simp only [upd] at hu
    split at hu
    · rename_i es s' hk'
      split at hu
      · rename_i cj hbeq hj hble
        cases hu
        have hsz := Nat.eq_of_beq_eq_true hbeq
        subst hsz
        have hle := Nat.le_of_ble_eq_true hble
        simp only [R] at hxv
        obtain ⟨b, o, hp, hev⟩ := hxv
        have hb := p.blk k _ hk'
        simp only [RB, hp] at hb
        obtain ⟨hes, hs0, hb⟩ := hb
        rcases hb with hb | ⟨b', o', ys, hq, ⟨cc, e, hc, hcy⟩, hcs⟩
        · subst hb; simp at hj
        cases hq
        have hyl := RL_length hcs
        have hjl : j < es.length := (List.getElem?_eq_some_iff.1 hj).1
        have hfl := length_flatten_of hes
        have hjm : j * s' + s' ≤ es.length * s' := by
          calc j * s' + s' = (j + 1) * s' := by rw [Nat.add_mul]; omega
            _ ≤ es.length * s' := Nat.mul_le_mul_right _ hjl
        refine fin rfl hk' (by simp) hp hc hcy (off := j * s' + off) (by simp; omega) hev fun w' l hh => ?_
        simp only [RB]
        have hput := RL_put (off := j * s' + off) (hcs.later l) (hyv.later l)
        rw [putAt_flatten hes hj (by omega)] at hput
        refine ⟨fun e1 he1 => ?_, hs0, .inr ⟨b, o, _, rfl, hh, hput⟩⟩
        rcases List.mem_or_eq_of_mem_set he1 with h2 | h2
        · exact hes e1 h2
        · subst h2; rw [length_putAt]; exact hes _ (List.mem_of_getElem? hj)
      · cases hu
    · cases hu
  | _ => simp [upd] at hu

end
end Go.Ab
