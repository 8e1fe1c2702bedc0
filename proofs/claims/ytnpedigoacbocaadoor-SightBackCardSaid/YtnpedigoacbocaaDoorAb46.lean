/-
  A logic of values for the walk: strings.Builder's methods, strconv.Itoa, the sorted keys of a map, maps.Clone, as contracts.
-/
import Derived.Test.YtnpedigoacbocaaDoorAb45
import Derived.Test.YtnpedigoacbocaaDoorAb36
import Derived.Deep.Draws
import Derived.Lib.LaidTab
import Derived.Lib.ItoaNum
import Derived.Lib.Builder
import Derived.Laws.Pointers

namespace Go.Ab
open Go
set_option linter.unusedVariables false
set_option linter.unusedSimpArgs false

section
variable {P : Program}

/-- What one may say of a call that makes one object more, and writes nothing that was there. -/
theorem HS.made {c : Ctx} {ρ : Pl} {S : Nat → Prop} {h : Hp} {w w' : World} {x : AV} {b : AB} {y : Value} {q : Option (Nat × Nat)} (s : HS c ρ S h w) (hext : Ext (fun _ => False) w w')
    (hq : ∀ p, q = some p → w.heap.size ≤ p.1 ∧ p.1 < w'.heap.size)
    (hv : ∀ ρ' : Pl, ρ' h.length = q → (∀ k, k ≠ h.length → ρ' k = ρ k) → Later ρ ρ' S S w w' → R S w' x ρ' y ∧ RB S w' ρ' q b) :
    ∃ ρ', HS c ρ' S (h ++ [b]) w' ∧ R S w' x ρ' y ∧ Later ρ ρ' S S w w' := by
  let ρ' : Pl := fun k => if k = h.length then q else ρ k
  have hd := s.dom h.length (Nat.le_refl _)
  have e1 : ρ' h.length = q := if_pos rfl
  have e2 : ∀ k, k ≠ h.length → ρ' k = ρ k := fun k hk => if_neg hk
  have l : Later ρ ρ' S S w w' := ⟨fun k p hp => by rw [e2 k (fun e => by rw [e, hd] at hp; cases hp)]; exact hp, fun _ h => h, fun b hb => hext.same b (s.stab b hb) (fun h => h), fun _ _ _ _ _ hr => hext.room hr⟩
  obtain ⟨v1, v2⟩ := hv ρ' e1 e2 l
  refine ⟨ρ', s.post (m := 1) (new := [b]) (x := x) (y := y) ⟨hext, rfl, fun k hk => e2 k (by omega), fun _ h => h, fun _ h => .inl h, fun k p hk1 hk2 hp => ?_, fun k k' p p' a1 a2 a3 a4 _ _ _ => by omega, v1, fun j b' hb => ?_⟩, v1, l⟩
  · have : k = h.length := by omega
    subst this
    rw [e1] at hp
    obtain ⟨g1, g2⟩ := hq p hp
    exact ⟨g1, g2, fun hS => by have := s.stab _ hS; omega⟩
  · cases j with
    | zero =>
      simp only [List.getElem?_cons_zero, Option.some.injEq] at hb
      subst hb
      rw [Nat.add_zero, e1]; exact v2
    | succ j => simp at hb

theorem ext_below {w w' : World} (h : RowKit.Below w.heap.size w w') : Ext (fun _ => False) w w' :=
  ⟨h.os, h.tape, h.output, h.size, fun b hb _ => h.block b hb, fun b c e fz hc => ⟨c, fz, by rw [h.block b (Array.getElem?_eq_some_iff.1 hc).1]; exact hc, rfl⟩⟩
theorem ext_grow {w : World} {k : Nat} {os : Array Obj} : Ext (fun _ => False) w (Sort.grow (w.drewN k) os) := by
  have hh : ∀ b, b < w.heap.size → (Sort.grow (w.drewN k) os).heap[b]? = w.heap[b]? := fun b hb => by
    show (w.heap ++ os)[b]? = _
    rw [Array.getElem?_append_left hb]
  exact ⟨rfl, rfl, rfl, by show w.heap.size ≤ (w.heap ++ os).size; rw [Array.size_append]; exact Nat.le_add_right _ _, fun b hb _ => hh b hb, fun b c e fz hc => ⟨c, fz, by rw [hh b (Array.getElem?_eq_some_iff.1 hc).1]; exact hc, rfl⟩⟩
/-- A call that writes nothing that was there, and hands back a plain value. -/
theorem HS.kept {c : Ctx} {ρ : Pl} {S : Nat → Prop} {h : Hp} {w w' : World} (s : HS c ρ S h w) (hext : Ext (fun _ => False) w w') : HS c ρ S h w' := by
  have := s.post (m := 0) (new := []) (x := .any) (y := .nilIface) (ρ' := ρ) (S' := S) (w' := w') ⟨hext, rfl, fun _ _ => rfl, fun _ h => h, fun _ h => .inl h, fun k p a1 a2 _ => by omega, fun k k' p p' a1 a2 => by omega, by simp [R], fun j b hb => by simp at hb⟩
  simpa using this

theorem modify_at {w : World} {b : Nat} {f : Obj → Obj} {o : Obj} (h : w.heap[b]? = some o) : (w.heap.modify b f)[b]? = some (f o) := by
  simp [Array.getElem?_modify, h]
theorem modify_other {w : World} {b x : Nat} {f : Obj → Obj} (h : x ≠ b) : (w.heap.modify b f)[x]? = w.heap[x]? := by
  simp only [Array.getElem?_modify]
  rw [if_neg (Ne.symm h)]

/-- (*strings.Builder).copyCheck, of a builder that has not been used. -/
theorem acall_ccFresh {f : FuncId} {T : TypeId} {x : AV} (hfn : ∃ fn, P.funcs[f]? = some fn ∧ (fn.name == "runtime.NumGoroutine") = false ∧ fn.body.isNone = false)
    (hs : ∀ (b : Nat) (w : World), w.cell? ⟨b, 0, none⟩ = some (.pointer none) → w.shape? b = some (T, 2) → w.frozen? ⟨b, 0, none⟩ = false → Calls P f #[.pointer (some ⟨b, 0, none⟩)] w fun e w' => e = .returned (.tuple #[]) ∧ w' = w.setCell ⟨b, 0, none⟩ (.pointer (some ⟨b, 0, none⟩))) :
    ACall P f [.ptr 0 0] [.var T [.v (.pointer none), x]] (.tup []) [.cells [.ptr 0 0, x]] := by
  refine ⟨hfn, fun ρ S w vs s ha => ?_⟩
  simp only [RL, R] at ha
  obtain ⟨y, ys, rfl, ⟨b, o, hp, rfl⟩, rfl⟩ := ha
  obtain ⟨b', c, h1, h2, h3⟩ := s.blk 0 _ rfl
  rw [hp] at h1
  obtain ⟨rfl, rfl⟩ : b = b' ∧ o = 0 := by simpa using h1
  simp only [RL, R] at h3
  obtain ⟨v0, l1, hc, rfl, v1, l2, rfl, hx, rfl⟩ := h3
  have hcc : c = #[.pointer none, v1] := Array.toList_inj.1 hc
  subst hcc
  refine (hs b w (by simp [World.cell?, h2]) (by simp [World.shape?, h2]) (by simp [World.frozen?, h2])).mono fun e w' ⟨he, hw⟩ => ?_
  have hb : w'.heap[b]? = some (.cells #[.pointer (some ⟨b, 0, none⟩), v1] T (0, 0)) := by
    rw [hw]
    show (w.heap.modify b _)[b]? = _
    rw [modify_at h2]; rfl
  have ho : ∀ x, x ≠ b → w'.heap[x]? = w.heap[x]? := fun x hx => by rw [hw]; exact modify_other hx
  have hext : Ext (fun x => x = b) w w' := by
    refine ⟨by rw [hw]; rfl, by rw [hw]; rfl, by rw [hw]; rfl, by rw [hw]; simp [World.setCell], fun x _ hx => ho x hx, fun x cc ee fz hcc => ?_⟩
    by_cases hx : x = b
    · subst hx; rw [h2] at hcc; cases hcc; exact ⟨_, _, hb, rfl⟩
    · exact ⟨cc, fz, by rw [ho x hx]; exact hcc, rfl⟩
  obtain ⟨g1, g2⟩ := s.upd (nb := .cells [.ptr 0 0, x]) rfl (by simp) hp hext (fun l => ⟨b, 0, [.pointer (some ⟨b, 0, none⟩), v1], rfl, ⟨_, T, hb, fun j y hj => by rw [Nat.zero_add]; simpa using hj⟩, by
    simp only [RL, R]
    exact ⟨_, _, rfl, ⟨b, 0, hp, rfl⟩, _, _, rfl, R.later l hx, rfl⟩⟩)
  exact ⟨.tuple #[], ρ, S, he, g1, by simp [R, RL]⟩
/-- A pointer that is not nil, against nil; a pointer against itself. -/
theorem fs_ptrNilF {env : Env} {h : Hp} {d : Option Nat} {ty : TypeId} {pos : String} {af : Array Edge} {g : Option (Nat × Bool)} {t t2 te : TypeId} {x y : Operand} {u z : AV} (ht : P.underlying t = some (.pointer te)) (hx : evu env x = some u) (hz : u.plus 0 = some z) (hy : evu env y = some (.v (.pointer none))) :
    FStep P ⟨d, .binOp .eql t x y t2, ty, pos, af, g⟩ env h 0 (fun _ => .b false) (fun _ => []) := by
  refine fs_val fun ρ S a w p => ⟨.bool false, ?_, by simp [R]⟩
  obtain ⟨b, o, h1, _⟩ := plus_val (p.evu hx) hz
  have h2 := R_v (p.evu hy)
  have ht' : P.underlying t = some (.pointer (P.pointee t)) := by simp [Program.pointee, ht]
  have hq : eqGuard .eql t x y (.pointer (some ⟨b, o, none⟩)) (.pointer none) = pure () := by rfl
  have hr : (binOp .eql t (.pointer (some ⟨b, o, none⟩)) (.pointer none)).run P w = .ok (.bool false) w := by rw [run_eql_pointer_nil (P := P) w t (some ⟨b, o, none⟩) ht']; rfl
  simp [execOp, h1, h2, hq, hr]
theorem fs_ptrNilT {env : Env} {h : Hp} {d : Option Nat} {ty : TypeId} {pos : String} {af : Array Edge} {g : Option (Nat × Bool)} {t t2 te : TypeId} {x y : Operand} (ht : P.underlying t = some (.pointer te)) (hx : evu env x = some (.v (.pointer none))) (hy : evu env y = some (.v (.pointer none))) :
    FStep P ⟨d, .binOp .eql t x y t2, ty, pos, af, g⟩ env h 0 (fun _ => .b true) (fun _ => []) := by
  refine fs_val fun ρ S a w p => ⟨.bool true, ?_, by simp [R]⟩
  have h1 := R_v (p.evu hx)
  have h2 := R_v (p.evu hy)
  have ht' : P.underlying t = some (.pointer (P.pointee t)) := by simp [Program.pointee, ht]
  have hq : eqGuard .eql t x y (.pointer none) (.pointer none) = pure () := by rfl
  have hr : (binOp .eql t (.pointer none) (.pointer none)).run P w = .ok (.bool true) w := by rw [run_eql_pointer_nil (P := P) w t none ht']; rfl
  simp [execOp, h1, h2, hq, hr]
theorem fs_ptrNeqNilT {env : Env} {h : Hp} {d : Option Nat} {ty : TypeId} {pos : String} {af : Array Edge} {g : Option (Nat × Bool)} {t t2 te : TypeId} {x y : Operand} {u z : AV} (ht : P.underlying t = some (.pointer te)) (hx : evu env x = some u) (hz : u.plus 0 = some z) (hy : evu env y = some (.v (.pointer none))) :
    FStep P ⟨d, .binOp .neq t x y t2, ty, pos, af, g⟩ env h 0 (fun _ => .b true) (fun _ => []) := by
  refine fs_val fun ρ S a w p => ⟨.bool true, ?_, by simp [R]⟩
  obtain ⟨b, o, h1, _⟩ := plus_val (p.evu hx) hz
  have h2 := R_v (p.evu hy)
  have ht' : P.underlying t = some (.pointer (P.pointee t)) := by simp [Program.pointee, ht]
  have hq : eqGuard .neq t x y (.pointer (some ⟨b, o, none⟩)) (.pointer none) = pure () := by rfl
  have hr : (binOp .neq t (.pointer (some ⟨b, o, none⟩)) (.pointer none)).run P w = .ok (.bool true) w := by rw [run_neq_pointer_nil (P := P) w t (some ⟨b, o, none⟩) ht']; rfl
  simp [execOp, h1, h2, hq, hr]
theorem fs_ptrSame {env : Env} {h : Hp} {d : Option Nat} {ty : TypeId} {pos : String} {af : Array Edge} {g : Option (Nat × Bool)} {t t2 te : TypeId} {x y : Operand} {k off : Nat} {i : TypeInfo} (ht : P.underlying t = some (.pointer te)) (hi : P.info? te = some i) (hx : evu env x = some (.ptr k off)) (hy : evu env y = some (.ptr k off)) :
    FStep P ⟨d, .binOp .neq t x y t2, ty, pos, af, g⟩ env h 0 (fun _ => .b false) (fun _ => []) := by
  refine fs_val fun ρ S a w p => ⟨.bool false, ?_, by simp [R]⟩
  have h1 := p.evu hx
  have h2 := p.evu hy
  simp only [R] at h1 h2
  obtain ⟨b, o, h3, h4⟩ := h1
  obtain ⟨b', o', h5, h6⟩ := h2
  rw [h3] at h5; cases h5
  have hq : eqGuard .neq t x y (.pointer (some ⟨b, o + off, none⟩)) (.pointer (some ⟨b, o + off, none⟩)) = pure () := by rfl
  have := Go.Lib.run_neq_ptr_same (P := P) w (⟨b, o + off, none⟩ : Addr) ht hi
  simp [execOp, h4, h6, hq, this]

/-- The address of a slice's first element. -/
theorem fs_sliceData {env : Env} {h : Hp} {d : Option Nat} {ty : TypeId} {pos : String} {af : Array Edge} {g : Option (Nat × Bool)} {ts : Array TypeId} {x : Operand} {k len : Nat} (hx : evu env x = some (.sl k 0 len 1)) (hl : 0 < len) :
    FStep P ⟨d, .call { callee := .builtin .unsafeSliceData, args := #[x], argTypes := ts }, ty, pos, af, g⟩ env h 0 (fun _ => .ep k 0 0 1) (fun _ => []) := by
  refine fs_val fun ρ S a w p => ?_
  have h1 := p.evu hx
  simp only [R] at h1
  obtain ⟨ad, cap, h2, _, h3⟩ := h1
  rcases h3 with ⟨h0, _⟩ | ⟨b, o, h4, h5, h6, _⟩
  · omega
  refine ⟨.pointer ad, ?_, by simp only [R]; exact ⟨b, o, h4, by rw [h5]⟩⟩
  have := Go.Lib.run_unsafeSliceData_row (P := P) w ts ty ⟨b, o, none⟩ len cap (by omega)
  have h5' : ad = some ⟨b, o, none⟩ := by rw [h5]; simp
  rw [h5'] at h2 ⊢
  simp [execOp, resolve, invoke, builtin, h2, this]
/-- A buffer's bytes as a string: the buffer is not to be written any more. -/
theorem vc_unsafeString {env : Env} {h : Hp} {n : Nat × Nat} {ops : Array Oper} {rest : List Oper} {K : Env → Hp → Prop} {ty : TypeId} {pos : String} {af : Array Edge} {pt it e k dd : Nat} {x y : Operand} {l : List UInt8} {m : Int} (hp : P.underlying pt = some (.pointer e)) (hc : P.cellsOf e = 1)
    (hx : evu env x = some (.ep k 0 0 1)) (hy : evu env y = some (.i m)) (hm : m = l.length) (hl : l ≠ []) (h63 : l.length ≤ 9223372036854775807) (hk : h[k]? = some (.buf e l)) (hd : okd (some dd) n = true)
    (hv : VC P n ops rest ((dd, .s l) :: env) (h.set k .gone) K) : VC P n ops (⟨some dd, .call { callee := .builtin .unsafeString, args := #[x, y], argTypes := #[pt, it] }, ty, pos, af, none⟩ :: rest) env h K := by
  subst hm
  intro c ρ S a w Q s hQ
  refine wpList_plain rfl fun K' hK' => ?_
  have p := s.pre
  have h1 := p.evu hx
  simp only [R] at h1
  obtain ⟨b, o, h2, h3⟩ := h1
  have h4 := R_v (p.evu hy)
  rcases p.blk k _ hk with ⟨h5, _⟩ | ⟨b', cc, g1, g2, g3⟩
  · exact absurd h5 hl
  rw [h2] at g1
  obtain ⟨rfl, rfl⟩ : b = b' ∧ o = 0 := by simpa using g1
  have hlen : l.length ≤ cc.size := by
    have hpos := List.length_pos_iff.2 hl
    have := g3 (l.length - 1) (l[l.length - 1]'(by omega)) (List.getElem?_eq_getElem _)
    have := (Array.getElem?_eq_some_iff.1 this).1
    omega
  have hr := Go.Lib.run_unsafeString_row (P := P) w pt it ty e hp hc b cc.size (by simp [World.shape?, g2]) l hl hlen h63 (fun j x hj => by
    have : ((⟨b, 0, none⟩ : Addr).add j) = ⟨b, 0 + j, none⟩ := Addr.add_lit ..
    rw [this]
    simp [World.cell?, g2, g3 j x hj])
  unfold Oper.wp
  have hev : (execOp a.eval ⟨some dd, .call { callee := .builtin .unsafeString, args := #[x, y], argTypes := #[pt, it] }, ty, pos, af, none⟩).run P w = .ok (.value (.string ⟨l.toArray⟩)) (w.freeze ⟨b, 0, none⟩ l.length) := by
    have h3' : a.eval x = .pointer (some ⟨b, 0, none⟩) := by rw [h3]
    simp [execOp, resolve, invoke, builtin, h3', h4, hr]
  rw [hev]
  have hl0 : l.length ≠ 0 := by simpa using hl
  obtain ⟨ff, hfz, hff⟩ : ∃ ff : Obj → Obj, (w.freeze ⟨b, 0, none⟩ l.length).heap = w.heap.modify b ff ∧ ∀ c e fz, ∃ fz', ff (.cells c e fz) = .cells c e fz' := by
    unfold World.freeze
    rw [if_neg hl0]
    exact ⟨fun | .cells c elem (lo, hi) => .cells c elem (if lo == hi then (0, 0 + l.length) else (min lo 0, max hi (0 + l.length))) | o => o, rfl, fun c e fz => ⟨if fz.1 == fz.2 then (0, 0 + l.length) else (min fz.1 0, max fz.2 (0 + l.length)), rfl⟩⟩
  have hext : Ext (fun x => x = b) w (w.freeze ⟨b, 0, none⟩ l.length) := by
    have ho : ∀ x, x ≠ b → (w.freeze ⟨b, 0, none⟩ l.length).heap[x]? = w.heap[x]? := fun x hx => by rw [hfz]; exact modify_other hx
    have hf : ∀ {α : Type} (f : World → α), (∀ w h', f { w with heap := h' } = f w) → f (w.freeze ⟨b, 0, none⟩ l.length) = f w := fun f hf => by
      unfold World.freeze
      rw [if_neg hl0]; exact hf _ _
    refine ⟨hf (·.os) (fun _ _ => rfl), hf (·.tape) (fun _ _ => rfl), hf (·.output) (fun _ _ => rfl), by rw [hfz, Array.size_modify]; exact Nat.le_refl _, fun x _ hx => ho x hx, fun x c0 ee fz hcc => ?_⟩
    by_cases hx : x = b
    · subst hx
      rw [g2] at hcc; cases hcc
      obtain ⟨fz', hz'⟩ := hff cc e (0, 0)
      exact ⟨cc, fz', by rw [hfz, modify_at g2, hz'], rfl⟩
    · exact ⟨c0, fz, by rw [ho x hx]; exact hcc, rfl⟩
  obtain ⟨g4, g5⟩ := s.hs.upd (nb := .gone) hk (by simp) h2 hext (fun _ => trivial)
  exact hK' _ _ (hv c ρ S _ _ Q ⟨by rw [size_put]; exact s.size, by rw [defers_put]; exact s.defers.later g5, env_put s.size hd (fun tt uu huu => (s.env tt uu huu).later g5) (by simp [R]), g4, s.cm⟩ hQ)

/-- A value in a variable of a type that is to be remembered. -/
theorem fs_boxT {env : Env} {h : Hp} {d : Option Nat} {ty : TypeId} {pos : String} {af : Array Edge} {g : Option (Nat × Bool)} {t : TypeId} {x : Operand} {u : AV} {cs : List AV} (hx : evu env x = some u) (hc : u.cellsOf = some cs) : FStep P ⟨d, .box t x, ty, pos, af, g⟩ env h 1 (fun p => .ptr p 0) (fun _ => [.var t cs]) := by
  refine fs_new fun ρ S a w p => ?_
  refine ⟨(a.eval x).cells, t, .pointer (some ⟨w.heap.size, 0, none⟩), false, ?_, fun pos hpos w' hw' l => ⟨?_, ?_⟩⟩
  · simp [execOp, Instr.box, newVar, newRow]
  · simp [R, Pl.with]
  · exact ⟨_, (a.eval x).cells, rfl, hw', (cellsOf_val (p.evu hx) hc).later l⟩
/-- strconv.Itoa's work. -/
theorem acall_format {f : FuncId} {name : String} {gi : Nat} {tab : List Int} (hfn : ∃ fn, P.funcs[f]? = some fn ∧ (fn.name == "runtime.NumGoroutine") = false ∧ fn.body.isNone = false)
    (hs : ∀ (n : Int) (w : World), -9223372036854775808 ≤ n → n ≤ 9223372036854775807 → Go.Lib.TabIs P w name .u64 tab → Calls P f #[.int .i64 n, .int .i64 10] w fun e w' => e = .returned (.string ⟨(Go.Lib.itoa n).toArray⟩) ∧ ∃ k os, w' = Sort.grow (w.drewN k) os)
    (hg : P.globalNamed name = some gi) (hgt : (gi, tab.map fun z => AV.v (.int .u64 z)) ∈ globTab) (n : Int) (h0 : -9223372036854775808 ≤ n) (h1 : n ≤ 9223372036854775807) : ACall P f [.i n, .i 10] [] (.s (Go.Lib.itoa n)) [] := by
  refine ⟨hfn, fun ρ S w vs s ha => ?_⟩
  simp only [RL, R] at ha
  obtain ⟨y, ys, rfl, rfl, z, zs, rfl, rfl, rfl⟩ := ha
  obtain ⟨_, ys, t, fz, g1, g2⟩ := s.glob gi _ hgt
  have hT : Go.Lib.TabIs P w name .u64 tab := by
    have e : ys.toList = tab.map fun z => Value.int .u64 z := by
      have := RL_vsEq (vs := tab.map fun z => Value.int .u64 z) (ys := ys.toList) (ρ := fun _ => none) (S := S) (w := w) (by simpa [List.map_map, Function.comp_def] using g2)
      exact this
    unfold Go.Lib.TabIs World.var?
    rw [hg]
    simp only [Option.bind_some, g1]
    rw [← e]
  refine (hs n w h0 h1 hT).mono fun e w' ⟨he, k, os, hw⟩ => ?_
  subst hw
  exact ⟨_, ρ, S, he, s.kept ext_grow, by simp [R]⟩

/-- maps.Clone. -/
theorem acall_mapsClone {f : FuncId} {ks : List Value} {vs : List AV} (hfn : ∃ fn, P.funcs[f]? = some fn ∧ (fn.name == "runtime.NumGoroutine") = false ∧ fn.body.isNone = false)
    (hs : ∀ (b : Nat) (es : Array MapEntry) (ck : Nat) (w : World), w.heap[b]? = some (.map es ck) → Calls P f #[.map (some b)] w fun e w' => e = .returned (.map (some w.heap.size)) ∧ w' = w.alloc (.map es ck)) :
    ACall P f [.mp 0] [.mapO ks vs] (.mp 1) [.mapO ks vs, .mapO ks vs] := by
  refine ⟨hfn, fun ρ S w us s ha => ?_⟩
  simp only [RL, R] at ha
  obtain ⟨y, ys, rfl, ⟨b, o, hp, rfl⟩, rfl⟩ := ha
  obtain ⟨b', o', l, ck, h1, h2, h3, h4⟩ := s.blk 0 _ rfl
  rw [hp] at h1
  obtain ⟨rfl, rfl⟩ : b = b' ∧ o = o' := by simpa using h1
  refine (hs b l ck w h2).mono fun e w' ⟨he, hw⟩ => ?_
  subst hw
  have hnew : (w.alloc (.map l ck)).heap[w.heap.size]? = some (.map l ck) := (MapKept.heap_alloc w _).1
  obtain ⟨ρ', g1, g2, _⟩ := s.made (x := .mp 1) (b := .mapO ks vs) (y := .map (some w.heap.size)) (q := some (w.heap.size, 0)) (ext_alloc w _ _) (fun p hp => by cases hp; exact ⟨Nat.le_refl _, by rw [World.size_alloc]; exact Nat.lt_succ_self _⟩) (fun ρ' e1 e2 l' => ⟨by simp only [R]; exact ⟨_, _, e1, rfl⟩, ⟨_, _, l, ck, rfl, hnew, h3, h4.later l'⟩⟩)
  exact ⟨_, ρ', S, he, g1, g2⟩

/-- The sorted keys of a map. -/
theorem acall_sortedKeys {f g : FuncId} {e T : TypeId} {ks : List Int} {vs : List AV} (hfn : ∃ fn, P.funcs[f]? = some fn ∧ (fn.name == "runtime.NumGoroutine") = false ∧ fn.body.isNone = false)
    (hs : ∀ (b Bm : Nat) (es : Array MapEntry) (ck : Nat) (w : World), w.cell? ⟨Bm, 0, none⟩ = some (.map (some b)) → Bm < w.heap.size → w.heap[b]? = some (.map es ck) → Stamps es ck → es.toList.map (·.key) = ks.map kI →
      Calls P f #[.func (.func g) #[] #[.pointer (some ⟨Bm, 0, none⟩)]] w fun e' w' => ∃ v, e' = .returned v ∧ w'.ownsRow w.heap.size e 1 v ks.length ((sorted ks).map kI) ∧ RowKit.Below w.heap.size w w') :
    ACall P f [.clo (.func g) [] [.ptr 0 0]] [.var T [.mp 1], .mapO (ks.map kI) vs] (.sl 2 0 ks.length 1) [.var T [.mp 1], .mapO (ks.map kI) vs, .arr (ints (sorted ks)) 1] := by
  refine ⟨hfn, fun ρ S w us s ha => ?_⟩
  simp only [RL, R] at ha
  obtain ⟨y, ys, rfl, ⟨y1, y2, rfl, h1, v2, l2, h2, ⟨b, o, hp, rfl⟩, rfl⟩, rfl⟩ := ha
  have e1 : y1 = #[] := Array.toList_inj.1 h1
  have e2 : y2 = #[.pointer (some ⟨b, o, none⟩)] := Array.toList_inj.1 (by simpa using h2)
  subst e1 e2
  obtain ⟨b', c, h3, h4, h6⟩ := s.blk 0 _ rfl
  rw [hp] at h3
  obtain ⟨rfl, rfl⟩ : b = b' ∧ o = 0 := by simpa using h3
  simp only [RL, R] at h6
  obtain ⟨v3, l3, h6', ⟨bm, om, hpm, rfl⟩, rfl⟩ := h6
  have hcc : c = #[.map (some bm)] := Array.toList_inj.1 h6'
  subst hcc
  obtain ⟨bm', om', l, ck, h7, h8, ⟨h9, h10⟩, h11⟩ := s.blk 1 _ rfl
  rw [hpm] at h7
  obtain ⟨rfl, rfl⟩ : bm = bm' ∧ om = om' := by simpa using h7
  refine (hs bm b l ck w (by simp [World.cell?, h4]) (Array.getElem?_eq_some_iff.1 h4).1 h8 h10 h9).mono fun e' w' ⟨v, he, hrow, hb⟩ => ?_
  obtain ⟨hrl, hrow⟩ := hrow
  have hes : ∀ q, q ∈ ints (sorted ks) → q.length = 1 := ints_len _
  obtain ⟨q, hq1, hq2⟩ : ∃ q : Option (Nat × Nat), (∀ p, q = some p → w.heap.size ≤ p.1 ∧ p.1 < w'.heap.size) ∧ ∀ ρ' : Pl, ρ' [AB.var T [AV.mp 1], AB.mapO (ks.map kI) vs].length = q → (∀ k, k ≠ [AB.var T [AV.mp 1], AB.mapO (ks.map kI) vs].length → ρ' k = ρ k) → Later ρ ρ' S S w w' → R S w' (.sl 2 0 ks.length 1) ρ' v ∧ RB S w' ρ' q (.arr (ints (sorted ks)) 1) := by
    rcases hrow with ⟨rfl, h0⟩ | ⟨gb, cap, cur, rfl, hg1, hg2, hg3, hg4, hg5, hg6⟩
    · have hks : ks = [] := List.eq_nil_of_length_eq_zero h0
      subst hks
      refine ⟨none, (fun p hp => nomatch hp), fun ρ' e1 _ _ => ⟨?_, ?_⟩⟩
      · simp only [R]
        exact ⟨none, 0, rfl, Nat.zero_le _, .inl ⟨rfl, rfl⟩⟩
      · refine ⟨hes, Nat.one_pos, .inl ⟨by simp [sorted], fun b o e => by cases e⟩⟩
    · refine ⟨some (gb, 0), fun p hp => by cases hp; exact ⟨hg1, (Array.getElem?_eq_some_iff.1 hg2).1⟩, fun ρ' e1 _ _ => ⟨?_, ?_⟩⟩
      · simp only [R]
        exact ⟨_, cap, rfl, hg4, .inr ⟨gb, 0, e1, by simp, hg3, cur, e, _, hg2, by omega⟩⟩
      · refine ⟨hes, Nat.one_pos, .inr ⟨gb, 0, (sorted ks).map kI, rfl, ⟨cur, e, hg2, fun j y hj => ?_⟩, ?_⟩⟩
        · rw [Nat.zero_add]
          have : (cur.toList.take (ks.length * 1))[j]? = some y := by rw [hg6]; exact hj
          rw [List.getElem?_take] at this
          split at this
          · simpa using this
          · cases this
        · have := RL_ints (S := S) (w := w') (ρ := ρ') (l := sorted ks) (ys := (sorted ks).map kI)
          rw [isA_flat]
          exact this.2 rfl
  obtain ⟨ρ', g1, g2, _⟩ := s.made (x := .sl 2 0 ks.length 1) (b := .arr (ints (sorted ks)) 1) (y := v) (ext_below hb) hq1 hq2
  exact ⟨v, ρ', S, he, g1, g2⟩
end
end Go.Ab
