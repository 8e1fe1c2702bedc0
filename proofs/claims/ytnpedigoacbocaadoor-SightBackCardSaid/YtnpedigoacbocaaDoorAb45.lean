/-
  A logic of values for the walk: strings.Builder, strconv.Itoa, the sorted keys of a map, maps.Clone.
-/
import Derived.Test.YtnpedigoacbocaaDoorAb44
import Derived.Lib.UnsafeStr
import Derived.RangeFuncGives
import Derived.Lib.SlKeysI
import Derived.Maps.Own

namespace Go.Ab
open Go
set_option linter.unusedVariables false
set_option linter.unusedSimpArgs false

section
variable {P : Program} {env : Env} {h : Hp}
variable {d : Option Nat} {ty : TypeId} {pos : String} {af : Array Edge} {g : Option (Nat × Bool)}

def strV (l : List UInt8) : List Value := l.map fun b => Value.int .u8 b.toNat
@[simp] theorem strV_length (l : List UInt8) : (strV l).length = l.length := by simp [strV]
theorem strV_get {l : List UInt8} {j : Nat} {y : Value} (h : (strV l)[j]? = some y) : ∃ x, l[j]? = some x ∧ y = .int .u8 x.toNat := by
  simp only [strV, List.getElem?_map, Option.map_eq_some_iff] at h
  obtain ⟨x, h1, h2⟩ := h
  exact ⟨x, h1, h2.symm⟩
theorem strV_at {l : List UInt8} {j : Nat} {x : UInt8} (h : l[j]? = some x) : (strV l)[j]? = some (.int .u8 x.toNat) := by
  simp [strV, h]

/-- A variable of a type that is to be remembered. -/
theorem fs_allocT (T : Tab P) {t : TypeId} {i : TI} (hz : T.ti t = some i) (hag : i.agg = true) : FStep P ⟨d, .alloc t, ty, pos, af, g⟩ env h 1 (fun p => .ptr p 0) (fun _ => [.var t (i.zero.map .v)]) := by
  refine fs_newO fun ρ S a w p => ?_
  obtain ⟨z, h1, h2⟩ := T.zeroV hz w
  refine ⟨.cells z.cells t (0, 0), .pointer (some ⟨w.heap.size, 0, none⟩), ?_, fun pos hpos w' hw' => ⟨?_, ?_⟩⟩
  · simp [execOp, Instr.alloc, h1]
    rfl
  · simp [R, Pl.with]
  · exact ⟨w.heap.size, z.cells, rfl, hw', by rw [h2]; exact RL_vs _⟩

section
variable {n : Nat × Nat} {ops : Array Oper} {rest : List Oper} {K : Env → Hp → Prop}
/-- A string's bytes are appended to a builder's buffer. -/
theorem vc_appendB (T : Tab P) {t e k len dd : Nat} {i : TI} {x y : Operand} {lb l0 : List UInt8} {tS : TypeId} (htS : P.underlying tS = some .string) (hx : evu env x = some (.sl k 0 len 1)) (hy : evu env y = some (.s l0)) (ht : T.elem t = some e) (he : T.ti e = some i) (hs : i.size = 1) (hby : i.bytes = 1)
    (hkk : h[k]? = some (.buf e lb)) (hlen : len = lb.length) (hb : lb.length + l0.length ≤ 140737488355328) (hd : okd (some dd) n = true)
    (hk : VC P n ops rest ((dd, .sl h.length 0 (lb.length + l0.length) 1) :: env) (h.set k .gone ++ [.buf e (lb ++ l0)]) K) :
    VC P n ops (⟨some dd, .call { callee := .builtin .append, args := #[x, y], argTypes := #[t, tS] }, ty, pos, af, none⟩ :: rest) env h K := by
  subst hlen
  intro c ρ S a w Q s hQ
  refine wpList_plain rfl fun K' hK' => ?_
  have p := s.pre
  have hxv := p.evu hx
  have y1 : a.eval y = .string ⟨l0.toArray⟩ := R_v (p.evu hy)
  obtain ⟨inf, z, t1, t2, t3, t4, t5, t6, t7⟩ := T.tiOk e i he
  simp only [R] at hxv
  obtain ⟨a1, c1, x1, x3, hxv⟩ := hxv
  have x2 : lb.length ≤ c1 := by
    rcases hxv with ⟨h0, h1⟩ | ⟨b, o, _, _, h3, _⟩
    · omega
    · exact h3
  have hB : RB S w ρ (ρ k) (.buf e lb) := p.blk k _ hkk
  simp only [RB] at hB
  have hklt : k < h.length := (List.getElem?_eq_some_iff.1 hkk).1
  have ev1 : ∀ r w', (Builtin.append_ #[t, tS] ty #[a.eval x, a.eval y]).run P w = .ok r w' → (execOp a.eval ⟨some dd, .call { callee := .builtin .append, args := #[x, y], argTypes := #[t, tS] }, ty, pos, af, none⟩).run P w = .ok (.value r) w' := fun r w' hr => by
    simp [execOp, resolve, invoke, builtin, hr]
  -- whatever it does: the new object's place, and the world
  have fin : ∀ {r : Value} {w' : World} {q : Option (Nat × Nat)}, (Builtin.append_ #[t, tS] ty #[a.eval x, a.eval y]).run P w = .ok r w' → Ext c.M w w' → (∀ j b, h[j]? = some b → j ≠ k → b ≠ .gone → ∀ b1 o1, ρ j = some (b1, o1) → w'.heap[b1]? = w.heap[b1]?) → (∀ b1, S b1 → w'.heap[b1]? = w.heap[b1]?) →
      (∀ b1 o1, q = some (b1, o1) → c.M b1 ∧ ¬ S b1 ∧ b1 < w'.heap.size ∧ ∀ j b, h[j]? = some b → j ≠ k → b ≠ .gone → ∀ b2 o2, ρ j = some (b2, o2) → b2 ≠ b1) →
      (Later ρ (fun j => if j = h.length then q else ρ j) S S w w' → R S w' (.sl h.length 0 (lb.length + l0.length) 1) (fun j => if j = h.length then q else ρ j) r ∧ RB S w' (fun j => if j = h.length then q else ρ j) q (.buf e (lb ++ l0))) →
      Oper.wp P ⟨some dd, .call { callee := .builtin .append, args := #[x, y], argTypes := #[t, tS] }, ty, pos, af, none⟩ a w K' Q := fun {r w' q} hr hext hoth hst hq hval => by
    unfold Oper.wp
    rw [ev1 r w' hr]
    have hdom := s.hs.dom h.length (Nat.le_refl _)
    have l : Later ρ (fun j => if j = h.length then q else ρ j) S S w w' := ⟨fun j u hu => by
      show (if j = h.length then q else ρ j) = _
      rw [if_neg (fun e => by rw [e, hdom] at hu; cases hu)]; exact hu, fun _ h => h, hst, fun _ _ _ _ _ hr => hext.room hr⟩
    obtain ⟨v1, v2⟩ := hval l
    have hget : ∀ {j : Nat} {b : AB}, (h.set k .gone ++ [.buf e (lb ++ l0)])[j]? = some b → b ≠ .gone → (j < h.length ∧ j ≠ k ∧ h[j]? = some b) ∨ (j = h.length ∧ b = .buf e (lb ++ l0)) := fun {j b} hj hg => by
      by_cases hjl : j < h.length
      · rw [List.getElem?_append_left (by simpa using hjl)] at hj
        by_cases hjk : j = k
        · subst hjk; rw [List.getElem?_set_self hklt] at hj; cases hj; exact absurd rfl hg
        · rw [List.getElem?_set_ne (Ne.symm hjk)] at hj; exact .inl ⟨hjl, hjk, hj⟩
      · rw [List.getElem?_append_right (by simp; omega)] at hj
        simp only [List.length_set] at hj
        by_cases hj0 : j - h.length = 0
        · rw [hj0] at hj; simp at hj; exact .inr ⟨by omega, hj.symm⟩
        · rw [List.getElem?_eq_none (by simp; omega)] at hj; cases hj
    refine hK' _ _ (hk c (fun j => if j = h.length then q else ρ j) S _ w' Q ⟨by rw [size_put]; exact s.size, by rw [defers_put]; exact s.defers.later l, env_put s.size hd (fun tt uu huu => (s.env tt uu huu).later l) v1, ⟨fun j hj => ?_, fun j u hu => ?_, fun j b hj => ?_, fun j b u hj hg hu => ?_, fun j j' b b' u u' hj hj' hg hg' hu hu' e => ?_, fun b1 hb1 => Nat.lt_of_lt_of_le (s.hs.stab b1 hb1) hext.size, s.hs.ext.trans hext (fun _ h _ => h), s.hs.st0, s.hs.st1, by simp; exact Nat.le_trans s.hs.mle (Nat.le_add_right _ _), fun j hj => by
      have := s.hs.mle
      show (if j = h.length then q else ρ j) = _
      rw [if_neg (by omega)]; exact s.hs.keep j hj, s.hs.glob.later l⟩, s.cm⟩ hQ)
    · simp at hj
      show (if j = h.length then q else ρ j) = _
      rw [if_neg (by omega)]; exact s.hs.dom j (by omega)
    · by_cases hj : j = h.length
      · simp only [hj, if_true] at hu
        exact (hq u.1 u.2 hu).2.2.1
      · simp only [hj, if_false] at hu
        exact Nat.lt_of_lt_of_le (s.hs.rng j u hu) hext.size
    · cases b with
      | gone => trivial
      | _ =>
        rcases hget hj (by simp) with ⟨h2, h3, h4⟩ | ⟨h2, h3⟩
        · show RB S w' _ (if j = h.length then q else ρ j) _
          rw [if_neg (by omega)]
          exact RB.later l (fun b1 o1 hp1 => hoth j _ h4 h3 (by simp) b1 o1 hp1) (s.hs.blk j _ h4)
        · subst h2
          show RB S w' _ (if h.length = h.length then q else ρ h.length) _
          rw [if_pos rfl, h3]; exact v2
    · rcases hget hj hg with ⟨h2, h3, h4⟩ | ⟨h2, h3⟩
      · rw [if_neg (by omega)] at hu
        exact s.hs.live j b u h4 hg hu
      · rw [if_pos h2] at hu
        exact ⟨(hq u.1 u.2 hu).1, (hq u.1 u.2 hu).2.1⟩
    · rcases hget hj hg with ⟨h2, h3, h4⟩ | ⟨h2, h3⟩ <;> rcases hget hj' hg' with ⟨h2', h3', h4'⟩ | ⟨h2', h3'⟩
      · rw [if_neg (by omega)] at hu hu'
        exact s.hs.inj j j' b b' u u' h4 h4' hg hg' hu hu' e
      · rw [if_neg (by omega)] at hu
        rw [if_pos h2'] at hu'
        exact absurd e ((hq u'.1 u'.2 hu').2.2.2 j b h4 h3 hg u.1 u.2 hu)
      · rw [if_neg (by omega)] at hu'
        rw [if_pos h2] at hu
        exact absurd e.symm ((hq u.1 u.2 hu).2.2.2 j' b' h4' h3' hg' u'.1 u'.2 hu')
      · omega
  have hoth0 : ∀ (w' : World) (b0 : Nat), (∀ x, x ≠ b0 → w'.heap[x]? = w.heap[x]?) → (∃ o, ρ k = some (b0, o)) → (∀ j b, h[j]? = some b → j ≠ k → b ≠ .gone → ∀ b1 o1, ρ j = some (b1, o1) → w'.heap[b1]? = w.heap[b1]?) ∧ (∀ b1, S b1 → w'.heap[b1]? = w.heap[b1]?) := fun w' b0 hw ⟨o, ho⟩ =>
    ⟨fun j b hj hjk hg b1 o1 h1 => hw b1 (fun e => hjk (s.hs.inj j k b _ _ _ hj hkk hg (by simp) h1 ho e)), fun b1 hb1 => hw b1 (fun e => (s.hs.live k _ _ hkk (by simp) ho).2 (e ▸ hb1))⟩
  have hoth0 : ∀ (w' : World) (b0 : Nat), (∀ x, x ≠ b0 → w'.heap[x]? = w.heap[x]?) → (∃ o, ρ k = some (b0, o)) → (∀ j b, h[j]? = some b → j ≠ k → b ≠ .gone → ∀ b1 o1, ρ j = some (b1, o1) → w'.heap[b1]? = w.heap[b1]?) ∧ (∀ b1, S b1 → w'.heap[b1]? = w.heap[b1]?) := fun w' b0 hw ⟨o, ho⟩ =>
    ⟨fun j b hj hjk hg b1 o1 h1 => hw b1 (fun e => hjk (s.hs.inj j k b _ _ _ hj hkk hg (by simp) h1 ho e)), fun b1 hb1 => hw b1 (fun e => (s.hs.live k _ _ hkk (by simp) ho).2 (e ▸ hb1))⟩
  by_cases hroom : lb.length + l0.length ≤ c1
  · by_cases hm : l0 = []
    · -- nothing is appended
      subst hm
      have hr := run_appendS_same (P := P) (w := w) (t := t) (ty := ty) (T.elemOk _ _ ht) htS t1 (a := a1) x2
      refine fin (q := ρ k) (by rw [x1, y1]; exact hr) (Ext.refl _ _) (fun _ _ _ _ _ _ _ _ => rfl) (fun _ _ => rfl) (fun b1 o1 hq => ?_) (fun l' => ⟨?_, ?_⟩)
      · obtain ⟨m1, m2⟩ := s.hs.live k _ _ hkk (by simp) hq
        exact ⟨m1, m2, s.hs.rng k _ hq, fun j b hj hjk hg b3 o3 h3 e => hjk (s.hs.inj j k b _ _ _ hj hkk hg (by simp) h3 hq e)⟩
      · simp only [R, List.length_nil, Nat.add_zero]
        refine ⟨a1, c1, rfl, x3, ?_⟩
        rcases hxv with e3 | ⟨b, o, f1, f2, f3, f4⟩
        · exact .inl e3
        · exact .inr ⟨b, o, by simp [f1], f2, f3, f4⟩
      · simp only [RB, List.append_nil]
        exact hB
    · -- there is room
      have hpos : 0 < l0.length := List.length_pos_iff.2 hm
      rcases hxv with ⟨e3, e4⟩ | ⟨b, o, f1, f2, f3, ⟨c3, e3, fz3, r1, r2⟩⟩
      · omega
      rcases hB with ⟨_, hB⟩ | ⟨b', cc, g1, f4, g3⟩
      · rw [f1] at hB; cases hB
      rw [f1] at g1
      obtain ⟨rfl, rfl⟩ : b = b' ∧ o = 0 := by simpa using g1
      obtain rfl : cc = c3 := by rw [f4] at r1; cases r1; rfl
      have hone : ∀ u ∈ strV l0, u.oneCell' = true := fun u hu => by obtain ⟨q, _, rfl⟩ := List.mem_map.1 hu; rfl
      have hfit : 0 + lb.length * inf.size + (strV l0).length ≤ cc.size := by rw [t2, hs, strV_length]; omega
      have hr := run_appendS_in (P := P) (w := w) (t := t) (ty := ty) (T.elemOk _ _ ht) htS t1 (b := b) (o := 0) (len := lb.length) (cap := c1) (l := l0) (zs := strV l0) rfl hone f4 hroom hfit
      rw [t2, hs, Nat.mul_one, Nat.zero_add] at hr hfit
      have hcs : ((cc.toList.take lb.length ++ strV l0 ++ cc.toList.drop (lb.length + (strV l0).length)).toArray).size = cc.size := by
        simp only [List.size_toArray, List.length_append, List.length_take, List.length_drop, Array.length_toList]; omega
      have hnew := setRow_heap w b cc (cc.toList.take lb.length ++ strV l0 ++ cc.toList.drop (lb.length + (strV l0).length)).toArray e (0, 0) f4
      obtain ⟨m1, m2⟩ := s.hs.live k _ _ hkk (by simp) f1
      obtain ⟨o1, o2⟩ := hoth0 _ b (fun x hx => setRow_other w b x (cc.toList.take lb.length ++ strV l0 ++ cc.toList.drop (lb.length + (strV l0).length)).toArray hx) ⟨0, f1⟩
      refine fin (q := some (b, 0)) (by rw [x1, y1, f2]; simpa using hr) ((ext_setRow f4 hcs).mono fun x _ hx => by rw [hx]; exact m1) o1 o2 (fun b1 o1 hq => ?_) (fun l' => ⟨?_, ?_⟩)
      · cases hq
        exact ⟨m1, m2, (Array.getElem?_eq_some_iff.1 hnew).1, fun j b hj hjk hg b3 o3 h3 e => hjk (s.hs.inj j k b _ _ _ hj hkk hg (by simp) h3 f1 e)⟩
      · simp only [R]
        refine ⟨_, c1, rfl, x3, .inr ⟨b, 0, by simp, by simp, hroom, _, e, _, hnew, ?_⟩⟩
        rw [hcs]; omega
      · simp only [RB]
        refine .inr ⟨b, _, rfl, hnew, fun j u hj => ?_⟩
        rw [List.getElem?_toArray]
        by_cases hj1 : j < lb.length
        · rw [List.getElem?_append_left hj1] at hj
          rw [List.append_assoc, List.getElem?_append_left (by simp; omega), List.getElem?_take, if_pos hj1]
          simpa using g3 j u hj
        · rw [List.getElem?_append_right (by omega)] at hj
          have hj2 := (List.getElem?_eq_some_iff.1 hj).1
          rw [List.getElem?_append_left (by simp; omega), List.getElem?_append_right (by simp; omega)]
          have e9 : (List.take lb.length cc.toList).length = lb.length := by simp only [List.length_take, Array.length_toList]; omega
          rw [e9]
          exact strV_at hj
  · -- a new row
    have hy0 : lb.length = 0 ∨ ∃ b o, a1 = some ⟨b, o, none⟩ ∧ lies w b o (strV lb) := by
      rcases hxv with ⟨e3, _⟩ | ⟨b, o, f1, f2, f3, _⟩
      · exact .inl e3
      rcases hB with ⟨_, hB⟩ | ⟨b', cc, g1, f4, g3⟩
      · rw [f1] at hB; cases hB
      rw [f1] at g1
      obtain ⟨rfl, rfl⟩ : b = b' ∧ o = 0 := by simpa using g1
      refine .inr ⟨b, 0, by simpa using f2, cc, e, _, f4, fun j y hj => ?_⟩
      obtain ⟨q, q1, rfl⟩ := strV_get hj
      rw [Nat.zero_add]; exact g3 j q q1
    have hr := run_appendS_new (P := P) (w := w) (t := t) (ty := ty) (a := a1) (len := lb.length) (cap := c1) (l := l0) (ys := strV lb) (zs := strV l0) (T.elemOk _ _ ht) htS t1 t4 (by rw [t2, hs]; simp) hy0 rfl (by omega) (by rw [t3, hby]; omega) (by omega)
    have hgc := grownCap_ge w (lb.length + l0.length) c1 e
    have hgm := grownCap_le_maxLen w (lb.length + l0.length) c1 e (by simp only [maxLen]; omega)
    have hzs : z.cells.size = 1 := by rw [← hs, ← t6, ← t5]; simp
    obtain ⟨g1, g2⟩ := grown_cells (ys := strV lb) (zs := strV l0) (len := lb.length) (m := l0.length) hzs (by simp) (by simp) hgc
    have hnew : (w.drew.alloc (.cells ((strV lb).toArray ++ (strV l0).toArray ++ Builtin.zeroCells z.cells (grownCap w (lb.length + l0.length) c1 e - (lb.length + l0.length))) e)).heap[w.heap.size]? = some (.cells _ e (0, 0)) := heap_alloc_new w.drew _
    have hold : ∀ b1, b1 < w.heap.size → (w.drew.alloc (.cells ((strV lb).toArray ++ (strV l0).toArray ++ Builtin.zeroCells z.cells (grownCap w (lb.length + l0.length) c1 e - (lb.length + l0.length))) e)).heap[b1]? = w.heap[b1]? := fun b1 hb1 => RowKit.Below.heap_alloc w.drew _ b1 hb1
    refine fin (q := some (w.heap.size, 0)) (by rw [x1, y1]; exact hr) ((Ext.drew1 w).trans (ext_alloc w.drew _ c.M) (fun _ h _ => h)) (fun j b hj hjk hg b1 o1 h2 => hold b1 (s.hs.rng j _ h2)) (fun b1 hb1 => hold b1 (s.hs.stab b1 hb1)) (fun b1 o1 hq => ?_) (fun l' => ⟨?_, ?_⟩)
    · cases hq
      refine ⟨c.new _ s.hs.ext.size, fun hS => ?_, by simp, fun j b hj hjk hg b2 o2 h2 e => ?_⟩
      · have := s.hs.stab _ hS; omega
      · have := s.hs.rng j _ h2; simp at this; omega
    · simp only [R]
      exact ⟨_, _, rfl, hgm, .inr ⟨w.heap.size, 0, by simp, by simp, hgc, _, e, _, hnew, by rw [Nat.zero_add, Nat.zero_add]; exact g1⟩⟩
    · simp only [RB]
      refine .inr ⟨w.heap.size, _, rfl, hnew, fun j u hj => g2 j _ ?_⟩
      have := strV_at hj
      simpa [strV] using this
end
end
end Go.Ab
