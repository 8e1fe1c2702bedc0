/-
  A logic of values for the walk, seventh part: append.
-/
import Derived.Test.YtgibgknkfcbopaaAb6
namespace Go.Ab
open Go
set_option linter.unusedVariables false
set_option linter.unusedSimpArgs false

section
variable {P : Program} {env : Env} {h : Hp}
variable {d : Option Nat} {ty : TypeId} {pos : String} {af : Array Edge} {g : Option (Nat × Bool)}

/-- The elements of a slice. -/
inductive Elems (h : Hp) : AV → List (List AV) → Nat → Prop
  | sl {k off len sz : Nat} {es : List (List AV)} : h[k]? = some (.arr es sz) → off + len ≤ es.length → Elems h (.sl k off len sz) ((es.drop off).take len) sz
  | row {es : List (List AV)} {sz : Nat} : (∀ e, e ∈ es → e.length = sz) → Elems h (.rowE es sz) es sz
  | nil {sz : Nat} : Elems h .nils [] sz

theorem Elems.whole {k sz n : Nat} {es : List (List AV)} (hk : h[k]? = some (.arr es sz)) (hn : n = es.length) : Elems h (.sl k 0 n sz) es sz := by
  have := Elems.sl (h := h) (off := 0) (len := es.length) hk (by omega)
  subst hn
  simpa using this

/-- What a slice's elements are in the model. -/
theorem elems_val {S : Nat → Prop} {w : World} {ρ : Pl} {x : AV} {y : Value} {es : List (List AV)} {sz : Nat} (hb : ∀ (k : Nat) b, h[k]? = some b → RB S w ρ (ρ k) b) (hy : R S w x ρ y) (he : Elems h x es sz) :
    ∃ a cap ys, y = .slice a es.length cap ∧ es.length ≤ cap ∧ cap ≤ maxLen ∧ (a = none → cap = 0) ∧ ys.length = es.length * sz ∧ RL S w es.flatten ρ ys ∧ (es.length = 0 ∨ ∃ b o, a = some ⟨b, o, none⟩ ∧ lies w b o ys) := by
  cases he with
  | @sl k off len sz es0 hk hle =>
    simp only [R] at hy
    obtain ⟨a, cap, rfl, hcm, h2⟩ := hy
    have hlen : ((es0.drop off).take len).length = len := by rw [List.length_take, List.length_drop]; omega
    rw [hlen]
    have hB := hb k _ hk
    simp only [RB] at hB
    obtain ⟨h3, h4, h5⟩ := hB
    rcases h2 with ⟨rfl, rfl⟩ | ⟨b, o, h6, h7, h8, h9⟩
    · exact ⟨a, 0, [], rfl, by omega, hcm, fun _ => rfl, by simp, by simp [RL], .inl rfl⟩
    · rcases h5 with h5 | ⟨b', o', ys, h10, h11, h12⟩
      · subst h5
        have : len = 0 := by simp at hle; omega
        subst this
        exact ⟨a, cap, [], rfl, h8, hcm, (fun e => by rw [h7] at e; cases e), by simp, by simp [RL], .inl rfl⟩
      · rw [h6] at h10
        cases h10
        refine ⟨a, cap, (ys.drop (off * sz)).take (len * sz), rfl, h8, hcm, fun e => (by rw [h7] at e; cases e), ?_, ?_, .inr ⟨b, o + off * sz, h7, ?_⟩⟩
        · have := RL_length h12
          rw [length_flatten_of h3] at this
          have : off * sz + len * sz ≤ es0.length * sz := by rw [← Nat.add_mul]; exact Nat.mul_le_mul_right _ hle
          rw [List.length_take, List.length_drop]; omega
        · have := RL_take (RL_drop h12 (off * sz)) (len * sz)
          rwa [flatten_drop _ h3, flatten_take _ (fun e he => h3 e (List.mem_of_mem_drop he))] at this
        · obtain ⟨c, e, fz, h13, h14⟩ := h11.lies
          refine ⟨c, e, fz, h13, fun j y hj => ?_⟩
          rw [List.getElem?_take] at hj
          split at hj
          · rw [List.getElem?_drop] at hj
            rw [Nat.add_assoc]; exact h14 _ _ hj
          · cases hj
  | row hes =>
    simp only [R] at hy
    obtain ⟨a, cap, rfl, h1, h2, h3, h4, h5⟩ := hy
    rcases h5 with h5 | ⟨b, o, ys, h6, h7, h8, h9⟩
    · have : es = [] := List.eq_nil_of_length_eq_zero h5
      subst this
      exact ⟨a, cap, [], rfl, h1, h3, h2, by simp, by simp [RL], .inl rfl⟩
    · refine ⟨a, cap, ys, rfl, h1, h3, h2, by rw [RL_length h9]; exact h4, ?_, .inr ⟨b, o, h6, h8⟩⟩
      exact RL_later (fun _ h => h) (fun _ _ => rfl) _ _ ρ _ (fun _ _ h => by cases h) (fun _ _ _ _ h => by cases h) h9
  | nil =>
    have := R_v hy
    subst this
    exact ⟨none, 0, [], rfl, by simp, by simp, fun _ => rfl, by simp, by simp [RL], .inl rfl⟩

theorem lies_cell {w : World} {b o : Nat} {ys : List Value} (hl : lies w b o ys) : ∀ (j : Nat) (y : Value), ys[j]? = some y → w.cell? ((⟨b, o, none⟩ : Addr).add j) = some y := by
  intro j y hj
  obtain ⟨c, e, fz, h1, h2⟩ := hl
  rw [Addr.add_lit]
  simp [World.cell?, h1, h2 j y hj]

theorem run_first {w : World} {size m cap : Nat} {a : Option Addr} {zs : List Value} (hl : zs.length = m * size) (hz : m = 0 ∨ ∃ b o, a = some ⟨b, o, none⟩ ∧ lies w b o zs) : (Builtin.firstCells size m (.slice a m cap)).run P w = .ok zs.toArray w := by
  rcases hz with rfl | ⟨b, o, rfl, hz⟩
  · have : zs = [] := List.eq_nil_of_length_eq_zero (by simpa using hl)
    subst this
    cases a with
    | none => simp [Builtin.firstCells]
    | some a => simp [Builtin.firstCells, loadCells, loadCellsFrom]
  · exact run_firstCells_some w size m _ m cap zs hl (lies_cell hz)

/-- 'append' in the model: in place, or into a new row. -/
theorem run_append_in {w : World} {t ty e : TypeId} {i : TypeInfo} (ht : P.underlying t = some (.slice e)) (hi : P.info? e = some i) {b o len cap m c2 : Nat} {a2 : Option Addr} {zs : List Value} (hl : zs.length = m * i.size) (hz : m = 0 ∨ ∃ b o, a2 = some ⟨b, o, none⟩ ∧ lies w b o zs) (h1 : ∀ u ∈ zs, u.oneCell' = true)
    {cc : Array Value} {ee : TypeId} (hc : w.heap[b]? = some (.cells cc ee (0, 0))) (hroom : len + m ≤ cap) (hfit : o + len * i.size + zs.length ≤ cc.size) :
    (Builtin.append_ #[t, t] ty #[.slice (some ⟨b, o, none⟩) len cap, .slice a2 m c2]).run P w = .ok (.slice (some ⟨b, o, none⟩) (len + m) cap) (w.setRow b (cc.toList.take (o + len * i.size) ++ zs ++ cc.toList.drop (o + len * i.size + zs.length)).toArray) := by
  have hf := run_first (P := P) (cap := c2) hl hz
  have hst := run_storeCells_at P b (o + len * i.size) ee zs 0 cc w hc (by simpa using hfit) h1
  simp only [Nat.add_zero] at hst
  simp [Builtin.append_, run_underlying ht, sizeOf, typeInfo, hi, Builtin.lenOf, hroom, hf, Addr.add_lit, hst]
theorem run_append_same {w : World} {t ty e : TypeId} {i : TypeInfo} (ht : P.underlying t = some (.slice e)) (hi : P.info? e = some i) {a a2 : Option Addr} {len cap c2 : Nat} (hlc : len ≤ cap) :
    (Builtin.append_ #[t, t] ty #[.slice a len cap, .slice a2 0 c2]).run P w = .ok (.slice a len cap) w := by
  have hf := run_first (P := P) (w := w) (size := i.size) (m := 0) (cap := c2) (a := a2) (zs := []) (by simp) (.inl rfl)
  cases a with
  | none => simp [Builtin.append_, run_underlying ht, sizeOf, typeInfo, hi, Builtin.lenOf, hlc, hf]
  | some a => simp [Builtin.append_, run_underlying ht, sizeOf, typeInfo, hi, Builtin.lenOf, hlc, hf, storeCells]
theorem run_append_new {w : World} {t ty e : TypeId} {i : TypeInfo} {z : Value} (ht : P.underlying t = some (.slice e)) (hi : P.info? e = some i) (hz0 : i.zero = some z) {a a2 : Option Addr} {len cap m c2 : Nat} {ys zs : List Value} (hly : ys.length = len * i.size) (hy : len = 0 ∨ ∃ b o, a = some ⟨b, o, none⟩ ∧ lies w b o ys)
    (hl : zs.length = m * i.size) (hz : m = 0 ∨ ∃ b o, a2 = some ⟨b, o, none⟩ ∧ lies w b o zs) (hg : cap < len + m) (hb : (len + m) * i.bytes ≤ 140737488355328) (h63 : len + m ≤ 9223372036854775807) :
    (Builtin.append_ #[t, t] ty #[.slice a len cap, .slice a2 m c2]).run P w = .ok (.slice (some ⟨w.heap.size, 0, none⟩) (len + m) (grownCap w (len + m) cap e)) (w.drew.alloc (.cells (ys.toArray ++ zs.toArray ++ Builtin.zeroCells z.cells (grownCap w (len + m) cap e - (len + m))) e)) := by
  have hn : ¬ (len + m ≤ cap) := by omega
  have hx : ((len + m : Nat) : Int) ≤ 9223372036854775807 := by omega
  have h63' : ¬ (9223372036854775807 < ((len : Int) + (m : Int))) := by omega
  have hfit := growslice_fits (old := cap) (need := len + m) (by omega) hb
  have h48' : ¬ (281474976710656 < Builtin.nextslicecap (len + m) cap * i.bytes) := by omega
  have hd : ∀ {b o : Nat} {l : List Value}, lies w b o l → lies w.drew b o l := fun h => h
  have hf := run_first (P := P) (w := w.drew) (size := i.size) (cap := c2) hl (hz.imp id fun ⟨b, o, h1, h2⟩ => ⟨b, o, h1, hd h2⟩)
  have hfo := run_first (P := P) (w := w.drew) (size := i.size) (cap := cap) hly (hy.imp id fun ⟨b, o, h1, h2⟩ => ⟨b, o, h1, hd h2⟩)
  simp [Builtin.append_, run_underlying ht, sizeOf, typeInfo, zeroValue, hi, hz0, Builtin.lenOf, hn, h63', h48', Question.forced, hf, hfo, newRow, grownCap, -List.append_toArray]

theorem lies_alloc {w : World} {o : Obj} {b x : Nat} {ys : List Value} (h : lies w b x ys) : lies (w.drew.alloc o) b x ys := by
  obtain ⟨c, e, fz, h1, h2⟩ := h
  exact ⟨c, e, fz, by rw [RowKit.Below.heap_alloc w.drew o b (Array.getElem?_eq_some_iff.1 h1).1]; exact h1, h2⟩

theorem grown_cells {z : Value} {ys zs : List Value} {n len m size : Nat} (hz : z.cells.size = size) (hly : ys.length = len * size) (hlz : zs.length = m * size) (hn : len + m ≤ n) :
    n * size ≤ (ys.toArray ++ zs.toArray ++ Builtin.zeroCells z.cells (n - (len + m))).size ∧ ∀ (j : Nat) (y : Value), (ys ++ zs)[j]? = some y → (ys.toArray ++ zs.toArray ++ Builtin.zeroCells z.cells (n - (len + m)))[j]? = some y := by
  refine ⟨?_, fun j y hj => ?_⟩
  · simp only [Array.size_append, List.size_toArray, size_zeroCells, hz, hly, hlz, ← Nat.add_mul]
    exact Nat.mul_le_mul_right _ (by omega)
  · have hlt := (List.getElem?_eq_some_iff.1 hj).1
    rw [Array.getElem?_append_left (by simpa using hlt)]
    simpa using hj

/-- 'append' to a slice of one's own (it may lie anywhere in its object); what it was appended to is gone. -/
theorem vc_append {n : Nat × Nat} {ops : Array Oper} {rest : List Oper} {K : Env → Hp → Prop} (T : Tab P) {t e k off len sz dd : Nat} {i : TI} {x y : Operand} {v : AV} {es news : List (List AV)} (hx : evu env x = some (.sl k off len sz)) (hy : evu env y = some v) (ht : T.elem t = some e) (he : T.ti e = some i) (hs : i.size = sz)
    (hkk : h[k]? = some (.arr es sz)) (hle : off + len ≤ es.length) (hn : Elems h v news sz) (h1 : news.flatten.all AV.one = true) (hb : (len + news.length) * i.bytes ≤ 140737488355328) (h63 : len + news.length ≤ 9223372036854775807) (hd : okd (some dd) n = true)
    (hk : VC P n ops rest ((dd, .sl h.length 0 (len + news.length) sz) :: env) (h.set k .gone ++ [.arr ((es.drop off).take len ++ news) sz]) K) :
    VC P n ops (⟨some dd, .call { callee := .builtin .append, args := #[x, y], argTypes := #[t, t] }, ty, pos, af, none⟩ :: rest) env h K := by
  intro c ρ S a w Q s hQ
  refine wpList_plain rfl fun K' hK' => ?_
  have p := s.pre
  have hxv := p.evu hx
  obtain ⟨a2, c2, zs, y1, y2, y3, y4, y5, y6, y7⟩ := elems_val p.blk (p.evu hy) hn
  obtain ⟨inf, z, t1, t2, t3, t4, t5, t6, t7⟩ := T.tiOk e i he
  have hone := one_all y6 h1
  have hxe : Elems h (.sl k off len sz) ((es.drop off).take len) sz := .sl hkk hle
  obtain ⟨a1, c1, ys, x1, x2, x3, x4, x5, x6, x7⟩ := elems_val p.blk hxv hxe
  have hlen : ((es.drop off).take len).length = len := by rw [List.length_take, List.length_drop]; omega
  rw [hlen] at x1 x2 x5 x7
  have hB := p.blk k _ hkk
  simp only [RB] at hB
  obtain ⟨hes, hs0, hB⟩ := hB
  have hnl : ∀ q, q ∈ news → q.length = sz := by
    cases hn with
    | sl hk2 _ =>
      have := p.blk _ _ hk2
      simp only [RB] at this
      exact fun q hq => this.1 q (List.mem_of_mem_drop (List.mem_of_mem_take hq))
    | row h => exact h
    | nil => exact fun q hq => by cases hq
  have hall : ∀ q, q ∈ (es.drop off).take len ++ news → q.length = sz := fun q hq => by
    rcases List.mem_append.1 hq with hq | hq
    · exact hes q (List.mem_of_mem_drop (List.mem_of_mem_take hq))
    · exact hnl q hq
  have hklt : k < h.length := (List.getElem?_eq_some_iff.1 hkk).1
  have ev1 : ∀ r w', (Builtin.append_ #[t, t] ty #[a.eval x, a.eval y]).run P w = .ok r w' → (execOp a.eval ⟨some dd, .call { callee := .builtin .append, args := #[x, y], argTypes := #[t, t] }, ty, pos, af, none⟩).run P w = .ok (.value r) w' := fun r w' hr => by
    simp [execOp, resolve, invoke, builtin, hr]
  -- whatever it does: the new object's place, and the world
  have fin : ∀ {r : Value} {w' : World} {q : Option (Nat × Nat)}, (Builtin.append_ #[t, t] ty #[a.eval x, a.eval y]).run P w = .ok r w' → Ext c.M w w' → (∀ j b, h[j]? = some b → j ≠ k → b ≠ .gone → ∀ b1 o1, ρ j = some (b1, o1) → w'.heap[b1]? = w.heap[b1]?) → (∀ b1, S b1 → w'.heap[b1]? = w.heap[b1]?) →
      (∀ b1 o1, q = some (b1, o1) → c.M b1 ∧ ¬ S b1 ∧ b1 < w'.heap.size ∧ ∀ j b, h[j]? = some b → j ≠ k → b ≠ .gone → ∀ b2 o2, ρ j = some (b2, o2) → b2 ≠ b1) →
      (Later ρ (fun j => if j = h.length then q else ρ j) S S w w' → R S w' (.sl h.length 0 (len + news.length) sz) (fun j => if j = h.length then q else ρ j) r ∧ RB S w' (fun j => if j = h.length then q else ρ j) q (.arr ((es.drop off).take len ++ news) sz)) →
      Oper.wp P ⟨some dd, .call { callee := .builtin .append, args := #[x, y], argTypes := #[t, t] }, ty, pos, af, none⟩ a w K' Q := fun {r w' q} hr hext hoth hst hq hval => by
    unfold Oper.wp
    rw [ev1 r w' hr]
    have hdom := s.hs.dom h.length (Nat.le_refl _)
    have l : Later ρ (fun j => if j = h.length then q else ρ j) S S w w' := ⟨fun j u hu => by
      show (if j = h.length then q else ρ j) = _
      rw [if_neg (fun e => by rw [e, hdom] at hu; cases hu)]; exact hu, fun _ h => h, hst, fun _ _ _ _ _ hr => hext.room hr⟩
    obtain ⟨v1, v2⟩ := hval l
    have hget : ∀ {j : Nat} {b : AB}, (h.set k .gone ++ [.arr ((es.drop off).take len ++ news) sz])[j]? = some b → b ≠ .gone → (j < h.length ∧ j ≠ k ∧ h[j]? = some b) ∨ (j = h.length ∧ b = .arr ((es.drop off).take len ++ news) sz) := fun {j b} hj hg => by
      by_cases hjl : j < h.length
      · rw [List.getElem?_append_left (by simpa using hjl)] at hj
        by_cases hjk : j = k
        · subst hjk; rw [List.getElem?_set_self hklt] at hj; cases hj; exact absurd rfl hg
        · rw [List.getElem?_set_ne (Ne.symm hjk)] at hj; exact .inl ⟨hjl, hjk, hj⟩
      · rw [List.getElem?_append_right (by simp; omega)] at hj
        simp only [List.length_set] at hj
        by_cases hj0 : j - h.length = 0
        · rw [hj0] at hj; simp at hj; exact .inr ⟨by omega, hj.symm⟩
        · rw [List.getElem?_eq_none (by simp; omega)] at hj; cases hj
    refine hK' _ _ (hk c (fun j => if j = h.length then q else ρ j) S _ w' Q ⟨by rw [size_put]; exact s.size, by rw [defers_put]; exact s.defers.later l, env_put s.size hd (fun tt uu huu => (s.env tt uu huu).later l) v1, ⟨fun j hj => ?_, fun j u hu => ?_, fun j b hj => ?_, fun j b u hj hg hu => ?_, fun j j' b b' u u' hj hj' hg hg' hu hu' e => ?_, fun b1 hb1 => Nat.lt_of_lt_of_le (s.hs.stab b1 hb1) hext.size, s.hs.ext.trans hext (fun _ h _ => h), s.hs.st0, s.hs.st1, by simp; exact Nat.le_trans s.hs.mle (Nat.le_add_right _ _), fun j hj => by
      have := s.hs.mle
      show (if j = h.length then q else ρ j) = _
      rw [if_neg (by omega)]; exact s.hs.keep j hj⟩, s.cm⟩ hQ)
    · simp at hj
      show (if j = h.length then q else ρ j) = _
      rw [if_neg (by omega)]; exact s.hs.dom j (by omega)
    · by_cases hj : j = h.length
      · simp only [hj, if_true] at hu
        exact (hq u.1 u.2 hu).2.2.1
      · simp only [hj, if_false] at hu
        exact Nat.lt_of_lt_of_le (s.hs.rng j u hu) hext.size
    · cases b with
      | gone => trivial
      | _ =>
        rcases hget hj (by simp) with ⟨h2, h3, h4⟩ | ⟨h2, h3⟩
        · show RB S w' _ (if j = h.length then q else ρ j) _
          rw [if_neg (by omega)]
          exact RB.later l (fun b1 o1 hp1 => hoth j _ h4 h3 (by simp) b1 o1 hp1) (s.hs.blk j _ h4)
        · subst h2
          show RB S w' _ (if h.length = h.length then q else ρ h.length) _
          rw [if_pos rfl, h3]; exact v2
    · rcases hget hj hg with ⟨h2, h3, h4⟩ | ⟨h2, h3⟩
      · rw [if_neg (by omega)] at hu
        exact s.hs.live j b u h4 hg hu
      · rw [if_pos h2] at hu
        exact ⟨(hq u.1 u.2 hu).1, (hq u.1 u.2 hu).2.1⟩
    · rcases hget hj hg with ⟨h2, h3, h4⟩ | ⟨h2, h3⟩ <;> rcases hget hj' hg' with ⟨h2', h3', h4'⟩ | ⟨h2', h3'⟩
      · rw [if_neg (by omega)] at hu hu'
        exact s.hs.inj j j' b b' u u' h4 h4' hg hg' hu hu' e
      · rw [if_neg (by omega)] at hu
        rw [if_pos h2'] at hu'
        exact absurd e ((hq u'.1 u'.2 hu').2.2.2 j b h4 h3 hg u.1 u.2 hu)
      · rw [if_neg (by omega)] at hu'
        rw [if_pos h2] at hu
        exact absurd e.symm ((hq u.1 u.2 hu).2.2.2 j' b' h4' h3' hg' u'.1 u'.2 hu')
      · omega
  have hoth0 : ∀ (w' : World) (b0 : Nat), (∀ x, x ≠ b0 → w'.heap[x]? = w.heap[x]?) → (∃ o, ρ k = some (b0, o)) → (∀ j b, h[j]? = some b → j ≠ k → b ≠ .gone → ∀ b1 o1, ρ j = some (b1, o1) → w'.heap[b1]? = w.heap[b1]?) ∧ (∀ b1, S b1 → w'.heap[b1]? = w.heap[b1]?) := fun w' b0 hw ⟨o, ho⟩ =>
    ⟨fun j b hj hjk hg b1 o1 h1 => hw b1 (fun e => hjk (s.hs.inj j k b _ _ _ hj hkk hg (by simp) h1 ho e)), fun b1 hb1 => hw b1 (fun e => (s.hs.live k _ _ hkk (by simp) ho).2 (e ▸ hb1))⟩
  have hxy : a.eval x = .slice a1 len c1 ∧ a.eval y = .slice a2 news.length c2 := ⟨x1, y1⟩
  by_cases hroom : len + news.length ≤ c1
  · by_cases hm : news.length = 0
    · -- nothing is appended
      have hnews : news = [] := List.eq_nil_of_length_eq_zero hm
      subst hnews
      have hr := run_append_same (P := P) (w := w) (t := t) (ty := ty) (a2 := a2) (c2 := c2) (T.elemOk _ _ ht) t1 (a := a1) x2
      simp only [R] at hxv
      obtain ⟨a1', c1', e1, e2, e3⟩ := hxv
      rw [x1] at e1
      cases e1
      refine fin (q := (ρ k).map fun q => (q.1, q.2 + off * sz)) (by rw [hxy.1, hxy.2]; exact hr) (Ext.refl _ _) (fun _ _ _ _ _ _ _ _ => rfl) (fun _ _ => rfl) (fun b1 o1 hq => ?_) (fun l => ⟨?_, ?_⟩)
      · obtain ⟨⟨b2, o2⟩, h2, h3⟩ := Option.map_eq_some_iff.1 hq
        cases h3
        obtain ⟨m1, m2⟩ := s.hs.live k _ _ hkk (by simp) h2
        exact ⟨m1, m2, s.hs.rng k _ h2, fun j b hj hjk hg b3 o3 h3 e => hjk (s.hs.inj j k b _ _ _ hj hkk hg (by simp) h3 h2 e)⟩
      · simp only [R]
        refine ⟨a1, c1, rfl, e2, ?_⟩
        rcases e3 with e3 | ⟨b, o, f1, f2, f3, f4⟩
        · exact .inl e3
        · exact .inr ⟨b, o + off * sz, by simp [f1], by simpa using f2, f3, by
            have : o + off * sz + (0 + c1) * sz = o + (off + c1) * sz := by rw [Nat.zero_add, Nat.add_mul, Nat.add_assoc]
            rw [this]; exact f4⟩
      · simp only [RB, List.append_nil]
        refine ⟨fun q hq => hall q (by simpa using hq), hs0, ?_⟩
        rcases hB with hB | ⟨b, o, ws, f1, ⟨cc, ee, f2, f3⟩, f4⟩
        · left; subst hB; simp
        · right
          refine ⟨b, o + off * sz, (ws.drop (off * sz)).take (len * sz), by simp [f1], ⟨cc, ee, f2, fun j u hj => ?_⟩, ?_⟩
          · rw [List.getElem?_take] at hj
            split at hj
            · rw [List.getElem?_drop] at hj
              rw [Nat.add_assoc]; exact f3 _ _ hj
            · cases hj
          · have := RL_take (RL_drop (f4.later l) (off * sz)) (len * sz)
            rwa [flatten_drop _ hes, flatten_take _ (fun e he => hes e (List.mem_of_mem_drop he))] at this
    · -- there is room
      simp only [R] at hxv
      obtain ⟨a1', c1', e1, e2, e3⟩ := hxv
      rw [x1] at e1
      cases e1
      rcases e3 with ⟨e3, e4⟩ | ⟨b, o, f1, f2, f3, ⟨cc, ee, f4, f5⟩⟩
      · omega
      have hmul : (off + len) * sz + news.length * sz ≤ (off + c1) * sz := by rw [← Nat.add_mul]; exact Nat.mul_le_mul_right _ (by omega)
      have hfit : o + off * sz + len * inf.size + zs.length ≤ cc.size := by
        rw [t2, hs, y5]
        have : (off + len) * sz = off * sz + len * sz := Nat.add_mul _ _ _
        omega
      have hr := run_append_in (P := P) (w := w) (t := t) (ty := ty) (a2 := a2) (c2 := c2) (T.elemOk _ _ ht) t1 (b := b) (o := o + off * sz) (len := len) (cap := c1) (m := news.length) (by rw [t2, hs]; exact y5) y7 hone f4 hroom hfit
      rw [t2, hs] at hr hfit
      have hyl : ys.length = len * sz := x5
      have hx8 : len = 0 ∨ ∃ b o, a1 = some ⟨b, o, none⟩ ∧ lies w b o ys := x7
      have hcs : ((cc.toList.take (o + off * sz + len * sz) ++ zs ++ cc.toList.drop (o + off * sz + len * sz + zs.length)).toArray).size = cc.size := by
        simp only [List.size_toArray, List.length_append, List.length_take, List.length_drop, Array.length_toList]; omega
      have hnew := setRow_heap w b cc (cc.toList.take (o + off * sz + len * sz) ++ zs ++ cc.toList.drop (o + off * sz + len * sz + zs.length)).toArray ee (0, 0) f4
      obtain ⟨m1, m2⟩ := s.hs.live k _ _ hkk (by simp) f1
      obtain ⟨o1, o2⟩ := hoth0 _ b (fun x hx => setRow_other w b x (cc.toList.take (o + off * sz + len * sz) ++ zs ++ cc.toList.drop (o + off * sz + len * sz + zs.length)).toArray hx) ⟨o, f1⟩
      refine fin (q := some (b, o + off * sz)) (by rw [hxy.1, hxy.2, f2]; exact hr) ((ext_setRow f4 hcs).mono fun x _ hx => by rw [hx]; exact m1) o1 o2 (fun b1 o1 hq => ?_) (fun l => ⟨?_, ?_⟩)
      · cases hq
        exact ⟨m1, m2, (Array.getElem?_eq_some_iff.1 hnew).1, fun j b hj hjk hg b3 o3 h3 e => hjk (s.hs.inj j k b _ _ _ hj hkk hg (by simp) h3 f1 e)⟩
      · simp only [R]
        refine ⟨_, c1, rfl, e2, .inr ⟨b, o + off * sz, by simp, by simp, hroom, _, ee, hnew, ?_⟩⟩
        rw [hcs, Nat.zero_add]
        have : (off + c1) * sz = off * sz + c1 * sz := Nat.add_mul _ _ _
        omega
      · simp only [RB]
        refine ⟨hall, hs0, .inr ⟨b, o + off * sz, ys ++ zs, rfl, ⟨_, ee, hnew, fun j u hj => ?_⟩, ?_⟩⟩
        · rw [List.getElem?_toArray]
          by_cases hj1 : j < ys.length
          · rw [List.getElem?_append_left hj1] at hj
            rcases hx8 with h0 | ⟨b', o', g1, ⟨c', e', fz, g2, g3⟩⟩
            · subst h0; simp at hyl; omega
            rw [f2] at g1
            cases g1
            rw [f4] at g2
            cases g2
            rw [List.append_assoc, List.getElem?_append_left (by simp; omega), List.getElem?_take, if_pos (by omega)]
            simpa using g3 j u hj
          · rw [List.getElem?_append_right (by omega)] at hj
            have hj2 := (List.getElem?_eq_some_iff.1 hj).1
            rw [List.getElem?_append_left (by simp; omega), List.getElem?_append_right (by simp; omega), ← hj]
            congr 1
            simp only [List.length_take, Array.length_toList]
            omega
        · rw [List.flatten_append]
          exact RL_append (x6.later l) (y6.later l)
  · -- a new row
    have hr := run_append_new (P := P) (w := w) (t := t) (ty := ty) (c2 := c2) (a := a1) (len := len) (cap := c1) (m := news.length) (T.elemOk _ _ ht) t1 t4 (by rw [t2, hs]; exact x5) x7 (by rw [t2, hs]; exact y5) y7 (by omega) (by rw [t3]; exact hb) h63
    have hgc := grownCap_ge w (len + news.length) c1 e
    have hgm := grownCap_le_maxLen w (len + news.length) c1 e (by simp only [maxLen]; omega)
    have hzs : z.cells.size = sz := by rw [← hs, ← t6, ← t5]; simp
    obtain ⟨g1, g2⟩ := grown_cells hzs x5 y5 hgc
    have hnew : (w.drew.alloc (.cells (ys.toArray ++ zs.toArray ++ Builtin.zeroCells z.cells (grownCap w (len + news.length) c1 e - (len + news.length))) e)).heap[w.heap.size]? = some (.cells _ e (0, 0)) := heap_alloc_new w.drew _
    have hold : ∀ b1, b1 < w.heap.size → (w.drew.alloc (.cells (ys.toArray ++ zs.toArray ++ Builtin.zeroCells z.cells (grownCap w (len + news.length) c1 e - (len + news.length))) e)).heap[b1]? = w.heap[b1]? := fun b1 hb1 => RowKit.Below.heap_alloc w.drew _ b1 hb1
    refine fin (q := some (w.heap.size, 0)) (by rw [hxy.1, hxy.2]; exact hr) ((Ext.drew1 w).trans (ext_alloc w.drew _ c.M) (fun _ h _ => h)) (fun j b hj hjk hg b1 o1 h2 => hold b1 (s.hs.rng j _ h2)) (fun b1 hb1 => hold b1 (s.hs.stab b1 hb1)) (fun b1 o1 hq => ?_) (fun l => ⟨?_, ?_⟩)
    · cases hq
      refine ⟨c.new _ s.hs.ext.size, fun hS => ?_, by simp, fun j b hj hjk hg b2 o2 h2 e => ?_⟩
      · have := s.hs.stab _ hS; omega
      · have := s.hs.rng j _ h2; simp at this; omega
    · simp only [R]
      exact ⟨_, _, rfl, hgm, .inr ⟨w.heap.size, 0, by simp, by simp, hgc, _, e, hnew, by rw [Nat.zero_add, Nat.zero_add]; exact g1⟩⟩
    · simp only [RB]
      refine ⟨hall, hs0, .inr ⟨w.heap.size, 0, ys ++ zs, rfl, ⟨_, e, hnew, fun j u hj => by rw [Nat.zero_add]; exact g2 j u hj⟩, ?_⟩⟩
      rw [List.flatten_append]
      exact RL_append (x6.later l) (y6.later l)

end
end Go.Ab
