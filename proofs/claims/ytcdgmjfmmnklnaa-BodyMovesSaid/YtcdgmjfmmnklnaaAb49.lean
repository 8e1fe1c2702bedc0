/-
  A logic of values for the walk: appends and the reading of a buffer as steps that may float.
-/
import Derived.Test.YtcdgmjfmmnklnaaAb48
import Derived.Test.YtcdgmjfmmnklnaaAb46
namespace Go.Ab
open Go
set_option linter.unusedVariables false
set_option linter.unusedSimpArgs false
theorem HS.moved {c : Ctx} {ρ : Pl} {S : Nat → Prop} {H : Hp} {w w' : World} {k pp : Nat} {q : Option (Nat × Nat)} {nb : AB} (g : HS c ρ S H w) (hpk : pp ≠ k) (hH : H[pp]? = some .gone) (hρ : ρ pp = Option.none) (hm : c.m ≤ pp) (hext : Ext c.M w w')
    (hoth : ∀ j b, H[j]? = some b → j ≠ k → b ≠ .gone → ∀ b1 o1, ρ j = some (b1, o1) → w'.heap[b1]? = w.heap[b1]?) (hst : ∀ b1, S b1 → w'.heap[b1]? = w.heap[b1]?)
    (hq : ∀ b1 o1, q = some (b1, o1) → c.M b1 ∧ ¬ S b1 ∧ b1 < w'.heap.size ∧ ∀ j b, H[j]? = some b → j ≠ k → b ≠ .gone → ∀ b2 o2, ρ j = some (b2, o2) → b2 ≠ b1)
    (hv : Later ρ (fun j => if j = pp then q else ρ j) S S w w' → RB S w' (fun j => if j = pp then q else ρ j) q nb) :
    HS c (fun j => if j = pp then q else ρ j) S ((H.set k .gone).set pp nb) w' ∧ Later ρ (fun j => if j = pp then q else ρ j) S S w w' := by
  have hplt : pp < H.length := (List.getElem?_eq_some_iff.1 hH).1
  have l : Later ρ (fun j => if j = pp then q else ρ j) S S w w' := ⟨fun j u hu => by
    show (if j = pp then q else ρ j) = _
    rw [if_neg (fun e => by rw [e, hρ] at hu; cases hu)]; exact hu, fun _ h => h, hst, fun _ _ _ _ _ hr => hext.room hr⟩
  have v2 := hv l
  have hget : ∀ {j : Nat} {b : AB}, ((H.set k .gone).set pp nb)[j]? = some b → b ≠ .gone → (j ≠ pp ∧ j ≠ k ∧ H[j]? = some b) ∨ (j = pp ∧ b = nb) := fun {j b} hj hg => by
    by_cases hjp : j = pp
    · subst hjp
      rw [List.getElem?_set_self (by simpa using hplt)] at hj
      cases hj; exact .inr ⟨rfl, rfl⟩
    · rw [List.getElem?_set_ne (Ne.symm hjp)] at hj
      by_cases hjk : j = k
      · subst hjk
        rw [List.getElem?_set] at hj
        simp only [if_true] at hj
        split at hj
        · cases hj; exact absurd rfl hg
        · cases hj
      · rw [List.getElem?_set_ne (Ne.symm hjk)] at hj; exact .inl ⟨hjp, hjk, hj⟩
  refine ⟨⟨fun j hj => ?_, fun j u hu => ?_, fun j b hj => ?_, fun j b u hj hg hu => ?_, fun j j' b b' u u' hj hj' hg hg' hu hu' e => ?_, fun b1 hb1 => Nat.lt_of_lt_of_le (g.stab b1 hb1) hext.size, g.ext.trans hext (fun _ h _ => h), g.st0, g.st1, by simpa using g.mle, fun j hj => by
      show (if j = pp then q else ρ j) = _
      rw [if_neg (by omega)]; exact g.keep j hj, g.glob.later l⟩, l⟩
  · simp at hj
    show (if j = pp then q else ρ j) = _
    rw [if_neg (by omega)]; exact g.dom j (by omega)
  · by_cases hj : j = pp
    · simp only [hj, if_true] at hu
      exact (hq u.1 u.2 hu).2.2.1
    · simp only [hj, if_false] at hu
      exact Nat.lt_of_lt_of_le (g.rng j u hu) hext.size
  · by_cases hbg : b = .gone
    · subst hbg; trivial
    · rcases hget hj hbg with ⟨h2, h3, h4⟩ | ⟨h2, h3⟩
      · show RB S w' _ (if j = pp then q else ρ j) _
        rw [if_neg h2]
        exact RB.later l (fun b1 o1 hp1 => hoth j _ h4 h3 hbg b1 o1 hp1) (g.blk j _ h4)
      · subst h2
        show RB S w' _ (if j = j then q else ρ j) _
        rw [if_pos rfl, h3]; exact v2
  · rcases hget hj hg with ⟨h2, h3, h4⟩ | ⟨h2, h3⟩
    · rw [if_neg h2] at hu
      exact g.live j b u h4 hg hu
    · rw [if_pos h2] at hu
      exact ⟨(hq u.1 u.2 hu).1, (hq u.1 u.2 hu).2.1⟩
  · rcases hget hj hg with ⟨h2, h3, h4⟩ | ⟨h2, h3⟩ <;> rcases hget hj' hg' with ⟨h2', h3', h4'⟩ | ⟨h2', h3'⟩
    · rw [if_neg h2] at hu
      rw [if_neg h2'] at hu'
      exact g.inj j j' b b' u u' h4 h4' hg hg' hu hu' e
    · rw [if_neg h2] at hu
      rw [if_pos h2'] at hu'
      exact absurd e ((hq u'.1 u'.2 hu').2.2.2 j b h4 h3 hg u.1 u.2 hu)
    · rw [if_neg h2'] at hu'
      rw [if_pos h2] at hu
      exact absurd e.symm ((hq u.1 u.2 hu).2.2.2 j' b' h4' h3' hg' u'.1 u'.2 hu')
    · omega
section
variable {P : Program} {env : Env} {h : Hp}
variable {ty : TypeId} {pos : String} {af : Array Edge}
theorem as_append (T : Tab P) {t e k off len sz pp dd : Nat} {i : TI} {x y : Operand} {v : AV} {es news : List (List AV)} (hx : evu env x = some (.sl k off len sz)) (hy : evu env y = some v) (ht : T.elem t = some e) (he : T.ti e = some i) (hs : i.size = sz)
    (hkk : h[k]? = some (.arr es sz)) (hle : off + len ≤ es.length) (hn : Elems h v news sz) (h1 : news.flatten.all AV.one = true) (hb : (len + news.length) * i.bytes ≤ 140737488355328) (h63 : len + news.length ≤ 9223372036854775807) :
    AStep P ⟨some dd, .call { callee := .builtin .append, args := #[x, y], argTypes := #[t, t] }, ty, pos, af, none⟩ env h pp k .gone (.sl pp 0 (len + news.length) sz) [.arr ((es.drop off).take len ++ news) sz] := by
  intro c ρ S a w H g p hbel hpp K' Q hK'
  have hKK := hbel k _ hkk (by simp)
  obtain ⟨hr0, hH0, hm0⟩ : ρ pp = none ∧ H[pp]? = some .gone ∧ c.m ≤ pp := by
    rcases hpp with h0 | h0
    · cases h0
    · exact h0
  have hpk : pp ≠ k := fun e => by rw [e, hKK] at hH0; cases hH0
  have hxv := p.evu hx
  obtain ⟨a2, c2, zs, y1, y2, y3, y4, y5, y6, y7⟩ := elems_val p.blk (p.evu hy) hn
  obtain ⟨inf, z, t1, t2, t3, t4, t5, t6, t7⟩ := T.tiOk e i he
  have hone := one_all y6 h1
  have hxe : Elems h (.sl k off len sz) ((es.drop off).take len) sz := .sl hkk hle
  obtain ⟨a1, c1, ys, x1, x2, x3, x4, x5, x6, x7⟩ := elems_val p.blk hxv hxe
  have hlen : ((es.drop off).take len).length = len := by rw [List.length_take, List.length_drop]; omega
  rw [hlen] at x1 x2 x5 x7
  have hB := p.blk k _ hkk
  simp only [RB] at hB
  obtain ⟨hes, hs0, hB⟩ := hB
  have hnl : ∀ q, q ∈ news → q.length = sz := by
    cases hn with
    | sl hk2 _ =>
      have := p.blk _ _ hk2
      simp only [RB] at this
      exact fun q hq => this.1 q (List.mem_of_mem_drop (List.mem_of_mem_take hq))
    | row h => exact h
    | nil => exact fun q hq => by cases hq
  have hall : ∀ q, q ∈ (es.drop off).take len ++ news → q.length = sz := fun q hq => by
    rcases List.mem_append.1 hq with hq | hq
    · exact hes q (List.mem_of_mem_drop (List.mem_of_mem_take hq))
    · exact hnl q hq
  have ev1 : ∀ r w', (Builtin.append_ #[t, t] ty #[a.eval x, a.eval y]).run P w = .ok r w' → (execOp a.eval ⟨some dd, .call { callee := .builtin .append, args := #[x, y], argTypes := #[t, t] }, ty, pos, af, none⟩).run P w = .ok (.value r) w' := fun r w' hr => by
    simp [execOp, resolve, invoke, builtin, hr]
  have fin : ∀ {r : Value} {w' : World} {q : Option (Nat × Nat)}, (Builtin.append_ #[t, t] ty #[a.eval x, a.eval y]).run P w = .ok r w' → Ext c.M w w' → (∀ j b, H[j]? = some b → j ≠ k → b ≠ .gone → ∀ b1 o1, ρ j = some (b1, o1) → w'.heap[b1]? = w.heap[b1]?) → (∀ b1, S b1 → w'.heap[b1]? = w.heap[b1]?) →
      (∀ b1 o1, q = some (b1, o1) → c.M b1 ∧ ¬ S b1 ∧ b1 < w'.heap.size ∧ ∀ j b, H[j]? = some b → j ≠ k → b ≠ .gone → ∀ b2 o2, ρ j = some (b2, o2) → b2 ≠ b1) →
      (Later ρ (fun j => if j = pp then q else ρ j) S S w w' → R S w' (.sl pp 0 (len + news.length) sz) (fun j => if j = pp then q else ρ j) r ∧ RB S w' (fun j => if j = pp then q else ρ j) q (.arr ((es.drop off).take len ++ news) sz)) →
      Oper.wp P ⟨some dd, .call { callee := .builtin .append, args := #[x, y], argTypes := #[t, t] }, ty, pos, af, none⟩ a w K' Q := fun {r w' q} hr hext hoth hst hq hval => by
    unfold Oper.wp
    rw [ev1 r w' hr]
    obtain ⟨g1, g2⟩ := g.moved hpk hH0 hr0 hm0 hext hoth hst hq (fun l => (hval l).2)
    exact hK' _ _ _ _ g1 g2 (hval g2).1 (fun j hj => if_neg (hj (by simp)))
  have hoth0 : ∀ (w' : World) (b0 : Nat), (∀ x, x ≠ b0 → w'.heap[x]? = w.heap[x]?) → (∃ o, ρ k = some (b0, o)) → (∀ j b, H[j]? = some b → j ≠ k → b ≠ .gone → ∀ b1 o1, ρ j = some (b1, o1) → w'.heap[b1]? = w.heap[b1]?) ∧ (∀ b1, S b1 → w'.heap[b1]? = w.heap[b1]?) := fun w' b0 hw ⟨o, ho⟩ =>
    ⟨fun j b hj hjk hg b1 o1 h1 => hw b1 (fun e => hjk (g.inj j k b _ _ _ hj hKK hg (by simp) h1 ho e)), fun b1 hb1 => hw b1 (fun e => (g.live k _ _ hKK (by simp) ho).2 (e ▸ hb1))⟩
  have hxy : a.eval x = .slice a1 len c1 ∧ a.eval y = .slice a2 news.length c2 := ⟨x1, y1⟩
  by_cases hroom : len + news.length ≤ c1
  · by_cases hm : news.length = 0
    · -- nothing is appended
      have hnews : news = [] := List.eq_nil_of_length_eq_zero hm
      subst hnews
      have hr := run_append_same (P := P) (w := w) (t := t) (ty := ty) (a2 := a2) (c2 := c2) (T.elemOk _ _ ht) t1 (a := a1) x2
      simp only [R] at hxv
      obtain ⟨a1', c1', e1, e2, e3⟩ := hxv
      rw [x1] at e1
      cases e1
      refine fin (q := (ρ k).map fun q => (q.1, q.2 + off * sz)) (by rw [hxy.1, hxy.2]; exact hr) (Ext.refl _ _) (fun _ _ _ _ _ _ _ _ => rfl) (fun _ _ => rfl) (fun b1 o1 hq => ?_) (fun l => ⟨?_, ?_⟩)
      · obtain ⟨⟨b2, o2⟩, h2, h3⟩ := Option.map_eq_some_iff.1 hq
        cases h3
        obtain ⟨m1, m2⟩ := g.live k _ _ hKK (by simp) h2
        exact ⟨m1, m2, g.rng k _ h2, fun j b hj hjk hg b3 o3 h3 e => hjk (g.inj j k b _ _ _ hj hKK hg (by simp) h3 h2 e)⟩
      · simp only [R]
        refine ⟨a1, c1, rfl, e2, ?_⟩
        rcases e3 with e3 | ⟨b, o, f1, f2, f3, f4⟩
        · exact .inl e3
        · exact .inr ⟨b, o + off * sz, by simp [f1], by simpa using f2, f3, by
            have : o + off * sz + (0 + c1) * sz = o + (off + c1) * sz := by rw [Nat.zero_add, Nat.add_mul, Nat.add_assoc]
            rw [this]; exact f4⟩
      · simp only [RB, List.append_nil]
        refine ⟨fun q hq => hall q (by simpa using hq), hs0, ?_⟩
        rcases hB with hB | ⟨b, o, ws, f1, ⟨cc, ee, f2, f3⟩, f4⟩
        · left; obtain ⟨hB, hu⟩ := hB; subst hB; exact ⟨by simp, fun b o e => by obtain ⟨q, g1, g2⟩ := Option.map_eq_some_iff.1 e; cases g2; exact hu _ _ g1⟩
        · right
          refine ⟨b, o + off * sz, (ws.drop (off * sz)).take (len * sz), by simp [f1], ⟨cc, ee, f2, fun j u hj => ?_⟩, ?_⟩
          · rw [List.getElem?_take] at hj
            split at hj
            · rw [List.getElem?_drop] at hj
              rw [Nat.add_assoc]; exact f3 _ _ hj
            · cases hj
          · have := RL_take (RL_drop (f4.later l) (off * sz)) (len * sz)
            rwa [flatten_drop _ hes, flatten_take _ (fun e he => hes e (List.mem_of_mem_drop he))] at this
    · -- there is room
      simp only [R] at hxv
      obtain ⟨a1', c1', e1, e2, e3⟩ := hxv
      rw [x1] at e1
      cases e1
      rcases e3 with ⟨e3, e4⟩ | ⟨b, o, f1, f2, f3, ⟨cc, ee, fz, f4, f5⟩⟩
      · omega
      obtain rfl : fz = (0, 0) := by
        rcases hB with ⟨_, hu⟩ | ⟨b3, o3, ws3, g1, ⟨cc3, ee3, g2, _⟩, _⟩
        · obtain ⟨cc3, ee3, g2⟩ := hu _ _ f1
          rw [f4] at g2; cases g2; rfl
        · rw [f1] at g1; cases g1; rw [f4] at g2; cases g2; rfl
      have hmul : (off + len) * sz + news.length * sz ≤ (off + c1) * sz := by rw [← Nat.add_mul]; exact Nat.mul_le_mul_right _ (by omega)
      have hfit : o + off * sz + len * inf.size + zs.length ≤ cc.size := by
        rw [t2, hs, y5]
        have : (off + len) * sz = off * sz + len * sz := Nat.add_mul _ _ _
        omega
      have hr := run_append_in (P := P) (w := w) (t := t) (ty := ty) (a2 := a2) (c2 := c2) (T.elemOk _ _ ht) t1 (b := b) (o := o + off * sz) (len := len) (cap := c1) (m := news.length) (by rw [t2, hs]; exact y5) y7 hone f4 hroom hfit
      rw [t2, hs] at hr hfit
      have hyl : ys.length = len * sz := x5
      have hx8 : len = 0 ∨ ∃ b o, a1 = some ⟨b, o, none⟩ ∧ lies w b o ys := x7
      have hcs : ((cc.toList.take (o + off * sz + len * sz) ++ zs ++ cc.toList.drop (o + off * sz + len * sz + zs.length)).toArray).size = cc.size := by
        simp only [List.size_toArray, List.length_append, List.length_take, List.length_drop, Array.length_toList]; omega
      have hnew := setRow_heap w b cc (cc.toList.take (o + off * sz + len * sz) ++ zs ++ cc.toList.drop (o + off * sz + len * sz + zs.length)).toArray ee (0, 0) f4
      obtain ⟨m1, m2⟩ := g.live k _ _ hKK (by simp) f1
      obtain ⟨o1, o2⟩ := hoth0 _ b (fun x hx => setRow_other w b x (cc.toList.take (o + off * sz + len * sz) ++ zs ++ cc.toList.drop (o + off * sz + len * sz + zs.length)).toArray hx) ⟨o, f1⟩
      refine fin (q := some (b, o + off * sz)) (by rw [hxy.1, hxy.2, f2]; exact hr) ((ext_setRow f4 hcs).mono fun x _ hx => by rw [hx]; exact m1) o1 o2 (fun b1 o1 hq => ?_) (fun l => ⟨?_, ?_⟩)
      · cases hq
        exact ⟨m1, m2, (Array.getElem?_eq_some_iff.1 hnew).1, fun j b hj hjk hg b3 o3 h3 e => hjk (g.inj j k b _ _ _ hj hKK hg (by simp) h3 f1 e)⟩
      · simp only [R]
        refine ⟨_, c1, rfl, e2, .inr ⟨b, o + off * sz, by simp, by simp, hroom, _, ee, _, hnew, ?_⟩⟩
        rw [hcs, Nat.zero_add]
        have : (off + c1) * sz = off * sz + c1 * sz := Nat.add_mul _ _ _
        omega
      · simp only [RB]
        refine ⟨hall, hs0, .inr ⟨b, o + off * sz, ys ++ zs, rfl, ⟨_, ee, hnew, fun j u hj => ?_⟩, ?_⟩⟩
        · rw [List.getElem?_toArray]
          by_cases hj1 : j < ys.length
          · rw [List.getElem?_append_left hj1] at hj
            rcases hx8 with h0 | ⟨b', o', g1, ⟨c', e', fz, g2, g3⟩⟩
            · subst h0; simp at hyl; omega
            rw [f2] at g1
            cases g1
            rw [f4] at g2
            cases g2
            rw [List.append_assoc, List.getElem?_append_left (by simp; omega), List.getElem?_take, if_pos (by omega)]
            simpa using g3 j u hj
          · rw [List.getElem?_append_right (by omega)] at hj
            have hj2 := (List.getElem?_eq_some_iff.1 hj).1
            rw [List.getElem?_append_left (by simp; omega), List.getElem?_append_right (by simp; omega), ← hj]
            congr 1
            simp only [List.length_take, Array.length_toList]
            omega
        · rw [List.flatten_append]
          exact RL_append (x6.later l) (y6.later l)
  · -- a new row
    have hr := run_append_new (P := P) (w := w) (t := t) (ty := ty) (c2 := c2) (a := a1) (len := len) (cap := c1) (m := news.length) (T.elemOk _ _ ht) t1 t4 (by rw [t2, hs]; exact x5) x7 (by rw [t2, hs]; exact y5) y7 (by omega) (by rw [t3]; exact hb) h63
    have hgc := grownCap_ge w (len + news.length) c1 e
    have hgm := grownCap_le_maxLen w (len + news.length) c1 e (by simp only [maxLen]; omega)
    have hzs : z.cells.size = sz := by rw [← hs, ← t6, ← t5]; simp
    obtain ⟨g1, g2⟩ := grown_cells hzs x5 y5 hgc
    have hnew : (w.drew.alloc (.cells (ys.toArray ++ zs.toArray ++ Builtin.zeroCells z.cells (grownCap w (len + news.length) c1 e - (len + news.length))) e)).heap[w.heap.size]? = some (.cells _ e (0, 0)) := heap_alloc_new w.drew _
    have hold : ∀ b1, b1 < w.heap.size → (w.drew.alloc (.cells (ys.toArray ++ zs.toArray ++ Builtin.zeroCells z.cells (grownCap w (len + news.length) c1 e - (len + news.length))) e)).heap[b1]? = w.heap[b1]? := fun b1 hb1 => RowKit.Below.heap_alloc w.drew _ b1 hb1
    refine fin (q := some (w.heap.size, 0)) (by rw [hxy.1, hxy.2]; exact hr) ((Ext.drew1 w).trans (ext_alloc w.drew _ c.M) (fun _ h _ => h)) (fun j b hj hjk hg b1 o1 h2 => hold b1 (g.rng j _ h2)) (fun b1 hb1 => hold b1 (g.stab b1 hb1)) (fun b1 o1 hq => ?_) (fun l => ⟨?_, ?_⟩)
    · cases hq
      refine ⟨c.new _ g.ext.size, fun hS => ?_, by simp, fun j b hj hjk hg b2 o2 h2 e => ?_⟩
      · have := g.stab _ hS; omega
      · have := g.rng j _ h2; simp at this; omega
    · simp only [R]
      exact ⟨_, _, rfl, hgm, .inr ⟨w.heap.size, 0, by simp, by simp, hgc, _, e, _, hnew, by rw [Nat.zero_add, Nat.zero_add]; exact g1⟩⟩
    · simp only [RB]
      refine ⟨hall, hs0, .inr ⟨w.heap.size, 0, ys ++ zs, rfl, ⟨_, e, hnew, fun j u hj => by rw [Nat.zero_add]; exact g2 j u hj⟩, ?_⟩⟩
      rw [List.flatten_append]
      exact RL_append (x6.later l) (y6.later l)

theorem aw_draw4k {n : Nat × Nat} {Q : Exit → Env → Hp → Prop} {id : Nat} {l : List Oper} (k : Nat) (pres : List (List Nat)) (ds : List Nat) (bads : List (List Nat)) (ss : List (Nat × Nat)) (hm : P.follows .mixedOrders = true) (hn : n.1 = k) (hok : chkDrawS l pres ds bads ss k = true)
    (hv : DWA P n l pres ds bads ss (dropE ds env) h 0 (dropE ds env) [] [] (fun v h => Q .normal v h)) (hndf : noDef l = true := by rfl) : AW P n (.region id l.toArray true) env h Q := aw_draw4 pres ds bads ss hm (by rw [hn]; exact hok) hv hndf
end
end Go.Ab
