/-
  A logic of values for the walk: maps that are walked through, entries that are taken out, the number of entries.
-/
import Derived.Test.YtnpedigoacbocaaDoorAb39
import Derived.Maps.RangeRun

namespace Go.Ab
open Go Go.MapKept
set_option linter.unusedVariables false
set_option linter.unusedSimpArgs false

section
variable {P : Program} {env : Env} {h : Hp}
variable {d : Option Nat} {ty : TypeId} {pos : String} {af : Array Edge} {g : Option (Nat × Bool)}
variable {n : Nat × Nat} {ops : Array Oper} {rest : List Oper} {K : Env → Hp → Prop}
variable {t kt et : TypeId} {good : Value → Prop} {x y z : Operand} {k i : Nat} {kv : Value} {ks : List Value} {vs : List AV} {v : AV}

theorem same_later {ρ : Pl} {S : Nat → Prop} {w : World} : Later ρ ρ S S w w := ⟨fun _ _ h => h, fun _ h => h, fun _ _ => rfl, fun _ _ _ _ _ h => h⟩
/-- The stamps of a map's entries are named. -/
theorem Sim.mapOpen {c : Ctx} {ρ : Pl} {S : Nat → Prop} {a : Act} {w : World} (k : Nat) (hk : h[k]? = some (.mapO ks vs)) (s : Sim n c ρ S env h a w) : ∃ bs ck, bs.length = ks.length ∧ vs.length = ks.length ∧ bs.Nodup ∧ (∀ b, b ∈ bs → b < ck) ∧ Sim n c ρ S env (h.set k (.mapB ks vs bs ck)) a w := by
  obtain ⟨b, o, l, ck, h1, h2, ⟨h3, h4, h5⟩, h6⟩ := s.hs.blk k _ hk
  have e6 := RL_length h6
  refine ⟨l.toList.map (·.born), ck, by rw [← h3]; simp, by rw [← e6, ← h3]; simp, h4, fun b hb => ?_, s.size, s.defers, s.env, s.hs.alter hk (fun _ => ⟨b, o, l, h1, h2, ⟨h3, ⟨h4, h5⟩, rfl⟩, h6⟩) (by simp), s.cm⟩
  obtain ⟨e, he, rfl⟩ := List.mem_map.1 hb
  exact h5 e he
theorem vc_mapOpen (k : Nat) (hk : h[k]? = some (.mapO ks vs)) (hv : ∀ bs ck, bs.length = ks.length → vs.length = ks.length → bs.Nodup → (∀ b, b ∈ bs → b < ck) → VC P n ops rest env (h.set k (.mapB ks vs bs ck)) K) : VC P n ops rest env h K := by
  intro c ρ S a w Q s hQ
  obtain ⟨bs, ck, h1, h1', h2, h3, s'⟩ := s.mapOpen k hk
  exact hv bs ck h1 h1' h2 h3 c ρ S a w Q s' hQ
theorem aw_mapOpen {code : Code} {Q : Exit → Env → Hp → Prop} (k : Nat) (hk : h[k]? = some (.mapO ks vs)) (hv : ∀ bs ck, bs.length = ks.length → vs.length = ks.length → bs.Nodup → (∀ b, b ∈ bs → b < ck) → AW P n code env (h.set k (.mapB ks vs bs ck)) Q) : AW P n code env h Q := by
  intro c ρ S a w QQ s hQ
  obtain ⟨bs, ck, h1, h1', h2, h3, s'⟩ := s.mapOpen k hk
  exact hv bs ck h1 h1' h2 h3 c ρ S a w QQ s' hQ
/-- The stamps are forgotten again. -/
theorem Sim.mapShut {c : Ctx} {ρ : Pl} {S : Nat → Prop} {a : Act} {w : World} {bs : List Nat} {ck : Nat} (k : Nat) (hk : h[k]? = some (.mapB ks vs bs ck)) (s : Sim n c ρ S env h a w) : Sim n c ρ S env (h.set k (.mapO ks vs)) a w :=
  ⟨s.size, s.defers, s.env, s.hs.alter hk (fun ⟨b, o, l, h1, h2, ⟨h3, h4, _⟩, h5⟩ => ⟨b, o, l, ck, h1, h2, ⟨h3, h4⟩, h5⟩) (by simp), s.cm⟩
theorem vc_mapShut {bs : List Nat} {ck : Nat} (k : Nat) (hk : h[k]? = some (.mapB ks vs bs ck)) (hv : VC P n ops rest env (h.set k (.mapO ks vs)) K) : VC P n ops rest env h K :=
  fun c ρ S a w Q s hQ => hv c ρ S a w Q (s.mapShut k hk) hQ
theorem aw_mapShut {code : Code} {Q : Exit → Env → Hp → Prop} {bs : List Nat} {ck : Nat} (k : Nat) (hk : h[k]? = some (.mapB ks vs bs ck)) (hv : AW P n code env (h.set k (.mapO ks vs)) Q) : AW P n code env h Q :=
  fun c ρ S a w QQ s hQ => hv c ρ S a w QQ (s.mapShut k hk) hQ

/-- An iterator over a map. -/
theorem fs_range {bs : List Nat} {ck : Nat} (ht : P.underlying t = some (.map kt et)) (hx : evu env x = some (.mp k)) (hk : h[k]? = some (.mapB ks vs bs ck)) :
    FStep P ⟨d, .range t x, ty, pos, af, g⟩ env h 1 (fun p => .ptr p 0) (fun _ => [.iter k ck [] ck]) := by
  refine fs_newO fun ρ S a w p => ?_
  have h1 := p.evu hx
  simp only [R] at h1
  obtain ⟨b, o, h2, h3⟩ := h1
  obtain ⟨b', o', l, h5, h6, h7, h8⟩ := p.blk k _ hk
  rw [h2] at h5; cases h5
  refine ⟨.mapIter (some b) ck #[] ck, .pointer (some ⟨w.heap.size, 0, none⟩), ?_, fun pos hpos w' hw' => ⟨?_, ?_⟩⟩
  · simp [execOp, h3, Instr.range, run_underlying ht, MapKept.run_getObj_map h6]
  · simp [R, Pl.with]
  · have hne : k ≠ pos := fun e => by rw [e, hpos] at h2; cases h2
    exact ⟨w.heap.size, rfl, (b, o), by simp [Pl.with, hne, h2], hw'⟩

/-- The next entry of an iterator: any of those that have not been seen; or it is over. -/
theorem vc_next {km since c0 ck : Nat} {seen bs : List Nat} (hx : evu env x = some (.ptr k 0)) (hk : h[k]? = some (.iter km since seen c0)) (hm : h[km]? = some (.mapB ks vs bs ck)) (hs : ∀ b, b ∈ bs → b < since) (hc : since ≤ c0) (hd : okd d n = true)
    (hend : (∀ b, b ∈ bs → b ∈ seen) → VC P n ops rest (putd d (.tup [.b false]) env) h K)
    (hstep : ∀ (i : Nat) kv v b, ks[i]? = some kv → vs[i]? = some v → bs[i]? = some b → b ∉ seen → VC P n ops rest (putd d (.tup [.b true, .v kv, v]) env) (h.set k (.iter km since (seen ++ [b]) ck)) K) :
    VC P n ops (⟨d, .next x false, ty, pos, af, none⟩ :: rest) env h K := by
  intro c ρ S a w Q s hQ
  refine wpList_plain rfl fun K' hK' => ?_
  have p := s.pre
  have h1 := p.evu hx
  simp only [R] at h1
  obtain ⟨b, o, h2, h3⟩ := h1
  obtain ⟨b1, h4, m, h5, h6⟩ := p.blk k _ hk
  rw [h2] at h4; cases h4
  obtain ⟨b2, o2, l, h7, h8, ⟨h9, h10, h11⟩, h12⟩ := p.blk km _ hm
  rw [h5] at h7; cases h7
  have hold : ∀ e, e ∈ l.toList → e.born < since := fun e he => hs _ (by rw [← h11]; exact List.mem_map.2 ⟨e, he, rfl⟩)
  rcases run_next_at (P := P) w ty b b2 since c0 seen.toArray l ck h6 h8 hold hc with ⟨h13, h14⟩ | ⟨e, he, w1, hw1, h14⟩
  · unfold Oper.wp
    have : (execOp a.eval ⟨d, .next x false, ty, pos, af, none⟩).run P w = .ok (.value (.tuple #[.bool false])) w := by
      simp only [execOp, h3, Nat.zero_add]
      simp [h14]
    rw [this]
    refine hK' _ _ (hend (fun q hq => ?_) c ρ S _ _ Q ⟨by rw [size_put]; exact s.size, by rw [defers_put]; exact s.defers, env_put s.size hd s.env (by simp only [R, RL]; exact ⟨_, rfl, _, _, rfl, rfl, rfl⟩), s.hs, s.cm⟩ hQ)
    rw [← h11] at hq
    obtain ⟨e, he, rfl⟩ := List.mem_map.1 hq
    refine Classical.byContradiction fun hn => ?_
    have : e ∈ leftOf l seen.toArray := by
      unfold leftOf
      simp only [Array.mem_filter]
      exact ⟨by simpa using he, by simpa using hn⟩
    have := Array.size_pos_of_mem this
    omega
  · have he1 : e ∈ l.toList ∧ e.born ∉ seen := by
      unfold leftOf at he
      simp at he
      exact ⟨by simpa using he.1, he.2⟩
    obtain ⟨i, hi⟩ := List.mem_iff_getElem?.1 he1.1
    have hki : ks[i]? = some e.key := by rw [← h9, List.getElem?_map, hi]; rfl
    have hbi : bs[i]? = some e.born := by rw [← h11, List.getElem?_map, hi]; rfl
    obtain ⟨v, hvi⟩ : ∃ v, vs[i]? = some v := by
      have e6 := RL_length h12
      have := (List.getElem?_eq_some_iff.1 hi).1
      rw [List.length_map] at e6
      exact ⟨vs[i]'(by omega), List.getElem?_eq_getElem _⟩
    have hv : R S w v ρ e.val := by
      obtain ⟨u, u1, u2⟩ := RL_get h12 i v hvi
      rw [List.getElem?_map, hi] at u1
      cases u1; exact u2
    unfold Oper.wp
    have : (execOp a.eval ⟨d, .next x false, ty, pos, af, none⟩).run P w = .ok (.value (.tuple #[.bool true, e.key, e.val])) (ChangeMaps.setBlock w1 b (.mapIter (some b2) since (seen.toArray.push e.born) ck)) := by
      simp only [execOp, h3, Nat.zero_add]
      simp [h14]
    rw [this]
    have hlt : b < w.heap.size := (Array.getElem?_eq_some_iff.1 h6).1
    have hw1h : w1.heap = w.heap := by rcases hw1 with rfl | rfl <;> rfl
    have hext : Ext (fun q => q = b) w (ChangeMaps.setBlock w1 b (.mapIter (some b2) since (seen.toArray.push e.born) ck)) := by
      refine ⟨?_, ?_, ?_, ?_, fun q hq hne => ?_, fun q cs ee fz hq => ⟨cs, fz, ?_, rfl⟩⟩
      · rcases hw1 with rfl | rfl <;> rfl
      · rcases hw1 with rfl | rfl <;> rfl
      · rcases hw1 with rfl | rfl <;> rfl
      · simp [ChangeMaps.setBlock, hw1h]
      · simp only [ChangeMaps.setBlock, hw1h]
        rw [Array.getElem?_setIfInBounds_ne (Ne.symm hne)]
      · have hne : q ≠ b := fun e' => by rw [e', h6] at hq; cases hq
        simp only [ChangeMaps.setBlock, hw1h]
        rw [Array.getElem?_setIfInBounds_ne (Ne.symm hne)]; exact hq
    obtain ⟨g1, g2⟩ := s.hs.upd (nb := .iter km since (seen ++ [e.born]) ck) hk (by simp) h2 hext (fun l' => by
      refine ⟨b, rfl, (b2, o2), h5, ?_⟩
      simp only [ChangeMaps.setBlock, hw1h]
      rw [Array.getElem?_setIfInBounds_self_of_lt hlt]
      simp)
    refine hK' _ _ (hstep i e.key v e.born hki hvi hbi he1.2 c ρ S _ _ Q ⟨by rw [size_put]; exact s.size, by rw [defers_put]; exact s.defers.later g2, env_put s.size hd (fun tt uu huu => (s.env tt uu huu).later g2) ?_, g1, s.cm⟩ hQ)
    simp only [R, RL]
    exact ⟨_, rfl, _, _, rfl, rfl, _, _, rfl, rfl, _, _, rfl, hv.later g2, rfl⟩

/-- The entry that the iterator stands at. -/
theorem fs_entry {km since c0 ck b i : Nat} {seen bs : List Nat} (hx : evu env x = some (.ptr k 0)) (hk : h[k]? = some (.iter km since (seen ++ [b]) c0)) (hm : h[km]? = some (.mapB ks vs bs ck)) (hc : c0 = ck) (hb : bs[i]? = some b) (hki : ks[i]? = some kv) (hvi : vs[i]? = some v) :
    FStep P ⟨d, .entry x, ty, pos, af, g⟩ env h 0 (fun _ => .tup [.v kv, v]) (fun _ => []) := by
  refine fs_val fun ρ S a w p => ?_
  have h1 := p.evu hx
  simp only [R] at h1
  obtain ⟨b0, o, h2, h3⟩ := h1
  obtain ⟨b1, h4, m, h5, h6⟩ := p.blk k _ hk
  rw [h2] at h4; cases h4
  obtain ⟨b2, o2, l, h7, h8, ⟨h9, h10, h11⟩, h12⟩ := p.blk km _ hm
  rw [h5] at h7; cases h7
  rw [← h11, List.getElem?_map] at hb
  obtain ⟨e, he, rfl⟩ := Option.map_eq_some_iff.1 hb
  have hk2 : e.key = kv := by rw [← h9, List.getElem?_map, he] at hki; simpa using hki
  obtain ⟨u, u1, u2⟩ := RL_get h12 i v hvi
  rw [List.getElem?_map, he] at u1
  cases u1
  subst hc
  have h13 : w.heap[b0]? = some (.mapIter (some b2) since (seen.toArray.push e.born) c0) := by rw [h6]; simp
  have := run_entry_at (P := P) w b0 b2 since seen.toArray l c0 e h13 h8 (List.mem_of_getElem? he) h10.1
  refine ⟨.tuple #[e.key, e.val], ?_, ?_⟩
  · simp only [execOp, h3, Nat.zero_add]
    simp [this]
  · simp only [R, RL]
    exact ⟨_, rfl, _, _, rfl, hk2, _, _, rfl, u2, rfl⟩

/-- The number of entries. -/
theorem fs_lenMap (ht : P.underlying t = some (.map kt et)) (hx : evu env x = some (.mp k)) (hk : h[k]? = some (.mapO ks vs)) :
    FStep P ⟨d, .call { callee := .builtin .len, args := #[x], argTypes := #[t] }, ty, pos, af, g⟩ env h 0 (fun _ => .i ks.length) (fun _ => []) := by
  refine fs_val fun ρ S a w p => ?_
  have h1 := p.evu hx
  simp only [R] at h1
  obtain ⟨b, o, h2, h3⟩ := h1
  obtain ⟨b', o', l, ck, h5, h6, h7, h8⟩ := map_find (p.blk k _ hk)
  rw [h2] at h5; cases h5
  have hl : l.size = ks.length := by rw [← h7]; simp
  refine ⟨.int .i64 ks.length, ?_, by simp [R]⟩
  rw [← hl]
  simp [execOp, resolve, invoke, builtin, h3, Builtin.len_, run_underlying ht, MapKept.run_getObj_map h6, goInt]

theorem Stamps.erase {l : Array MapEntry} {ck i : Nat} (h : Stamps l ck) : Stamps (l.eraseIdxIfInBounds i) ck := by
  have e : (l.eraseIdxIfInBounds i).toList = l.toList.eraseIdx i := by
    unfold Array.eraseIdxIfInBounds
    split
    · simp
    · rename_i hh
      rw [List.eraseIdx_of_length_le (by simpa using hh)]
  refine ⟨?_, fun q hq => h.2 q (by rw [e] at hq; exact List.mem_of_mem_eraseIdx hq)⟩
  rw [e]
  have : (l.toList.eraseIdx i).map (·.born) = (l.toList.map (·.born)).eraseIdx i := by
    apply List.ext_getElem?
    intro j
    simp only [List.getElem?_map, List.getElem?_eraseIdx]
    split <;> simp
  rw [this]
  exact h.1.eraseIdx i
theorem map_eraseIdx {α β : Type} (f : α → β) (l : List α) (i : Nat) : (l.eraseIdx i).map f = (l.map f).eraseIdx i := by
  apply List.ext_getElem?
  intro j
  simp only [List.getElem?_map, List.getElem?_eraseIdx]
  split <;> simp
theorem toList_erase (l : Array MapEntry) (i : Nat) : (l.eraseIdxIfInBounds i).toList = l.toList.eraseIdx i := by
  unfold Array.eraseIdxIfInBounds
  split
  · simp
  · rename_i hh
    rw [List.eraseIdx_of_length_le (by simpa using hh)]
theorem RL_erase {S : Nat → Prop} {w : World} {ρ : Pl} {xs : List AV} {ys : List Value} (h : RL S w xs ρ ys) (i : Nat) : RL S w (xs.eraseIdx i) ρ (ys.eraseIdx i) := by
  rw [List.eraseIdx_eq_take_drop_succ, List.eraseIdx_eq_take_drop_succ]
  exact RL_append (RL_take h i) (RL_drop h (i + 1))

/-- An entry is taken out of a map. -/
theorem vc_mapDel (ht : P.underlying t = some (.map kt et)) (ko : KeyOk P kt good) (hx : evu env x = some (.mp k)) {yv : AV} (hy : evu env y = some yv) (hyv : IsV yv kv) (hk : h[k]? = some (.mapO ks vs)) (hkeys : ∀ q, q ∈ ks → good q) (hkey : good kv) (hnd : ks.Nodup) (hi : ks[i]? = some kv)
    {t2 : TypeId} (hv : VC P n ops rest env (h.set k (.mapO (ks.eraseIdx i) (vs.eraseIdx i))) K) : VC P n ops (⟨none, .call { callee := .builtin .delete, args := #[x, y], argTypes := #[t, t2] }, ty, pos, af, none⟩ :: rest) env h K := by
  intro c ρ S a w Q s hQ
  refine wpList_plain rfl fun K' hK' => ?_
  have p := s.pre
  have h1 := p.evu hx
  simp only [R] at h1
  obtain ⟨b, o, h2, h3⟩ := h1
  have h4 := hyv _ _ _ _ (p.evu hy)
  obtain ⟨b', o', l, ck, h5, h6, h7, h8, h13⟩ := map_findS (p.blk k _ hk)
  rw [h2] at h5; cases h5
  obtain ⟨e, h9, h10, h11⟩ := find_some ko w h7 hkeys hkey hnd hi
  have hr : (execOp a.eval ⟨none, .call { callee := .builtin .delete, args := #[x, y], argTypes := #[t, t2] }, ty, pos, af, none⟩).run P w = .ok (.value (.tuple #[])) { w with heap := w.heap.setIfInBounds b (.map (l.eraseIdxIfInBounds i) ck) } := by
    simp [execOp, resolve, invoke, builtin, h3, h4, Builtin.delete_, run_underlying ht, MapKept.run_getObj_map h6, ko.check w _ hkey, h9, MapKept.run_setObj_map _ h6]
  unfold Oper.wp
  rw [hr]
  obtain ⟨g1, g2⟩ := s.hs.upd (nb := .mapO (ks.eraseIdx i) (vs.eraseIdx i)) hk (by simp) h2 (ext_setObj (o := .map (l.eraseIdxIfInBounds i) ck) h6) (fun l' => by
    simp only [RB]
    refine ⟨b, o, _, _, rfl, (MapKept.heap_set h6).1, ⟨by rw [toList_erase, map_eraseIdx, h7], h13.erase⟩, ?_⟩
    rw [toList_erase, map_eraseIdx]
    exact RL_erase (h8.later l') i)
  exact hK' _ _ (hv c ρ S _ _ Q ⟨by rw [size_put]; exact s.size, by rw [defers_put]; exact s.defers.later g2, fun tt uu huu => (s.env tt uu huu).later g2, g1, s.cm⟩ hQ)
/-- Nothing is taken out where there is nothing. -/
theorem vc_mapDelNone (ht : P.underlying t = some (.map kt et)) (ko : KeyOk P kt good) (hx : evu env x = some (.mp k)) {yv : AV} (hy : evu env y = some yv) (hyv : IsV yv kv) (hk : h[k]? = some (.mapO ks vs)) (hkeys : ∀ q, q ∈ ks → good q) (hkey : good kv) (hni : kv ∉ ks)
    {t2 : TypeId} (hv : VC P n ops rest env (h.set k (.mapO ks vs)) K) : VC P n ops (⟨none, .call { callee := .builtin .delete, args := #[x, y], argTypes := #[t, t2] }, ty, pos, af, none⟩ :: rest) env h K := by
  intro c ρ S a w Q s hQ
  refine wpList_plain rfl fun K' hK' => ?_
  have p := s.pre
  have h1 := p.evu hx
  simp only [R] at h1
  obtain ⟨b, o, h2, h3⟩ := h1
  have h4 := hyv _ _ _ _ (p.evu hy)
  obtain ⟨b', o', l, ck, h5, h6, h7, h8, h13⟩ := map_findS (p.blk k _ hk)
  rw [h2] at h5; cases h5
  have h9 := find_none ko w h7 hkeys hkey hni
  have hr : (execOp a.eval ⟨none, .call { callee := .builtin .delete, args := #[x, y], argTypes := #[t, t2] }, ty, pos, af, none⟩).run P w = .ok (.value (.tuple #[])) { w with heap := w.heap.setIfInBounds b (.map l ck) } := by
    simp [execOp, resolve, invoke, builtin, h3, h4, Builtin.delete_, run_underlying ht, MapKept.run_getObj_map h6, ko.check w _ hkey, h9, MapKept.run_setObj_map _ h6]
  unfold Oper.wp
  rw [hr]
  obtain ⟨g1, g2⟩ := s.hs.upd (nb := .mapO ks vs) hk (by simp) h2 (ext_setObj (o := .map l ck) h6) (fun l' => by
    simp only [RB]
    exact ⟨b, o, _, _, rfl, (MapKept.heap_set h6).1, ⟨h7, h13⟩, h8.later l'⟩)
  exact hK' _ _ (hv c ρ S _ _ Q ⟨by rw [size_put]; exact s.size, by rw [defers_put]; exact s.defers.later g2, fun tt uu huu => (s.env tt uu huu).later g2, g1, s.cm⟩ hQ)
end
end Go.Ab
