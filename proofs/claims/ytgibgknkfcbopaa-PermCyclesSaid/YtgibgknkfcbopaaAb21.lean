/-
  A logic of values for the walk, twenty-first part: maps.
-/
import Derived.Test.YtgibgknkfcbopaaAb20
import Derived.DeepKeys3
namespace Go.Ab
open Go Go.MapKept
set_option linter.unusedVariables false
set_option linter.unusedSimpArgs false

section
variable {P : Program} {env : Env} {h : Hp}
variable {d : Option Nat} {ty : TypeId} {pos : String} {af : Array Edge} {g : Option (Nat × Bool)}

/-- An operation that makes one block, of whatever kind. -/
theorem fs_newO {o : Oper} {u : Nat → AV} {b : AB} (hrun : ∀ ρ S a w, Pre ρ S env h a w → ∃ (ob : Obj) (y : Value), (execOp a.eval o).run P w = .ok (.value y) (w.alloc ob) ∧
      ∀ pos, ρ pos = none → ∀ w', (w'.heap[w.heap.size]? = some ob) → R S w' (u pos) (ρ.with pos (w.heap.size, 0)) y ∧ RB S w' (ρ.with pos (w.heap.size, 0)) (some (w.heap.size, 0)) b) :
    FStep P o env h 1 u (fun _ => [b]) := by
  intro ρ S a w p pos hp K Q hk
  obtain ⟨ob, y, h1, h2⟩ := hrun ρ S a w p
  have hpos : ρ pos = none := by simpa using hp 0 (by omega)
  unfold Oper.wp
  rw [h1]
  have hx : Ext (fun _ => False) w (w.alloc ob) := ext_alloc _ _ _
  have hnew : (w.alloc ob).heap[w.heap.size]? = some ob := (heap_alloc w ob).1
  obtain ⟨h3, h4⟩ := h2 pos hpos _ hnew
  have hss : (w.alloc ob).heap.size = w.heap.size + 1 := by rw [World.size_alloc]
  refine hk y (ρ.with pos (w.heap.size, 0)) S _ ⟨hx, rfl, fun k hk => ?_, fun _ h => h, fun _ h => .inl h, fun k q hk1 hk2 hq => ?_, fun k k' q q' a1 a2 a3 a4 _ _ _ => by omega, h3, fun j b' hb => ?_⟩
  · unfold Pl.with; rw [if_neg (by omega)]
  · have : k = pos := by omega
    subst this
    simp only [Pl.with, if_true, Option.some.injEq] at hq
    subst hq
    refine ⟨Nat.le_refl _, by simp [hss], fun hs => ?_⟩
    have := p.stab _ hs
    simp at this
  · cases j with
    | zero =>
      simp only [List.getElem?_cons_zero, Option.some.injEq] at hb
      subst hb
      simpa [Pl.with] using h4
    | succ j => simp at hb

theorem fs_mapNew {t : TypeId} : FStep P ⟨d, .makeMap t none, ty, pos, af, g⟩ env h 1 (fun p => .mp p) (fun _ => [.mapO [] []]) := by
  refine fs_newO fun ρ S a w p => ⟨.map #[] 0, .map (some w.heap.size), ?_, fun pos hpos w' hw' => ⟨?_, ?_⟩⟩
  · simp [execOp, Instr.makeMap]
  · simp [R, Pl.with]
  · simp only [RB]
    exact ⟨_, _, #[], 0, rfl, hw', rfl, by simp [RL]⟩

/-- A value that is one of the model's, whatever the world. -/
def IsV (x : AV) (v : Value) : Prop := ∀ (S : Nat → Prop) (w : World) (ρ : Pl) (y : Value), R S w x ρ y → y = v
theorem IsV.v (v : Value) : IsV (.v v) v := fun _ _ _ _ h => R_v h
theorem RL_vsEq {S : Nat → Prop} {w : World} {ρ : Pl} : ∀ {vs ys : List Value}, RL S w (vs.map .v) ρ ys → ys = vs
  | [], _, h => by simpa [RL] using h
  | v :: vs, _, h => by
    simp only [List.map_cons, RL] at h
    obtain ⟨y, zs, rfl, h1, h2⟩ := h
    rw [R_v h1, RL_vsEq h2]
theorem IsV.agg (vs : List Value) : IsV (.agg (vs.map .v)) (.agg vs.toArray) := fun _ _ _ _ h => by
  simp only [R] at h
  obtain ⟨ys, rfl, h1⟩ := h
  have := RL_vsEq h1
  rw [← this]
theorem zero_run {et : TypeId} {z : Value} (h : (P.info? et).bind (·.zero) = some z) : ∀ w, (zeroValue et).run P w = .ok z w := by
  intro w
  cases hi : P.info? et with
  | none => rw [hi] at h; cases h
  | some inf =>
    rw [hi] at h
    simp only [Option.bind_some] at h
    simp [zeroValue, typeInfo, hi, h]

/-- What stands at a key. -/
theorem map_find {S : Nat → Prop} {w : World} {ρ : Pl} {k : Nat} {ks : List Value} {vs : List AV} (p : RB S w ρ (ρ k) (.mapO ks vs)) : ∃ b o l ck, ρ k = some (b, o) ∧ w.heap[b]? = some (.map l ck) ∧ l.toList.map (·.key) = ks ∧ RL S w vs ρ (l.toList.map (·.val)) := by
  simpa only [RB] using p
/-- How keys of a type are found again. -/
structure KeyOk (P : Program) (kt : TypeId) (good : Value → Prop) : Prop where
  check : ∀ (w : World) (em : Bool) {v : Value}, good v → (Instr.checkKey em 10000 kt v).run P w = .ok () w
  find : ∀ (w : World) {x : Value}, good x → ∀ es : List MapEntry, (∀ e, e ∈ es → good e.key) → ((Instr.findKey kt x es).run P w = .ok none w ∧ ∀ e, e ∈ es → e.key ≠ x) ∨ ∃ j e, (Instr.findKey kt x es).run P w = .ok (some (j, e.val)) w ∧ es[j]? = some e ∧ e.key = x
  stays : ∀ (w : World) {v : Value}, good v → (Instr.keyThatStays v v).run P w = .ok v w
theorem same_key {dk : TypeDesc} {kv : Value} (hk : IsKey dk kv) : ∀ n, Instr.sameBits n kv kv = true := by
  intro n
  cases dk <;> cases kv <;> simp only [IsKey] at hk <;> cases n <;> simp [Instr.sameBits, bytes_beq]
/-- Numbers, strings, booleans. -/
theorem KeyOk.plain {kt : TypeId} {dk : TypeDesc} (hd : P.underlying kt = some dk) : KeyOk P kt (IsKey dk) := by
  refine ⟨fun w em v hv => MapKept.run_checkKey hd hv em 9999, fun w x hx es hall => ?_, fun w v hv => by simp [Instr.keyThatStays, same_key hv]⟩
  rcases findNow_spec hx es 0 hall with ⟨h1, h2⟩ | ⟨j, e, h1, h2, h3⟩
  · exact .inl ⟨MapKept.run_findKey hd h1, h2⟩
  · exact .inr ⟨j, e, by have := MapKept.run_findKey (w := w) hd h1; rwa [Nat.zero_add] at this, h2, h3⟩
/-- Arrays and structures of such. -/
theorem KeyOk.deep {m : Nat} (hm : m + 1 ≤ 10000) {kt : TypeId} (hk : P.keyTypeAt m kt = true) (ht : P.tiled m kt = true) (hwide : (match P.underlying kt with | some (.array _ _) | some (.struct _) => true | _ => false) = true) : KeyOk P kt (fun v => ∃ l, keyOf P kt v = some l) := by
  have L := deep_law hm hk ht hwide
  exact ⟨fun w em v ⟨l, hl⟩ => L.check w em hl, fun w x ⟨l, hl⟩ es hall => L.find w hl es hall, fun w v ⟨l, hl⟩ => L.stays w hl⟩

theorem find_some {kt : TypeId} {good : Value → Prop} {kv : Value} {l : Array MapEntry} {ks : List Value} {i : Nat} (ko : KeyOk P kt good) (w : World) (hl : l.toList.map (·.key) = ks) (hkeys : ∀ q, q ∈ ks → good q) (hkey : good kv) (hnd : ks.Nodup) (hi : ks[i]? = some kv) : ∃ e, (Instr.findKey kt kv l.toList).run P w = .ok (some (i, e.val)) w ∧ l.toList[i]? = some e ∧ e.key = kv := by
  rcases ko.find w hkey l.toList (fun x hx => hkeys _ (by rw [← hl]; exact List.mem_map.2 ⟨x, hx, rfl⟩)) with ⟨_, h2⟩ | ⟨j, e, h1, h2, h3⟩
  · have hm := List.mem_of_getElem? hi
    rw [← hl] at hm
    obtain ⟨x, hx, hxe⟩ := List.mem_map.1 hm
    exact absurd hxe (h2 x hx)
  · have hj : ks[j]? = some kv := by rw [← hl, List.getElem?_map, h2]; simp [h3]
    have : j = i := (List.getElem?_inj (List.getElem?_eq_some_iff.1 hj).1 hnd).1 (hj.trans hi.symm)
    subst this
    exact ⟨e, h1, h2, h3⟩
theorem find_none {kt : TypeId} {good : Value → Prop} {kv : Value} {l : Array MapEntry} {ks : List Value} (ko : KeyOk P kt good) (w : World) (hl : l.toList.map (·.key) = ks) (hkeys : ∀ q, q ∈ ks → good q) (hkey : good kv) (hni : kv ∉ ks) : (Instr.findKey kt kv l.toList).run P w = .ok none w := by
  rcases ko.find w hkey l.toList (fun x hx => hkeys _ (by rw [← hl]; exact List.mem_map.2 ⟨x, hx, rfl⟩)) with ⟨h1, _⟩ | ⟨j, e, _, h2, h3⟩
  · exact h1
  · refine absurd ?_ hni
    rw [← hl, ← h3]
    exact List.mem_map.2 ⟨e, List.mem_of_getElem? h2, rfl⟩

section
variable {t kt et : TypeId} {good : Value → Prop} {x y : Operand} {k i : Nat} {kv : Value} {ks : List Value} {vs : List AV} {v : AV}
theorem fs_mapGet (ht : P.underlying t = some (.map kt et)) (ko : KeyOk P kt good) (hx : evu env x = some (.mp k)) {yv : AV} (hy : evu env y = some yv) (hyv : IsV yv kv) (hk : h[k]? = some (.mapO ks vs)) (hkeys : ∀ q, q ∈ ks → good q) (hkey : good kv) (hnd : ks.Nodup) (hi : ks[i]? = some kv) (hv : vs[i]? = some v) :
    FStep P ⟨d, .lookup t x y true, ty, pos, af, g⟩ env h 0 (fun _ => .tup [v, .b true]) (fun _ => []) := by
  refine fs_val fun ρ S a w p => ?_
  have h1 := p.evu hx
  simp only [R] at h1
  obtain ⟨b, o, h2, h3⟩ := h1
  have h4 := hyv _ _ _ _ (p.evu hy)
  obtain ⟨b', o', l, ck, h5, h6, h7, h8⟩ := map_find (p.blk k _ hk)
  rw [h2] at h5; cases h5
  obtain ⟨e, h9, h10, _⟩ := find_some ko w h7 hkeys hkey hnd hi
  refine ⟨.tuple #[e.val, .bool true], ?_, ?_⟩
  · simp [execOp, h3, h4, Instr.lookup, run_underlying ht, MapKept.run_getObj_map h6, ko.check w _ hkey, h9]
  · obtain ⟨u, h11, h12⟩ := RL_get h8 i v hv
    rw [List.getElem?_map, h10] at h11
    cases h11
    simp only [R, RL]
    exact ⟨_, rfl, _, _, rfl, h12, _, _, rfl, rfl, rfl⟩
theorem fs_mapMiss (ht : P.underlying t = some (.map kt et)) (ko : KeyOk P kt good) {z : Value} {zA : AV} (hz : ∀ w, (zeroValue et).run P w = .ok z w) (hzA : ∀ (S : Nat → Prop) (w : World) (ρ : Pl), R S w zA ρ z) (hx : evu env x = some (.mp k)) {yv : AV} (hy : evu env y = some yv) (hyv : IsV yv kv) (hk : h[k]? = some (.mapO ks vs)) (hkeys : ∀ q, q ∈ ks → good q) (hkey : good kv) (hni : kv ∉ ks) :
    FStep P ⟨d, .lookup t x y true, ty, pos, af, g⟩ env h 0 (fun _ => .tup [zA, .b false]) (fun _ => []) := by
  refine fs_val fun ρ S a w p => ?_
  have h1 := p.evu hx
  simp only [R] at h1
  obtain ⟨b, o, h2, h3⟩ := h1
  have h4 := hyv _ _ _ _ (p.evu hy)
  obtain ⟨b', o', l, ck, h5, h6, h7, h8⟩ := map_find (p.blk k _ hk)
  rw [h2] at h5; cases h5
  have h9 := find_none ko w h7 hkeys hkey hni
  refine ⟨.tuple #[z, .bool false], ?_, ?_⟩
  · simp [execOp, h3, h4, Instr.lookup, run_underlying ht, MapKept.run_getObj_map h6, ko.check w _ hkey, h9, hz]
  · simp only [R, RL]
    exact ⟨_, rfl, _, _, rfl, hzA S w ρ, _, _, rfl, rfl, rfl⟩

theorem ext_setObj {w : World} {b : Nat} {l : Array MapEntry} {ck : Nat} {o : Obj} (hb : w.heap[b]? = some (.map l ck)) : Ext (fun x => x = b) w { w with heap := w.heap.setIfInBounds b o } := by
  refine ⟨rfl, rfl, rfl, by simp, fun x _ hx => ?_, fun x c e hc => ?_⟩
  · exact (MapKept.heap_set (o' := o) hb).2 x hx
  · have hne : x ≠ b := fun e' => by rw [e', hb] at hc; cases hc
    exact ⟨c, by rw [← hc]; exact (MapKept.heap_set (o' := o) hb).2 x hne, rfl⟩
section
variable {n : Nat × Nat} {ops : Array Oper} {rest : List Oper} {K : Env → Hp → Prop} {z : Operand}
/-- A new key is put into a map. -/
theorem vc_mapNew (ht : P.underlying t = some (.map kt et)) (ko : KeyOk P kt good) (hx : evu env x = some (.mp k)) {yv : AV} (hy : evu env y = some yv) (hyv : IsV yv kv) (hz : evu env z = some v) (hk : h[k]? = some (.mapO ks vs)) (hkeys : ∀ q, q ∈ ks → good q) (hkey : good kv) (hni : kv ∉ ks)
    (hv : VC P n ops rest env (h.set k (.mapO (ks ++ [kv]) (vs ++ [v]))) K) : VC P n ops (⟨none, .mapUpdate t x y z, ty, pos, af, none⟩ :: rest) env h K := by
  intro c ρ S a w Q s hQ
  refine wpList_plain rfl fun K' hK' => ?_
  have p := s.pre
  have h1 := p.evu hx
  simp only [R] at h1
  obtain ⟨b, o, h2, h3⟩ := h1
  have h4 := hyv _ _ _ _ (p.evu hy)
  have hzv := p.evu hz
  obtain ⟨b', o', l, ck, h5, h6, h7, h8⟩ := map_find (p.blk k _ hk)
  rw [h2] at h5; cases h5
  have h9 := find_none ko w h7 hkeys hkey hni
  have hr : (execOp a.eval ⟨none, .mapUpdate t x y z, ty, pos, af, none⟩).run P w = .ok .skip { w with heap := w.heap.setIfInBounds b (.map (l.push { key := kv, val := a.eval z, born := ck }) (ck + 1)) } := by
    simp [execOp, h3, h4, Instr.mapUpdate, run_underlying ht, MapKept.run_getObj_map h6, ko.check w _ hkey, h9, MapKept.run_setObj_map _ h6]
  unfold Oper.wp
  rw [hr]
  obtain ⟨g1, g2⟩ := s.hs.upd (nb := .mapO (ks ++ [kv]) (vs ++ [v])) hk (by simp) h2 (ext_setObj (o := .map (l.push { key := kv, val := a.eval z, born := ck }) (ck + 1)) h6) (fun l' => by
    simp only [RB]
    refine ⟨b, o, _, _, rfl, (MapKept.heap_set h6).1, by simp [h7], ?_⟩
    rw [Array.toList_push, List.map_append]
    exact RL_append (h8.later l') (by simp only [List.map_cons, List.map_nil, RL]; exact ⟨_, _, rfl, hzv.later l', rfl⟩))
  exact hK' _ _ (hv c ρ S _ _ Q ⟨by rw [size_put]; exact s.size, by rw [defers_put]; exact s.defers.later g2, fun tt uu huu => (s.env tt uu huu).later g2, g1, s.cm⟩ hQ)
/-- A key's value is replaced. -/
theorem vc_mapPut (ht : P.underlying t = some (.map kt et)) (ko : KeyOk P kt good) (hx : evu env x = some (.mp k)) {yv : AV} (hy : evu env y = some yv) (hyv : IsV yv kv) (hz : evu env z = some v) (hk : h[k]? = some (.mapO ks vs)) (hkeys : ∀ q, q ∈ ks → good q) (hkey : good kv) (hnd : ks.Nodup) (hi : ks[i]? = some kv)
    (hv : VC P n ops rest env (h.set k (.mapO ks (vs.set i v))) K) : VC P n ops (⟨none, .mapUpdate t x y z, ty, pos, af, none⟩ :: rest) env h K := by
  intro c ρ S a w Q s hQ
  refine wpList_plain rfl fun K' hK' => ?_
  have p := s.pre
  have h1 := p.evu hx
  simp only [R] at h1
  obtain ⟨b, o, h2, h3⟩ := h1
  have h4 := hyv _ _ _ _ (p.evu hy)
  have hzv := p.evu hz
  obtain ⟨b', o', l, ck, h5, h6, h7, h8⟩ := map_find (p.blk k _ hk)
  rw [h2] at h5; cases h5
  obtain ⟨e, h9, h10, h11⟩ := find_some ko w h7 hkeys hkey hnd hi
  have h12 : l[i]? = some e := by simpa using h10
  have hr : (execOp a.eval ⟨none, .mapUpdate t x y z, ty, pos, af, none⟩).run P w = .ok .skip { w with heap := w.heap.setIfInBounds b (.map (l.modify i fun e => { e with key := kv, val := a.eval z }) ck) } := by
    simp [execOp, h3, h4, Instr.mapUpdate, run_underlying ht, MapKept.run_getObj_map h6, ko.check w _ hkey, h9, MapKept.run_setObj_map _ h6, h12, h11, ko.stays w hkey]
  unfold Oper.wp
  rw [hr]
  have hget : ∀ j, (l.modify i fun e => { e with key := kv, val := a.eval z }).toList[j]? = if i = j then (l.toList[j]?).map (fun e => { e with key := kv, val := a.eval z }) else l.toList[j]? := fun j => by
    simp only [Array.getElem?_toList, Array.getElem?_modify]
  obtain ⟨g1, g2⟩ := s.hs.upd (nb := .mapO ks (vs.set i v)) hk (by simp) h2 (ext_setObj (o := .map (l.modify i fun e => { e with key := kv, val := a.eval z }) ck) h6) (fun l' => by
    simp only [RB]
    refine ⟨b, o, _, _, rfl, (MapKept.heap_set h6).1, ?_, ?_⟩
    · rw [← h7]
      apply List.ext_getElem?
      intro j
      rw [List.getElem?_map, List.getElem?_map, hget]
      split
      · rename_i e'; subst e'; rw [h10]; simp [h11]
      · rfl
    · have e1 : List.map (fun x => x.val) (l.modify i fun e => { e with key := kv, val := a.eval z }).toList = (l.toList.map (·.val)).set i (a.eval z) := by
        apply List.ext_getElem?
        intro j
        rw [List.getElem?_map, hget, List.getElem?_set, List.getElem?_map]
        split
        · rename_i e'; subst e'
          have := (List.getElem?_eq_some_iff.1 h10).1
          rw [h10, if_pos (by simpa using this)]; rfl
        · rfl
      rw [e1]
      exact RL_set (h8.later l') i (hzv.later l'))
  exact hK' _ _ (hv c ρ S _ _ Q ⟨by rw [size_put]; exact s.size, by rw [defers_put]; exact s.defers.later g2, fun tt uu huu => (s.env tt uu huu).later g2, g1, s.cm⟩ hQ)
end
end
end
end Go.Ab
