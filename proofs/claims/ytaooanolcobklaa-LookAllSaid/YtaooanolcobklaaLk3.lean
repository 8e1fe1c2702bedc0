/-
  Layer 40: what the finder remembers, and the worst answer at a place.
-/
import Derived.Test.YtaooanolcobklaaLk2
import Derived.KernelRfl
namespace Go.Proofs.Ytaooanolcobklaa
open Go Go.Ab Go.Lk
set_option linter.unusedVariables false
set_option linter.unusedSimpArgs false
attribute [local irreducible] VC AW FStep ACall
set_option maxHeartbeats 4000000

/-! ### Six numbers as a key -/
def rngI (x : Int) : Prop := -9223372036854775808 ≤ x ∧ x ≤ 9223372036854775807
theorem wf_rng {x : Int} : (Lit.int .i64 x).wf = true ↔ rngI x := by
  have h1 : IntKind.i64.min = -9223372036854775808 := by decide
  have h2 : IntKind.i64.max = 9223372036854775807 := by decide
  simp [Lit.wf, rngI, h1, h2]
abbrev six (s : Nat → Int) : List Value := [.int .i64 (s 0), .int .i64 (s 1), .int .i64 (s 2), .int .i64 (s 3), .int .i64 (s 4), .int .i64 (s 5)]
abbrev sixA (s : Nat → Int) : AV := .agg [.i (s 0), .i (s 1), .i (s 2), .i (s 3), .i (s 4), .i (s 5)]
def kv (s : Nat → Int) : Value := .agg (six s).toArray
def Six (s : Nat → Int) : Prop := ∀ q, rngI (s q)
def goodK (v : Value) : Prop := ∃ s, Six s ∧ v = kv s
theorem isv_six (s : Nat → Int) : IsV (sixA s) (kv s) := IsV.agg (six s)
theorem kv_inj {s t : Nat → Int} (h : kv s = kv t) : ∀ q, q < 6 → s q = t q := by
  simp only [kv, six, Value.agg.injEq, Array.mk.injEq, List.cons.injEq, Value.int.injEq, true_and, and_true] at h
  obtain ⟨h0, h1, h2, h3, h4, h5⟩ := h
  intro q hq
  have : q = 0 ∨ q = 1 ∨ q = 2 ∨ q = 3 ∨ q = 4 ∨ q = 5 := by omega
  rcases this with rfl | rfl | rfl | rfl | rfl | rfl <;> assumption
abbrev seenT : TypeId := 61
theorem seen_u : Try.prog.underlying seenT = some (.array 6 3) := by kernel_rfl
theorem int_u : Try.prog.underlying 3 = some (.int .i64) := by kernel_rfl
theorem seen_c6 : Try.prog.cellsOf seenT = 6 := by kernel_rfl
theorem int_c1 : Try.prog.cellsOf 3 = 1 := by kernel_rfl
theorem seen_kt : Try.prog.keyType seenT = true := by kernel_rfl
theorem types_pos : Nat.ble 1 Try.prog.types.size = true := by kernel_rfl
theorem key_good {s : Nat → Int} (h : Six s) : ∃ l, keyOf Try.prog seenT (kv s) = some l := by
  have hp := Nat.le_of_ble_eq_true types_pos
  obtain ⟨d, hd⟩ : ∃ d, Try.prog.types.size = d + 1 := ⟨Try.prog.types.size - 1, by omega⟩
  have hw : ∀ q, (Lit.int .i64 (s q)).wf = true := fun q => wf_rng.2 (h q)
  have hf : Value.formed Try.prog seenT (kv s) = true := by simp only [kv, Value.formed, seen_u, seen_c6]; rfl
  have one : ∀ x, (Lit.int .i64 x).wf = true → Try.prog.keyLits (d + 1) 3 [.int .i64 x] = some [.int .i64 x] := fun x hx => by
    simp only [Program.keyLits, int_u, hx, and_self, if_true]
  unfold keyOf
  rw [seen_u]
  simp only [seen_kt, hf, Bool.and_self, if_true, hd]
  have e : Try.prog.keyLits (d + 1 + 1) seenT (kv s).cells.toList = some [.int .i64 (s 0), .int .i64 (s 1), .int .i64 (s 2), .int .i64 (s 3), .int .i64 (s 4), .int .i64 (s 5)] := by
    have e0 : (kv s).cells.toList = six s := rfl
    have e1 : List.range 6 = [0, 1, 2, 3, 4, 5] := rfl
    rw [e0]
    simp [Program.keyLits, seen_u, int_u, seen_c6, int_c1, e1, hw, List.mapM_cons]
  rw [e]
  exact ⟨_, rfl⟩
theorem seen_ktAt : Try.prog.keyTypeAt 2 seenT = true := by kernel_rfl
theorem seen_tiled : Try.prog.tiled 2 seenT = true := by kernel_rfl
theorem seen_key : KeyOk Try.prog seenT goodK := by
  have k := KeyOk.deep (P := Try.prog) (m := 2) (by decide) seen_ktAt seen_tiled (by rw [seen_u])
  have w : ∀ {v}, goodK v → ∃ l, keyOf Try.prog seenT v = some l := fun ⟨s, h1, h2⟩ => h2 ▸ key_good h1
  exact ⟨fun w' em v hv => k.check w' em (w hv), fun w' x hx es hes => k.find w' (w hx) es fun e he => w (hes e he), fun w' v hv => k.stays w' (w hv)⟩

/-! ### What was seen -/
def sees (n : Nat) (s : Nat → Int) (a : List Int) : Bool := (List.range n).all fun p => decide (s p = 0 ∨ s p = IntKind.i64.wrap (cell a p + 1))
def matchM (n : Nat) (w0 : Ws) (s : Nat → Int) : Ws := w0.filter (sees n s)
def updS (s : Nat → Int) (p : Nat) (x : Int) (q : Nat) : Int := if q = p then x else s q
theorem wrap_rng (x : Int) : rngI (IntKind.i64.wrap x) := by
  rw [IntKind.wrap_i64]; unfold rngI; omega
theorem updS_six {s : Nat → Int} (h : Six s) (p : Nat) (x : Int) : Six (updS s p (IntKind.i64.wrap x)) := by
  intro q
  unfold updS
  split
  · exact wrap_rng x
  · exact h q
theorem set_six {s : Nat → Int} {p : Nat} {x : Int} (h : p < 6) : ([.i (s 0), .i (s 1), .i (s 2), .i (s 3), .i (s 4), .i (s 5)] : List AV).set p (.i x) = [.i (updS s p x 0), .i (updS s p x 1), .i (updS s p x 2), .i (updS s p x 3), .i (updS s p x 4), .i (updS s p x 5)] := by
  have : p = 0 ∨ p = 1 ∨ p = 2 ∨ p = 3 ∨ p = 4 ∨ p = 5 := by omega
  rcases this with rfl | rfl | rfl | rfl | rfl | rfl <;> rfl
/-- What is left after one more place was looked at. -/
theorem match_upd {n : Nat} {w0 : Ws} {s : Nat → Int} {p : Nat} {a : List Int} (hw : ∀ b, b ∈ w0 → ∀ x, x ∈ b → rngI x ∧ 0 ≤ x) (hl : ∀ b, b ∈ w0 → b.length = n) (hp : p < n) (ha : a ∈ matchM n w0 s) :
    matchM n w0 (updS s p (IntKind.i64.wrap (cell a p + 1))) = leftM (matchM n w0 s) p (cell a p) := by
  unfold matchM leftM
  rw [List.filter_filter]
  apply List.filter_congr
  intro b hb
  have ha' : a ∈ w0 ∧ sees n s a = true := by simpa [matchM] using ha
  have ra := hw a ha'.1 _ (cell_mem (p := p) (by rw [hl a ha'.1]; exact hp))
  have rb := hw b hb _ (cell_mem (p := p) (by rw [hl b hb]; exact hp))
  have sa := ha'.2
  rw [Bool.eq_iff_iff]
  simp only [sees, List.all_eq_true, List.mem_range, decide_eq_true_eq, Bool.and_eq_true] at sa ⊢
  unfold rngI at ra rb
  have wne : IntKind.i64.wrap (cell a p + 1) ≠ 0 := by rw [IntKind.wrap_i64]; omega
  have winj : IntKind.i64.wrap (cell a p + 1) = IntKind.i64.wrap (cell b p + 1) ↔ cell b p = cell a p := by
    rw [IntKind.wrap_i64, IntKind.wrap_i64]
    constructor
    · intro h; omega
    · intro h; rw [h]
  constructor
  · intro h
    have h1 := h p hp
    unfold updS at h1
    rw [if_pos rfl] at h1
    have h2 : cell b p = cell a p := winj.1 (h1.resolve_left wne)
    refine ⟨h2, fun q hq => ?_⟩
    by_cases hqp : q = p
    · subst hqp
      rw [h2]; exact sa q hq
    · have := h q hq
      unfold updS at this
      rwa [if_neg hqp] at this
  · rintro ⟨h1, h2⟩ q hq
    unfold updS
    by_cases hqp : q = p
    · subst hqp
      rw [if_pos rfl, h1]; exact .inr rfl
    · rw [if_neg hqp]; exact h2 q hq
theorem match_congr {n : Nat} {w0 : Ws} {s t : Nat → Int} (h : ∀ q, q < n → s q = t q) : matchM n w0 s = matchM n w0 t := by
  unfold matchM
  apply List.filter_congr
  intro b _
  rw [Bool.eq_iff_iff]
  simp only [sees, List.all_eq_true, List.mem_range, decide_eq_true_eq]
  constructor <;> intro g q hq
  · rw [← h q hq]; exact g q hq
  · rw [h q hq]; exact g q hq
theorem match_none (n : Nat) (w0 : Ws) : matchM n w0 (fun _ => 0) = w0 := by
  unfold matchM
  rw [List.filter_eq_self]
  intro a _
  simp [sees]

/-! ### What is remembered -/
abbrev ansA (r : Nat × Int) : AV := .agg [.i (r.1 : Int), .i r.2]
structure Memo (ids : List Int) (w0 : Ws) (n : Nat) (m : List Value × List AV) : Prop where
  nd : m.1.Nodup
  len : m.1.length = m.2.length
  idf : AV.idfL m.2 = true
  at_ : ∀ (i : Nat) k, m.1[i]? = some k → ∃ s, Six s ∧ k = kv s ∧ m.2[i]? = some (ansA (needM ids (matchM n w0 s)))
theorem Memo.good {ids : List Int} {w0 : Ws} {n : Nat} {m : List Value × List AV} (g : Memo ids w0 n m) : ∀ q, q ∈ m.1 → goodK q := by
  intro q hq
  obtain ⟨i, hi⟩ := List.getElem?_of_mem hq
  obtain ⟨s, h1, h2, _⟩ := g.at_ i q hi
  exact ⟨s, h1, h2⟩
theorem idfL_app : ∀ (a b : List AV), AV.idfL a = true → AV.idfL b = true → AV.idfL (a ++ b) = true
  | [], _, _, hb => hb
  | x :: a, b, ha, hb => by
    simp only [List.cons_append, AV.idfL, Bool.and_eq_true] at ha ⊢
    exact ⟨ha.1, idfL_app a b ha.2 hb⟩
theorem Memo.find {ids : List Int} {w0 : Ws} {n : Nat} {m : List Value × List AV} (g : Memo ids w0 n m) (hn : n ≤ 6) {s : Nat → Int} {i : Nat} (hi : m.1[i]? = some (kv s)) : m.2[i]? = some (ansA (needM ids (matchM n w0 s))) := by
  obtain ⟨t, _, h2, h3⟩ := g.at_ i _ hi
  rw [h3, match_congr fun q hq => kv_inj h2 q (by omega)]
theorem Memo.put {ids : List Int} {w0 : Ws} {n : Nat} {m : List Value × List AV} (g : Memo ids w0 n m) {s : Nat → Int} (hs : Six s) (hni : kv s ∉ m.1) : Memo ids w0 n (m.1 ++ [kv s], m.2 ++ [ansA (needM ids (matchM n w0 s))]) := by
  refine ⟨?_, by simp [g.len], idfL_app _ _ g.idf rfl, fun i k hi => ?_⟩
  · rw [List.nodup_append]
    exact ⟨g.nd, by simp, fun a ha b hb e => hni (by simp at hb; rw [← hb, ← e]; exact ha)⟩
  · by_cases hlt : i < m.1.length
    · rw [List.getElem?_append_left hlt] at hi
      obtain ⟨t, h1, h2, h3⟩ := g.at_ i k hi
      exact ⟨t, h1, h2, by rw [List.getElem?_append_left (by rw [← g.len]; exact hlt)]; exact h3⟩
    · have hl := (List.getElem?_eq_some_iff.1 hi).1
      simp at hl
      have e : i = m.1.length := by omega
      subst e
      rw [List.getElem?_append_right (Nat.le_refl _)] at hi
      simp at hi
      exact ⟨s, hs, hi.symm, by rw [g.len, List.getElem?_append_right (Nat.le_refl _)]; simp⟩
theorem Memo.set {ids : List Int} {w0 : Ws} {n : Nat} {m : List Value × List AV} (g : Memo ids w0 n m) (hn : n ≤ 6) {s : Nat → Int} {i : Nat} (hi : m.1[i]? = some (kv s)) : m.2.set i (ansA (needM ids (matchM n w0 s))) = m.2 := by
  apply List.ext_getElem?
  intro j
  rw [List.getElem?_set]
  split
  · rename_i e; subst e
    rw [if_pos (by rw [← g.len]; exact (List.getElem?_eq_some_iff.1 hi).1)]
    exact (g.find hn hi).symm
  · rfl
abbrev fcells (ids : List Int) : AB := .cells [.rowE (ints ids) 1, .mp 1]
theorem sub_map {h : Hp} {i : Nat} {θ : Nat → Nat} {ks : List Value} {vs vs' : List AV} (hk : h[i]? = some (.mapO ks vs')) (he : vs' = vs) (hi : AV.idfL vs = true) : h[i]? = some ((AB.mapO ks vs).map θ) := by
  subst he
  rw [hk]
  show _ = some (AB.mapO ks (AV.mapL θ vs'))
  rw [mapL_idf θ vs' hi]
theorem sub_cells {h : Hp} {i : Nat} {θ : Nat → Nat} {cs cs' : List AV} (hk : h[i]? = some (.cells cs')) (he : cs' = AV.mapL θ cs) : h[i]? = some ((AB.cells cs).map θ) := by
  rw [hk, he]; rfl
/-- A row of states, each of which follows from the one before. -/
theorem chain {α : Type} (G : α → Prop) (S : Nat → α → α → Prop) : ∀ (N : Nat), (∀ i, i < N → ∀ m, G m → ∃ m', G m' ∧ S i m m') → ∀ m0, G m0 → ∃ M : Nat → α, M 0 = m0 ∧ (∀ i, i ≤ N → G (M i)) ∧ ∀ i, i < N → S i (M i) (M (i + 1))
  | 0, _, m0, g => ⟨fun _ => m0, rfl, fun _ _ => g, fun i hi => absurd hi (Nat.not_lt_zero i)⟩
  | N + 1, h, m0, g => by
    obtain ⟨M, h1, h2, h3⟩ := chain G S N (fun i hi => h i (by omega)) m0 g
    obtain ⟨m', h4, h5⟩ := h N (by omega) (M N) (h2 N (Nat.le_refl _))
    refine ⟨fun i => if i ≤ N then M i else m', by simp [h1], fun i hi => ?_, fun i hi => ?_⟩
    · by_cases hN : i ≤ N
      · simp only [hN, if_true]; exact h2 i hN
      · simp only [hN, if_false]; exact h4
    · by_cases hN : i + 1 ≤ N
      · have : i ≤ N := by omega
        simp only [hN, this, if_true]; exact h3 i (by omega)
      · obtain rfl : i = N := by omega
        simp only [Nat.le_refl, if_true, hN, if_false]; exact h5
end Go.Proofs.Ytaooanolcobklaa
