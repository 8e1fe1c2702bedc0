/-
  A logic of values for the walk, twenty-sixth part: an iterator's contract, and a loop over it.
-/
import Derived.Test.YtgibgknkfcbopaaAb25
namespace Go.Ab
open Go
set_option linter.unusedVariables false
set_option linter.unusedSimpArgs false

/-! ### The iterator -/
/-- Where an iterator's call begins: it may write what A says. -/
def ctxI (w : World) (ρ : Pl) (S : Nat → Prop) (hit : Hp) (A : Nat → Prop) (hA : ∀ b, w.heap.size ≤ b → A b) : Ctx where
  w0 := w
  M := A
  new := hA
  S0 := S
  ρ0 := ρ
  m := hit.length
  lo := w.heap.size
  lole := Nat.le_refl _
  r := none
/-- Function f, handed the objects of 'hit', calls yield at these N elements, or stops where it is told to. -/
def AIter (P : Program) (f : FuncId) (fs cs : List AV) (hit : Hp) (items : Nat → List AV) (N : Nat) : Prop :=
  (∃ fn, P.funcs[f]? = some fn ∧ (fn.name == "runtime.NumGoroutine") = false ∧ fn.body.isNone = false) ∧
  ∀ (J : JT) (A : Nat → Prop) (l : Nat), JOk J → JYield P l J A items N → ∀ ρ S w vs W Nn (hA : ∀ b, w.heap.size ≤ b → A b), HS (ctxI w ρ S hit A hA) ρ S hit w → RL S w (fs ++ [.clo (.yield l) [] []] ++ cs) ρ vs → J (0, false) W Nn w →
    (∀ (k : Nat) x p, hit[k]? = some x → x ≠ .gone → ρ k = some p → ¬ Nn p.1) → (∀ b, S b → A b ∧ ¬ W b) → (∀ b, W b → A b) →
    Calls P f vs.toArray w fun e w' => ∃ y g W' N', e = .returned y ∧ J g W' N' w' ∧ (g.2 = false → g.1 = N)

theorem leaves_shut2 {P : Program} {fn : Func} {tmps : Array Value} {RR : Ending → World → Prop} {c : Ctx} {ρ : Pl} {h : Hp} (hlo : c.w0.heap.size ≤ c.lo) (h0 : ∀ b, c.S0 b → b < c.w0.heap.size) : ∀ (D : List Nat) (S : Nat → Prop) (w : World), HS c ρ S h w → D.Nodup → (∀ b, b ∈ D → S b ∧ w.heap[b]? = some (.deferred (some [])) ∧ c.lo ≤ b) →
    (∀ S' w', HS c ρ S' h w' → (∀ x y, R S w x ρ y → R S' w' x ρ y) → Ext (fun b => b ∈ D) w w' → ∃ v, (results fn tmps).run P w' = .ok v w' ∧ RR (.returned v) w') → LeavesInM Fence.wide 0 P fn tmps RR (D.map mark) .returning w
  | [], S, w, s, _, _, hk => by
    have := hk S w s (fun _ _ h => h) (Ext.refl _ _)
    simpa only [List.map_nil, LeavesInM, LeavesIn] using this
  | m :: D, S, w, s, hnd, hD, hk => by
    rw [List.nodup_cons] at hnd
    obtain ⟨h1, h2, h3⟩ := hD m (by simp)
    obtain ⟨g1, g2⟩ := s.shut1 h2 (by omega) h1 h0
    simp only [List.map_cons, LeavesInM]
    refine ⟨by simp, .inl ⟨m, _, rfl, run_takeDeferred h2, leaves_shut2 hlo h0 D _ _ g1 hnd.2 (fun b hb => ?_) fun S' w' s' hr hx => hk S' w' s' (fun x y hx => hr x y (g2 x y hx)) ?_⟩⟩
    · have hne : b ≠ m := fun e => hnd.1 (e ▸ hb)
      obtain ⟨q1, q2, q3⟩ := hD b (by simp [hb])
      exact ⟨⟨q1, hne⟩, by rw [put_other hne]; exact q2, q3⟩
    · exact ((ext_put h2 (fun _ _ _ e => by cases e)).mono fun b _ hb => by simp [hb]).trans hx (fun b hb _ => by simp [hb])

theorem aiter {P : Program} (T : Tab P) {f : FuncId} {fn : Func} {code : Code} {n N : Nat} {fs cs : List AV} {hit : Hp} {items : Nat → List AV} (hf : P.funcs[f]? = some fn) (hb : fn.body = some code) (hnm : (fn.name == "runtime.NumGoroutine") = false) (hn : fn.ntmps = n) (ha : Nat.ble (fs.length + 1 + cs.length) n = true)
    (haw : ∀ J A l, JOk J → JYield P l J A items N → AY P J A (n, hit.length) code (0, false) (argEnv 0 (fs ++ [.clo (.yield l) [] []] ++ cs)) hit (fun g e v h => (e = .ret ∨ e = .normal) ∧ (g.2 = false → g.1 = N) ∧ ∃ xs, retAV T v h fn.results.toList = some xs)) : AIter P f fs cs hit items N := by
  refine ⟨⟨fn, hf, hnm, by rw [hb]; rfl⟩, ?_⟩
  intro J A l hJ hy ρ S w vs W Nn hA hs hargs j0 hd1 hd2 hd3
  have hlen := RL_length hargs
  have hle := Nat.le_of_ble_eq_true ha
  refine (callsIn_wide (n := 0)).1 (callsIn_of_wp_marks (F := Fence.wide) hf hb trivial ?_ rfl)
  refine haw J A l hJ hy (ctxI w ρ S hit A hA) ρ S _ w _ ⟨?_, Marks.nil rfl _ _, fun t x hx => ?_, hs, rfl⟩ ⟨W, Nn, j0, hd1, fun b hb => (hd2 b hb).2, fun b hb hlo => ?_, hd3, fun b hb => (hd2 b hb).1, fun b hb => hb⟩ ?_
  · simp at hlen; simp [hn]; omega
  · obtain ⟨_, h1⟩ := argEnv_look hx
    simp only [Nat.sub_zero] at h1
    obtain ⟨y, h2, h3⟩ := RL_get hargs t x h1
    have hlt : t < vs.length := (List.getElem?_eq_some_iff.1 h2).1
    have : (vs.toArray ++ Array.replicate (fn.ntmps - vs.toArray.size) undef).getD t undef = y := by
      rw [Array.getD_eq_getD_getElem?, Array.getElem?_append_left (by simpa using hlt)]
      simp [h2]
    rw [this]; exact h3
  · have := hs.stab b hb
    have hlo : w.heap.size ≤ b := hlo
    omega
  · intro g e env' h' ρ' S' a' w' hq s ⟨W', N', j⟩
    obtain ⟨he, hg, xs, h1⟩ := hq
    obtain ⟨⟨D, hD1, hD2, hD3⟩, _⟩ := s.defers
    have hl : LeavesInM Fence.wide 0 P fn a'.tmps (fun e w' => ∃ y g W' N', e = Ending.returned y ∧ J g W' N' w' ∧ (g.2 = false → g.1 = N)) a'.defers .returning w' := by
      rw [hD1]
      refine leaves_shut2 (c := ctxI w ρ S hit A hA) (Nat.le_refl _) (fun b hb => hs.stab b hb) D S' w' s.hs hD2 hD3 fun S2 w2 s2 hr hx => ?_
      obtain ⟨ys, h7, h8⟩ := results_val T s2.blk (fun t x hx => hr _ _ (s.env t x hx)) h1
      have hm : (fn.results.mapM (resultOf a'.tmps)).run P w2 = .ok ys.toArray w2 := by
        rw [Array.mapM_eq_mapM_toList]
        simp only [Sem.run_map, h7, Result.andThen_ok]
      refine ⟨_, by rw [results_eq]; simp only [Sem.run_bind, hm, Result.andThen_ok, Sem.run_pure]; rfl, _, g, W', N', rfl, hJ.st j.j (hx.mono fun b _ hb hn => ?_), hg⟩
      obtain ⟨q1, q2, q3⟩ := hD3 b hb
      obtain ⟨cc, e, fz, q4⟩ := j.cell b q1 q3 hn
      rw [q2] at q4; cases q4
    rcases he with rfl | rfl
    · exact hl
    · exact hl

/-! ### Values that name the first m objects only -/
mutual
def AV.low (m : Nat) : AV → Bool
  | .v _ | .any | .row .. | .pr .. => true
  | .ptr k _ | .ep k _ _ _ | .sl k _ _ _ | .mp k => Nat.blt k m
  | .agg cs | .tup cs => AV.lowL m cs
  | .clo _ cs ds => AV.lowL m cs && AV.lowL m ds
  | .cond _ x => AV.low m x
  | .ifc _ x => AV.low m x
def AV.lowL (m : Nat) : List AV → Bool
  | [] => true
  | x :: xs => AV.low m x && AV.lowL m xs
end
theorem blt_lt {k m : Nat} (h : Nat.blt k m = true) : k < m := Nat.le_of_ble_eq_true h
mutual
theorem R_low {S : Nat → Prop} {w : World} {ρ ρ' : Pl} {m : Nat} (hρ : ∀ k, k < m → ρ' k = ρ k) : ∀ (x : AV) (y : Value), x.low m = true → R S w x ρ y → R S w x ρ' y
  | .v x, y, _, h => by simpa only [R] using h
  | .any, _, _, _ => by simp [R]
  | .pr cs off, y, _, h => by simpa only [R] using h
  | .row cs len sz, y, _, h => by simpa only [R] using h
  | .ptr k off, y, hi, h => by
    simp only [R, AV.low] at *
    rw [hρ k (blt_lt hi)]; exact h
  | .ep k i off sz, y, hi, h => by
    simp only [R, AV.low] at *
    rw [hρ k (blt_lt hi)]; exact h
  | .sl k off len sz, y, hi, h => by
    simp only [R, AV.low] at *
    rw [hρ k (blt_lt hi)]; exact h
  | .mp k, y, hi, h => by
    simp only [R, AV.low] at *
    rw [hρ k (blt_lt hi)]; exact h
  | .agg cs, y, hi, h => by
    simp only [R, AV.low] at *
    obtain ⟨ys, h1, h2⟩ := h
    exact ⟨ys, h1, RL_low hρ cs _ hi h2⟩
  | .tup cs, y, hi, h => by
    simp only [R, AV.low] at *
    obtain ⟨ys, h1, h2⟩ := h
    exact ⟨ys, h1, RL_low hρ cs _ hi h2⟩
  | .clo f cs ds, y, hi, h => by
    simp only [R, AV.low, Bool.and_eq_true] at *
    obtain ⟨ys, zs, h1, h2, h3⟩ := h
    exact ⟨ys, zs, h1, RL_low hρ cs _ hi.1 h2, RL_low hρ ds _ hi.2 h3⟩
  | .cond b x, y, hi, h => by
    simp only [R, AV.low] at *
    exact fun hb => R_low hρ x y hi (h hb)
  | .ifc t x, y, hi, h => by
    simp only [R, AV.low] at *
    obtain ⟨z, h1, h2⟩ := h
    exact ⟨z, h1, R_low hρ x z hi h2⟩
theorem RL_low {S : Nat → Prop} {w : World} {ρ ρ' : Pl} {m : Nat} (hρ : ∀ k, k < m → ρ' k = ρ k) : ∀ (xs : List AV) (ys : List Value), AV.lowL m xs = true → RL S w xs ρ ys → RL S w xs ρ' ys
  | [], ys, _, h => by simpa only [RL] using h
  | x :: xs, ys, hi, h => by
    simp only [RL, AV.lowL, Bool.and_eq_true] at *
    obtain ⟨y, zs, h1, h2, h3⟩ := h
    exact ⟨y, zs, h1, R_low hρ x y hi.1 h2, RL_low hρ xs zs hi.2 h3⟩
end
def lowE (m : Nat) : Env → Bool
  | [] => true
  | (_, x) :: r => x.low m && lowE m r
theorem lowE_look {m : Nat} : ∀ {env : Env}, lowE m env = true → ∀ {t x}, look env t = some x → x.low m = true
  | [], _, _, _, h => by cases h
  | (k, u) :: r, hl, t, x, h => by
    simp only [lowE, Bool.and_eq_true] at hl
    rw [look_cons] at h
    split at h
    · cases h; exact hl.1
    · exact lowE_look hl.2 h

/-- The frame at a round's begin: yield's arguments in the loop's parameters. -/
def roundEnv : List Nat → List AV → Env → Env
  | t :: ts, x :: xs, E => roundEnv ts xs ((t, x) :: E)
  | _, _, E => E
def jumpOf : Exit → Option Code
  | .ret => some .ret
  | .exit id => some (.exit id)
  | .goto t => some (.goto t)
  | _ => none
theorem fold_env {S : Nat → Prop} {w : World} {ρ : Pl} : ∀ (ts : List Nat) (xs : List AV) (vs : List Value) (E : Env) (tm : Array Value), (∀ t, t ∈ ts → t < tm.size) → RL S w xs ρ vs → (∀ t x, look E t = some x → R S w x ρ (tm.getD t undef)) → ts.length = xs.length →
    ((ts.zip vs).foldl (fun tm (p : Nat × Value) => tm.setIfInBounds p.1 p.2) tm).size = tm.size ∧ ∀ t x, look (roundEnv ts xs E) t = some x → R S w x ρ (((ts.zip vs).foldl (fun tm (p : Nat × Value) => tm.setIfInBounds p.1 p.2) tm).getD t undef)
  | [], _, _, E, tm, _, _, hE, _ => ⟨rfl, by intro t x hx; simpa [roundEnv] using hE t x (by simpa [roundEnv] using hx)⟩
  | t0 :: ts, [], _, E, tm, _, _, hE, hl => by simp at hl
  | t0 :: ts, x0 :: xs, vs, E, tm, hlt, hv, hE, hl => by
    simp only [RL] at hv
    obtain ⟨y, zs, rfl, h1, h2⟩ := hv
    have h0 := hlt t0 (by simp)
    obtain ⟨h3, h4⟩ := fold_env ts xs zs ((t0, x0) :: E) (tm.setIfInBounds t0 y) (fun t ht => by simpa using hlt t (by simp [ht])) h2 (fun t x hx => by
      rw [look_cons] at hx
      split at hx
      · rename_i e
        subst e; cases hx
        simp [Array.getD, h0]; exact h1
      · rename_i e
        have := hE t x hx
        rwa [show (tm.setIfInBounds t0 y).getD t undef = tm.getD t undef by
          simp only [Array.getD_eq_getD_getElem?]; rw [Array.getElem?_setIfInBounds_ne e]]) (by simpa using hl)
    exact ⟨by simpa using h3, fun t x hx => by simpa [roundEnv] using h4 t x (by simpa [roundEnv] using hx)⟩
end Go.Ab
