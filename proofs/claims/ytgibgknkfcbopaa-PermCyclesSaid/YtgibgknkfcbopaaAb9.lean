/-
  A logic of values for the walk, ninth part: calls of functions.
-/
import Derived.Test.YtgibgknkfcbopaaAb8
namespace Go.Ab
open Go
set_option linter.unusedVariables false
set_option linter.unusedSimpArgs false

/-! ### What a callee sees of the caller's values -/
mutual
/-- The callee's view of a value: the caller's own objects are memory that does not change while the callee runs. -/
inductive View (h : Hp) : AV → AV → Prop
  | v (x : Value) : View h (.v x) (.v x)
  | any : View h .any .any
  | row (cs : List AV) (len sz : Nat) : View h (.row cs len sz) (.row cs len sz)
  | pr (cs : List AV) (off : Nat) : View h (.pr cs off) (.pr cs off)
  | sl {k off len sz : Nat} {es : List (List AV)} {cs' : List AV} : h[k]? = some (.arr es sz) → off + len ≤ es.length → ViewL h ((es.drop off).take len).flatten cs' → View h (.sl k off len sz) (.row cs' len sz)
  | ptr {k off : Nat} {cs cs' : List AV} : h[k]? = some (.cells cs) → ViewL h cs cs' → View h (.ptr k off) (.pr cs' off)
  | ep {k i off sz : Nat} {es : List (List AV)} {c c' : List AV} : h[k]? = some (.arr es sz) → es[i]? = some c → ViewL h c c' → View h (.ep k i off sz) (.pr c' off)
  | agg {cs cs' : List AV} : ViewL h cs cs' → View h (.agg cs) (.agg cs')
  | tup {cs cs' : List AV} : ViewL h cs cs' → View h (.tup cs) (.tup cs')
  | clo {f : Fn} {cs cs' ds ds' : List AV} : ViewL h cs cs' → ViewL h ds ds' → View h (.clo f cs ds) (.clo f cs' ds')
  | ifc {t : TypeId} {x x' : AV} : View h x x' → View h (.ifc t x) (.ifc t x')
  | nils (sz : Nat) : View h .nils (.row [] 0 sz)
inductive ViewL (h : Hp) : List AV → List AV → Prop
  | nil : ViewL h [] []
  | cons {x x' : AV} {xs xs' : List AV} : View h x x' → ViewL h xs xs' → ViewL h (x :: xs) (x' :: xs')
end

theorem ViewL.length {h : Hp} : ∀ {xs xs' : List AV}, ViewL h xs xs' → xs'.length = xs.length
  | _, _, .nil => rfl
  | _, _, .cons _ h2 => by simp [ViewL.length h2]
theorem ViewL.vs {h : Hp} : ∀ (l : List Value), ViewL h (l.map .v) (l.map .v)
  | [] => .nil
  | x :: l => .cons (.v x) (ViewL.vs l)
theorem ViewL.get {h : Hp} : ∀ {xs xs' : List AV}, ViewL h xs xs' → ∀ (j : Nat) x', xs'[j]? = some x' → ∃ x, xs[j]? = some x ∧ View h x x'
  | _, _, .nil, j, x', hx => by simp at hx
  | _, _, .cons h1 h2, j, x', hx => by
    cases j with
    | zero => simp at hx; subst hx; exact ⟨_, by simp, h1⟩
    | succ j => simpa using h2.get j x' (by simpa using hx)

/-- The blocks of the caller's live objects. -/
def liveB (h : Hp) (ρ : Pl) (b : Nat) : Prop := ∃ (k : Nat) (x : AB) (o : Nat), h[k]? = some x ∧ x ≠ .gone ∧ ρ k = some (b, o)

theorem R_more {S : Nat → Prop} {w : World} {ρ : Pl} {x : AV} {y : Value} (T : Nat → Prop) (h : R S w x ρ y) : R (fun b => S b ∨ T b) w x ρ y :=
  R_later (fun _ h => .inl h) (fun _ _ => rfl) x ρ ρ y (fun _ _ h => h) (fun _ _ _ _ _ h => h) h

mutual
theorem view_val {S : Nat → Prop} {w : World} {ρ : Pl} {h : Hp} (hb : ∀ (k : Nat) b, h[k]? = some b → RB S w ρ (ρ k) b) : ∀ {x x' : AV}, View h x x' → ∀ {y : Value}, R S w x ρ y → R (fun b => S b ∨ liveB h ρ b) w x' (fun _ => none) y
  | _, _, .v x, y, hy => by simpa [R] using hy
  | _, _, .any, y, hy => by simp [R]
  | _, _, .row cs len sz, y, hy => R_more _ (by simpa only [R] using hy)
  | _, _, .pr cs off, y, hy => R_more _ (by simpa only [R] using hy)
  | _, _, .nils sz, y, hy => by
    have := R_v hy
    subst this
    simp only [R]
    exact ⟨none, 0, rfl, Nat.le_refl _, fun _ => rfl, by simp, by simp, .inl trivial⟩
  | _, _, .agg h1, y, hy => by
    simp only [R] at *
    obtain ⟨ys, e1, h2⟩ := hy
    exact ⟨ys, e1, viewL_val hb h1 h2⟩
  | _, _, .tup h1, y, hy => by
    simp only [R] at *
    obtain ⟨ys, e1, h2⟩ := hy
    exact ⟨ys, e1, viewL_val hb h1 h2⟩
  | _, _, .clo h1 h2, y, hy => by
    simp only [R] at *
    obtain ⟨ys, zs, e1, h3, h4⟩ := hy
    exact ⟨ys, zs, e1, viewL_val hb h1 h3, viewL_val hb h2 h4⟩
  | _, _, .ifc h1, y, hy => by
    simp only [R] at *
    obtain ⟨z, e1, h2⟩ := hy
    exact ⟨z, e1, view_val hb h1 h2⟩
  | _, _, .ptr hk h1, y, hy => by
    simp only [R] at *
    obtain ⟨b, o, hp, e1⟩ := hy
    have h2 := hb _ _ hk
    simp only [RB, hp] at h2
    obtain ⟨b', o', ys, e2, h3, h4⟩ := h2
    cases e2
    exact ⟨b, o, ys, e1, .inr ⟨_, _, o, hk, by simp, hp⟩, h3.lies, viewL_val hb h1 h4⟩
  | _, _, @View.ep _ k i off sz es c c' hk hi h1, y, hy => by
    simp only [R] at *
    obtain ⟨b, o, hp, e1⟩ := hy
    have h2 := hb _ _ hk
    simp only [RB, hp] at h2
    obtain ⟨hes, hs0, h2⟩ := h2
    rcases h2 with h2 | ⟨b', o', ys, e2, h3, h4⟩
    · subst h2; simp at hi
    cases e2
    have hc : (es.flatten.drop (i * sz)).take sz = c := by
      apply List.ext_getElem?
      intro j
      rw [List.getElem?_take]
      split
      · rename_i hj; rw [List.getElem?_drop, flatten_at hes hi j hj]
      · have := hes c (List.mem_of_getElem? hi)
        rw [List.getElem?_eq_none (by omega)]
    have h5 := RL_take (RL_drop h4 (i * sz)) sz
    rw [hc] at h5
    refine ⟨b, o + i * sz, _, by rw [e1, Nat.add_assoc], .inr ⟨_, _, o, hk, by simp, hp⟩, ?_, viewL_val hb h1 h5⟩
    obtain ⟨cc, e, fz, h6, h7⟩ := h3.lies
    refine ⟨cc, e, fz, h6, fun j u hj => ?_⟩
    rw [List.getElem?_take] at hj
    split at hj
    · rw [List.getElem?_drop] at hj
      rw [Nat.add_assoc]; exact h7 _ _ hj
    · cases hj
  | _, _, @View.sl _ k off len sz es cs' hk hle h1, y, hy => by
    have hel := elems_val hb hy (.sl hk hle)
    have hlen : ((es.drop off).take len).length = len := by rw [List.length_take, List.length_drop]; omega
    obtain ⟨a, cap, ys, e1, h2, h3, h4, h5, h6, h7⟩ := hel
    rw [hlen] at e1 h2 h5 h7
    have h8 := viewL_val hb h1 h6
    simp only [R] at hy ⊢
    obtain ⟨a', cap', e2, _, h9⟩ := hy
    rw [e1] at e2
    cases e2
    refine ⟨a, cap, e1, h2, h4, h3, by rw [ViewL.length h1, ← RL_length h6, h5], ?_⟩
    rcases h9 with ⟨h9, _⟩ | ⟨b, o, h10, h11, h12, h13⟩
    · exact .inl h9
    · rcases h7 with h7 | ⟨b', o', h14, h15⟩
      · exact .inl h7
      · rw [h11] at h14
        cases h14
        exact .inr ⟨b, _, ys, h11, .inr ⟨_, _, o, hk, by simp, h10⟩, h15, h8⟩
theorem viewL_val {S : Nat → Prop} {w : World} {ρ : Pl} {h : Hp} (hb : ∀ (k : Nat) b, h[k]? = some b → RB S w ρ (ρ k) b) : ∀ {xs xs' : List AV}, ViewL h xs xs' → ∀ {ys : List Value}, RL S w xs ρ ys → RL (fun b => S b ∨ liveB h ρ b) w xs' (fun _ => none) ys
  | _, _, .nil, ys, hy => by simpa [RL] using hy
  | _, _, .cons h1 h2, ys, hy => by
    simp only [RL] at *
    obtain ⟨y, zs, e1, h3, h4⟩ := hy
    exact ⟨y, zs, e1, view_val hb h1 h3, viewL_val hb h2 h4⟩
end

/-! ### Values without objects; results without memory that does not change -/
mutual
def AV.idf : AV → Bool
  | .v _ | .any | .row .. | .pr .. => true
  | .ptr .. | .ep .. | .sl .. | .mp .. => false
  | .agg cs | .tup cs => AV.idfL cs
  | .clo _ cs ds => AV.idfL cs && AV.idfL ds
  | .cond _ x => x.idf
  | .ifc _ x => x.idf
def AV.idfL : List AV → Bool
  | [] => true
  | x :: xs => x.idf && AV.idfL xs
end
mutual
def AV.rf : AV → Bool
  | .v _ | .any | .ptr .. | .ep .. | .sl .. | .mp .. => true
  | .row .. | .pr .. => false
  | .agg cs | .tup cs => AV.rfL cs
  | .clo _ cs ds => AV.rfL cs && AV.rfL ds
  | .cond _ x => x.rf
  | .ifc _ x => x.rf
def AV.rfL : List AV → Bool
  | [] => true
  | x :: xs => x.rf && AV.rfL xs
end
def AB.rf : AB → Bool
  | .gone => false
  | .cells cs => AV.rfL cs
  | .mapO _ vs => AV.rfL vs
  | .arr es _ => es.all AV.rfL
mutual
theorem R_idf {S : Nat → Prop} {w : World} (ρ ρ' : Pl) : ∀ (x : AV) (y : Value), x.idf = true → R S w x ρ y → R S w x ρ' y
  | .v x, y, _, h => by simpa only [R] using h
  | .any, _, _, _ => by simp [R]
  | .pr cs off, y, _, h => by simpa only [R] using h
  | .row cs len sz, y, _, h => by simpa only [R] using h
  | .ptr .., _, h, _ | .ep .., _, h, _ | .sl .., _, h, _ | .mp .., _, h, _ => by simp [AV.idf] at h
  | .agg cs, y, hi, h => by
    simp only [R, AV.idf] at *
    obtain ⟨ys, h1, h2⟩ := h
    exact ⟨ys, h1, RL_idf ρ ρ' cs _ hi h2⟩
  | .tup cs, y, hi, h => by
    simp only [R, AV.idf] at *
    obtain ⟨ys, h1, h2⟩ := h
    exact ⟨ys, h1, RL_idf ρ ρ' cs _ hi h2⟩
  | .clo f cs ds, y, hi, h => by
    simp only [R, AV.idf, Bool.and_eq_true] at *
    obtain ⟨ys, zs, h1, h2, h3⟩ := h
    exact ⟨ys, zs, h1, RL_idf ρ ρ' cs _ hi.1 h2, RL_idf ρ ρ' ds _ hi.2 h3⟩
  | .cond b x, y, hi, h => by
    simp only [R, AV.idf] at *
    exact fun hb => R_idf ρ ρ' x y hi (h hb)
  | .ifc t x, y, hi, h => by
    simp only [R, AV.idf] at *
    obtain ⟨z, h1, h2⟩ := h
    exact ⟨z, h1, R_idf ρ ρ' x z hi h2⟩
theorem RL_idf {S : Nat → Prop} {w : World} (ρ ρ' : Pl) : ∀ (xs : List AV) (ys : List Value), AV.idfL xs = true → RL S w xs ρ ys → RL S w xs ρ' ys
  | [], ys, _, h => by simpa only [RL] using h
  | x :: xs, ys, hi, h => by
    simp only [RL, AV.idfL, Bool.and_eq_true] at *
    obtain ⟨y, zs, h1, h2, h3⟩ := h
    exact ⟨y, zs, h1, R_idf ρ ρ' x y hi.1 h2, RL_idf ρ ρ' xs zs hi.2 h3⟩
end
mutual
theorem R_rf {S S' : Nat → Prop} {w : World} (ρ : Pl) : ∀ (x : AV) (y : Value), x.rf = true → R S w x ρ y → R S' w x ρ y
  | .v x, y, _, h => by simpa only [R] using h
  | .any, _, _, _ => by simp [R]
  | .pr .., _, h, _ | .row .., _, h, _ => by simp [AV.rf] at h
  | .ptr k off, y, _, h => by simpa only [R] using h
  | .ep k i off sz, y, _, h => by simpa only [R] using h
  | .sl k off len sz, y, _, h => by simpa only [R] using h
  | .mp k, y, _, h => by simpa only [R] using h
  | .agg cs, y, hi, h => by
    simp only [R, AV.rf] at *
    obtain ⟨ys, h1, h2⟩ := h
    exact ⟨ys, h1, RL_rf ρ cs _ hi h2⟩
  | .tup cs, y, hi, h => by
    simp only [R, AV.rf] at *
    obtain ⟨ys, h1, h2⟩ := h
    exact ⟨ys, h1, RL_rf ρ cs _ hi h2⟩
  | .clo f cs ds, y, hi, h => by
    simp only [R, AV.rf, Bool.and_eq_true] at *
    obtain ⟨ys, zs, h1, h2, h3⟩ := h
    exact ⟨ys, zs, h1, RL_rf ρ cs _ hi.1 h2, RL_rf ρ ds _ hi.2 h3⟩
  | .cond b x, y, hi, h => by
    simp only [R, AV.rf] at *
    exact fun hb => R_rf ρ x y hi (h hb)
  | .ifc t x, y, hi, h => by
    simp only [R, AV.rf] at *
    obtain ⟨z, h1, h2⟩ := h
    exact ⟨z, h1, R_rf ρ x z hi h2⟩
theorem RL_rf {S S' : Nat → Prop} {w : World} (ρ : Pl) : ∀ (xs : List AV) (ys : List Value), AV.rfL xs = true → RL S w xs ρ ys → RL S' w xs ρ ys
  | [], ys, _, h => by simpa only [RL] using h
  | x :: xs, ys, hi, h => by
    simp only [RL, AV.rfL, Bool.and_eq_true] at *
    obtain ⟨y, zs, h1, h2, h3⟩ := h
    exact ⟨y, zs, h1, R_rf ρ x y hi.1 h2, RL_rf ρ xs zs hi.2 h3⟩
end
theorem rfL_append : ∀ (a b : List AV), AV.rfL (a ++ b) = (AV.rfL a && AV.rfL b)
  | [], b => by simp [AV.rfL]
  | x :: a, b => by simp [AV.rfL, rfL_append a b, Bool.and_assoc]
theorem rfL_flatten : ∀ (es : List (List AV)), es.all AV.rfL = true → AV.rfL es.flatten = true
  | [], _ => rfl
  | e :: es, h => by
    simp only [List.all_cons, Bool.and_eq_true] at h
    rw [List.flatten_cons, rfL_append, h.1, rfL_flatten es h.2]; rfl
theorem RB_rf {S S' : Nat → Prop} {w : World} {ρ : Pl} {p : Option (Nat × Nat)} : ∀ {b : AB}, b.rf = true → RB S w ρ p b → RB S' w ρ p b
  | .gone, _, _ => trivial
  | .cells cs, hr, h => by
    obtain ⟨b, o, ys, h1, h2, h3⟩ := h
    exact ⟨b, o, ys, h1, h2, RL_rf ρ _ _ hr h3⟩
  | .mapO ks vs, hr, h => by
    obtain ⟨b, o, m, ck, h1, h2, h3, h4⟩ := h
    exact ⟨b, o, m, ck, h1, h2, h3, RL_rf ρ _ _ hr h4⟩
  | .arr es sz, hr, h => by
    obtain ⟨h0, h00, h⟩ := h
    refine ⟨h0, h00, ?_⟩
    rcases h with h | ⟨b, o, ys, h1, h2, h3⟩
    · exact .inl h
    · exact .inr ⟨b, o, ys, h1, h2, RL_rf ρ _ _ (rfL_flatten es hr) h3⟩

def evL (env : Env) : List Operand → Option (List AV)
  | [] => some []
  | x :: r => match evu env x, evL env r with
    | some u, some us => some (u :: us)
    | _, _ => none
theorem evL_val {ρ : Pl} {S : Nat → Prop} {env : Env} {h : Hp} {a : Act} {w : World} (p : Pre ρ S env h a w) : ∀ {l : List Operand} {us : List AV}, evL env l = some us → RL S w us ρ (l.map a.eval)
  | [], us, hl => by simp only [evL, Option.some.injEq] at hl; subst hl; simp [RL]
  | x :: r, us, hl => by
    simp only [evL] at hl
    split at hl
    · rename_i u us' h1 h2
      cases hl
      simp only [List.map_cons, RL]
      exact ⟨_, _, rfl, p.evu h1, evL_val p h2⟩
    · cases hl

theorem run_call {P : Program} {f : FuncId} {args : Array Value} {w : World} (hf : ∃ fn, P.funcs[f]? = some fn ∧ (fn.name == "runtime.NumGoroutine") = false ∧ fn.body.isNone = false) : (callFunc f args).run P w = .ok (.enter f args) w := by
  obtain ⟨fn, h1, h2, h3⟩ := hf
  have h2' : ¬ fn.name = "runtime.NumGoroutine" := by simpa using h2
  have h3' : ¬ fn.body = none := by intro e; rw [e] at h3; cases h3
  simp [callFunc, h1, h2', h3']

section
variable {P : Program} {env : Env} {h : Hp}
variable {d : Option Nat} {ty : TypeId} {pos : String} {af : Array Edge} {g : Option (Nat × Bool)}

/-- The callee's objects behind the caller's. -/
def Pl.join (ρ ρ' : Pl) (p m : Nat) : Pl := fun k => if p ≤ k ∧ k < p + m then ρ' (k - p) else ρ k

/-- A call of a function that is handed no object to write. -/
theorem fs_call {x : Operand} {f : FuncId} {fs cs us xs : List AV} {args : List Operand} {ats : Array TypeId} {res : AV} {hout : Hp} (hx : evu env x = some (.clo (.func f) fs cs)) (ha : evL env args = some us)
    (hc : ACall P f xs [] res hout) (hr : (ViewL h (fs ++ us ++ cs) xs ∧ (res.rf && hout.all AB.rf) = true) ∨ (AV.idfL (fs ++ us ++ cs) = true ∧ fs ++ us ++ cs = xs ∧ ∀ b, b ∈ hout → b ≠ .gone)) :
    FStep P ⟨d, .call { callee := .value x, args := args.toArray, argTypes := ats }, ty, pos, af, g⟩ env h hout.length (fun p => res.map (· + p)) (fun p => hout.map (AB.map (· + p))) := by
  intro ρ S a w p q hq K Q hk
  have hxv := p.evu hx
  simp only [R] at hxv
  obtain ⟨ys, zs, e1, h1, h2⟩ := hxv
  have hall : RL S w (fs ++ us ++ cs) ρ (ys.toList ++ args.map a.eval ++ zs.toList) := RL_append (RL_append h1 (evL_val p ha)) h2
  obtain ⟨hf, hc⟩ := hc
  have hng : ∀ b, b ∈ hout → b ≠ .gone := fun b hb => by
    rcases hr with ⟨_, hr⟩ | ⟨_, _, hr⟩
    · simp only [Bool.and_eq_true, List.all_eq_true] at hr
      intro e
      have := hr.2 b hb
      rw [e] at this
      simp [AB.rf] at this
    · exact hr b hb
  -- what the callee may rely on
  obtain ⟨S1, hS1, hS1w, hargs⟩ : ∃ S1 : Nat → Prop, (∀ b, S b → S1 b) ∧ (∀ b, S1 b → b < w.heap.size) ∧ RL S1 w xs (fun _ => none) (ys.toList ++ args.map a.eval ++ zs.toList) ∧ ((res.rf && hout.all AB.rf) = true ∨ S1 = S) := by
    rcases hr with ⟨hv, hr⟩ | ⟨h3, h4, _⟩
    · refine ⟨fun b => S b ∨ liveB h ρ b, fun _ h => .inl h, fun b hb => ?_, viewL_val p.blk hv hall, .inl hr⟩
      rcases hb with hb | ⟨k, x, o, _, _, hb⟩
      · exact p.stab b hb
      · exact p.rng k _ hb
    · exact ⟨S, fun _ h => h, p.stab, by rw [← h4]; exact RL_idf _ _ _ _ h3 hall, .inr rfl⟩
  obtain ⟨hargs, hS⟩ := hargs
  have hs0 : HS (ctx0 w (fun _ => none) S1 []) (fun _ => none) S1 [] w := ⟨fun _ _ => rfl, (fun _ _ h => by cases h), (fun k b hb => by simp at hb), (fun k b p hb => by simp at hb), (fun k _ b _ _ _ hb => by simp at hb), hS1w, Ext.refl _ _, fun _ h => h, fun _ h => .inl h, Nat.le_refl _, (fun _ h => by simp [ctx0] at h)⟩
  have hcall := hc (fun _ => none) S1 w _ hs0 hargs
  unfold Oper.wp
  have hrun : (execOp a.eval ⟨d, .call { callee := .value x, args := args.toArray, argTypes := ats }, ty, pos, af, g⟩).run P w = .ok (.enter f (ys.toList ++ args.map a.eval ++ zs.toList).toArray) w := by
    have e2 : (ys ++ (args.toArray.map a.eval) ++ zs) = (ys.toList ++ args.map a.eval ++ zs.toList).toArray := by
      apply Array.ext'; simp
    simp only [execOp, resolve, e1, Deferred.ofValue, Sem.run_bind, Sem.run_pure, Result.andThen_ok, invoke]
    rw [e2]
    exact run_call hf
  rw [hrun]
  simp only [Oper.upon]
  refine hcall.mono ?_
  rintro e w' ⟨y, ρ', S', rfl, hs, hy⟩
  simp only
  have hM : ∀ b, (ctx0 w (fun _ => none) S1 []).M b → w.heap.size ≤ b := fun b hb => by
    rcases hb with hb | ⟨k, x, o, hb, _⟩
    · exact hb
    · simp at hb
  have hext : Ext (fun _ => False) w w' := hs.ext.mono fun b hb hm => by have := hM b hm; simp [ctx0] at hb; omega
  have pl : ∀ k r, ρ' k = some r → (ρ.join ρ' q hout.length) (k + q) = some r := fun k r hk => by
    have hlt : k < hout.length := by
      rcases Nat.lt_or_ge k hout.length with h | h
      · exact h
      · rw [hs.dom k h] at hk; cases hk
    unfold Pl.join
    rw [if_pos ⟨by omega, by omega⟩, show k + q - q = k by omega]; exact hk
  have shift : ∀ {S2 : Nat → Prop} {x : AV} {y : Value}, R S2 w' x ρ' y → R S2 w' (x.map (· + q)) (ρ.join ρ' q hout.length) y := fun {S2 x y} hx => R_map' (· + q) _ x y (R_later (fun _ h => h) (fun _ _ => rfl) x ρ' _ y (fun k r hk => pl k r hk) (fun _ _ _ _ _ h => h) hx)
  have shiftB : ∀ {S2 : Nat → Prop} {b : AB} {pp}, RB S2 w' ρ' pp b → RB S2 w' (ρ.join ρ' q hout.length) pp (b.map (· + q)) := fun {S2 b pp} hb => RB_map' (· + q) _ (RB.later (ρ := ρ') (S := S2) ⟨fun k r hk => pl k r hk, fun _ h => h, fun _ _ => rfl, fun _ _ _ _ _ h => h⟩ (fun _ _ _ => rfl) hb)
  have old : ∀ {S2 : Nat → Prop}, (∀ b, S2 b → S b ∨ (w.heap.size ≤ b ∧ b < w'.heap.size)) → (∀ b, S b → S2 b) → (∀ {x : AV} {y : Value}, x = res → R S' w' x ρ' y → R S2 w' x ρ' y) → (∀ {b : AB} {pp}, b ∈ hout → RB S' w' ρ' pp b → RB S2 w' ρ' pp b) → (∀ (k : Nat) b pp, hout[k]? = some b → ρ' k = some pp → ¬ S2 pp.1) →
      Post ρ (ρ.join ρ' q hout.length) S S2 w w' q hout.length (res.map (· + q)) (hout.map (AB.map (· + q))) y := fun {S2} g1 g2 g3 g4 g5 => by
    refine ⟨hext, by simp, fun k hk => ?_, g2, g1, fun k r hk1 hk2 hr => ?_, fun k k' r r' a1 a2 a3 a4 hr hr' e => ?_, shift (g3 rfl hy), fun j b hb => ?_⟩
    · unfold Pl.join; rw [if_neg (by omega)]
    · unfold Pl.join at hr
      rw [if_pos ⟨hk1, hk2⟩] at hr
      have hlt : k - q < hout.length := by omega
      have hget := List.getElem?_eq_getElem hlt
      have hl := hs.live (k - q) _ r hget (hng _ (List.getElem_mem hlt)) hr
      exact ⟨hM _ hl.1, hs.rng _ r hr, g5 _ _ r hget hr⟩
    · unfold Pl.join at hr hr'
      rw [if_pos ⟨a1, a2⟩] at hr
      rw [if_pos ⟨a3, a4⟩] at hr'
      have h1 := List.getElem?_eq_getElem (l := hout) (i := k - q) (by omega)
      have h2 := List.getElem?_eq_getElem (l := hout) (i := k' - q) (by omega)
      have := hs.inj (k - q) (k' - q) _ _ r r' h1 h2 (hng _ (List.getElem_mem _)) (hng _ (List.getElem_mem _)) hr hr' e
      omega
    · simp only [List.getElem?_map, Option.map_eq_some_iff] at hb
      obtain ⟨b', h3, rfl⟩ := hb
      have hlt := (List.getElem?_eq_some_iff.1 h3).1
      have e2 : (ρ.join ρ' q hout.length) (q + j) = ρ' j := by
        unfold Pl.join; rw [if_pos ⟨by omega, by omega⟩, show q + j - q = j by omega]
      rw [e2]
      exact shiftB (g4 (List.mem_of_getElem? h3) (hs.blk j b' h3))
  rcases hS with hS | hS
  · simp only [Bool.and_eq_true, List.all_eq_true] at hS
    refine hk y _ S w' (old (fun b hb => .inl hb) (fun _ h => h) (fun {x y} e hx => ?_) (fun {b pp} hb hx => RB_rf (hS.2 b hb) hx) (fun k b pp hb hp hs' => ?_))
    · subst e; exact R_rf ρ' _ _ hS.1 hx
    · have hl := hs.live k b pp hb (hng b (List.mem_of_getElem? hb)) hp
      have := hM _ hl.1
      have := p.stab _ hs'
      omega
  · subst hS
    refine hk y _ S' w' (old (fun b hb => ?_) (fun b hb => hs.st0 b hb) (fun {x y} e hx => hx) (fun {b pp} hb hx => hx) (fun k b pp hb hp => (hs.live k b pp hb (hng b (List.mem_of_getElem? hb)) hp).2))
    rcases hs.st1 b hb with hb' | hb'
    · exact .inl hb'
    · exact .inr ⟨hM b hb', hs.stab b hb⟩

mutual
theorem map_idf (θ : Nat → Nat) : ∀ (x : AV), x.idf = true → x.map θ = x
  | .v x, _ => rfl
  | .any, _ => rfl
  | .row .., _ => rfl
  | .pr .., _ => rfl
  | .ptr .., h | .ep .., h | .sl .., h | .mp .., h => by simp [AV.idf] at h
  | .agg cs, h => by simp only [AV.idf] at h; simp only [AV.map, mapL_idf θ cs h]
  | .tup cs, h => by simp only [AV.idf] at h; simp only [AV.map, mapL_idf θ cs h]
  | .clo f cs ds, h => by simp only [AV.idf, Bool.and_eq_true] at h; simp only [AV.map, mapL_idf θ cs h.1, mapL_idf θ ds h.2]
  | .cond b x, h => by simp only [AV.idf] at h; simp only [AV.map, map_idf θ x h]
  | .ifc t x, h => by simp only [AV.idf] at h; simp only [AV.map, map_idf θ x h]
theorem mapL_idf (θ : Nat → Nat) : ∀ (xs : List AV), AV.idfL xs = true → AV.mapL θ xs = xs
  | [], _ => rfl
  | x :: xs, h => by simp only [AV.idfL, Bool.and_eq_true] at h; simp only [AV.mapL, map_idf θ x h.1, mapL_idf θ xs h.2]
end

/-- At plain arguments, with a plain result. -/
theorem fs_call0 {x : Operand} {f : FuncId} {fs cs us xs : List AV} {args : List Operand} {ats : Array TypeId} {res : AV} (hx : evu env x = some (.clo (.func f) fs cs)) (ha : evL env args = some us)
    (hc : ACall P f xs [] res []) (he : fs ++ us ++ cs = xs) (hi : AV.idfL xs = true) (hr : res.idf = true) :
    FStep P ⟨d, .call { callee := .value x, args := args.toArray, argTypes := ats }, ty, pos, af, g⟩ env h 0 (fun _ => res) (fun _ => []) := by
  have := fs_call (d := d) (ty := ty) (pos := pos) (af := af) (g := g) (h := h) (ats := ats) hx ha hc (.inr ⟨by rw [he]; exact hi, he, fun b hb => by cases hb⟩)
  simpa only [map_idf _ _ hr, List.map_nil, List.length_nil] using this
/-- At the caller's own objects, which are only read, with a plain result. -/
theorem fs_callb0 {x : Operand} {f : FuncId} {fs cs us xs : List AV} {args : List Operand} {ats : Array TypeId} {res : AV} (hx : evu env x = some (.clo (.func f) fs cs)) (ha : evL env args = some us)
    (hc : ACall P f xs [] res []) (hv : ViewL h (fs ++ us ++ cs) xs) (hrf : res.rf = true) (hr : res.idf = true) :
    FStep P ⟨d, .call { callee := .value x, args := args.toArray, argTypes := ats }, ty, pos, af, g⟩ env h 0 (fun _ => res) (fun _ => []) := by
  have := fs_call (d := d) (ty := ty) (pos := pos) (af := af) (g := g) (h := h) (ats := ats) hx ha hc (.inl ⟨hv, by simp [hrf]⟩)
  simpa only [map_idf _ _ hr, List.map_nil, List.length_nil] using this

end
end Go.Ab
