/-
  A logic of values for the walk, text 56: contracts that name their results by a property; a drawn region in every order; what is handed back and written by nobody any more; lookups in maps that are only read.
-/
import Derived.Test.YtcdgmjfmmnklnaaAb39
import Derived.Test.YtcdgmjfmmnklnaaAb36
namespace Go.Ab
open Go Go.MapKept
set_option linter.unusedVariables false
set_option linter.unusedSimpArgs false
def PCall (P : Program) (f : FuncId) (args : List AV) (hin : Hp) (Φ : AV → Hp → Prop) : Prop :=
  (∃ fn, P.funcs[f]? = some fn ∧ (fn.name == "runtime.NumGoroutine") = false ∧ fn.body.isNone = false) ∧
  ∀ ρ S w vs, HS (ctx0 w ρ S hin) ρ S hin w → RL S w args ρ vs →
    Calls P f vs.toArray w fun e w' => ∃ res hout, Φ res hout ∧ ∃ y ρ' S', e = .returned y ∧ HS (ctx0 w ρ S hin) ρ' S' hout w' ∧ R S' w' res ρ' y
theorem PCall.mono {P : Program} {f : FuncId} {args : List AV} {hin : Hp} {Φ Ψ : AV → Hp → Prop} (h : PCall P f args hin Φ) (hi : ∀ r o, Φ r o → Ψ r o) : PCall P f args hin Ψ :=
  ⟨h.1, fun ρ S w vs hs ha => (h.2 ρ S w vs hs ha).mono fun _ _ ⟨r, o, h1, h2⟩ => ⟨r, o, hi r o h1, h2⟩⟩
theorem PCall.toA {P : Program} {f : FuncId} {args : List AV} {hin hout : Hp} {res : AV} {Φ : AV → Hp → Prop} (h : PCall P f args hin Φ) (hi : ∀ r o, Φ r o → r = res ∧ o = hout) : ACall P f args hin res hout :=
  ⟨h.1, fun ρ S w vs hs ha => (h.2 ρ S w vs hs ha).mono fun _ _ ⟨r, o, h1, h2⟩ => by obtain ⟨rfl, rfl⟩ := hi r o h1; exact h2⟩
def retP {P : Program} (T : Tab P) (rs : List ResultVar) (m : Nat) (Φ : AV → Hp → Prop) (e : Exit) (v : Env) (h : Hp) : Prop := ∃ res hout, Φ res hout ∧ retQ T rs m res hout e v h
theorem pcall {P : Program} (T : Tab P) {f : FuncId} {fn : Func} {code : Code} {n : Nat} {args : List AV} {hin : Hp} {Φ : AV → Hp → Prop} (hf : P.funcs[f]? = some fn) (hb : fn.body = some code) (hnm : (fn.name == "runtime.NumGoroutine") = false) (hn : fn.ntmps = n) (ha : Nat.ble args.length n = true)
    (haw : AW P (n, hin.length) code (argEnv 0 args) hin (retP T fn.results.toList hin.length Φ)) : PCall P f args hin Φ := by
  refine ⟨⟨fn, hf, hnm, by rw [hb]; rfl⟩, ?_⟩
  intro ρ S w vs hs hargs
  have hlen := RL_length hargs
  have hle := Nat.le_of_ble_eq_true ha
  refine (callsIn_wide (n := 0)).1 (callsIn_of_wp_marks (F := Fence.wide) hf hb trivial ?_ rfl)
  refine haw (ctx0 w ρ S hin) ρ S _ w _ ⟨?_, Marks.nil rfl _ _, fun t x hx => ?_, hs, rfl⟩ ?_
  · simp [hn]; omega
  · obtain ⟨_, h1⟩ := argEnv_look hx
    simp only [Nat.sub_zero] at h1
    obtain ⟨y, h2, h3⟩ := RL_get hargs t x h1
    have hlt : t < vs.length := (List.getElem?_eq_some_iff.1 h2).1
    have : (vs.toArray ++ Array.replicate (fn.ntmps - vs.toArray.size) undef).getD t undef = y := by
      rw [Array.getD_eq_getD_getElem?, Array.getElem?_append_left (by simpa using hlt)]
      simp [h2]
    rw [this]; exact h3
  · intro e env' h' ρ' S' a' w' hq s
    obtain ⟨res, hout, hΦ, he, L, xs, h1, h2, h3, h4, h5, h6⟩ := hq
    have fin : ∀ S2 w2, HS (ctx0 w ρ S hin) ρ' S2 h' w2 → (∀ x y, R S' w' x ρ' y → R S2 w2 x ρ' y) → ∃ v, (results fn a'.tmps).run P w2 = .ok v w2 ∧ (fun e w' => ∃ res hout, Φ res hout ∧ ∃ y ρ' S', e = Ending.returned y ∧ HS (ctx0 w ρ S hin) ρ' S' hout w' ∧ R S' w' res ρ' y) (.returned v) w2 := fun S2 w2 s2 hr => by
      have hs' := s2.sub h3 h4 h5 (fun i hi => h6 i hi)
      obtain ⟨ys, h7, h8⟩ := results_val T s2.blk (fun t x hx => hr _ _ (s.env t x hx)) h1
      have hres : ∃ y, (results fn a'.tmps).run P w2 = .ok y w2 ∧ R S2 w2 (oneOf xs) ρ' y := by
        have hm : (fn.results.mapM (resultOf a'.tmps)).run P w2 = .ok ys.toArray w2 := by
          rw [Array.mapM_eq_mapM_toList]
          simp only [Sem.run_map, h7, Result.andThen_ok]
        have hl := RL_length h8
        rw [results_eq]
        simp only [Sem.run_bind, hm, Result.andThen_ok, Sem.run_pure]
        refine ⟨_, rfl, ?_⟩
        match xs, ys, h8, hl with
        | [x], [y], h8, _ =>
          simp only [RL] at h8
          obtain ⟨y', zs, e1, h9, _⟩ := h8
          cases e1
          simpa [oneOf] using h9
        | [], [], h8, _ =>
          simp only [oneOf, R]
          exact ⟨#[], by simp, by simp [RL]⟩
        | x :: x2 :: xs, y :: y2 :: ys, h8, _ =>
          simp only [oneOf, R]
          refine ⟨(y :: y2 :: ys).toArray, ?_, by simpa using h8⟩
          rw [dif_neg (by simp)]
      obtain ⟨y, h9, h10⟩ := hres
      rw [h2] at h10
      exact ⟨y, h9, res, hout, hΦ, y, _, S2, rfl, hs', R_map _ ρ' _ _ h10⟩
    obtain ⟨⟨D, hD1, hD2, hD3⟩, _⟩ := s.defers
    have hl : LeavesInM Fence.wide 0 P fn a'.tmps (fun e w' => ∃ res hout, Φ res hout ∧ ∃ y ρ' S', e = Ending.returned y ∧ HS (ctx0 w ρ S hin) ρ' S' hout w' ∧ R S' w' res ρ' y) a'.defers .returning w' := by
      rw [hD1]
      exact leaves_shut (c := ctx0 w ρ S hin) (Nat.le_refl _) (fun b hb => hs.stab b hb) D S' w' s.hs hD2 hD3 fin
    rcases he with rfl | rfl
    · exact hl
    · exact hl
section
variable {P : Program} {n : Nat × Nat} {ops : Array Oper} {rest : List Oper} {env : Env} {h : Hp} {K : Env → Hp → Prop}
variable {d : Option Nat} {ty : TypeId} {pos : String} {af : Array Edge}
theorem vc_pcallb {x : Operand} {f : FuncId} {fs cs us xs : List AV} {args : List Operand} {ats : Array TypeId} {Ψ : AV → Prop} (hx : evu env x = some (.clo (.func f) fs cs)) (ha : evL env args = some us)
    (hc : PCall P f xs [] (fun r o => o = [] ∧ Ψ r)) (hv : ViewL h (fs ++ us ++ cs) xs) (hrf : ∀ r, Ψ r → r.rf = true) (hd : okd d n = true)
    (hk : ∀ r, Ψ r → VC P n ops rest (putd d r env) h K) : VC P n ops (⟨d, .call { callee := .value x, args := args.toArray, argTypes := ats }, ty, pos, af, none⟩ :: rest) env h K := by
  intro c ρ S a w Q s hQ
  refine wpList_plain rfl fun K' hK' => ?_
  have p := s.pre
  have hxv := p.evu hx
  simp only [R] at hxv
  obtain ⟨ys, zs, e1, h1, h2⟩ := hxv
  have hall : RL S w (fs ++ us ++ cs) ρ (ys.toList ++ args.map a.eval ++ zs.toList) := RL_append (RL_append h1 (evL_val p ha)) h2
  obtain ⟨hf, hc⟩ := hc
  have hS1w : ∀ b, (S b ∨ liveB h ρ b) → b < w.heap.size := fun b hb => by
    rcases hb with hb | ⟨k, x, o, _, _, hb⟩
    · exact p.stab b hb
    · exact p.rng k _ hb
  have hargs : RL (fun b => S b ∨ liveB h ρ b) w xs (fun _ => none) (ys.toList ++ args.map a.eval ++ zs.toList) := viewL_val p.blk hv hall
  have hs0 : HS (ctx0 w (fun _ => none) (fun b => S b ∨ liveB h ρ b) []) (fun _ => none) (fun b => S b ∨ liveB h ρ b) [] w := ⟨fun _ _ => rfl, (fun _ _ h => by cases h), (fun k b hb => by simp at hb), (fun k b p hb => by simp at hb), (fun k _ b _ _ _ hb => by simp at hb), hS1w, Ext.refl _ _, fun _ h => h, fun _ h => .inl h, Nat.le_refl _, (fun _ h => by simp [ctx0] at h), p.glob.st fun b hb => .inl hb⟩
  have hcall := hc (fun _ => none) _ w _ hs0 hargs
  unfold Oper.wp
  have hrun : (execOp a.eval ⟨d, .call { callee := .value x, args := args.toArray, argTypes := ats }, ty, pos, af, none⟩).run P w = .ok (.enter f (ys.toList ++ args.map a.eval ++ zs.toList).toArray) w := by
    have e2 : (ys ++ (args.toArray.map a.eval) ++ zs) = (ys.toList ++ args.map a.eval ++ zs.toList).toArray := by
      apply Array.ext'; simp
    simp only [execOp, resolve, e1, Deferred.ofValue, Sem.run_bind, Sem.run_pure, Result.andThen_ok, invoke]
    rw [e2]
    exact run_call hf
  rw [hrun]
  simp only [Oper.upon]
  refine hcall.mono ?_
  rintro e w' ⟨res, hout, ⟨rfl, hΨ⟩, y, ρ', S', rfl, hs, hy⟩
  simp only
  have hM : ∀ b, (ctx0 w (fun _ => none) (fun b => S b ∨ liveB h ρ b) []).M b → w.heap.size ≤ b := fun b hb => by
    rcases hb with hb | ⟨k, x, o, hb, _⟩
    · exact hb
    · simp at hb
  have hext : Ext (fun _ => False) w w' := hs.ext.mono fun b hb hm => by have := hM b hm; simp [ctx0] at hb; omega
  have hρ : ρ' = fun _ => none := funext fun k => hs.dom k (Nat.zero_le _)
  subst hρ
  have hpost : Post ρ ρ S S w w' h.length 0 res [] y := by
    refine ⟨hext, rfl, fun _ _ => rfl, fun _ hb => hb, fun _ hb => .inl hb, fun k p h1 h2 _ => by omega, fun k k' p p' h1 h2 _ _ _ => by omega, ?_, fun j b hb => by simp at hb⟩
    exact R_later (fun _ h => h) (fun _ _ => rfl) res (fun _ => none) ρ y (fun _ _ h => nomatch h) (fun _ _ _ _ h => nomatch h) (R_rf _ _ _ (hrf _ hΨ) hy)
  have hsim := s.post (d := d) hd hpost
  rw [List.append_nil] at hsim
  exact hK' _ _ (hk _ hΨ c ρ S _ w' Q hsim hQ)
theorem vc_pcallw (L : List Nat) {x : Operand} {f : FuncId} {fs cs us xs : List AV} {args : List Operand} {ats : Array TypeId} {Φ : AV → Hp → Prop} {hin : Hp} (hx : evu env x = some (.clo (.func f) fs cs)) (ha : evL env args = some us)
    (hc : PCall P f xs hin Φ) (hxs : fs ++ us ++ cs = AV.mapL (th L h.length) xs) (hL : L.length = hin.length) (hnd : L.Nodup) (hh : SubH (th L h.length) h 0 hin) (hng : ∀ b, b ∈ hin → b ≠ .gone) (hd : okd d n = true)
    (hk : ∀ res hout, Φ res hout → VC P n ops rest (putd d (res.map (backL L h.length hin.length)) env) (putH h L ((hout.take hin.length).map (AB.map (backL L h.length hin.length))) ++ (hout.drop hin.length).map (AB.map (backL L h.length hin.length))) K) :
    VC P n ops (⟨d, .call { callee := .value x, args := args.toArray, argTypes := ats }, ty, pos, af, none⟩ :: rest) env h K := by
  intro c ρ S a w Q s hQ
  refine wpList_plain rfl fun K' hK' => ?_
  have p := s.pre
  have hxv := p.evu hx
  simp only [R] at hxv
  obtain ⟨ys, zs, e1, h1, h2⟩ := hxv
  have hall : RL S w (fs ++ us ++ cs) ρ (ys.toList ++ args.map a.eval ++ zs.toList) := RL_append (RL_append h1 (evL_val p ha)) h2
  rw [hxs] at hall
  have hargs := RL_map (th L h.length) ρ _ _ hall
  obtain ⟨hf, hc⟩ := hc
  have hs0 := s.hs.hand hL hnd hh
  have hcall := hc _ S w _ hs0 hargs
  unfold Oper.wp
  have hrun : (execOp a.eval ⟨d, .call { callee := .value x, args := args.toArray, argTypes := ats }, ty, pos, af, none⟩).run P w = .ok (.enter f (ys.toList ++ args.map a.eval ++ zs.toList).toArray) w := by
    have e2 : (ys ++ (args.toArray.map a.eval) ++ zs) = (ys.toList ++ args.map a.eval ++ zs.toList).toArray := by
      apply Array.ext'; simp
    simp only [execOp, resolve, e1, Deferred.ofValue, Sem.run_bind, Sem.run_pure, Result.andThen_ok, invoke]
    rw [e2]
    exact run_call hf
  rw [hrun]
  simp only [Oper.upon]
  refine hcall.mono ?_
  rintro e w' ⟨res, hout, hΦ, y, ρ', S', rfl, hs, hy⟩
  simp only
  refine hK' _ _ (hk res hout hΦ c (fun k => if k < h.length then ρ k else ρ' (hin.length + (k - h.length))) S' _ w' Q ?_ hQ)
  -- the objects handed over
  have hin_at : ∀ {i : Nat} {b : AB}, hin[i]? = some b → ∃ j, L[i]? = some j ∧ j < h.length ∧ h[j]? = some (b.map (th L h.length)) ∧ b.map (th L h.length) ≠ .gone := fun {i b} hb => by
    have hne := hng b (List.mem_of_getElem? hb)
    have hlt : i < L.length := by rw [hL]; exact (List.getElem?_eq_some_iff.1 hb).1
    have hj := List.getElem?_eq_getElem hlt
    have hth : th L h.length i = L[i] := by simp [th, hj]
    rcases hh.get i b hb with hg | hg
    · exact absurd hg hne
    · rw [Nat.zero_add, hth] at hg
      exact ⟨L[i], hj, (List.getElem?_eq_some_iff.1 hg).1, hg, by cases b <;> simp [AB.map] at * ⟩
  have hmle := hs.mle
  have hmle' : hin.length ≤ hout.length := hmle
  have thL : ∀ {i j : Nat}, L[i]? = some j → th L h.length i = j := fun hi => by simp [th, hi]
  have keep : ∀ {i j : Nat}, i < hin.length → L[i]? = some j → ρ' i = ρ j := fun {i j} hi hj => by
    have := hs.keep i hi
    simp only [ctx0] at this
    rw [this, thL hj]
  -- where the callee may write
  have hM : ∀ b, (ctx0 w (fun k => ρ (th L h.length k)) S hin).M b → w.heap.size ≤ b ∨ ∃ (i j : Nat) (o : Nat) (x : AB), hin[i]? = some x ∧ L[i]? = some j ∧ ρ j = some (b, o) := fun b hb => by
    rcases hb with hb | ⟨k, x, o, hb, _, hp⟩
    · exact .inl hb
    · obtain ⟨j, h3, _⟩ := hin_at hb
      exact .inr ⟨k, j, o, x, hb, h3, by rw [← thL h3]; exact hp⟩
  have hcM : ∀ b, (ctx0 w (fun k => ρ (th L h.length k)) S hin).M b → c.M b := fun b hb => by
    rcases hM b hb with hb | ⟨i, j, o, x, h3, h4, h5⟩
    · exact c.new b (Nat.le_trans s.hs.ext.size hb)
    · obtain ⟨j', h6, _, h7, h8⟩ := hin_at h3
      rw [h4] at h6; cases h6
      exact (s.hs.live j _ _ h7 h8 h5).1
  have hlow : ∀ b, b < w.heap.size → (ctx0 w (fun k => ρ (th L h.length k)) S hin).M b → ∃ (i j : Nat) (o : Nat) (x : AB), hin[i]? = some x ∧ L[i]? = some j ∧ ρ j = some (b, o) := fun b hlt hb => by
    rcases hM b hb with hb | hb
    · omega
    · exact hb
  -- a live object that was not handed over: its block is left alone
  have other : ∀ {k : Nat} {b : AB} {q : Nat × Nat}, h[k]? = some b → b ≠ .gone → k ∉ L → ρ k = some q → ¬ (ctx0 w (fun k => ρ (th L h.length k)) S hin).M q.1 := fun {k b q} hb hg hkL hq hm => by
    obtain ⟨i, j, o, x, h3, h4, h5⟩ := hlow q.1 (s.hs.rng k q hq) hm
    obtain ⟨j', h6, _, h7, h8⟩ := hin_at h3
    rw [h4] at h6; cases h6
    have := s.hs.inj k j _ _ q _ hb h7 hg h8 hq h5 rfl
    subst this
    exact hkL (List.mem_of_getElem? h4)
  have stM : ∀ b, S b → ¬ (ctx0 w (fun k => ρ (th L h.length k)) S hin).M b := fun b hb hm => by
    obtain ⟨i, j, o, x, h3, h4, h5⟩ := hlow b (s.hs.stab b hb) hm
    obtain ⟨j', h6, _, h7, h8⟩ := hin_at h3
    rw [h4] at h6; cases h6
    exact (s.hs.live j _ _ h7 h8 h5).2 hb
  have same : ∀ b, b < w.heap.size → ¬ (ctx0 w (fun k => ρ (th L h.length k)) S hin).M b → w'.heap[b]? = w.heap[b]? := fun b hb hm => hs.ext.same b hb hm
  have l : Later ρ (fun k => if k < h.length then ρ k else ρ' (hin.length + (k - h.length))) S S' w w' := by
    refine ⟨fun k q hq => ?_, hs.st0, fun b hb => same b (s.hs.stab b hb) (stM b hb), fun _ _ _ _ _ hr => hs.ext.room hr⟩
    have hlt : k < h.length := by
      rcases Nat.lt_or_ge k h.length with h3 | h3
      · exact h3
      · rw [s.hs.dom k h3] at hq; cases hq
    simp only [if_pos hlt]; exact hq
  -- the callee's places, seen by the caller
  have pl : ∀ k q, ρ' k = some q → (fun k => if k < h.length then ρ k else ρ' (hin.length + (k - h.length))) (backL L h.length hin.length k) = some q := fun k q hq => by
    by_cases hk : k < hin.length
    · have hj := List.getElem?_eq_getElem (l := L) (i := k) (by omega)
      have hb := List.getElem?_eq_getElem hk
      obtain ⟨j, h3, h4, _⟩ := hin_at hb
      have hbk : backL L h.length hin.length k = j := by simp [backL, h3]
      rw [hbk]
      simp only [if_pos h4]
      rw [← keep hk h3]; exact hq
    · have hbk : backL L h.length hin.length k = h.length + (k - hin.length) := by
        unfold backL
        rw [List.getElem?_eq_none (by omega)]
      rw [hbk]
      simp only
      rw [if_neg (by omega), show hin.length + (h.length + (k - hin.length) - h.length) = k by omega]
      exact hq
  have shift : ∀ {x : AV} {y : Value}, R S' w' x ρ' y → R S' w' (x.map (backL L h.length hin.length)) (fun k => if k < h.length then ρ k else ρ' (hin.length + (k - h.length))) y := fun {x y} hx => R_map' _ _ x y (R_later (fun _ h => h) (fun _ _ => rfl) x ρ' _ y pl (fun _ _ _ _ _ h => h) hx)
  have shiftB : ∀ {b : AB} {pp}, RB S' w' ρ' pp b → RB S' w' (fun k => if k < h.length then ρ k else ρ' (hin.length + (k - h.length))) pp (b.map (backL L h.length hin.length)) := fun {b pp} hb => RB_map' _ _ (RB.later (ρ := ρ') (S := S') ⟨pl, fun _ h => h, fun _ _ => rfl, fun _ _ _ _ _ h => h⟩ (fun _ _ _ => rfl) hb)
  -- what stands at a place behind the call
  have get : ∀ {k : Nat} {b : AB}, (putH h L ((hout.take hin.length).map (AB.map (backL L h.length hin.length))) ++ (hout.drop hin.length).map (AB.map (backL L h.length hin.length)))[k]? = some b →
      (k < h.length ∧ k ∉ L ∧ h[k]? = some b) ∨ (∃ (i : Nat) (b' : AB), hout[i]? = some b' ∧ b = b'.map (backL L h.length hin.length) ∧ backL L h.length hin.length i = k ∧ (if k < h.length then ρ k else ρ' (hin.length + (k - h.length))) = ρ' i ∧ ((i < hin.length ∧ L[i]? = some k) ∨ (hin.length ≤ i ∧ k = h.length + (i - hin.length)))) := fun {k b} hb => by
    by_cases hk : k < h.length
    · rw [List.getElem?_append_left (by rw [putH_length]; exact hk)] at hb
      by_cases hkL : k ∈ L
      · obtain ⟨i, hi⟩ := List.mem_iff_getElem?.1 hkL
        have hiL : i < hin.length := by rw [← hL]; exact (List.getElem?_eq_some_iff.1 hi).1
        have hb' := List.getElem?_eq_getElem (l := hout) (i := i) (by omega)
        rw [putH_at (b := (hout[i]'(by omega)).map (backL L h.length hin.length)) hnd hi (by simp [hiL, hb']) hk] at hb
        simp only [Option.some.injEq] at hb
        exact .inr ⟨i, _, hb', hb.symm, by simp [backL, hi], by rw [if_pos hk]; exact (keep hiL hi).symm, .inl ⟨hiL, hi⟩⟩
      · rw [putH_other _ _ _ hkL] at hb
        exact .inl ⟨hk, hkL, hb⟩
    · rw [List.getElem?_append_right (by rw [putH_length]; omega), putH_length, List.getElem?_map, List.getElem?_drop] at hb
      obtain ⟨b', h3, h4⟩ := Option.map_eq_some_iff.1 hb
      refine .inr ⟨hin.length + (k - h.length), b', h3, h4.symm, ?_, by rw [if_neg hk], .inr ⟨by omega, by omega⟩⟩
      unfold backL
      rw [List.getElem?_eq_none (by omega)]
      simp only; omega
  have mapg : ∀ {θ : Nat → Nat} {b : AB}, b.map θ ≠ .gone → b ≠ .gone := fun hb e => hb (by rw [e]; rfl)
  refine ⟨by rw [size_put]; exact s.size, by rw [defers_put]; exact s.defers.later l, env_put s.size hd (fun t u hu => (s.env t u hu).later l) (shift hy), ?_, s.cm⟩
  refine ⟨fun k hk => ?_, fun k q hq => ?_, fun k b hb => ?_, fun k b q hb hg hq => ?_, fun k k' b b' q q' hb hb' hg hg' hq hq' e => ?_, hs.stab, s.hs.ext.trans hs.ext (fun b hb hlt => hcM b hb), fun b hb => hs.st0 b (s.hs.st0 b hb), fun b hb => ?_, ?_, fun k hk => ?_, hs.glob⟩
  · simp only [List.length_append, putH_length, List.length_map, List.length_drop] at hk
    rw [if_neg (by omega)]
    exact hs.dom _ (by omega)
  · split at hq
    · exact Nat.lt_of_lt_of_le (s.hs.rng k q hq) hs.ext.size
    · exact hs.rng _ q hq
  · rcases get hb with ⟨h3, h4, h5⟩ | ⟨i, b', h3, rfl, h4, h5, h6⟩
    · simp only [if_pos h3]
      by_cases hg : b = .gone
      · subst hg; trivial
      · exact RB.later l (fun b1 o1 hp => same b1 (s.hs.rng k _ hp) (other h5 hg h4 hp)) (s.hs.blk k b h5)
    · rw [h5]
      exact shiftB (hs.blk i b' h3)
  · rcases get hb with ⟨h3, h4, h5⟩ | ⟨i, b', h3, rfl, h4, h5, h6⟩
    · simp only [if_pos h3] at hq
      obtain ⟨h7, h8⟩ := s.hs.live k b q h5 hg hq
      refine ⟨h7, fun hs' => ?_⟩
      rcases hs.st1 _ hs' with h9 | h9
      · exact h8 h9
      · exact other h5 hg h4 hq h9
    · rw [h5] at hq
      obtain ⟨h7, h8⟩ := hs.live i b' q h3 (mapg hg) hq
      exact ⟨hcM _ h7, h8⟩
  · rcases get hb with ⟨h3, h4, h5⟩ | ⟨i, b1, h3, rfl, h4, h5, h6⟩ <;> rcases get hb' with ⟨h3', h4', h5'⟩ | ⟨i', b1', h3', rfl, h4', h5', h6'⟩
    · simp only [if_pos h3] at hq
      simp only [if_pos h3'] at hq'
      exact s.hs.inj k k' b b' q q' h5 h5' hg hg' hq hq' e
    · simp only [if_pos h3] at hq
      rw [h5'] at hq'
      have hl := (hs.live i' b1' q' h3' (mapg hg') hq').1
      rw [← e] at hl
      exact absurd hl (other h5 hg h4 hq)
    · simp only [if_pos h3'] at hq'
      rw [h5] at hq
      have hl := (hs.live i b1 q h3 (mapg hg) hq).1
      rw [e] at hl
      exact absurd hl (other h5' hg' h4' hq')
    · rw [h5] at hq
      rw [h5'] at hq'
      have := hs.inj i i' b1 b1' q q' h3 h3' (mapg hg) (mapg hg') hq hq' e
      subst this
      rw [← h4, ← h4']
  · rcases hs.st1 b hb with hb' | hb'
    · exact s.hs.st1 b hb'
    · exact .inr (hcM b hb')
  · simp only [List.length_append, putH_length]
    exact Nat.le_trans s.hs.mle (Nat.le_add_right _ _)
  · have hlt := Nat.lt_of_lt_of_le hk s.hs.mle
    simp only [if_pos hlt]
    exact s.hs.keep k hk
end
theorem wp_only {P : Program} {o : Oper} {a : Act} {w : World} {K : Act → World → Prop} {Q1 Q : Exit → Act → World → Prop} (hq : ∀ e a w, Q1 e a w → e = .normal) (h : o.wp P a w K Q1) : o.wp P a w K Q := by
  unfold Oper.wp at *
  generalize (execOp a.eval o).run P w = r at *
  cases r with
  | ok n w' =>
    cases n with
    | enter f args =>
      simp only [Oper.upon] at *
      refine h.mono fun e w'' => ?_
      cases e with
      | returned v => exact id
      | panicked c => exact fun hh => by have := hq _ _ _ hh; cases this
      | outgrown => exact fun ⟨_, _, hh⟩ => by have := hq _ _ _ hh; cases this
    | _ => first | exact h | exact h.elim
  | halt x w' => cases x <;> simp only [Oper.upon] at * <;> first | exact h | (have := hq _ _ _ h; cases this)
section
variable {P : Program} {n : Nat × Nat} {ops : Array Oper} {env : Env} {h : Hp} {K : Env → Hp → Prop} {listed : Array Bool} {r : Nat}
theorem any_done (hr : Region.ready .any ops listed = []) (hk : K env h) : AnyAt P n ops listed r env h K :=
  fun _ _ _ _ _ _ s _ hQ => wpAny_done hr (hQ _ _ _ _ _ _ hk s) r
theorem any_step {rd : List Nat} (hr : Region.ready .any ops listed = rd) (hne : rd ≠ []) (hk : ∀ i, i ∈ rd → ∃ o, ops[i]? = some o ∧ VC P n ops [o] env h (fun v h' => AnyAt P n ops (listed.setIfInBounds i true) r v h' K)) : AnyAt P n ops listed (r + 1) env h K := by
  intro c ρ S a w QQ s hq hQ
  refine wpAny_all hr hne fun i hi => ?_
  obtain ⟨o, ho, hv⟩ := hk i hi
  have h1 := hv c ρ S a w (fun e a' w' => e = .normal ∧ wpAny P .any ops QQ r (listed.setIfInBounds i true) a' w') s (fun env' h' ρ' S' a' w' hK hs => ⟨rfl, hK c ρ' S' a' w' QQ hs hq hQ⟩)
  unfold wpOp
  rw [ho]
  unfold wpList at h1
  dsimp only at h1 ⊢
  split at h1
  · rename_i hw
    rw [if_pos hw]
    rcases h1 with h1 | ⟨_, a', w', h1⟩
    · exact .inl (wp_only (fun e a w h => h.1) (Oper.wp_mono (fun a w h => h.2) h1))
    · exact nomatch h1.1
  · rename_i hw
    rw [if_neg hw]
    exact h1.2
def depsOf : Nat → List Oper → List (Nat × List Nat)
  | _, [] => []
  | i, o :: l => (i, (o.after.toList.filter fun e => Region.binds .any e).map (·.on)) :: depsOf (i + 1) l
def okL (b0 : List Bool) : List Nat → Bool
  | [] => true
  | d :: ds => match b0.getD d false with
    | true => okL b0 ds
    | false => false
def rdy (b0 : List Bool) : List (Nat × List Nat) → List Bool → List Nat
  | (i, d) :: ds, b :: bs => match b with
    | true => rdy b0 ds bs
    | false => match okL b0 d with
      | true => i :: rdy b0 ds bs
      | false => rdy b0 ds bs
  | _, _ => []
theorem okL_all (b0 : List Bool) : ∀ ds : List Nat, okL b0 ds = ds.all fun d => b0.getD d false
  | [] => rfl
  | d :: ds => by
    unfold okL
    rw [List.all_cons, okL_all b0 ds]
    cases b0.getD d false <;> rfl
theorem rdy_cons (b0 : List Bool) (i : Nat) (d : List Nat) (ds : List (Nat × List Nat)) (b : Bool) (bs : List Bool) : rdy b0 ((i, d) :: ds) (b :: bs) = if b = true then rdy b0 ds bs else if okL b0 d = true then i :: rdy b0 ds bs else rdy b0 ds bs := by
  cases b <;> cases h : okL b0 d <;> simp [rdy, h]
theorem rdy_eq (l0 : List Oper) (b0 : List Bool) : ∀ (l : List Oper) (bs : List Bool) (i : Nat), l.length = bs.length → (∀ j, l[j]? = l0[i + j]?) → (∀ j, j < bs.length → bs[j]? = b0[i + j]?) →
    rdy b0 (depsOf i l) bs = (List.range' i l.length).filter fun i => !b0.toArray.getD i true && ((l0.toArray[i]?).map (·.after.all fun e => !Region.binds .any e || b0.toArray.getD e.on false)).getD false
  | [], [], i, _, _, _ => rfl
  | o :: l, b :: bs, i, hl, h1, h2 => by
    have ih := rdy_eq l0 b0 l bs (i + 1) (by simpa using hl) (fun j => by rw [Nat.add_assoc, Nat.add_comm 1 j]; simpa using h1 (j + 1)) (fun j hj => by rw [Nat.add_assoc, Nat.add_comm 1 j]; simpa using h2 (j + 1) (by simpa using hj))
    have e1 : b0.toArray.getD i true = b := by
      have := h2 0 (by simp)
      simp only [List.getElem?_cons_zero, Nat.add_zero] at this
      rw [Array.getD_eq_getD_getElem?, List.getElem?_toArray, ← this]
      rfl
    have e2 : ((l0.toArray[i]?).map (·.after.all fun e => !Region.binds .any e || b0.toArray.getD e.on false)).getD false = okL b0 ((o.after.toList.filter fun e => Region.binds .any e).map (·.on)) := by
      have := h1 0
      simp only [List.getElem?_cons_zero, Nat.add_zero] at this
      rw [List.getElem?_toArray, ← this, okL_all, List.all_map]
      simp only [Option.map_some, Option.getD_some]
      rw [← Array.all_toList]
      induction o.after.toList with
      | nil => rfl
      | cons e r ih =>
        rw [List.all_cons, List.filter_cons, ih]
        cases Region.binds .any e
        · simp
        · simp [Array.getD_eq_getD_getElem?, List.getD_eq_getElem?_getD]
    rw [List.length_cons, List.range'_succ, List.filter_cons, e1, e2, ← ih]
    generalize hok : okL b0 ((o.after.toList.filter fun e => Region.binds .any e).map (·.on)) = q
    have e3 := rdy_cons b0 i ((o.after.toList.filter fun e => Region.binds .any e).map (·.on)) (depsOf (i + 1) l) b bs
    rw [show depsOf i (o :: l) = (i, (o.after.toList.filter fun e => Region.binds .any e).map (·.on)) :: depsOf (i + 1) l from rfl, e3, hok]
    generalize rdy b0 (depsOf (i + 1) l) bs = u
    cases b <;> cases q <;> rfl
  | [], _ :: _, _, hl, _, _ => by simp at hl
  | _ :: _, [], _, hl, _, _ => by simp at hl
theorem ready_rdy {l : List Oper} {b : List Bool} (hl : l.length = b.length) : Region.ready .any l.toArray b.toArray = rdy b (depsOf 0 l) b := by
  rw [rdy_eq l b l b 0 hl (fun j => by rw [Nat.zero_add]) (fun j _ => by rw [Nat.zero_add])]
  unfold Region.ready
  rw [List.range_eq_range']
  rfl
def AnyL (P : Program) (n : Nat × Nat) (l : List Oper) (ds : List (Nat × List Nat)) (b : List Bool) (r : Nat) (env : Env) (h : Hp) (K : Env → Hp → Prop) : Prop := depsOf 0 l = ds → l.length = b.length → AnyAt P n l.toArray b.toArray r env h K
section
variable {l : List Oper} {ds : List (Nat × List Nat)} {b : List Bool}
theorem anyL_done (hr : rdy b ds b = []) (hk : K env h) : AnyL P n l ds b r env h K := fun hd hl => by
  subst hd
  exact any_done ((ready_rdy hl).trans hr) hk
theorem anyL_step {rd : List Nat} (hr : rdy b ds b = rd) (hne : rd ≠ []) (hk : ∀ i, i ∈ rd → ∃ o, l[i]? = some o ∧ VC P n l.toArray [o] env h (fun v h' => AnyL P n l ds (b.set i true) r v h' K)) : AnyL P n l ds b (r + 1) env h K := fun hd hl =>
  any_step ((ready_rdy hl).trans (by rw [hd]; exact hr)) hne fun i hi => by
    obtain ⟨o, ho, hv⟩ := hk i hi
    refine ⟨o, by simpa using ho, hv.mono fun v g hg => ?_⟩
    have := hg hd (by rw [List.length_set]; exact hl)
    rwa [← List.setIfInBounds_toArray] at this
theorem anyL_1 {i : Nat} {o : Oper} (hr : rdy b ds b = [i]) (ho : l[i]? = some o) (hk : VC P n l.toArray [o] env h (fun v h' => AnyL P n l ds (b.set i true) r v h' K)) : AnyL P n l ds b (r + 1) env h K :=
  anyL_step hr (by simp) fun k hk2 => by simp only [List.mem_cons, or_false, List.not_mem_nil] at hk2; subst hk2; exact ⟨o, ho, hk⟩
theorem anyL_2 {i j : Nat} {o o2 : Oper} (hr : rdy b ds b = [i, j]) (ho : l[i]? = some o) (ho2 : l[j]? = some o2) (hk : VC P n l.toArray [o] env h (fun v h' => AnyL P n l ds (b.set i true) r v h' K)) (hk2 : VC P n l.toArray [o2] env h (fun v h' => AnyL P n l ds (b.set j true) r v h' K)) : AnyL P n l ds b (r + 1) env h K :=
  anyL_step hr (by simp) fun k hm => by
    simp only [List.mem_cons, List.not_mem_nil, or_false] at hm
    rcases hm with rfl | rfl
    · exact ⟨o, ho, hk⟩
    · exact ⟨o2, ho2, hk2⟩
theorem anyL_3 {i j k3 : Nat} {o o2 o3 : Oper} (hr : rdy b ds b = [i, j, k3]) (ho : l[i]? = some o) (ho2 : l[j]? = some o2) (ho3 : l[k3]? = some o3) (hk : VC P n l.toArray [o] env h (fun v h' => AnyL P n l ds (b.set i true) r v h' K)) (hk2 : VC P n l.toArray [o2] env h (fun v h' => AnyL P n l ds (b.set j true) r v h' K)) (hk3 : VC P n l.toArray [o3] env h (fun v h' => AnyL P n l ds (b.set k3 true) r v h' K)) : AnyL P n l ds b (r + 1) env h K :=
  anyL_step hr (by simp) fun k hm => by
    simp only [List.mem_cons, List.not_mem_nil, or_false] at hm
    rcases hm with rfl | rfl | rfl
    · exact ⟨o, ho, hk⟩
    · exact ⟨o2, ho2, hk2⟩
    · exact ⟨o3, ho3, hk3⟩
theorem anyL_4 {i j k3 k4 : Nat} {o o2 o3 o4 : Oper} (hr : rdy b ds b = [i, j, k3, k4]) (ho : l[i]? = some o) (ho2 : l[j]? = some o2) (ho3 : l[k3]? = some o3) (ho4 : l[k4]? = some o4) (hk : VC P n l.toArray [o] env h (fun v h' => AnyL P n l ds (b.set i true) r v h' K)) (hk2 : VC P n l.toArray [o2] env h (fun v h' => AnyL P n l ds (b.set j true) r v h' K)) (hk3 : VC P n l.toArray [o3] env h (fun v h' => AnyL P n l ds (b.set k3 true) r v h' K)) (hk4 : VC P n l.toArray [o4] env h (fun v h' => AnyL P n l ds (b.set k4 true) r v h' K)) : AnyL P n l ds b (r + 1) env h K :=
  anyL_step hr (by simp) fun k hm => by
    simp only [List.mem_cons, List.not_mem_nil, or_false] at hm
    rcases hm with rfl | rfl | rfl | rfl
    · exact ⟨o, ho, hk⟩
    · exact ⟨o2, ho2, hk2⟩
    · exact ⟨o3, ho3, hk3⟩
    · exact ⟨o4, ho4, hk4⟩
theorem any_toL (ds : List (Nat × List Nat)) (hd : depsOf 0 l = ds) (b : List Bool) {listed : Array Bool} (hb : listed = b.toArray) (hl : l.length = b.length) (hk : AnyL P n l ds b r env h K) : AnyAt P n l.toArray listed r env h K := by
  subst hb
  exact hk hd hl
end
theorem ps_fieldAddr (T : Tab P) {d : Option Nat} {ty : TypeId} {pos : String} {af : Array Edge} {g : Option (Nat × Bool)} {t f m : Nat} {x : Operand} {u z : AV} (hx : evu env x = some u) (hf : T.field t f = some m) (hz : u.plus m = some z) :
    PStep P ⟨d, .fieldAddr t x f, ty, pos, af, g⟩ env h z := by
  intro ρ S a w p
  obtain ⟨b, o, h1, h2⟩ := plus_val (p.evu hx) hz
  obtain ⟨fs, fd, inf, h3, h4, h5, h6, h7⟩ := T.fieldOk t f m hf
  exact ⟨_, fun w' => by simp [execOp, h1, Instr.fieldAt, run_underlying h3, h4, Instr.sureAddr, fieldPlace, Go.sizeOf, typeInfo, h6, h7, Addr.add_lit, h5], h2⟩
theorem aw_cut {code : Code} {Q : Exit → Env → Hp → Prop} (E : Env) (H : Hp) (hc : AW P n code env h (fun e v g => e = .normal ∧ Sub n.2 v g E H)) (hk : ∀ v g, Sub n.2 v g E H → Q .normal v g) : AW P n code env h Q :=
  hc.mono fun e v g ⟨he, hs⟩ => by subst he; exact hk v g hs
end
theorem HS.view {c : Ctx} {ρ : Pl} {S : Nat → Prop} {h : Hp} {w : World} (s : HS c ρ S h w) (hm : c.m = 0) : HS c (fun _ => Option.none) (fun b => S b ∨ liveB h ρ b) [] w := by
  refine ⟨fun _ _ => rfl, (fun _ _ h => nomatch h), (fun k b hb => by simp at hb), (fun k b p hb => by simp at hb), (fun k _ b _ _ _ hb => by simp at hb), fun b hb => ?_, s.ext, fun b hb => .inl (s.st0 b hb), fun b hb => ?_, by rw [hm]; exact Nat.zero_le _, (fun k hk => by rw [hm] at hk; exact absurd hk (Nat.not_lt_zero _)), s.glob.st fun b hb => .inl hb⟩
  · rcases hb with hb | ⟨k, x, o, _, _, hb⟩
    · exact s.stab b hb
    · exact s.rng k _ hb
  · rcases hb with hb | ⟨k, x, o, h1, h2, h3⟩
    · exact s.st1 b hb
    · exact .inr (s.live k x _ h1 h2 h3).1
theorem acall_view {P : Program} {f : FuncId} {args : List AV} {res res' : AV} {hout : Hp} (h : ACall P f args [] res hout) (hv : View hout res res') : ACall P f args [] res' [] := by
  refine ⟨h.1, fun ρ S w vs hs ha => (h.2 ρ S w vs hs ha).mono ?_⟩
  rintro e w' ⟨y, ρ', S', rfl, h2, h3⟩
  exact ⟨y, _, _, rfl, h2.view rfl, view_val h2.blk hv h3⟩
theorem vc_weak {P : Program} {n : Nat × Nat} {ops : Array Oper} {rest : List Oper} {env : Env} {h : Hp} {K : Env → Hp → Prop} (t : Nat) {x : AV} (x' : AV) (hl : look env t = some x) (hw : ∀ (S : Nat → Prop) w ρ y, R S w x ρ y → R S w x' ρ y) (hk : VC P n ops rest ((t, x') :: env) h K) : VC P n ops rest env h K := by
  intro c ρ S a w Q s hQ
  refine hk c ρ S a w Q ⟨s.size, s.defers, fun u y hu => ?_, s.hs, s.cm⟩ hQ
  rw [look_cons] at hu
  split at hu
  · rename_i e
    subst e
    cases hu
    exact hw _ _ _ _ (s.env _ _ hl)
  · exact s.env u y hu
theorem R_agg_mono {S : Nat → Prop} {w : World} {ρ : Pl} {xs xs' : List AV} {y : Value} (h1 : ∀ ys, RL S w xs ρ ys → RL S w xs' ρ ys) (h : R S w (.agg xs) ρ y) : R S w (.agg xs') ρ y := by
  simp only [R] at h ⊢
  obtain ⟨ys, rfl, h2⟩ := h
  exact ⟨ys, rfl, h1 _ h2⟩
theorem RL_keep {S : Nat → Prop} {w : World} {ρ : Pl} {x : AV} {xs xs' : List AV} (h2 : ∀ ys, RL S w xs ρ ys → RL S w xs' ρ ys) (ys : List Value) (h : RL S w (x :: xs) ρ ys) : RL S w (x :: xs') ρ ys := by
  simp only [RL] at h ⊢
  obtain ⟨y, r, rfl, h3, h4⟩ := h
  exact ⟨y, r, rfl, h3, h2 _ h4⟩
theorem RL_nils {S : Nat → Prop} {w : World} {ρ : Pl} (sz : Nat) {xs xs' : List AV} (h2 : ∀ ys, RL S w xs ρ ys → RL S w xs' ρ ys) (ys : List Value) (h : RL S w (.nils :: xs) ρ ys) : RL S w (.rowE [] sz :: xs') ρ ys := by
  simp only [RL] at h ⊢
  obtain ⟨y, r, rfl, h3, h4⟩ := h
  exact ⟨y, r, rfl, R_nils_row h3, h2 _ h4⟩
section
variable {P : Program} {env : Env} {h : Hp}
variable {d : Option Nat} {ty : TypeId} {pos : String} {af : Array Edge} {g : Option (Nat × Bool)}
variable {t kt et : TypeId} {good : Value → Prop} {x y : Operand} {i : Nat} {kv : Value} {ks : List Value} {vs : List AV} {v : AV}
theorem fs_mapGetR (ht : P.underlying t = some (.map kt et)) (ko : KeyOk P kt good) (hx : evu env x = some (.mrow ks vs)) {yv : AV} (hy : evu env y = some yv) (hyv : IsV yv kv) (hkeys : ∀ q, q ∈ ks → good q) (hkey : good kv) (hnd : ks.Nodup) (hi : ks[i]? = some kv) (hv : vs[i]? = some v) (hidf : v.idf = true) :
    FStep P ⟨d, .lookup t x y true, ty, pos, af, g⟩ env h 0 (fun _ => .tup [v, .b true]) (fun _ => []) := by
  refine fs_val fun ρ S a w p => ?_
  have h1 := p.evu hx
  simp only [R] at h1
  obtain ⟨b, l, ck, h3, _, h6, h7, h8⟩ := h1
  have h4 := hyv _ _ _ _ (p.evu hy)
  obtain ⟨e, h9, h10, _⟩ := find_some ko w h7 hkeys hkey hnd hi
  refine ⟨.tuple #[e.val, .bool true], ?_, ?_⟩
  · simp [execOp, h3, h4, Instr.lookup, run_underlying ht, MapKept.run_getObj_map h6, ko.check w _ hkey, h9]
  · obtain ⟨u, h11, h12⟩ := RL_get h8 i v hv
    rw [List.getElem?_map, h10] at h11
    cases h11
    simp only [R, RL]
    exact ⟨_, rfl, _, _, rfl, R_idf _ _ _ _ hidf h12, _, _, rfl, rfl, rfl⟩
theorem fs_mapMissR (ht : P.underlying t = some (.map kt et)) (ko : KeyOk P kt good) {z : Value} {zA : AV} (hz : ∀ w, (zeroValue et).run P w = .ok z w) (hzA : ∀ (S : Nat → Prop) (w : World) (ρ : Pl), R S w zA ρ z) (hx : evu env x = some (.mrow ks vs)) {yv : AV} (hy : evu env y = some yv) (hyv : IsV yv kv) (hkeys : ∀ q, q ∈ ks → good q) (hkey : good kv) (hni : kv ∉ ks) :
    FStep P ⟨d, .lookup t x y true, ty, pos, af, g⟩ env h 0 (fun _ => .tup [zA, .b false]) (fun _ => []) := by
  refine fs_val fun ρ S a w p => ?_
  have h1 := p.evu hx
  simp only [R] at h1
  obtain ⟨b, l, ck, h3, _, h6, h7, h8⟩ := h1
  have h4 := hyv _ _ _ _ (p.evu hy)
  have h9 := find_none ko w h7 hkeys hkey hni
  refine ⟨.tuple #[z, .bool false], ?_, ?_⟩
  · simp [execOp, h3, h4, Instr.lookup, run_underlying ht, MapKept.run_getObj_map h6, ko.check w _ hkey, h9, hz]
  · simp only [R, RL]
    exact ⟨_, rfl, _, _, rfl, hzA S w ρ, _, _, rfl, rfl, rfl⟩
end
section
variable {P : Program} {env : Env} {h : Hp}
variable {d : Option Nat} {ty : TypeId} {pos : String} {af : Array Edge} {g : Option (Nat × Bool)}
variable {t kt et : TypeId} {good : Value → Prop} {x y : Operand} {k : Nat} {kv : Value} {ks : List Value} {vs : List AV}
theorem fs_mapMiss1 (ht : P.underlying t = some (.map kt et)) (ko : KeyOk P kt good) {z : Value} {zA : AV} (hz : ∀ w, (zeroValue et).run P w = .ok z w) (hzA : ∀ (S : Nat → Prop) (w : World) (ρ : Pl), R S w zA ρ z) (hx : evu env x = some (.mp k)) {yv : AV} (hy : evu env y = some yv) (hyv : IsV yv kv) (hk : h[k]? = some (.mapO ks vs)) (hkeys : ∀ q, q ∈ ks → good q) (hkey : good kv) (hni : kv ∉ ks) :
    FStep P ⟨d, .lookup t x y false, ty, pos, af, g⟩ env h 0 (fun _ => zA) (fun _ => []) := by
  refine fs_val fun ρ S a w p => ?_
  have h1 := p.evu hx
  simp only [R] at h1
  obtain ⟨b, o, h2, h3⟩ := h1
  have h4 := hyv _ _ _ _ (p.evu hy)
  obtain ⟨b', o', l, ck, h5, h6, h7, h8⟩ := map_find (p.blk k _ hk)
  rw [h2] at h5; cases h5
  have h9 := find_none ko w h7 hkeys hkey hni
  refine ⟨z, ?_, hzA S w ρ⟩
  simp [execOp, h3, h4, Instr.lookup, run_underlying ht, MapKept.run_getObj_map h6, ko.check w _ hkey, h9, hz]
end
section
variable {P : Program} {env : Env} {h : Hp}
theorem aw_drawT {n : Nat × Nat} {Q : Exit → Env → Hp → Prop} {id : Nat} {l : List Oper} (k nt : Nat) (presl pres : List (List Nat)) (ds : List Nat) (bads : List (List Nat)) (hm : P.follows .mixedOrders = true) (hn : n.1 = nt) (hc : chkTail l presl k = true) (hok : chkDraw (l.take k) pres ds bads nt = true)
    (hv : DW P n (l.take k) pres ds bads (dropE ds env) h 0 (dropE ds env) [] (fun v h => VC P n l.toArray (l.drop k) v h (fun v h => Q .normal v h))) (hnd : noDef (l.take k) = true := by rfl) (hnd2 : noDef (l.drop k) = true := by rfl) : AW P n (.region id l.toArray true) env h Q := by
  intro c ρ S a w QQ s hQ
  have hkl := (chkTail_ok hc).2.1
  have hany := any_draw2 pres ds bads (by rw [hn]; exact hok) hv c ρ S a w (fun e a w => e = .normal ∧ wpListIn (rd c.r) 0 P l.toArray (fun e a w => e = .normal ∧ QQ .normal a w) (l.drop k) a w) s fun env' h' ρ' S' a' w' kv s' =>
    ⟨rfl, wpList_in (fun e a w h => h.1) hnd2 (kv c ρ' S' a' w' _ s' fun env2 h2 ρ2 S2 a2 w2 k2 s2 => ⟨rfl, hQ .normal env2 h2 ρ2 S2 a2 w2 k2 s2⟩)⟩
  have hrep : ∀ m j, (Array.replicate m false).getD j false = false := fun m j => by
    simp only [Array.getD]
    split <;> simp
  refine wpIn_mono (wpIn_region_any (Q := fun e a w => e = .normal ∧ QQ .normal a w) hm (any_split_in hc hnd (fun e a w h => h.1) (fun a w h => h.2) (l.take k).toArray.size l.toArray.size _ (Array.replicate (l.take k).toArray.size false) (List.range k) a _ (by simp) (by simp; omega) (fun j hj => by rw [hrep, hrep]) (fun j hj => hrep _ _) (fun i o ho hi => by rw [hrep] at hi; cases hi) (fun j hj _ => List.mem_range.2 hj) (by simp; omega) (by simp; omega) hany)) fun e a w he => by obtain ⟨rfl, h3⟩ := he; exact h3
end
end Go.Ab
