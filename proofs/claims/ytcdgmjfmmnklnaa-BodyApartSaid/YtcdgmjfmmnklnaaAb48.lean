/-
  A logic of values for the walk: regions that draw their order, in which operations that write or use up objects (stores, appends) float.
-/
import Derived.Test.YtcdgmjfmmnklnaaAb45
namespace Go.Ab
open Go
set_option linter.unusedVariables false
set_option linter.unusedSimpArgs false
def fillH (H : Hp) (pos : Nat) : List AB → Hp
  | [] => H
  | b :: _ => H.set pos b
theorem set_mid (A B : Hp) (b c : AB) : (A ++ (c :: B)).set A.length b = A ++ (b :: B) := by
  rw [List.set_append_right _ _ (Nat.le_refl _), Nat.sub_self]; rfl
def AStep (P : Program) (o : Oper) (env : Env) (h : Hp) (pos k : Nat) (nb : AB) (x : AV) (new : List AB) : Prop :=
  ∀ c ρ S a w H, HS c ρ S H w → Pre ρ S env h a w → (∀ (j : Nat) b, h[j]? = some b → b ≠ .gone → H[j]? = some b) → (new = [] ∨ (ρ pos = none ∧ H[pos]? = some .gone ∧ c.m ≤ pos)) → ∀ (K : Act → World → Prop) Q,
    (∀ y ρ' S' w', HS c ρ' S' (fillH (H.set k nb) pos new) w' → Later ρ ρ' S S' w w' → R S' w' x ρ' y → (∀ j, (new ≠ [] → j ≠ pos) → ρ' j = ρ j) → K (a.put o.dst y) w') → o.wp P a w K Q
theorem AStep.more {P : Program} {o : Oper} {env env' : Env} {h : Hp} {pos k : Nat} {nb : AB} {x : AV} {new : List AB} (hs : AStep P o env h pos k nb x new) (he : ∀ t u, look env t = some u → look env' t = some u) : AStep P o env' h pos k nb x new :=
  fun c ρ S a w H g p => hs c ρ S a w H g ⟨fun t u hu => p.env t u (he t u hu), p.rng, p.blk, p.live, p.stab, p.glob⟩
theorem SStep.a {P : Program} {op : Op} {ty : TypeId} {ps : String} {af : Array Edge} {env : Env} {h : Hp} {pos k : Nat} {nb : AB} (hs : SStep P ⟨none, op, ty, ps, af, none⟩ env h k nb) : AStep P ⟨none, op, ty, ps, af, none⟩ env h pos k nb (.v undef) [] :=
  fun c ρ S a w H g p hb _ K Q hK => hs c ρ S a w H g p hb K Q fun _ w' hh l => hK undef ρ S w' hh l (R_v_mk _) (fun _ _ => rfl)
theorem Stand.astep {P : Program} {n : Nat × Nat} {c : Ctx} {env : Env} {h h' : Hp} {all : List Eff} {L L' : Nat → Bool} {ρ ρ' : Pl} {S S' : Nat → Prop} {a : Act} {w w' : World} {i : Nat} {f : Eff} {y : Value} (s : Stand P n c env h all L ρ S a w)
    (hf : all[i]? = some f) (hL : ∀ j, L' j = (L j || Nat.beq j i)) (hd : okd f.d n = true) (hnd : (dstsOf all).Nodup) (henv : ∀ t x, look env t = some x → t ∉ dstsOf all)
    (hh : HS c ρ' S' (h' ++ seg L' 0 all) w') (hl : h'.length = h.length) (l : Later ρ ρ' S S' w w') (hv : R S' w' f.x ρ' y) (hρ : ∀ j, (f.new ≠ [] → j ≠ h.length + lens (all.take i)) → ρ' j = ρ j) (hn1 : f.new.length ≤ 1) :
    Stand P n c env h' all L' ρ' S' (a.put f.d y) w' := by
  have hil : i < all.length := (List.getElem?_eq_some_iff.1 hf).1
  have dst_ne : ∀ {j : Nat} {g : Eff} {t : Nat}, all[j]? = some g → j ≠ i → g.d = some t → f.d ≠ some t := fun {j g t} hg hne hgt hft => by
    have key : ∀ {l : List Eff} {i j : Nat} {f g : Eff}, (dstsOf l).Nodup → l[i]? = some f → l[j]? = some g → i < j → f.d = some t → g.d = some t → False := by
      intro l
      induction l with
      | nil => intro i j f g _ h1; simp at h1
      | cons e l ih =>
        intro i j f g hnd h1 h2 hij hf hg
        have tail : (dstsOf l).Nodup := by
          unfold dstsOf at hnd ⊢
          rw [List.filterMap_cons] at hnd
          split at hnd
          · exact hnd
          · exact (List.nodup_cons.1 hnd).2
        cases j with
        | zero => omega
        | succ j =>
          simp only [List.getElem?_cons_succ] at h2
          cases i with
          | zero =>
            simp only [List.getElem?_cons_zero, Option.some.injEq] at h1
            subst h1
            unfold dstsOf at hnd
            rw [List.filterMap_cons, hf] at hnd
            exact (List.nodup_cons.1 hnd).1 (List.mem_filterMap.2 ⟨g, List.mem_of_getElem? h2, hg⟩)
          | succ i => exact ih tail (by simpa using h1) h2 (by omega) hf hg
    rcases Nat.lt_or_gt_of_ne hne with h1 | h1
    · exact key hnd hg hf h1 hgt hft
    · exact key hnd hf hg h1 hft hgt
  have other : ∀ {t : Nat}, f.d ≠ some t → (a.put f.d y).tmps.getD t undef = a.tmps.getD t undef := fun {t} ht => by
    cases hfd : f.d with
    | none => rfl
    | some d => exact getD_put_other (fun e => ht (by rw [hfd, e]))
  refine ⟨by rw [size_put]; exact s.size, by rw [defers_put]; exact s.defers.later l, s.cm, fun t x hx => ?_, fun j g t hg hj ht => ?_, hh, fun j g hg hj k hk => ?_⟩
  · rw [other (fun e => henv t x hx (List.mem_filterMap.2 ⟨f, List.mem_of_getElem? hf, e⟩))]
    exact (s.env0 t x hx).later l
  · by_cases hji : j = i
    · subst hji
      rw [hf] at hg
      cases hg
      rw [ht] at hd ⊢
      have hlt : t < a.tmps.size := by rw [s.size]; exact Nat.le_of_ble_eq_true hd
      rw [getD_put_same hlt]; exact hv
    · rw [other (dst_ne hg hji ht)]
      have hjL : L j = true := by
        rw [hL] at hj
        rcases Bool.or_eq_true_iff.1 hj with hj | hj
        · exact hj
        · exact absurd (Nat.eq_of_beq_eq_true hj) hji
      exact (s.done j g t hg hjL ht).later l
  · have hjL : L j = false := by rw [hL] at hj; exact (Bool.or_eq_false_iff.1 hj).1
    have hji : j ≠ i := fun e => by rw [hL, e, Nat.beq_refl, Bool.or_true] at hj; cases hj
    have := s.undone j g hg hjL k hk
    rw [hl]
    rw [hρ _ (fun hne e => ?_)]; exact this
    have lens_take : ∀ (l : List Eff) (a b : Nat) (f : Eff), a < b → l[a]? = some f → lens (l.take a) + f.new.length ≤ lens (l.take b) := by
      intro l
      induction l with
      | nil => intro a b f _ h; simp at h
      | cons e l ih =>
        intro a b f hab h
        cases b with
        | zero => omega
        | succ b =>
          cases a with
          | zero => simp at h; subst h; simp [lens]
          | succ a => simp only [List.take_succ_cons, lens]; have := ih a b f (by omega) (by simpa using h); omega
    rcases Nat.lt_or_gt_of_ne hji with h1 | h1
    · have := lens_take all j i g h1 hg; omega
    · have := lens_take all i j f h1 hf
      have h2 : 0 < f.new.length := List.length_pos_iff.2 hne
      omega
def DVA (P : Program) (n : Nat × Nat) (ops : Array Oper) (pres : List (List Nat)) (ss : List (Nat × Nat)) (ds : List Nat) (env : Env) (h : Hp) (effs : List Eff) (don : List AB) (K : Env → Hp → Prop) : Prop :=
  ∃ more mb, (effs ++ more).length = pres.length ∧ (don ++ mb).length = ss.length ∧ dstsOf (effs ++ more) = ds ∧
    (∀ i f pre, effs.length ≤ i → (effs ++ more)[i]? = some f → pres[i]? = some pre →
      ((∀ x, x ∈ ss → x.1 ≠ i) ∧ GStep P ops i (stE env ((effs ++ more).take i) pre) (seeH pres i pre ss (don ++ mb) h ++ seg (fun j => pre.any (Nat.beq j)) 0 ((effs ++ more).take i)) f) ∨
      (∃ (m k : Nat) (b : AB) (o : Oper), ss[m]? = some (i, k) ∧ (don ++ mb)[m]? = some b ∧ o.dst = f.d ∧ f.new.length ≤ 1 ∧ ops[i]? = some o ∧ (o.guard = none ∨ ∃ g want t, o.guard = some (g, want) ∧ (ops[g]?).bind (·.dst) = some t ∧ look (stE env ((effs ++ more).take i) pre) t = some (.b want)) ∧ k < h.length ∧ AStep P o (stE env ((effs ++ more).take i) pre) (seeH pres i pre ss (don ++ mb) h ++ seg (fun j => pre.any (Nat.beq j)) 0 ((effs ++ more).take i)) (h.length + lens ((effs ++ more).take i)) k b f.x f.new)) ∧
    VC P n ops (ops.toList.drop pres.length) (stE env (effs ++ more) (List.range pres.length)) (applyS (fun _ => true) ss (don ++ mb) h ++ seg (fun _ => true) 0 (effs ++ more)) K

theorem aw_drawA {P : Program} {n : Nat × Nat} {env : Env} {h : Hp} {Q : Exit → Env → Hp → Prop} {id : Nat} {l : List Oper} (pres : List (List Nat)) (ds : List Nat) (ss : List (Nat × Nat)) (hm : P.follows .mixedOrders = true) (hok : okDraw l.toArray pres = true) (hss : okS pres ss = true) (hssl : (ss.all fun x => Nat.blt x.1 pres.length) = true) (hnd : ds.Nodup) (hds : (ds.all fun d => Nat.blt d n.1) = true) (hsz : Nat.ble pres.length l.length = true)
    (hv : DVA P n l.toArray pres ss ds (dropE ds env) h [] [] (fun v h => Q .normal v h)) (hndf : noDef l = true := by rfl) : AW P n (.region id l.toArray true) env h Q := by
  intro c ρ S a w QX s hX
  refine region_any_in hm hndf ?_
  have hQ : ∀ (env' : Env) (h' : Hp) ρ' S' a' w', Q .normal env' h' → Sim n c ρ' S' env' h' a' w' → (fun e a w => e = Exit.normal ∧ QX Exit.normal a w) Exit.normal a' w' := fun env' h' ρ' S' a' w' k s' => ⟨rfl, hX .normal env' h' ρ' S' a' w' k s'⟩
  generalize (fun e a w => e = Exit.normal ∧ QX Exit.normal a w) = QQ at hQ ⊢
  obtain ⟨all, bs, h1, hbl, h2, h3, h4⟩ := hv
  simp only [List.nil_append, List.length_nil, Nat.zero_le, true_implies] at h1 hbl h2 h3 h4
  have hAT : ∀ L : Nat → Bool, (∀ j, j < pres.length → L j = true) → applyS L ss bs h = applyS (fun _ => true) ss bs h := fun L hL => applyS_congr ss bs h fun x hx => hL x.1 (by have := List.all_eq_true.1 hssl x hx; exact Nat.le_of_ble_eq_true this)
  have hple : pres.length ≤ l.toArray.size := by simpa using Nat.le_of_ble_eq_true hsz
  have henv : ∀ t x, look (dropE ds env) t = some x → look env t = some x ∧ t ∉ dstsOf all := fun t x hx => by rw [h2]; exact look_dropE hx
  -- the first operations, in whatever order
  have key : ∀ (fuel : Nat) (listed : Array Bool) (U : List Nat) (ρ : Pl) (S : Nat → Prop) (a : Act) (w : World), listed.size = l.toArray.size → (∀ j, j < l.toArray.size → listed.getD j false = false → j ∈ U) → U.length ≤ fuel → (∀ j, pres.length ≤ j → listed.getD j false = false) →
      (∀ (i : Nat) o, l.toArray[i]? = some o → listed.getD i false = true → ∀ e, e ∈ o.after → Region.binds .any e = true → listed.getD e.on false = true) →
      Stand P n c (dropE ds env) (applyS (fun j => listed.getD j false) ss bs h) all (fun j => listed.getD j false) ρ S a w → wpAny P .any l.toArray QQ fuel listed a w := by
    intro fuel
    induction fuel with
    | zero =>
      intro listed U ρ S a w hls hU hUl htail hcl st
      have hU0 : U = [] := List.eq_nil_of_length_eq_zero (by omega)
      subst hU0
      have hall : ∀ j, j < l.toArray.size → listed.getD j false = true := fun j hj => by
        cases hb : listed.getD j false with
        | true => rfl
        | false => exact absurd (hU j hj hb) (by simp)
      have hpm : pres.length = l.toArray.size := by
        rcases Nat.lt_or_ge pres.length l.toArray.size with h5 | h5
        · have := htail pres.length (Nat.le_refl _)
          rw [hall _ h5] at this; cases this
        · omega
      refine wpAny_tail (k := pres.length) (r := 0) hok _ _ a w (by omega) (Nat.le_refl _) (Nat.le_refl _) hls (fun j hj => ?_) (h4 c ρ S a w QQ ?_ fun env' h' ρ' S' a' w' k s' => hQ env' h' ρ' S' a' w' k s')
      · rw [hall j hj]; simp; omega
      · refine ⟨st.size, st.defers, fun t x hx => ?_, ?_, st.cm⟩
        · rcases stE_look hx with hx | ⟨j, f, h5, h6, h7, rfl⟩
          · exact st.env0 t x hx
          · exact st.done j f t h6 (hall j (by have := (List.getElem?_eq_some_iff.1 h6).1; omega)) h7
        · have := st.hs
          rwa [seg_congr (L := fun j => listed.getD j false) (L' := fun _ => true) all 0 (fun j _ hj => hall j (by omega)), hAT _ (fun j hj => hall j (by omega))] at this
    | succ fuel ih =>
      intro listed U ρ S a w hls hU hUl htail hcl st
      by_cases hfl : ∀ j, j < pres.length → listed.getD j false = true
      · -- all of the first ones have come up
        refine wpAny_tail (k := pres.length) (r := l.toArray.size - pres.length) hok _ _ a w (by omega) (Nat.le_refl _) ?_ hls (fun j hj => ?_) (h4 c ρ S a w QQ ?_ fun env' h' ρ' S' a' w' k s' => hQ env' h' ρ' S' a' w' k s')
        · have hsub : ∀ j, j ∈ List.range' pres.length (l.toArray.size - pres.length) → j ∈ U := fun j hj => by
            rw [List.mem_range'_1] at hj
            exact hU j (by omega) (htail j hj.1)
          have := (List.nodup_range' (s := pres.length) (n := l.toArray.size - pres.length)).length_le_of_subset hsub
          rw [List.length_range'] at this
          omega
        · by_cases hj' : j < pres.length
          · rw [hfl j hj']; simp [hj']
          · rw [htail j (by omega)]; simp; omega
        · refine ⟨st.size, st.defers, fun t x hx => ?_, ?_, st.cm⟩
          · rcases stE_look hx with hx | ⟨j, f, h5, h6, h7, rfl⟩
            · exact st.env0 t x hx
            · exact st.done j f t h6 (hfl j (by have := (List.getElem?_eq_some_iff.1 h6).1; omega)) h7
          · have := st.hs
            rwa [seg_congr (L := fun j => listed.getD j false) (L' := fun _ => true) all 0 (fun j _ hj => hfl j (by omega)), hAT _ hfl] at this
      · obtain ⟨j0, hj0, hjf⟩ : ∃ j, j < pres.length ∧ listed.getD j false = false := by
          apply Classical.byContradiction
          intro hc
          apply hfl
          intro j hj
          cases hb : listed.getD j false with
          | true => rfl
          | false => exact absurd ⟨j, hj, hb⟩ hc
        -- something is ready
        have hex : Region.ready .any l.toArray listed ≠ [] := by
          have least : ∃ j, j < pres.length ∧ listed.getD j false = false ∧ ∀ k, k < j → listed.getD k false = true := by
            have : ∀ b j, j ≤ b → j < pres.length → listed.getD j false = false → ∃ j, j < pres.length ∧ listed.getD j false = false ∧ ∀ k, k < j → listed.getD k false = true := by
              intro b
              induction b with
              | zero => exact fun j hj h5 h6 => ⟨j, h5, h6, fun k hk => by omega⟩
              | succ b ihb =>
                intro j hj h5 h6
                by_cases hk : ∃ k, k < j ∧ listed.getD k false = false
                · obtain ⟨k, hk1, hk2⟩ := hk
                  exact ihb k (by omega) (by omega) hk2
                · refine ⟨j, h5, h6, fun k hk' => ?_⟩
                  cases hb : listed.getD k false with
                  | true => rfl
                  | false => exact absurd ⟨k, hk', hb⟩ hk
            exact this j0 j0 (Nat.le_refl _) hj0 hjf
          obtain ⟨j, h5, h6, h7⟩ := least
          intro he
          have hlt : j < l.toArray.size := by omega
          have : j ∈ Region.ready .any l.toArray listed := mem_ready.2 ⟨by
            have e : listed.getD j true = listed.getD j false := by simp only [Array.getD, hls, hlt, dif_pos]
            rw [e, h6], _, Array.getElem?_eq_getElem hlt, fun e he hb => h7 _ (okDraw_lt hok (Array.getElem?_eq_getElem hlt) e he hb)⟩
          rw [he] at this; cases this
        refine ⟨fun h5 => absurd h5 hex, fun i hi => ?_⟩
        obtain ⟨g1, o, ho, hall⟩ := mem_ready.1 hi
        have hil : i < l.toArray.size := (Array.getElem?_eq_some_iff.1 ho).1
        have g1' : listed.getD i false = false := by
          have e : listed.getD i true = listed.getD i false := by simp only [Array.getD, hls, hil, dif_pos]
          rw [← e]; exact g1
        have him : i < pres.length := by
          rcases Nat.lt_or_ge i pres.length with h5 | h5
          · exact h5
          · obtain ⟨e, he, hb, hon⟩ := okDraw_tail hok ho h5 j0 (by omega)
            have := hall e he hb
            rw [hon, hjf] at this; cases this
        have hfi : all[i]? = some all[i] := List.getElem?_eq_getElem (by omega)
        obtain ⟨pre, hpre⟩ : ∃ pre, pres[i]? = some pre := ⟨_, List.getElem?_eq_getElem him⟩
        -- its predecessors have come up
        have up : ∀ (b k : Nat) (p : List Nat), k ≤ b → pres[k]? = some p → (k = i ∨ listed.getD k false = true) → ∀ j, j ∈ p → listed.getD j false = true := by
          intro b
          induction b with
          | zero =>
            intro k p hk hp _ j hj
            obtain ⟨ok, hok1⟩ : ∃ o, l.toArray[k]? = some o := ⟨_, Array.getElem?_eq_getElem (by have := (List.getElem?_eq_some_iff.1 hp).1; omega)⟩
            have := (okDraw_pre hok hok1 hp j hj).1
            omega
          | succ b ihb =>
            intro k p hk hp hki j hj
            obtain ⟨ok, hok1⟩ : ∃ o, l.toArray[k]? = some o := ⟨_, Array.getElem?_eq_getElem (by have := (List.getElem?_eq_some_iff.1 hp).1; omega)⟩
            obtain ⟨_, e, he, hb, hor⟩ := okDraw_pre hok hok1 hp j hj
            have hle : listed.getD e.on false = true := by
              rcases hki with rfl | hki
              · rw [ho] at hok1; cases hok1; exact hall e he hb
              · exact hcl k ok hok1 hki e he hb
            rcases hor with hor | hor
            · rw [← hor]; exact hle
            · have hon := okDraw_lt hok hok1 e he hb
              cases hpe : pres[e.on]? with
              | none => rw [List.getD_eq_getElem?_getD, hpe] at hor; simp at hor
              | some p' =>
                rw [List.getD_eq_getElem?_getD, hpe] at hor
                exact ihb e.on p' (by omega) hpe (.inr hle) j hor
        have hprel : ∀ j, j ∈ pre → listed.getD j false = true := up i i pre (Nat.le_refl _) hpre (.inl rfl)
        have hH0 : (applyS (fun j => listed.getD j false) ss bs h).length = h.length := applyS_len _ _ _ _
        have hhv : (seeH pres i pre ss bs h).length = h.length := seeS_len _ _ _ _ _
        have hbel : ∀ (k : Nat) b, (seeH pres i pre ss bs h)[k]? = some b → b ≠ .gone → (applyS (fun j => listed.getD j false) ss bs h)[k]? = some b := by
          refine see_below ss bs h h hbl rfl (fun _ _ hb _ => hb) (fun x _ hp => hprel _ (any_beq.1 hp)) (fun x hx _ hbf => ?_)
          cases hlx : listed.getD x.1 false with
          | false => rfl
          | true =>
            rcases Bool.or_eq_true_iff.1 hbf with h5 | h5
            · rw [Nat.eq_of_beq_eq_true h5, g1'] at hlx; cases hlx
            · cases hpx : pres[x.1]? with
              | none => rw [List.getD_eq_getElem?_getD, hpx] at h5; simp at h5
              | some px =>
                rw [List.getD_eq_getElem?_getD, hpx] at h5
                have := up x.1 x.1 px (Nat.le_refl _) hpx (.inr hlx) i (any_beq.1 h5)
                rw [g1'] at this; cases this
        have hbel2 : ∀ (k : Nat) b, (seeH pres i pre ss bs h ++ seg (fun j => pre.any (Nat.beq j)) 0 (all.take i))[k]? = some b → b ≠ .gone → (applyS (fun j => listed.getD j false) ss bs h ++ seg (fun j => listed.getD j false) 0 all)[k]? = some b := fun k b hb hgb => by
          by_cases hk : k < h.length
          · rw [List.getElem?_append_left (by omega)] at hb ⊢; exact hbel k b hb hgb
          · rw [List.getElem?_append_right (by omega)] at hb ⊢
            rw [hhv] at hb
            rw [hH0]
            have h5 := seg_mono (L' := fun j => listed.getD j false) _ _ _ _ (fun j hj => hprel j (any_beq.1 hj)) hb hgb
            have h6 : seg (fun j => listed.getD j false) 0 all = seg (fun j => listed.getD j false) 0 (all.take i) ++ seg (fun j => listed.getD j false) (0 + (all.take i).length) (all.drop i) := by
              rw [← seg_append, List.take_append_drop]
            rw [h6, List.getElem?_append_left (List.getElem?_eq_some_iff.1 h5).1]
            exact h5
        have hpreP : Pre ρ S (stE (dropE ds env) (all.take i) pre) (seeH pres i pre ss bs h ++ seg (fun j => pre.any (Nat.beq j)) 0 (all.take i)) a w := by
          refine ⟨fun t x hx => ?_, st.hs.rng, fun k b hb => ?_, fun k b p hb hgb hp => (st.hs.live k b p (hbel2 k b hb hgb) hgb hp).2, st.hs.stab, st.hs.glob⟩
          · rcases stE_look hx with hx | ⟨j, f, h5, h6, h7, rfl⟩
            · exact st.env0 t x hx
            · rw [List.getElem?_take] at h6
              split at h6
              · exact st.done j f t h6 (hprel j h5) h7
              · cases h6
          · by_cases hgb : b = .gone
            · subst hgb; trivial
            · exact st.hs.blk k b (hbel2 k b hb hgb)
        have hposl : (seeH pres i pre ss bs h ++ seg (fun j => pre.any (Nat.beq j)) 0 (all.take i)).length = (applyS (fun j => listed.getD j false) ss bs h).length + lens (all.take i) := by rw [List.length_append, seg_length, hhv, hH0]
        have hokd : okd all[i].d n = true := by
          cases hdi : all[i].d with
          | none => rfl
          | some d =>
            have : d ∈ ds := by rw [← h2]; exact List.mem_filterMap.2 ⟨all[i], List.getElem_mem _, hdi⟩
            exact List.all_eq_true.1 hds d this
        -- on, behind it
        have hget : ∀ j, (listed.setIfInBounds i true).getD j false = (listed.getD j false || Nat.beq j i) := fun j => by
          by_cases hij : i = j
          · subst hij
            rw [Nat.beq_refl, Bool.or_true]
            simp only [Array.getD, Array.size_setIfInBounds, hls, hil, dif_pos]
            simp
          · rw [getD_set_ne false hij, show Nat.beq j i = false from by rw [← Bool.not_eq_true]; intro hb; have := Nat.eq_of_beq_eq_true hb; omega, Bool.or_false]
        have onS : ∀ ρ' S' a' w', Stand P n c (dropE ds env) (applyS (fun j => (listed.setIfInBounds i true).getD j false) ss bs h) all (fun j => (listed.setIfInBounds i true).getD j false) ρ' S' a' w' → wpAny P .any l.toArray QQ fuel (listed.setIfInBounds i true) a' w' := fun ρ' S' a' w' st' => by
          have hiU : i ∈ U := hU i hil g1'
          refine ih (listed.setIfInBounds i true) (U.erase i) ρ' S' _ w' (by simpa using hls) (fun j hj hjl => ?_) (by rw [List.length_erase_of_mem hiU]; omega) (fun j hj => ?_) (fun k ok hok1 hkl e he hb => ?_) st'
          · rw [hget] at hjl
            obtain ⟨h5, h6⟩ := Bool.or_eq_false_iff.1 hjl
            have hne : j ≠ i := fun e => by rw [e, Nat.beq_refl] at h6; cases h6
            exact (List.mem_erase_of_ne hne).2 (hU j hj h5)
          · rw [hget, htail j hj, show Nat.beq j i = false from by rw [← Bool.not_eq_true]; intro hb; have := Nat.eq_of_beq_eq_true hb; omega]; rfl
          · rw [hget] at hkl ⊢
            rcases Bool.or_eq_true_iff.1 hkl with h5 | h5
            · rw [hcl k ok hok1 h5 e he hb]; rfl
            · have := Nat.eq_of_beq_eq_true h5
              subst this
              rw [ho] at hok1
              cases hok1
              rw [hall e he hb]; rfl
        have yv : ∀ {g t : Nat} {b : Bool}, (l.toArray[g]?).bind (·.dst) = some t → look (stE (dropE ds env) (all.take i) pre) t = some (.b b) → yielded l.toArray a.tmps g = some b := fun {g t b} h5 h6 => by
          have h7 := R_v (hpreP.env t _ h6)
          unfold yielded
          rw [h5]
          have : a.tmps[t]? = some (.bool b) := by
            rw [Array.getD_eq_getD_getElem?] at h7
            cases h8 : a.tmps[t]? with
            | none => rw [h8] at h7; simp [undef] at h7
            | some v => rw [h8] at h7; simp at h7; rw [h7]
          simp [this]
        have yvu : ∀ {g t : Nat}, (l.toArray[g]?).bind (·.dst) = some t → look (stE (dropE ds env) (all.take i) pre) t = some (.v undef) → yielded l.toArray a.tmps g = none := fun {g t} h5 h6 => by
          have h7 := R_v (hpreP.env t _ h6)
          unfold yielded
          rw [h5]
          rw [Array.getD_eq_getD_getElem?] at h7
          cases h8 : a.tmps[t]? with
          | none => simp [h8]
          | some v => rw [h8] at h7; simp at h7; simp [h8, h7, undef]
        unfold wpOp
        rw [ho]
        simp only
        rcases h3 i all[i] pre hfi hpre with ⟨hns, o', ho', hd', hg⟩ | ⟨m, k, b, o', hm1, hm2, hdd, hn1, ho', hgu, hkl, hst⟩
        · rw [ho] at ho'
          cases ho'
          have hsame : applyS (fun j => (listed.setIfInBounds i true).getD j false) ss bs h = applyS (fun j => listed.getD j false) ss bs h := applyS_congr ss bs h fun x hx => by
            rw [hget, show Nat.beq x.1 i = false from by rw [← Bool.not_eq_true]; intro hb; exact hns x hx (Nat.eq_of_beq_eq_true hb), Bool.or_false]
          have on : ∀ y ρ' S' w', Post ρ ρ' S S' w w' ((applyS (fun j => listed.getD j false) ss bs h).length + lens (all.take i)) all[i].new.length all[i].x all[i].new y → wpAny P .any l.toArray QQ fuel (listed.setIfInBounds i true) (a.put all[i].d y) w' := fun y ρ' S' w' p => by
            have := st.step (L' := fun j => (listed.setIfInBounds i true).getD j false) hfi g1' hget p hokd (by rw [h2]; exact hnd) (fun t x hx => (henv t x hx).2) (by rw [hH0]; exact s.hs.mle)
            rw [← hsame] at this
            exact onS _ _ _ _ this
          rcases hg with ⟨x, new, hgu, hfs, hx, hn⟩ | ⟨g, want, t, hgu, h5, h6, hx, hn⟩
          · have hw : Region.wanted o (yielded l.toArray a.tmps) = true := by
              rcases hgu with hgu | ⟨g, want, t, hgu, h5, h6⟩
              · exact wanted_none hgu
              · simp [Region.wanted, hgu, yv h5 h6]
            rw [if_pos hw]
            left
            have := hfs ρ S a w hpreP (seeH pres i pre ss bs h ++ seg (fun j => pre.any (Nat.beq j)) 0 (all.take i)).length (fun j hj => by rw [hposl]; exact st.undone i _ hfi g1' j hj)
            refine this (wpAny P .any l.toArray QQ fuel (listed.setIfInBounds i true)) QQ fun y ρ' S' w' p => ?_
            rw [hx, hn, hposl] at p
            have := on y ρ' S' w' p
            rw [← hd'] at this
            exact this
          · have hw : Region.wanted o (yielded l.toArray a.tmps) = false := by
              rcases h6 with h6 | h6
              · simp [Region.wanted, hgu, yv h5 h6]
              · simp [Region.wanted, hgu, yvu h5 h6]
            rw [if_neg (by rw [hw]; exact Bool.false_ne_true)]
            have := on undef ρ S w ⟨Ext.refl _ _, rfl, fun _ _ => rfl, fun _ h => h, fun _ h => .inl h, fun k p hk1 hk2 => by rw [hn, List.length_nil] at hk2; omega, fun k k' p p' hk1 hk2 => by rw [hn, List.length_nil] at hk2; omega, by rw [hx]; exact R_v_mk _, fun j b hb => by rw [hn] at hb; simp at hb⟩
            rw [← hd'] at this
            exact this
        · rw [ho] at ho'
          cases ho'
          have hw : Region.wanted o (yielded l.toArray a.tmps) = true := by
            rcases hgu with hgu | ⟨g, want, t, hgu, h5, h6⟩
            · exact wanted_none hgu
            · simp [Region.wanted, hgu, yv h5 h6]
          rw [if_pos hw]
          left
          have hap : (applyS (fun j => listed.getD j false) ss bs h).set k b = applyS (fun j => (listed.setIfInBounds i true).getD j false) ss bs h := by
            rw [applyS_one (L := fun j => listed.getD j false) (L' := fun j => (listed.setIfInBounds i true).getD j false) ss bs h m hss hm1 hm2 g1' hget (fun x hx hlx j hj => ?_)]
            cases hpx : pres[x.1]? with
            | none => rw [List.getD_eq_getElem?_getD, hpx] at hj; simp at hj
            | some px =>
              rw [List.getD_eq_getElem?_getD, hpx] at hj
              exact up x.1 x.1 px (Nat.le_refl _) hpx (.inr hlx) j hj
          have hil2 : i < all.length := (List.getElem?_eq_some_iff.1 hfi).1
          have hsplit : all = all.take i ++ all[i] :: all.drop (i + 1) := by
            have := List.take_append_drop i all
            rw [List.drop_eq_getElem_cons hil2] at this
            exact this.symm
          have hti : (all.take i).length = i := by rw [List.length_take]; omega
          have sL : ∀ M : Nat → Bool, seg M 0 all = seg M 0 (all.take i) ++ ((match M i with | true => all[i].new | false => List.replicate all[i].new.length .gone) ++ seg M (i + 1) (all.drop (i + 1))) := fun M => by
            conv => lhs; rw [hsplit]
            rw [seg_append, hti, Nat.zero_add]; rfl
          have e1 : seg (fun j => (listed.setIfInBounds i true).getD j false) 0 (all.take i) = seg (fun j => listed.getD j false) 0 (all.take i) := seg_congr _ _ fun j _ hj => by
            rw [hti] at hj
            show (listed.setIfInBounds i true).getD j false = _
            rw [hget, show Nat.beq j i = false from by rw [← Bool.not_eq_true]; intro hb; have := Nat.eq_of_beq_eq_true hb; omega, Bool.or_false]
          have e2 : seg (fun j => (listed.setIfInBounds i true).getD j false) (i + 1) (all.drop (i + 1)) = seg (fun j => listed.getD j false) (i + 1) (all.drop (i + 1)) := seg_congr _ _ fun j hj _ => by
            show (listed.setIfInBounds i true).getD j false = _
            rw [hget, show Nat.beq j i = false from by rw [← Bool.not_eq_true]; intro hb; have := Nat.eq_of_beq_eq_true hb; omega, Bool.or_false]
          have hLi : (listed.setIfInBounds i true).getD i false = true := by rw [hget, Nat.beq_refl, Bool.or_true]
          have hlen := seg_length (fun j => listed.getD j false) 0 (all.take i)
          have hA : applyS (fun j => listed.getD j false) ss bs h ++ seg (fun j => listed.getD j false) 0 all = (applyS (fun j => listed.getD j false) ss bs h ++ seg (fun j => listed.getD j false) 0 (all.take i)) ++ (List.replicate all[i].new.length .gone ++ seg (fun j => listed.getD j false) (i + 1) (all.drop (i + 1))) := by rw [sL (fun j => listed.getD j false)]; simp only [g1', List.append_assoc]
          have hB : applyS (fun j => (listed.setIfInBounds i true).getD j false) ss bs h ++ seg (fun j => (listed.setIfInBounds i true).getD j false) 0 all = (applyS (fun j => (listed.setIfInBounds i true).getD j false) ss bs h ++ seg (fun j => listed.getD j false) 0 (all.take i)) ++ (all[i].new ++ seg (fun j => listed.getD j false) (i + 1) (all.drop (i + 1))) := by rw [sL (fun j => (listed.setIfInBounds i true).getD j false)]; simp only [hLi, e1, e2, List.append_assoc]
          have hsetk : (applyS (fun j => listed.getD j false) ss bs h ++ seg (fun j => listed.getD j false) 0 all).set k b = (applyS (fun j => (listed.setIfInBounds i true).getD j false) ss bs h ++ seg (fun j => listed.getD j false) 0 (all.take i)) ++ (List.replicate all[i].new.length .gone ++ seg (fun j => listed.getD j false) (i + 1) (all.drop (i + 1))) := by
            rw [hA, List.append_assoc, List.set_append_left _ _ (by rw [hH0]; exact hkl), hap, List.append_assoc]
          have hfill : fillH ((applyS (fun j => listed.getD j false) ss bs h ++ seg (fun j => listed.getD j false) 0 all).set k b) (h.length + lens (all.take i)) all[i].new = applyS (fun j => (listed.setIfInBounds i true).getD j false) ss bs h ++ seg (fun j => (listed.setIfInBounds i true).getD j false) 0 all := by
            rw [hsetk, hB]
            have hpl : (applyS (fun j => (listed.setIfInBounds i true).getD j false) ss bs h ++ seg (fun j => listed.getD j false) 0 (all.take i)).length = h.length + lens (all.take i) := by rw [List.length_append, applyS_len, hlen]
            match hnw : all[i].new, hn1 with
            | [], _ => rfl
            | [q], _ =>
              show List.set _ _ _ = _
              rw [← hpl]
              exact set_mid _ _ _ _
            | _ :: _ :: _, h9 => exact absurd h9 (by simp)
          refine hst c ρ S a w _ st.hs hpreP hbel2 ?_ (wpAny P .any l.toArray QQ fuel (listed.setIfInBounds i true)) QQ fun y ρ' S' w' hh l' hv hρ => ?_
          · by_cases hnw : all[i].new = []
            · exact .inl hnw
            · have hpos : 0 < all[i].new.length := List.length_pos_iff.2 hnw
              refine .inr ⟨by have := st.undone i _ hfi g1' 0 hpos; rwa [Nat.add_zero, hH0] at this, ?_, by have := s.hs.mle; omega⟩
              rw [hA, List.getElem?_append_right (by rw [List.length_append, hlen, hH0]; omega), List.length_append, hlen, hH0, Nat.sub_self, List.getElem?_append_left (by simpa using hpos)]
              simp [List.getElem?_replicate, hpos]
          · rw [hfill] at hh
            have := st.astep (h' := applyS (fun j => (listed.setIfInBounds i true).getD j false) ss bs h) (L' := fun j => (listed.setIfInBounds i true).getD j false) hfi hget hokd (by rw [h2]; exact hnd) (fun t x hx => (henv t x hx).2) hh (by rw [applyS_len, applyS_len]) l' hv (fun j hj => ?_) hn1
            · rw [hdd]
              exact onS _ _ _ _ this
            · exact hρ j (by rw [hH0] at hj; exact hj)
  have hsize : l.toArray.size = l.length := by simp
  have hrep : ∀ j, (Array.replicate l.toArray.size false).getD j false = false := fun j => by
    simp only [Array.getD]
    split <;> simp
  refine key l.toArray.size _ (List.range l.toArray.size) ρ S a _ (by simp) (fun j hj _ => by simpa using hj) (by simp) (fun j _ => hrep j) (fun i o _ hi => by rw [hrep] at hi; cases hi) ?_
  have hseg : ∀ (r : List Eff) (i : Nat), seg (fun _ => false) i r = List.replicate (lens r) .gone := by
    intro r
    induction r with
    | nil => intro i; rfl
    | cons f r ih => intro i; simp only [seg, ih, lens, List.replicate_append_replicate]
  have hL : (fun j => (Array.replicate l.toArray.size false).getD j false) = fun _ => false := funext hrep
  rw [hL, show applyS (fun _ => false) ss bs h = h from ?_]
  rotate_left
  · have : ∀ (ss : List (Nat × Nat)) (bs : List AB) (h : Hp), applyS (fun _ => false) ss bs h = h := by
      intro ss
      induction ss with
      | nil => intros; rfl
      | cons x r ihr =>
        intro bs h
        cases bs with
        | nil => rfl
        | cons b bs => simp only [applyS]; exact ihr bs h
    exact this ss bs h
  have l0 : Later ρ ρ S S w { w with drawn := w.drawn + 1 } := ⟨fun _ _ h => h, fun _ h => h, fun _ _ => rfl, fun _ _ _ _ _ h => h⟩
  refine ⟨s.size, s.defers.later l0, s.cm, fun t x hx => (s.env t x (look_dropE hx).1).later l0, fun i f t _ hi => (by cases hi), ?_, fun i f _ _ j _ => s.hs.dom _ (by omega)⟩
  rw [hseg]
  have ext : Ext c.M c.w0 { w with drawn := w.drawn + 1 } := s.hs.ext.drew
  have at_ : ∀ {k : Nat} {b : AB}, (h ++ List.replicate (lens all) .gone)[k]? = some b → b ≠ .gone → h[k]? = some b := fun {k b} hb hg => by
    by_cases hk : k < h.length
    · rwa [List.getElem?_append_left hk] at hb
    · rw [List.getElem?_append_right (by omega), List.getElem?_replicate] at hb
      split at hb
      · cases hb; exact absurd rfl hg
      · cases hb
  refine ⟨fun k hk => s.hs.dom k (by simp at hk; omega), s.hs.rng, fun k b hb => ?_, fun k b p hb hg hp => s.hs.live k b p (at_ hb hg) hg hp, fun k k' b b' p p' hb hb' hg hg' hp hp' e => s.hs.inj k k' b b' p p' (at_ hb hg) (at_ hb' hg') hg hg' hp hp' e, s.hs.stab, ext, s.hs.st0, s.hs.st1, by simp; exact Nat.le_trans s.hs.mle (Nat.le_add_right _ _), s.hs.keep, s.hs.glob.later l0⟩
  by_cases hg : b = .gone
  · subst hg; trivial
  · exact RB.later l0 (fun _ _ _ => rfl) (s.hs.blk k b (at_ hb hg))


/-! ### The steps, with the frame as it grows -/
def DWA (P : Program) (n : Nat × Nat) (ops : List Oper) (pres : List (List Nat)) (ds : List Nat) (bads : List (List Nat)) (ss : List (Nat × Nat)) (env : Env) (h : Hp) (i : Nat) (cur : Env) (objs : List (Nat × Hp)) (don : List AB) (K : Env → Hp → Prop) : Prop :=
  chkDrawS ops pres ds bads ss n.1 = true → (∀ t, t ∈ ds → look env t = none) → ∀ effs, GoodS ops ss env i cur objs don effs → DVA P n ops.toArray pres ss ds env h effs don K

section
variable {P : Program} {n : Nat × Nat} {ops : List Oper} {pres : List (List Nat)} {ds : List Nat} {bads : List (List Nat)} {ss : List (Nat × Nat)} {env : Env} {h : Hp} {K : Env → Hp → Prop} {pre bad : List Nat}

theorem aw_draw4 {Q : Exit → Env → Hp → Prop} {id : Nat} {l : List Oper} (pres : List (List Nat)) (ds : List Nat) (bads : List (List Nat)) (ss : List (Nat × Nat)) (hm : P.follows .mixedOrders = true) (hok : chkDrawS l pres ds bads ss n.1 = true)
    (hv : DWA P n l pres ds bads ss (dropE ds env) h 0 (dropE ds env) [] [] (fun v h => Q .normal v h)) (hndf : noDef l = true := by rfl) : AW P n (.region id l.toArray true) env h Q := by
  have hok' := hok
  simp only [chkDrawS, chkDraw, Bool.and_eq_true, decide_eq_true_eq] at hok'
  obtain ⟨⟨⟨⟨⟨⟨⟨h1, h2⟩, h3⟩, h4⟩, h5⟩, h6⟩, h7⟩, h8⟩ := hok'
  refine aw_drawA pres ds ss hm h1 h7 h8 h2 h3 h4 (hv hok (fun t ht => ?_) [] ⟨⟨rfl, rfl, rfl, fun j f hf => by simp at hf⟩, fun x _ => Nat.zero_le _⟩) hndf
  cases hl : look (dropE ds env) t with
  | none => rfl
  | some x => exact absurd ht (look_dropE hl).2

variable {op : Op} {ty : TypeId} {pos : String} {af : Array Edge} {d : Option Nat} {i : Nat} {cur : Env} {objs : List (Nat × Hp)} {don : List AB}

theorem dva_step {effs : List Eff} {f : Eff} (hok : chkDrawS ops pres ds bads ss n.1 = true) (g : GoodS ops ss env i cur objs don effs) (hp : pres[i]? = some pre) (hi : i < ops.length) (hns : (ss.all fun x => !Nat.beq x.1 i) = true)
    (hg : GStep P ops.toArray i (stE env effs pre) (seeH pres i pre ss don h ++ hvis pre objs) f) (hk : DVA P n ops.toArray pres ss ds env h (effs ++ [f]) don K) : DVA P n ops.toArray pres ss ds env h effs don K := by
  obtain ⟨more, mb, h1, h0, h2, h3, h4⟩ := hk
  have e : effs ++ [f] ++ more = effs ++ (f :: more) := by simp
  rw [e] at h1 h2 h3 h4
  have hie : effs.length = i := g.g.len
  refine ⟨f :: more, mb, h1, h0, h2, fun j q p hj hgj hpj => ?_, h4⟩
  by_cases hji : j = i
  · subst hji
    rw [hp] at hpj
    cases hpj
    rw [List.getElem?_append_right (by omega), hie, Nat.sub_self] at hgj
    simp at hgj
    subst hgj
    left
    refine ⟨fun x hx hxe => ?_, ?_⟩
    · have := List.all_eq_true.1 hns x hx
      rw [hxe, Nat.beq_refl] at this; cases this
    · rw [List.take_append, List.take_of_length_le (by omega), hie, Nat.sub_self, g.seeH hok hi hp mb]
      simp only [List.take_zero, List.append_nil]
      rw [hvis_seg, ← g.g.objs]
      exact hg
  · exact h3 j q p (by simp; omega) hgj hpj

theorem dwa_v {dd : Nat} {u : AV} (ho : ops[i]? = some ⟨some dd, op, ty, pos, af, none⟩) (hp : pres[i]? = some pre) (hb : bads[i]? = some bad) (hns : (ss.all fun x => !Nat.beq x.1 i) = true) (hs : FStep P ⟨some dd, op, ty, pos, af, none⟩ (dropE bad cur) (seeH pres i pre ss don h ++ hvis pre objs) 0 (fun _ => u) (fun _ => []))
    (hk : DWA P n ops pres ds bads ss env h (i + 1) ((dd, u) :: cur) objs don K) : DWA P n ops pres ds bads ss env h i cur objs don K := by
  intro hok hen effs g
  refine dva_step (f := ⟨some dd, u, []⟩) hok g hp (List.getElem?_eq_some_iff.1 ho).1 hns ⟨_, by simpa using ho, rfl, .inl ⟨fun _ => u, fun _ => [], .inl rfl, hs.more (g.g.see (chkS hok) hp hb), rfl, rfl⟩⟩ (hk hok hen _ (g.next (g.g.snoc (f := ⟨some dd, u, []⟩) ho rfl rfl) hns))
theorem dwa_n {dd : Nat} {u : Nat → AV} {b : Nat → List AB} {m : Nat} (ho : ops[i]? = some ⟨some dd, op, ty, pos, af, none⟩) (hp : pres[i]? = some pre) (hb : bads[i]? = some bad) (hns : (ss.all fun x => !Nat.beq x.1 i) = true) (hs : FStep P ⟨some dd, op, ty, pos, af, none⟩ (dropE bad cur) (seeH pres i pre ss don h ++ hvis pre objs) (m + 1) u b) (hm : (b (seeH pres i pre ss don h ++ hvis pre objs).length).length = m + 1)
    (hk : DWA P n ops pres ds bads ss env h (i + 1) ((dd, u (seeH pres i pre ss don h ++ hvis pre objs).length) :: cur) (objs ++ [(i, b (seeH pres i pre ss don h ++ hvis pre objs).length)]) don K) : DWA P n ops pres ds bads ss env h i cur objs don K := by
  intro hok hen effs g
  refine dva_step (f := ⟨some dd, u (seeH pres i pre ss don h ++ hvis pre objs).length, b (seeH pres i pre ss don h ++ hvis pre objs).length⟩) hok g hp (List.getElem?_eq_some_iff.1 ho).1 hns ⟨_, by simpa using ho, rfl, .inl ⟨u, b, .inl rfl, by simp only [hm]; exact hs.more (g.g.see (chkS hok) hp hb), rfl, rfl⟩⟩ ?_
  refine hk hok hen _ (g.next (g.g.snoc' (f := ⟨some dd, u (seeH pres i pre ss don h ++ hvis pre objs).length, b (seeH pres i pre ss don h ++ hvis pre objs).length⟩) ho rfl ?_) hns)
  intro e2
  rw [show b (seeH pres i pre ss don h ++ hvis pre objs).length = [] from e2] at hm
  cases hm
theorem dwa_st {k : Nat} {nb : AB} {t : TypeId} {x y : Operand} {j : TI} {u v : AV} {xs : List AV} (ho : ops[i]? = some ⟨none, .store t x y, ty, pos, af, none⟩) (hp : pres[i]? = some pre) (hb : bads[i]? = some bad) (hm : ss[don.length]? = some (i, k)) (hkl : k < h.length)
    (T : Tab P) (hx : evu (dropE bad cur) x = some u) (hy : evu (dropE bad cur) y = some v) (ht : T.ti t = some j) (hv : v.cellsOf = some xs) (hl : xs.length = j.size) (h1 : xs.all AV.one = true) (h0 : 0 < j.size) (hu : updB (seeH pres i pre ss don h ++ hvis pre objs) u xs = some (k, nb))
    (hk : DWA P n ops pres ds bads ss env h (i + 1) cur objs (don ++ [nb]) K) : DWA P n ops pres ds bads ss env h i cur objs don K := by
  intro hok hen effs g
  have hs := ss_store (P := P) (pos := pos) (ty := ty) (af := af) T hx hy ht hv hl h1 h0 hu
  have hi := (List.getElem?_eq_some_iff.1 ho).1
  have hgs : Good ops env (i + 1) cur objs (effs ++ [⟨none, .v undef, []⟩]) := g.g.snoc (f := ⟨none, .v undef, []⟩) ho rfl rfl
  have hkk := hk hok hen (effs ++ [⟨none, .v undef, []⟩]) ⟨hgs, fun x hx => ?_⟩
  · obtain ⟨more, mb, g1, g0, g2, g3, g4⟩ := hkk
    have e : effs ++ [⟨none, .v undef, []⟩] ++ more = effs ++ ((⟨none, .v undef, []⟩ : Eff) :: more) := by simp
    have e' : don ++ [nb] ++ mb = don ++ (nb :: mb) := by simp
    rw [e] at g1 g2
    rw [e'] at g0
    simp only [e, e'] at g3 g4
    have hie : effs.length = i := g.g.len
    refine ⟨_, _, g1, g0, g2, fun j' q p hj hgj hpj => ?_, g4⟩
    by_cases hji : j' = i
    · subst hji
      rw [hp] at hpj
      cases hpj
      rw [List.getElem?_append_right (by omega), hie, Nat.sub_self] at hgj
      simp at hgj
      subst hgj
      right
      refine ⟨don.length, k, nb, _, hm, ?_, rfl, Nat.zero_le _, by simpa using ho, .inl rfl, hkl, ?_⟩
      · rw [List.getElem?_append_right (Nat.le_refl _), Nat.sub_self]; rfl
      · rw [List.take_append, List.take_of_length_le (by omega), hie, Nat.sub_self, g.seeH hok hi hp _]
        simp only [List.take_zero, List.append_nil]
        rw [hvis_seg, ← g.g.objs]
        exact (SStep.more hs (g.g.see (chkS hok) hp hb)).a
    · exact g3 j' q p (by simp; omega) hgj hpj
  · have hok' := hok
    simp only [chkDrawS, Bool.and_eq_true] at hok'
    have hls : don.length < ss.length := (List.getElem?_eq_some_iff.1 hm).1
    have e1 : ss.drop don.length = (i, k) :: ss.drop (don.length + 1) := by
      rw [List.drop_eq_getElem_cons hls]
      have := List.getElem?_eq_getElem hls
      rw [hm] at this
      rw [Option.some.inj this]
    have hx' : x ∈ ss.drop (don.length + 1) := by simpa using hx
    have h5 := g.later x (by rw [e1]; exact List.mem_cons_of_mem _ hx')
    have key : ∀ (ss : List (Nat × Nat)) (m : Nat), okS pres ss = true → ss[m]? = some (i, k) → ∀ x, x ∈ ss.drop (m + 1) → x.1 ≠ i := by
      intro ss
      induction ss with
      | nil => intro m _ h; simp at h
      | cons y r ih =>
        intro m hok h x hx
        obtain ⟨s, k'⟩ := y
        simp only [okS, Bool.and_eq_true, List.all_eq_true] at hok
        cases m with
        | zero =>
          simp only [List.getElem?_cons_zero, Option.some.injEq, Prod.mk.injEq] at h
          intro e
          have := (hok.1 x (by simpa using hx)).1
          rw [e, h.1, Nat.beq_refl] at this; cases this
        | succ m => exact ih m hok.2 (by simpa using h) x (by simpa using hx)
    have := key ss don.length hok'.1.2 hm x hx'
    omega

theorem dwa_a1 {k dd : Nat} {nb : AB} {u : AV} {b1 : AB} (ho : ops[i]? = some ⟨some dd, op, ty, pos, af, none⟩) (hp : pres[i]? = some pre) (hb : bads[i]? = some bad) (hm : ss[don.length]? = some (i, k)) (hkl : k < h.length)
    (hs : AStep P ⟨some dd, op, ty, pos, af, none⟩ (dropE bad cur) (seeH pres i pre ss don h ++ hvis pre objs) (seeH pres i pre ss don h ++ hvis pre objs).length k nb u [b1])
    (hk : DWA P n ops pres ds bads ss env h (i + 1) ((dd, u) :: cur) (objs ++ [(i, [b1])]) (don ++ [nb]) K) : DWA P n ops pres ds bads ss env h i cur objs don K := by
  intro hok hen effs g
  have hi := (List.getElem?_eq_some_iff.1 ho).1
  have hgs : Good ops env (i + 1) ((dd, u) :: cur) (objs ++ [(i, [b1])]) (effs ++ [⟨some dd, u, [b1]⟩]) := g.g.snoc' (f := ⟨some dd, u, [b1]⟩) ho rfl (by simp)
  have hkk := hk hok hen (effs ++ [⟨some dd, u, [b1]⟩]) ⟨hgs, fun x hx => ?_⟩
  · obtain ⟨more, mb, g1, g0, g2, g3, g4⟩ := hkk
    have e : effs ++ [⟨some dd, u, [b1]⟩] ++ more = effs ++ ((⟨some dd, u, [b1]⟩ : Eff) :: more) := by simp
    have e' : don ++ [nb] ++ mb = don ++ (nb :: mb) := by simp
    rw [e] at g1 g2
    rw [e'] at g0
    simp only [e, e'] at g3 g4
    have hie : effs.length = i := g.g.len
    refine ⟨_, _, g1, g0, g2, fun j' q p hj hgj hpj => ?_, g4⟩
    by_cases hji : j' = i
    · subst hji
      rw [hp] at hpj
      cases hpj
      rw [List.getElem?_append_right (by omega), hie, Nat.sub_self] at hgj
      simp at hgj
      subst hgj
      right
      refine ⟨don.length, k, nb, _, hm, ?_, rfl, Nat.le_refl _, by simpa using ho, .inl rfl, hkl, ?_⟩
      · rw [List.getElem?_append_right (Nat.le_refl _), Nat.sub_self]; rfl
      · rw [List.take_append, List.take_of_length_le (by omega), hie, Nat.sub_self, g.seeH hok hi hp _]
        simp only [List.take_zero, List.append_nil]
        rw [hvis_seg, ← g.g.objs]
        have hpl : (seeH pres j' pre ss don h ++ hvis pre objs).length = h.length + lens effs := by rw [g.g.objs, ← hvis_seg, List.length_append, seg_length]; congr 1; exact seeS_len _ _ _ _ _
        rw [hpl] at hs
        exact AStep.more hs (g.g.see (chkS hok) hp hb)
    · exact g3 j' q p (by simp; omega) hgj hpj
  · have hok' := hok
    simp only [chkDrawS, Bool.and_eq_true] at hok'
    have hls : don.length < ss.length := (List.getElem?_eq_some_iff.1 hm).1
    have e1 : ss.drop don.length = (i, k) :: ss.drop (don.length + 1) := by
      rw [List.drop_eq_getElem_cons hls]
      have := List.getElem?_eq_getElem hls
      rw [hm] at this
      rw [Option.some.inj this]
    have hx' : x ∈ ss.drop (don.length + 1) := by simpa using hx
    have h5 := g.later x (by rw [e1]; exact List.mem_cons_of_mem _ hx')
    have key : ∀ (ss : List (Nat × Nat)) (m : Nat), okS pres ss = true → ss[m]? = some (i, k) → ∀ x, x ∈ ss.drop (m + 1) → x.1 ≠ i := by
      intro ss
      induction ss with
      | nil => intro m _ h; simp at h
      | cons y r ih =>
        intro m hok h x hx
        obtain ⟨s, k'⟩ := y
        simp only [okS, Bool.and_eq_true, List.all_eq_true] at hok
        cases m with
        | zero =>
          simp only [List.getElem?_cons_zero, Option.some.injEq, Prod.mk.injEq] at h
          intro e
          have := (hok.1 x (by simpa using hx)).1
          rw [e, h.1, Nat.beq_refl] at this; cases this
        | succ m => exact ih m hok.2 (by simpa using h) x (by simpa using hx)
    have := key ss don.length hok'.1.2 hm x hx'
    omega

theorem dwa_fin (hi : pres.length = i) (hdl : don.length = ss.length) {rest : List Oper} {h' : Hp} (hr : ops.drop i = rest) (hh : applyS (fun _ => true) ss don h ++ allObjs objs = h')
    (hk : VC P n ops.toArray rest cur h' K) : DWA P n ops pres ds bads ss env h i cur objs don K := by
  intro hok hen effs gs
  have g := gs.g
  have hok' := chkS hok
  simp only [chkDraw, Bool.and_eq_true, decide_eq_true_eq] at hok'
  obtain ⟨⟨⟨⟨⟨h1, h2⟩, h3⟩, h4⟩, h5⟩, h6⟩ := hok'
  have hds : dstsOf effs = ds := by
    rw [← h5]
    have hle : i ≤ ops.length := by rw [← hi]; exact Nat.le_of_ble_eq_true h4
    unfold dstsOf
    have : effs.map (·.d) = (ops.take pres.length).map (·.dst) := by
      apply List.ext_getElem?
      intro j
      simp only [List.getElem?_map, List.getElem?_take, hi]
      by_cases hj : j < i
      · rw [if_pos hj]
        have hje : j < effs.length := by rw [g.len]; exact hj
        obtain ⟨o, ho, hod⟩ := g.dst j effs[j] (List.getElem?_eq_getElem hje)
        rw [List.getElem?_eq_getElem hje, ho]
        simp [hod]
      · rw [if_neg hj, List.getElem?_eq_none (by rw [g.len]; omega)]; rfl
    have e1 : effs.filterMap (·.d) = (effs.map (·.d)).filterMap id := by rw [List.filterMap_map]; rfl
    have e2 : (ops.take pres.length).filterMap (·.dst) = ((ops.take pres.length).map (·.dst)).filterMap id := by rw [List.filterMap_map]; rfl
    rw [e1, e2, this]
  refine ⟨[], [], by rw [List.append_nil, g.len, hi], by rw [List.append_nil]; exact hdl, by rw [List.append_nil]; exact hds, fun j f pre hj hf _ => ?_, ?_⟩
  · have := (List.getElem?_eq_some_iff.1 hf).1
    simp at this
    omega
  rw [List.append_nil, List.append_nil]
  have el : effs.length = pres.length := by rw [g.len, hi]
  rw [← el, List.range_eq_range', stE_range 0 effs.length (by omega), List.drop_zero, ← envOf_eq, seg_true, ← hpOf_eq, el, hi]
  rw [objsOf_hp effs 0, ← g.objs, ← allObjs_eq, hh]
  rw [show ops.toArray.toList.drop i = rest from by simpa using hr]
  refine hk.moreE fun t x hx => ?_
  rw [g.cur] at hx
  exact growE_env (by have : dstsOf effs = effs.filterMap (·.d) := rfl; rw [← this, hds]; exact h2) hx
end

end Go.Ab
