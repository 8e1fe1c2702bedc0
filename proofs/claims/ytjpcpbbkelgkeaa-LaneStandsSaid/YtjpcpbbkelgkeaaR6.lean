/-
  Texts of the logic and of the layer, in one module (part 6).
-/
import Derived.Test.YtjpcpbbkelgkeaaR5
set_option linter.unusedVariables false
set_option linter.unusedSimpArgs false
namespace Go.Proofs.Ytjpcpbbkelgkeaa
open Go Go.Ab Go.Fl Go.Re Go.Ln Go.MapKept
attribute [local irreducible] VC AW FStep ACall PCall
set_option maxHeartbeats 4000000
theorem walk_asc (f : Flo) : Asc (walkP f) := union_asc (ofK_asc _ _ _) (ofK_asc _ _ _)
theorem walk_len (f : Flo) : (walkP f).length ≤ f.k.length := by
  have h : (walkP f).Nodup := (walk_asc f).imp (fun h => by omega)
  have := nodup_sub (l := walkP f) (m := (List.range f.k.length).map fun i : Nat => (i : Int)) h fun x hx => by
    obtain ⟨h1, h2, _⟩ := mem_walk.1 hx
    exact List.mem_map.2 ⟨x.toNat, List.mem_range.2 (by omega), by omega⟩
  simpa using this
abbrev okA (L : List (Int × List Int)) : List Value := L.map fun e => kI e.1
abbrev ovA (L : List (Int × List Int)) : List AV := L.map fun e => AV.rowE (ints e.2) 1
theorem ok_good (L : List (Int × List Int)) : ∀ q, q ∈ okA L → MapKept.IsKey (.int .i64) q := fun q hq => by
  obtain ⟨c, _, rfl⟩ := List.mem_map.1 hq; rfl
theorem ov_idf (L : List (Int × List Int)) : AV.idfL (ovA L) = true := by
  induction L with
  | nil => rfl
  | cons e L ih => exact ih
theorem offL_snoc (f : Flo) (W : List Int) (c : Int) : offL f (W ++ [c]) = if 0 ≤ offD f c.toNat then offL f W ++ [(c, offW f c.toNat)] else offL f W := by
  unfold offL
  by_cases h : 0 ≤ offD f c.toNat
  · have e : offE f c = some (c, offW f c.toNat) := by unfold offE; rw [if_pos h]
    rw [if_pos h, List.filterMap_append, List.filterMap_cons, e]; rfl
  · have e : offE f c = none := by unfold offE; rw [if_neg h]
    rw [if_neg h, List.filterMap_append, List.filterMap_cons, e]; exact List.append_nil _
theorem mem_offL {f : Flo} {W : List Int} {e : Int × List Int} : e ∈ offL f W ↔ e.1 ∈ W ∧ 0 ≤ offD f e.1.toNat ∧ e.2 = offW f e.1.toNat := by
  unfold offL
  rw [List.mem_filterMap]
  constructor
  · rintro ⟨c, hc, h⟩
    unfold offE at h
    split at h
    · rename_i h0; cases h; exact ⟨hc, h0, rfl⟩
    · cases h
  · rintro ⟨h1, h2, h3⟩
    exact ⟨e.1, h1, by unfold offE; rw [if_pos h2, ← h3]⟩
theorem offL_no {f : Flo} {W : List Int} {c : Int} (h : c ∉ W) : kI c ∉ okA (offL f W) := fun hm => by
  obtain ⟨e, he, q⟩ := List.mem_map.1 hm
  have := (mem_offL.1 he).1
  simp [kI] at q
  rw [q] at this; exact h this
theorem offL_nd {f : Flo} {W : List Int} (h : W.Nodup) : (okA (offL f W)).Nodup := by
  induction W with
  | nil => exact List.nodup_nil
  | cons c W ih =>
    rw [List.nodup_cons] at h
    unfold offL at ih ⊢
    rw [List.filterMap_cons]
    have hno := offL_no (f := f) h.1
    unfold offL at hno
    unfold offE
    by_cases q : 0 ≤ offD f c.toNat
    · rw [if_pos q]
      exact List.nodup_cons.2 ⟨hno, ih h.2⟩
    · rw [if_neg q]; exact ih h.2
theorem nats_app2 {pre Q : List Nat} {n c : Nat} : List.take (Q.length + 1) (List.drop pre.length (nats (pre ++ n :: Q))) ++ [[AV.i (c : Int)]] = nats ([] ++ n :: (Q ++ [c])) := by
  rw [show nats (pre ++ n :: Q) = nats pre ++ nats (n :: Q) by simp, List.drop_left' (by simp), List.take_of_length_le (by simp)]; simp
theorem mapIS : Try.prog.underlying 65 = some (.map 3 22) := by kernel_rfl
theorem spread_inv {N : Nat} {mv : MV} {ok : Nat → Bool} (hmv : ∀ c d n, c < N → mv c d = some n → n < N) (l : List Nat) (hl : ∀ c, c ∈ l → c < N) : HInv N (spreadH N mv ok l) := by
  obtain ⟨g1, g2, _⟩ := start_srch (N := N) (mv := mv) (ok := ok) l hl
  have h0 : HInv N (fromH l (startH N ok)) := fromH_inv (mv := mv) _ _ rfl hl
  have e0 : (fromH l (startH N ok)).1 = fromM l (startS N ok) := fromH_1 _ _
  rw [← e0] at g1
  unfold spreadH
  generalize fromH l (startH N ok) = x at h0 g1
  clear g2 e0
  suffices ∀ k (x : SH), HInv N x → Srch N mv ok (· ∈ l) x.1 → HInv N (bfsH mv k x) from this N x h0 g1
  intro k
  induction k with
  | zero => intro x h _; exact h
  | succ k ih =>
    intro x h s
    unfold bfsH
    cases hq : x.1.q with
    | nil => exact h
    | cons c r' =>
      simp only
      have m0 := s.pop hq
      have key : ∀ (j d : Nat) (y : SH), d + j = 6 → Mid N mv ok (· ∈ l) c d y.1 → HInv N y → HInv N ((List.range' d j).foldl (tryH mv c) y) ∧ Mid N mv ok (· ∈ l) c 6 ((List.range' d j).foldl (tryH mv c) y).1 := by
        intro j
        induction j with
        | zero =>
          intro d y hd m hy
          obtain rfl : d = 6 := by omega
          exact ⟨hy, m⟩
        | succ j ihj =>
          intro d y hd m hy
          rw [List.range'_succ, List.foldl_cons]
          refine ihj (d + 1) _ (by omega) (by rw [tryH_1]; exact m.next hmv (by omega)) ?_
          unfold tryH
          cases hm : mv c d with
          | none => exact hy
          | some n =>
            have hn := hmv c d n m.hc hm
            exact hy.reach hn m.inv.lu (by have := m.h0; omega) (fun ho => ((m.inv.opn n hn).1 ho).2)
      obtain ⟨k1, k2⟩ := key 6 0 (⟨x.1.op, x.1.out, r'⟩, x.2) rfl m0 ⟨h.nd, h.lt, h.mem⟩
      have e6 : expandH mv c (⟨x.1.op, x.1.out, r'⟩, x.2) = (List.range' 0 6).foldl (tryH mv c) (⟨x.1.op, x.1.out, r'⟩, x.2) := by unfold expandH; rw [List.range_eq_range']
      rw [e6]
      exact ih _ k1 k2.end
theorem bv_wall {f : Flo} (g : Fine f) {c d n : Nat} (h : bvN f c d = some n) : f.k.getD n 0 ≠ 0 := by
  have h1 := (next_some g ((mvN_some g).1 ((mv_bv g).2 h))).2.2.2.2.1
  unfold kindI at h1
  rwa [Int.toNat_natCast] at h1
theorem offs_c (s : Sit) (g : Fine s.fl) : ACall Try.prog 25 [.agg (sitA s)] [] (.mp 0) [.mapO (okA (offL s.fl (walkP s.fl))) (ovA (offL s.fl (walkP s.fl)))] := by
  have hN := g.le
  have hb := g.bounds
  have hkl : (ints s.fl.k).length = s.fl.k.length := ints_length _
  have hWa := walk_asc s.fl
  have hWn : (walkP s.fl).Nodup := hWa.imp (fun h => by omega)
  have hWl := walk_len s.fl
  have cw := walkOf_c s (by omega)
  have hWr : ∀ x, x ∈ walkP s.fl → 0 ≤ x ∧ x < s.fl.k.length := fun x hx => by obtain ⟨h1, h2, _⟩ := mem_walk.1 hx; exact ⟨h1, h2⟩
  have hsrc : ∀ c, c ∈ srcF s.fl → c < s.fl.k.length := srcK_lt (Nat.le_refl _)
  have hinv := spread_inv (ok := okN s.fl) (bvN_lt g) (srcF s.fl) hsrc
  have hfar := (off_far g).1
  have hole := off_le g
  have holen := (off_far g).2
  have hF1 : (spreadH s.fl.k.length (bvN s.fl) (okN s.fl) (srcF s.fl)).1 = spreadM s.fl.k.length (bvN s.fl) (okN s.fl) (srcF s.fl) := spreadH_1 _ _ _ _
  have hFo : (spreadH s.fl.k.length (bvN s.fl) (okN s.fl) (srcF s.fl)).1.out = offO s.fl := by rw [hF1]; rfl
  have hF0 : spreadH s.fl.k.length (bvN s.fl) (okN s.fl) (srcF s.fl) = bfsH (bvN s.fl) s.fl.k.length (fromH (srcF s.fl) (startH s.fl.k.length (okN s.fl))) := rfl
  generalize spreadH s.fl.k.length (bvN s.fl) (okN s.fl) (srcF s.fl) = F at *
  clear hF1
  refine acall T Try.func25 rfl rfl rfl rfl ?_
  repeat' (first|refine wS ?_|refine wB ?_|refine wK ?_|refine wR ?_|refine wE ?_|refine wT ?_|refine wU ?_|(refine wC rfl (fun hb=>?_) (fun hb=>?_)<;>(first|subst hb|((try simp only [nm] at hb);try (exfalso;omega))))|(refine rg 0 ?_;refine vc_n (by exact fs_box rfl rfl) rfl ?_;refine aV ?_)|(refine rg 1 ?_;refine lV T ?_;refine vV (by exact kC (cw)) ?_;refine aV ?_)|(refine rg 2 ?_;refine vc_n (by exact fs_mapNew) rfl ?_;refine aV ?_)|(refine rg 3 ?_;refine aV ?_)|refine nZ ?_)
  refine aw_own 5 1 rfl (by decide) ?_
  dsimp only [ln1, ln2, List.append_nil, ln4, ln5, ln6, ln7, ln8, ln9, putAt, putd, allObjs, argEnv, un_v, un_ptr, un_ep, un_pr, un_sl, un_mp, un_row, un_agg, un_tup, un_clo, Nat.zero_add, lnb, Nat.reduceAdd, lnc, lnd]
  repeat' (first|refine wS ?_|refine wB ?_|refine wK ?_|refine wR ?_|refine wE ?_|refine wT ?_|refine wU ?_|(refine wC rfl (fun hb=>?_) (fun hb=>?_)<;>(first|subst hb|((try simp only [nm] at hb);try (exfalso;omega))))|(refine rg 4 ?_;refine fV T ?_;refine fV T ?_;refine lV T ?_;(first|refine qV T ?_|refine vV (by exact fs_lenNil T rfl rfl) ?_);refine mV ?_)|refine nZ ?_)
  -- the cells that do not belong to the walk
  refine aw_loop (X := {j : Nat // j ≤ s.fl.k.length}) (fun j => [(1, .ptr 0 0), (3, .rowE (ints (walkP s.fl)) 1), (4, .mp 1), (5, .sl 2 0 (srcK s.fl (walkP s.fl) j.1).length 1), (25, .rowE (ints s.fl.k) 1), (26, .i s.fl.k.length), (27, .i (j.1 : Int))])
    (fun j => [.cells (sitA s), .mapO (dkA (srcK s.fl (walkP s.fl) j.1)) (z0 (srcK s.fl (walkP s.fl) j.1)), .arr (nats (srcK s.fl (walkP s.fl) j.1)) 1]) (fun j => s.fl.k.length - j.1) ⟨0, Nat.zero_le _⟩ ⟨[0, 1, 2], rfl, ⟨rfl, rfl, rfl, rfl, rfl, congrArg (fun n : Nat => some (AV.i n)) hkl, rfl, trivial⟩, ⟨.inr rfl, .inr (sub_map rfl rfl rfl (z0_idf _)), .inr (sub_arr rfl rfl (nats_idf _)), trivial⟩, by decide, fun i hi => absurd hi (Nat.not_lt_zero _)⟩ ?_
  rintro ⟨j, hj⟩
  dsimp only
  by_cases hlt : j < s.fl.k.length
  · have hs := srcK_succ s.fl (walkP s.fl) j
    have hn := srcK_len s.fl (walkP s.fl) j
    have hno : kI (j : Int) ∉ dkA (srcK s.fl (walkP s.fl) j) := dk_no fun c hc hm => by have := (mem_srcK.1 hm).1; omega
    have q1 : (ints s.fl.k)[(j : Int).toNat]? = some [AV.i (s.fl.k.getD j 0)] := ints_gI (l := s.fl.k) (j := (j : Int)) 0 hlt rfl
    have ch := rhas_c (walkP s.fl) (j : Int) hWa (by omega)
    unfold srcB at hs
    generalize hT : srcK s.fl (walkP s.fl) (j + 1) = T1 at *
    generalize srcK s.fl (walkP s.fl) j = T0 at *
    generalize s.fl.k.getD j 0 = y at *
    by_cases hy : y = 0
    · subst hy
      rw [decide_eq_false (by simp), Bool.false_and, if_neg (by decide)] at hs
      repeat' (first|refine wS ?_|refine wB ?_|refine wK ?_|refine wR ?_|refine wE ?_|refine wT ?_|refine wU ?_|(refine wC rfl (fun hb=>?_) (fun hb=>?_)<;>(first|subst hb|((try simp only [nm] at hb);try (exfalso;omega))))|(refine rg 5 ?_;refine vV (by first|exact fs_lssT rfl rfl (by omega)|exact fs_lss rfl rfl) ?_)|(refine rg 6 ?_;refine mV ?_;refine vV (by exact fs_indexRowE T rfl rfl rfl rfl rfl (by omega) (ints_len _) q1) ?_;refine lV T ?_;refine aV ?_;refine aV ?_)|(refine rg 7 ?_;(all_goals (refine mV ?_;refine vV (by first|exact fs_neqF rfl rfl rfl|exact fs_neq rfl rfl) ?_;refine mV ?_));(all_goals first|(refine gK ?_)|(refine vc_split rfl rfl (fun hb=>?_) (fun hb=>?_)<;>(first|subst hb|(rw [hb];(try simp only [nm] at hb);try ((exfalso;omega);done)))));(all_goals first|(refine gT ?_;(refine mV ?_);refine gT ?_;(refine mV ?_);refine gT ?_;(refine vV (by exact kC (ch)) ?_);refine gT ?_;(refine vV (by exact fs_not rfl) ?_))|(iterate 4 first|refine gF ?_|refine gU ?_));(all_goals (first|refine pV ?_|refine vV (by exact fs_pick rfl rfl rfl) ?_)))|(refine rg 10 ?_;refine vV (by first|exact fs_addr rfl rfl (by omega) (by omega)|exact fs_add rfl rfl) ?_;refine mV ?_)|refine nZ ?_)
      all_goals exact ⟨⟨j + 1, hlt⟩, by dsimp only; omega, [0, 1, 2], rfl, ⟨rfl, rfl, rfl, by dsimp only; rw [hT, hs]; rfl, rfl, rfl, rfl, trivial⟩, ⟨.inr rfl, .inr (sub_map rfl (by dsimp only; rw [hT, hs]) (by dsimp only; rw [hT, hs]) (z0_idf _)), .inr (sub_arr rfl (by dsimp only; rw [hT, hs]) (nats_idf _)), trivial⟩, by decide, fun i hi => absurd hi (Nat.not_lt_zero _)⟩
    · rw [decide_eq_true hy, Bool.true_and] at hs
      by_cases hm : (j : Int) ∈ walkP s.fl
      · rw [decide_eq_true hm] at hs ch
        rw [if_neg (by decide)] at hs
        repeat' (first|refine wS ?_|refine wB ?_|refine wK ?_|refine wR ?_|refine wE ?_|refine wT ?_|refine wU ?_|(refine wC rfl (fun hb=>?_) (fun hb=>?_)<;>(first|subst hb|((try simp only [nm] at hb);try (exfalso;omega))))|(refine rg 5 ?_;refine vV (by first|exact fs_lssT rfl rfl (by omega)|exact fs_lss rfl rfl) ?_)|(refine rg 6 ?_;refine mV ?_;refine vV (by exact fs_indexRowE T rfl rfl rfl rfl rfl (by omega) (ints_len _) q1) ?_;refine lV T ?_;refine aV ?_;refine aV ?_)|(refine rg 7 ?_;(all_goals (refine mV ?_;refine vV (by first|exact fs_neqT rfl rfl hy|exact fs_neq rfl rfl) ?_;refine mV ?_));(all_goals first|(refine gK ?_)|(refine vc_split rfl rfl (fun hb=>?_) (fun hb=>?_)<;>(first|subst hb|(rw [hb];(try simp only [nm] at hb);try ((exfalso;omega);done)))));(all_goals first|(refine gT ?_;(refine mV ?_);refine gT ?_;(refine mV ?_);refine gT ?_;(refine vV (by exact kC (ch)) ?_);refine gT ?_;(refine vV (by exact fs_not rfl) ?_))|(iterate 4 first|refine gF ?_|refine gU ?_));(all_goals (first|refine pV ?_|refine vV (by exact fs_pick rfl rfl rfl) ?_)))|(refine rg 10 ?_;refine vV (by first|exact fs_addr rfl rfl (by omega) (by omega)|exact fs_add rfl rfl) ?_;refine mV ?_)|refine nZ ?_)
        all_goals exact ⟨⟨j + 1, hlt⟩, by dsimp only; omega, [0, 1, 2], rfl, ⟨rfl, rfl, rfl, by dsimp only; rw [hT, hs]; rfl, rfl, rfl, rfl, trivial⟩, ⟨.inr rfl, .inr (sub_map rfl (by dsimp only; rw [hT, hs]) (by dsimp only; rw [hT, hs]) (z0_idf _)), .inr (sub_arr rfl (by dsimp only; rw [hT, hs]) (nats_idf _)), trivial⟩, by decide, fun i hi => absurd hi (Nat.not_lt_zero _)⟩
      · rw [decide_eq_false hm] at hs ch
        rw [if_pos (by decide)] at hs
        repeat' (first|refine wS ?_|refine wB ?_|refine wK ?_|refine wR ?_|refine wE ?_|refine wT ?_|refine wU ?_|(refine wC rfl (fun hb=>?_) (fun hb=>?_)<;>(first|subst hb|((try simp only [nm] at hb);try (exfalso;omega))))|(refine rg 5 ?_;refine vV (by first|exact fs_lssT rfl rfl (by omega)|exact fs_lss rfl rfl) ?_)|(refine rg 6 ?_;refine mV ?_;refine vV (by exact fs_indexRowE T rfl rfl rfl rfl rfl (by omega) (ints_len _) q1) ?_;refine lV T ?_;refine aV ?_;refine aV ?_)|(refine rg 7 ?_;(all_goals (refine mV ?_;refine vV (by first|exact fs_neqT rfl rfl hy|exact fs_neq rfl rfl) ?_;refine mV ?_));(all_goals first|(refine gK ?_)|(refine vc_split rfl rfl (fun hb=>?_) (fun hb=>?_)<;>(first|subst hb|(rw [hb];(try simp only [nm] at hb);try ((exfalso;omega);done)))));(all_goals first|(refine gT ?_;(refine mV ?_);refine gT ?_;(refine mV ?_);refine gT ?_;(refine vV (by exact kC (ch)) ?_);refine gT ?_;(refine vV (by exact fs_not rfl) ?_))|(iterate 4 first|refine gF ?_|refine gU ?_));(all_goals (first|refine pV ?_|refine vV (by exact fs_pick rfl rfl rfl) ?_)))|(refine rg 8 ?_;refine mV ?_;refine mV ?_;refine vc_mapNew mapII intK rfl rfl (isv_i _) rfl rfl (dk_good _) (good_i _) hno ?_)|(refine rg 9 ?_;refine mV ?_;refine mV ?_;refine vc_n (by exact fs_buildSlice T rfl rfl (by decide) (by decide) rfl rfl rfl) rfl ?_;refine vc_append T rfl rfl rfl rfl rfl rfl (by simp) (Elems.whole rfl rfl) rfl (by simp;omega) (by simp;omega) rfl ?_;refine aV ?_)|(refine rg 10 ?_;refine vV (by first|exact fs_addr rfl rfl (by omega) (by omega)|exact fs_add rfl rfl) ?_;refine mV ?_)|refine nZ ?_)
        all_goals exact ⟨⟨j + 1, hlt⟩, by dsimp only; omega, [0, 1, 4], rfl, ⟨rfl, rfl, rfl, by dsimp only; rw [hT, hs, List.length_append]; rfl, rfl, rfl, rfl, trivial⟩, ⟨.inr rfl, .inr (sub_map rfl (by dsimp only; rw [hT, hs]; simp) (by dsimp only; rw [hT, hs]; simp) (z0_idf _)), .inr (sub_arr rfl (by dsimp only; rw [hT, hs]; simp; exact List.take_of_length_le (by simp)) (nats_idf _)), trivial⟩, by decide, fun i hi => absurd hi (Nat.not_lt_zero _)⟩
  obtain rfl : j = s.fl.k.length := by omega
  repeat' (first|refine wS ?_|refine wB ?_|refine wK ?_|refine wR ?_|refine wE ?_|refine wT ?_|refine wU ?_|(refine wC rfl (fun hb=>?_) (fun hb=>?_)<;>(first|subst hb|((try simp only [nm] at hb);try (exfalso;omega))))|(refine rg 5 ?_;refine vV (by first|exact fs_lssF rfl rfl (by omega)|exact fs_lss rfl rfl) ?_)|refine nZ ?_)
  -- the search
  have hok : ∀ c, c ∈ srcF s.fl → c < s.fl.k.length ∧ okN s.fl c = true := fun c hc => by
    obtain ⟨h1, h2, _⟩ := src_iff.1 hc
    exact ⟨h1, by unfold okN; exact decide_eq_true h2⟩
  have hsnd := srcK_nd s.fl (walkP s.fl) s.fl.k.length
  obtain ⟨g1, g2, g3⟩ := start_srch (N := s.fl.k.length) (mv := bvN s.fl) (ok := okN s.fl) (srcF s.fl) hsrc
  have hi0 := fromH_inv (N := s.fl.k.length) (mv := bvN s.fl) (ok := okN s.fl) _ (srcF s.fl) rfl hsrc
  have e0 : (fromH (srcF s.fl) (startH s.fl.k.length (okN s.fl))).1 = fromM (srcF s.fl) (startS s.fl.k.length (okN s.fl)) := fromH_1 _ _
  rw [← e0] at g1 g2 g3
  obtain ⟨l1, l2⟩ := from_list (N := s.fl.k.length) (mv := bvN s.fl) (ok := okN s.fl) _ (srcF s.fl) rfl hok hsnd
  have hz := z0_dv (from_zero (N := s.fl.k.length) (mv := bvN s.fl) (ok := okN s.fl) hok hsnd)
  generalize fromH (srcF s.fl) (startH s.fl.k.length (okN s.fl)) = x0 at *
  refine aw_loop (X := {x : SH × List Nat × Nat // Srch s.fl.k.length (bvN s.fl) (okN s.fl) (· ∈ srcF s.fl) x.1.1 ∧ HInv s.fl.k.length x.1 ∧ roomS x.1.1 ≤ x.2.2 ∧ x.2.2 ≤ s.fl.k.length ∧ bfsH (bvN s.fl) x.2.2 x.1 = F ∧ ∀ k, k < s.fl.k.length → x.1.1.out.getD k (-1) + x.2.2 ≤ s.fl.k.length})
    (fun x => [(1, .ptr 0 0), (3, .rowE (ints (walkP s.fl)) 1), (4, .mp 1), (5, .sl 2 x.1.2.1.length x.1.1.1.q.length 1)])
    (fun x => [.cells (sitA s), .mapO (dkA x.1.1.2) (dvA x.1.1.1.out x.1.1.2), .arr (nats (x.1.2.1 ++ x.1.1.1.q)) 1]) (fun x => x.1.2.2) ⟨(x0, [], s.fl.k.length), g1, hi0, g2, Nat.le_refl _, hF0.symm, fun k hk => by have := g3 k hk; dsimp only; omega⟩
    ⟨[0, 1, 2], rfl, ⟨rfl, rfl, rfl, by dsimp only; rw [l2]; rfl, trivial⟩, ⟨.inr rfl, .inr (sub_map rfl (by dsimp only; rw [l1]) (by dsimp only; rw [l1]; exact hz.symm) (dv_idf _ _)), .inr (sub_arr rfl (by dsimp only; rw [l2]; rfl) (nats_idf _)), trivial⟩, by decide, fun i hi => absurd hi (Nat.not_lt_zero _)⟩ ?_
  clear g1 g2 g3 l1 l2 hz hi0 e0
  rintro ⟨⟨⟨⟨op, out, q⟩, hist⟩, pre, fuel⟩, h1, hh1, h2, h3, h4, h5⟩
  simp only at h1 h2 h3 h4 h5
  dsimp only
  have lu : out.length = s.fl.k.length := h1.inv.lu
  cases q with
  | nil =>
    have e : F = (⟨op, out, []⟩, hist) := by rw [← h4]; cases fuel <;> rfl
    rw [e] at hFo hinv
    dsimp only at hFo hinv
    subst hFo
    have hnd := hinv.nd
    have hmem := hinv.mem
    clear h1 hh1 h2 h3 h4 h5 e
    repeat' (first|refine wS ?_|refine wB ?_|refine wK ?_|refine wR ?_|refine wE ?_|refine wT ?_|refine wU ?_|(refine wC rfl (fun hb=>?_) (fun hb=>?_)<;>(first|subst hb|((try simp only [nm] at hb);try (exfalso;omega))))|(refine rg 11 ?_;refine mV ?_;(first|refine qV T ?_|refine vV (by exact fs_lenNil T rfl rfl) ?_);refine vV (by exact fs_gtr rfl rfl) ?_)|(refine rg 22 ?_;refine vc_n (by exact fs_mapNew) rfl ?_;refine aV ?_)|(refine rg 23 ?_;refine mV ?_;(first|refine qV T ?_|refine vV (by exact fs_lenNil T rfl rfl) ?_);refine mV ?_)|refine nZ ?_)
    have hwl : (ints (walkP s.fl)).length = (walkP s.fl).length := ints_length _
    refine aw_loop (X := {j : Nat // j ≤ (walkP s.fl).length}) (fun j => [(1, .ptr 0 0), (4, .mp 1), (13, .mp 2), (95, .rowE (ints (walkP s.fl)) 1), (96, .i (walkP s.fl).length), (97, .i (j.1 : Int))])
      (fun j => [.cells (sitA s), .mapO (dkA hist) (dvA (offO s.fl) hist), .mapO (okA (offL s.fl ((walkP s.fl).take j.1))) (ovA (offL s.fl ((walkP s.fl).take j.1)))]) (fun j => (walkP s.fl).length - j.1) ⟨0, Nat.zero_le _⟩ ⟨[0, 1, 3], rfl, ⟨rfl, rfl, rfl, rfl, congrArg (fun n : Nat => some (AV.i n)) hwl, rfl, trivial⟩, ⟨.inr rfl, .inr (sub_map rfl rfl rfl (dv_idf _ _)), .inr (sub_map rfl rfl rfl (ov_idf _)), trivial⟩, by decide, fun i hi => absurd hi (Nat.not_lt_zero _)⟩ ?_
    rintro ⟨j, hj⟩
    dsimp only
    by_cases hlt : j < (walkP s.fl).length
    · have htk := List.take_succ_eq_append_getElem hlt
      have q1 : (ints (walkP s.fl))[(j : Int).toNat]? = some [AV.i (walkP s.fl)[j]] := by rw [Int.toNat_natCast]; exact ints_get hlt
      have hcr := hWr _ (List.getElem_mem hlt)
      have hcno : (walkP s.fl)[j] ∉ (walkP s.fl).take j := fun hm => by
        obtain ⟨i, hi, he⟩ := List.mem_iff_getElem.1 hm
        rw [List.getElem_take] at he
        rw [List.length_take] at hi
        have := (List.getElem_inj hWn).1 he
        omega
      generalize (walkP s.fl)[j] = x at *
      obtain ⟨c, rfl⟩ := Int.eq_ofNat_of_zero_le hcr.1
      have hc : c < s.fl.k.length := by omega
      have hos := offL_snoc s.fl ((walkP s.fl).take j) (c : Int)
      rw [Int.toNat_natCast] at hos
      have hno := offL_no (f := s.fl) hcno
      by_cases hkn : kn hist (c : Int) = true
      · have hcm : c ∈ hist := by unfold kn at hkn; simpa using (of_decide_eq_true hkn).2
        have h0 := (hmem c hc).1 hcm
        rw [if_pos h0] at hos
        repeat' (first|refine wS ?_|refine wB ?_|refine wK ?_|refine wR ?_|refine wE ?_|refine wT ?_|refine wU ?_|(refine wC rfl (fun hb=>?_) (fun hb=>?_)<;>(first|subst hb|((try simp only [nm] at hb);try (exfalso;omega))))|(refine rg 24 ?_;refine vV (by first|exact fs_lssT rfl rfl (by omega)|exact fs_lss rfl rfl) ?_)|(refine rg 25 ?_;refine vV (by exact fs_indexRowE T rfl rfl rfl rfl rfl (by omega) (ints_len _) q1) ?_;refine lV T ?_;refine aV ?_)|(refine rg 26 ?_;refine mV ?_;refine mV ?_;refine vV (by exact fs_dkTO (c := c) hnd hcm rfl rfl rfl) ?_;refine mV ?_;refine xV ?_;refine xV ?_;refine aV ?_;refine aV ?_)|(refine rg 27 ?_;refine mV ?_;refine vV (by exact fs_not rfl) ?_)|(refine rg 28 ?_;refine mV ?_;refine vc_n (by exact fs_buildSlice T rfl rfl (by decide) (by decide) rfl rfl rfl) rfl ?_;refine aV ?_)|(refine rg 29 ?_;refine mV ?_;refine aV ?_)|refine nZ ?_)
        refine aw_loop (X := {p : Nat × List Int × Nat // p.1 < s.fl.k.length ∧ offD s.fl p.1 = p.2.2 ∧ p.1 ∈ hist ∧ p.2.1 ++ wayT s.fl (offO s.fl) p.2.2 p.1 = offW s.fl c}) (fun p => [(1, .ptr 0 0), (4, .mp 1), (13, .mp 2), (15, .i (c : Int)), (18, .sl 3 0 p.1.2.1.length 1), (19, .i (p.1.1 : Int)), (95, .rowE (ints (walkP s.fl)) 1), (96, .i (walkP s.fl).length), (97, .i (j : Int))])
          (fun p => [.cells (sitA s), .mapO (dkA hist) (dvA (offO s.fl) hist), .mapO (okA (offL s.fl ((walkP s.fl).take j))) (ovA (offL s.fl ((walkP s.fl).take j))), .arr (ints p.1.2.1) 1]) (fun p => p.1.2.2) ⟨(c, [(c : Int)], (offD s.fl c).toNat), hc, (Int.toNat_of_nonneg h0).symm, hcm, rfl⟩
          ⟨[0, 1, 2, 3], rfl, ⟨rfl, rfl, rfl, rfl, rfl, rfl, rfl, rfl, rfl, trivial⟩, ⟨.inr rfl, .inr (sub_map rfl rfl rfl (dv_idf _ _)), .inr (sub_map rfl rfl rfl (ov_idf _)), .inr (sub_arr rfl rfl (ints_idf _)), trivial⟩, by decide, fun i hi => absurd hi (Nat.not_lt_zero _)⟩ ?_
        rintro ⟨⟨x, d, n⟩, hx, hxd, hxm, hway⟩
        dsimp only at hx hxd hxm hway
        dsimp only
        have hdl : d.length + n = (offD s.fl c).toNat + 1 := by have := congrArg List.length hway; rw [List.length_append, wayT_len, offW_len] at this; exact this
        have hcl := hole c hc
        have hge := (hmem x hx).1 hxm
        cases n with
        | zero =>
          have hde : d = offW s.fl c := by rw [← hway]; simp [wayT]
          subst hde
          have hxd : (offO s.fl).getD x (-1) = 0 := hxd
          repeat' (first|refine wS ?_|refine wB ?_|refine wK ?_|refine wR ?_|refine wE ?_|refine wT ?_|refine wU ?_|(refine wC rfl (fun hb=>?_) (fun hb=>?_)<;>(first|subst hb|((try simp only [nm] at hb);try (exfalso;omega))))|(refine rg 30 ?_;refine mV ?_;refine mV ?_;refine vV (by exact fs_dist1O hnd hxm rfl rfl rfl) ?_;refine vV (by exact fs_gtr rfl rfl) ?_)|refine nZ ?_)
          refine aw_frz 18 rfl rfl (by simp) (idfL_flat (ints_idf _)) ?_
          repeat' (first|refine wS ?_|refine wB ?_|refine wK ?_|refine wR ?_|refine wE ?_|refine wT ?_|refine wU ?_|(refine wC rfl (fun hb=>?_) (fun hb=>?_)<;>(first|subst hb|((try simp only [nm] at hb);try (exfalso;omega))))|(refine rg 33 ?_;refine mV ?_;refine mV ?_;refine mV ?_;refine vc_mapNew mapIS intK rfl rfl (isv_i _) rfl rfl (ok_good _) (good_i _) hno ?_)|(refine rg 34 ?_;refine vV (by first|exact fs_addr rfl rfl (by omega) (by omega)|exact fs_add rfl rfl) ?_;refine mV ?_)|refine nZ ?_)
          all_goals exact ⟨⟨j + 1, hlt⟩, by dsimp only; omega, [0, 1, 2], rfl, ⟨rfl, rfl, rfl, rfl, rfl, rfl, trivial⟩, ⟨.inr rfl, .inr (sub_map rfl rfl rfl (dv_idf _ _)), .inr (sub_map rfl (by dsimp only; rw [htk, hos]; simp) (by dsimp only; rw [htk, hos]; simp) (ov_idf _)), trivial⟩, by decide, fun i hi => absurd hi (Nat.not_lt_zero _)⟩
        | succ n =>
          have hxd : (offO s.fl).getD x (-1) = ((n + 1 : Nat) : Int) := hxd
          obtain ⟨y1, y2, _⟩ := down_near g hfar (c := x) hx (by show 0 < (offO s.fl).getD x (-1); omega)
          have hdw := down_c s g (out := offO s.fl) hnd hmem hole hx hxm
          have hym : downN s.fl (offO s.fl) x ∈ hist := (hmem _ y1).2 (by rw [y2]; omega)
          have hwt : wayT s.fl (offO s.fl) (n + 1) x = (downN s.fl (offO s.fl) x : Int) :: wayT s.fl (offO s.fl) n (downN s.fl (offO s.fl) x) := rfl
          rw [hwt] at hway
          generalize downN s.fl (offO s.fl) x = y at *
          repeat' (first|refine wS ?_|refine wB ?_|refine wK ?_|refine wR ?_|refine wE ?_|refine wT ?_|refine wU ?_|(refine wC rfl (fun hb=>?_) (fun hb=>?_)<;>(first|subst hb|((try simp only [nm] at hb);try (exfalso;omega))))|(refine rg 30 ?_;refine mV ?_;refine mV ?_;refine vV (by exact fs_dist1O hnd hxm rfl rfl rfl) ?_;refine vV (by exact fs_gtr rfl rfl) ?_)|(refine rg 32 ?_;(all_goals (refine lV T ?_;refine mV ?_;refine mV ?_));(all_goals first|(refine vV (by first|exact fs_callb0 rfl rfl hdw (.cons (.agg (by repeat (first|exact .nil|exact .v _|exact .row _ _ _|refine .cons ?_ ?_|refine .agg ?_))) (.cons (.mp rfl (dv_view _ _)) (.cons (.v _) .nil))) rfl rfl) ?_)|(refine vc_n (by first|exact fs_callb0 rfl rfl hdw (.cons (.agg (by repeat (first|exact .nil|exact .v _|exact .row _ _ _|refine .cons ?_ ?_|refine .agg ?_))) (.cons (.mp rfl (dv_view _ _)) (.cons (.v _) .nil))) rfl rfl) rfl ?_));(all_goals (refine aV ?_)))|(refine rg 31 ?_;refine mV ?_;refine mV ?_;refine vc_n (by exact fs_buildSlice T rfl rfl (by decide) (by decide) rfl rfl rfl) rfl ?_;refine vc_append T rfl rfl rfl rfl rfl rfl (by simp) (Elems.whole rfl rfl) rfl (by simp;omega) (by simp;omega) rfl ?_;refine aV ?_)|refine nZ ?_)
          all_goals exact ⟨⟨(y, d ++ [(y : Int)], n), y1, by dsimp only; show (offO s.fl).getD y (-1) = _; rw [y2, hxd]; omega, hym, by dsimp only; rw [List.append_assoc]; exact hway⟩, by dsimp only; omega, [0, 1, 2, 5], rfl, ⟨rfl, rfl, rfl, rfl, by dsimp only; rw [List.length_append]; rfl, rfl, rfl, rfl, rfl, trivial⟩, ⟨.inr rfl, .inr (sub_map rfl rfl rfl (dv_idf _ _)), .inr (sub_map rfl rfl rfl (ov_idf _)), .inr (sub_arr rfl ints_app (ints_idf _)), trivial⟩, by decide, fun i hi => absurd hi (Nat.not_lt_zero _)⟩
      · have hkn : kn hist (c : Int) = false := by simpa using hkn
        have hcm : c ∉ hist := by unfold kn at hkn; simpa using of_decide_eq_false hkn
        have hci : kI (c : Int) ∉ dkA hist := dk_no fun c' e hm' => hcm (by rw [show c = c' by omega]; exact hm')
        rw [if_neg (fun q => hcm ((hmem c hc).2 q))] at hos
        repeat' (first|refine wS ?_|refine wB ?_|refine wK ?_|refine wR ?_|refine wE ?_|refine wT ?_|refine wU ?_|(refine wC rfl (fun hb=>?_) (fun hb=>?_)<;>(first|subst hb|((try simp only [nm] at hb);try (exfalso;omega))))|(refine rg 24 ?_;refine vV (by first|exact fs_lssT rfl rfl (by omega)|exact fs_lss rfl rfl) ?_)|(refine rg 25 ?_;refine vV (by exact fs_indexRowE T rfl rfl rfl rfl rfl (by omega) (ints_len _) q1) ?_;refine lV T ?_;refine aV ?_)|(refine rg 26 ?_;refine mV ?_;refine mV ?_;refine vV (by exact fs_dkFO (c := (c : Int)) hci rfl rfl rfl) ?_;refine mV ?_;refine xV ?_;refine xV ?_;refine aV ?_;refine aV ?_)|(refine rg 27 ?_;refine mV ?_;refine vV (by exact fs_not rfl) ?_)|(refine rg 34 ?_;refine vV (by first|exact fs_addr rfl rfl (by omega) (by omega)|exact fs_add rfl rfl) ?_;refine mV ?_)|refine nZ ?_)
        all_goals exact ⟨⟨j + 1, hlt⟩, by dsimp only; omega, [0, 1, 2], rfl, ⟨rfl, rfl, rfl, rfl, rfl, rfl, trivial⟩, ⟨.inr rfl, .inr (sub_map rfl rfl rfl (dv_idf _ _)), .inr (sub_map rfl (by dsimp only; rw [htk, hos]) (by dsimp only; rw [htk, hos]) (ov_idf _)), trivial⟩, by decide, fun i hi => absurd hi (Nat.not_lt_zero _)⟩
    · obtain rfl : j = (walkP s.fl).length := by omega
      rw [List.take_length]
      repeat' (first|refine wS ?_|refine wB ?_|refine wK ?_|refine wR ?_|refine wE ?_|refine wT ?_|refine wU ?_|(refine wC rfl (fun hb=>?_) (fun hb=>?_)<;>(first|subst hb|((try simp only [nm] at hb);try (exfalso;omega))))|(refine rg 24 ?_;refine vV (by first|exact fs_lssF rfl rfl (by omega)|exact fs_lss rfl rfl) ?_)|(refine rg 35 ?_;refine mV ?_;refine aV ?_)|refine nZ ?_)
      all_goals exact ⟨.inl rfl, [2], _, rfl, rfl, rfl, ⟨.inr (sub_map rfl rfl rfl (ov_idf _)), trivial⟩, by decide, fun i hi => absurd hi (Nat.not_lt_zero _)⟩
  | cons c r' =>
    have hcr : (c :: r').length = r'.length + 1 := rfl
    have hrm : roomS ⟨op, out, c :: r'⟩ = roomS ⟨op, out, r'⟩ + 1 := by unfold roomS; simp; omega
    obtain ⟨k, rfl⟩ : ∃ k, fuel = k + 1 := ⟨fuel - 1, by omega⟩
    have m0 := h1.pop rfl
    have hc := m0.hc
    repeat' (first|refine wS ?_|refine wB ?_|refine wK ?_|refine wR ?_|refine wE ?_|refine wT ?_|refine wU ?_|(refine wC rfl (fun hb=>?_) (fun hb=>?_)<;>(first|subst hb|((try simp only [nm] at hb);try (exfalso;omega))))|(refine rg 11 ?_;refine mV ?_;(first|refine qV T ?_|refine vV (by exact fs_lenNil T rfl rfl) ?_);refine vV (by exact fs_gtr rfl rfl) ?_)|(refine rg 13 ?_;refine mV ?_)|refine nZ ?_)
    refine aw_loop (X := {x : SH × List Nat × Nat // Mid s.fl.k.length (bvN s.fl) (okN s.fl) (· ∈ srcF s.fl) c x.2.2 x.1.1 ∧ HInv s.fl.k.length x.1 ∧ x.2.2 ≤ 6 ∧ (List.range' x.2.2 (6 - x.2.2)).foldl (tryH (bvN s.fl) c) x.1 = expandH (bvN s.fl) c (⟨op, out, r'⟩, hist) ∧ roomS x.1.1 ≤ k ∧ (∀ y, y < s.fl.k.length → x.1.1.out.getD y (-1) ≤ s.fl.k.length - k) ∧ x.1.1.out.getD c (-1) + 1 ≤ s.fl.k.length - k})
      (fun x => [(1, .ptr 0 0), (3, .rowE (ints (walkP s.fl)) 1), (4, .mp 1), (5, .sl 2 x.1.2.1.length (c :: x.1.1.1.q).length 1), (52, .i x.1.2.2)])
      (fun x => [.cells (sitA s), .mapO (dkA x.1.1.2) (dvA x.1.1.1.out x.1.1.2), .arr (nats (x.1.2.1 ++ c :: x.1.1.1.q)) 1]) (fun x => 6 - x.1.2.2) ⟨((⟨op, out, r'⟩, hist), pre, 0), m0, ⟨hh1.nd, hh1.lt, hh1.mem⟩, Nat.zero_le _, by unfold expandH; rw [List.range_eq_range'] <;> rfl, by dsimp only; omega, fun y hy => by have := h5 y hy; dsimp only; omega, by have := h5 c hc; dsimp only; omega⟩
      ⟨[0, 1, 2], rfl, ⟨rfl, rfl, rfl, rfl, rfl, trivial⟩, ⟨.inr rfl, .inr (sub_map rfl rfl rfl (dv_idf _ _)), .inr (sub_arr rfl rfl (nats_idf _)), trivial⟩, by decide, fun i hi => absurd hi (Nat.not_lt_zero _)⟩ ?_
    rintro ⟨⟨⟨⟨op', out', q'⟩, hist'⟩, pre', d⟩, m1, hm1, m2, m3, m4, m5, m6⟩
    simp only at m1 m2 m3 m4 m5 m6
    dsimp only
    have lu' : out'.length = s.fl.k.length := m1.inv.lu
    have m0' : 0 ≤ out'.getD c (-1) := m1.h0
    have hq : q'.length ≤ 300 := by unfold roomS at m4; simp only at m4; omega
    have hnd' := hm1.nd
    have e1 : (nats (pre' ++ c :: q'))[pre'.length + (0 : Int).toNat]? = some [AV.i (c : Int)] := by simp
    by_cases hd : d < 6
    · have hcm := back_n g c d
      have hcmm := (hm1.mem c hc).2 m0'
      have n1 := m1.next (bvN_lt g) hd
      obtain ⟨n2, n3⟩ := m1.bound (bvN_lt g) m5 m6
      have n4 : (List.range' (d + 1) (6 - (d + 1))).foldl (tryH (bvN s.fl) c) (tryH (bvN s.fl) c (⟨op', out', q'⟩, hist') d) = expandH (bvN s.fl) c (⟨op, out, r'⟩, hist) := by
        rw [← m3, show 6 - d = (6 - (d + 1)) + 1 by omega, List.range'_succ, List.foldl_cons]
      have n5 : roomS (tryM (bvN s.fl) c ⟨op', out', q'⟩ d) ≤ k := by rw [room_try]; exact m4
      have n6 : (tryM (bvN s.fl) c ⟨op', out', q'⟩ d).out.getD c (-1) + 1 ≤ s.fl.k.length - k := by rw [n3]; exact m6
      have nh : HInv s.fl.k.length (tryH (bvN s.fl) c (⟨op', out', q'⟩, hist') d) := by
        unfold tryH
        cases hm : bvN s.fl c d with
        | none => exact hm1
        | some n =>
          have hn := bvN_lt g c d n hc hm
          exact hm1.reach hn lu' (by dsimp only; omega) (fun ho => ((m1.inv.opn n hn).1 ho).2)
      have nx : ∀ s', tryH (bvN s.fl) c (⟨op', out', q'⟩, hist') d = s' → Mid s.fl.k.length (bvN s.fl) (okN s.fl) (· ∈ srcF s.fl) c (d + 1) s'.1 ∧ HInv s.fl.k.length s' ∧ d + 1 ≤ 6 ∧ (List.range' (d + 1) (6 - (d + 1))).foldl (tryH (bvN s.fl) c) s' = expandH (bvN s.fl) c (⟨op, out, r'⟩, hist) ∧ roomS s'.1 ≤ k ∧ (∀ y, y < s.fl.k.length → s'.1.out.getD y (-1) ≤ s.fl.k.length - k) ∧ s'.1.out.getD c (-1) + 1 ≤ s.fl.k.length - k := by
        rintro s' rfl
        have e : (tryH (bvN s.fl) c (⟨op', out', q'⟩, hist') d).1 = tryM (bvN s.fl) c ⟨op', out', q'⟩ d := tryH_1
        rw [e]
        exact ⟨n1, nh, hd, n4, n5, n2, n6⟩
      clear nh n1 n2 n3 n4 n5 n6
      unfold tryH at nx
      cases hm : bvN s.fl c d with
      | none =>
        rw [hm] at hcm nx
        repeat' (first|refine wS ?_|refine wB ?_|refine wK ?_|refine wR ?_|refine wE ?_|refine wT ?_|refine wU ?_|(refine wC rfl (fun hb=>?_) (fun hb=>?_)<;>(first|subst hb|((try simp only [nm] at hb);try (exfalso;omega))))|(refine rg 14 ?_;refine vV (by first|exact fs_lssT rfl rfl (by omega)|exact fs_lss rfl rfl) ?_)|(refine rg 15 ?_;refine mV ?_;refine aV ?_)|(((refine aw_draw2k (id := 16) 129 [[],[0],[],[2],[2,3],[],[0,1,2,3,4,5],[0,1,2,3,4,5,6],[0,1,2,3,4,5,6,7],[0,1,2,3,4,5,6,7],[0,1,2,3,4,5,6,7,8]] [56,57,58,59,60,61,62,55,63,64,9] [[],[],[56,57],[56,57],[56,57],[56,57,58,59,60],[],[],[],[63],[64]] mixedP rfl (by decide +kernel) ?_));(all_goals first|(refine dw_v rfl rfl rfl (by exact fs_fieldAddr T rfl rfl rfl) ?_));(all_goals first|(refine dw_v rfl rfl rfl (by first|exact fs_load T rfl rfl rfl rfl|exact fs_load T rfl rfl (behind_ep rfl e1) rfl) ?_));(all_goals first|(refine dw_v rfl rfl rfl (by exact fs_move rfl) ?_));(all_goals first|(refine dw_v rfl rfl rfl (by first|exact fs_indexOwn T rfl rfl rfl rfl rfl (by omega) (by simp)) ?_));(all_goals first|(refine dw_v rfl rfl rfl (by first|exact fs_load T rfl rfl rfl rfl|exact fs_load T rfl rfl (behind_ep rfl e1) rfl) ?_));(all_goals first|(refine dw_v rfl rfl rfl (by exact fs_move rfl) ?_));(all_goals first|(refine dw_v rfl rfl rfl (by first|exact kC (hcm)) ?_)|(refine dw_n rfl rfl rfl (by first|exact kC (hcm)) rfl ?_));(all_goals first|(refine dw_v rfl rfl rfl (by exact fs_move rfl) ?_));(all_goals first|(refine dw_v rfl rfl rfl (by exact fs_extract rfl rfl) ?_));(all_goals first|(refine dw_v rfl rfl rfl (by exact fs_extract rfl rfl) ?_));(all_goals first|(refine dw_v rfl rfl rfl (by exact fs_assign rfl) ?_));(all_goals (refine dw_fin rfl rfl (by (first|(dsimp only [ln1,ln2,List.append_nil,ln4,ln5,ln6,ln7,ln8,ln9,putAt,putd,allObjs,argEnv,un_v,un_ptr,un_ep,un_pr,un_sl,un_mp,un_row,un_agg,un_tup,un_clo,Nat.zero_add,lnb,Nat.reduceAdd,lnc,lnd];first|done|exact rfl)|exact rfl)) ?_;refine aV ?_)))|(refine rg 17 ?_;refine mV ?_;refine mV ?_;refine vV (by exact fs_distO hnd' rfl rfl rfl) ?_;refine mV ?_;refine xV ?_;refine xV ?_;refine aV ?_;refine aV ?_)|(refine rg 18 ?_;(all_goals (refine mV ?_;refine mV ?_));(all_goals first|(refine gK ?_)|(refine vc_split rfl rfl (fun hb=>?_) (fun hb=>?_)<;>(first|subst hb|(rw [hb];(try simp only [nm] at hb);try ((exfalso;omega);done)))));(all_goals first|(refine gT ?_;(refine mV ?_);refine gT ?_;(refine vV (by exact fs_not rfl) ?_))|(iterate 2 first|refine gF ?_|refine gU ?_));(all_goals ((first|refine pV ?_|refine vV (by exact fs_pick rfl rfl rfl) ?_);refine mV ?_));(all_goals first|(refine gK ?_)|(refine vc_split rfl rfl (fun hb=>?_) (fun hb=>?_)<;>(first|subst hb|(rw [hb];(try simp only [nm] at hb);try ((exfalso;omega);done)))));(all_goals first|(refine gT ?_;(refine mV ?_);refine gT ?_;(refine mV ?_);refine gT ?_;(first|(refine vV (by first|fail) ?_)|(refine vc_n (by first|fail) rfl ?_)))|(iterate 3 first|refine gF ?_|refine gU ?_));(all_goals (first|refine pV ?_|refine vV (by exact fs_pick rfl rfl rfl) ?_)))|(refine rg 21 ?_;refine vV (by first|exact fs_addr rfl rfl (by omega) (by omega)|exact fs_add rfl rfl) ?_;refine mV ?_)|refine nZ ?_)
        all_goals exact ⟨⟨((⟨op', out', q'⟩, hist'), pre', d + 1), nx _ rfl⟩, by dsimp only; omega, [0, 1, 2], rfl, (by (repeat (first | exact trivial | refine ⟨rfl, ?_⟩))), ⟨.inr rfl, .inr (sub_map rfl rfl rfl (dv_idf _ _)), .inr (sub_arr rfl rfl (nats_idf _)), trivial⟩, by decide, fun i hi => absurd hi (Nat.not_lt_zero _)⟩
      | some n =>
        have hn := bvN_lt g c d n hc hm
        have hokn : okN s.fl n = true := by unfold okN; exact decide_eq_true (bv_wall g hm)
        have hopn := m1.inv.opn n hn
        have hmemn := hm1.mem n hn
        simp only at hopn hmemn
        rw [hm] at hcm nx
        simp only at nx
        unfold reachH at nx
        by_cases hkn : kn hist' (n : Int) = true
        · have hnm : n ∈ hist' := by unfold kn at hkn; simpa using (of_decide_eq_true hkn).2
          have hop : op'.getD n false = false := by
            cases hop : op'.getD n false with
            | false => rfl
            | true => have := (hopn.1 hop).2; have := hmemn.1 hnm; omega
          rw [if_neg (by simp only; rw [hop]; decide)] at nx
          repeat' (first|refine wS ?_|refine wB ?_|refine wK ?_|refine wR ?_|refine wE ?_|refine wT ?_|refine wU ?_|(refine wC rfl (fun hb=>?_) (fun hb=>?_)<;>(first|subst hb|((try simp only [nm] at hb);try (exfalso;omega))))|(refine rg 14 ?_;refine vV (by first|exact fs_lssT rfl rfl (by omega)|exact fs_lss rfl rfl) ?_)|(refine rg 15 ?_;refine mV ?_;refine aV ?_)|(((refine aw_draw2k (id := 16) 129 [[],[0],[],[2],[2,3],[],[0,1,2,3,4,5],[0,1,2,3,4,5,6],[0,1,2,3,4,5,6,7],[0,1,2,3,4,5,6,7],[0,1,2,3,4,5,6,7,8]] [56,57,58,59,60,61,62,55,63,64,9] [[],[],[56,57],[56,57],[56,57],[56,57,58,59,60],[],[],[],[63],[64]] mixedP rfl (by decide +kernel) ?_));(all_goals first|(refine dw_v rfl rfl rfl (by exact fs_fieldAddr T rfl rfl rfl) ?_));(all_goals first|(refine dw_v rfl rfl rfl (by first|exact fs_load T rfl rfl rfl rfl|exact fs_load T rfl rfl (behind_ep rfl e1) rfl) ?_));(all_goals first|(refine dw_v rfl rfl rfl (by exact fs_move rfl) ?_));(all_goals first|(refine dw_v rfl rfl rfl (by first|exact fs_indexOwn T rfl rfl rfl rfl rfl (by omega) (by simp)) ?_));(all_goals first|(refine dw_v rfl rfl rfl (by first|exact fs_load T rfl rfl rfl rfl|exact fs_load T rfl rfl (behind_ep rfl e1) rfl) ?_));(all_goals first|(refine dw_v rfl rfl rfl (by exact fs_move rfl) ?_));(all_goals first|(refine dw_v rfl rfl rfl (by first|exact kC (hcm)) ?_)|(refine dw_n rfl rfl rfl (by first|exact kC (hcm)) rfl ?_));(all_goals first|(refine dw_v rfl rfl rfl (by exact fs_move rfl) ?_));(all_goals first|(refine dw_v rfl rfl rfl (by exact fs_extract rfl rfl) ?_));(all_goals first|(refine dw_v rfl rfl rfl (by exact fs_extract rfl rfl) ?_));(all_goals first|(refine dw_v rfl rfl rfl (by exact fs_assign rfl) ?_));(all_goals (refine dw_fin rfl rfl (by (first|(dsimp only [ln1,ln2,List.append_nil,ln4,ln5,ln6,ln7,ln8,ln9,putAt,putd,allObjs,argEnv,un_v,un_ptr,un_ep,un_pr,un_sl,un_mp,un_row,un_agg,un_tup,un_clo,Nat.zero_add,lnb,Nat.reduceAdd,lnc,lnd];first|done|exact rfl)|exact rfl)) ?_;refine aV ?_)))|(refine rg 17 ?_;refine mV ?_;refine mV ?_;refine vV (by exact fs_dkTO (c := n) hnd' hnm rfl rfl rfl) ?_;refine mV ?_;refine xV ?_;refine xV ?_;refine aV ?_;refine aV ?_)|(refine rg 18 ?_;(all_goals (refine mV ?_;refine mV ?_));(all_goals first|(refine gK ?_)|(refine vc_split rfl rfl (fun hb=>?_) (fun hb=>?_)<;>(first|subst hb|(rw [hb];(try simp only [nm] at hb);try ((exfalso;omega);done)))));(all_goals first|(refine gT ?_;(refine mV ?_);refine gT ?_;(refine vV (by exact fs_not rfl) ?_))|(iterate 2 first|refine gF ?_|refine gU ?_));(all_goals ((first|refine pV ?_|refine vV (by exact fs_pick rfl rfl rfl) ?_);refine mV ?_));(all_goals first|(refine gK ?_)|(refine vc_split rfl rfl (fun hb=>?_) (fun hb=>?_)<;>(first|subst hb|(rw [hb];(try simp only [nm] at hb);try ((exfalso;omega);done)))));(all_goals first|(refine gT ?_;(refine mV ?_);refine gT ?_;(refine mV ?_);refine gT ?_;(first|(refine vV (by first|fail) ?_)|(refine vc_n (by first|fail) rfl ?_)))|(iterate 3 first|refine gF ?_|refine gU ?_));(all_goals (first|refine pV ?_|refine vV (by exact fs_pick rfl rfl rfl) ?_)))|(refine rg 21 ?_;refine vV (by first|exact fs_addr rfl rfl (by omega) (by omega)|exact fs_add rfl rfl) ?_;refine mV ?_)|refine nZ ?_)
          all_goals exact ⟨⟨((⟨op', out', q'⟩, hist'), pre', d + 1), nx _ rfl⟩, by dsimp only; omega, [0, 1, 2], rfl, (by (repeat (first | exact trivial | refine ⟨rfl, ?_⟩))), ⟨.inr rfl, .inr (sub_map rfl rfl rfl (dv_idf _ _)), .inr (sub_arr rfl rfl (nats_idf _)), trivial⟩, by decide, fun i hi => absurd hi (Nat.not_lt_zero _)⟩
        · have hkn : kn hist' (n : Int) = false := by simpa using hkn
          have hnm : n ∉ hist' := by unfold kn at hkn; simpa using of_decide_eq_false hkn
          have hlt0 : out'.getD n (-1) < 0 := by have : ¬ 0 ≤ out'.getD n (-1) := fun q => hnm (hmemn.2 q); omega
          have hop : op'.getD n false = true := hopn.2 ⟨hokn, hlt0⟩
          rw [if_pos hop] at nx
          have hnW : (n : Int) ∈ walkP s.fl := by
            by_cases q : (n : Int) ∈ walkP s.fl
            · exact q
            · exfalso
              have hw : wkB s.fl n = false := by
                cases h : wkB s.fl n with
                | false => rfl
                | true => exact absurd (mem_walk.2 ⟨by omega, by omega, by rw [Int.toNat_natCast]; exact h⟩) q
              have : out'.getD n (-1) = 0 := m1.all n hn hokn (src_iff.2 ⟨hn, bv_wall g hm, hw⟩)
              omega
          have ch := rhas_c (walkP s.fl) (n : Int) hWa (by omega)
          rw [decide_eq_true hnW] at ch
          have hni : kI (n : Int) ∉ dkA hist' := dk_no fun c' e hm' => hnm (by rw [show n = c' by omega]; exact hm')
          have hdv := dv_snoc (out := out') (v := out'.getD c (-1) + 1) hnm (by omega)
          repeat' (first|refine wS ?_|refine wB ?_|refine wK ?_|refine wR ?_|refine wE ?_|refine wT ?_|refine wU ?_|(refine wC rfl (fun hb=>?_) (fun hb=>?_)<;>(first|subst hb|((try simp only [nm] at hb);try (exfalso;omega))))|(refine rg 14 ?_;refine vV (by first|exact fs_lssT rfl rfl (by omega)|exact fs_lss rfl rfl) ?_)|(refine rg 15 ?_;refine mV ?_;refine aV ?_)|(((refine aw_draw2k (id := 16) 129 [[],[0],[],[2],[2,3],[],[0,1,2,3,4,5],[0,1,2,3,4,5,6],[0,1,2,3,4,5,6,7],[0,1,2,3,4,5,6,7],[0,1,2,3,4,5,6,7,8]] [56,57,58,59,60,61,62,55,63,64,9] [[],[],[56,57],[56,57],[56,57],[56,57,58,59,60],[],[],[],[63],[64]] mixedP rfl (by decide +kernel) ?_));(all_goals first|(refine dw_v rfl rfl rfl (by exact fs_fieldAddr T rfl rfl rfl) ?_));(all_goals first|(refine dw_v rfl rfl rfl (by first|exact fs_load T rfl rfl rfl rfl|exact fs_load T rfl rfl (behind_ep rfl e1) rfl) ?_));(all_goals first|(refine dw_v rfl rfl rfl (by exact fs_move rfl) ?_));(all_goals first|(refine dw_v rfl rfl rfl (by first|exact fs_indexOwn T rfl rfl rfl rfl rfl (by omega) (by simp)) ?_));(all_goals first|(refine dw_v rfl rfl rfl (by first|exact fs_load T rfl rfl rfl rfl|exact fs_load T rfl rfl (behind_ep rfl e1) rfl) ?_));(all_goals first|(refine dw_v rfl rfl rfl (by exact fs_move rfl) ?_));(all_goals first|(refine dw_v rfl rfl rfl (by first|exact kC (hcm)) ?_)|(refine dw_n rfl rfl rfl (by first|exact kC (hcm)) rfl ?_));(all_goals first|(refine dw_v rfl rfl rfl (by exact fs_move rfl) ?_));(all_goals first|(refine dw_v rfl rfl rfl (by exact fs_extract rfl rfl) ?_));(all_goals first|(refine dw_v rfl rfl rfl (by exact fs_extract rfl rfl) ?_));(all_goals first|(refine dw_v rfl rfl rfl (by exact fs_assign rfl) ?_));(all_goals (refine dw_fin rfl rfl (by (first|(dsimp only [ln1,ln2,List.append_nil,ln4,ln5,ln6,ln7,ln8,ln9,putAt,putd,allObjs,argEnv,un_v,un_ptr,un_ep,un_pr,un_sl,un_mp,un_row,un_agg,un_tup,un_clo,Nat.zero_add,lnb,Nat.reduceAdd,lnc,lnd];first|done|exact rfl)|exact rfl)) ?_;refine aV ?_)))|(refine rg 17 ?_;refine mV ?_;refine mV ?_;refine vV (by first|exact fs_dkFO (c := (n : Int)) hni rfl rfl rfl|exact fs_dist1O hnd' hcmm rfl rfl rfl) ?_;refine mV ?_;refine xV ?_;refine xV ?_;refine aV ?_;refine aV ?_)|(refine rg 18 ?_;(all_goals (refine mV ?_;refine mV ?_));(all_goals first|(refine gK ?_)|(refine vc_split rfl rfl (fun hb=>?_) (fun hb=>?_)<;>(first|subst hb|(rw [hb];(try simp only [nm] at hb);try ((exfalso;omega);done)))));(all_goals first|(refine gT ?_;(refine mV ?_);refine gT ?_;(refine vV (by exact fs_not rfl) ?_))|(iterate 2 first|refine gF ?_|refine gU ?_));(all_goals ((first|refine pV ?_|refine vV (by exact fs_pick rfl rfl rfl) ?_);refine mV ?_));(all_goals first|(refine gK ?_)|(refine vc_split rfl rfl (fun hb=>?_) (fun hb=>?_)<;>(first|subst hb|(rw [hb];(try simp only [nm] at hb);try ((exfalso;omega);done)))));(all_goals first|(refine gT ?_;(refine mV ?_);refine gT ?_;(refine mV ?_);refine gT ?_;(refine vV (by exact kC (ch)) ?_))|(iterate 3 first|refine gF ?_|refine gU ?_));(all_goals (first|refine pV ?_|refine vV (by exact fs_pick rfl rfl rfl) ?_)))|(refine rg 19 ?_;refine mV ?_;refine mV ?_;refine mV ?_;refine mV ?_;refine vV (by exact fs_indexOwn T rfl rfl rfl rfl rfl (by omega) (by simp)) ?_;refine vV (by first|exact fs_load T rfl rfl rfl rfl|exact fs_load T rfl rfl (behind_ep rfl e1) rfl) ?_;refine vV (by first|exact fs_dkFO (c := (n : Int)) hni rfl rfl rfl|exact fs_dist1O hnd' hcmm rfl rfl rfl) ?_;refine vV (by first|exact fs_addr rfl rfl (by omega) (by omega)|exact fs_add rfl rfl) ?_;refine vc_mapNew mapII intK rfl rfl (isv_i _) rfl rfl (dk_good _) (good_i _) hni ?_)|(refine rg 20 ?_;refine mV ?_;refine mV ?_;refine vc_n (by exact fs_buildSlice T rfl rfl (by decide) (by decide) rfl rfl rfl) rfl ?_;refine vc_append T rfl rfl rfl rfl rfl rfl (by simp) (Elems.whole rfl rfl) rfl (by simp;omega) (by simp;omega) rfl ?_;refine aV ?_)|(refine rg 21 ?_;refine vV (by first|exact fs_addr rfl rfl (by omega) (by omega)|exact fs_add rfl rfl) ?_;refine mV ?_)|refine nZ ?_)
          all_goals exact ⟨⟨((⟨op'.set n false, out'.set n (out'.getD c (-1) + 1), q' ++ [n]⟩, hist' ++ [n]), [], d + 1), nx _ rfl⟩, by dsimp only; omega, [0, 1, 4], rfl, ⟨rfl, rfl, rfl, (by simp only [List.length_cons, List.length_append, List.length_nil]; rfl), rfl, trivial⟩, ⟨.inr rfl, .inr (sub_map rfl dk_snoc hdv (dv_idf _ _)), .inr (sub_arr rfl nats_app2 (nats_idf _)), trivial⟩, by decide, fun i hi => absurd hi (Nat.not_lt_zero _)⟩
    · obtain rfl : d = 6 := by omega
      have m3 : ((⟨op', out', q'⟩, hist') : SH) = expandH (bvN s.fl) c (⟨op, out, r'⟩, hist) := m3
      have h4 : bfsH (bvN s.fl) k (expandH (bvN s.fl) c (⟨op, out, r'⟩, hist)) = F := h4
      repeat' (first|refine wS ?_|refine wB ?_|refine wK ?_|refine wR ?_|refine wE ?_|refine wT ?_|refine wU ?_|(refine wC rfl (fun hb=>?_) (fun hb=>?_)<;>(first|subst hb|((try simp only [nm] at hb);try (exfalso;omega))))|(refine rg 14 ?_;refine vV (by first|exact fs_lssF rfl rfl (by omega)|exact fs_lss rfl rfl) ?_)|(refine rg 12 ?_;refine mV ?_;refine vV (by exact fs_sliceOwn T rfl rfl rfl rfl rfl rfl (by omega) (by omega) (by omega)) ?_;refine aV ?_)|refine nZ ?_)
      all_goals exact ⟨⟨((⟨op', out', q'⟩, hist'), pre' ++ [c], k), m1.end, hm1, m4, by dsimp only; omega, by dsimp only; rw [m3]; exact h4, fun y hy => by have := m5 y hy; dsimp only; omega⟩, by dsimp only; omega, [0, 1, 2], rfl, ⟨rfl, rfl, rfl, (show some (AV.sl 2 (pre'.length + (1 : Int).toNat) (((q'.length + 1 : Nat) : Int) - 1).toNat 1) = some (AV.sl 2 (pre' ++ [c]).length q'.length 1) by rw [show pre'.length + (1 : Int).toNat = (pre' ++ [c]).length by simp, show (((q'.length + 1 : Nat) : Int) - 1).toNat = q'.length by omega]), trivial⟩, ⟨.inr rfl, .inr (sub_map rfl rfl rfl (dv_idf _ _)), .inr (sub_arr rfl (by simp) (nats_idf _)), trivial⟩, by decide, fun i hi => absurd hi (Nat.not_lt_zero _)⟩
end Go.Proofs.Ytjpcpbbkelgkeaa
namespace Go.Ab
open Go
theorem pcall_view {P : Program} {f : FuncId} {args : List AV} {Φ : AV → Hp → Prop} {Ψ : AV → Prop} (h : PCall P f args [] Φ) (hv : ∀ r o, Φ r o → ∃ r', View o r r' ∧ Ψ r') : PCall P f args [] (fun r o => o = [] ∧ Ψ r) := by
  refine ⟨h.1, fun ρ S w vs hs ha => (h.2 ρ S w vs hs ha).mono ?_⟩
  rintro e w' ⟨r, o, hΦ, y, ρ', S', rfl, h2, h3⟩
  obtain ⟨r', hv', hψ⟩ := hv _ _ hΦ
  exact ⟨r', [], ⟨rfl, hψ⟩, y, _, _, rfl, h2.view rfl, view_val h2.blk hv' h3⟩
end Go.Ab
namespace Go.Proofs.Ytjpcpbbkelgkeaa
open Go Go.Ab Go.Fl Go.Re Go.Ln Go.MapKept
attribute [local irreducible] VC AW FStep ACall PCall AStep
set_option maxHeartbeats 4000000
def atD {α : Type} (L : List α) (d : List Nat) : List α := d.filterMap fun i => L[i]?
theorem atD_snoc {α : Type} {L : List α} {d : List Nat} {i : Nat} {e : α} (h : L[i]? = some e) : atD L (d ++ [i]) = atD L d ++ [e] := by
  unfold atD; rw [List.filterMap_append]; simp [h]
theorem atD_all {α : Type} {L : List α} {d : List Nat} (hd : d.Nodup) (hlt : ∀ i, i ∈ d → i < L.length) (hall : ∀ i, i < L.length → i ∈ d) : (atD L d).Perm L := by
  have hp : d.Perm (List.range L.length) := (List.perm_ext_iff_of_nodup hd List.nodup_range).2 fun i => by
    rw [List.mem_range]; exact ⟨hlt i, hall i⟩
  have h1 := hp.filterMap fun i => L[i]?
  have h2 : (List.range L.length).filterMap (fun i => L[i]?) = L := by
    have key : ∀ n, n ≤ L.length → (List.range n).filterMap (fun i => L[i]?) = L.take n := by
      intro n
      induction n with
      | zero => intro _; simp
      | succ n ih =>
        intro hn
        rw [List.range_succ, List.filterMap_append, ih (by omega), List.take_succ_eq_append_getElem (by omega : n < L.length)]
        simp [List.getElem?_eq_getElem (by omega : n < L.length)]
    rw [key _ (Nat.le_refl _), List.take_length]
  rw [h2] at h1
  exact h1
theorem zSl : ∀ w, (zeroValue 22).run Try.prog w = .ok (.slice none 0 0) w := zero_run (by kernel_rfl)
theorem zSlA (S : Nat → Prop) (w : World) (ρ : Pl) : R S w .nils ρ (.slice none 0 0) := by simp [R]
theorem sub_mapBe {h : Hp} {i : Nat} {θ : Nat → Nat} {ks : List Value} {vs vs' : List AV} {bs : List Nat} {ck : Nat} (hk : h[i]? = some (.mapB ks vs' bs ck)) (e : vs' = vs) (hi : AV.idfL vs = true) : h[i]? = some ((AB.mapB ks vs bs ck).map θ) := by
  subst e; exact sub_mapB hk hi
def mxD (L : List (Int × List Int)) (d : List Nat) : Int := (atD L d).foldl mxL 0
theorem mxD_snoc {L : List (Int × List Int)} {d : List Nat} {i : Nat} {e : Int × List Int} (h : L[i]? = some e) : mxD L (d ++ [i]) = max (mxD L d) ((e.2.length : Int) - 1) := by
  unfold mxD; rw [atD_snoc h, List.foldl_append]; rfl
theorem mxD_all {L : List (Int × List Int)} {d : List Nat} (hd : d.Nodup) (hlt : ∀ i, i ∈ d → i < L.length) (hall : ∀ i, i < L.length → i ∈ d) : mxD L d = L.foldl mxL 0 :=
  (atD_all hd hlt hall).foldl_eq' (fun x _ y _ z => by unfold mxL; omega) 0
theorem bound_c (s : Sit) (g : Fine s.fl) : ACall Try.prog 16 [.agg (sitA s)] [] (.i (boundP s.fl)) [] := by
  have hN := g.le
  have hb := g.bounds
  have ho := offs_c s g
  have hll : ∀ e, e ∈ offL s.fl (walkP s.fl) → (e.2.length : Int) ≤ s.fl.k.length + 1 := fun e he => by
    obtain ⟨h1, h2, h3⟩ := mem_offL.1 he
    obtain ⟨w1, w2, _⟩ := mem_walk.1 h1
    have := off_le g e.1.toNat (by omega)
    rw [h3, offW_len]; omega
  unfold boundP
  generalize offL s.fl (walkP s.fl) = L at *
  refine acall T Try.func16 rfl rfl rfl rfl ?_
  repeat' (first|refine wS ?_|refine wB ?_|refine wK ?_|refine wR ?_|refine wE ?_|refine wT ?_|refine wU ?_|(refine rg 0 ?_;refine vc_n (by exact fs_box rfl rfl) rfl ?_;refine aV ?_)|(refine rg 1 ?_;refine aV ?_)|(refine rg 2 ?_;(all_goals (refine lV T ?_));(all_goals (refine vc_n (by exact fs_call rfl rfl ho (.inr ⟨rfl,rfl,by simp⟩)) rfl ?_;refine vc_mapOpen 1 rfl fun bs ck hb1' hb2' hb3' hb4'=>?_));(all_goals first|(refine vc_n (by exact fs_range mapIS rfl rfl) rfl ?_)|(refine vV (by fail) ?_)))|refine nZ ?_)
  have hbl : bs.length = L.length := by rw [hb1']; simp
  refine aw_loop (X := {d : List Nat // d.Nodup ∧ ∀ i, i ∈ d → i < L.length}) (fun d => [(3, .i (mxD L d.1)), (8, .ptr 2 0)]) (fun d => [.cells (sitA s), .mapB (okA L) (ovA L) bs ck, .iter 1 ck (seenB bs d.1) ck]) (fun d => L.length - d.1.length) ⟨[], List.nodup_nil, fun i hi => by cases hi⟩ ⟨[0, 1, 2], rfl, (by (repeat (first | exact trivial | refine ⟨rfl, ?_⟩))), ⟨.inr rfl, .inr (sub_mapBe rfl (mapL_idf _ _ (ov_idf _)) (ov_idf _)), .inr rfl, trivial⟩, by decide, lt0 _⟩ ?_
  rintro ⟨d, hnd, hlt⟩
  dsimp only
  have hdl := nodup_le hnd hlt
  repeat' (first|refine wS ?_|refine wB ?_|refine wK ?_|refine wR ?_|refine wE ?_|refine wT ?_|refine wU ?_|(refine rg 3 ?_;(all_goals first|(refine vc_next rfl rfl rfl hb4' (Nat.le_refl _) rfl (fun hend=>vc_mapShut 1 rfl ?_) (fun i kv v b g1 g1' g2 g3=>?_))|(refine vV (by fail) ?_));(all_goals (refine xV ?_)))|refine nZ ?_)
  · have hall := seen_all hb3' (by rw [hbl]; exact hlt) hend
    rw [hbl] at hall
    have hmx := mxD_all hnd hlt hall
    rw [hmx]
    repeat' (first|refine wS ?_|refine wB ?_|refine wK ?_|refine wR ?_|refine wE ?_|refine wT ?_|refine wU ?_|(refine rg 3 ?_;refine vV (by fail) ?_;refine xV ?_)|(refine rg 6 ?_;refine mV ?_;refine aV ?_)|refine nZ ?_)
    all_goals exact ret_plain (.inl rfl) rfl rfl
  · rw [List.getElem?_map] at g1
    obtain ⟨⟨c, w⟩, hac, rfl⟩ := Option.map_eq_some_iff.1 g1
    have hv : v = .rowE (ints w) 1 := by rw [List.getElem?_map, hac] at g1'; simpa using g1'.symm
    subst hv
    have k1 : (okA L)[i]? = some (kI c) := by simp [hac]
    have k2 : (ovA L)[i]? = some (.rowE (ints w) 1) := by simp [hac]
    have hnew := seen_not g2 g3
    have hil := (List.getElem?_eq_some_iff.1 hac).1
    have hsn := seen_snoc (d := d) g2
    have hd' : (d ++ [i]).Nodup ∧ ∀ j, j ∈ d ++ [i] → j < L.length := ⟨nodup_snoc hnd hnew, fun j hj => (List.mem_append.1 hj).elim (hlt j) (fun e => by simp at e; rw [e]; exact hil)⟩
    have hdl2 := nodup_le hd'.1 hd'.2
    rw [List.length_append, List.length_singleton] at hdl2
    have hwl := hll _ (List.mem_of_getElem? hac)
    dsimp only at hwl
    have hms := mxD_snoc (d := d) hac
    dsimp only at hms
    have hil2 : (ints w).length = w.length := ints_length _
    generalize hT1 : mxD L (d ++ [i]) = T1 at *
    generalize mxD L d = T0 at *
    repeat' (first|refine wS ?_|refine wB ?_|refine wK ?_|refine wR ?_|refine wE ?_|refine wT ?_|refine wU ?_|(refine rg 3 ?_;refine vV (by fail) ?_;refine xV ?_)|(refine rg 4 ?_;(all_goals first|(refine vc_n (by exact fs_entry rfl rfl rfl rfl g2 k1 k2) rfl ?_)|(refine vV (by fail) ?_));(all_goals (refine xV ?_;refine aV ?_)))|(refine rg 5 ?_;refine mV ?_;refine mV ?_;(first|refine qV T ?_|refine vV (by exact fs_lenNil T rfl rfl) ?_);refine vV (by first|exact fs_subr rfl rfl (by omega) (by omega)|exact fs_sub rfl rfl) ?_;refine vV (by exact fs_max rfl rfl) ?_;refine aV ?_)|refine nZ ?_)
    all_goals exact ⟨⟨d ++ [i], hd'⟩, by dsimp only; rw [List.length_append, List.length_singleton]; omega, [0, 1, 2], rfl, ⟨by dsimp only; rw [hT1, hms, ← hil2]; rfl, rfl, trivial⟩, ⟨.inr rfl, .inr (sub_mapB rfl (ov_idf _)), .inr (sub_iter rfl hsn), trivial⟩, by decide, lt0 _⟩
theorem off_c (s : Sit) (g : Fine s.fl) (c : Int) (hc : rngI c) : ACall Try.prog 10 [.agg (sitA s), .i c] [] (.rowE (ints (offR s.fl c)) 1) [] := by
  have ho := offs_c s g
  have hnd := offL_nd (f := s.fl) ((walk_asc s.fl).imp (fun h => by omega) : (walkP s.fl).Nodup)
  unfold offR
  by_cases h : c ∈ walkP s.fl ∧ 0 ≤ offD s.fl c.toNat
  · rw [if_pos h]
    obtain ⟨i, hi⟩ := List.mem_iff_getElem?.1 (mem_offL.2 ⟨h.1, h.2, rfl⟩ : (c, offW s.fl c.toNat) ∈ offL s.fl (walkP s.fl))
    have k1 : (okA (offL s.fl (walkP s.fl)))[i]? = some (kI c) := by simp [hi]
    have k2 : (ovA (offL s.fl (walkP s.fl)))[i]? = some (.rowE (ints (offW s.fl c.toNat)) 1) := by simp [hi]
    refine acall T Try.func10 rfl rfl rfl rfl ?_
    repeat' (first|refine wS ?_|refine wB ?_|refine wK ?_|refine wR ?_|refine wE ?_|refine wT ?_|refine wU ?_|(refine rg 0 ?_;refine vc_n (by exact fs_box rfl rfl) rfl ?_;refine aV ?_)|(refine rg 1 ?_;refine lV T ?_;refine vc_n (by exact fs_call rfl rfl ho (.inr ⟨rfl,rfl,by simp⟩)) rfl ?_;refine mV ?_;refine vV (by exact fs_mapGet1 mapIS intK rfl rfl (isv_i _) rfl (ok_good _) (good_i _) hnd k1 (by rw [mapL_idf _ _ (ov_idf _)];exact k2)) ?_;refine aV ?_)|refine nZ ?_)
    all_goals exact ret_plain (.inl rfl) rfl rfl
  · rw [if_neg h]
    have hno : kI c ∉ okA (offL s.fl (walkP s.fl)) := fun hm => by
      obtain ⟨e, he, q⟩ := List.mem_map.1 hm
      simp [kI] at q
      obtain ⟨h1, h2, _⟩ := mem_offL.1 he
      rw [q] at h1 h2; exact h ⟨h1, h2⟩
    refine acall_nils ?_
    refine acall T Try.func10 rfl rfl rfl rfl ?_
    repeat' (first|refine wS ?_|refine wB ?_|refine wK ?_|refine wR ?_|refine wE ?_|refine wT ?_|refine wU ?_|(refine rg 0 ?_;refine vc_n (by exact fs_box rfl rfl) rfl ?_;refine aV ?_)|(refine rg 1 ?_;refine lV T ?_;refine vc_n (by exact fs_call rfl rfl ho (.inr ⟨rfl,rfl,by simp⟩)) rfl ?_;refine mV ?_;refine vV (by exact fs_mapMiss1 (zA := .nils) mapIS intK zSl zSlA rfl rfl (isv_i _) rfl (ok_good _) (good_i _) hno) ?_;refine aV ?_)|refine nZ ?_)
    all_goals exact ret_plain (.inl rfl) rfl rfl
end Go.Proofs.Ytjpcpbbkelgkeaa
namespace Go.Proofs.Ytjpcpbbkelgkeaa
open Go Go.Ab Go.Fl Go.Re Go.Ln Go.MapKept
attribute [local irreducible] VC AW FStep ACall PCall AStep
set_option maxHeartbeats 4000000
theorem flow_0 (s : Sit) (W : List Int) (c : Int) : Flow (netP s W c) 0 [] := ⟨List.nodup_nil, (fun e h => by cases h), fun _ => Nat.zero_le _, fun _ _ _ => rfl, rfl⟩
theorem prev_0 : PrevOk [] (prevF []) := fun c p => by simp [prevF]
theorem flow_iw {s : Sit} {W : List Int} {st : Int} {k : Nat} {Te : List LEdge} (h : Flow (netP s W st) k Te) : ∀ e, e ∈ Te → inW W st (e.1, true) := fun e he => (flow_W h he).2
theorem lanes_idfs (l : List LaneT) : ∀ e, e ∈ lanesA l → AV.idfL e = true := by intro e he; obtain ⟨x, _, rfl⟩ := List.mem_map.1 he; rfl
theorem lanes_pln : ∀ l : List LaneT, AV.plnL (lanesA l).flatten = true
  | [] => rfl
  | _ :: l => lanes_pln l
theorem lanes_len (l : List LaneT) : ∀ e, e ∈ lanesA l → e.length = 3 := by intro e he; obtain ⟨x, _, rfl⟩ := List.mem_map.1 he; rfl
theorem lanes_next (l : List LaneT) (x : LaneT) : ((lanesA l).drop 0).take l.length ++ [laneA x] = lanesA (l ++ [x]) := by
  rw [List.drop_zero, List.take_of_length_le (by simp)]; simp
abbrev certA (l : List LaneT) (b : Int) : List AV := [.rowE (lanesA l) 3, .i b]
inductive MakeOk (s : Sit) : AV → Prop
  | ok (L : List LaneT) (h1 : L.map (·.1) = kindC s.fl 4) (h2 : ∀ x, x ∈ L → PairOk s x) : MakeOk s (.tup [.agg (certA L (boundP s.fl)), .i (-1), .i 0])
  | no (L : List LaneT) (c : Int) (post : List Int) (h1 : L.map (·.1) ++ c :: post = kindC s.fl 4) (h2 : ∀ x, x ∈ L → PairOk s x) (h3 : StuckP s c) : MakeOk s (.tup [.agg (certA [] 0), .i c, .i 14])
theorem make_p (s : Sit) (g : Fine s.fl) : PCall Try.prog 7 [.agg (sitA s)] [] (fun r o => o = [] ∧ MakeOk s r) := by
  have hN := g.le
  have hbb := g.bounds
  have cb := bound_c s g
  have hWa := walk_asc s.fl
  have hWl := walk_len s.fl
  have cw := walkOf_c s (by omega)
  have ck := ofKind_c s 4 (by omega)
  have hWr : ∀ x, x ∈ walkP s.fl → 0 ≤ x ∧ x < s.fl.k.length := fun x hx => by obtain ⟨h1, h2, _⟩ := mem_walk.1 hx; exact ⟨h1, h2⟩
  have hKl := ofK_len s.fl.k 4 s.fl.k.length
  have hKm : ∀ x, x ∈ kindC s.fl 4 → 0 ≤ x ∧ x < s.fl.k.length ∧ exB s.fl x = false := fun x hx => by
    obtain ⟨h1, h2, h3⟩ := mem_ofK.1 hx
    exact ⟨h1, h2, by unfold exB; rw [h3]; decide⟩
  refine pcall_view (Φ := fun r o => (∃ L : List LaneT, L.map (·.1) = kindC s.fl 4 ∧ (∀ x, x ∈ L → PairOk s x) ∧ r = .tup [.agg [.sl 0 0 L.length 3, .i (boundP s.fl)], .i (-1), .i 0] ∧ o = [.arr (lanesA L) 3]) ∨
    (∃ (L : List LaneT) (c : Int) (post : List Int), L.map (·.1) ++ c :: post = kindC s.fl 4 ∧ (∀ x, x ∈ L → PairOk s x) ∧ StuckP s c ∧ r = .tup [.agg [.nils, .i 0], .i c, .i 14] ∧ o = [])) ?_ ?_
  · generalize hKK : kindC s.fl 4 = K at *
    generalize boundP s.fl = b at *
    have hkl : (ints K).length = K.length := ints_length _
    have hKl : K.length ≤ 300 := by rw [← hKK]; exact Nat.le_trans hKl hN
    refine pcall T Try.func7 rfl rfl rfl rfl ?_
    repeat' (first|refine wS ?_|refine wB ?_|refine wK ?_|refine wR ?_|refine wE ?_|refine wT ?_|refine wU ?_|(refine rg 0 ?_;refine vc_n (by exact fs_box rfl rfl) rfl ?_;refine vc_n (by exact fs_alloc T rfl) rfl ?_;refine aV ?_;refine aV ?_)|(refine rg 1 ?_;refine lV T ?_;refine vV (by exact kC (cb)) ?_;refine vV (by exact fs_build T rfl rfl rfl rfl) ?_;refine vc_n (by exact fs_alloc T rfl) rfl ?_;refine vc_store T rfl rfl rfl rfl rfl rfl (by decide) rfl ?_)|(refine rg 2 ?_;refine lV T ?_;refine vV (by exact kC (cw)) ?_;refine aV ?_)|(refine rg 3 ?_;refine lV T ?_;refine vV (by exact kC (ck)) ?_;(first|refine qV T ?_|refine vV (by exact fs_lenNil T rfl rfl) ?_);refine mV ?_)|refine nZ ?_)
    refine aw_ownC 2 0 3 rfl rfl (by decide) ?_
    refine aw_loop (X := {L : List LaneT // L.length ≤ K.length ∧ L.map (·.1) = K.take L.length ∧ ∀ x, x ∈ L → PairOk s x}) (fun L => [(1, .ptr 0 0), (2, .ptr 1 0), (5, .ptr 2 0), (6, .rowE (ints (walkP s.fl)) 1), (17, .rowE (ints K) 1), (18, .i K.length), (19, .i (L.1.length : Int))])
      (fun L => [.cells (sitA s), .cells [.nils, .i 0], .cells [.sl 3 0 L.1.length 3, .i b], .arr (lanesA L.1) 3]) (fun L => K.length - L.1.length) ⟨[], Nat.zero_le _, rfl, fun x hx => by cases hx⟩ ⟨[0, 1, 2, 3], rfl, ⟨rfl, rfl, rfl, rfl, rfl, congrArg (fun n : Nat => some (AV.i n)) hkl, rfl, trivial⟩, ⟨.inr rfl, .inr rfl, .inr rfl, .inr rfl, trivial⟩, by decide, fun i hi => absurd hi (Nat.not_lt_zero _)⟩ ?_
    rintro ⟨L, hLl, hLm, hLp⟩
    dsimp only
    by_cases hlt : L.length < K.length
    · have htk := List.take_succ_eq_append_getElem hlt
      have hsp : K.take L.length ++ K[L.length] :: K.drop (L.length + 1) = K := by rw [← List.drop_eq_getElem_cons hlt, List.take_append_drop]
      have hcm : K[L.length] ∈ K := List.getElem_mem hlt
      have q1 : (ints K)[(L.length : Int).toNat]? = some [AV.i K[L.length]] := by rw [Int.toNat_natCast]; exact ints_get hlt
      generalize K[L.length] = c at *
      obtain ⟨hc0, hc1, hcx⟩ := hKm c hcm
      have hg1 := grow_c s g (walkP s.fl) hWa (by omega) hWr c ⟨hc0, hc1⟩ hcx (flow_0 s (walkP s.fl) c) (fun e he => by cases he) (fun e he => by cases he) prev_0 List.nodup_nil
      have hll : (lanesA L).length = L.length := by simp
      repeat' (first|refine wS ?_|refine wB ?_|refine wK ?_|refine wR ?_|refine wE ?_|refine wT ?_|refine wU ?_|(refine rg 4 ?_;refine vV (by first|exact fs_lssT rfl rfl (by omega)|exact fs_lss rfl rfl) ?_)|(refine rg 5 ?_;refine vV (by exact fs_indexRowE T rfl rfl rfl rfl rfl (by omega) (ints_len _) q1) ?_;refine lV T ?_;refine aV ?_)|(refine rg 6 ?_;refine lV T ?_;refine mV ?_;refine mV ?_;refine vc_n (by exact fs_mapNew) rfl ?_;refine vc_n (by exact fs_mapNew) rfl ?_;refine vV (by exact fs_build T rfl rfl rfl rfl) ?_;refine vc_n (by exact fs_box rfl rfl) rfl ?_;refine aV ?_)|refine nZ ?_)
      refine aw_keep [(1, .ptr 0 0), (2, .ptr 1 0), (5, .ptr 2 0), (6, .rowE (ints (walkP s.fl)) 1), (8, .i c), (9, .ptr 6 0), (17, .rowE (ints K) 1), (18, .i K.length), (19, .i (L.length : Int))]
        [.cells (sitA s), .cells [.nils, .i 0], .cells [.sl 3 0 L.length 3, .i b], .arr (lanesA L) 3, .mapO [] [], .mapO [] [], .cells (netA s (walkP s.fl) c (.mp 4) (.mp 5))] ⟨[0, 1, 2, 3, 4, 5, 6], rfl, (by (repeat (first | exact trivial | refine ⟨rfl, ?_⟩))), ⟨.inr rfl, .inr rfl, .inr rfl, .inr (sub_arr rfl rfl (lanes_idfs _)), .inr rfl, .inr rfl, .inr rfl, trivial⟩, by decide, fun i hi => absurd hi (Nat.not_lt_zero _)⟩ ?_
      repeat' (first|refine wS ?_|refine wB ?_|refine wK ?_|refine wR ?_|refine wE ?_|refine wT ?_|refine wU ?_|(refine rg 7 ?_;(all_goals (refine mV ?_));(all_goals first|(refine vc_pcallw [6,4,5] rfl rfl hg1 rfl rfl (by decide) ⟨.inr rfl,.inr (sub_map rfl rfl rfl rfl),.inr (sub_map rfl rfl rfl rfl),trivial⟩ (by simp) rfl ?_;rintro r o (⟨rfl,T1,U1,rfl,f1,f2,f3,f4⟩|⟨rfl,rfl,R1,f1⟩))|(refine vc_pcallw [6,4,7] rfl rfl (grow_c s g (walkP s.fl) hWa (by omega) hWr c ⟨hc0,hc1⟩ hcx f1 f2 (flow_iw f1) f3 f4) rfl rfl (by decide) ⟨.inr rfl,.inr (by first|exact sub_map rfl rfl rfl (tr_idf _)|exact sub_map rfl rfl (mapL_idf _ _ (tr_idf _)) (tr_idf _)),.inr (by first|exact sub_map rfl rfl rfl (pv_idf _)|exact sub_map rfl rfl (mapL_idf _ _ (pv_idf _)) (pv_idf _)),trivial⟩ (by simp) rfl ?_;rintro r o (⟨rfl,T2,U2,rfl,k1,k2,k3,k4⟩|⟨rfl,rfl,R2,k1⟩)));(all_goals (refine vV (by exact fs_not rfl) ?_;refine mV ?_));(all_goals first|(refine gK ?_));(all_goals first|(refine gT ?_;(refine mV ?_);refine gT ?_;(first|(refine vc_pcallw [6,4,5] rfl rfl hg1 rfl rfl (by decide) ⟨.inr rfl,.inr (sub_map rfl rfl rfl rfl),.inr (sub_map rfl rfl rfl rfl),trivial⟩ (by simp) rfl ?_;rintro r o (⟨rfl,T1,U1,rfl,f1,f2,f3,f4⟩|⟨rfl,rfl,R1,f1⟩))|(refine vc_pcallw [6,4,7] rfl rfl (grow_c s g (walkP s.fl) hWa (by omega) hWr c ⟨hc0,hc1⟩ hcx f1 f2 (flow_iw f1) f3 f4) rfl rfl (by decide) ⟨.inr rfl,.inr (by first|exact sub_map rfl rfl rfl (tr_idf _)|exact sub_map rfl rfl (mapL_idf _ _ (tr_idf _)) (tr_idf _)),.inr (by first|exact sub_map rfl rfl rfl (pv_idf _)|exact sub_map rfl rfl (mapL_idf _ _ (pv_idf _)) (pv_idf _)),trivial⟩ (by simp) rfl ?_;rintro r o (⟨rfl,T2,U2,rfl,k1,k2,k3,k4⟩|⟨rfl,rfl,R2,k1⟩))))|(iterate 2 first|refine gF ?_|refine gU ?_));(all_goals first|(refine gT ?_;(refine vV (by exact fs_not rfl) ?_))|(refine gF ?_)|(refine gU ?_));(all_goals (first|refine pV ?_|refine vV (by exact fs_pick rfl rfl rfl) ?_)))|refine nZ ?_)
      · have hw2 := ways_p s g (walkP s.fl) (by omega) hWr c k1 k3 k4
        repeat' (first|refine wS ?_|refine wB ?_|refine wK ?_|refine wR ?_|refine wE ?_|refine wT ?_|refine wU ?_|(refine rg 9 ?_;(all_goals (refine mV ?_));(all_goals (refine vc_pcallw [6,4,8] rfl rfl hw2 rfl rfl (by decide) ⟨.inr rfl,.inr (by first|exact sub_map rfl rfl rfl (tr_idf _)|exact sub_map rfl rfl (mapL_idf _ _ (tr_idf _)) (tr_idf _)),.inr (by first|exact sub_map rfl rfl rfl (pv_idf _)|exact sub_map rfl rfl (mapL_idf _ _ (pv_idf _)) (pv_idf _)),trivial⟩ (by simp) rfl ?_;rintro r o ⟨es,bF,hwk,rfl,rfl⟩));(all_goals (refine aV ?_)))|refine nZ ?_)
        obtain ⟨e0, e1, rfl, hp⟩ := two_ok k1 hwk
        refine aw_keep [(1, .ptr 0 0), (2, .ptr 1 0), (5, .ptr 2 0), (6, .rowE (ints (walkP s.fl)) 1), (8, .i c), (10, .sl 4 0 2 1), (17, .rowE (ints K) 1), (18, .i K.length), (19, .i (L.length : Int))]
          [.cells (sitA s), .cells [.nils, .i 0], .cells [.sl 3 0 L.length 3, .i b], .arr (lanesA L) 3, .arr (rwI [wayR bF e0, wayR bF e1]) 1] ⟨[0, 1, 2, 3, 9], rfl, (by (repeat (first | exact trivial | refine ⟨rfl, ?_⟩))), ⟨.inr rfl, .inr rfl, .inr rfl, .inr (sub_arr rfl rfl (lanes_idfs _)), .inr (sub_rwI rfl rfl), trivial⟩, by decide, fun i hi => absurd hi (Nat.not_lt_zero _)⟩ ?_
        refine aw_frz 10 rfl rfl rfl (idfL_flat (rwI_idfs _)) ?_
        have qa : (rwI [wayR bF e0, wayR bF e1])[(0 : Int).toNat]? = some [.rowE (ints (wayR bF e0)) 1] := rfl
        have qb : (rwI [wayR bF e0, wayR bF e1])[(1 : Int).toNat]? = some [.rowE (ints (wayR bF e1)) 1] := rfl
        generalize wayR bF e0 = w0 at *
        generalize wayR bF e1 = w1 at *
        repeat' (first|refine wS ?_|refine wB ?_|refine wK ?_|refine wR ?_|refine wE ?_|refine wT ?_|refine wU ?_|(((refine aw_draw4k (id := 10) 57 [[],[0],[],[],[3],[3,4],[],[6],[6,7],[2,3,4,5,6,7,8],[2,3,4,5,6,7,8,9],[0,1,2,3,4,5,6,7,8,9,10]] [42,43,44,45,46,47,48,49,50,51,52,53] [[],[],[42,43],[42,43,44],[42,43,44],[42,43,44],[42,43,44,45,46,47],[42,43,44,45,46,47],[42,43,44,45,46,47],[42,43],[42,43],[]] [(11,3)] mixedP rfl (by decide +kernel) ?_));(all_goals (refine dwa_v rfl rfl rfl rfl (by exact fs_fieldAddr T rfl rfl rfl) ?_;refine dwa_v rfl rfl rfl rfl (by exact fs_load T rfl rfl rfl rfl) ?_;refine dwa_v rfl rfl rfl rfl (by exact fs_move rfl) ?_;refine dwa_v rfl rfl rfl rfl (by exact fs_move rfl) ?_;refine dwa_v rfl rfl rfl rfl (by first|exact fs_indexRowE T rfl rfl rfl rfl rfl (by decide) (rwI_len _) qa|exact fs_indexRowE T rfl rfl rfl rfl rfl (by decide) (rwI_len _) qb) ?_;refine dwa_v rfl rfl rfl rfl (by exact fs_load T rfl rfl rfl rfl) ?_;refine dwa_v rfl rfl rfl rfl (by exact fs_move rfl) ?_;refine dwa_v rfl rfl rfl rfl (by first|exact fs_indexRowE T rfl rfl rfl rfl rfl (by decide) (rwI_len _) qa|exact fs_indexRowE T rfl rfl rfl rfl rfl (by decide) (rwI_len _) qb) ?_;refine dwa_v rfl rfl rfl rfl (by exact fs_load T rfl rfl rfl rfl) ?_;refine dwa_v rfl rfl rfl rfl (by exact fs_build T rfl rfl rfl rfl) ?_;refine dwa_n rfl rfl rfl rfl (by first|exact fs_buildSlice T rfl rfl (by decide) (by decide) rfl rfl rfl) rfl ?_));(all_goals first|(refine dwa_a1 rfl rfl rfl rfl (Nat.le_of_ble_eq_true rfl) (by exact as_append T rfl rfl rfl rfl rfl rfl (by simp) (Elems.whole rfl rfl) rfl (by simp;omega) (by simp;omega)) ?_));(all_goals (refine dwa_fin rfl rfl rfl (by first|(dsimp only [applyS,ln1,ln2,List.append_nil,ln4,ln5,ln6,ln7,ln8,ln9,putAt,putd,allObjs,argEnv,un_v,un_ptr,un_ep,un_pr,un_sl,un_mp,un_row,un_agg,un_tup,un_clo,Nat.zero_add,lnb,Nat.reduceAdd,lnc,lnd];exact rfl)|exact rfl) ?_;refine fV T ?_;refine vc_store T rfl rfl rfl rfl rfl rfl (by decide) rfl ?_)))|(refine rg 11 ?_;refine vV (by first|exact fs_addr rfl rfl (by omega) (by omega)|exact fs_add rfl rfl) ?_;refine mV ?_)|refine nZ ?_)
        have hln : (L ++ [(c, w0, w1)]).length = L.length + 1 := by simp
        all_goals exact ⟨⟨L ++ [(c, w0, w1)], by rw [List.length_append, List.length_singleton]; omega, by rw [List.map_append, hLm, List.length_append, List.length_singleton, htk]; rfl, fun x hx => (List.mem_append.1 hx).elim (hLp x) (fun h => by simp only [List.mem_singleton] at h; rw [h]; exact hp)⟩, by dsimp only; rw [List.length_append, List.length_singleton]; omega, [0, 1, 2, 6], rfl, ⟨rfl, rfl, rfl, rfl, rfl, rfl, (congrArg (fun n : Nat => some (AV.i (n : Int))) hln).symm, trivial⟩, ⟨.inr rfl, .inr rfl, .inr (congrArg (fun n : Nat => some (AB.cells [.sl 6 0 n 3, .i b])) hln).symm, .inr (sub_arr rfl (lanes_next L (c, w0, w1)) (lanes_idfs _)), trivial⟩, by decide, fun i hi => absurd hi (Nat.not_lt_zero _)⟩
      · repeat' (first | refine wS ?_ | refine wB ?_ | refine wK ?_ | refine wR ?_ | refine wE ?_ | refine aw_condt rfl ?_ | refine aw_condf rfl ?_ | (refine wC rfl (fun hb => ?_) (fun hb => ?_) <;> (first | subst hb | ((try simp only [nm] at hb); try (exfalso; omega)))) | (((refine rg 8 ?_)); (all_goals (refine vV (by exact fs_build T rfl rfl rfl rfl) ?_; refine mV ?_; refine vc_store T rfl rfl rfl rfl rfl rfl (by decide) rfl ?_; refine aV ?_; refine aV ?_))) | (refine vc_nilp (by (first | (dsimp only [ln1, ln2, List.append_nil, ln4, ln5, ln6, ln7, ln8, ln9, putAt, putd, allObjs, argEnv, un_v, un_ptr, un_ep, un_pr, un_sl, un_mp, un_row, un_agg, un_tup, un_clo, Nat.zero_add, lnb, Nat.reduceAdd, lnc, lnd]; first | done | exact rfl) | exact rfl)) ?_))
        all_goals exact ⟨_, _, .inr ⟨L, c, K.drop (L.length + 1), by rw [hLm]; exact hsp, hLp, stuck_1 g hcx f1 k1, rfl, rfl⟩, .inl rfl, [], _, rfl, rfl, rfl, trivial, List.nodup_nil, fun i hi => absurd hi (Nat.not_lt_zero _)⟩
      · repeat' (first | refine wS ?_ | refine wB ?_ | refine wK ?_ | refine wR ?_ | refine wE ?_ | refine aw_condt rfl ?_ | refine aw_condf rfl ?_ | (refine wC rfl (fun hb => ?_) (fun hb => ?_) <;> (first | subst hb | ((try simp only [nm] at hb); try (exfalso; omega)))) | (((refine rg 8 ?_)); (all_goals (refine vV (by exact fs_build T rfl rfl rfl rfl) ?_; refine mV ?_; refine vc_store T rfl rfl rfl rfl rfl rfl (by decide) rfl ?_; refine aV ?_; refine aV ?_))) | (refine vc_nilp (by (first | (dsimp only [ln1, ln2, List.append_nil, ln4, ln5, ln6, ln7, ln8, ln9, putAt, putd, allObjs, argEnv, un_v, un_ptr, un_ep, un_pr, un_sl, un_mp, un_row, un_agg, un_tup, un_clo, Nat.zero_add, lnb, Nat.reduceAdd, lnc, lnd]; first | done | exact rfl) | exact rfl)) ?_))
        all_goals exact ⟨_, _, .inr ⟨L, c, K.drop (L.length + 1), by rw [hLm]; exact hsp, hLp, stuck_0 g hcx (flow_0 s (walkP s.fl) c) f1, rfl, rfl⟩, .inl rfl, [], _, rfl, rfl, rfl, trivial, List.nodup_nil, fun i hi => absurd hi (Nat.not_lt_zero _)⟩
    · have hle : L.length = K.length := by omega
      rw [hle, List.take_length] at hLm
      repeat' (first|refine wS ?_|refine wB ?_|refine wK ?_|refine wR ?_|refine wE ?_|refine wT ?_|refine wU ?_|(refine rg 4 ?_;refine vV (by first|exact fs_lssF rfl rfl (by omega)|exact fs_lss rfl rfl) ?_)|(refine rg 12 ?_;refine lV T ?_;refine vc_store T rfl rfl rfl rfl rfl rfl (by decide) rfl ?_;refine aV ?_;refine aV ?_)|refine nZ ?_)
      all_goals exact ⟨_, _, .inl ⟨L, hLm, hLp, rfl, rfl⟩, .inl rfl, [3], _, rfl, rfl, rfl, ⟨.inr (sub_arr rfl rfl (lanes_idfs _)), trivial⟩, by decide, fun i hi => absurd hi (Nat.not_lt_zero _)⟩
  · rintro r o (⟨L, h1, h2, rfl, rfl⟩ | ⟨L, c, post, h1, h2, h3, rfl, rfl⟩)
    · refine ⟨_, ?_, .ok L h1 h2⟩
      have e : AV.rowE (lanesA L) 3 = .row (lanesA L).flatten L.length 3 := by simp [AV.rowE]
      dsimp only [certA]
      rw [e]
      refine .tup (.cons (.agg (.cons (.sl (es := lanesA L) rfl (by simp) ?_) (.cons (.v _) .nil))) (.cons (.v _) (.cons (.v _) .nil)))
      rw [List.drop_zero, List.take_of_length_le (by simp)]
      exact viewL_self _ (lanes_pln L)
    · exact ⟨_, .tup (.cons (.agg (.cons (.nils 3) (.cons (.v _) .nil))) (.cons (.v _) (.cons (.v _) .nil))), .no L c post h1 h2 h3⟩
end Go.Proofs.Ytjpcpbbkelgkeaa
namespace Go.Proofs.Ytjpcpbbkelgkeaa
open Go Go.Ab Go.Fl Go.Re Go.Ln Go.MapKept
attribute [local irreducible] VC AW FStep ACall PCall AStep
set_option maxHeartbeats 4000000
theorem ticks_c (l w : List Int) (hl : l.length ≤ 1000000) : ACall Try.prog 24 [.rowE (ints l) 1, .rowE (ints w) 1] [] (.i (tickP w l)) [] := by
  have hll : (ints l).length = l.length := ints_length _
  have hwl : (ints w).length = w.length := ints_length _
  have hmin : min (1 : Int) (((ints l).length : Nat) : Int) = ((min 1 l.length : Nat) : Int) := by rw [hll]; omega
  have hdr : (ints l).drop (min 1 l.length) = ints (l.drop 1) := by
    cases l with
    | nil => rfl
    | cons a l => rw [show min 1 (a :: l).length = 1 by simp]; rfl
  have htl : (l.drop 1).length ≤ 1000000 := by rw [List.length_drop]; omega
  unfold tickP
  refine acall T Try.func24 rfl rfl rfl rfl ?_
  repeat' (first|refine wS ?_|refine wB ?_|refine wK ?_|refine wR ?_|refine wE ?_|refine wT ?_|refine wU ?_|(refine wC rfl (fun hb=>?_) (fun hb=>?_)<;>(first|subst hb|((try simp only [nm] at hb);try (exfalso;omega))))|(refine rg 0 ?_;refine aV ?_)|(refine rg 1 ?_;refine aV ?_)|(refine rg 2 ?_;refine mV ?_;refine mV ?_;(first|refine qV T ?_|refine vV (by exact fs_lenNil T rfl rfl) ?_);refine vV (by exact fs_min rfl rfl) ?_;refine vV (by exact (show FStep _ _ _ _ 0 (fun _=>AV.rowE (ints (l.drop 1)) 1) (fun _=>[]) from hdr ▸ fs_sliceFromE T rfl rfl rfl rfl (k := min 1 l.length) (congrArg some hmin) (by omega) (ints_len _))) ?_;(first|refine qV T ?_|refine vV (by exact fs_lenNil T rfl rfl) ?_);refine mV ?_)|refine nZ ?_)
  generalize l.drop 1 = t at *
  have htl2 : (ints t).length = t.length := ints_length _
  refine aw_loop (X := {p : Nat × Int // p.1 ≤ t.length ∧ tickL w p.2 (t.drop p.1) = tickL w 0 t}) (fun p => [(1, .rowE (ints w) 1), (5, .i p.1.2), (12, .rowE (ints t) 1), (13, .i t.length), (14, .i (p.1.1 : Int))]) (fun _ => []) (fun p => t.length - p.1.1) ⟨(0, 0), Nat.zero_le _, by rw [List.drop_zero]⟩ ⟨[], rfl, ⟨rfl, rfl, rfl, congrArg (fun n : Nat => some (AV.i n)) htl2, rfl, trivial⟩, trivial, List.nodup_nil, fun i hi => absurd hi (Nat.not_lt_zero _)⟩ ?_
  rintro ⟨⟨j, n⟩, hj, hn⟩
  dsimp only at hj hn ⊢
  by_cases hlt : j < t.length
  · rw [List.drop_eq_getElem_cons hlt, tick_cons] at hn
    have q1 : (ints t)[(j : Int).toNat]? = some [AV.i t[j]] := by rw [Int.toNat_natCast]; exact ints_get hlt
    generalize t[j] = c at *
    by_cases h1 : 0 ≤ c ∧ c < w.length
    · have q2 := ints_gI (l := w) (j := c) (i := c.toNat) (-1) (by omega) (by omega)
      generalize w.getD c.toNat (-1) = y at *
      by_cases h2 : y = -1
      · rw [if_neg (fun h => h.2.2 h2)] at hn
        rw [← hn]
        repeat' (first|refine wS ?_|refine wB ?_|refine wK ?_|refine wR ?_|refine wE ?_|refine wT ?_|refine wU ?_|(refine wC rfl (fun hb=>?_) (fun hb=>?_)<;>(first|subst hb|((try simp only [nm] at hb);try (exfalso;omega))))|(refine rg 3 ?_;refine vV (by first|exact fs_lssT rfl rfl (by omega)|exact fs_lssF rfl rfl (by omega)) ?_)|(refine rg 4 ?_;refine vV (by first|exact fs_indexRowE T rfl rfl rfl rfl rfl (by omega) (ints_len _) q1|exact fs_indexRowE T rfl rfl rfl rfl rfl (by omega) (ints_len _) q2) ?_;refine lV T ?_;refine aV ?_)|(refine rg 5 ?_;(all_goals (refine mV ?_;refine vV (by first|exact fs_lssT rfl rfl (by omega)|exact fs_lssF rfl rfl (by omega)) ?_;refine mV ?_));(all_goals first|(refine gK ?_)|(refine vc_split rfl rfl (fun hb=>?_) (fun hb=>?_)<;>(first|subst hb|(rw [hb];(try simp only [nm] at hb);try ((exfalso;omega);done)))));(all_goals first|(refine gT ?_;(refine mV ?_);refine gT ?_;(refine mV ?_);refine gT ?_;(first|refine qV T ?_|refine vV (by exact fs_lenNil T rfl rfl) ?_);refine gT ?_;(refine vV (by first|exact fs_geqF rfl rfl (by omega)|exact fs_geq rfl rfl) ?_))|(iterate 4 first|refine gF ?_|refine gU ?_));(all_goals ((first|refine pV ?_|refine vV (by exact fs_pick rfl rfl rfl) ?_);refine mV ?_));(all_goals first|(refine gK ?_)|(refine vc_split rfl rfl (fun hb=>?_) (fun hb=>?_)<;>(first|subst hb|(rw [hb];(try simp only [nm] at hb);try ((exfalso;omega);done)))));(all_goals first|(refine gT ?_;(refine mV ?_);refine gT ?_;(refine mV ?_);refine gT ?_;(refine vV (by first|exact fs_indexRowE T rfl rfl rfl rfl rfl (by omega) (ints_len _) q1|exact fs_indexRowE T rfl rfl rfl rfl rfl (by omega) (ints_len _) q2) ?_);refine gT ?_;(refine lV T ?_);refine gT ?_;(refine vV (by first|exact fs_eqlT rfl rfl h2|exact fs_eql rfl rfl) ?_))|(iterate 5 first|refine gF ?_|refine gU ?_));(all_goals (first|refine pV ?_|refine vV (by exact fs_pick rfl rfl rfl) ?_)))|(refine rg 6 ?_;refine aV ?_)|refine nZ ?_)
        all_goals first | (exfalso; omega) | exact ret_plain (.inl rfl) rfl rfl
      · rw [if_pos ⟨h1.1, h1.2, h2⟩] at hn
        repeat' (first|refine wS ?_|refine wB ?_|refine wK ?_|refine wR ?_|refine wE ?_|refine wT ?_|refine wU ?_|(refine wC rfl (fun hb=>?_) (fun hb=>?_)<;>(first|subst hb|((try simp only [nm] at hb);try (exfalso;omega))))|(refine rg 3 ?_;refine vV (by first|exact fs_lssT rfl rfl (by omega)|exact fs_lssF rfl rfl (by omega)) ?_)|(refine rg 4 ?_;refine vV (by first|exact fs_indexRowE T rfl rfl rfl rfl rfl (by omega) (ints_len _) q1|exact fs_indexRowE T rfl rfl rfl rfl rfl (by omega) (ints_len _) q2) ?_;refine lV T ?_;refine aV ?_)|(refine rg 5 ?_;(all_goals (refine mV ?_;refine vV (by first|exact fs_lssT rfl rfl (by omega)|exact fs_lssF rfl rfl (by omega)) ?_;refine mV ?_));(all_goals first|(refine gK ?_)|(refine vc_split rfl rfl (fun hb=>?_) (fun hb=>?_)<;>(first|subst hb|(rw [hb];(try simp only [nm] at hb);try ((exfalso;omega);done)))));(all_goals first|(refine gT ?_;(refine mV ?_);refine gT ?_;(refine mV ?_);refine gT ?_;(first|refine qV T ?_|refine vV (by exact fs_lenNil T rfl rfl) ?_);refine gT ?_;(refine vV (by first|exact fs_geqF rfl rfl (by omega)|exact fs_geq rfl rfl) ?_))|(iterate 4 first|refine gF ?_|refine gU ?_));(all_goals ((first|refine pV ?_|refine vV (by exact fs_pick rfl rfl rfl) ?_);refine mV ?_));(all_goals first|(refine gK ?_)|(refine vc_split rfl rfl (fun hb=>?_) (fun hb=>?_)<;>(first|subst hb|(rw [hb];(try simp only [nm] at hb);try ((exfalso;omega);done)))));(all_goals first|(refine gT ?_;(refine mV ?_);refine gT ?_;(refine mV ?_);refine gT ?_;(refine vV (by first|exact fs_indexRowE T rfl rfl rfl rfl rfl (by omega) (ints_len _) q1|exact fs_indexRowE T rfl rfl rfl rfl rfl (by omega) (ints_len _) q2) ?_);refine gT ?_;(refine lV T ?_);refine gT ?_;(refine vV (by first|exact fs_eqlF rfl rfl h2|exact fs_eql rfl rfl) ?_))|(iterate 5 first|refine gF ?_|refine gU ?_));(all_goals (first|refine pV ?_|refine vV (by exact fs_pick rfl rfl rfl) ?_)))|(refine rg 7 ?_;refine mV ?_;refine mV ?_;refine mV ?_;refine vV (by first|exact fs_indexRowE T rfl rfl rfl rfl rfl (by omega) (ints_len _) q1|exact fs_indexRowE T rfl rfl rfl rfl rfl (by omega) (ints_len _) q2) ?_;refine lV T ?_;refine vV (by exact fs_max rfl rfl) ?_;refine aV ?_)|(refine rg 8 ?_;refine vV (by first|exact fs_addr rfl rfl (by omega) (by omega)|exact fs_add rfl rfl) ?_;refine mV ?_)|refine nZ ?_)
        all_goals first | (exfalso; omega) | exact ⟨⟨(j + 1, max n y), hlt, hn⟩, by dsimp only; omega, by (refine ⟨[], rfl, ?_, trivial, List.nodup_nil, fun _ h => absurd h (Nat.not_lt_zero _)⟩; (repeat (first | exact trivial | refine ⟨rfl, ?_⟩)))⟩
    · rw [if_neg (fun h => h1 ⟨h.1, h.2.1⟩)] at hn
      rw [← hn]
      repeat' (first|refine wS ?_|refine wB ?_|refine wK ?_|refine wR ?_|refine wE ?_|refine wT ?_|refine wU ?_|(refine wC rfl (fun hb=>?_) (fun hb=>?_)<;>(first|subst hb|((try simp only [nm] at hb);try (exfalso;omega))))|(refine rg 3 ?_;refine vV (by first|exact fs_lssT rfl rfl (by omega)|exact fs_lss rfl rfl) ?_)|(refine rg 4 ?_;refine vV (by exact fs_indexRowE T rfl rfl rfl rfl rfl (by omega) (ints_len _) q1) ?_;refine lV T ?_;refine aV ?_)|(refine rg 5 ?_;(all_goals (refine mV ?_;refine vV (by first|exact fs_lssT rfl rfl (by omega)|exact fs_lss rfl rfl) ?_;refine mV ?_));(all_goals first|(refine gK ?_)|(refine vc_split rfl rfl (fun hb=>?_) (fun hb=>?_)<;>(first|subst hb|(rw [hb];(try simp only [nm] at hb);try ((exfalso;omega);done)))));(all_goals first|(refine gT ?_;(refine mV ?_);refine gT ?_;(refine mV ?_);refine gT ?_;(first|refine qV T ?_|refine vV (by exact fs_lenNil T rfl rfl) ?_);refine gT ?_;(refine vV (by exact fs_geq rfl rfl) ?_))|(iterate 4 first|refine gF ?_|refine gU ?_));(all_goals ((first|refine pV ?_|refine vV (by exact fs_pick rfl rfl rfl) ?_);refine mV ?_));(all_goals first|(refine gK ?_)|(refine vc_split rfl rfl (fun hb=>?_) (fun hb=>?_)<;>(first|subst hb|(rw [hb];(try simp only [nm] at hb);try ((exfalso;omega);done)))));(all_goals first|(refine gT ?_;(refine mV ?_);refine gT ?_;(refine mV ?_);refine gT ?_;(refine vV (by exact fs_indexRowE T rfl rfl rfl rfl rfl (by omega) (ints_len _) q1) ?_);refine gT ?_;(refine lV T ?_);refine gT ?_;(refine vV (by exact fs_eql rfl rfl) ?_))|(iterate 5 first|refine gF ?_|refine gU ?_));(all_goals (first|refine pV ?_|refine vV (by exact fs_pick rfl rfl rfl) ?_)))|(refine rg 6 ?_;refine aV ?_)|refine nZ ?_)
      all_goals first | (exfalso; omega) | exact ret_plain (.inl rfl) rfl rfl
  · rw [List.drop_of_length_le (by omega)] at hn
    rw [← hn]
    rw [show tickL w n [] = n from rfl]
    repeat' (first|refine wS ?_|refine wB ?_|refine wK ?_|refine wR ?_|refine wE ?_|refine wT ?_|refine wU ?_|(refine wC rfl (fun hb=>?_) (fun hb=>?_)<;>(first|subst hb|((try simp only [nm] at hb);try (exfalso;omega))))|(refine rg 3 ?_;refine vV (by first|exact fs_lssF rfl rfl (by omega)|exact fs_lss rfl rfl) ?_)|(refine rg 9 ?_;refine mV ?_;refine aV ?_)|refine nZ ?_)
    all_goals first | (exfalso; omega) | exact ret_plain (.inl rfl) rfl rfl
def laneF : List LaneT → Int → Int → Int
  | [], _, _ => -1
  | x :: l, c, k => if x.1 = c then k else laneF l c (k + 1)
theorem laneF_drop {l : List LaneT} {c : Int} {k : Nat} (h : k < l.length) : laneF (l.drop k) c k = if (l[k]).1 = c then (k : Int) else laneF (l.drop (k + 1)) c ((k + 1 : Nat) : Int) := by
  rw [List.drop_eq_getElem_cons h]; simp [laneF]
theorem laneF_find : ∀ (l : List LaneT) (c : Int) (k : Nat), (laneF l c k = -1 ∧ l.find? (fun x => decide (x.1 = c)) = none) ∨ ∃ i : Nat, laneF l c k = ((k + i : Nat) : Int) ∧ i < l.length ∧ l[i]? = l.find? (fun x => decide (x.1 = c))
  | [], _, _ => .inl ⟨rfl, rfl⟩
  | x :: l, c, k => by
    unfold laneF
    by_cases h : x.1 = c
    · rw [if_pos h]
      exact .inr ⟨0, rfl, by simp, by simp [h]⟩
    · rw [if_neg h, List.find?_cons_of_neg (by simpa using h)]
      rcases laneF_find l c (k + 1) with ⟨h1, h2⟩ | ⟨i, h1, h2, h3⟩
      · exact .inl ⟨h1, h2⟩
      · exact .inr ⟨i + 1, by rw [← show ((k + 1 : Nat) : Int) = (k : Int) + 1 by omega, h1]; omega, by simp only [List.length_cons]; omega, by rw [List.getElem?_cons_succ]; exact h3⟩
theorem lanes_get {l : List LaneT} {i : Nat} {x : LaneT} (h : l[i]? = some x) : (lanesA l)[i]? = some (laneA x) := by simp [h]
theorem req1_c (x : LaneT) (c : Int) : ACall Try.prog 23 [.agg (laneA x), .pr [.i c] 0] [] (.b (decide (x.1 = c))) [] := by
  obtain ⟨y, a, b⟩ := x
  refine acall T Try.func23 rfl rfl rfl rfl ?_
  repeat' (first|refine wS ?_|refine wB ?_|refine wK ?_|refine wR ?_|refine wE ?_|refine wT ?_|refine wU ?_|(refine rg 0 ?_;refine vc_n (by exact fs_box rfl rfl) rfl ?_;refine aV ?_)|(refine rg 1 ?_;refine fV T ?_;refine vV (by first|exact fs_load T rfl rfl rfl rfl|exact fs_loadPr T rfl rfl rfl|exact fs_load T rfl rfl rfl rfl) ?_;refine vV (by first|exact fs_load T rfl rfl rfl rfl|exact fs_loadPr T rfl rfl rfl|exact fs_load T rfl rfl rfl rfl) ?_;refine vV (by exact fs_eql rfl rfl) ?_;refine aV ?_)|refine nZ ?_)
  all_goals first | (exfalso; omega) | exact ret_plain (.inl rfl) rfl rfl
theorem indexL_c (l : List LaneT) (c : Int) (hl : l.length ≤ 9223372036854775807) : ACall Try.prog 22 [.rowE (lanesA l) 3, .clo (.func 23) [] [.pr [.i c] 0]] [] (.i (laneF l c 0)) [] := by
  have hlen : (lanesA l).length = l.length := by simp
  refine acall T Try.func22 rfl rfl rfl rfl ?_
  repeat' (first|refine wS ?_|refine wB ?_|refine wK ?_|refine wR ?_|refine wE ?_|refine wT ?_|refine wU ?_|(refine rg 0 ?_;refine aV ?_)|(refine rg 1 ?_;refine mV ?_;(first|refine qV T ?_|refine vV (by exact fs_lenNil T rfl rfl) ?_);refine mV ?_)|refine nZ ?_)
  refine aw_loop (X := {k : Nat // k ≤ l.length ∧ laneF l c 0 = laneF (l.drop k) c k}) (fun k => [(0, .rowE (lanesA l) 3), (1, .clo (.func 23) [] [.pr [.i c] 0]), (7, .i (lanesA l).length), (8, .i k.1)]) (fun _ => []) (fun k => l.length - k.1) ⟨0, by simp, rfl⟩ (by (refine ⟨[], rfl, ?_, trivial, List.nodup_nil, fun _ h => absurd h (Nat.not_lt_zero _)⟩; (repeat (first | exact trivial | refine ⟨rfl, ?_⟩)))) ?_
  rintro ⟨k, hk, hf⟩
  dsimp only
  by_cases hlt : k < l.length
  · have hd := laneF_drop (c := c) hlt
    have q1 : (lanesA l)[(k : Int).toNat]? = some (laneA l[k]) := lanes_get (by rw [Int.toNat_natCast, List.getElem?_eq_getElem hlt])
    have hc := req1_c l[k] c
    generalize l[k] = r at *
    obtain ⟨y, a, b⟩ := r
    dsimp only at hc hd q1
    by_cases hb : y = c
    · rw [decide_eq_true hb] at hc
      rw [hf, hd, if_pos hb]
      repeat' (first|refine wS ?_|refine wB ?_|refine wK ?_|refine wR ?_|refine wE ?_|refine wT ?_|refine wU ?_|(refine rg 0 ?_;refine aV ?_)|(refine rg 1 ?_;refine mV ?_;(first|refine qV T ?_|refine vV (by exact fs_lenNil T rfl rfl) ?_);refine mV ?_)|(refine rg 2 ?_;refine vV (by first|exact fs_lssT rfl rfl (by omega)|exact fs_lss rfl rfl) ?_)|(refine rg 3 ?_;refine mV ?_;refine aV ?_)|(refine rg 4 ?_;refine mV ?_;refine mV ?_;refine mV ?_;refine vV (by exact fs_indexRowE T rfl rfl rfl rfl rfl (by omega) (lanes_len l) q1) ?_;refine lV T ?_;refine vV (by exact kC (hc)) ?_)|(refine rg 5 ?_;refine mV ?_;refine aV ?_)|(refine rg 6 ?_;refine vV (by first|exact fs_addr rfl rfl (by omega) (by omega)|exact fs_add rfl rfl) ?_;refine mV ?_)|(refine rg 7 ?_;refine aV ?_)|refine nZ ?_)
      all_goals first | (exfalso; omega) | exact ret_plain (.inl rfl) rfl rfl
    · rw [decide_eq_false hb] at hc
      rw [if_neg hb] at hd
      repeat' (first|refine wS ?_|refine wB ?_|refine wK ?_|refine wR ?_|refine wE ?_|refine wT ?_|refine wU ?_|(refine rg 0 ?_;refine aV ?_)|(refine rg 1 ?_;refine mV ?_;(first|refine qV T ?_|refine vV (by exact fs_lenNil T rfl rfl) ?_);refine mV ?_)|(refine rg 2 ?_;refine vV (by first|exact fs_lssT rfl rfl (by omega)|exact fs_lss rfl rfl) ?_)|(refine rg 3 ?_;refine mV ?_;refine aV ?_)|(refine rg 4 ?_;refine mV ?_;refine mV ?_;refine mV ?_;refine vV (by exact fs_indexRowE T rfl rfl rfl rfl rfl (by omega) (lanes_len l) q1) ?_;refine lV T ?_;refine vV (by exact kC (hc)) ?_)|(refine rg 5 ?_;refine mV ?_;refine aV ?_)|(refine rg 6 ?_;refine vV (by first|exact fs_addr rfl rfl (by omega) (by omega)|exact fs_add rfl rfl) ?_;refine mV ?_)|(refine rg 7 ?_;refine aV ?_)|refine nZ ?_)
      all_goals first | (exfalso; omega) | exact ⟨⟨k + 1, by omega, by rw [hf, hd]⟩, by dsimp only; omega, by (refine ⟨[], rfl, ?_, trivial, List.nodup_nil, fun _ h => absurd h (Nat.not_lt_zero _)⟩; (repeat (first | exact trivial | refine ⟨rfl, ?_⟩)))⟩
  · rw [hf, List.drop_of_length_le (by omega)]
    repeat' (first|refine wS ?_|refine wB ?_|refine wK ?_|refine wR ?_|refine wE ?_|refine wT ?_|refine wU ?_|(refine rg 0 ?_;refine aV ?_)|(refine rg 1 ?_;refine mV ?_;(first|refine qV T ?_|refine vV (by exact fs_lenNil T rfl rfl) ?_);refine mV ?_)|(refine rg 2 ?_;refine vV (by first|exact fs_lssF rfl rfl (by omega)|exact fs_lss rfl rfl) ?_)|(refine rg 3 ?_;refine mV ?_;refine aV ?_)|(refine rg 4 ?_;(all_goals (refine mV ?_;refine mV ?_;refine mV ?_;refine vV (by fail) ?_;refine lV T ?_));(all_goals first|(refine vV (by first|fail) ?_)|(refine vc_n (by first|fail) rfl ?_)))|(refine rg 5 ?_;refine mV ?_;refine aV ?_)|(refine rg 6 ?_;refine vV (by first|exact fs_addr rfl rfl (by omega) (by omega)|exact fs_add rfl rfl) ?_;refine mV ?_)|(refine rg 7 ?_;refine aV ?_)|refine nZ ?_)
    all_goals first | (exfalso; omega) | exact ret_plain (.inl rfl) rfl rfl
abbrev ansA (x : Int × Int × Int) : AV := .tup [.i x.1, .i x.2.1, .i x.2.2]
theorem request_c (l : List LaneT) (b c : Int) (w : List Int) (hl : l.length ≤ 1000000) (hll : ∀ x, x ∈ l → x.2.1.length ≤ 1000000 ∧ x.2.2.length ≤ 1000000) :
    ACall Try.prog 9 [.agg (certA l b), .i c, .rowE (ints w) 1] [] (ansA (reqP l b c w)) [] := by
  have hi := indexL_c l c (by omega)
  unfold reqP
  rcases laneF_find l c 0 with ⟨h1, h2⟩ | ⟨i, h1, h2, h3⟩
  · rw [h2]
    rw [show laneF l c 0 = -1 from h1] at hi
    dsimp only
    refine acall T Try.func9 rfl rfl rfl rfl ?_
    repeat' (first|refine wS ?_|refine wB ?_|refine wK ?_|refine wR ?_|refine wE ?_|refine wT ?_|refine wU ?_|(refine wC rfl (fun hb=>?_) (fun hb=>?_)<;>(first|subst hb|((try simp only [nm] at hb);try (exfalso;omega))))|(refine rg 0 ?_;refine vc_n (by exact fs_box rfl rfl) rfl ?_;refine vc_n (by exact fs_box rfl rfl) rfl ?_;refine aV ?_;refine aV ?_;refine aV ?_)|(refine rg 1 ?_;refine fV T ?_;refine lV T ?_;refine vV (by exact fs_makeFunc rfl rfl) ?_;refine vV (by exact fs_callb0 rfl rfl hi (.cons (.row _ _ _) (.cons (.clo .nil (.cons (.ptr rfl (.cons (.v _) .nil)) .nil)) .nil)) rfl rfl) ?_;refine aV ?_)|(refine rg 2 ?_;refine mV ?_;refine vV (by exact fs_lss rfl rfl) ?_)|(refine rg 3 ?_;refine aV ?_;refine aV ?_;refine aV ?_)|refine nZ ?_)
    all_goals first | (exfalso; omega) | exact ret_plain (.inl rfl) rfl rfl
  · rw [← h3]
    obtain ⟨x, hx⟩ : ∃ x, l[i]? = some x := ⟨l[i], List.getElem?_eq_getElem h2⟩
    rw [hx]
    have hxl := hll x (List.mem_of_getElem? hx)
    rw [show laneF l c 0 = ((i : Nat) : Int) by rw [show laneF l c 0 = laneF l c ((0 : Nat) : Int) from rfl, h1]; omega] at hi
    have q1 : (lanesA l)[((i : Nat) : Int).toNat]? = some (laneA x) := lanes_get (by rw [Int.toNat_natCast]; exact hx)
    obtain ⟨y, A, B⟩ := x
    have ca := ticks_c A w hxl.1
    have cb := ticks_c B w hxl.2
    dsimp only
    unfold reqA
    dsimp only
    have g1 := tick_ge (w := w) (t := A.drop 1) (n := 0) (by omega)
    have g2 := tick_ge (w := w) (t := B.drop 1) (n := 0) (by omega)
    generalize hta : tickP w A = ta at *
    generalize htb : tickP w B = tb at *
    refine acall T Try.func9 rfl rfl rfl rfl ?_
    repeat' (first|refine wS ?_|refine wB ?_|refine wK ?_|refine wR ?_|refine wE ?_|refine wT ?_|refine wU ?_|(refine wC rfl (fun hb=>?_) (fun hb=>?_)<;>(first|subst hb|((try simp only [nm] at hb);try (exfalso;omega))))|(refine rg 0 ?_;refine vc_n (by exact fs_box rfl rfl) rfl ?_;refine vc_n (by exact fs_box rfl rfl) rfl ?_;refine aV ?_;refine aV ?_;refine aV ?_)|(refine rg 1 ?_;refine fV T ?_;refine lV T ?_;refine vV (by exact fs_makeFunc rfl rfl) ?_;refine vV (by exact fs_callb0 rfl rfl hi (.cons (.row _ _ _) (.cons (.clo .nil (.cons (.ptr rfl (.cons (.v _) .nil)) .nil)) .nil)) rfl rfl) ?_;refine aV ?_)|(refine rg 2 ?_;refine mV ?_;refine vV (by first|exact fs_lssT rfl rfl (by omega)|exact fs_lssF rfl rfl (by omega)) ?_)|(((refine aw_draw2k (id := 4) 63 [[],[0],[],[0,1,2],[0,1,2,3],[0,1,2,3,4],[],[0,1,2,3,4,5,6],[],[8],[],[8,9,10],[8,9,10,11],[8,9,10,11,12],[],[0,1,2,3,4,5,6,7,8,9,10,11,12,13,14],[0,1,2,3,4,5,6,7,8,9,10,11,12,13,14,15]] [18,19,20,21,22,23,24,25,26,27,28,29,30,31,32,33,10] [[],[],[18,19],[],[],[],[18,19,20,21,22,23],[],[18,19,20,21,22,23,24,25],[18,19,20,21,22,23,24,25],[18,19,20,21,22,23,24,25,26,27],[18,19,20,21,22,23,24,25],[18,19,20,21,22,23,24,25],[18,19,20,21,22,23,24,25],[18,19,20,21,22,23,24,25,26,27,28,29,30,31],[],[]] mixedP rfl (by decide +kernel) ?_));(all_goals first|(refine dw_v rfl rfl rfl (by exact fs_fieldAddr T rfl rfl rfl) ?_));(all_goals first|(refine dw_v rfl rfl rfl (by exact fs_load T rfl rfl rfl rfl) ?_));(all_goals first|(refine dw_v rfl rfl rfl (by exact fs_move rfl) ?_));(all_goals first|(refine dw_v rfl rfl rfl (by first|exact fs_indexRowE T rfl rfl rfl rfl rfl (by omega) (lanes_len l) q1) ?_));(all_goals first|(refine dw_v rfl rfl rfl (by exact fs_fieldAddr T rfl rfl rfl) ?_));(all_goals first|(refine dw_v rfl rfl rfl (by exact fs_load T rfl rfl rfl rfl) ?_));(all_goals first|(refine dw_v rfl rfl rfl (by exact fs_move rfl) ?_));(all_goals first|(refine dw_v rfl rfl rfl (by first|exact kC (ca)|exact kC (cb)) ?_)|(refine dw_n rfl rfl rfl (by first|exact kC (ca)|exact kC (cb)) rfl ?_));(all_goals first|(refine dw_v rfl rfl rfl (by exact fs_fieldAddr T rfl rfl rfl) ?_));(all_goals first|(refine dw_v rfl rfl rfl (by exact fs_load T rfl rfl rfl rfl) ?_));(all_goals first|(refine dw_v rfl rfl rfl (by exact fs_move rfl) ?_));(all_goals first|(refine dw_v rfl rfl rfl (by first|exact fs_indexRowE T rfl rfl rfl rfl rfl (by omega) (lanes_len l) q1) ?_));(all_goals first|(refine dw_v rfl rfl rfl (by exact fs_fieldAddr T rfl rfl rfl) ?_));(all_goals first|(refine dw_v rfl rfl rfl (by exact fs_load T rfl rfl rfl rfl) ?_));(all_goals first|(refine dw_v rfl rfl rfl (by exact fs_move rfl) ?_));(all_goals first|(refine dw_v rfl rfl rfl (by first|exact kC (ca)|exact kC (cb)) ?_)|(refine dw_n rfl rfl rfl (by first|exact kC (ca)|exact kC (cb)) rfl ?_));(all_goals first|(refine dw_v rfl rfl rfl (by exact fs_assign rfl) ?_));(all_goals (refine dw_fin rfl rfl (by (first|(dsimp only [ln1,ln2,List.append_nil,ln4,ln5,ln6,ln7,ln8,ln9,putAt,putd,allObjs,argEnv,un_v,un_ptr,un_ep,un_pr,un_sl,un_mp,un_row,un_agg,un_tup,un_clo,Nat.zero_add,lnb,Nat.reduceAdd,lnc,lnd];first|done|exact rfl)|exact rfl)) ?_;refine aV ?_)))|refine nZ ?_)
    refine aw_keep [(3, .ptr 0 0), (6, .i 0), (7, .i 0), (8, .i 0), (10, .i ta), (11, .i tb)] [.cells (certA l b)] ⟨[0], rfl, (by (repeat (first | exact trivial | refine ⟨rfl, ?_⟩))), ⟨.inr rfl, trivial⟩, by decide, fun i hi => absurd hi (Nat.not_lt_zero _)⟩ ?_
    have hcase : (ta < 0 ∧ tb < 0) ∨ (¬ (ta < 0 ∧ tb < 0) ∧ (ta < 0 ∨ (0 ≤ tb ∧ tb < ta)) ∧ b < tb) ∨ (¬ (ta < 0 ∧ tb < 0) ∧ (ta < 0 ∨ (0 ≤ tb ∧ tb < ta)) ∧ ¬ b < tb) ∨ (¬ (ta < 0 ∧ tb < 0) ∧ ¬ (ta < 0 ∨ (0 ≤ tb ∧ tb < ta)) ∧ b < ta) ∨ (¬ (ta < 0 ∧ tb < 0) ∧ ¬ (ta < 0 ∨ (0 ≤ tb ∧ tb < ta)) ∧ ¬ b < ta) := by omega
    rcases hcase with h | ⟨h1, h2, h3⟩ | ⟨h1, h2, h3⟩ | ⟨h1, h2, h3⟩ | ⟨h1, h2, h3⟩
    · rw [if_pos h]
      repeat' (first|refine wS ?_|refine wB ?_|refine wK ?_|refine wR ?_|refine wE ?_|refine wT ?_|refine wU ?_|(refine wC rfl (fun hb=>?_) (fun hb=>?_)<;>(first|subst hb|((try simp only [nm] at hb);try (exfalso;omega))))|(refine rg 6 ?_;(all_goals (refine mV ?_;refine vV (by first|exact fs_lssT rfl rfl (by omega)|exact fs_lssF rfl rfl (by omega)) ?_;refine mV ?_));(all_goals first|(refine gK ?_)|(refine vc_split rfl rfl (fun hb=>?_) (fun hb=>?_)<;>(first|subst hb|(rw [hb];(try simp only [nm] at hb);try ((exfalso;omega);done)))));(all_goals first|(refine gT ?_;(refine mV ?_);refine gT ?_;(refine vV (by first|exact fs_lssT rfl rfl (by omega)|exact fs_lssF rfl rfl (by omega)) ?_))|(iterate 2 first|refine gF ?_|refine gU ?_));(all_goals ((first|refine pV ?_|refine vV (by exact fs_pick rfl rfl rfl) ?_);refine aV ?_)))|(refine rg 7 ?_;refine aV ?_;refine aV ?_;refine aV ?_)|refine nZ ?_)
      all_goals first | (exfalso; omega) | exact ret_plain (.inl rfl) rfl rfl
    · rw [if_neg h1, if_pos h2, if_pos h3]
      repeat' (first|refine wS ?_|refine wB ?_|refine wK ?_|refine wR ?_|refine wE ?_|refine wT ?_|refine wU ?_|(refine wC rfl (fun hb=>?_) (fun hb=>?_)<;>(first|subst hb|((try simp only [nm] at hb);try (exfalso;omega))))|(refine rg 6 ?_;(all_goals (refine mV ?_;refine vV (by exact fs_lss rfl rfl) ?_;refine mV ?_));(all_goals first|(refine gK ?_)|(refine vc_split rfl rfl (fun hb=>?_) (fun hb=>?_)<;>(first|subst hb|(rw [hb];(try simp only [nm] at hb);try ((exfalso;omega);done)))));(all_goals first|(refine gT ?_;(refine mV ?_);refine gT ?_;(refine vV (by exact fs_lss rfl rfl) ?_))|(iterate 2 first|refine gF ?_|refine gU ?_));(all_goals ((first|refine pV ?_|refine vV (by exact fs_pick rfl rfl rfl) ?_);refine aV ?_)))|(refine rg 8 ?_;(all_goals (refine mV ?_;refine vV (by exact fs_lss rfl rfl) ?_;refine mV ?_));(all_goals first|(refine gK ?_)|(refine vc_split rfl rfl (fun hb=>?_) (fun hb=>?_)<;>(first|subst hb|(rw [hb];(try simp only [nm] at hb);try ((exfalso;omega);done)))));(all_goals first|(refine gT ?_;(refine mV ?_);refine gT ?_;(refine vV (by exact fs_geq rfl rfl) ?_);refine gT ?_;(refine mV ?_))|(iterate 3 first|refine gF ?_|refine gU ?_));(all_goals first|(refine gK ?_)|(refine vc_split rfl rfl (fun hb=>?_) (fun hb=>?_)<;>(first|subst hb|(rw [hb];(try simp only [nm] at hb);try ((exfalso;omega);done)))));(all_goals first|(refine gT ?_;(refine mV ?_);refine gT ?_;(refine mV ?_);refine gT ?_;(refine vV (by exact fs_lss rfl rfl) ?_))|(iterate 3 first|refine gF ?_|refine gU ?_));(all_goals first|(refine gT ?_;(first|refine pV ?_|refine vV (by exact fs_pick rfl rfl rfl) ?_))|(refine gF ?_)|(refine gU ?_));(all_goals ((first|refine pV ?_|refine vV (by exact fs_pick rfl rfl rfl) ?_);refine aV ?_)))|(refine rg 9 ?_;refine mV ?_;refine aV ?_;refine aV ?_)|(refine rg 10 ?_;refine mV ?_;refine fV T ?_;refine lV T ?_;refine vV (by exact fs_gtr rfl rfl) ?_)|(refine rg 11 ?_;refine mV ?_;refine mV ?_;refine aV ?_;refine aV ?_;refine aV ?_)|refine nZ ?_)
      all_goals first | (exfalso; omega) | exact ret_plain (.inl rfl) rfl rfl
    · rw [if_neg h1, if_pos h2, if_neg h3]
      repeat' (first|refine wS ?_|refine wB ?_|refine wK ?_|refine wR ?_|refine wE ?_|refine wT ?_|refine wU ?_|(refine wC rfl (fun hb=>?_) (fun hb=>?_)<;>(first|subst hb|((try simp only [nm] at hb);try (exfalso;omega))))|(refine rg 6 ?_;(all_goals (refine mV ?_;refine vV (by exact fs_lss rfl rfl) ?_;refine mV ?_));(all_goals first|(refine gK ?_)|(refine vc_split rfl rfl (fun hb=>?_) (fun hb=>?_)<;>(first|subst hb|(rw [hb];(try simp only [nm] at hb);try ((exfalso;omega);done)))));(all_goals first|(refine gT ?_;(refine mV ?_);refine gT ?_;(refine vV (by exact fs_lss rfl rfl) ?_))|(iterate 2 first|refine gF ?_|refine gU ?_));(all_goals ((first|refine pV ?_|refine vV (by exact fs_pick rfl rfl rfl) ?_);refine aV ?_)))|(refine rg 8 ?_;(all_goals (refine mV ?_;refine vV (by exact fs_lss rfl rfl) ?_;refine mV ?_));(all_goals first|(refine gK ?_)|(refine vc_split rfl rfl (fun hb=>?_) (fun hb=>?_)<;>(first|subst hb|(rw [hb];(try simp only [nm] at hb);try ((exfalso;omega);done)))));(all_goals first|(refine gT ?_;(refine mV ?_);refine gT ?_;(refine vV (by exact fs_geq rfl rfl) ?_);refine gT ?_;(refine mV ?_))|(iterate 3 first|refine gF ?_|refine gU ?_));(all_goals first|(refine gK ?_)|(refine vc_split rfl rfl (fun hb=>?_) (fun hb=>?_)<;>(first|subst hb|(rw [hb];(try simp only [nm] at hb);try ((exfalso;omega);done)))));(all_goals first|(refine gT ?_;(refine mV ?_);refine gT ?_;(refine mV ?_);refine gT ?_;(refine vV (by exact fs_lss rfl rfl) ?_))|(iterate 3 first|refine gF ?_|refine gU ?_));(all_goals first|(refine gT ?_;(first|refine pV ?_|refine vV (by exact fs_pick rfl rfl rfl) ?_))|(refine gF ?_)|(refine gU ?_));(all_goals ((first|refine pV ?_|refine vV (by exact fs_pick rfl rfl rfl) ?_);refine aV ?_)))|(refine rg 9 ?_;refine mV ?_;refine aV ?_;refine aV ?_)|(refine rg 10 ?_;refine mV ?_;refine fV T ?_;refine lV T ?_;refine vV (by exact fs_gtr rfl rfl) ?_)|(refine rg 12 ?_;refine mV ?_;refine mV ?_;refine aV ?_;refine aV ?_;refine aV ?_)|refine nZ ?_)
      all_goals first | (exfalso; omega) | exact ret_plain (.inl rfl) rfl rfl
    · rw [if_neg h1, if_neg h2, if_pos h3]
      repeat' (first|refine wS ?_|refine wB ?_|refine wK ?_|refine wR ?_|refine wE ?_|refine wT ?_|refine wU ?_|(refine wC rfl (fun hb=>?_) (fun hb=>?_)<;>(first|subst hb|((try simp only [nm] at hb);try (exfalso;omega))))|(refine rg 6 ?_;(all_goals (refine mV ?_;refine vV (by exact fs_lss rfl rfl) ?_;refine mV ?_));(all_goals first|(refine gK ?_)|(refine vc_split rfl rfl (fun hb=>?_) (fun hb=>?_)<;>(first|subst hb|(rw [hb];(try simp only [nm] at hb);try ((exfalso;omega);done)))));(all_goals first|(refine gT ?_;(refine mV ?_);refine gT ?_;(refine vV (by exact fs_lss rfl rfl) ?_))|(iterate 2 first|refine gF ?_|refine gU ?_));(all_goals ((first|refine pV ?_|refine vV (by exact fs_pick rfl rfl rfl) ?_);refine aV ?_)))|(refine rg 8 ?_;(all_goals (refine mV ?_;refine vV (by exact fs_lss rfl rfl) ?_;refine mV ?_));(all_goals first|(refine gK ?_)|(refine vc_split rfl rfl (fun hb=>?_) (fun hb=>?_)<;>(first|subst hb|(rw [hb];(try simp only [nm] at hb);try ((exfalso;omega);done)))));(all_goals first|(refine gT ?_;(refine mV ?_);refine gT ?_;(refine vV (by exact fs_geq rfl rfl) ?_);refine gT ?_;(refine mV ?_))|(iterate 3 first|refine gF ?_|refine gU ?_));(all_goals first|(refine gK ?_)|(refine vc_split rfl rfl (fun hb=>?_) (fun hb=>?_)<;>(first|subst hb|(rw [hb];(try simp only [nm] at hb);try ((exfalso;omega);done)))));(all_goals first|(refine gT ?_;(refine mV ?_);refine gT ?_;(refine mV ?_);refine gT ?_;(refine vV (by exact fs_lss rfl rfl) ?_))|(iterate 3 first|refine gF ?_|refine gU ?_));(all_goals first|(refine gT ?_;(first|refine pV ?_|refine vV (by exact fs_pick rfl rfl rfl) ?_))|(refine gF ?_)|(refine gU ?_));(all_goals ((first|refine pV ?_|refine vV (by exact fs_pick rfl rfl rfl) ?_);refine aV ?_)))|(refine rg 5 ?_;refine mV ?_;refine aV ?_)|(refine rg 10 ?_;refine mV ?_;refine fV T ?_;refine lV T ?_;refine vV (by exact fs_gtr rfl rfl) ?_)|(refine rg 11 ?_;refine mV ?_;refine mV ?_;refine aV ?_;refine aV ?_;refine aV ?_)|refine nZ ?_)
      all_goals first | (exfalso; omega) | exact ret_plain (.inl rfl) rfl rfl
    · rw [if_neg h1, if_neg h2, if_neg h3]
      repeat' (first|refine wS ?_|refine wB ?_|refine wK ?_|refine wR ?_|refine wE ?_|refine wT ?_|refine wU ?_|(refine wC rfl (fun hb=>?_) (fun hb=>?_)<;>(first|subst hb|((try simp only [nm] at hb);try (exfalso;omega))))|(refine rg 6 ?_;(all_goals (refine mV ?_;refine vV (by exact fs_lss rfl rfl) ?_;refine mV ?_));(all_goals first|(refine gK ?_)|(refine vc_split rfl rfl (fun hb=>?_) (fun hb=>?_)<;>(first|subst hb|(rw [hb];(try simp only [nm] at hb);try ((exfalso;omega);done)))));(all_goals first|(refine gT ?_;(refine mV ?_);refine gT ?_;(refine vV (by exact fs_lss rfl rfl) ?_))|(iterate 2 first|refine gF ?_|refine gU ?_));(all_goals ((first|refine pV ?_|refine vV (by exact fs_pick rfl rfl rfl) ?_);refine aV ?_)))|(refine rg 8 ?_;(all_goals (refine mV ?_;refine vV (by exact fs_lss rfl rfl) ?_;refine mV ?_));(all_goals first|(refine gK ?_)|(refine vc_split rfl rfl (fun hb=>?_) (fun hb=>?_)<;>(first|subst hb|(rw [hb];(try simp only [nm] at hb);try ((exfalso;omega);done)))));(all_goals first|(refine gT ?_;(refine mV ?_);refine gT ?_;(refine vV (by exact fs_geq rfl rfl) ?_);refine gT ?_;(refine mV ?_))|(iterate 3 first|refine gF ?_|refine gU ?_));(all_goals first|(refine gK ?_)|(refine vc_split rfl rfl (fun hb=>?_) (fun hb=>?_)<;>(first|subst hb|(rw [hb];(try simp only [nm] at hb);try ((exfalso;omega);done)))));(all_goals first|(refine gT ?_;(refine mV ?_);refine gT ?_;(refine mV ?_);refine gT ?_;(refine vV (by exact fs_lss rfl rfl) ?_))|(iterate 3 first|refine gF ?_|refine gU ?_));(all_goals first|(refine gT ?_;(first|refine pV ?_|refine vV (by exact fs_pick rfl rfl rfl) ?_))|(refine gF ?_)|(refine gU ?_));(all_goals ((first|refine pV ?_|refine vV (by exact fs_pick rfl rfl rfl) ?_);refine aV ?_)))|(refine rg 5 ?_;refine mV ?_;refine aV ?_)|(refine rg 10 ?_;refine mV ?_;refine fV T ?_;refine lV T ?_;refine vV (by exact fs_gtr rfl rfl) ?_)|(refine rg 12 ?_;refine mV ?_;refine mV ?_;refine aV ?_;refine aV ?_;refine aV ?_)|refine nZ ?_)
      all_goals first | (exfalso; omega) | exact ret_plain (.inl rfl) rfl rfl
end Go.Proofs.Ytjpcpbbkelgkeaa
namespace Go.Proofs.Ytjpcpbbkelgkeaa
open Go Go.Ab Go.Fl Go.Shelf Go.Proofs Go.MapKept
attribute [local irreducible] VC AW FStep ACall PCall StrStruct StrT AStep
set_option maxHeartbeats 8000000
end Go.Proofs.Ytjpcpbbkelgkeaa
namespace Go.Proofs.Ytjpcpbbkelgkeaa
open Go Go.Ab Go.Fl Go.Shelf Go.Proofs Go.MapKept
attribute [local irreducible] VC AW FStep ACall PCall StrStruct StrT AStep
set_option maxHeartbeats 8000000
end Go.Proofs.Ytjpcpbbkelgkeaa
namespace Go.Proofs.Ytjpcpbbkelgkeaa
open Go Go.Ab Go.Fl Go.Shelf Go.Proofs Go.MapKept
attribute [local irreducible] VC AW FStep ACall PCall StrStruct StrT AStep
set_option maxHeartbeats 8000000
end Go.Proofs.Ytjpcpbbkelgkeaa
namespace Go.Proofs.Ytjpcpbbkelgkeaa
open Go Go.Ab Go.Fl Go.Shelf Go.Proofs Go.MapKept
attribute [local irreducible] VC AW FStep ACall PCall StrStruct StrT AStep
set_option maxHeartbeats 8000000
theorem few11_p (s : Sit) (n m : Nat) (hn : n ≤ 1000) (hm : m ≤ 1000) :
    PCall Try.prog 14 [.agg (sitA s), .i n, .i m] [] (okB (FewP s n m)) := by
  have cF := few_c s.fl n
  have hzl : (zonsA s.zn).length = s.zn.length := by simp
  have hal : (apsA s.ap).length = s.ap.length := by simp
  have hsl : (shsA s.sh).length = s.sh.length := by simp
  have hrl : (stksA s.rb).length = s.rb.length := by simp
  refine pcall T Try.func14 rfl rfl rfl rfl ?_
  repeat' (first|refine wS ?_|refine wB ?_|refine wK ?_|refine wR ?_|refine wE ?_|refine wT ?_|refine wU ?_|(refine wC rfl (fun hb=>?_) (fun hb=>?_)<;>(first|subst hb|((try simp only [nm] at hb);try (exfalso;omega))))|(refine rg 0 ?_;refine vc_n (by exact fs_box rfl rfl) rfl ?_;refine aV ?_)|(refine rg 1 ?_;refine aV ?_)|refine nZ ?_)
  refine aw_loop (X := {k : Nat // k ≤ m + 1 ∧ k ≤ s.zn.length ∧ ∀ (j : Nat) (hj : j < k) (hl : j < s.zn.length), (s.zn[j]).2.1.length ≤ n ∧ (s.zn[j]).2.2.2.2.length ≤ 20 ∧ (s.zn[j]).1.length ≤ 40}) (fun k => [(1, .i n), (2, .i m), (3, .ptr 0 0), (7, .i k.1)]) (fun _ => [.cells (sitA s)]) (fun k => m + 1 - k.1) ⟨0, by omega, by omega, fun j hj => absurd hj (Nat.not_lt_zero _)⟩ (by (refine ⟨[0], rfl, (by (repeat (first | exact trivial | refine ⟨rfl, ?_⟩))), (by (repeat (first | exact trivial | refine ⟨Or.inl rfl, ?_⟩ | refine ⟨Or.inr rfl, ?_⟩))), by decide, (fun i hi => absurd hi (Nat.not_lt_zero _))⟩)) ?_
  rintro ⟨k, hk1, hk2, hz⟩
  dsimp only
  by_cases hlt : k < s.zn.length ∧ k ≤ m
  · obtain ⟨hlt, hlm⟩ := hlt
    have q1 := zons_get hlt
    have hnx : ((s.zn[k]).2.1.length ≤ n ∧ (s.zn[k]).2.2.2.2.length ≤ 20 ∧ (s.zn[k]).1.length ≤ 40) → ∀ (j : Nat) (hj : j < k + 1) (hl : j < s.zn.length), (s.zn[j]).2.1.length ≤ n ∧ (s.zn[j]).2.2.2.2.length ≤ 20 ∧ (s.zn[j]).1.length ≤ 40 := fun h j hj hl => by
      by_cases e : j = k
      · subst e; exact h
      · exact hz j (by omega) hl
    generalize s.zn[k] = z at *
    have hcl : (ints z.2.1).length = z.2.1.length := ints_length _
    have hul : (stksA z.2.2.2.2).length = z.2.2.2.2.length := by simp
    repeat' (first|refine wS ?_|refine wB ?_|refine wK ?_|refine wR ?_|refine wE ?_|refine wT ?_|refine wU ?_|(refine wC rfl (fun hb=>?_) (fun hb=>?_)<;>(first|subst hb|((try simp only [nm] at hb);try (exfalso;omega))))|(refine rg 2 ?_;(all_goals (refine mV ?_;refine fV T ?_;refine lV T ?_;refine vV (by first|exact fs_lenOwn T rfl rfl|exact fs_lenRow T rfl rfl|exact fs_lenNil T rfl rfl|exact fs_lenS strT rfl) ?_;refine vV (by exact fs_lss rfl rfl) ?_;refine mV ?_));(all_goals first|(refine gK ?_)|(refine vc_split rfl rfl (fun hb=>?_) (fun hb=>?_)<;>(first|subst hb|(rw [hb];(try simp only [nm] at hb);try ((exfalso;omega);done)))));(all_goals first|(refine gT ?_;(refine mV ?_);refine gT ?_;(refine mV ?_);refine gT ?_;(refine vV (by exact fs_leq rfl rfl) ?_))|(iterate 3 first|refine gF ?_|refine gU ?_));(all_goals (first|refine pV ?_|refine vV (by exact fs_pick rfl rfl rfl) ?_)))|(refine rg 4 ?_;(all_goals (refine fV T ?_;refine lV T ?_;refine mV ?_;refine vV (by exact fs_indexRowE T rfl rfl rfl rfl rfl (by omega) (zons_len _) q1) ?_;refine fV T ?_;refine lV T ?_;refine vV (by first|exact fs_lenOwn T rfl rfl|exact fs_lenRow T rfl rfl|exact fs_lenNil T rfl rfl|exact fs_lenS strT rfl) ?_;refine mV ?_;refine vV (by exact fs_gtr rfl rfl) ?_;refine mV ?_));(all_goals first|(refine gK ?_)|(refine vc_split rfl rfl (fun hb=>?_) (fun hb=>?_)<;>(first|subst hb|(rw [hb];(try simp only [nm] at hb);try ((exfalso;omega);done)))));(all_goals first|(refine gT ?_;(refine fV T ?_);refine gT ?_;(refine lV T ?_);refine gT ?_;(refine mV ?_);refine gT ?_;(refine vV (by exact fs_indexRowE T rfl rfl rfl rfl rfl (by omega) (zons_len _) q1) ?_);refine gT ?_;(refine fV T ?_);refine gT ?_;(refine lV T ?_);refine gT ?_;(refine vV (by first|exact fs_lenOwn T rfl rfl|exact fs_lenRow T rfl rfl|exact fs_lenNil T rfl rfl|exact fs_lenS strT rfl) ?_);refine gT ?_;(refine vV (by exact fs_gtr rfl rfl) ?_))|(iterate 8 first|refine gF ?_|refine gU ?_));(all_goals ((first|refine pV ?_|refine vV (by exact fs_pick rfl rfl rfl) ?_);refine mV ?_));(all_goals first|(refine gK ?_)|(refine vc_split rfl rfl (fun hb=>?_) (fun hb=>?_)<;>(first|subst hb|(rw [hb];(try simp only [nm] at hb);try ((exfalso;omega);done)))));(all_goals first|(refine gT ?_;(refine fV T ?_);refine gT ?_;(refine lV T ?_);refine gT ?_;(refine mV ?_);refine gT ?_;(refine vV (by exact fs_indexRowE T rfl rfl rfl rfl rfl (by omega) (zons_len _) q1) ?_);refine gT ?_;(refine fV T ?_);refine gT ?_;(refine lV T ?_);refine gT ?_;(refine vV (by first|exact fs_lenOwn T rfl rfl|exact fs_lenRow T rfl rfl|exact fs_lenNil T rfl rfl|exact fs_lenS strT rfl) ?_);refine gT ?_;(refine vV (by exact fs_gtr rfl rfl) ?_))|(iterate 8 first|refine gF ?_|refine gU ?_));(all_goals (first|refine pV ?_|refine vV (by exact fs_pick rfl rfl rfl) ?_)))|(refine rg 5 ?_;refine aV ?_)|(refine rg 3 ?_;refine mV ?_;refine vV (by first|exact fs_addr rfl rfl (by omega) (by omega)|exact fs_add rfl rfl) ?_;refine aV ?_)|refine nZ ?_)
    all_goals first | (exfalso; omega) | exact ⟨.b false, [], ⟨rfl, false, rfl, fun h => Bool.noConfusion h⟩, ret_plain (.inl rfl) rfl rfl⟩ | exact ⟨⟨k + 1, by omega, by omega, hnx ⟨by omega, by omega, by omega⟩⟩, by dsimp only; omega, by (refine ⟨[0], rfl, (by (repeat (first | exact trivial | refine ⟨rfl, ?_⟩))), (by (repeat (first | exact trivial | refine ⟨Or.inl rfl, ?_⟩ | refine ⟨Or.inr rfl, ?_⟩))), by decide, (fun i hi => absurd hi (Nat.not_lt_zero _))⟩)⟩
  · repeat' (first | refine wS ?_ | refine wB ?_ | refine wK ?_ | refine wR ?_ | refine wE ?_ | refine aw_condt rfl ?_ | refine aw_condf rfl ?_ | (refine wC rfl (fun hb => ?_) (fun hb => ?_) <;> (first | subst hb | ((try simp only [nm] at hb); try (exfalso; omega)))) | (((refine rg 2 ?_)); (all_goals (refine mV ?_; refine fV T ?_; refine lV T ?_; (first|refine qV T ?_|refine vV (by exact fs_lenNil T rfl rfl) ?_); refine vV (by exact fs_lss rfl rfl) ?_; refine mV ?_)); (all_goals first | (refine gK ?_) | (refine vc_split rfl rfl (fun hb => ?_) (fun hb => ?_) <;> (first | subst hb | (rw [hb]; (try simp only [nm] at hb); try ((exfalso; omega); done))))); (all_goals first | (refine gT ?_; (refine mV ?_); refine gT ?_; (refine mV ?_); refine gT ?_; (refine vV (by exact fs_leq rfl rfl) ?_)) | (iterate 3 first | refine gF ?_ | refine gU ?_)); (all_goals (first|refine pV ?_|refine vV (by exact fs_pick rfl rfl rfl) ?_))) | (((refine rg 6 ?_)); (all_goals (refine aV ?_))) | (refine vc_nilp (by (first | (dsimp only [ln1, ln2, List.append_nil, ln4, ln5, ln6, ln7, ln8, ln9, putAt, putd, allObjs, argEnv, un_v, un_ptr, un_ep, un_pr, un_sl, un_mp, un_row, un_agg, un_tup, un_clo, Nat.zero_add, lnb, Nat.reduceAdd, lnc, lnd]; first | done | exact rfl) | exact rfl)) ?_))
    all_goals first | (exfalso; omega) | skip
    all_goals
      have hx1 := hlt
      clear hk1 hlt
      refine aw_loop (X := {k : Nat // k ≤ m + 1 ∧ k ≤ s.ap.length ∧ ∀ (j : Nat) (hj : j < k) (hl : j < s.ap.length), (s.ap[j]).1.length ≤ 40 ∧ (s.ap[j]).2.length ≤ 40}) (fun k => [(1, .i n), (2, .i m), (3, .ptr 0 0), (8, .i k.1)]) (fun _ => [.cells (sitA s)]) (fun k => m + 1 - k.1) ⟨0, by omega, by omega, fun j hj => absurd hj (Nat.not_lt_zero _)⟩ (by (refine ⟨[0], rfl, (by (repeat (first | exact trivial | refine ⟨rfl, ?_⟩))), (by (repeat (first | exact trivial | refine ⟨Or.inl rfl, ?_⟩ | refine ⟨Or.inr rfl, ?_⟩))), by decide, (fun i hi => absurd hi (Nat.not_lt_zero _))⟩)) ?_
      rintro ⟨k2, hk3, hk4, ha⟩
      dsimp only
      by_cases hlt : k2 < s.ap.length ∧ k2 ≤ m
      · obtain ⟨hlt, hlm⟩ := hlt
        have q1 := aps_get hlt
        have hnx : ((s.ap[k2]).1.length ≤ 40 ∧ (s.ap[k2]).2.length ≤ 40) → ∀ (j : Nat) (hj : j < k2 + 1) (hl : j < s.ap.length), (s.ap[j]).1.length ≤ 40 ∧ (s.ap[j]).2.length ≤ 40 := fun h j hj hl => by
          by_cases e : j = k2
          · subst e; exact h
          · exact ha j (by omega) hl
        generalize s.ap[k2] = z at *
        repeat' (first|refine wS ?_|refine wB ?_|refine wK ?_|refine wR ?_|refine wE ?_|refine wT ?_|refine wU ?_|(refine wC rfl (fun hb=>?_) (fun hb=>?_)<;>(first|subst hb|((try simp only [nm] at hb);try (exfalso;omega))))|(refine rg 7 ?_;(all_goals (refine mV ?_;refine fV T ?_;refine lV T ?_;refine vV (by first|exact fs_lenOwn T rfl rfl|exact fs_lenRow T rfl rfl|exact fs_lenNil T rfl rfl|exact fs_lenS strT rfl) ?_;refine vV (by exact fs_lss rfl rfl) ?_;refine mV ?_));(all_goals first|(refine gK ?_)|(refine vc_split rfl rfl (fun hb=>?_) (fun hb=>?_)<;>(first|subst hb|(rw [hb];(try simp only [nm] at hb);try ((exfalso;omega);done)))));(all_goals first|(refine gT ?_;(refine mV ?_);refine gT ?_;(refine mV ?_);refine gT ?_;(refine vV (by exact fs_leq rfl rfl) ?_))|(iterate 3 first|refine gF ?_|refine gU ?_));(all_goals (first|refine pV ?_|refine vV (by exact fs_pick rfl rfl rfl) ?_)))|(refine rg 9 ?_;(all_goals (refine fV T ?_;refine lV T ?_;refine mV ?_;refine vV (by exact fs_indexRowE T rfl rfl rfl rfl rfl (by omega) (aps_len _) q1) ?_;refine fV T ?_;refine lV T ?_;refine vV (by first|exact fs_lenOwn T rfl rfl|exact fs_lenRow T rfl rfl|exact fs_lenNil T rfl rfl|exact fs_lenS strT rfl) ?_;refine vV (by exact fs_gtr rfl rfl) ?_;refine mV ?_));(all_goals first|(refine gK ?_)|(refine vc_split rfl rfl (fun hb=>?_) (fun hb=>?_)<;>(first|subst hb|(rw [hb];(try simp only [nm] at hb);try ((exfalso;omega);done)))));(all_goals first|(refine gT ?_;(refine fV T ?_);refine gT ?_;(refine lV T ?_);refine gT ?_;(refine mV ?_);refine gT ?_;(refine vV (by exact fs_indexRowE T rfl rfl rfl rfl rfl (by omega) (aps_len _) q1) ?_);refine gT ?_;(refine fV T ?_);refine gT ?_;(refine lV T ?_);refine gT ?_;(refine vV (by first|exact fs_lenOwn T rfl rfl|exact fs_lenRow T rfl rfl|exact fs_lenNil T rfl rfl|exact fs_lenS strT rfl) ?_);refine gT ?_;(refine vV (by exact fs_gtr rfl rfl) ?_))|(iterate 8 first|refine gF ?_|refine gU ?_));(all_goals (first|refine pV ?_|refine vV (by exact fs_pick rfl rfl rfl) ?_)))|(refine rg 10 ?_;refine aV ?_)|(refine rg 8 ?_;refine mV ?_;refine vV (by first|exact fs_addr rfl rfl (by omega) (by omega)|exact fs_add rfl rfl) ?_;refine aV ?_)|refine nZ ?_)
        all_goals first | (exfalso; omega) | exact ⟨.b false, [], ⟨rfl, false, rfl, fun h => Bool.noConfusion h⟩, ret_plain (.inl rfl) rfl rfl⟩ | exact ⟨⟨k2 + 1, by omega, by omega, hnx ⟨by omega, by omega⟩⟩, by dsimp only; omega, by (refine ⟨[0], rfl, (by (repeat (first | exact trivial | refine ⟨rfl, ?_⟩))), (by (repeat (first | exact trivial | refine ⟨Or.inl rfl, ?_⟩ | refine ⟨Or.inr rfl, ?_⟩))), by decide, (fun i hi => absurd hi (Nat.not_lt_zero _))⟩)⟩
      · repeat' (first | refine wS ?_ | refine wB ?_ | refine wK ?_ | refine wR ?_ | refine wE ?_ | refine aw_condt rfl ?_ | refine aw_condf rfl ?_ | (refine wC rfl (fun hb => ?_) (fun hb => ?_) <;> (first | subst hb | ((try simp only [nm] at hb); try (exfalso; omega)))) | (((refine rg 7 ?_)); (all_goals (refine mV ?_; refine fV T ?_; refine lV T ?_; (first|refine qV T ?_|refine vV (by exact fs_lenNil T rfl rfl) ?_); refine vV (by exact fs_lss rfl rfl) ?_; refine mV ?_)); (all_goals first | (refine gK ?_) | (refine vc_split rfl rfl (fun hb => ?_) (fun hb => ?_) <;> (first | subst hb | (rw [hb]; (try simp only [nm] at hb); try ((exfalso; omega); done))))); (all_goals first | (refine gT ?_; (refine mV ?_); refine gT ?_; (refine mV ?_); refine gT ?_; (refine vV (by exact fs_leq rfl rfl) ?_)) | (iterate 3 first | refine gF ?_ | refine gU ?_)); (all_goals (first|refine pV ?_|refine vV (by exact fs_pick rfl rfl rfl) ?_))) | (((refine rg 11 ?_)); (all_goals (refine aV ?_))) | (refine vc_nilp (by (first | (dsimp only [ln1, ln2, List.append_nil, ln4, ln5, ln6, ln7, ln8, ln9, putAt, putd, allObjs, argEnv, un_v, un_ptr, un_ep, un_pr, un_sl, un_mp, un_row, un_agg, un_tup, un_clo, Nat.zero_add, lnb, Nat.reduceAdd, lnc, lnd]; first | done | exact rfl) | exact rfl)) ?_))
        all_goals first | (exfalso; omega) | skip
        all_goals
          have hx2 := hlt
          clear hk3 hlt
          refine aw_loop (X := {k : Nat // k ≤ m + 1 ∧ k ≤ s.sh.length ∧ ∀ (j : Nat) (hj : j < k) (hl : j < s.sh.length), (s.sh[j]).2.length ≤ 40}) (fun k => [(1, .i n), (2, .i m), (3, .ptr 0 0), (9, .i k.1)]) (fun _ => [.cells (sitA s)]) (fun k => m + 1 - k.1) ⟨0, by omega, by omega, fun j hj => absurd hj (Nat.not_lt_zero _)⟩ (by (refine ⟨[0], rfl, (by (repeat (first | exact trivial | refine ⟨rfl, ?_⟩))), (by (repeat (first | exact trivial | refine ⟨Or.inl rfl, ?_⟩ | refine ⟨Or.inr rfl, ?_⟩))), by decide, (fun i hi => absurd hi (Nat.not_lt_zero _))⟩)) ?_
          rintro ⟨k3, hk5, hk6, hs⟩
          dsimp only
          by_cases hlt : k3 < s.sh.length ∧ k3 ≤ m
          · obtain ⟨hlt, hlm⟩ := hlt
            have q1 := shs_gI hlt
            have hnx : (s.sh[k3]).2.length ≤ 40 → ∀ (j : Nat) (hj : j < k3 + 1) (hl : j < s.sh.length), (s.sh[j]).2.length ≤ 40 := fun h j hj hl => by
              by_cases e : j = k3
              · subst e; exact h
              · exact hs j (by omega) hl
            generalize s.sh[k3] = z at *
            repeat' (first|refine wS ?_|refine wB ?_|refine wK ?_|refine wR ?_|refine wE ?_|refine wT ?_|refine wU ?_|(refine wC rfl (fun hb=>?_) (fun hb=>?_)<;>(first|subst hb|((try simp only [nm] at hb);try (exfalso;omega))))|(refine rg 12 ?_;(all_goals (refine mV ?_;refine fV T ?_;refine lV T ?_;refine vV (by first|exact fs_lenOwn T rfl rfl|exact fs_lenRow T rfl rfl|exact fs_lenNil T rfl rfl|exact fs_lenS strT rfl) ?_;refine vV (by exact fs_lss rfl rfl) ?_;refine mV ?_));(all_goals first|(refine gK ?_)|(refine vc_split rfl rfl (fun hb=>?_) (fun hb=>?_)<;>(first|subst hb|(rw [hb];(try simp only [nm] at hb);try ((exfalso;omega);done)))));(all_goals first|(refine gT ?_;(refine mV ?_);refine gT ?_;(refine mV ?_);refine gT ?_;(refine vV (by exact fs_leq rfl rfl) ?_))|(iterate 3 first|refine gF ?_|refine gU ?_));(all_goals (first|refine pV ?_|refine vV (by exact fs_pick rfl rfl rfl) ?_)))|(refine rg 14 ?_;refine fV T ?_;refine lV T ?_;refine mV ?_;refine vV (by exact fs_indexRowE T rfl rfl rfl rfl rfl (by omega) (shs_len _) q1) ?_;refine fV T ?_;refine lV T ?_;refine vV (by first|exact fs_lenOwn T rfl rfl|exact fs_lenRow T rfl rfl|exact fs_lenNil T rfl rfl|exact fs_lenS strT rfl) ?_;refine vV (by exact fs_gtr rfl rfl) ?_)|(refine rg 15 ?_;refine aV ?_)|(refine rg 13 ?_;refine mV ?_;refine vV (by first|exact fs_addr rfl rfl (by omega) (by omega)|exact fs_add rfl rfl) ?_;refine aV ?_)|refine nZ ?_)
            all_goals first | (exfalso; omega) | exact ⟨.b false, [], ⟨rfl, false, rfl, fun h => Bool.noConfusion h⟩, ret_plain (.inl rfl) rfl rfl⟩ | exact ⟨⟨k3 + 1, by omega, by omega, hnx (by omega)⟩, by dsimp only; omega, by (refine ⟨[0], rfl, (by (repeat (first | exact trivial | refine ⟨rfl, ?_⟩))), (by (repeat (first | exact trivial | refine ⟨Or.inl rfl, ?_⟩ | refine ⟨Or.inr rfl, ?_⟩))), by decide, (fun i hi => absurd hi (Nat.not_lt_zero _))⟩)⟩
          · skip
            by_cases hF : FewP s n m
            · have e : (decide ((s.fl.k.length : Int) ≤ n) && decide ((s.fl.o.length : Int) ≤ n)) = true := by have := hF.kl; have := hF.ol; simp; omega
              rw [e] at cF
              have f1 := hF.zl
              have f2 := hF.al
              have f3 := hF.sl
              have f4 := hF.rl
              repeat' (first|refine wS ?_|refine wB ?_|refine wK ?_|refine wR ?_|refine wE ?_|refine wT ?_|refine wU ?_|(refine wC rfl (fun hb=>?_) (fun hb=>?_)<;>(first|subst hb|((try simp only [nm] at hb);try (exfalso;omega))))|(refine rg 12 ?_;(all_goals (refine mV ?_;refine fV T ?_;refine lV T ?_;(first|refine qV T ?_|refine vV (by exact fs_lenNil T rfl rfl) ?_);refine vV (by exact fs_lss rfl rfl) ?_;refine mV ?_));(all_goals first|(refine gK ?_)|(refine vc_split rfl rfl (fun hb=>?_) (fun hb=>?_)<;>(first|subst hb|(rw [hb];(try simp only [nm] at hb);try ((exfalso;omega);done)))));(all_goals first|(refine gT ?_;(refine mV ?_);refine gT ?_;(refine mV ?_);refine gT ?_;(refine vV (by first|exact fs_leqT rfl rfl (by omega)|exact fs_leq rfl rfl) ?_))|(iterate 3 first|refine gF ?_|refine gU ?_));(all_goals (first|refine pV ?_|refine vV (by exact fs_pick rfl rfl rfl) ?_)))|(refine rg 16 ?_;(all_goals (refine fV T ?_;refine lV T ?_;refine mV ?_;refine vV (by exact kC (cF)) ?_;refine mV ?_));(all_goals first|(refine gK ?_)|(refine vc_split rfl rfl (fun hb=>?_) (fun hb=>?_)<;>(first|subst hb|(rw [hb];(try simp only [nm] at hb);try ((exfalso;omega);done)))));(all_goals first|(refine gT ?_;(refine fV T ?_);refine gT ?_;(refine lV T ?_);refine gT ?_;(first|refine qV T ?_|refine vV (by exact fs_lenNil T rfl rfl) ?_);refine gT ?_;(refine mV ?_);refine gT ?_;(refine vV (by first|exact fs_leqT rfl rfl (by omega)|exact fs_leq rfl rfl) ?_))|(iterate 5 first|refine gF ?_|refine gU ?_));(all_goals ((first|refine pV ?_|refine vV (by exact fs_pick rfl rfl rfl) ?_);refine mV ?_));(all_goals first|(refine gK ?_)|(refine vc_split rfl rfl (fun hb=>?_) (fun hb=>?_)<;>(first|subst hb|(rw [hb];(try simp only [nm] at hb);try ((exfalso;omega);done)))));(all_goals first|(refine gT ?_;(refine fV T ?_);refine gT ?_;(refine lV T ?_);refine gT ?_;(first|refine qV T ?_|refine vV (by exact fs_lenNil T rfl rfl) ?_);refine gT ?_;(refine mV ?_);refine gT ?_;(refine vV (by first|exact fs_leqT rfl rfl (by omega)|exact fs_leq rfl rfl) ?_))|(iterate 5 first|refine gF ?_|refine gU ?_));(all_goals ((first|refine pV ?_|refine vV (by exact fs_pick rfl rfl rfl) ?_);refine mV ?_));(all_goals first|(refine gK ?_)|(refine vc_split rfl rfl (fun hb=>?_) (fun hb=>?_)<;>(first|subst hb|(rw [hb];(try simp only [nm] at hb);try ((exfalso;omega);done)))));(all_goals first|(refine gT ?_;(refine fV T ?_);refine gT ?_;(refine lV T ?_);refine gT ?_;(first|refine qV T ?_|refine vV (by exact fs_lenNil T rfl rfl) ?_);refine gT ?_;(refine mV ?_);refine gT ?_;(refine vV (by first|exact fs_leqT rfl rfl (by omega)|exact fs_leq rfl rfl) ?_))|(iterate 5 first|refine gF ?_|refine gU ?_));(all_goals ((first|refine pV ?_|refine vV (by exact fs_pick rfl rfl rfl) ?_);refine mV ?_));(all_goals first|(refine gK ?_)|(refine vc_split rfl rfl (fun hb=>?_) (fun hb=>?_)<;>(first|subst hb|(rw [hb];(try simp only [nm] at hb);try ((exfalso;omega);done)))));(all_goals first|(refine gT ?_;(refine fV T ?_);refine gT ?_;(refine lV T ?_);refine gT ?_;(first|refine qV T ?_|refine vV (by exact fs_lenNil T rfl rfl) ?_);refine gT ?_;(refine mV ?_);refine gT ?_;(refine vV (by first|exact fs_leqT rfl rfl (by omega)|exact fs_leq rfl rfl) ?_))|(iterate 5 first|refine gF ?_|refine gU ?_));(all_goals ((first|refine pV ?_|refine vV (by exact fs_pick rfl rfl rfl) ?_);refine aV ?_)))|refine nZ ?_)
              all_goals first | (exfalso; omega) | exact ⟨.b true, [], ⟨rfl, true, rfl, fun _ => hF⟩, ret_plain (.inl rfl) rfl rfl⟩
            · generalize hgf : (decide ((s.fl.k.length : Int) ≤ n) && decide ((s.fl.o.length : Int) ≤ n)) = y at *
              have hno : y = true → (s.zn.length : Int) ≤ m → (s.ap.length : Int) ≤ m → (s.sh.length : Int) ≤ m → (s.rb.length : Int) ≤ m → False := fun e a1 a2 a3 a4 => hF (by
                subst e
                simp only [Bool.and_eq_true, decide_eq_true_eq] at hgf
                refine ⟨by omega, by omega, by omega, by omega, by omega, by omega, fun z hzm => ?_, fun z hzm => ?_, fun z hzm => ?_⟩
                · obtain ⟨j, hj, rfl⟩ := List.mem_iff_getElem.1 hzm
                  exact hz j (by omega) hj
                · obtain ⟨j, hj, rfl⟩ := List.mem_iff_getElem.1 hzm
                  exact ha j (by omega) hj
                · obtain ⟨j, hj, rfl⟩ := List.mem_iff_getElem.1 hzm
                  exact hs j (by omega) hj)
              cases y with
              | false =>
                repeat' (first|refine wS ?_|refine wB ?_|refine wK ?_|refine wR ?_|refine wE ?_|refine wT ?_|refine wU ?_|(refine wC rfl (fun hb=>?_) (fun hb=>?_)<;>(first|subst hb|((try simp only [nm] at hb);try (exfalso;omega))))|(refine rg 12 ?_;(all_goals (refine mV ?_;refine fV T ?_;refine lV T ?_;(first|refine qV T ?_|refine vV (by exact fs_lenNil T rfl rfl) ?_);refine vV (by exact fs_lss rfl rfl) ?_;refine mV ?_));(all_goals first|(refine gK ?_)|(refine vc_split rfl rfl (fun hb=>?_) (fun hb=>?_)<;>(first|subst hb|(rw [hb];(try simp only [nm] at hb);try ((exfalso;omega);done)))));(all_goals first|(refine gT ?_;(refine mV ?_);refine gT ?_;(refine mV ?_);refine gT ?_;(refine vV (by exact fs_leq rfl rfl) ?_))|(iterate 3 first|refine gF ?_|refine gU ?_));(all_goals (first|refine pV ?_|refine vV (by exact fs_pick rfl rfl rfl) ?_)))|(refine rg 16 ?_;(all_goals (refine fV T ?_;refine lV T ?_;refine mV ?_;refine vV (by exact kC (cF)) ?_;refine mV ?_));(all_goals first|(refine gK ?_)|(refine vc_split rfl rfl (fun hb=>?_) (fun hb=>?_)<;>(first|subst hb|(rw [hb];(try simp only [nm] at hb);try ((exfalso;omega);done)))));(all_goals first|(refine gT ?_;(refine fV T ?_);refine gT ?_;(refine lV T ?_);refine gT ?_;(first|refine qV T ?_|refine vV (by exact fs_lenNil T rfl rfl) ?_);refine gT ?_;(refine mV ?_);refine gT ?_;(refine vV (by exact fs_leq rfl rfl) ?_))|(iterate 5 first|refine gF ?_|refine gU ?_));(all_goals ((first|refine pV ?_|refine vV (by exact fs_pick rfl rfl rfl) ?_);refine mV ?_));(all_goals first|(refine gK ?_)|(refine vc_split rfl rfl (fun hb=>?_) (fun hb=>?_)<;>(first|subst hb|(rw [hb];(try simp only [nm] at hb);try ((exfalso;omega);done)))));(all_goals first|(refine gT ?_;(refine fV T ?_);refine gT ?_;(refine lV T ?_);refine gT ?_;(first|refine qV T ?_|refine vV (by exact fs_lenNil T rfl rfl) ?_);refine gT ?_;(refine mV ?_);refine gT ?_;(refine vV (by exact fs_leq rfl rfl) ?_))|(iterate 5 first|refine gF ?_|refine gU ?_));(all_goals ((first|refine pV ?_|refine vV (by exact fs_pick rfl rfl rfl) ?_);refine mV ?_));(all_goals first|(refine gK ?_)|(refine vc_split rfl rfl (fun hb=>?_) (fun hb=>?_)<;>(first|subst hb|(rw [hb];(try simp only [nm] at hb);try ((exfalso;omega);done)))));(all_goals first|(refine gT ?_;(refine fV T ?_);refine gT ?_;(refine lV T ?_);refine gT ?_;(first|refine qV T ?_|refine vV (by exact fs_lenNil T rfl rfl) ?_);refine gT ?_;(refine mV ?_);refine gT ?_;(refine vV (by exact fs_leq rfl rfl) ?_))|(iterate 5 first|refine gF ?_|refine gU ?_));(all_goals ((first|refine pV ?_|refine vV (by exact fs_pick rfl rfl rfl) ?_);refine mV ?_));(all_goals first|(refine gK ?_)|(refine vc_split rfl rfl (fun hb=>?_) (fun hb=>?_)<;>(first|subst hb|(rw [hb];(try simp only [nm] at hb);try ((exfalso;omega);done)))));(all_goals first|(refine gT ?_;(refine fV T ?_);refine gT ?_;(refine lV T ?_);refine gT ?_;(first|refine qV T ?_|refine vV (by exact fs_lenNil T rfl rfl) ?_);refine gT ?_;(refine mV ?_);refine gT ?_;(refine vV (by exact fs_leq rfl rfl) ?_))|(iterate 5 first|refine gF ?_|refine gU ?_));(all_goals ((first|refine pV ?_|refine vV (by exact fs_pick rfl rfl rfl) ?_);refine aV ?_)))|refine nZ ?_)
                all_goals first | (exfalso; omega) | exact ⟨.b false, [], ⟨rfl, false, rfl, fun h => Bool.noConfusion h⟩, ret_plain (.inl rfl) rfl rfl⟩
              | true =>
                have hno := hno rfl
                repeat' (first|refine wS ?_|refine wB ?_|refine wK ?_|refine wR ?_|refine wE ?_|refine wT ?_|refine wU ?_|(refine wC rfl (fun hb=>?_) (fun hb=>?_)<;>(first|subst hb|((try simp only [nm] at hb);try (exfalso;omega))))|(refine rg 12 ?_;(all_goals (refine mV ?_;refine fV T ?_;refine lV T ?_;(first|refine qV T ?_|refine vV (by exact fs_lenNil T rfl rfl) ?_);refine vV (by exact fs_lss rfl rfl) ?_;refine mV ?_));(all_goals first|(refine gK ?_)|(refine vc_split rfl rfl (fun hb=>?_) (fun hb=>?_)<;>(first|subst hb|(rw [hb];(try simp only [nm] at hb);try ((exfalso;omega);done)))));(all_goals first|(refine gT ?_;(refine mV ?_);refine gT ?_;(refine mV ?_);refine gT ?_;(refine vV (by exact fs_leq rfl rfl) ?_))|(iterate 3 first|refine gF ?_|refine gU ?_));(all_goals (first|refine pV ?_|refine vV (by exact fs_pick rfl rfl rfl) ?_)))|(refine rg 16 ?_;(all_goals (refine fV T ?_;refine lV T ?_;refine mV ?_;refine vV (by exact kC (cF)) ?_;refine mV ?_));(all_goals first|(refine gK ?_)|(refine vc_split rfl rfl (fun hb=>?_) (fun hb=>?_)<;>(first|subst hb|(rw [hb];(try simp only [nm] at hb);try ((exfalso;omega);done)))));(all_goals first|(refine gT ?_;(refine fV T ?_);refine gT ?_;(refine lV T ?_);refine gT ?_;(first|refine qV T ?_|refine vV (by exact fs_lenNil T rfl rfl) ?_);refine gT ?_;(refine mV ?_);refine gT ?_;(refine vV (by exact fs_leq rfl rfl) ?_))|(iterate 5 first|refine gF ?_|refine gU ?_));(all_goals ((first|refine pV ?_|refine vV (by exact fs_pick rfl rfl rfl) ?_);refine mV ?_));(all_goals first|(refine gK ?_)|(refine vc_split rfl rfl (fun hb=>?_) (fun hb=>?_)<;>(first|subst hb|(rw [hb];(try simp only [nm] at hb);try ((exfalso;omega);done)))));(all_goals first|(refine gT ?_;(refine fV T ?_);refine gT ?_;(refine lV T ?_);refine gT ?_;(first|refine qV T ?_|refine vV (by exact fs_lenNil T rfl rfl) ?_);refine gT ?_;(refine mV ?_);refine gT ?_;(refine vV (by exact fs_leq rfl rfl) ?_))|(iterate 5 first|refine gF ?_|refine gU ?_));(all_goals ((first|refine pV ?_|refine vV (by exact fs_pick rfl rfl rfl) ?_);refine mV ?_));(all_goals first|(refine gK ?_)|(refine vc_split rfl rfl (fun hb=>?_) (fun hb=>?_)<;>(first|subst hb|(rw [hb];(try simp only [nm] at hb);try ((exfalso;omega);done)))));(all_goals first|(refine gT ?_;(refine fV T ?_);refine gT ?_;(refine lV T ?_);refine gT ?_;(first|refine qV T ?_|refine vV (by exact fs_lenNil T rfl rfl) ?_);refine gT ?_;(refine mV ?_);refine gT ?_;(refine vV (by exact fs_leq rfl rfl) ?_))|(iterate 5 first|refine gF ?_|refine gU ?_));(all_goals ((first|refine pV ?_|refine vV (by exact fs_pick rfl rfl rfl) ?_);refine mV ?_));(all_goals first|(refine gK ?_)|(refine vc_split rfl rfl (fun hb=>?_) (fun hb=>?_)<;>(first|subst hb|(rw [hb];(try simp only [nm] at hb);try ((exfalso;omega);done)))));(all_goals first|(refine gT ?_;(refine fV T ?_);refine gT ?_;(refine lV T ?_);refine gT ?_;(first|refine qV T ?_|refine vV (by exact fs_lenNil T rfl rfl) ?_);refine gT ?_;(refine mV ?_);refine gT ?_;(refine vV (by exact fs_leq rfl rfl) ?_))|(iterate 5 first|refine gF ?_|refine gU ?_));(all_goals ((first|refine pV ?_|refine vV (by exact fs_pick rfl rfl rfl) ?_);refine aV ?_)))|refine nZ ?_)
                all_goals first | (exfalso; omega) | exact ⟨.b false, [], ⟨rfl, false, rfl, fun h => Bool.noConfusion h⟩, ret_plain (.inl rfl) rfl rfl⟩ | (exfalso; exact hno (by omega) (by omega) (by omega) (by omega)) | exact ⟨_, _, ⟨rfl, _, rfl, fun h => (hno (by omega) (by omega) (by omega) (by have := of_decide_eq_true h; omega)).elim⟩, ret_plain (.inl rfl) rfl rfl⟩
end Go.Proofs.Ytjpcpbbkelgkeaa
namespace Go.Proofs.Ytjpcpbbkelgkeaa
open Go Go.Ab Go.Fl Go.Re Go.Ln Go.MapKept
attribute [local irreducible] VC AW FStep ACall PCall AStep
set_option maxHeartbeats 4000000
theorem same_c (a b : List Int) (ha : a.length ≤ 9223372036854775807) : ACall Try.prog 13 [.rowE (ints a) 1, .rowE (ints b) 1] [] (.b (decide (a = b))) [] := by
  have hal : (ints a).length = a.length := by simp
  have hbl : (ints b).length = b.length := by simp
  by_cases hl : a.length = b.length
  · refine acall T Try.func13 rfl rfl rfl rfl ?_
    repeat' (first|refine wS ?_|refine wB ?_|refine wK ?_|refine wR ?_|refine wE ?_|refine wT ?_|refine wU ?_|(refine wC rfl (fun hb=>?_) (fun hb=>?_)<;>(first|subst hb|((try simp only [nm] at hb);try (exfalso;omega))))|(refine rg 0 ?_;refine aV ?_)|(refine rg 1 ?_;refine mV ?_;(first|refine qV T ?_|refine vV (by exact fs_lenNil T rfl rfl) ?_);refine mV ?_;(first|refine qV T ?_|refine vV (by exact fs_lenNil T rfl rfl) ?_);refine vV (by exact fs_neq rfl rfl) ?_)|(refine rg 3 ?_;refine aV ?_)|refine nZ ?_)
    all_goals try (exfalso; omega)
    refine aw_loop (X := {i : Nat // i ≤ a.length ∧ a.take i = b.take i}) (fun i => [(0, .rowE (ints a) 1), (1, .rowE (ints b) 1), (5, .i i.1)]) (fun _ => []) (fun i => a.length - i.1) ⟨0, by omega, rfl⟩ (by (refine ⟨[], rfl, ?_, trivial, List.nodup_nil, fun _ h => absurd h (Nat.not_lt_zero _)⟩; (repeat (first | exact trivial | refine ⟨rfl, ?_⟩)))) ?_
    rintro ⟨i, hi, hg⟩
    dsimp only
    by_cases hlt : i < a.length
    · have q1 := ints_get (l := a) (k := i) hlt
      have q2 := ints_get (l := b) (k := i) (by omega)
      by_cases e : a[i] = b[i]
      · repeat' (first | refine wS ?_ | refine wB ?_ | refine wK ?_ | refine wR ?_ | refine wE ?_ | refine aw_condt rfl ?_ | refine aw_condf rfl ?_ | (refine wC rfl (fun hb => ?_) (fun hb => ?_) <;> (first | subst hb | ((try simp only [nm] at hb); try (exfalso; omega)))) | (((refine rg 4 ?_)); (all_goals (refine mV ?_; refine mV ?_; (first|refine qV T ?_|refine vV (by exact fs_lenNil T rfl rfl) ?_); refine vV (by exact fs_lss rfl rfl) ?_))) | (((refine aw_draw2k (id := 6) 26 [[], [], [0, 1], [0, 1, 2], [], [], [4, 5], [4, 5, 6], [0, 1, 2, 3, 4, 5, 6, 7]] [17, 18, 19, 20, 21, 22, 23, 24, 25] [[], [17], [], [], [17, 18, 19, 20], [17, 18, 19, 20, 21], [17, 18, 19, 20], [17, 18, 19, 20], []] mixedP rfl (by decide +kernel) ?_)); (all_goals first | (refine dw_v rfl rfl rfl (by exact fs_move rfl) ?_)); (all_goals first | (refine dw_v rfl rfl rfl (by exact fs_move rfl) ?_)); (all_goals first | (refine dw_v rfl rfl rfl (by first | exact fs_indexRowE T rfl rfl rfl rfl rfl (by omega) (ints_len a) q1 | exact fs_indexRowE T rfl rfl rfl rfl rfl (by omega) (ints_len b) q2) ?_)); (all_goals first | (refine dw_v rfl rfl rfl (by exact fs_load T rfl rfl rfl rfl) ?_)); (all_goals first | (refine dw_v rfl rfl rfl (by exact fs_move rfl) ?_)); (all_goals first | (refine dw_v rfl rfl rfl (by exact fs_move rfl) ?_)); (all_goals first | (refine dw_v rfl rfl rfl (by first | exact fs_indexRowE T rfl rfl rfl rfl rfl (by omega) (ints_len a) q1 | exact fs_indexRowE T rfl rfl rfl rfl rfl (by omega) (ints_len b) q2) ?_)); (all_goals first | (refine dw_v rfl rfl rfl (by exact fs_load T rfl rfl rfl rfl) ?_)); (all_goals first | (refine dw_v rfl rfl rfl (by exact fs_neq rfl rfl) ?_)); (all_goals (refine dw_fin rfl rfl (by (first | (dsimp only [ln1, ln2, List.append_nil, ln4, ln5, ln6, ln7, ln8, ln9, putAt, putd, allObjs, argEnv, un_v, un_ptr, un_ep, un_pr, un_sl, un_mp, un_row, un_agg, un_tup, un_clo, Nat.zero_add, lnb, Nat.reduceAdd, lnc, lnd]; first | done | exact rfl) | exact rfl)) ?_))) | (((refine rg 5 ?_)); (all_goals (refine mV ?_; refine vV (by first | exact fs_addr rfl rfl (by omega) (by omega) | exact fs_add rfl rfl) ?_; refine aV ?_))) | (refine vc_nilp (by (first | (dsimp only [ln1, ln2, List.append_nil, ln4, ln5, ln6, ln7, ln8, ln9, putAt, putd, allObjs, argEnv, un_v, un_ptr, un_ep, un_pr, un_sl, un_mp, un_row, un_agg, un_tup, un_clo, Nat.zero_add, lnb, Nat.reduceAdd, lnc, lnd]; first | done | exact rfl) | exact rfl)) ?_))
        all_goals try (exfalso; omega)
        refine ⟨⟨i + 1, hlt, ?_⟩, by dsimp only; omega, by (refine ⟨[], rfl, ?_, trivial, List.nodup_nil, fun _ h => absurd h (Nat.not_lt_zero _)⟩; (repeat (first | exact trivial | refine ⟨rfl, ?_⟩)))⟩
        rw [List.take_succ_eq_append_getElem hlt, List.take_succ_eq_append_getElem (by omega), hg, e]
      · rw [show decide (a = b) = false from decide_eq_false (fun h => e (by subst h; rfl))]
        repeat' (first|refine wS ?_|refine wB ?_|refine wK ?_|refine wR ?_|refine wE ?_|refine wT ?_|refine wU ?_|(refine wC rfl (fun hb=>?_) (fun hb=>?_)<;>(first|subst hb|((try simp only [nm] at hb);try (exfalso;omega))))|(refine rg 4 ?_;refine mV ?_;refine mV ?_;(first|refine qV T ?_|refine vV (by exact fs_lenNil T rfl rfl) ?_);refine vV (by exact fs_lss rfl rfl) ?_)|(((refine aw_draw2k (id := 6) 26 [[],[],[0,1],[0,1,2],[],[],[4,5],[4,5,6],[0,1,2,3,4,5,6,7]] [17,18,19,20,21,22,23,24,25] [[],[17],[],[],[17,18,19,20],[17,18,19,20,21],[17,18,19,20],[17,18,19,20],[]] mixedP rfl (by decide +kernel) ?_));(all_goals first|(refine dw_v rfl rfl rfl (by exact fs_move rfl) ?_));(all_goals first|(refine dw_v rfl rfl rfl (by exact fs_move rfl) ?_));(all_goals first|(refine dw_v rfl rfl rfl (by first|exact fs_indexRowE T rfl rfl rfl rfl rfl (by omega) (ints_len a) q1|exact fs_indexRowE T rfl rfl rfl rfl rfl (by omega) (ints_len b) q2) ?_));(all_goals first|(refine dw_v rfl rfl rfl (by exact fs_load T rfl rfl rfl rfl) ?_));(all_goals first|(refine dw_v rfl rfl rfl (by exact fs_move rfl) ?_));(all_goals first|(refine dw_v rfl rfl rfl (by exact fs_move rfl) ?_));(all_goals first|(refine dw_v rfl rfl rfl (by first|exact fs_indexRowE T rfl rfl rfl rfl rfl (by omega) (ints_len a) q1|exact fs_indexRowE T rfl rfl rfl rfl rfl (by omega) (ints_len b) q2) ?_));(all_goals first|(refine dw_v rfl rfl rfl (by exact fs_load T rfl rfl rfl rfl) ?_));(all_goals first|(refine dw_v rfl rfl rfl (by exact fs_neq rfl rfl) ?_));(all_goals (refine dw_fin rfl rfl (by (first|(dsimp only [ln1,ln2,List.append_nil,ln4,ln5,ln6,ln7,ln8,ln9,putAt,putd,allObjs,argEnv,un_v,un_ptr,un_ep,un_pr,un_sl,un_mp,un_row,un_agg,un_tup,un_clo,Nat.zero_add,lnb,Nat.reduceAdd,lnc,lnd];first|done|exact rfl)|exact rfl)) ?_)))|(refine rg 7 ?_;refine aV ?_)|refine nZ ?_)
        all_goals first | (exfalso; omega) | exact ret_plain (.inl rfl) rfl rfl
    · rw [List.take_of_length_le (by omega), List.take_of_length_le (by omega)] at hg
      rw [show decide (a = b) = true from decide_eq_true hg]
      repeat' (first|refine wS ?_|refine wB ?_|refine wK ?_|refine wR ?_|refine wE ?_|refine wT ?_|refine wU ?_|(refine wC rfl (fun hb=>?_) (fun hb=>?_)<;>(first|subst hb|((try simp only [nm] at hb);try (exfalso;omega))))|(refine rg 4 ?_;refine mV ?_;refine mV ?_;(first|refine qV T ?_|refine vV (by exact fs_lenNil T rfl rfl) ?_);refine vV (by exact fs_lss rfl rfl) ?_)|(refine rg 8 ?_;refine aV ?_)|refine nZ ?_)
      all_goals first | (exfalso; omega) | exact ret_plain (.inl rfl) rfl rfl
  · rw [show decide (a = b) = false from decide_eq_false (fun h => hl (by rw [h]))]
    refine acall T Try.func13 rfl rfl rfl rfl ?_
    repeat' (first|refine wS ?_|refine wB ?_|refine wK ?_|refine wR ?_|refine wE ?_|refine wT ?_|refine wU ?_|(refine wC rfl (fun hb=>?_) (fun hb=>?_)<;>(first|subst hb|((try simp only [nm] at hb);try (exfalso;omega))))|(refine rg 0 ?_;refine aV ?_)|(refine rg 1 ?_;refine mV ?_;(first|refine qV T ?_|refine vV (by exact fs_lenNil T rfl rfl) ?_);refine mV ?_;(first|refine qV T ?_|refine vV (by exact fs_lenNil T rfl rfl) ?_);refine vV (by exact fs_neq rfl rfl) ?_)|(refine rg 2 ?_;refine aV ?_)|refine nZ ?_)
    all_goals first | (exfalso; omega) | exact ret_plain (.inl rfl) rfl rfl
theorem sampleO_c : ACall Try.prog 12 [] [] (.agg [.i 5, .i 2, .i 1, .rowE (ints smF.k) 1, .sl 0 0 10 1, .nils, .nils, .nils, .nils]) [.arr (ints (List.replicate 10 15)) 1] := by
  refine acall T Try.func12 rfl rfl rfl rfl ?_
  repeat' (first|refine wS ?_|refine wB ?_|refine wK ?_|refine wR ?_|refine wE ?_|refine wT ?_|refine wU ?_|(refine rg 0 ?_;(all_goals first|(refine vc_n (by exact fs_buildSlice T rfl rfl (by decide) (by decide) rfl rfl rfl) rfl ?_;refine vc_frz 3 rfl rfl rfl rfl ?_)|(refine vc_n (by exact fs_alloc T rfl) rfl ?_)))|(refine rg 1 ?_;(all_goals first|(refine vc_n (by exact fs_buildSlice T rfl rfl (by decide) (by decide) rfl rfl rfl) rfl ?_;refine vc_frz 3 rfl rfl rfl rfl ?_)|(refine vc_n (by exact fs_buildSlice T rfl rfl (by decide) (by decide) rfl rfl rfl) rfl ?_));(all_goals (refine vV (by exact fs_build T rfl rfl rfl rfl) ?_));(all_goals first|(refine vc_n (by exact fs_buildSlice T rfl rfl (by decide) (by decide) rfl rfl rfl) rfl ?_;refine vc_frz 3 rfl rfl rfl rfl ?_)|(refine vc_n (by exact fs_alloc T rfl) rfl ?_));(all_goals (refine vc_store T rfl rfl rfl rfl rfl rfl (by decide) rfl ?_)))|(refine rg 2 ?_;refine aV ?_)|refine nZ ?_)
  refine aw_ownC 2 4 1 rfl rfl (by decide) ?_
  refine aw_loop (X := {j : Nat // j ≤ 10}) (fun j => [(0, .ptr 0 0), (1, .ptr 1 0), (2, .i j.1)]) (fun j => [.cells [.i 0, .i 0, .i 0, .nils, .nils, .nils, .nils, .nils, .nils], .cells [.i 5, .i 2, .i 1, .rowE (ints smF.k) 1, .sl 2 0 j.1 1], .arr (ints (List.replicate j.1 15)) 1]) (fun j => 10 - j.1) ⟨0, by omega⟩ ⟨[0, 2, 3], rfl, (by (repeat (first | exact trivial | refine ⟨rfl, ?_⟩))), ⟨.inr rfl, .inr rfl, .inr rfl, trivial⟩, by decide, fun i hi => absurd hi (Nat.not_lt_zero _)⟩ ?_
  rintro ⟨j, hj⟩
  dsimp only
  have hrl : (List.replicate j (15 : Int)).length = j := List.length_replicate
  by_cases hlt : j < 10
  · have hrs : List.replicate (j + 1) (15 : Int) = List.replicate j 15 ++ [15] := List.replicate_succ'
    generalize List.replicate j (15 : Int) = R at *
    repeat' (first|refine wS ?_|refine wB ?_|refine wK ?_|refine wR ?_|refine wE ?_|refine wT ?_|refine wU ?_|(refine rg 3 ?_;refine mV ?_;refine vV (by first|exact fs_lssT rfl rfl (by omega)|exact fs_lss rfl rfl) ?_)|(refine rg 5 ?_;refine fV T ?_;refine lV T ?_;refine vc_n (by exact fs_buildSlice T rfl rfl (by decide) (by decide) rfl rfl rfl) rfl ?_;refine vc_append T rfl rfl rfl rfl rfl rfl (by simp;omega) (Elems.whole rfl rfl) rfl (by simp;omega) (by simp;omega) rfl ?_;refine fV T ?_;refine vc_store T rfl rfl rfl rfl rfl rfl (by decide) rfl ?_)|(refine rg 4 ?_;refine mV ?_;refine vV (by first|exact fs_addr rfl rfl (by omega) (by omega)|exact fs_add rfl rfl) ?_;refine aV ?_)|refine nZ ?_)
    all_goals exact ⟨⟨j + 1, hlt⟩, by dsimp only; omega, [0, 1, 4], rfl, (by (repeat (first | exact trivial | refine ⟨rfl, ?_⟩))), ⟨.inr rfl, .inr (by simp only [hrl]; rfl), .inr (sub_arr rfl (by dsimp only; rw [hrs, ← hrl]; exact ints_app) (ints_idf _)), trivial⟩, by decide, fun i hi => absurd hi (Nat.not_lt_zero _)⟩
  · obtain rfl : j = 10 := by omega
    repeat' (first|refine wS ?_|refine wB ?_|refine wK ?_|refine wR ?_|refine wE ?_|refine wT ?_|refine wU ?_|(refine rg 3 ?_;refine mV ?_;refine vV (by first|exact fs_lssF rfl rfl (by omega)|exact fs_lss rfl rfl) ?_)|(refine rg 6 ?_;refine lV T ?_;refine vV (by exact fs_build T rfl rfl rfl rfl) ?_;refine vc_store T rfl rfl rfl rfl rfl rfl (by decide) rfl ?_)|refine nZ ?_)
    all_goals exact ⟨.inl rfl, [2], _, rfl, rfl, rfl, ⟨.inr (sub_arr rfl rfl (ints_idf _)), trivial⟩, by decide, fun i hi => absurd hi (Nat.not_lt_zero _)⟩
theorem sample_c : ACall Try.prog 12 [] [] (.agg (sitA smS)) [] :=
  acall_view sampleO_c (.agg (.cons (.v _) (.cons (.v _) (.cons (.v _) (.cons (.row _ _ _) (.cons (view_ints rfl rfl) (.cons (.nils 5) (.cons (.nils 2) (.cons (.nils 2) (.cons (.nils 2) .nil))))))))))
theorem way_1 : LaneP (netP smS (walkP smF) 1) [1, 0] ∧ LaneP (netP smS (walkP smF) 1) [1, 2, 3, 4] := by
  rw [sm_walk]
  refine ⟨⟨by decide, [0], rfl, (by decide : exB smF 1 = false), (by decide : (0 : Int) ∈ stepP smF [0, 1, 2, 3, 4] 1), (by decide : exB smF 0 = true)⟩, ⟨by decide, [2, 3, 4], rfl, (by decide : exB smF 1 = false), (by decide : (2 : Int) ∈ stepP smF [0, 1, 2, 3, 4] 1), (by decide : exB smF 2 = false), (by decide : (3 : Int) ∈ stepP smF [0, 1, 2, 3, 4] 2), (by decide : exB smF 3 = false), (by decide : (4 : Int) ∈ stepP smF [0, 1, 2, 3, 4] 3), (by decide : exB smF 4 = true)⟩⟩
theorem way_2 : LaneP (netP smS (walkP smF) 2) [2, 1, 0] ∧ LaneP (netP smS (walkP smF) 2) [2, 3, 4] := by
  rw [sm_walk]
  refine ⟨⟨by decide, [1, 0], rfl, (by decide : exB smF 2 = false), (by decide : (1 : Int) ∈ stepP smF [0, 1, 2, 3, 4] 2), (by decide : exB smF 1 = false), (by decide : (0 : Int) ∈ stepP smF [0, 1, 2, 3, 4] 1), (by decide : exB smF 0 = true)⟩, ⟨by decide, [3, 4], rfl, (by decide : exB smF 2 = false), (by decide : (3 : Int) ∈ stepP smF [0, 1, 2, 3, 4] 2), (by decide : exB smF 3 = false), (by decide : (4 : Int) ∈ stepP smF [0, 1, 2, 3, 4] 3), (by decide : exB smF 4 = true)⟩⟩
theorem way_3 : LaneP (netP smS (walkP smF) 3) [3, 2, 1, 0] ∧ LaneP (netP smS (walkP smF) 3) [3, 4] := by
  rw [sm_walk]
  refine ⟨⟨by decide, [2, 1, 0], rfl, (by decide : exB smF 3 = false), (by decide : (2 : Int) ∈ stepP smF [0, 1, 2, 3, 4] 3), (by decide : exB smF 2 = false), (by decide : (1 : Int) ∈ stepP smF [0, 1, 2, 3, 4] 2), (by decide : exB smF 1 = false), (by decide : (0 : Int) ∈ stepP smF [0, 1, 2, 3, 4] 1), (by decide : exB smF 0 = true)⟩, ⟨by decide, [4], rfl, (by decide : exB smF 3 = false), (by decide : (4 : Int) ∈ stepP smF [0, 1, 2, 3, 4] 3), (by decide : exB smF 4 = true)⟩⟩
theorem not_stuck {s : Sit} {c : Int} {l l' : List Int} (h1 : LaneP (netP s (walkP s.fl) c) l) (h2 : LaneP (netP s (walkP s.fl) c) l') (h : ∀ x, x ∈ l → x ∈ l' → x = c) : ¬ StuckP s c := by
  rintro (h3 | ⟨x, hx, h3⟩)
  · exact h3 _ h1
  · exact hx (h x (h3 _ h1) (h3 _ h2))
theorem sm_free : ∀ c, c ∈ kindC smF 4 → ¬ StuckP smS c := by
  intro c hc
  rw [sm_kind] at hc
  simp only [List.mem_cons, List.not_mem_nil, or_false] at hc
  rcases hc with rfl | rfl | rfl
  · exact not_stuck way_1.1 way_1.2 (by decide)
  · exact not_stuck way_2.1 way_2.2 (by decide)
  · exact not_stuck way_3.1 way_3.2 (by decide)
theorem sm_certs {L : List LaneT} (h1 : L.map (·.1) = kindC smF 4) (h2 : ∀ x, x ∈ L → PairOk smS x) : ∃ (a1 b1 a3 b3 A B : List Int), L = [(1, a1, b1), (2, A, B), (3, a3, b3)] ∧ ((A = [2, 1, 0] ∧ B = [2, 3, 4]) ∨ (A = [2, 3, 4] ∧ B = [2, 1, 0])) := by
  rw [sm_kind] at h1
  match L, h1, h2 with
  | [], h1, _ => simp at h1
  | [_], h1, _ => simp at h1
  | [_, _], h1, _ => simp at h1
  | _ :: _ :: _ :: _ :: _, h1, _ => simp at h1
  | [(c1, a1, b1), (c2, A, B), (c3, a3, b3)], h1, h2 =>
    simp only [List.map_cons, List.map_nil, List.cons.injEq, and_true] at h1
    obtain ⟨rfl, rfl, rfl⟩ := h1
    obtain ⟨p1, p2, p3⟩ := h2 (2, A, B) (by simp)
    dsimp only at p1 p2 p3
    refine ⟨a1, b1, a3, b3, A, B, rfl, ?_⟩
    rcases sm_lane p1 with rfl | rfl <;> rcases sm_lane p2 with rfl | rfl
    · exact absurd (p3 1 (by simp) (by simp)) (by decide)
    · exact .inl ⟨rfl, rfl⟩
    · exact .inr ⟨rfl, rfl⟩
    · exact absurd (p3 3 (by simp) (by simp)) (by decide)
theorem sm_len {L : List LaneT} (h2 : ∀ x, x ∈ L → PairOk smS x) : ∀ x, x ∈ L → x.2.1.length ≤ 1000000 ∧ x.2.2.length ≤ 1000000 := fun x hx => by
  obtain ⟨p1, p2, _⟩ := h2 x hx
  have q1 := lane_len p1
  have q2 := lane_len p2
  have e : (walkP smS.fl).length = 5 := by show (walkP smF).length = 5; rw [sm_walk]; rfl
  omega
theorem smallL_c : ACall Try.prog 5 [] [] (.b true) [] := by
  have cM := make_p smS sm_fine
  have cO := off_c smS sm_fine 2 (by unfold rngI; omega)
  rw [show offR smS.fl 2 = [2, 7] from sm_off] at cO
  have cE := same_c [2, 7] [2, 7] (by decide)
  have c00 := same_c [2, 1, 0] [2, 1, 0] (by decide)
  have c01 := same_c [2, 1, 0] [2, 3, 4] (by decide)
  have c10 := same_c [2, 3, 4] [2, 1, 0] (by decide)
  have c11 := same_c [2, 3, 4] [2, 3, 4] (by decide)
  rw [decide_eq_true rfl] at c00 c11 cE
  rw [decide_eq_false (by decide)] at c01 c10
  refine PCall.toA (Φ := fun r o => r = .b true ∧ o = []) ?_ (fun _ _ h => h)
  refine pcall T Try.func5 rfl rfl rfl rfl ?_
  repeat' (first|refine wS ?_|refine wB ?_|refine wK ?_|refine wR ?_|refine wE ?_|refine wT ?_|refine wU ?_|(refine rg 0 ?_;refine aV ?_)|(refine rg 1 ?_;refine vV (by exact kC (sample_c)) ?_;refine vc_n (by exact fs_alloc T rfl) rfl ?_;refine vc_store T rfl rfl rfl rfl rfl rfl (by decide) rfl ?_)|(refine rg 2 ?_;(all_goals (refine lV T ?_));(all_goals (refine vc_pcallw [] rfl rfl cM rfl rfl (by decide) trivial (by simp) rfl ?_;rintro _ _ ⟨rfl,(⟨L,h1,h2⟩|⟨L,c,post,h1,h2,h3⟩)⟩));(all_goals (refine mV ?_;refine xV ?_;refine xV ?_;refine xV ?_;refine vc_n (by exact fs_alloc T rfl) rfl ?_;refine vc_store T rfl rfl rfl rfl rfl rfl (by decide) rfl ?_;refine aV ?_;refine aV ?_)))|refine nZ ?_)
  · have hlen := sm_len h2
    have hb : boundP smS.fl = 1 := sm_bound
    rw [hb]
    obtain ⟨a1, b1, a3, b3, A, B, rfl, hAB⟩ := sm_certs h1 h2
    have q1 : (lanesA [(1, a1, b1), (2, A, B), (3, a3, b3)])[(1 : Int).toNat]? = some (laneA (2, A, B)) := rfl
    have cR := request_c [(1, a1, b1), (2, A, B), (3, a3, b3)] 1 2 [0, -1, 0, 1, 0, 0, 0, 0, 0, 0] (by simp) hlen
    rcases hAB with ⟨rfl, rfl⟩ | ⟨rfl, rfl⟩
    · rw [show reqP [(1, a1, b1), (2, [2, 1, 0], [2, 3, 4]), (3, a3, b3)] 1 2 [0, -1, 0, 1, 0, 0, 0, 0, 0, 0] = (1, 1, 0) from rfl] at cR
      repeat' (first|refine wS ?_|refine wB ?_|refine wK ?_|refine wR ?_|refine wE ?_|refine wT ?_|refine wU ?_|(refine rg 3 ?_;(all_goals (refine mV ?_;refine vV (by exact fs_neq rfl rfl) ?_;refine mV ?_));(all_goals first|(refine gK ?_));(all_goals first|(refine gT ?_;(refine mV ?_);refine gT ?_;(refine vV (by exact fs_neq rfl rfl) ?_))|(iterate 2 first|refine gF ?_|refine gU ?_));(all_goals ((first|refine pV ?_|refine vV (by exact fs_pick rfl rfl rfl) ?_);refine mV ?_));(all_goals first|(refine gK ?_));(all_goals first|(refine gT ?_;(refine fV T ?_);refine gT ?_;(refine lV T ?_);refine gT ?_;(first|refine qV T ?_|refine vV (by exact fs_lenNil T rfl rfl) ?_);refine gT ?_;(refine vV (by exact fs_neq rfl rfl) ?_))|(iterate 4 first|refine gF ?_|refine gU ?_));(all_goals ((first|refine pV ?_|refine vV (by exact fs_pick rfl rfl rfl) ?_);refine mV ?_));(all_goals first|(refine gK ?_));(all_goals first|(refine gT ?_;(refine fV T ?_);refine gT ?_;(refine lV T ?_);refine gT ?_;(refine vV (by exact fs_neq rfl rfl) ?_))|(iterate 3 first|refine gF ?_|refine gU ?_));(all_goals (first|refine pV ?_|refine vV (by exact fs_pick rfl rfl rfl) ?_)))|(refine rg 5 ?_;refine fV T ?_;refine lV T ?_;refine vV (by exact fs_indexRowE T rfl rfl rfl rfl rfl (by decide) (lanes_len _) q1) ?_;refine lV T ?_;refine vc_n (by exact fs_alloc T rfl) rfl ?_;refine vc_store T rfl rfl rfl rfl rfl rfl (by decide) rfl ?_)|refine nZ ?_)
      refine aw_keep [(1, .ptr 0 0), (2, .ptr 1 0), (5, .ptr 2 0)] [.cells (sitA smS), .cells (certA [(1, a1, b1), (2, [2, 1, 0], [2, 3, 4]), (3, a3, b3)] 1), .cells (laneA (2, [2, 1, 0], [2, 3, 4]))] ⟨[0, 1, 2], rfl, (by (repeat (first | exact trivial | refine ⟨rfl, ?_⟩))), ⟨.inr rfl, .inr rfl, .inr rfl, trivial⟩, by decide, fun i hi => absurd hi (Nat.not_lt_zero _)⟩ ?_
      repeat' (first|refine wS ?_|refine wB ?_|refine wK ?_|refine wR ?_|refine wE ?_|refine wT ?_|refine wU ?_|(refine rg 6 ?_;(all_goals (refine fV T ?_;refine lV T ?_));(all_goals first|(refine vc_n (by exact fs_buildSlice T rfl rfl (by decide) (by decide) rfl rfl rfl) rfl ?_;refine vc_frz 42 rfl rfl rfl rfl ?_)|(refine vc_n (by exact fs_buildSlice T rfl rfl (by decide) (by decide) rfl rfl rfl) rfl ?_;refine vc_frz 47 rfl rfl rfl rfl ?_)|(refine vc_n (by exact fs_buildSlice T rfl rfl (by decide) (by decide) rfl rfl rfl) rfl ?_;refine vc_frz 52 rfl rfl rfl rfl ?_)|(refine vc_n (by exact fs_buildSlice T rfl rfl (by decide) (by decide) rfl rfl rfl) rfl ?_;refine vc_frz 57 rfl rfl rfl rfl ?_)|(refine vc_n (by exact fs_buildSlice T rfl rfl (by decide) (by decide) rfl rfl rfl) rfl ?_));(all_goals (refine vV (by first|exact kC (c00)|exact kC (c11)|exact kC (c10)|exact kC (c01)) ?_;refine mV ?_));(all_goals first|(refine gK ?_));(all_goals first|(refine gT ?_;(refine fV T ?_);refine gT ?_;(refine lV T ?_);refine gT ?_;(first|(refine vc_n (by exact fs_buildSlice T rfl rfl (by decide) (by decide) rfl rfl rfl) rfl ?_;refine vc_frz 42 rfl rfl rfl rfl ?_)|(refine vc_n (by exact fs_buildSlice T rfl rfl (by decide) (by decide) rfl rfl rfl) rfl ?_;refine vc_frz 47 rfl rfl rfl rfl ?_)|(refine vc_n (by exact fs_buildSlice T rfl rfl (by decide) (by decide) rfl rfl rfl) rfl ?_;refine vc_frz 52 rfl rfl rfl rfl ?_)|(refine vc_n (by exact fs_buildSlice T rfl rfl (by decide) (by decide) rfl rfl rfl) rfl ?_;refine vc_frz 57 rfl rfl rfl rfl ?_)|(refine vc_n (by exact fs_buildSlice T rfl rfl (by decide) (by decide) rfl rfl rfl) rfl ?_));refine gT ?_;(refine vV (by first|exact kC (c00)|exact kC (c11)|exact kC (c10)|exact kC (c01)) ?_))|(iterate 4 first|refine gF ?_|refine gU ?_));(all_goals ((first|refine pV ?_|refine vV (by exact fs_pick rfl rfl rfl) ?_);refine aV ?_)))|(refine rg 7 ?_;(all_goals (refine fV T ?_;refine lV T ?_));(all_goals first|(refine vc_n (by exact fs_buildSlice T rfl rfl (by decide) (by decide) rfl rfl rfl) rfl ?_;refine vc_frz 42 rfl rfl rfl rfl ?_)|(refine vc_n (by exact fs_buildSlice T rfl rfl (by decide) (by decide) rfl rfl rfl) rfl ?_;refine vc_frz 47 rfl rfl rfl rfl ?_)|(refine vc_n (by exact fs_buildSlice T rfl rfl (by decide) (by decide) rfl rfl rfl) rfl ?_;refine vc_frz 52 rfl rfl rfl rfl ?_)|(refine vc_n (by exact fs_buildSlice T rfl rfl (by decide) (by decide) rfl rfl rfl) rfl ?_;refine vc_frz 57 rfl rfl rfl rfl ?_)|(refine vc_n (by exact fs_buildSlice T rfl rfl (by decide) (by decide) rfl rfl rfl) rfl ?_));(all_goals (refine vV (by first|exact kC (c00)|exact kC (c11)|exact kC (c10)|exact kC (c01)) ?_;refine mV ?_));(all_goals first|(refine gK ?_));(all_goals first|(refine gT ?_;(refine fV T ?_);refine gT ?_;(refine lV T ?_);refine gT ?_;(first|(refine vc_n (by exact fs_buildSlice T rfl rfl (by decide) (by decide) rfl rfl rfl) rfl ?_;refine vc_frz 42 rfl rfl rfl rfl ?_)|(refine vc_n (by exact fs_buildSlice T rfl rfl (by decide) (by decide) rfl rfl rfl) rfl ?_;refine vc_frz 47 rfl rfl rfl rfl ?_)|(refine vc_n (by exact fs_buildSlice T rfl rfl (by decide) (by decide) rfl rfl rfl) rfl ?_;refine vc_frz 52 rfl rfl rfl rfl ?_)|(refine vc_n (by exact fs_buildSlice T rfl rfl (by decide) (by decide) rfl rfl rfl) rfl ?_;refine vc_frz 57 rfl rfl rfl rfl ?_)|(refine vc_n (by exact fs_buildSlice T rfl rfl (by decide) (by decide) rfl rfl rfl) rfl ?_));refine gT ?_;(refine vV (by first|exact kC (c00)|exact kC (c11)|exact kC (c10)|exact kC (c01)) ?_))|(iterate 4 first|refine gF ?_|refine gU ?_));(all_goals ((first|refine pV ?_|refine vV (by exact fs_pick rfl rfl rfl) ?_);refine aV ?_)))|refine nZ ?_)
      refine aw_keep [(1, .ptr 0 0), (2, .ptr 1 0), (6, .b true), (7, .b false)] [.cells (sitA smS), .cells (certA [(1, a1, b1), (2, [2, 1, 0], [2, 3, 4]), (3, a3, b3)] 1)] ⟨[0, 1], rfl, (by (repeat (first | exact trivial | refine ⟨rfl, ?_⟩))), ⟨.inr rfl, .inr rfl, trivial⟩, by decide, fun i hi => absurd hi (Nat.not_lt_zero _)⟩ ?_
      repeat' (first|refine wS ?_|refine wB ?_|refine wK ?_|refine wR ?_|refine wE ?_|refine wT ?_|refine wU ?_|(refine rg 8 ?_;(all_goals first|(refine vc_n (by exact fs_buildSlice T rfl rfl (by decide) (by decide) rfl rfl rfl) rfl ?_;refine vc_frz 60 rfl rfl rfl rfl ?_)|(refine vc_n (by exact fs_buildSlice T rfl rfl (by decide) (by decide) rfl rfl rfl) rfl ?_));(all_goals (refine aV ?_)))|(refine rg 9 ?_;refine lV T ?_;refine mV ?_;refine vV (by exact kC (cR)) ?_;refine mV ?_;refine xV ?_;refine xV ?_;refine xV ?_;refine aV ?_;refine aV ?_;refine aV ?_)|refine nZ ?_)
      refine aw_keep [(1, .ptr 0 0), (6, .b true), (7, .b false), (9, .i 1), (10, .i 1), (11, .i 0)] [.cells (sitA smS)] ⟨[0], rfl, (by (repeat (first | exact trivial | refine ⟨rfl, ?_⟩))), ⟨.inr rfl, trivial⟩, by decide, fun i hi => absurd hi (Nat.not_lt_zero _)⟩ ?_
      repeat' (first|refine wS ?_|refine wB ?_|refine wK ?_|refine wR ?_|refine wE ?_|refine wT ?_|refine wU ?_|(refine rg 10 ?_;(all_goals (refine mV ?_;refine mV ?_));(all_goals first|(refine gK ?_));(all_goals first|(refine gT ?_;(refine mV ?_);refine gT ?_;(refine vV (by exact fs_eql rfl rfl) ?_))|(iterate 2 first|refine gF ?_|refine gU ?_));(all_goals ((first|refine pV ?_|refine vV (by exact fs_pick rfl rfl rfl) ?_);refine mV ?_));(all_goals first|(refine gK ?_));(all_goals first|(refine gT ?_;(refine mV ?_);refine gT ?_;(refine mV ?_))|(iterate 2 first|refine gF ?_|refine gU ?_));(all_goals first|(refine gK ?_));(all_goals first|(refine gT ?_;(refine mV ?_);refine gT ?_;(refine vV (by exact fs_eql rfl rfl) ?_))|(iterate 2 first|refine gF ?_|refine gU ?_));(all_goals first|(refine gT ?_;(first|refine pV ?_|refine vV (by exact fs_pick rfl rfl rfl) ?_))|(refine gF ?_)|(refine gU ?_));(all_goals ((first|refine pV ?_|refine vV (by exact fs_pick rfl rfl rfl) ?_);refine mV ?_));(all_goals first|(refine gK ?_));(all_goals first|(refine gT ?_;(refine mV ?_);refine gT ?_;(refine vV (by exact fs_eql rfl rfl) ?_))|(iterate 2 first|refine gF ?_|refine gU ?_));(all_goals ((first|refine pV ?_|refine vV (by exact fs_pick rfl rfl rfl) ?_);refine mV ?_));(all_goals first|(refine gK ?_));(all_goals first|(refine gT ?_;(refine mV ?_);refine gT ?_;(refine vV (by exact fs_eql rfl rfl) ?_))|(iterate 2 first|refine gF ?_|refine gU ?_));(all_goals ((first|refine pV ?_|refine vV (by exact fs_pick rfl rfl rfl) ?_);refine mV ?_));(all_goals first|(refine gK ?_));(all_goals first|(refine gT ?_;(refine lV T ?_);refine gT ?_;(refine vV (by exact kC (cO)) ?_);refine gT ?_;(first|(refine vc_n (by exact fs_buildSlice T rfl rfl (by decide) (by decide) rfl rfl rfl) rfl ?_;refine vc_frz 91 rfl rfl rfl rfl ?_)|(refine vc_n (by exact fs_buildSlice T rfl rfl (by decide) (by decide) rfl rfl rfl) rfl ?_));refine gT ?_;(refine vV (by exact kC (cE)) ?_))|(iterate 4 first|refine gF ?_|refine gU ?_));(all_goals ((first|refine pV ?_|refine vV (by exact fs_pick rfl rfl rfl) ?_);refine aV ?_)))|refine nZ ?_)
      all_goals exact ⟨_, _, ⟨rfl, rfl⟩, ret_plain (.inl rfl) rfl rfl⟩
    · rw [show reqP [(1, a1, b1), (2, [2, 3, 4], [2, 1, 0]), (3, a3, b3)] 1 2 [0, -1, 0, 1, 0, 0, 0, 0, 0, 0] = (0, 1, 0) from rfl] at cR
      repeat' (first|refine wS ?_|refine wB ?_|refine wK ?_|refine wR ?_|refine wE ?_|refine wT ?_|refine wU ?_|(refine rg 3 ?_;(all_goals (refine mV ?_;refine vV (by exact fs_neq rfl rfl) ?_;refine mV ?_));(all_goals first|(refine gK ?_));(all_goals first|(refine gT ?_;(refine mV ?_);refine gT ?_;(refine vV (by exact fs_neq rfl rfl) ?_))|(iterate 2 first|refine gF ?_|refine gU ?_));(all_goals ((first|refine pV ?_|refine vV (by exact fs_pick rfl rfl rfl) ?_);refine mV ?_));(all_goals first|(refine gK ?_));(all_goals first|(refine gT ?_;(refine fV T ?_);refine gT ?_;(refine lV T ?_);refine gT ?_;(first|refine qV T ?_|refine vV (by exact fs_lenNil T rfl rfl) ?_);refine gT ?_;(refine vV (by exact fs_neq rfl rfl) ?_))|(iterate 4 first|refine gF ?_|refine gU ?_));(all_goals ((first|refine pV ?_|refine vV (by exact fs_pick rfl rfl rfl) ?_);refine mV ?_));(all_goals first|(refine gK ?_));(all_goals first|(refine gT ?_;(refine fV T ?_);refine gT ?_;(refine lV T ?_);refine gT ?_;(refine vV (by exact fs_neq rfl rfl) ?_))|(iterate 3 first|refine gF ?_|refine gU ?_));(all_goals (first|refine pV ?_|refine vV (by exact fs_pick rfl rfl rfl) ?_)))|(refine rg 5 ?_;refine fV T ?_;refine lV T ?_;refine vV (by exact fs_indexRowE T rfl rfl rfl rfl rfl (by decide) (lanes_len _) q1) ?_;refine lV T ?_;refine vc_n (by exact fs_alloc T rfl) rfl ?_;refine vc_store T rfl rfl rfl rfl rfl rfl (by decide) rfl ?_)|refine nZ ?_)
      refine aw_keep [(1, .ptr 0 0), (2, .ptr 1 0), (5, .ptr 2 0)] [.cells (sitA smS), .cells (certA [(1, a1, b1), (2, [2, 3, 4], [2, 1, 0]), (3, a3, b3)] 1), .cells (laneA (2, [2, 3, 4], [2, 1, 0]))] ⟨[0, 1, 2], rfl, (by (repeat (first | exact trivial | refine ⟨rfl, ?_⟩))), ⟨.inr rfl, .inr rfl, .inr rfl, trivial⟩, by decide, fun i hi => absurd hi (Nat.not_lt_zero _)⟩ ?_
      repeat' (first|refine wS ?_|refine wB ?_|refine wK ?_|refine wR ?_|refine wE ?_|refine wT ?_|refine wU ?_|(refine rg 6 ?_;(all_goals (refine fV T ?_;refine lV T ?_));(all_goals first|(refine vc_n (by exact fs_buildSlice T rfl rfl (by decide) (by decide) rfl rfl rfl) rfl ?_;refine vc_frz 42 rfl rfl rfl rfl ?_)|(refine vc_n (by exact fs_buildSlice T rfl rfl (by decide) (by decide) rfl rfl rfl) rfl ?_;refine vc_frz 47 rfl rfl rfl rfl ?_)|(refine vc_n (by exact fs_buildSlice T rfl rfl (by decide) (by decide) rfl rfl rfl) rfl ?_;refine vc_frz 52 rfl rfl rfl rfl ?_)|(refine vc_n (by exact fs_buildSlice T rfl rfl (by decide) (by decide) rfl rfl rfl) rfl ?_;refine vc_frz 57 rfl rfl rfl rfl ?_)|(refine vc_n (by exact fs_buildSlice T rfl rfl (by decide) (by decide) rfl rfl rfl) rfl ?_));(all_goals (refine vV (by first|exact kC (c00)|exact kC (c11)|exact kC (c10)|exact kC (c01)) ?_;refine mV ?_));(all_goals first|(refine gK ?_));(all_goals first|(refine gT ?_;(refine fV T ?_);refine gT ?_;(refine lV T ?_);refine gT ?_;(first|(refine vc_n (by exact fs_buildSlice T rfl rfl (by decide) (by decide) rfl rfl rfl) rfl ?_;refine vc_frz 42 rfl rfl rfl rfl ?_)|(refine vc_n (by exact fs_buildSlice T rfl rfl (by decide) (by decide) rfl rfl rfl) rfl ?_;refine vc_frz 47 rfl rfl rfl rfl ?_)|(refine vc_n (by exact fs_buildSlice T rfl rfl (by decide) (by decide) rfl rfl rfl) rfl ?_;refine vc_frz 52 rfl rfl rfl rfl ?_)|(refine vc_n (by exact fs_buildSlice T rfl rfl (by decide) (by decide) rfl rfl rfl) rfl ?_;refine vc_frz 57 rfl rfl rfl rfl ?_)|(refine vc_n (by exact fs_buildSlice T rfl rfl (by decide) (by decide) rfl rfl rfl) rfl ?_));refine gT ?_;(refine vV (by first|exact kC (c00)|exact kC (c11)|exact kC (c10)|exact kC (c01)) ?_))|(iterate 4 first|refine gF ?_|refine gU ?_));(all_goals ((first|refine pV ?_|refine vV (by exact fs_pick rfl rfl rfl) ?_);refine aV ?_)))|(refine rg 7 ?_;(all_goals (refine fV T ?_;refine lV T ?_));(all_goals first|(refine vc_n (by exact fs_buildSlice T rfl rfl (by decide) (by decide) rfl rfl rfl) rfl ?_;refine vc_frz 42 rfl rfl rfl rfl ?_)|(refine vc_n (by exact fs_buildSlice T rfl rfl (by decide) (by decide) rfl rfl rfl) rfl ?_;refine vc_frz 47 rfl rfl rfl rfl ?_)|(refine vc_n (by exact fs_buildSlice T rfl rfl (by decide) (by decide) rfl rfl rfl) rfl ?_;refine vc_frz 52 rfl rfl rfl rfl ?_)|(refine vc_n (by exact fs_buildSlice T rfl rfl (by decide) (by decide) rfl rfl rfl) rfl ?_;refine vc_frz 57 rfl rfl rfl rfl ?_)|(refine vc_n (by exact fs_buildSlice T rfl rfl (by decide) (by decide) rfl rfl rfl) rfl ?_));(all_goals (refine vV (by first|exact kC (c00)|exact kC (c11)|exact kC (c10)|exact kC (c01)) ?_;refine mV ?_));(all_goals first|(refine gK ?_));(all_goals first|(refine gT ?_;(refine fV T ?_);refine gT ?_;(refine lV T ?_);refine gT ?_;(first|(refine vc_n (by exact fs_buildSlice T rfl rfl (by decide) (by decide) rfl rfl rfl) rfl ?_;refine vc_frz 42 rfl rfl rfl rfl ?_)|(refine vc_n (by exact fs_buildSlice T rfl rfl (by decide) (by decide) rfl rfl rfl) rfl ?_;refine vc_frz 47 rfl rfl rfl rfl ?_)|(refine vc_n (by exact fs_buildSlice T rfl rfl (by decide) (by decide) rfl rfl rfl) rfl ?_;refine vc_frz 52 rfl rfl rfl rfl ?_)|(refine vc_n (by exact fs_buildSlice T rfl rfl (by decide) (by decide) rfl rfl rfl) rfl ?_;refine vc_frz 57 rfl rfl rfl rfl ?_)|(refine vc_n (by exact fs_buildSlice T rfl rfl (by decide) (by decide) rfl rfl rfl) rfl ?_));refine gT ?_;(refine vV (by first|exact kC (c00)|exact kC (c11)|exact kC (c10)|exact kC (c01)) ?_))|(iterate 4 first|refine gF ?_|refine gU ?_));(all_goals ((first|refine pV ?_|refine vV (by exact fs_pick rfl rfl rfl) ?_);refine aV ?_)))|refine nZ ?_)
      refine aw_keep [(1, .ptr 0 0), (2, .ptr 1 0), (6, .b false), (7, .b true)] [.cells (sitA smS), .cells (certA [(1, a1, b1), (2, [2, 3, 4], [2, 1, 0]), (3, a3, b3)] 1)] ⟨[0, 1], rfl, (by (repeat (first | exact trivial | refine ⟨rfl, ?_⟩))), ⟨.inr rfl, .inr rfl, trivial⟩, by decide, fun i hi => absurd hi (Nat.not_lt_zero _)⟩ ?_
      repeat' (first|refine wS ?_|refine wB ?_|refine wK ?_|refine wR ?_|refine wE ?_|refine wT ?_|refine wU ?_|(refine rg 8 ?_;(all_goals first|(refine vc_n (by exact fs_buildSlice T rfl rfl (by decide) (by decide) rfl rfl rfl) rfl ?_;refine vc_frz 60 rfl rfl rfl rfl ?_)|(refine vc_n (by exact fs_buildSlice T rfl rfl (by decide) (by decide) rfl rfl rfl) rfl ?_));(all_goals (refine aV ?_)))|(refine rg 9 ?_;refine lV T ?_;refine mV ?_;refine vV (by exact kC (cR)) ?_;refine mV ?_;refine xV ?_;refine xV ?_;refine xV ?_;refine aV ?_;refine aV ?_;refine aV ?_)|refine nZ ?_)
      refine aw_keep [(1, .ptr 0 0), (6, .b false), (7, .b true), (9, .i 0), (10, .i 1), (11, .i 0)] [.cells (sitA smS)] ⟨[0], rfl, (by (repeat (first | exact trivial | refine ⟨rfl, ?_⟩))), ⟨.inr rfl, trivial⟩, by decide, fun i hi => absurd hi (Nat.not_lt_zero _)⟩ ?_
      repeat' (first|refine wS ?_|refine wB ?_|refine wK ?_|refine wR ?_|refine wE ?_|refine wT ?_|refine wU ?_|(refine rg 10 ?_;(all_goals (refine mV ?_;refine mV ?_));(all_goals first|(refine gK ?_));(all_goals first|(refine gT ?_;(refine mV ?_);refine gT ?_;(refine vV (by exact fs_eql rfl rfl) ?_))|(iterate 2 first|refine gF ?_|refine gU ?_));(all_goals ((first|refine pV ?_|refine vV (by exact fs_pick rfl rfl rfl) ?_);refine mV ?_));(all_goals first|(refine gK ?_));(all_goals first|(refine gT ?_;(refine mV ?_);refine gT ?_;(refine mV ?_))|(iterate 2 first|refine gF ?_|refine gU ?_));(all_goals first|(refine gK ?_));(all_goals first|(refine gT ?_;(refine mV ?_);refine gT ?_;(refine vV (by exact fs_eql rfl rfl) ?_))|(iterate 2 first|refine gF ?_|refine gU ?_));(all_goals first|(refine gT ?_;(first|refine pV ?_|refine vV (by exact fs_pick rfl rfl rfl) ?_))|(refine gF ?_)|(refine gU ?_));(all_goals ((first|refine pV ?_|refine vV (by exact fs_pick rfl rfl rfl) ?_);refine mV ?_));(all_goals first|(refine gK ?_));(all_goals first|(refine gT ?_;(refine mV ?_);refine gT ?_;(refine vV (by exact fs_eql rfl rfl) ?_))|(iterate 2 first|refine gF ?_|refine gU ?_));(all_goals ((first|refine pV ?_|refine vV (by exact fs_pick rfl rfl rfl) ?_);refine mV ?_));(all_goals first|(refine gK ?_));(all_goals first|(refine gT ?_;(refine mV ?_);refine gT ?_;(refine vV (by exact fs_eql rfl rfl) ?_))|(iterate 2 first|refine gF ?_|refine gU ?_));(all_goals ((first|refine pV ?_|refine vV (by exact fs_pick rfl rfl rfl) ?_);refine mV ?_));(all_goals first|(refine gK ?_));(all_goals first|(refine gT ?_;(refine lV T ?_);refine gT ?_;(refine vV (by exact kC (cO)) ?_);refine gT ?_;(first|(refine vc_n (by exact fs_buildSlice T rfl rfl (by decide) (by decide) rfl rfl rfl) rfl ?_;refine vc_frz 91 rfl rfl rfl rfl ?_)|(refine vc_n (by exact fs_buildSlice T rfl rfl (by decide) (by decide) rfl rfl rfl) rfl ?_));refine gT ?_;(refine vV (by exact kC (cE)) ?_))|(iterate 4 first|refine gF ?_|refine gU ?_));(all_goals ((first|refine pV ?_|refine vV (by exact fs_pick rfl rfl rfl) ?_);refine aV ?_)))|refine nZ ?_)
      all_goals exact ⟨_, _, ⟨rfl, rfl⟩, ret_plain (.inl rfl) rfl rfl⟩
  · exact absurd h3 (sm_free c (by rw [show smS.fl = smF from rfl] at h1; rw [← h1]; simp))
end Go.Proofs.Ytjpcpbbkelgkeaa
namespace Go.Proofs.Ytjpcpbbkelgkeaa
open Go Go.Ab Go.Fl Go.Re Go.Ln Go.MapKept
attribute [local irreducible] VC AW FStep ACall PCall AStep
set_option maxHeartbeats 4000000
theorem rsize_c {f : Flo} (g : Fine f) : ACall Try.prog 21 [floorA f] [] (.i f.size) [] := by
  have hb := g.bounds
  refine acall T Try.func21 rfl rfl rfl rfl ?_
  repeat' (first|refine wS ?_|refine wB ?_|refine wK ?_|refine wR ?_|refine wE ?_|refine wT ?_|refine wU ?_|(refine rg 0 ?_;refine vc_n (by exact fs_box rfl rfl) rfl ?_;refine aV ?_)|(refine rg 1 ?_;refine fV T ?_;refine lV T ?_;refine fV T ?_;refine lV T ?_;refine vV (by first|exact fs_mulr rfl rfl (by omega) (by omega)|exact fs_mul rfl rfl) ?_;refine fV T ?_;refine lV T ?_;refine vV (by first|exact fs_mulr rfl rfl (by omega) (by omega)|exact fs_mul rfl rfl) ?_;refine aV ?_)|refine nZ ?_)
  exact ret_plain (.inl rfl) rfl rfl
theorem ris_c {f : Flo} (g : Fine f) (c : Int) : ACall Try.prog 8 [floorA f, .i c] [] (.b (decide (0 ≤ c) && decide (c < f.size))) [] := by
  have hs := rsize_c g
  refine acall T Try.func8 rfl rfl rfl rfl ?_
  repeat' (first|refine wS ?_|refine wB ?_|refine wK ?_|refine wR ?_|refine wE ?_|refine wT ?_|refine wU ?_|(refine wC rfl (fun hb=>?_) (fun hb=>?_)<;>(first|subst hb|((try simp only [nm] at hb);try (exfalso;omega))))|(refine rg 0 ?_;refine vc_n (by exact fs_box rfl rfl) rfl ?_;refine aV ?_)|(refine rg 1 ?_;(all_goals (refine mV ?_;refine vV (by exact fs_geq rfl rfl) ?_;refine mV ?_));(all_goals first|(refine gK ?_)|(refine vc_split rfl rfl (fun hb=>?_) (fun hb=>?_)<;>(first|subst hb|(rw [hb];(try simp only [nm] at hb);try ((exfalso;omega);done)))));(all_goals first|(refine gT ?_;(refine mV ?_);refine gT ?_;(refine lV T ?_);refine gT ?_;(refine vV (by exact kC (hs)) ?_);refine gT ?_;(refine vV (by exact fs_lss rfl rfl) ?_))|(iterate 4 first|refine gF ?_|refine gU ?_));(all_goals ((first|refine pV ?_|refine vV (by exact fs_pick rfl rfl rfl) ?_);refine aV ?_)))|refine nZ ?_)
  all_goals
    refine ret_plain (.inl rfl) rfl (b_ret ?_)
    simp [*]
theorem few_more {s : Sit} (h : FewP s 40 20) : FewP s 300 1000 :=
  ⟨Nat.le_trans h.kl (by decide), Nat.le_trans h.ol (by decide), Nat.le_trans h.zl (by decide), Nat.le_trans h.al (by decide), Nat.le_trans h.sl (by decide), Nat.le_trans h.rl (by decide), fun z hz => ⟨Nat.le_trans (h.z z hz).1 (by decide), (h.z z hz).2⟩, h.a, h.s⟩
structure FitP (s : Sit) : Prop where
  few : FewP s 40 20
  ok : SvOk s
theorem FitP.fine {s : Sit} (h : FitP s) : Fine s.fl := right_fine h.ok.fl (by have := h.few.kl; omega)
theorem fits_p (s : Sit) : PCall Try.prog 6 [.agg (sitA s)] [] (okB (FitP s)) := by
  have cF := few11_p s 40 20 (by decide) (by decide)
  refine pcall T Try.func6 rfl rfl rfl rfl ?_
  repeat' (first|refine wS ?_|refine wB ?_|refine wK ?_|refine wR ?_|refine wE ?_|refine wT ?_|refine wU ?_|(refine wC rfl (fun hb=>?_) (fun hb=>?_)<;>(first|subst hb|((try simp only [nm] at hb);try (exfalso;omega))))|(refine rg 0 ?_;refine vc_n (by exact fs_box rfl rfl) rfl ?_;refine aV ?_)|(refine rg 1 ?_;(all_goals (refine lV T ?_));(all_goals (refine vc_pcallb rfl rfl (cF) (.cons (view_self _ rfl) (.cons (.v _) (.cons (.v _) .nil))) (by rintro _ ⟨_,rfl,_⟩;rfl) rfl ?_;rintro _ ⟨b1,rfl,hF⟩;dsimp only [putd];cases b1));(all_goals (refine mV ?_));(all_goals first|(refine gK ?_)|(refine vc_split rfl rfl (fun hb=>?_) (fun hb=>?_)<;>(first|subst hb|(rw [hb];(try simp only [nm] at hb);try ((exfalso;omega);done)))));(all_goals first|(refine gT ?_;(refine lV T ?_);refine gT ?_;(refine vc_pcallb rfl rfl (sright_c s (few_more (hF rfl))) (.cons (view_self _ rfl) .nil) (by rintro _ ⟨_,rfl,_⟩;rfl) rfl ?_;rintro _ ⟨b2,rfl,hS⟩;dsimp only [putd];cases b2))|(iterate 2 first|refine gF ?_|refine gU ?_));(all_goals ((first|refine pV ?_|refine vV (by exact fs_pick rfl rfl rfl) ?_);refine aV ?_)))|refine nZ ?_)
  all_goals first | exact ⟨.b false, [], ⟨rfl, false, rfl, fun h => Bool.noConfusion h⟩, ret_plain (.inl rfl) rfl rfl⟩ | exact ⟨.b true, [], ⟨rfl, true, rfl, fun _ => ⟨hF rfl, hS rfl⟩⟩, ret_plain (.inl rfl) rfl rfl⟩
end Go.Proofs.Ytjpcpbbkelgkeaa
namespace Go.Proofs.Ytjpcpbbkelgkeaa
open Go Go.Ab Go.Fl Go.Shelf Go.Proofs Go.MapKept
attribute [local irreducible] VC AW FStep ACall PCall StrStruct StrT AStep AnyAt
set_option maxHeartbeats 8000000
end Go.Proofs.Ytjpcpbbkelgkeaa
namespace Go.Proofs.Ytjpcpbbkelgkeaa
open Go Go.Ab Go.Fl Go.Shelf Go.Proofs Go.MapKept
end Go.Proofs.Ytjpcpbbkelgkeaa
namespace Go.Proofs.Ytjpcpbbkelgkeaa
open Go Go.Ab Go.Fl Go.Shelf Go.Proofs Go.MapKept
attribute [local irreducible] VC AW FStep ACall PCall StrStruct StrT AStep
set_option maxHeartbeats 4000000
end Go.Proofs.Ytjpcpbbkelgkeaa
namespace Go.Proofs.Ytjpcpbbkelgkeaa
open Go Go.Ab Go.Fl Go.Shelf Go.Proofs Go.MapKept
attribute [local irreducible] VC AW FStep ACall PCall StrStruct StrT AStep
set_option maxHeartbeats 4000000
theorem FewP.more {s : Sit} (h : FewP s 30 12) : FewP s 300 1000 :=
  ⟨Nat.le_trans h.kl (by decide), Nat.le_trans h.ol (by decide), Nat.le_trans h.zl (by decide), Nat.le_trans h.al (by decide), Nat.le_trans h.sl (by decide), Nat.le_trans h.rl (by decide), fun z hz => ⟨Nat.le_trans (h.z z hz).1 (by decide), (h.z z hz).2⟩, h.a, h.s⟩
end Go.Proofs.Ytjpcpbbkelgkeaa
namespace Go.Proofs.Ytjpcpbbkelgkeaa
open Go Go.Ab Go.Fl
attribute [local irreducible] VC AW FStep ACall
def okI (n : Int) : Prop := (Lit.int .i64 n).wf = true
theorem opInt : Opens Try.prog 3 okI (fun n => [AV.i n]) := Opens.int Try.underlying3 (by kernel_rfl)
theorem opStr : Opens Try.prog 9 (fun l : List UInt8 => l.length ≤ maxLen) (fun l => [AV.s l]) :=
  Opens.iso (Opens.string (by kernel_rfl) (by kernel_rfl)) (fun s : ByteArray => s.data.toList) fun s hs => ⟨by simpa using hs, rfl⟩
theorem opInts : Opens Try.prog 22 (fun l : List Int => l.length ≤ maxLen ∧ ∀ a, a ∈ l → okI a) (fun l => [.rowE (ints l) 1]) :=
  Opens.slice Try.underlying22 (by kernel_rfl) (by kernel_rfl) (by decide) opInt
theorem opFloor : Opens Try.prog 24 (fun _ : Flo => True) (fun p => floorC p) :=
  Opens.struct (fs := [(3, 0), (3, 1), (3, 2), (22, 3), (22, 4)]) (by kernel_rfl) (by kernel_rfl)
    (fun e W fuel css hl hx => by
      obtain ⟨a, h1, h2, h3⟩ := OpensF.cons opInt (OpensF.cons opInt (OpensF.cons opInt (OpensF.cons opInts (OpensF.cons opInts OpensF.nil)))) e W fuel css hl hx
      exact ⟨⟨a.1, a.2.1, a.2.2.1, a.2.2.2.1, a.2.2.2.2.1⟩, trivial, by simpa using h2, by simpa using h3⟩)
    (fun _ => by kernel_rfl)
theorem opSpan : Opens Try.prog 115 (fun _ : Int × Int => True) (fun x => [AV.i x.1, AV.i x.2]) :=
  Opens.struct (fs := [(3, 0), (3, 1)]) (by kernel_rfl) (by kernel_rfl)
    (fun e W fuel css hl hx => by
      obtain ⟨a, h1, h2, h3⟩ := OpensF.cons opInt (OpensF.cons opInt OpensF.nil) e W fuel css hl hx
      exact ⟨(a.1, a.2.1), trivial, by simpa using h2, by simpa using h3⟩)
    (fun _ => by kernel_rfl)
theorem opSpans : Opens Try.prog 68 (fun l : List (Int × Int) => l.length ≤ maxLen ∧ ∀ a, a ∈ l → True) (fun l => [.rowE (stksA l) 2]) :=
  Opens.slice Try.underlying68 (by kernel_rfl) (by kernel_rfl) (by decide) opSpan
theorem opStart : Opens Try.prog 86 (fun _ : Int × Int => True) (fun x => [AV.i x.1, AV.i x.2]) :=
  Opens.struct (fs := [(3, 0), (3, 1)]) (by kernel_rfl) (by kernel_rfl)
    (fun e W fuel css hl hx => by
      obtain ⟨a, h1, h2, h3⟩ := OpensF.cons opInt (OpensF.cons opInt OpensF.nil) e W fuel css hl hx
      exact ⟨(a.1, a.2.1), trivial, by simpa using h2, by simpa using h3⟩)
    (fun _ => by kernel_rfl)
theorem opStarts : Opens Try.prog 28 (fun l : List (Int × Int) => l.length ≤ maxLen ∧ ∀ a, a ∈ l → True) (fun l => [.rowE (stksA l) 2]) :=
  Opens.slice Try.underlying28 (by kernel_rfl) (by kernel_rfl) (by decide) opStart
theorem opApart : Opens Try.prog 72 (fun _ : List UInt8 × List UInt8 => True) (fun x => [AV.s x.1, AV.s x.2]) :=
  Opens.struct (fs := [(9, 0), (9, 1)]) (by kernel_rfl) (by kernel_rfl)
    (fun e W fuel css hl hx => by
      obtain ⟨a, h1, h2, h3⟩ := OpensF.cons opStr (OpensF.cons opStr OpensF.nil) e W fuel css hl hx
      exact ⟨(a.1, a.2.1), trivial, by simpa using h2, by simpa using h3⟩)
    (fun _ => by kernel_rfl)
theorem opAparts : Opens Try.prog 26 (fun l : List (List UInt8 × List UInt8) => l.length ≤ maxLen ∧ ∀ a, a ∈ l → True) (fun l => [.rowE (apsA l) 2]) :=
  Opens.slice Try.underlying26 (by kernel_rfl) (by kernel_rfl) (by decide) opApart
theorem opShelf : Opens Try.prog 74 (fun _ : Int × List UInt8 => True) (fun x => [AV.i x.1, AV.s x.2]) :=
  Opens.struct (fs := [(3, 0), (9, 1)]) (by kernel_rfl) (by kernel_rfl)
    (fun e W fuel css hl hx => by
      obtain ⟨a, h1, h2, h3⟩ := OpensF.cons opInt (OpensF.cons opStr OpensF.nil) e W fuel css hl hx
      exact ⟨(a.1, a.2.1), trivial, by simpa using h2, by simpa using h3⟩)
    (fun _ => by kernel_rfl)
theorem opShelves : Opens Try.prog 27 (fun l : List (Int × List UInt8) => l.length ≤ maxLen ∧ ∀ a, a ∈ l → True) (fun l => [.rowE (shsA l) 2]) :=
  Opens.slice Try.underlying27 (by kernel_rfl) (by kernel_rfl) (by decide) opShelf
theorem opZone : Opens Try.prog 70 (fun _ : Zon => True) zonA :=
  Opens.struct (fs := [(9, 0), (22, 1), (3, 2), (3, 3), (68, 4)]) (by kernel_rfl) (by kernel_rfl)
    (fun e W fuel css hl hx => by
      obtain ⟨a, h1, h2, h3⟩ := OpensF.cons opStr (OpensF.cons opInts (OpensF.cons opInt (OpensF.cons opInt (OpensF.cons opSpans OpensF.nil)))) e W fuel css hl hx
      exact ⟨(a.1, a.2.1, a.2.2.1, a.2.2.2.1, a.2.2.2.2.1), trivial, by simpa using h2, by simpa using h3⟩)
    (fun _ => by kernel_rfl)
theorem opZones : Opens Try.prog 25 (fun l : List Zon => l.length ≤ maxLen ∧ ∀ a, a ∈ l → True) (fun l => [.rowE (zonsA l) 5]) :=
  Opens.slice Try.underlying25 (by kernel_rfl) (by kernel_rfl) (by decide) opZone
theorem opSite : Opens Try.prog 30 (fun _ : Sit => True) (fun s => sitA s) :=
  Opens.struct (fs := [(24, 0), (25, 5), (26, 6), (27, 7), (28, 8)]) (by kernel_rfl) (by kernel_rfl)
    (fun e W fuel css hl hx => by
      obtain ⟨a, h1, h2, h3⟩ := OpensF.cons opFloor (OpensF.cons opZones (OpensF.cons opAparts (OpensF.cons opShelves (OpensF.cons opStarts OpensF.nil)))) e W fuel css hl hx
      exact ⟨⟨a.1, a.2.1, a.2.2.1, a.2.2.2.1, a.2.2.2.2.1⟩, trivial, by simpa using h2, by simpa using h3⟩)
    (fun _ => by kernel_rfl)
end Go.Proofs.Ytjpcpbbkelgkeaa
namespace Go.Proofs.Ytjpcpbbkelgkeaa
open Go Go.Ab Go.Fl
end Go.Proofs.Ytjpcpbbkelgkeaa
namespace Go.Proofs.Ytjpcpbbkelgkeaa
open Go Go.Ab Go.Fl Go.Re Go.Ln Go.MapKept
attribute [local irreducible] VC AW FStep ACall PCall AStep
set_option maxHeartbeats 4000000
def lostF (waits : List Int) (lost b : Int) (i : Nat) : Int := if (i : Int) = lost then -1 else if i < waits.length then max 0 (min (waits.getD i 0) b) else 0
def lostS (waits : List Int) (lost b : Int) (N j : Nat) : List Int := (List.range N).map fun i => if i < j then lostF waits lost b i else 0
theorem lostS_len (waits : List Int) (lost b : Int) (N j : Nat) : (lostS waits lost b N j).length = N := by simp [lostS]
theorem lostS_at {waits : List Int} {lost b : Int} {N j i : Nat} (h : i < N) : (lostS waits lost b N j).getD i (-1) = if i < j then lostF waits lost b i else 0 := by
  unfold lostS; rw [List.getD_eq_getElem?_getD]; simp [h]
theorem lostS_set {waits : List Int} {lost b : Int} {N j : Nat} (h : j < N) : (lostS waits lost b N j).set j (lostF waits lost b j) = lostS waits lost b N (j + 1) := by
  refine List.ext_getElem (by simp [lostS]) fun i h1 h2 => ?_
  simp only [lostS, List.getElem_set, List.getElem_map, List.getElem_range]
  by_cases e : j = i
  · subst e; simp
  · rw [if_neg e]
    have : i < j ↔ i < j + 1 := by omega
    simp only [this]
theorem ints_set (l : List Int) (j : Nat) (v : Int) : (ints l).set j [AV.i v] = ints (l.set j v) := by
  simp [List.map_set]
theorem lostS_same {waits : List Int} {lost b : Int} {N j : Nat} (h : j < N) (h0 : lostF waits lost b j = 0) : lostS waits lost b N (j + 1) = lostS waits lost b N j := by
  refine List.ext_getElem (by simp [lostS]) fun i h1 h2 => ?_
  simp only [lostS, List.getElem_map, List.getElem_range]
  by_cases e : j = i
  · subst e; simp [h0]
  · have : i < j + 1 ↔ i < j := by omega
    simp only [this]
theorem lostS_0 (waits : List Int) (lost b : Int) (N : Nat) : ints (lostS waits lost b N 0) = List.replicate N [AV.i 0] := by
  refine List.ext_getElem (by simp [lostS]) fun i h1 h2 => ?_
  simp [lostS]
theorem lostF_rng {waits : List Int} {lost b : Int} {i : Nat} (hb : 0 ≤ b) : -1 ≤ lostF waits lost b i ∧ lostF waits lost b i ≤ b ∧ ((i : Int) ≠ lost → 0 ≤ lostF waits lost b i) := by
  unfold lostF
  by_cases h : (i : Int) = lost
  · rw [if_pos h]; exact ⟨by omega, by omega, fun q => absurd h q⟩
  · rw [if_neg h]
    split <;> exact ⟨by omega, by omega, fun _ => by omega⟩
theorem bound_ge (s : Sit) : 0 ≤ boundP s.fl := by
  unfold boundP
  have : ∀ (L : List (Int × List Int)) (n : Int), 0 ≤ n → 0 ≤ L.foldl mxL n := by
    intro L
    induction L with
    | nil => intro n h; exact h
    | cons e L ih => intro n h; exact ih _ (by unfold mxL; omega)
  exact this _ 0 (by omega)
theorem cert_find {s : Sit} {L : List LaneT} (h1 : L.map (·.1) = kindC s.fl 4) {c : Int} (hc : c ∈ kindC s.fl 4) : ∃ x, x ∈ L ∧ x.1 = c ∧ L.find? (fun x => decide (x.1 = c)) = some x ∧ ∀ y, y ∈ L → y.1 = c → y = x := by
  rw [← h1] at hc
  obtain ⟨x, hx, rfl⟩ := List.mem_map.1 hc
  have hnd : (L.map (·.1)).Nodup := by rw [h1]; exact (ofK_asc _ _ _).imp (fun h => by omega)
  have hu : ∀ y, y ∈ L → y.1 = x.1 → y = x := fun y hy e => by
    obtain ⟨i, hi, rfl⟩ := List.mem_iff_getElem.1 hy
    obtain ⟨j, hj, rfl⟩ := List.mem_iff_getElem.1 hx
    have : i = j := (List.getElem?_inj (by simpa using hi) hnd).1 (by rw [List.getElem?_map, List.getElem?_map, List.getElem?_eq_getElem hi, List.getElem?_eq_getElem hj]; exact congrArg some e)
    subst this; rfl
  obtain ⟨z, hz⟩ : ∃ z, L.find? (fun y => decide (y.1 = x.1)) = some z := by
    cases hf : L.find? (fun y => decide (y.1 = x.1)) with
    | none => rw [List.find?_eq_none] at hf; have := hf _ hx; simp at this
    | some z => exact ⟨z, rfl⟩
  have hz1 := List.find?_some hz
  simp only [decide_eq_true_eq] at hz1
  have := hu z (List.mem_of_find?_eq_some hz) hz1
  subst this
  exact ⟨z, hx, rfl, hz, hu⟩
def selL (k : Int) (x : LaneT) : List Int := if k = 1 then x.2.2 else x.2.1
theorem stands_p {s : Sit} (g : Fine s.fl) {L : List LaneT} (h1 : L.map (·.1) = kindC s.fl 4) (h2 : ∀ x, x ∈ L → PairOk s x) {c lost : Int} (hc : c ∈ kindC s.fl 4) (hl : lost ≠ c) (waits : List Int) :
    ∃ k n, reqP L (boundP s.fl) c (lostS waits lost (boundP s.fl) s.fl.k.length s.fl.k.length) = (k, n, 0) ∧ 0 ≤ n ∧ n ≤ boundP s.fl ∧ (k = 0 ∨ k = 1) ∧ ∀ x, x ∈ L → x.1 = c → ∀ y, y ∈ (selL k x).drop 1 → 0 ≤ y ∧ y < s.fl.k.length ∧ 0 ≤ (lostS waits lost (boundP s.fl) s.fl.k.length s.fl.k.length).getD y.toNat (-1) ∧ (lostS waits lost (boundP s.fl) s.fl.k.length s.fl.k.length).getD y.toNat (-1) ≤ n := by
  obtain ⟨x, hx, hxc, hf, hu⟩ := cert_find h1 hc
  have hb := bound_ge s
  have hwl := lostS_len waits lost (boundP s.fl) s.fl.k.length s.fl.k.length
  have hp := h2 x hx
  obtain ⟨p1, p2, p3⟩ := hp
  have hin : ∀ {l : List Int}, LaneP (netP s (walkP s.fl) x.1) l → ∀ y, y ∈ l.drop 1 → 0 ≤ y ∧ y < s.fl.k.length ∧ y ≠ x.1 ∧ y ∈ l := fun {l} h y hy => by
    obtain ⟨r, e, e2, hW⟩ := lane_drop h
    rw [e2] at hy
    obtain ⟨q1, q2⟩ := hW y hy
    obtain ⟨w1, w2, _⟩ := mem_walk.1 q1
    exact ⟨w1, w2, q2, by rw [e]; exact .tail _ hy⟩
  have hv : ∀ y : Int, 0 ≤ y → y < s.fl.k.length → (lostS waits lost (boundP s.fl) s.fl.k.length s.fl.k.length).getD y.toNat (-1) = lostF waits lost (boundP s.fl) y.toNat := fun y h0 h1 => by
    rw [lostS_at (by omega), if_pos (by omega)]
  have hr : ∀ {l : List Int}, LaneP (netP s (walkP s.fl) x.1) l → ∀ y, y ∈ l.drop 1 → 0 ≤ y ∧ y < (lostS waits lost (boundP s.fl) s.fl.k.length s.fl.k.length).length ∧ -1 ≤ (lostS waits lost (boundP s.fl) s.fl.k.length s.fl.k.length).getD y.toNat (-1) ∧ (lostS waits lost (boundP s.fl) s.fl.k.length s.fl.k.length).getD y.toNat (-1) ≤ boundP s.fl := fun {l} h y hy => by
    obtain ⟨a, b, _, _⟩ := hin h y hy
    have := lostF_rng (waits := waits) (lost := lost) (i := y.toNat) hb
    rw [hwl, hv y a b]
    exact ⟨a, b, this.1, this.2.1⟩
  have hne : ∀ {l : List Int}, LaneP (netP s (walkP s.fl) x.1) l → lost ∉ l.drop 1 → ∀ y, y ∈ l.drop 1 → (lostS waits lost (boundP s.fl) s.fl.k.length s.fl.k.length).getD y.toNat (-1) ≠ -1 := fun {l} h hlo y hy => by
    obtain ⟨a, b, _, _⟩ := hin h y hy
    have := lostF_rng (waits := waits) (lost := lost) (i := y.toNat) hb
    rw [hv y a b]
    have h3 := this.2.2 (fun e => hlo (by rw [← e, Int.toNat_of_nonneg a]; exact hy))
    omega
  have hor : (∀ y, y ∈ x.2.1.drop 1 → (lostS waits lost (boundP s.fl) s.fl.k.length s.fl.k.length).getD y.toNat (-1) ≠ -1) ∨ (∀ y, y ∈ x.2.2.drop 1 → (lostS waits lost (boundP s.fl) s.fl.k.length s.fl.k.length).getD y.toNat (-1) ≠ -1) := by
    by_cases q : lost ∈ x.2.1.drop 1
    · right
      refine hne p2 fun q2 => ?_
      have a := hin p1 _ q
      have b := hin p2 _ q2
      exact a.2.2.1 (p3 _ a.2.2.2 b.2.2.2)
    · exact .inl (hne p1 q)
  obtain ⟨k, n, e1, e2, e3, e4⟩ := req_free (x := x) (b := boundP s.fl) (w := lostS waits lost (boundP s.fl) s.fl.k.length s.fl.k.length) hb (hr p1) (hr p2) hor
  refine ⟨k, n, by unfold reqP; rw [hf]; exact e1, e2, e3, by omega, fun x' hx' hc' => ?_⟩
  have := hu x' hx' hc'
  subst this
  intro y hy
  unfold selL at hy
  rcases e4 with ⟨rfl, e5⟩ | ⟨rfl, e5⟩
  · rw [if_neg (by decide)] at hy
    obtain ⟨a, b, _, _⟩ := hin p1 y hy
    exact ⟨a, b, e5 y hy⟩
  · rw [if_pos rfl] at hy
    obtain ⟨a, b, _, _⟩ := hin p2 y hy
    exact ⟨a, b, e5 y hy⟩
theorem laneStands_law (s : Sit) (c lost : Int) (waits : List Int) (hwm : waits.length ≤ 9223372036854775807) : ACall Try.prog 3 [.agg (sitA s), .i c, .i lost, .rowE (ints waits) 1] [] (.b true) [] := by
  have cF := fits_p s
  have hwl : (ints waits).length = waits.length := ints_length _
  refine PCall.toA (Φ := fun r o => r = .b true ∧ o = []) ?_ (fun _ _ h => h)
  refine pcall T Try.func3 rfl rfl rfl rfl ?_
  repeat' (first|refine wS ?_|refine wB ?_|refine wK ?_|refine wR ?_|refine wE ?_|refine wT ?_|refine wU ?_|(refine wC rfl (fun hb=>?_) (fun hb=>?_)<;>(first|subst hb|((try simp only [nm] at hb);try (exfalso;omega))))|(refine rg 0 ?_;refine vc_n (by exact fs_box rfl rfl) rfl ?_;refine aV ?_)|(refine rg 1 ?_;refine vV (by exact kC (smallL_c)) ?_;refine aV ?_)|(refine rg 2 ?_;(all_goals (refine lV T ?_));(all_goals (refine vc_pcallb rfl rfl (cF) (.cons (view_self _ rfl) .nil) (by rintro _ ⟨_,rfl,_⟩;rfl) rfl ?_;rintro _ ⟨b1,rfl,hF⟩;dsimp only [putd];cases b1));(all_goals (refine vV (by exact fs_not rfl) ?_;refine mV ?_));(all_goals first|(refine gK ?_)|(refine vc_split rfl rfl (fun hb=>?_) (fun hb=>?_)<;>(first|subst hb|(rw [hb];(try simp only [nm] at hb);try ((exfalso;omega);done)))));(all_goals first|(refine gT ?_;(refine mV ?_);refine gT ?_;(first|refine qV T ?_|refine vV (by exact fs_lenNil T rfl rfl) ?_);refine gT ?_;(refine vV (by exact fs_gtr rfl rfl) ?_))|(iterate 3 first|refine gF ?_|refine gU ?_));(all_goals (first|refine pV ?_|refine vV (by exact fs_pick rfl rfl rfl) ?_)))|(refine rg 3 ?_;refine mV ?_;refine aV ?_)|refine nZ ?_)
  all_goals first | exact ⟨_, _, ⟨rfl, rfl⟩, ret_plain (.inl rfl) rfl rfl⟩ | skip
  have g := (hF rfl).fine
  have hN := (hF rfl).few.kl
  have hsz := size_eq g
  clear cF hF
  have cM := make_p s g
  have hkl : (ints s.fl.k).length = s.fl.k.length := ints_length _
  have cI := ris_c g c
  repeat' (first|refine wS ?_|refine wB ?_|refine wK ?_|refine wR ?_|refine wE ?_|refine wT ?_|refine wU ?_|(refine wC rfl (fun hb=>?_) (fun hb=>?_)<;>(first|subst hb|((try simp only [nm] at hb);try (exfalso;omega))))|(refine rg 4 ?_;(all_goals (refine lV T ?_));(all_goals (refine vc_pcallw [] rfl rfl cM rfl rfl (by decide) trivial (by simp) rfl ?_;rintro _ _ ⟨rfl,(⟨L,h1,h2⟩|⟨L,c',post,h1,h2,h3⟩)⟩));(all_goals (refine mV ?_;refine xV ?_;refine xV ?_;refine xV ?_;refine vc_n (by exact fs_alloc T rfl) rfl ?_;refine vc_store T rfl rfl rfl rfl rfl rfl (by decide) rfl ?_;refine aV ?_;refine aV ?_)))|refine nZ ?_)
  rotate_left
  · repeat' (first | refine wS ?_ | refine wB ?_ | refine wK ?_ | refine wR ?_ | refine wE ?_ | refine aw_condt rfl ?_ | refine aw_condf rfl ?_ | (refine wC rfl (fun hb => ?_) (fun hb => ?_) <;> (first | subst hb | ((try simp only [nm] at hb); try (exfalso; omega)))) | (((refine rg 5 ?_)); (all_goals (refine mV ?_; refine vV (by first | exact fs_neqT rfl rfl (by decide) | exact fs_neq rfl rfl) ?_; refine mV ?_)); (all_goals first | (refine gK ?_) | (refine vc_split rfl rfl (fun hb => ?_) (fun hb => ?_) <;> (first | subst hb | (rw [hb]; (try simp only [nm] at hb); try ((exfalso; omega); done))))); (all_goals first | (refine gT ?_; (refine fV T ?_); refine gT ?_; (refine lV T ?_); refine gT ?_; (refine mV ?_); refine gT ?_; (first | (refine vV (by first | fail) ?_) | (refine vc_n (by first | fail) rfl ?_)); refine gT ?_; (refine vV (by exact fs_not rfl) ?_)) | (iterate 5 first | refine gF ?_ | refine gU ?_)); (all_goals ((first|refine pV ?_|refine vV (by exact fs_pick rfl rfl rfl) ?_); refine mV ?_)); (all_goals first | (refine gK ?_) | (refine vc_split rfl rfl (fun hb => ?_) (fun hb => ?_) <;> (first | subst hb | (rw [hb]; (try simp only [nm] at hb); try ((exfalso; omega); done))))); (all_goals first | (refine gT ?_; (refine mV ?_); refine gT ?_; (refine mV ?_); refine gT ?_; (refine vV (by exact fs_eql rfl rfl) ?_)) | (iterate 3 first | refine gF ?_ | refine gU ?_)); (all_goals (first|refine pV ?_|refine vV (by exact fs_pick rfl rfl rfl) ?_))) | (((refine rg 6 ?_)); (all_goals (refine mV ?_; refine aV ?_))) | (refine vc_nilp (by (first | (dsimp only [ln1, ln2, List.append_nil, ln4, ln5, ln6, ln7, ln8, ln9, putAt, putd, allObjs, argEnv, un_v, un_ptr, un_ep, un_pr, un_sl, un_mp, un_row, un_agg, un_tup, un_clo, Nat.zero_add, lnb, Nat.reduceAdd, lnc, lnd]; first | done | exact rfl) | exact rfl)) ?_))
    all_goals exact ⟨_, _, ⟨rfl, rfl⟩, ret_plain (.inl rfl) rfl rfl⟩
  generalize hbd : boundP s.fl = b at *
  refine aw_keep [(1, .i c), (2, .i lost), (3, .rowE (ints waits) 1), (4, .ptr 0 0), (9, .b true), (10, .ptr 1 0), (12, .i 0)] [.cells (sitA s), .cells (certA L b)] ⟨[0, 1], rfl, (by (repeat (first | exact trivial | refine ⟨rfl, ?_⟩))), ⟨.inr rfl, .inr rfl, trivial⟩, by decide, fun i hi => absurd hi (Nat.not_lt_zero _)⟩ ?_
  by_cases hr : 0 ≤ c ∧ c < s.fl.size
  case neg =>
    have hi : (decide (0 ≤ c) && decide (c < s.fl.size)) = false := by
      rw [← Bool.not_eq_true, Bool.and_eq_true, decide_eq_true_eq, decide_eq_true_eq]; exact hr
    rw [hi] at cI
    repeat' (first|refine wS ?_|refine wB ?_|refine wK ?_|refine wR ?_|refine wE ?_|refine wT ?_|refine wU ?_|(refine wC rfl (fun hb=>?_) (fun hb=>?_)<;>(first|subst hb|((try simp only [nm] at hb);try (exfalso;omega))))|(refine rg 5 ?_;(all_goals (refine mV ?_;refine vV (by first|exact fs_neqF rfl rfl rfl|exact fs_neq rfl rfl) ?_;refine mV ?_));(all_goals first|(refine gK ?_)|(refine vc_split rfl rfl (fun hb=>?_) (fun hb=>?_)<;>(first|subst hb|(rw [hb];(try simp only [nm] at hb);try ((exfalso;omega);done)))));(all_goals first|(refine gT ?_;(refine fV T ?_);refine gT ?_;(refine lV T ?_);refine gT ?_;(refine mV ?_);refine gT ?_;(refine vV (by exact kC (cI)) ?_);refine gT ?_;(refine vV (by exact fs_not rfl) ?_))|(iterate 5 first|refine gF ?_|refine gU ?_));(all_goals ((first|refine pV ?_|refine vV (by exact fs_pick rfl rfl rfl) ?_);refine mV ?_));(all_goals first|(refine gK ?_)|(refine vc_split rfl rfl (fun hb=>?_) (fun hb=>?_)<;>(first|subst hb|(rw [hb];(try simp only [nm] at hb);try ((exfalso;omega);done)))));(all_goals first|(refine gT ?_;(refine mV ?_);refine gT ?_;(refine mV ?_);refine gT ?_;(refine vV (by exact fs_eql rfl rfl) ?_))|(iterate 3 first|refine gF ?_|refine gU ?_));(all_goals (first|refine pV ?_|refine vV (by exact fs_pick rfl rfl rfl) ?_)))|(refine rg 6 ?_;refine mV ?_;refine aV ?_)|refine nZ ?_)
    all_goals exact ⟨_, _, ⟨rfl, rfl⟩, ret_plain (.inl rfl) rfl rfl⟩
  have hi : (decide (0 ≤ c) && decide (c < s.fl.size)) = true := by
    rw [Bool.and_eq_true, decide_eq_true_eq, decide_eq_true_eq]; exact hr
  rw [hi] at cI
  by_cases hlc : lost = c
  · repeat' (first | refine wS ?_ | refine wB ?_ | refine wK ?_ | refine wR ?_ | refine wE ?_ | refine aw_condt rfl ?_ | refine aw_condf rfl ?_ | (refine wC rfl (fun hb => ?_) (fun hb => ?_) <;> (first | subst hb | ((try simp only [nm] at hb); try (exfalso; omega)))) | (((refine rg 5 ?_)); (all_goals (refine mV ?_; refine vV (by first | exact fs_neqF rfl rfl rfl | exact fs_neq rfl rfl) ?_; refine mV ?_)); (all_goals first | (refine gK ?_) | (refine vc_split rfl rfl (fun hb => ?_) (fun hb => ?_) <;> (first | subst hb | (rw [hb]; (try simp only [nm] at hb); try ((exfalso; omega); done))))); (all_goals first | (refine gT ?_; (refine fV T ?_); refine gT ?_; (refine lV T ?_); refine gT ?_; (refine mV ?_); refine gT ?_; (refine vV (by exact kC (cI)) ?_); refine gT ?_; (refine vV (by exact fs_not rfl) ?_)) | (iterate 5 first | refine gF ?_ | refine gU ?_)); (all_goals ((first|refine pV ?_|refine vV (by exact fs_pick rfl rfl rfl) ?_); refine mV ?_)); (all_goals first | (refine gK ?_) | (refine vc_split rfl rfl (fun hb => ?_) (fun hb => ?_) <;> (first | subst hb | (rw [hb]; (try simp only [nm] at hb); try ((exfalso; omega); done))))); (all_goals first | (refine gT ?_; (refine mV ?_); refine gT ?_; (refine mV ?_); refine gT ?_; (refine vV (by first | exact fs_eqlT rfl rfl hlc | exact fs_eql rfl rfl) ?_)) | (iterate 3 first | refine gF ?_ | refine gU ?_)); (all_goals (first|refine pV ?_|refine vV (by exact fs_pick rfl rfl rfl) ?_))) | (((refine rg 6 ?_)); (all_goals (refine mV ?_; refine aV ?_))) | (refine vc_nilp (by (first | (dsimp only [ln1, ln2, List.append_nil, ln4, ln5, ln6, ln7, ln8, ln9, putAt, putd, allObjs, argEnv, un_v, un_ptr, un_ep, un_pr, un_sl, un_mp, un_row, un_agg, un_tup, un_clo, Nat.zero_add, lnb, Nat.reduceAdd, lnc, lnd]; first | done | exact rfl) | exact rfl)) ?_))
    all_goals exact ⟨_, _, ⟨rfl, rfl⟩, ret_plain (.inl rfl) rfl rfl⟩
  have q1 := ints_gI (l := s.fl.k) (j := c) (i := c.toNat) 0 (by omega) (by omega)
  by_cases hk : s.fl.k.getD c.toNat 0 = 4
  case neg =>
    generalize s.fl.k.getD c.toNat 0 = y at *
    repeat' (first|refine wS ?_|refine wB ?_|refine wK ?_|refine wR ?_|refine wE ?_|refine wT ?_|refine wU ?_|(refine wC rfl (fun hb=>?_) (fun hb=>?_)<;>(first|subst hb|((try simp only [nm] at hb);try (exfalso;omega))))|(refine rg 5 ?_;(all_goals (refine mV ?_;refine vV (by first|exact fs_neqF rfl rfl rfl|exact fs_neqT rfl rfl hk|exact fs_neq rfl rfl) ?_;refine mV ?_));(all_goals first|(refine gK ?_)|(refine vc_split rfl rfl (fun hb=>?_) (fun hb=>?_)<;>(first|subst hb|(rw [hb];(try simp only [nm] at hb);try ((exfalso;omega);done)))));(all_goals first|(refine gT ?_;(refine fV T ?_);refine gT ?_;(refine lV T ?_);refine gT ?_;(refine mV ?_);refine gT ?_;(refine vV (by exact kC (cI)) ?_);refine gT ?_;(refine vV (by exact fs_not rfl) ?_))|(iterate 5 first|refine gF ?_|refine gU ?_));(all_goals ((first|refine pV ?_|refine vV (by exact fs_pick rfl rfl rfl) ?_);refine mV ?_));(all_goals first|(refine gK ?_)|(refine vc_split rfl rfl (fun hb=>?_) (fun hb=>?_)<;>(first|subst hb|(rw [hb];(try simp only [nm] at hb);try ((exfalso;omega);done)))));(all_goals first|(refine gT ?_;(refine mV ?_);refine gT ?_;(refine mV ?_);refine gT ?_;(refine vV (by first|exact fs_eqlF rfl rfl hlc|exact fs_eql rfl rfl) ?_))|(iterate 3 first|refine gF ?_|refine gU ?_));(all_goals (first|refine pV ?_|refine vV (by exact fs_pick rfl rfl rfl) ?_)))|(refine rg 7 ?_;refine fV T ?_;refine fV T ?_;refine lV T ?_;refine mV ?_;refine vV (by exact fs_indexRowE T rfl rfl rfl rfl rfl (by omega) (ints_len _) q1) ?_;refine lV T ?_;refine vV (by first|exact fs_neqF rfl rfl rfl|exact fs_neqT rfl rfl hk|exact fs_neq rfl rfl) ?_)|(refine rg 8 ?_;refine mV ?_;refine aV ?_)|refine nZ ?_)
    all_goals exact ⟨_, _, ⟨rfl, rfl⟩, ret_plain (.inl rfl) rfl rfl⟩
  have hcm : c ∈ kindC s.fl 4 := mem_ofK.2 ⟨hr.1, by omega, hk⟩
  obtain ⟨k, n, hreq, hn0, hnb, hk01, hsel⟩ := stands_p g h1 h2 hcm hlc waits
  rw [hbd] at hreq hnb hsel
  have hb0 : 0 ≤ b := by rw [← hbd]; exact bound_ge s
  have hlen : ∀ x, x ∈ L → x.2.1.length ≤ 1000000 ∧ x.2.2.length ≤ 1000000 := fun x hx => by
    obtain ⟨p1, p2, _⟩ := h2 x hx
    have a1 := lane_len p1
    have a2 := lane_len p2
    have a3 := walk_len s.fl
    omega
  have hLl : L.length ≤ s.fl.k.length := by have := congrArg List.length h1; rw [List.length_map] at this; rw [this]; exact ofK_len _ _ _
  have cR := request_c L b c (lostS waits lost b s.fl.k.length s.fl.k.length) (by omega) hlen
  rw [hreq] at cR
  rw [hk] at q1
  clear cM hreq
  repeat' (first|refine wS ?_|refine wB ?_|refine wK ?_|refine wR ?_|refine wE ?_|refine wT ?_|refine wU ?_|(refine wC rfl (fun hb=>?_) (fun hb=>?_)<;>(first|subst hb|((try simp only [nm] at hb);try (exfalso;omega))))|(refine rg 5 ?_;(all_goals (refine mV ?_;refine vV (by first|exact fs_neqF rfl rfl rfl|exact fs_neq rfl rfl) ?_;refine mV ?_));(all_goals first|(refine gK ?_)|(refine vc_split rfl rfl (fun hb=>?_) (fun hb=>?_)<;>(first|subst hb|(rw [hb];(try simp only [nm] at hb);try ((exfalso;omega);done)))));(all_goals first|(refine gT ?_;(refine fV T ?_);refine gT ?_;(refine lV T ?_);refine gT ?_;(refine mV ?_);refine gT ?_;(refine vV (by exact kC (cI)) ?_);refine gT ?_;(refine vV (by exact fs_not rfl) ?_))|(iterate 5 first|refine gF ?_|refine gU ?_));(all_goals ((first|refine pV ?_|refine vV (by exact fs_pick rfl rfl rfl) ?_);refine mV ?_));(all_goals first|(refine gK ?_)|(refine vc_split rfl rfl (fun hb=>?_) (fun hb=>?_)<;>(first|subst hb|(rw [hb];(try simp only [nm] at hb);try ((exfalso;omega);done)))));(all_goals first|(refine gT ?_;(refine mV ?_);refine gT ?_;(refine mV ?_);refine gT ?_;(refine vV (by first|exact fs_eqlF rfl rfl hlc|exact fs_eql rfl rfl) ?_))|(iterate 3 first|refine gF ?_|refine gU ?_));(all_goals (first|refine pV ?_|refine vV (by exact fs_pick rfl rfl rfl) ?_)))|(refine rg 7 ?_;refine fV T ?_;refine fV T ?_;refine lV T ?_;refine mV ?_;refine vV (by exact fs_indexRowE T rfl rfl rfl rfl rfl (by omega) (ints_len _) q1) ?_;refine lV T ?_;refine vV (by first|exact fs_neqF rfl rfl rfl|exact fs_neq rfl rfl) ?_)|(refine rg 9 ?_;refine fV T ?_;refine fV T ?_;refine lV T ?_;(first|refine qV T ?_|refine vV (by exact fs_lenNil T rfl rfl) ?_);refine vc_n (by exact fs_makeSlice T rfl rfl rfl rfl (by omega) (by omega) (by dsimp only;omega) (by omega) (by decide)) rfl ?_;refine aV ?_)|(refine rg 10 ?_;refine aV ?_)|refine nZ ?_)
  refine aw_loop (X := {j : Nat // j ≤ s.fl.k.length}) (fun j => [(1, .i c), (2, .i lost), (3, .rowE (ints waits) 1), (9, .b true), (10, .ptr 1 0), (13, .sl 2 0 s.fl.k.length 1), (14, .i (j.1 : Int))]) (fun j => [.cells (sitA s), .cells (certA L b), .arr (ints (lostS waits lost b s.fl.k.length j.1)) 1]) (fun j => s.fl.k.length - j.1) ⟨0, Nat.zero_le _⟩ ?_ ?_
  · exact ⟨[0, 1, 2], rfl, ⟨rfl, rfl, rfl, rfl, rfl, congrArg (fun n : Nat => some (AV.sl 2 0 n 1)) hkl, rfl, trivial⟩, ⟨.inr rfl, .inr rfl, .inr (sub_arr rfl (by dsimp only; rw [lostS_0]; exact congrArg (fun n : Nat => List.replicate n [AV.i 0]) hkl) (ints_idf _)), trivial⟩, by decide, fun i hi => absurd hi (Nat.not_lt_zero _)⟩
  rintro ⟨j, hj⟩
  dsimp only
  have hsl := lostS_len waits lost b s.fl.k.length j
  have hsli : (ints (lostS waits lost b s.fl.k.length j)).length = s.fl.k.length := by rw [ints_length, hsl]
  by_cases hjl : j < s.fl.k.length
  · have hset := lostS_set (waits := waits) (lost := lost) (b := b) hjl
    have q0 : (ints (lostS waits lost b s.fl.k.length j))[0 + (j : Int).toNat]? = some [AV.i ((lostS waits lost b s.fl.k.length j).getD j 0)] := by rw [Nat.zero_add]; exact ints_gI 0 (by rw [hsl]; exact hjl) (by simp)
    have hse : ∀ v, lostF waits lost b j = v → (ints (lostS waits lost b s.fl.k.length j)).set (0 + (j : Int).toNat) [AV.i v] = ints (lostS waits lost b s.fl.k.length (j + 1)) := fun v hv => by rw [Nat.zero_add, Int.toNat_natCast, ints_set, ← hv, hset]
    have hse2 : ∀ u v, lostF waits lost b j = v → ((ints (lostS waits lost b s.fl.k.length j)).set (0 + (j : Int).toNat) [AV.i u]).set (0 + (j : Int).toNat) [AV.i v] = ints (lostS waits lost b s.fl.k.length (j + 1)) := fun u v hv => by rw [List.set_set]; exact hse v hv
    have q2 : ∀ u, ((ints (lostS waits lost b s.fl.k.length j)).set (0 + (j : Int).toNat) [AV.i u])[0 + (j : Int).toNat]? = some [AV.i u] := fun u => by
      rw [List.getElem?_set_self (by rw [hsli]; omega)]
    have hss := fun h0 => lostS_same (waits := waits) (lost := lost) (b := b) hjl h0
    unfold lostF at hse hse2 hss
    generalize hS1 : lostS waits lost b s.fl.k.length (j + 1) = S1 at *
    generalize lostS waits lost b s.fl.k.length j = S0 at *
    by_cases hw : j < waits.length
    · have qw := ints_gI (l := waits) (j := (j : Int)) (i := j) 0 hw (by simp)
      generalize waits.getD j 0 = y at *
      by_cases hlo : (j : Int) = lost
      · have he := hse2 (max 0 (min y b)) (-1) (if_pos hlo)
        repeat' (first|refine wS ?_|refine wB ?_|refine wK ?_|refine wR ?_|refine wE ?_|refine wT ?_|refine wU ?_|(refine wC rfl (fun hb=>?_) (fun hb=>?_)<;>(first|subst hb|((try simp only [nm] at hb);try (exfalso;omega))))|(refine rg 11 ?_;refine mV ?_;refine mV ?_;(first|refine qV T ?_|refine vV (by exact fs_lenNil T rfl rfl) ?_);refine vV (by first|exact fs_lssT rfl rfl (by omega)|exact fs_lss rfl rfl) ?_)|(refine rg 13 ?_;refine mV ?_;refine mV ?_;(first|refine qV T ?_|refine vV (by exact fs_lenNil T rfl rfl) ?_);refine vV (by first|exact fs_lssT rfl rfl (by omega)|exact fs_lss rfl rfl) ?_)|(((refine aw_draw2k (id := 14) 177 [[],[],[],[],[2,3],[2,3,4],[],[6],[2,3,4,5,6,7],[2,3,4,5,6,7,8]] [75,76,77,78,79,80,81,82,83,84] [[],[75],[75,76],[75,76,77],[75,76],[75,76],[75,76,77,78,79,80],[75,76,77,78,79,80],[75,76],[75,76]] mixedP rfl (by decide +kernel) ?_));(all_goals first|(refine dw_v rfl rfl rfl (by exact fs_move rfl) ?_));(all_goals first|(refine dw_v rfl rfl rfl (by exact fs_move rfl) ?_));(all_goals first|(refine dw_v rfl rfl rfl (by exact fs_move rfl) ?_));(all_goals first|(refine dw_v rfl rfl rfl (by exact fs_move rfl) ?_));(all_goals first|(refine dw_v rfl rfl rfl (by first|exact fs_indexRowE T rfl rfl rfl rfl rfl (by omega) (ints_len _) qw|exact fs_indexOwn T rfl rfl rfl rfl rfl (by omega) (by omega)) ?_));(all_goals first|(refine dw_v rfl rfl rfl (by exact fs_load T rfl rfl rfl rfl) ?_));(all_goals first|(refine dw_v rfl rfl rfl (by exact fs_fieldAddr T rfl rfl rfl) ?_));(all_goals first|(refine dw_v rfl rfl rfl (by exact fs_load T rfl rfl rfl rfl) ?_));(all_goals first|(refine dw_v rfl rfl rfl (by exact fs_min rfl rfl) ?_));(all_goals first|(refine dw_v rfl rfl rfl (by exact fs_max rfl rfl) ?_));(all_goals (refine dw_fin rfl rfl (by (first|(dsimp only [ln1,ln2,List.append_nil,ln4,ln5,ln6,ln7,ln8,ln9,putAt,putd,allObjs,argEnv,un_v,un_ptr,un_ep,un_pr,un_sl,un_mp,un_row,un_agg,un_tup,un_clo,Nat.zero_add,lnb,Nat.reduceAdd,lnc,lnd];first|done|exact rfl)|exact rfl)) ?_;refine vV (by first|exact fs_indexRowE T rfl rfl rfl rfl rfl (by omega) (ints_len _) qw|exact fs_indexOwn T rfl rfl rfl rfl rfl (by omega) (by omega)) ?_));(all_goals first|(refine vc_store T rfl rfl rfl rfl rfl rfl (by decide) rfl ?_)|(refine vc_store T rfl rfl rfl rfl rfl rfl (by decide) (upd_ep rfl q0 rfl) ?_)|(refine vc_store T rfl rfl rfl rfl rfl rfl (by decide) (upd_ep rfl (q2 _) rfl) ?_)))|(refine rg 15 ?_;refine mV ?_;refine mV ?_;refine vV (by first|exact fs_eqlT rfl rfl hlo|exact fs_eql rfl rfl) ?_)|(refine rg 16 ?_;(all_goals (refine mV ?_;refine mV ?_;refine vV (by first|exact fs_indexRowE T rfl rfl rfl rfl rfl (by omega) (ints_len _) qw|exact fs_indexOwn T rfl rfl rfl rfl rfl (by omega) (by omega)) ?_));(all_goals first|(refine vc_store T rfl rfl rfl rfl rfl rfl (by decide) rfl ?_)|(refine vc_store T rfl rfl rfl rfl rfl rfl (by decide) (upd_ep rfl q0 rfl) ?_)|(refine vc_store T rfl rfl rfl rfl rfl rfl (by decide) (upd_ep rfl (q2 _) rfl) ?_)))|(refine rg 12 ?_;refine mV ?_;refine vV (by first|exact fs_addr rfl rfl (by omega) (by omega)|exact fs_add rfl rfl) ?_;refine aV ?_)|refine nZ ?_)
        all_goals exact ⟨⟨j + 1, hjl⟩, by dsimp only; omega, [0, 1, 2], rfl, (by (repeat (first | exact trivial | refine ⟨rfl, ?_⟩))), ⟨.inr rfl, .inr rfl, .inr (sub_arr rfl (by dsimp only; rw [hS1]; exact he) (ints_idf _)), trivial⟩, by decide, fun i hi => absurd hi (Nat.not_lt_zero _)⟩
      · have he := hse (max 0 (min y b)) (by rw [if_neg hlo, if_pos hw])
        repeat' (first|refine wS ?_|refine wB ?_|refine wK ?_|refine wR ?_|refine wE ?_|refine wT ?_|refine wU ?_|(refine wC rfl (fun hb=>?_) (fun hb=>?_)<;>(first|subst hb|((try simp only [nm] at hb);try (exfalso;omega))))|(refine rg 11 ?_;refine mV ?_;refine mV ?_;(first|refine qV T ?_|refine vV (by exact fs_lenNil T rfl rfl) ?_);refine vV (by first|exact fs_lssT rfl rfl (by omega)|exact fs_lss rfl rfl) ?_)|(refine rg 13 ?_;refine mV ?_;refine mV ?_;(first|refine qV T ?_|refine vV (by exact fs_lenNil T rfl rfl) ?_);refine vV (by first|exact fs_lssT rfl rfl (by omega)|exact fs_lss rfl rfl) ?_)|(((refine aw_draw2k (id := 14) 177 [[],[],[],[],[2,3],[2,3,4],[],[6],[2,3,4,5,6,7],[2,3,4,5,6,7,8]] [75,76,77,78,79,80,81,82,83,84] [[],[75],[75,76],[75,76,77],[75,76],[75,76],[75,76,77,78,79,80],[75,76,77,78,79,80],[75,76],[75,76]] mixedP rfl (by decide +kernel) ?_));(all_goals first|(refine dw_v rfl rfl rfl (by exact fs_move rfl) ?_));(all_goals first|(refine dw_v rfl rfl rfl (by exact fs_move rfl) ?_));(all_goals first|(refine dw_v rfl rfl rfl (by exact fs_move rfl) ?_));(all_goals first|(refine dw_v rfl rfl rfl (by exact fs_move rfl) ?_));(all_goals first|(refine dw_v rfl rfl rfl (by first|exact fs_indexRowE T rfl rfl rfl rfl rfl (by omega) (ints_len _) qw|exact fs_indexOwn T rfl rfl rfl rfl rfl (by omega) (by omega)) ?_));(all_goals first|(refine dw_v rfl rfl rfl (by exact fs_load T rfl rfl rfl rfl) ?_));(all_goals first|(refine dw_v rfl rfl rfl (by exact fs_fieldAddr T rfl rfl rfl) ?_));(all_goals first|(refine dw_v rfl rfl rfl (by exact fs_load T rfl rfl rfl rfl) ?_));(all_goals first|(refine dw_v rfl rfl rfl (by exact fs_min rfl rfl) ?_));(all_goals first|(refine dw_v rfl rfl rfl (by exact fs_max rfl rfl) ?_));(all_goals (refine dw_fin rfl rfl (by (first|(dsimp only [ln1,ln2,List.append_nil,ln4,ln5,ln6,ln7,ln8,ln9,putAt,putd,allObjs,argEnv,un_v,un_ptr,un_ep,un_pr,un_sl,un_mp,un_row,un_agg,un_tup,un_clo,Nat.zero_add,lnb,Nat.reduceAdd,lnc,lnd];first|done|exact rfl)|exact rfl)) ?_;refine vV (by first|exact fs_indexRowE T rfl rfl rfl rfl rfl (by omega) (ints_len _) qw|exact fs_indexOwn T rfl rfl rfl rfl rfl (by omega) (by omega)) ?_));(all_goals first|(refine vc_store T rfl rfl rfl rfl rfl rfl (by decide) rfl ?_)|(refine vc_store T rfl rfl rfl rfl rfl rfl (by decide) (upd_ep rfl q0 rfl) ?_)))|(refine rg 15 ?_;refine mV ?_;refine mV ?_;refine vV (by first|exact fs_eqlF rfl rfl hlo|exact fs_eql rfl rfl) ?_)|(refine rg 12 ?_;refine mV ?_;refine vV (by first|exact fs_addr rfl rfl (by omega) (by omega)|exact fs_add rfl rfl) ?_;refine aV ?_)|refine nZ ?_)
        all_goals exact ⟨⟨j + 1, hjl⟩, by dsimp only; omega, [0, 1, 2], rfl, (by (repeat (first | exact trivial | refine ⟨rfl, ?_⟩))), ⟨.inr rfl, .inr rfl, .inr (sub_arr rfl (by dsimp only; rw [hS1]; exact he) (ints_idf _)), trivial⟩, by decide, fun i hi => absurd hi (Nat.not_lt_zero _)⟩
    · by_cases hlo : (j : Int) = lost
      · have he := hse (-1) (if_pos hlo)
        repeat' (first|refine wS ?_|refine wB ?_|refine wK ?_|refine wR ?_|refine wE ?_|refine wT ?_|refine wU ?_|(refine wC rfl (fun hb=>?_) (fun hb=>?_)<;>(first|subst hb|((try simp only [nm] at hb);try (exfalso;omega))))|(refine rg 11 ?_;refine mV ?_;refine mV ?_;(first|refine qV T ?_|refine vV (by exact fs_lenNil T rfl rfl) ?_);refine vV (by first|exact fs_lssT rfl rfl (by omega)|exact fs_lssF rfl rfl (by omega)) ?_)|(refine rg 13 ?_;refine mV ?_;refine mV ?_;(first|refine qV T ?_|refine vV (by exact fs_lenNil T rfl rfl) ?_);refine vV (by first|exact fs_lssT rfl rfl (by omega)|exact fs_lssF rfl rfl (by omega)) ?_)|(refine rg 15 ?_;refine mV ?_;refine mV ?_;refine vV (by first|exact fs_eqlT rfl rfl hlo|exact fs_eql rfl rfl) ?_)|(refine rg 16 ?_;(all_goals (refine mV ?_;refine mV ?_;refine vV (by exact fs_indexOwn T rfl rfl rfl rfl rfl (by omega) (by omega)) ?_));(all_goals first|(refine vc_store T rfl rfl rfl rfl rfl rfl (by decide) rfl ?_)|(refine vc_store T rfl rfl rfl rfl rfl rfl (by decide) (upd_ep rfl q0 rfl) ?_)))|(refine rg 12 ?_;refine mV ?_;refine vV (by first|exact fs_addr rfl rfl (by omega) (by omega)|exact fs_add rfl rfl) ?_;refine aV ?_)|refine nZ ?_)
        all_goals exact ⟨⟨j + 1, hjl⟩, by dsimp only; omega, [0, 1, 2], rfl, (by (repeat (first | exact trivial | refine ⟨rfl, ?_⟩))), ⟨.inr rfl, .inr rfl, .inr (sub_arr rfl (by dsimp only; rw [hS1]; exact he) (ints_idf _)), trivial⟩, by decide, fun i hi => absurd hi (Nat.not_lt_zero _)⟩
      · have he := hss (by rw [if_neg hlo, if_neg hw])
        repeat' (first|refine wS ?_|refine wB ?_|refine wK ?_|refine wR ?_|refine wE ?_|refine wT ?_|refine wU ?_|(refine wC rfl (fun hb=>?_) (fun hb=>?_)<;>(first|subst hb|((try simp only [nm] at hb);try (exfalso;omega))))|(refine rg 11 ?_;refine mV ?_;refine mV ?_;(first|refine qV T ?_|refine vV (by exact fs_lenNil T rfl rfl) ?_);refine vV (by first|exact fs_lssT rfl rfl (by omega)|exact fs_lssF rfl rfl (by omega)) ?_)|(refine rg 13 ?_;refine mV ?_;refine mV ?_;(first|refine qV T ?_|refine vV (by exact fs_lenNil T rfl rfl) ?_);refine vV (by first|exact fs_lssT rfl rfl (by omega)|exact fs_lssF rfl rfl (by omega)) ?_)|(refine rg 15 ?_;refine mV ?_;refine mV ?_;refine vV (by first|exact fs_eqlF rfl rfl hlo|exact fs_eql rfl rfl) ?_)|(refine rg 12 ?_;refine mV ?_;refine vV (by first|exact fs_addr rfl rfl (by omega) (by omega)|exact fs_add rfl rfl) ?_;refine aV ?_)|refine nZ ?_)
        all_goals exact ⟨⟨j + 1, hjl⟩, by dsimp only; omega, [0, 1, 2], rfl, (by (repeat (first | exact trivial | refine ⟨rfl, ?_⟩))), ⟨.inr rfl, .inr rfl, .inr (sub_arr rfl (by dsimp only; rw [hS1, he]) (ints_idf _)), trivial⟩, by decide, fun i hi => absurd hi (Nat.not_lt_zero _)⟩
  obtain rfl : j = s.fl.k.length := by omega
  repeat' (first|refine wS ?_|refine wB ?_|refine wK ?_|refine wR ?_|refine wE ?_|refine wT ?_|refine wU ?_|(refine wC rfl (fun hb=>?_) (fun hb=>?_)<;>(first|subst hb|((try simp only [nm] at hb);try (exfalso;omega))))|(refine rg 11 ?_;refine mV ?_;refine mV ?_;(first|refine qV T ?_|refine vV (by exact fs_lenNil T rfl rfl) ?_);refine vV (by first|exact fs_lssF rfl rfl (by omega)|exact fs_lss rfl rfl) ?_)|refine nZ ?_)
  refine aw_frz 13 rfl rfl hsli.symm (idfL_flat (ints_idf _)) ?_
  have hlk : ∀ x, x ∈ L → x.1 = c → ∀ y, y ∈ (selL k x).drop 1 → _ := hsel
  clear hsel
  generalize lostS waits lost b s.fl.k.length s.fl.k.length = w at *
  repeat' (first|refine wS ?_|refine wB ?_|refine wK ?_|refine wR ?_|refine wE ?_|refine wT ?_|refine wU ?_|(refine wC rfl (fun hb=>?_) (fun hb=>?_)<;>(first|subst hb|((try simp only [nm] at hb);try (exfalso;omega))))|(refine rg 17 ?_;refine lV T ?_;refine mV ?_;refine mV ?_;refine vV (by exact kC (cR)) ?_;refine mV ?_;refine xV ?_;refine xV ?_;refine xV ?_;refine aV ?_;refine aV ?_;refine aV ?_)|(refine rg 18 ?_;(all_goals (refine mV ?_;refine vV (by first|exact fs_neqF rfl rfl rfl|exact fs_neq rfl rfl) ?_;refine mV ?_));(all_goals first|(refine gK ?_)|(refine vc_split rfl rfl (fun hb=>?_) (fun hb=>?_)<;>(first|subst hb|(rw [hb];(try simp only [nm] at hb);try ((exfalso;omega);done)))));(all_goals first|(refine gT ?_;(refine mV ?_);refine gT ?_;(refine vV (by first|exact fs_lssF rfl rfl (by omega)|exact fs_lss rfl rfl) ?_))|(iterate 2 first|refine gF ?_|refine gU ?_));(all_goals ((first|refine pV ?_|refine vV (by exact fs_pick rfl rfl rfl) ?_);refine mV ?_));(all_goals first|(refine gK ?_)|(refine vc_split rfl rfl (fun hb=>?_) (fun hb=>?_)<;>(first|subst hb|(rw [hb];(try simp only [nm] at hb);try ((exfalso;omega);done)))));(all_goals first|(refine gT ?_;(refine mV ?_);refine gT ?_;(refine fV T ?_);refine gT ?_;(refine lV T ?_);refine gT ?_;(refine vV (by first|exact fs_gtrF rfl rfl (by omega)|exact fs_gtr rfl rfl) ?_))|(iterate 4 first|refine gF ?_|refine gU ?_));(all_goals ((first|refine pV ?_|refine vV (by exact fs_pick rfl rfl rfl) ?_);refine mV ?_));(all_goals first|(refine gK ?_)|(refine vc_split rfl rfl (fun hb=>?_) (fun hb=>?_)<;>(first|subst hb|(rw [hb];(try simp only [nm] at hb);try ((exfalso;omega);done)))));(all_goals first|(refine gT ?_;(refine mV ?_);refine gT ?_;(refine vV (by first|exact fs_lssF rfl rfl (by omega)|exact fs_lss rfl rfl) ?_))|(iterate 2 first|refine gF ?_|refine gU ?_));(all_goals ((first|refine pV ?_|refine vV (by exact fs_pick rfl rfl rfl) ?_);refine mV ?_));(all_goals first|(refine gK ?_)|(refine vc_split rfl rfl (fun hb=>?_) (fun hb=>?_)<;>(first|subst hb|(rw [hb];(try simp only [nm] at hb);try ((exfalso;omega);done)))));(all_goals first|(refine gT ?_;(refine mV ?_);refine gT ?_;(refine vV (by first|exact fs_gtrF rfl rfl (by omega)|exact fs_gtr rfl rfl) ?_))|(iterate 2 first|refine gF ?_|refine gU ?_));(all_goals (first|refine pV ?_|refine vV (by exact fs_pick rfl rfl rfl) ?_)))|(refine rg 20 ?_;refine aV ?_)|refine nZ ?_)
  have hLA : (lanesA L).length = L.length := by simp
  refine aw_loop (X := {i : Nat // i ≤ L.length}) (fun i => [(1, .i c), (9, .b true), (10, .ptr 0 0), (13, .rowE (ints w) 1), (15, .i k), (16, .i n), (18, .i (i.1 : Int))]) (fun _ => [.cells (certA L b)]) (fun i => L.length - i.1) ⟨0, Nat.zero_le _⟩ ⟨[1], rfl, (by (repeat (first | exact trivial | refine ⟨rfl, ?_⟩))), ⟨.inr rfl, trivial⟩, by decide, fun i hi => absurd hi (Nat.not_lt_zero _)⟩ ?_
  rintro ⟨i, hi⟩
  dsimp only
  by_cases hil : i < L.length
  case neg =>
    repeat' (first|refine wS ?_|refine wB ?_|refine wK ?_|refine wR ?_|refine wE ?_|refine wT ?_|refine wU ?_|(refine wC rfl (fun hb=>?_) (fun hb=>?_)<;>(first|subst hb|((try simp only [nm] at hb);try (exfalso;omega))))|(refine rg 21 ?_;refine mV ?_;refine fV T ?_;refine lV T ?_;(first|refine qV T ?_|refine vV (by exact fs_lenNil T rfl rfl) ?_);refine vV (by first|exact fs_lssF rfl rfl (by omega)|exact fs_lss rfl rfl) ?_)|(refine rg 31 ?_;refine mV ?_;refine aV ?_)|refine nZ ?_)
    all_goals exact ⟨_, _, ⟨rfl, rfl⟩, ret_plain (.inl rfl) rfl rfl⟩
  have qx : (lanesA L)[(i : Int).toNat]? = some (laneA L[i]) := lanes_get (by rw [Int.toNat_natCast, List.getElem?_eq_getElem hil])
  have hxm := List.getElem_mem hil
  have hlx := hlen _ hxm
  have hlk := hlk _ hxm
  generalize L[i] = x at *
  apply cutT
  · intro rest
    rcases hk01 with hk0 | hk0
    · have hs0 : selL k x = x.2.1 := by unfold selL; rw [if_neg (by omega)]
      repeat' (first|refine wS ?_|refine wB ?_|refine wK ?_|refine wR ?_|refine wE ?_|refine wT ?_|refine wU ?_|(refine wC rfl (fun hb=>?_) (fun hb=>?_)<;>(first|subst hb|((try simp only [nm] at hb);try (exfalso;omega))))|(refine rg 21 ?_;refine mV ?_;refine fV T ?_;refine lV T ?_;(first|refine qV T ?_|refine vV (by exact fs_lenNil T rfl rfl) ?_);refine vV (by first|exact fs_lssT rfl rfl (by omega)|exact fs_lss rfl rfl) ?_)|(refine rg 23 ?_;refine fV T ?_;refine lV T ?_;refine mV ?_;refine vV (by exact fs_indexRowE T rfl rfl rfl rfl rfl (by omega) (lanes_len _) qx) ?_;refine fV T ?_;refine lV T ?_;refine aV ?_)|(refine rg 24 ?_;refine mV ?_;refine vV (by first|exact fs_eqlF rfl rfl (by omega)|exact fs_eql rfl rfl) ?_)|(refine rg 26 ?_;refine aV ?_)|refine nZ ?_)
      all_goals exact aw_keep [(1, .i c), (9, .b true), (10, .ptr 0 0), (13, .rowE (ints w) 1), (15, .i k), (16, .i n), (18, .i (i : Int)), (19, .rowE (ints (selL k x)) 1), (20, .i 1)] [.cells (certA L b)] ⟨[0], rfl, ⟨rfl, rfl, rfl, rfl, rfl, rfl, rfl, congrArg (fun l => some (AV.rowE (ints l) 1)) hs0.symm, rfl, trivial⟩, ⟨.inr rfl, trivial⟩, by decide, fun i hi => absurd hi (Nat.not_lt_zero _)⟩ rest.get
    · have hs0 : selL k x = x.2.2 := by unfold selL; rw [if_pos hk0]
      repeat' (first|refine wS ?_|refine wB ?_|refine wK ?_|refine wR ?_|refine wE ?_|refine wT ?_|refine wU ?_|(refine wC rfl (fun hb=>?_) (fun hb=>?_)<;>(first|subst hb|((try simp only [nm] at hb);try (exfalso;omega))))|(refine rg 21 ?_;refine mV ?_;refine fV T ?_;refine lV T ?_;(first|refine qV T ?_|refine vV (by exact fs_lenNil T rfl rfl) ?_);refine vV (by first|exact fs_lssT rfl rfl (by omega)|exact fs_lss rfl rfl) ?_)|(refine rg 23 ?_;refine fV T ?_;refine lV T ?_;refine mV ?_;refine vV (by exact fs_indexRowE T rfl rfl rfl rfl rfl (by omega) (lanes_len _) qx) ?_;refine fV T ?_;refine lV T ?_;refine aV ?_)|(refine rg 24 ?_;refine mV ?_;refine vV (by first|exact fs_eqlT rfl rfl hk0|exact fs_eql rfl rfl) ?_)|(refine rg 25 ?_;refine fV T ?_;refine lV T ?_;refine mV ?_;refine vV (by exact fs_indexRowE T rfl rfl rfl rfl rfl (by omega) (lanes_len _) qx) ?_;refine fV T ?_;refine lV T ?_;refine aV ?_)|(refine rg 26 ?_;refine aV ?_)|refine nZ ?_)
      all_goals exact aw_keep [(1, .i c), (9, .b true), (10, .ptr 0 0), (13, .rowE (ints w) 1), (15, .i k), (16, .i n), (18, .i (i : Int)), (19, .rowE (ints (selL k x)) 1), (20, .i 1)] [.cells (certA L b)] ⟨[0], rfl, ⟨rfl, rfl, rfl, rfl, rfl, rfl, rfl, congrArg (fun l => some (AV.rowE (ints l) 1)) hs0.symm, rfl, trivial⟩, ⟨.inr rfl, trivial⟩, by decide, fun i hi => absurd hi (Nat.not_lt_zero _)⟩ rest.get
  have hX : (selL k x).length ≤ 1000000 := by unfold selL; split <;> omega
  generalize selL k x = X at *
  have hXl : (ints X).length = X.length := ints_length _
  clear hlen hlx hxm
  refine aw_loop (X := {j : Nat // 1 ≤ j ∧ j ≤ X.length + 1}) (fun j => [(1, .i c), (9, .b true), (10, .ptr 0 0), (13, .rowE (ints w) 1), (15, .i k), (16, .i n), (18, .i (i : Int)), (19, .rowE (ints X) 1), (20, .i (j.1 : Int))]) (fun _ => [.cells (certA L b)]) (fun j => X.length + 1 - j.1) ⟨1, by omega⟩ ⟨[0], rfl, (by (repeat (first | exact trivial | refine ⟨rfl, ?_⟩))), ⟨.inr rfl, trivial⟩, by decide, fun i hi => absurd hi (Nat.not_lt_zero _)⟩ ?_
  rintro ⟨j, hj1, hj2⟩
  dsimp only
  by_cases hjx : j < X.length
  · by_cases hxc : x.1 = c
    · have hlk := hlk hxc
      have hyd : X[j] ∈ X.drop 1 := List.mem_iff_getElem?.2 ⟨j - 1, by rw [List.getElem?_drop, show 1 + (j - 1) = j by omega, List.getElem?_eq_getElem hjx]⟩
      obtain ⟨y0, y1, y2, y3⟩ := hlk _ hyd
      have qy : (ints X)[(j : Int).toNat]? = some [AV.i X[j]] := by rw [Int.toNat_natCast]; exact ints_get hjx
      generalize X[j] = y at *
      have qw := ints_gI (l := w) (j := y) (i := y.toNat) (-1) (by omega) (by omega)
      generalize w.getD y.toNat (-1) = v at *
      repeat' (first|refine wS ?_|refine wB ?_|refine wK ?_|refine wR ?_|refine wE ?_|refine wT ?_|refine wU ?_|(refine wC rfl (fun hb=>?_) (fun hb=>?_)<;>(first|subst hb|((try simp only [nm] at hb);try (exfalso;omega))))|(refine rg 27 ?_;(all_goals (refine mV ?_;refine mV ?_;(first|refine qV T ?_|refine vV (by exact fs_lenNil T rfl rfl) ?_);refine vV (by first|exact fs_lssT rfl rfl (by omega)|exact fs_lssF rfl rfl (by omega)) ?_;refine mV ?_));(all_goals first|(refine gK ?_)|(refine vc_split rfl rfl (fun hb=>?_) (fun hb=>?_)<;>(first|subst hb|(rw [hb];(try simp only [nm] at hb);try ((exfalso;omega);done)))));(all_goals first|(refine gT ?_;(refine fV T ?_);refine gT ?_;(refine lV T ?_);refine gT ?_;(refine mV ?_);refine gT ?_;(refine vV (by first|exact fs_indexRowE T rfl rfl rfl rfl rfl (by omega) (lanes_len _) qx|exact fs_indexRowE T rfl rfl rfl rfl rfl (by omega) (ints_len _) qy|exact fs_indexRowE T rfl rfl rfl rfl rfl (by omega) (ints_len _) qw) ?_);refine gT ?_;(refine fV T ?_);refine gT ?_;(refine lV T ?_);refine gT ?_;(refine mV ?_);refine gT ?_;(refine vV (by first|exact fs_eqlT rfl rfl hxc|exact fs_eql rfl rfl) ?_))|(iterate 8 first|refine gF ?_|refine gU ?_));(all_goals (first|refine pV ?_|refine vV (by exact fs_pick rfl rfl rfl) ?_)))|(refine rg 29 ?_;(all_goals (refine mV ?_;refine mV ?_;refine mV ?_;refine vV (by first|exact fs_indexRowE T rfl rfl rfl rfl rfl (by omega) (lanes_len _) qx|exact fs_indexRowE T rfl rfl rfl rfl rfl (by omega) (ints_len _) qy|exact fs_indexRowE T rfl rfl rfl rfl rfl (by omega) (ints_len _) qw) ?_;refine lV T ?_;refine vV (by first|exact fs_indexRowE T rfl rfl rfl rfl rfl (by omega) (lanes_len _) qx|exact fs_indexRowE T rfl rfl rfl rfl rfl (by omega) (ints_len _) qy|exact fs_indexRowE T rfl rfl rfl rfl rfl (by omega) (ints_len _) qw) ?_;refine lV T ?_;refine vV (by first|exact fs_lssT rfl rfl (by omega)|exact fs_lssF rfl rfl (by omega)) ?_;refine mV ?_));(all_goals first|(refine gK ?_)|(refine vc_split rfl rfl (fun hb=>?_) (fun hb=>?_)<;>(first|subst hb|(rw [hb];(try simp only [nm] at hb);try ((exfalso;omega);done)))));(all_goals first|(refine gT ?_;(refine mV ?_);refine gT ?_;(refine mV ?_);refine gT ?_;(refine mV ?_);refine gT ?_;(refine vV (by first|exact fs_indexRowE T rfl rfl rfl rfl rfl (by omega) (lanes_len _) qx|exact fs_indexRowE T rfl rfl rfl rfl rfl (by omega) (ints_len _) qy|exact fs_indexRowE T rfl rfl rfl rfl rfl (by omega) (ints_len _) qw) ?_);refine gT ?_;(refine lV T ?_);refine gT ?_;(refine vV (by first|exact fs_indexRowE T rfl rfl rfl rfl rfl (by omega) (lanes_len _) qx|exact fs_indexRowE T rfl rfl rfl rfl rfl (by omega) (ints_len _) qy|exact fs_indexRowE T rfl rfl rfl rfl rfl (by omega) (ints_len _) qw) ?_);refine gT ?_;(refine lV T ?_);refine gT ?_;(refine mV ?_);refine gT ?_;(refine vV (by first|exact fs_gtrF rfl rfl (by omega)|exact fs_gtr rfl rfl) ?_))|(iterate 9 first|refine gF ?_|refine gU ?_));(all_goals (first|refine pV ?_|refine vV (by exact fs_pick rfl rfl rfl) ?_)))|(refine rg 28 ?_;refine mV ?_;refine vV (by first|exact fs_addr rfl rfl (by omega) (by omega)|exact fs_add rfl rfl) ?_;refine aV ?_)|refine nZ ?_)
      all_goals exact ⟨⟨j + 1, by omega, by omega⟩, by dsimp only; omega, [0], rfl, (by (repeat (first | exact trivial | refine ⟨rfl, ?_⟩))), ⟨.inr rfl, trivial⟩, by decide, fun i hi => absurd hi (Nat.not_lt_zero _)⟩
    · repeat' (first | refine wS ?_ | refine wB ?_ | refine wK ?_ | refine wR ?_ | refine wE ?_ | refine aw_condt rfl ?_ | refine aw_condf rfl ?_ | (refine wC rfl (fun hb => ?_) (fun hb => ?_) <;> (first | subst hb | ((try simp only [nm] at hb); try (exfalso; omega)))) | (((refine rg 27 ?_)); (all_goals (refine mV ?_; refine mV ?_; (first|refine qV T ?_|refine vV (by exact fs_lenNil T rfl rfl) ?_); refine vV (by first | exact fs_lssT rfl rfl (by omega) | exact fs_lss rfl rfl) ?_; refine mV ?_)); (all_goals first | (refine gK ?_) | (refine vc_split rfl rfl (fun hb => ?_) (fun hb => ?_) <;> (first | subst hb | (rw [hb]; (try simp only [nm] at hb); try ((exfalso; omega); done))))); (all_goals first | (refine gT ?_; (refine fV T ?_); refine gT ?_; (refine lV T ?_); refine gT ?_; (refine mV ?_); refine gT ?_; (refine vV (by exact fs_indexRowE T rfl rfl rfl rfl rfl (by omega) (lanes_len _) qx) ?_); refine gT ?_; (refine fV T ?_); refine gT ?_; (refine lV T ?_); refine gT ?_; (refine mV ?_); refine gT ?_; (refine vV (by first | exact fs_eqlF rfl rfl hxc | exact fs_eql rfl rfl) ?_)) | (iterate 8 first | refine gF ?_ | refine gU ?_)); (all_goals (first|refine pV ?_|refine vV (by exact fs_pick rfl rfl rfl) ?_))) | (((refine rg 22 ?_)); (all_goals (refine mV ?_; refine vV (by first | exact fs_addr rfl rfl (by omega) (by omega) | exact fs_add rfl rfl) ?_; refine aV ?_))) | (refine vc_nilp (by (first | (dsimp only [ln1, ln2, List.append_nil, ln4, ln5, ln6, ln7, ln8, ln9, putAt, putd, allObjs, argEnv, un_v, un_ptr, un_ep, un_pr, un_sl, un_mp, un_row, un_agg, un_tup, un_clo, Nat.zero_add, lnb, Nat.reduceAdd, lnc, lnd]; first | done | exact rfl) | exact rfl)) ?_))
      all_goals exact ⟨⟨i + 1, hil⟩, by dsimp only; omega, [0], rfl, (by (repeat (first | exact trivial | refine ⟨rfl, ?_⟩))), ⟨.inr rfl, trivial⟩, by decide, fun i hi => absurd hi (Nat.not_lt_zero _)⟩
  · repeat' (first | refine wS ?_ | refine wB ?_ | refine wK ?_ | refine wR ?_ | refine wE ?_ | refine aw_condt rfl ?_ | refine aw_condf rfl ?_ | (refine wC rfl (fun hb => ?_) (fun hb => ?_) <;> (first | subst hb | ((try simp only [nm] at hb); try (exfalso; omega)))) | (((refine rg 27 ?_)); (all_goals (refine mV ?_; refine mV ?_; (first|refine qV T ?_|refine vV (by exact fs_lenNil T rfl rfl) ?_); refine vV (by first | exact fs_lssF rfl rfl (by omega) | exact fs_lss rfl rfl) ?_; refine mV ?_)); (all_goals first | (refine gK ?_) | (refine vc_split rfl rfl (fun hb => ?_) (fun hb => ?_) <;> (first | subst hb | (rw [hb]; (try simp only [nm] at hb); try ((exfalso; omega); done))))); (all_goals first | (refine gT ?_; (refine fV T ?_); refine gT ?_; (refine lV T ?_); refine gT ?_; (refine mV ?_); refine gT ?_; (refine vV (by fail) ?_); refine gT ?_; (refine fV T ?_); refine gT ?_; (refine lV T ?_); refine gT ?_; (refine mV ?_); refine gT ?_; (refine vV (by exact fs_eql rfl rfl) ?_)) | (iterate 8 first | refine gF ?_ | refine gU ?_)); (all_goals (first|refine pV ?_|refine vV (by exact fs_pick rfl rfl rfl) ?_))) | (((refine rg 22 ?_)); (all_goals (refine mV ?_; refine vV (by first | exact fs_addr rfl rfl (by omega) (by omega) | exact fs_add rfl rfl) ?_; refine aV ?_))) | (refine vc_nilp (by (first | (dsimp only [ln1, ln2, List.append_nil, ln4, ln5, ln6, ln7, ln8, ln9, putAt, putd, allObjs, argEnv, un_v, un_ptr, un_ep, un_pr, un_sl, un_mp, un_row, un_agg, un_tup, un_clo, Nat.zero_add, lnb, Nat.reduceAdd, lnc, lnd]; first | done | exact rfl) | exact rfl)) ?_))
    all_goals exact ⟨⟨i + 1, hil⟩, by dsimp only; omega, [0], rfl, (by (repeat (first | exact trivial | refine ⟨rfl, ?_⟩))), ⟨.inr rfl, trivial⟩, by decide, fun i hi => absurd hi (Nat.not_lt_zero _)⟩
end Go.Proofs.Ytjpcpbbkelgkeaa
namespace Go.Proofs.Ytjpcpbbkelgkeaa
open Go Go.Ab Go.Fl
theorem laneStands_fin (s : Sit) (_ : True) (c : Int) (_ : okI c) (lost : Int) (_ : okI lost) (l : List Int) (hl : l.length ≤ maxLen ∧ ∀ a, a ∈ l → okI a) : ACall Try.prog 3 [.agg (sitA s), .i c, .i lost, .rowE (ints l) 1] [] (.b true) [] := laneStands_law s c lost l (by have := hl.1; unfold maxLen at this; omega)
end Go.Proofs.Ytjpcpbbkelgkeaa
