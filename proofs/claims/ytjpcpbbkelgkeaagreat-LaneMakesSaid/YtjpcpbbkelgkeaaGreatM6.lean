/-
  Texts of the logic and of the layer, in one module (part 6).
-/
import Derived.Test.YtjpcpbbkelgkeaaGreatM5
import Derived.Shelf.Slices.Reverse
set_option linter.unusedVariables false
set_option linter.unusedSimpArgs false
namespace Go.Ln
theorem Lst.mem {g : Net} {Te : List Edge} : ∀ {l : List Int} {c x : Int}, Lst g Te c l → x ∈ c :: l → x = g.st ∨ ∃ p, (p, x) ∈ Te
  | [], c, x, h, hx => by simp at hx; subst hx; exact .inl h
  | p :: l, c, x, h, hx => by
    rcases List.mem_cons.1 hx with rfl | hx
    · exact .inr ⟨p, h.2.1⟩
    · exact Lst.mem h.2.2 hx
end Go.Ln
namespace Go.Proofs.YtjpcpbbkelgkeaaGreat
open Go Go.Ab Go.Fl Go.Re Go.Ln Go.MapKept Go.Shelf
attribute [local irreducible] VC AW FStep ACall PCall NodeT
set_option maxHeartbeats 4000000
shelf_lay Lays.n112 Nm 112 at Tryz as laysReverse
theorem reverse_c (l : List Int) (hl : l.length ≤ 1000000) : ACall Tryz.prog 74 [.sl 0 0 l.length 1] [.arr (ints l) 1] (.tup []) [.arr (ints l.reverse) 1] :=
  acall_reverse ⟨_, Tryz.func74, by kernel_rfl, by kernel_rfl⟩ (fun blk off cap zs w h1 h2 => Any.slices_Reverse_int laysReverse blk off cap zs w h1 h2) (fun p cap w => Any.slices_Reverse_int_empty laysReverse p cap w) l [] (by simpa using hl) rfl
def rwI (w : List (List Int)) : List (List AV) := w.map fun c => [AV.rowE (ints c) 1]
theorem rwI_len (w : List (List Int)) : ∀ e, e ∈ rwI w → e.length = 1 := by
  intro e he
  obtain ⟨c, _, rfl⟩ := List.mem_map.1 he
  rfl
theorem rwI_length (w : List (List Int)) : (rwI w).length = w.length := by simp [rwI]
theorem rwI_snoc (w : List (List Int)) (c : List Int) : rwI w ++ [[AV.rowE (ints c) 1]] = rwI (w ++ [c]) := by simp [rwI]
theorem rwI_idfs (w : List (List Int)) : ∀ e, e ∈ rwI w → AV.idfL e = true := by
  intro e he
  obtain ⟨c, _, rfl⟩ := List.mem_map.1 he
  simp only [AV.idfL, AV.idf, Bool.and_true]
theorem sub_rwI {h : Hp} {i : Nat} {θ : Nat → Nat} {es : List (List AV)} {w : List (List Int)} (hk : h[i]? = some (.arr es 1)) (e : es = rwI w) : h[i]? = some ((AB.arr (rwI w) 1).map θ) := by
  rw [hk, e]
  exact (congrArg (fun x => some (AB.arr x 1)) (mapL_idfs θ (rwI_idfs w))).symm
theorem rw_next {w : List (List Int)} {c : List Int} {k : Nat} (hk : k = w.length) : (((rwI w).drop 0).take k ++ [[AV.rowE (ints c) 1]]) = rwI (w ++ [c]) := by
  rw [List.drop_zero, List.take_of_length_le (by rw [rwI_length]; omega), rwI_snoc]
theorem flow_len {s : Sit} {W : List Int} {st : Int} {k : Nat} {Te : List LEdge} (h : Flow (netP s W st) k Te) : Te.length ≤ W.length := by
  have h1 : (Te.map (·.2)).Nodup := nodup_mapOn h.nd fun x y hx hy e => by
    obtain ⟨a, b⟩ := x; obtain ⟨a', b'⟩ := y
    simp only at e; subst e
    have := inT_uniq h.nd (h.le1 b) hx hy
    subst this; rfl
  have := nodup_sub h1 (m := W) fun x hx => by
    obtain ⟨e, he, rfl⟩ := List.mem_map.1 hx
    exact (mem_stepP.1 (h.val e he).1).1
  simpa using this
theorem flow_W {s : Sit} {W : List Int} {st : Int} {k : Nat} {Te : List LEdge} (h : Flow (netP s W st) k Te) {e : LEdge} (he : e ∈ Te) : e.2 ∈ W ∧ (e.1 ∈ W ∨ e.1 = st) := by
  refine ⟨(mem_stepP.1 (h.val e he).1).1, ?_⟩
  by_cases q : e.1 = st
  · exact .inr q
  · left
    have hx := (h.val e he).2.2
    have h0 : 0 < inT Te e.1 := by rw [← h.bal e.1 q hx]; exact outT_pos.2 ⟨e.2, he⟩
    obtain ⟨p, hp⟩ := inT_pos.1 h0
    exact (mem_stepP.1 (h.val _ hp).1).1
theorem lst_len {s : Sit} {W : List Int} {st : Int} {k : Nat} {Te : List LEdge} (h : Flow (netP s W st) k Te) {c : Int} {l : List Int} (hl : Lst (netP s W st) Te c l) : (c :: l).length ≤ W.length + 1 := by
  have := nodup_sub (hl.nodup h) (m := st :: W) fun x hx => by
    rcases hl.mem hx with e | ⟨p, hp⟩
    · rw [e]; exact List.mem_cons_self
    · exact .tail _ (flow_W h hp).1
  simpa using this
def edD (Te : List LEdge) (d : List Nat) : List LEdge := d.filterMap fun i => Te[i]?
theorem edD_snoc {Te : List LEdge} {d : List Nat} {i : Nat} {e : LEdge} (h : Te[i]? = some e) : edD Te (d ++ [i]) = edD Te d ++ [e] := by
  unfold edD; rw [List.filterMap_append]; simp [h]
theorem edD_len (Te : List LEdge) (d : List Nat) : (edD Te d).length ≤ d.length := List.length_filterMap_le _ _
theorem edD_all {Te : List LEdge} {d : List Nat} (hd : d.Nodup) (hlt : ∀ i, i ∈ d → i < Te.length) (hall : ∀ i, i < Te.length → i ∈ d) : (edD Te d).Perm Te := by
  have hp : d.Perm (List.range Te.length) := (List.perm_ext_iff_of_nodup hd List.nodup_range).2 fun i => by
    rw [List.mem_range]; exact ⟨hlt i, hall i⟩
  have h1 := hp.filterMap fun i => Te[i]?
  have h2 : (List.range Te.length).filterMap (fun i => Te[i]?) = Te := by
    have key : ∀ n, n ≤ Te.length → (List.range n).filterMap (fun i => Te[i]?) = Te.take n := by
      intro n
      induction n with
      | zero => intro _; simp
      | succ n ih =>
        intro hn
        rw [List.range_succ, List.filterMap_append, ih (by omega), List.take_succ_eq_append_getElem (by omega : n < Te.length)]
        simp [List.getElem?_eq_getElem (by omega : n < Te.length)]
    rw [key _ (Nat.le_refl _), List.take_length]
  rw [h2] at h1
  exact h1
def endD (s : Sit) (Te : List LEdge) (d : List Nat) : List Int := ((edD Te d).filter fun e => exB s.fl e.2).map (·.2)
theorem endD_snoc {s : Sit} {Te : List LEdge} {d : List Nat} {i : Nat} {a c : Int} (h : Te[i]? = some (a, c)) : endD s Te (d ++ [i]) = if exB s.fl c = true then endD s Te d ++ [c] else endD s Te d := by
  unfold endD
  rw [edD_snoc h, List.filter_append, List.map_append]
  by_cases q : exB s.fl c = true
  · rw [if_pos q, List.filter_cons, if_pos (by simpa using q)]; rfl
  · rw [if_neg q, List.filter_cons, if_neg (by simpa using q)]; simp
theorem endD_len (s : Sit) (Te : List LEdge) (d : List Nat) : (endD s Te d).length ≤ d.length := by
  unfold endD
  rw [List.length_map]
  exact Nat.le_trans (List.length_filter_le _ _) (edD_len Te d)
structure EndsOk (s : Sit) (W : List Int) (st : Int) (k : Nat) (Te : List LEdge) (es : List Int) : Prop where
  nd : es.Nodup
  len : es.length = k
  ok : ∀ e, e ∈ es → exB s.fl e = true ∧ ∃ p, (p, e) ∈ Te
theorem ends_ok {s : Sit} {W : List Int} {st : Int} {k : Nat} {Te : List LEdge} (h : Flow (netP s W st) k Te) {d : List Nat} (hd : d.Nodup) (hlt : ∀ i, i ∈ d → i < Te.length) (hall : ∀ i, i < Te.length → i ∈ d) : EndsOk s W st k Te (sorted (endD s Te d)) := by
  have hp := edD_all hd hlt hall
  have hs : (sorted (endD s Te d)).Perm (endD s Te d) := List.mergeSort_perm _ _
  refine ⟨hs.nodup_iff.2 ?_, ?_, fun e he => ?_⟩
  · unfold endD
    refine nodup_mapOn ((hp.nodup_iff.2 h.nd).filter _) fun x y hx hy e => ?_
    have hx := hp.mem_iff.1 (List.mem_filter.1 hx).1
    have hy := hp.mem_iff.1 (List.mem_filter.1 hy).1
    obtain ⟨a, b⟩ := x; obtain ⟨a', b'⟩ := y
    simp only at e; subst e
    have := inT_uniq h.nd (h.le1 b) hx hy
    subst this; rfl
  · rw [hs.length_eq]
    unfold endD
    rw [List.length_map, ← List.countP_eq_length_filter, hp.countP_eq]
    exact h.ends
  · have he := hs.mem_iff.1 he
    unfold endD at he
    obtain ⟨x, hx, rfl⟩ := List.mem_map.1 he
    obtain ⟨h1, h2⟩ := List.mem_filter.1 hx
    exact ⟨h2, x.1, hp.mem_iff.1 h1⟩
structure WaysOk (s : Sit) (W : List Int) (st : Int) (k : Nat) (Te : List LEdge) (es : List Int) (bF : Int → List Int) : Prop where
  nd : es.Nodup
  len : es.length = k
  ok : ∀ e, e ∈ es → exB s.fl e = true ∧ Lst (netP s W st) Te e (bF e)
theorem ways_ok {s : Sit} {W : List Int} {st : Int} {k : Nat} {Te : List LEdge} {es : List Int} (g : Fine s.fl) (h : Flow (netP s W st) k Te) (he : EndsOk s W st k Te es) : ∃ bF, WaysOk s W st k Te es bF := by
  classical
  refine ⟨fun e => if h : ∃ b, Lst (netP s W st) Te e b then Classical.choose h else [], he.nd, he.len, fun e hm => ?_⟩
  obtain ⟨h1, p, hp⟩ := he.ok e hm
  have hb := h.back (stepP_ne g W) h1 hp
  exact ⟨h1, by rw [dif_pos hb]; exact Classical.choose_spec hb⟩
def wayR (bF : Int → List Int) (e : Int) : List Int := (e :: bF e).reverse
theorem lt48 : ∀ i : Nat, i < 3 → ([0, 1, 2, 4] : List Nat)[i]? = some i := by decide
theorem lt49 : ∀ i : Nat, i < 3 → ([0, 1, 2, 3, 7] : List Nat)[i]? = some i := by decide
theorem lt4a : ∀ i : Nat, i < 3 → ([0, 1, 2, 3, 4, 7] : List Nat)[i]? = some i := by decide
theorem lt45 : ∀ i : Nat, i < 3 → ([0, 1, 2, 3, 4] : List Nat)[i]? = some i := by decide
theorem lt46 : ∀ i : Nat, i < 3 → ([0, 1, 2, 7, 4] : List Nat)[i]? = some i := by decide
theorem lt47 : ∀ i : Nat, i < 3 → ([0, 1, 2, 3, 5] : List Nat)[i]? = some i := by decide
theorem ways_p (s : Sit) (g : Fine s.fl) (W : List Int) (hWl : W.length ≤ 100000) (hWr : ∀ x, x ∈ W → 0 ≤ x ∧ x < s.fl.k.length) (st : Int) {k : Nat} {Te : List LEdge} {U : List (Int × Int)} (hF : Flow (netP s W st) k Te) (hU : PrevOk Te (prevF U)) (hUn : (pkA U).Nodup) :
    PCall Tryz.prog 31 [.ptr 0 0] (nwH s W st Te U) (fun r o => ∃ es bF, WaysOk s W st k Te es bF ∧ r = .sl 3 0 es.length 1 ∧ o = [.cells (netA s W st (.mp 1) (.mp 2)), .mapO (Te.map kE) (trA Te), .mapO (pkA U) (pvA U), .arr (rwI (es.map (wayR bF))) 1]) := by
  have hTl := flow_len hF
  refine pcall T Tryz.func31 rfl rfl rfl rfl ?_
  repeat' (first|refine wS ?_|(refine rg 0 ?_;refine aV ?_)|(refine rg 1 ?_;refine aV ?_)|refine nZ ?_)
  refine aw_own 3 1 rfl (by decide) ?_
  refine aw_mapOpen 1 rfl fun bs ck hb1' hb2' hb3' hb4' => ?_
  dsimp only [ln1, ln2, List.append_nil, ln4, ln5, ln6, ln7, ln8, ln9, putAt, putd, allObjs, argEnv, un_v, un_ptr, un_ep, un_pr, un_sl, un_mp, un_row, un_agg, un_tup, un_clo, Nat.zero_add, lnb, Nat.reduceAdd, lnc, lnd]
  have hbl : bs.length = Te.length := by rw [hb1']; simp
  repeat' (first|refine wB ?_|(refine rg 2 ?_;(all_goals (refine mV ?_;refine nV ?_;refine fV T ?_;refine lV T ?_));(all_goals (refine vc_n (by exact fs_range edgeM_u rfl rfl) rfl ?_)))|refine nZ ?_)
  refine aw_loop (X := {d : List Nat // d.Nodup ∧ ∀ i, i ∈ d → i < Te.length}) (fun d => [(0, .ptr 0 0), (3, .sl 3 0 (endD s Te d.1).length 1), (13, .ptr 4 0)]) (fun d => [.cells (netA s W st (.mp 1) (.mp 2)), .mapB (Te.map kE) (trA Te) bs ck, .mapO (pkA U) (pvA U), .arr (ints (endD s Te d.1)) 1, .iter 1 ck (seenB bs d.1) ck]) (fun d => Te.length - d.1.length) ⟨[], List.nodup_nil, fun i hi => by cases hi⟩ ⟨[0, 1, 2, 3, 4], rfl, (by (repeat (first | exact trivial | refine ⟨rfl, ?_⟩))), ⟨.inr rfl, .inr (sub_mapB rfl (tr_idf _)), .inr (sub_map rfl rfl rfl (pv_idf _)), .inr rfl, .inr rfl, trivial⟩, by decide, lt45⟩ ?_
  rintro ⟨d, hnd, hlt⟩
  dsimp only
  have hdl := nodup_le hnd hlt
  have hel := endD_len s Te d
  repeat' (first|refine wS ?_|refine wB ?_|refine wK ?_|refine wE ?_|refine wT ?_|refine wU ?_|(refine rg 3 ?_;(all_goals (refine vc_next rfl rfl rfl hb4' (Nat.le_refl _) rfl (fun hend=>vc_mapShut 1 rfl ?_) (fun i kv v b g1 g1' g2 g3=>?_)));(all_goals (refine xV ?_)))|refine nZ ?_)
  · have hall := seen_all hb3' (by rw [hbl]; exact hlt) hend
    rw [hbl] at hall
    have heo := ends_ok hF hnd hlt hall
    obtain ⟨bF, hw⟩ := ways_ok g hF heo
    clear heo
    have hsl := sorted_len (endD s Te d)
    have hsc := sort_c (endD s Te d) (by omega)
    generalize hes : sorted (endD s Te d) = es at *
    rw [← hsl] at hsc ⊢
    repeat' (first|refine wS ?_|(refine rg 7 ?_;refine mV ?_;refine vc_callw [3] rfl rfl hsc rfl rfl (by decide) ⟨.inr (sub_arr rfl rfl (ints_idf _)),trivial⟩ (by simp) rfl ?_)|(refine rg 8 ?_;refine aV ?_)|refine nZ ?_)
    refine aw_own 5 1 rfl (by decide) ?_
    have hel2 : es.length ≤ W.length := by omega
    have hesl : (ints es).length = es.length := ints_length _
    repeat' (first|refine wB ?_|(refine rg 9 ?_;refine mV ?_;(refine qV T ?_);refine mV ?_)|refine nZ ?_)
    refine aw_loop (X := {j : Nat // j ≤ es.length}) (fun j => [(0, .ptr 0 0), (5, .sl 4 0 j.1 1), (32, .sl 3 0 es.length 1), (33, .i es.length), (34, .i (j.1 : Int))]) (fun j => [.cells (netA s W st (.mp 1) (.mp 2)), .mapO (Te.map kE) (trA Te), .mapO (pkA U) (pvA U), .arr (ints es) 1, .arr (rwI ((es.take j.1).map (wayR bF))) 1]) (fun j => es.length - j.1) ⟨0, by omega⟩ ⟨[0, 1, 2, 3, 5], rfl, (by (repeat (first | exact trivial | refine ⟨rfl, ?_⟩))), ⟨.inr rfl, .inr (by first|exact sub_map rfl rfl rfl (tr_idf _)|exact sub_map rfl rfl (mapL_idf _ _ (tr_idf _)) (tr_idf _)), .inr (by first|exact sub_map rfl rfl rfl (pv_idf _)|exact sub_map rfl rfl (mapL_idf _ _ (pv_idf _)) (pv_idf _)), .inr (sub_arr rfl (mapL_idfs _ (ints_idf _)) (ints_idf _)), .inr (sub_rwI rfl rfl), trivial⟩, by decide, lt47⟩ ?_
    rintro ⟨j, hj⟩
    dsimp only
    by_cases hjl : j < es.length
    · have htk := List.take_succ_eq_append_getElem hjl
      have hwe := hw.ok es[j] (List.getElem_mem hjl)
      have q1 : (ints es)[0 + (j : Int).toNat]? = some [AV.i es[j]] := by rw [Nat.zero_add, Int.toNat_natCast]; exact ints_get hjl
      generalize es[j] = e at *
      have hll := lst_len hF hwe.2
      have hwr : wayR bF e = (e :: bF e).reverse := rfl
      repeat' (first|refine wS ?_|refine wB ?_|refine wK ?_|refine wT ?_|(refine rg 10 ?_;refine vV (by exact fs_lssT rfl rfl (by omega)) ?_)|(refine rg 11 ?_;refine vV (by exact fs_indexOwn T rfl rfl rfl rfl rfl (by omega) (by omega)) ?_;refine vV (by exact fs_load T rfl rfl (behind_ep rfl q1) rfl) ?_;refine aV ?_)|(refine rg 12 ?_;refine mV ?_;refine vc_n (by exact fs_buildSlice T rfl rfl (by decide) (by decide) rfl rfl rfl) rfl ?_;refine aV ?_)|refine nZ ?_)
      refine aw_loop (X := {p : List Int × Int × List Int // Lst (netP s W st) Te p.2.1 p.2.2 ∧ p.1 ++ p.2.2 = e :: bF e}) (fun p => [(0, .ptr 0 0), (5, .sl 4 0 j 1), (7, .i p.1.2.1), (8, .sl 5 0 p.1.1.length 1), (32, .sl 3 0 es.length 1), (33, .i es.length), (34, .i (j : Int))]) (fun p => [.cells (netA s W st (.mp 1) (.mp 2)), .mapO (Te.map kE) (trA Te), .mapO (pkA U) (pvA U), .arr (ints es) 1, .arr (rwI ((es.take j).map (wayR bF))) 1, .arr (ints p.1.1) 1]) (fun p => p.1.2.2.length) ⟨([e], e, bF e), hwe.2, rfl⟩ ⟨[0, 1, 2, 3, 4, 5], rfl, (by (repeat (first | exact trivial | refine ⟨rfl, ?_⟩))), ⟨.inr rfl, .inr (by first|exact sub_map rfl rfl rfl (tr_idf _)|exact sub_map rfl rfl (mapL_idf _ _ (tr_idf _)) (tr_idf _)), .inr (by first|exact sub_map rfl rfl rfl (pv_idf _)|exact sub_map rfl rfl (mapL_idf _ _ (pv_idf _)) (pv_idf _)), .inr (sub_arr rfl rfl (ints_idf _)), .inr (sub_rwI rfl rfl), .inr (sub_arr rfl rfl (ints_idf _)), trivial⟩, by decide, lt36⟩ ?_
      rintro ⟨⟨pre, c, b'⟩, hL, hpre⟩
      dsimp only
      dsimp only at hL hpre
      have hpl : pre.length ≤ W.length + 1 := by have := congrArg List.length hpre; rw [List.length_append] at this; omega
      match b', hL, hpre with
      | [], hL, hpre =>
        have hcs : c = st := hL
        rw [List.append_nil] at hpre
        subst hpre
        have hrc := reverse_c (e :: bF e) (by omega)
        have hrl : (ints (e :: bF e).reverse).length = (e :: bF e).length := by rw [ints_length, List.length_reverse]
        repeat' (first|refine wS ?_|refine wE ?_|refine wU ?_|(refine rg 13 ?_;refine mV ?_;refine mV ?_;refine nV ?_;refine fV T ?_;refine lV T ?_;refine vV (by exact fs_neqF rfl rfl hcs) ?_)|(refine rg 16 ?_;refine mV ?_;refine vc_callw [5] rfl rfl hrc rfl rfl (by decide) ⟨.inr (sub_arr rfl rfl (ints_idf _)),trivial⟩ (by simp) rfl ?_)|refine nZ ?_)
        refine aw_frz (es := ints (e :: bF e).reverse) 8 rfl (congrArg (fun l => some (AB.arr l 1)) (mapL_idfs _ (ints_idf _))) (by simp) (idfL_flat (ints_idf _)) ?_
        have hrw := rwI_length ((es.take j).map (wayR bF))
        rw [List.length_map, List.length_take, Nat.min_eq_left (by omega)] at hrw
        repeat' (first|(refine rg 17 ?_;refine mV ?_;refine mV ?_;refine vc_n (by exact fs_buildSlice T rfl rfl (by decide) (by decide) rfl rfl rfl) rfl ?_;refine vc_append T rfl rfl rfl rfl rfl rfl (by rw [hrw];omega) (Elems.whole rfl rfl) rfl (by simp;omega) (by simp;omega) rfl ?_;refine aV ?_)|(refine rg 18 ?_;refine vV (by exact fs_addr rfl rfl (by omega) (by omega)) ?_;refine mV ?_)|refine nZ ?_)
        all_goals exact ⟨⟨j + 1, hjl⟩, by dsimp only; omega, [0, 1, 2, 3, 7], rfl, (by (repeat (first | exact trivial | refine ⟨rfl, ?_⟩))), ⟨.inr rfl, .inr (sub_map rfl rfl rfl (tr_idf _)), .inr (sub_map rfl rfl rfl (pv_idf _)), .inr (sub_arr rfl rfl (ints_idf _)), .inr (sub_rwI rfl (by dsimp only; rw [htk, List.map_append, List.map_cons, List.map_nil, ← hwr]; exact rw_next (by rw [List.length_map, List.length_take, Nat.min_eq_left (by omega)]))), trivial⟩, by decide, lt49⟩
      | p :: b'', hL, hpre =>
        obtain ⟨hcs, hpc, hL2⟩ := hL
        obtain ⟨i, hi1, hi2⟩ := prevF_some ((hU c p).2 hpc)
        repeat' (first|refine wS ?_|refine wB ?_|refine wK ?_|refine wT ?_|(refine rg 13 ?_;refine mV ?_;refine mV ?_;refine nV ?_;refine fV T ?_;refine lV T ?_;refine vV (by exact fs_neqT rfl rfl hcs) ?_)|(refine rg 14 ?_;refine mV ?_;refine nV ?_;refine fV T ?_;refine lV T ?_;refine mV ?_;refine vV (by exact fs_mapGet1 mapII intK rfl rfl (isv_i _) rfl (pk_good _) (good_i _) hUn hi1 hi2) ?_;refine aV ?_)|(refine rg 15 ?_;refine mV ?_;refine mV ?_;refine vc_n (by exact fs_buildSlice T rfl rfl (by decide) (by decide) rfl rfl rfl) rfl ?_;refine vc_append T rfl rfl rfl rfl rfl rfl (by simp) (Elems.whole rfl rfl) rfl (by simp;omega) (by simp;omega) rfl ?_;refine aV ?_)|refine nZ ?_)
        all_goals exact ⟨⟨(pre ++ [p], p, b''), hL2, by dsimp only; rw [List.append_assoc]; exact hpre⟩, by dsimp only; rw [List.length_cons]; omega, [0, 1, 2, 3, 4, 7], rfl, ⟨rfl, rfl, rfl, by dsimp only; rw [List.length_append]; rfl, rfl, rfl, rfl, trivial⟩, ⟨.inr rfl, .inr (sub_map rfl rfl rfl (tr_idf _)), .inr (sub_map rfl rfl rfl (pv_idf _)), .inr (sub_arr rfl rfl (ints_idf _)), .inr (sub_rwI rfl rfl), .inr (sub_arr rfl ints_app (ints_idf _)), trivial⟩, by decide, lt4a⟩
    · obtain rfl : j = es.length := by omega
      rw [List.take_length]
      repeat' (first|refine wS ?_|refine wR ?_|refine wE ?_|refine wU ?_|(refine rg 10 ?_;refine vV (by exact fs_lssF rfl rfl (by omega)) ?_)|(refine rg 19 ?_;refine mV ?_;refine aV ?_)|refine nZ ?_)
      all_goals exact ⟨_, _, ⟨es, bF, hw, rfl, rfl⟩, .inl rfl, [0, 1, 2, 4], _, rfl, rfl, rfl, ⟨.inr rfl, .inr (sub_map rfl rfl rfl (tr_idf _)), .inr (sub_map rfl rfl rfl (pv_idf _)), .inr (sub_rwI rfl rfl), trivial⟩, by decide, lt48⟩
  · rw [List.getElem?_map] at g1
    obtain ⟨⟨a, c⟩, hac, rfl⟩ := Option.map_eq_some_iff.1 g1
    have hv : v = .b true := by rw [List.getElem?_map, hac] at g1'; simpa using g1'.symm
    subst hv
    have k1 : (Te.map kE)[i]? = some (kE (a, c)) := by simp [hac]
    have k2 : (trA Te)[i]? = some (.b true) := by simp [hac]
    have hnew := seen_not g2 g3
    have hil := (List.getElem?_eq_some_iff.1 hac).1
    have hsn := seen_snoc (d := d) g2
    have hd' : (d ++ [i]).Nodup ∧ ∀ j, j ∈ d ++ [i] → j < Te.length := ⟨nodup_snoc hnd hnew, fun j hj => (List.mem_append.1 hj).elim (hlt j) (fun e => by simp at e; rw [e]; exact hil)⟩
    have hdl2 := nodup_le hd'.1 hd'.2
    rw [List.length_append, List.length_singleton] at hdl2
    have hcr := hWr c (flow_W hF (List.mem_of_getElem? hac)).1
    have cx := isExit_c s c hcr.1 hcr.2
    have he := endD_snoc (s := s) (d := d) hac
    generalize hT1 : endD s Te (d ++ [i]) = T1 at *
    generalize endD s Te d = T0 at *
    cases hx : exB s.fl c with
    | true =>
      rw [hx] at cx
      rw [if_pos hx] at he
      repeat' (first|refine wS ?_|refine wT ?_|(refine rg 4 ?_;(all_goals (refine vc_n (by exact fs_entry rfl rfl rfl rfl g2 k1 k2) rfl ?_;refine vc_weak 16 (.tup [.agg [.i a,.i c],.b true]) rfl (fun _ _ _ _ q=>R_tupE q) ?_));(all_goals (refine xV ?_;refine vc_n (by exact fs_alloc T rfl) rfl ?_;refine vc_store T rfl rfl rfl rfl rfl rfl (by decide) rfl ?_)))|(((refine aw_drawT (id := 5) 6 64 [[],[0],[0,1],[0,1,2],[],[4],[0,1,2,3,4,5]] [[],[0],[0,1],[0,1,2],[],[4]] [18,19,20,21,22,23] [[],[],[],[],[18,19,20,21],[18,19,20,21]] mixedP rfl (by decide +kernel) (by decide +kernel) ?_));(all_goals (dsimp only [List.take,List.drop]));(all_goals (refine dV rfl (by exact fs_move rfl) ?_));(all_goals (refine dV rfl (by exact fs_nilCheck rfl rfl) ?_));(all_goals (refine dV rfl (by exact fs_fieldAddr T rfl rfl rfl) ?_));(all_goals (refine dV rfl (by exact fs_load T rfl rfl rfl rfl) ?_));(all_goals (refine dV rfl (by exact fs_fieldAddr T rfl rfl rfl) ?_));(all_goals (refine dV rfl (by exact fs_load T rfl rfl rfl rfl) ?_));(all_goals (refine dw_fin rfl rfl (by ((dsimp only [ln1,ln2,List.append_nil,ln4,ln5,ln6,ln7,ln8,ln9,putAt,putd,allObjs,argEnv,un_v,un_ptr,un_ep,un_pr,un_sl,un_mp,un_row,un_agg,un_tup,un_clo,Nat.zero_add,lnb,Nat.reduceAdd,lnc,lnd];done))) ?_;refine vc_nil ?_;refine vV (by exact kC (cx)) ?_)))|(refine rg 6 ?_;refine mV ?_;refine fV T ?_;refine lV T ?_;refine vc_n (by exact fs_buildSlice T rfl rfl (by decide) (by decide) rfl rfl rfl) rfl ?_;refine vc_append T rfl rfl rfl rfl rfl rfl (by simp) (Elems.whole rfl rfl) rfl (by simp;omega) (by simp;omega) rfl ?_;refine aV ?_)|refine nZ ?_)
      all_goals exact ⟨⟨d ++ [i], hd'⟩, by dsimp only; rw [List.length_append, List.length_singleton]; omega, [0, 1, 2, 7, 4], rfl, ⟨rfl, by dsimp only; rw [hT1, he, List.length_append]; rfl, rfl, trivial⟩, ⟨.inr rfl, .inr (sub_mapB rfl (tr_idf _)), .inr (sub_map rfl rfl rfl (pv_idf _)), .inr (sub_arr rfl (by dsimp only; rw [hT1, he]; exact ints_app) (ints_idf _)), .inr (sub_iter rfl hsn), trivial⟩, by decide, lt46⟩
    | false =>
      rw [hx] at cx
      rw [if_neg (by rw [hx]; decide)] at he
      repeat' (first|refine wS ?_|refine wK ?_|refine wU ?_|(refine rg 4 ?_;(all_goals (refine vc_n (by exact fs_entry rfl rfl rfl rfl g2 k1 k2) rfl ?_;refine vc_weak 16 (.tup [.agg [.i a,.i c],.b true]) rfl (fun _ _ _ _ q=>R_tupE q) ?_));(all_goals (refine xV ?_;refine vc_n (by exact fs_alloc T rfl) rfl ?_;refine vc_store T rfl rfl rfl rfl rfl rfl (by decide) rfl ?_)))|(((refine aw_drawT (id := 5) 6 64 [[],[0],[0,1],[0,1,2],[],[4],[0,1,2,3,4,5]] [[],[0],[0,1],[0,1,2],[],[4]] [18,19,20,21,22,23] [[],[],[],[],[18,19,20,21],[18,19,20,21]] mixedP rfl (by decide +kernel) (by decide +kernel) ?_));(all_goals (dsimp only [List.take,List.drop]));(all_goals (refine dV rfl (by exact fs_move rfl) ?_));(all_goals (refine dV rfl (by exact fs_nilCheck rfl rfl) ?_));(all_goals (refine dV rfl (by exact fs_fieldAddr T rfl rfl rfl) ?_));(all_goals (refine dV rfl (by exact fs_load T rfl rfl rfl rfl) ?_));(all_goals (refine dV rfl (by exact fs_fieldAddr T rfl rfl rfl) ?_));(all_goals (refine dV rfl (by exact fs_load T rfl rfl rfl rfl) ?_));(all_goals (refine dw_fin rfl rfl (by ((dsimp only [ln1,ln2,List.append_nil,ln4,ln5,ln6,ln7,ln8,ln9,putAt,putd,allObjs,argEnv,un_v,un_ptr,un_ep,un_pr,un_sl,un_mp,un_row,un_agg,un_tup,un_clo,Nat.zero_add,lnb,Nat.reduceAdd,lnc,lnd];done))) ?_;refine vc_nil ?_;refine vV (by exact kC (cx)) ?_)))|refine nZ ?_)
      all_goals exact ⟨⟨d ++ [i], hd'⟩, by dsimp only; rw [List.length_append, List.length_singleton]; omega, [0, 1, 2, 3, 4], rfl, ⟨rfl, by dsimp only; rw [hT1, he]; rfl, rfl, trivial⟩, ⟨.inr rfl, .inr (sub_mapB rfl (tr_idf _)), .inr (sub_map rfl rfl rfl (pv_idf _)), .inr (sub_arr rfl (by dsimp only; rw [hT1, he]) (ints_idf _)), .inr (sub_iter rfl hsn), trivial⟩, by decide, lt45⟩
end Go.Proofs.YtjpcpbbkelgkeaaGreat
namespace Go.Proofs.YtjpcpbbkelgkeaaGreat
open Go Go.Ab Go.Fl Go.Re Go.Ln
set_option maxHeartbeats 4000000
def PairOk (s : Sit) (x : LaneT) : Prop := LaneP (netP s (walkP s.fl) x.1) x.2.1 ∧ LaneP (netP s (walkP s.fl) x.1) x.2.2 ∧ ∀ y, y ∈ x.2.1 → y ∈ x.2.2 → y = x.1
def StuckP (s : Sit) (c : Int) : Prop := (∀ l, ¬ LaneP (netP s (walkP s.fl) c) l) ∨ ∃ x, x ≠ c ∧ ∀ l, LaneP (netP s (walkP s.fl) c) l → x ∈ l
abbrev laneA (x : LaneT) : List AV := [.i x.1, .rowE (ints x.2.1) 1, .rowE (ints x.2.2) 1]
abbrev lanesA (l : List LaneT) : List (List AV) := l.map laneA
theorem stuck_0 {s : Sit} (g : Fine s.fl) {c : Int} (hst : exB s.fl c = false) {Te : List LEdge} {R} (h : Flow (netP s (walkP s.fl) c) 0 Te) (hs : Shut (netP s (walkP s.fl) c) Te R) : StuckP s c :=
  .inl fun l hl => by
    obtain ⟨_, r, _, hw⟩ := hl
    exact hs.none h hst (stepP_ne g _) hw
theorem stuck_1 {s : Sit} (g : Fine s.fl) {c : Int} (hst : exB s.fl c = false) {Te : List LEdge} {R} (h : Flow (netP s (walkP s.fl) c) 1 Te) (hs : Shut (netP s (walkP s.fl) c) Te R) : StuckP s c := by
  obtain ⟨p, x, _, hx, hw⟩ := hs.one h hst (stepP_ne g _)
  refine .inr ⟨x, hx, fun l hl => ?_⟩
  obtain ⟨_, r, rfl, hr⟩ := hl
  exact .tail _ (hw r hr)
theorem two_ok {s : Sit} {c : Int} {Te : List LEdge} {es : List Int} {bF : Int → List Int} (h : Flow (netP s (walkP s.fl) c) 2 Te) (hw : WaysOk s (walkP s.fl) c 2 Te es bF) : ∃ e0 e1, es = [e0, e1] ∧ PairOk s (c, wayR bF e0, wayR bF e1) := by
  match es, hw with
  | [], hw => exact absurd hw.len (by simp)
  | [_], hw => exact absurd hw.len (by simp)
  | _ :: _ :: _ :: _, hw => exact absurd hw.len (by simp)
  | [e0, e1], hw =>
    obtain ⟨x0, l0⟩ := hw.ok e0 (by simp)
    obtain ⟨x1, l1⟩ := hw.ok e1 (by simp)
    have hne : e0 ≠ e1 := fun e => by have := hw.nd; rw [e] at this; simp at this
    refine ⟨e0, e1, rfl, l0.lane h x0, l1.lane h x1, fun y hy hy' => ?_⟩
    exact Lst.apart h x0 x1 l0 l1 hne (List.mem_reverse.1 hy) (List.mem_reverse.1 hy')
theorem way_W {s : Sit} {W : List Int} {st : Int} : ∀ {r : List Int} {c : Int}, Ln.Way (netP s W st) c r → ∀ x, x ∈ r → x ∈ W
  | [], _, _, x, hx => by cases hx
  | y :: r, c, h, x, hx => by
    obtain ⟨_, h2, h3⟩ := h
    rcases List.mem_cons.1 hx with rfl | hx
    · exact (mem_stepP.1 h2).1
    · exact way_W h3 x hx
theorem lane_drop {s : Sit} {W : List Int} {st : Int} {l : List Int} (h : LaneP (netP s W st) l) : ∃ r, l = st :: r ∧ l.drop 1 = r ∧ (∀ x, x ∈ r → x ∈ W ∧ x ≠ st) := by
  obtain ⟨hn, r, rfl, hw⟩ := h
  refine ⟨r, rfl, rfl, fun x hx => ⟨way_W hw x hx, fun e => ?_⟩⟩
  subst e
  exact (List.nodup_cons.1 hn).1 hx
theorem lane_len {s : Sit} {W : List Int} {st : Int} {l : List Int} (h : LaneP (netP s W st) l) : l.length ≤ W.length + 1 := by
  obtain ⟨r, e, _, hW⟩ := lane_drop h
  have hn := h.1
  rw [e] at hn ⊢
  have := nodup_sub (List.nodup_cons.1 hn).2 (m := W) fun x hx => (hW x hx).1
  simpa using this
def mxL (n : Int) (e : Int × List Int) : Int := max n ((e.2.length : Int) - 1)
def boundP (f : Flo) : Int := (offL f (walkP f)).foldl mxL 0
def smF : Flo := ⟨5, 2, 1, [5, 4, 4, 4, 5, 1, 1, 1, 1, 3], [15, 15, 15, 15, 15, 15, 15, 15, 15, 15]⟩
def smS : Sit := ⟨smF, [], [], [], []⟩
theorem sm_walk : walkP smF = [0, 1, 2, 3, 4] := by decide
theorem sm_kind : kindC smF 4 = [1, 2, 3] := by decide
theorem sm_bound : boundP smF = 1 := by decide
theorem sm_off : offR smF 2 = [2, 7] := by decide
theorem sm_s1 : stepP smF [0, 1, 2, 3, 4] 1 = [2, 0] := by decide
theorem sm_s2 : stepP smF [0, 1, 2, 3, 4] 2 = [3, 1] := by decide
theorem sm_s3 : stepP smF [0, 1, 2, 3, 4] 3 = [4, 2] := by decide
theorem sm_fine : Fine smF := by
  constructor <;> decide
theorem sm_lane {l : List Int} (h : LaneP (netP smS (walkP smF) 2) l) : l = [2, 1, 0] ∨ l = [2, 3, 4] := by
  rw [sm_walk] at h
  obtain ⟨hn, r, rfl, hw⟩ := h
  have x1 : exB smF 1 = false := by decide
  have x2 : exB smF 2 = false := by decide
  have x3 : exB smF 3 = false := by decide
  have x0 : exB smF 0 = true := by decide
  have x4 : exB smF 4 = true := by decide
  have en : ∀ (r : List Int) (c : Int), exB smF c = true → Ln.Way (netP smS [0, 1, 2, 3, 4] 2) c r → r = [] := fun r c hc h => by
    cases r with
    | nil => rfl
    | cons y r => exact absurd (h.1.symm.trans hc) (by decide)
  have ex : (netP smS [0, 1, 2, 3, 4] 2).ex = exB smF := rfl
  have sp : (netP smS [0, 1, 2, 3, 4] 2).sp = stepP smF [0, 1, 2, 3, 4] := rfl
  have st : (netP smS [0, 1, 2, 3, 4] 2).st = 2 := rfl
  rw [st] at hn hw ⊢
  cases r with
  | nil => exact absurd (show exB smF 2 = true from hw) (by rw [x2]; decide)
  | cons y r =>
    obtain ⟨_, hy, hw⟩ := hw
    rw [sp, sm_s2] at hy
    cases r with
    | nil =>
      have hw : exB smF y = true := hw
      simp only [List.mem_cons, List.not_mem_nil, or_false] at hy
      rcases hy with rfl | rfl
      · rw [x3] at hw; cases hw
      · rw [x1] at hw; cases hw
    | cons z r =>
      obtain ⟨_, hz, hw⟩ := hw
      simp only [List.mem_cons, List.not_mem_nil, or_false] at hy
      rcases hy with rfl | rfl
      · rw [sp, sm_s3] at hz
        simp only [List.mem_cons, List.not_mem_nil, or_false] at hz
        rcases hz with rfl | rfl
        · rw [en r 4 x4 hw]; exact .inr rfl
        · simp at hn
      · rw [sp, sm_s1] at hz
        simp only [List.mem_cons, List.not_mem_nil, or_false] at hz
        rcases hz with rfl | rfl
        · simp at hn
        · rw [en r 0 x0 hw]; exact .inl rfl
end Go.Proofs.YtjpcpbbkelgkeaaGreat
namespace Go.Proofs.YtjpcpbbkelgkeaaGreat
open Go Go.Ab Go.Fl Go.Re Go.Ln Go.MapKept
attribute [local irreducible] VC AW FStep ACall PCall
set_option maxHeartbeats 4000000
theorem walk_asc (f : Flo) : Asc (walkP f) := union_asc (ofK_asc _ _ _) (ofK_asc _ _ _)
theorem walk_len (f : Flo) : (walkP f).length ≤ f.k.length := by
  have h : (walkP f).Nodup := (walk_asc f).imp (fun h => by omega)
  have := nodup_sub (l := walkP f) (m := (List.range f.k.length).map fun i : Nat => (i : Int)) h fun x hx => by
    obtain ⟨h1, h2, _⟩ := mem_walk.1 hx
    exact List.mem_map.2 ⟨x.toNat, List.mem_range.2 (by omega), by omega⟩
  simpa using this
abbrev okA (L : List (Int × List Int)) : List Value := L.map fun e => kI e.1
abbrev ovA (L : List (Int × List Int)) : List AV := L.map fun e => AV.rowE (ints e.2) 1
theorem ok_good (L : List (Int × List Int)) : ∀ q, q ∈ okA L → MapKept.IsKey (.int .i64) q := fun q hq => by
  obtain ⟨c, _, rfl⟩ := List.mem_map.1 hq; rfl
theorem ov_idf (L : List (Int × List Int)) : AV.idfL (ovA L) = true := by
  induction L with
  | nil => rfl
  | cons e L ih => exact ih
theorem offL_snoc (f : Flo) (W : List Int) (c : Int) : offL f (W ++ [c]) = if 0 ≤ offD f c.toNat then offL f W ++ [(c, offW f c.toNat)] else offL f W := by
  unfold offL
  by_cases h : 0 ≤ offD f c.toNat
  · have e : offE f c = some (c, offW f c.toNat) := by unfold offE; rw [if_pos h]
    rw [if_pos h, List.filterMap_append, List.filterMap_cons, e]; rfl
  · have e : offE f c = none := by unfold offE; rw [if_neg h]
    rw [if_neg h, List.filterMap_append, List.filterMap_cons, e]; exact List.append_nil _
theorem mem_offL {f : Flo} {W : List Int} {e : Int × List Int} : e ∈ offL f W ↔ e.1 ∈ W ∧ 0 ≤ offD f e.1.toNat ∧ e.2 = offW f e.1.toNat := by
  unfold offL
  rw [List.mem_filterMap]
  constructor
  · rintro ⟨c, hc, h⟩
    unfold offE at h
    split at h
    · rename_i h0; cases h; exact ⟨hc, h0, rfl⟩
    · cases h
  · rintro ⟨h1, h2, h3⟩
    exact ⟨e.1, h1, by unfold offE; rw [if_pos h2, ← h3]⟩
theorem offL_no {f : Flo} {W : List Int} {c : Int} (h : c ∉ W) : kI c ∉ okA (offL f W) := fun hm => by
  obtain ⟨e, he, q⟩ := List.mem_map.1 hm
  have := (mem_offL.1 he).1
  simp [kI] at q
  rw [q] at this; exact h this
theorem offL_nd {f : Flo} {W : List Int} (h : W.Nodup) : (okA (offL f W)).Nodup := by
  induction W with
  | nil => exact List.nodup_nil
  | cons c W ih =>
    rw [List.nodup_cons] at h
    unfold offL at ih ⊢
    rw [List.filterMap_cons]
    have hno := offL_no (f := f) h.1
    unfold offL at hno
    unfold offE
    by_cases q : 0 ≤ offD f c.toNat
    · rw [if_pos q]
      exact List.nodup_cons.2 ⟨hno, ih h.2⟩
    · rw [if_neg q]; exact ih h.2
theorem nats_app2 {pre Q : List Nat} {n c : Nat} : List.take (Q.length + 1) (List.drop pre.length (nats (pre ++ n :: Q))) ++ [[AV.i (c : Int)]] = nats ([] ++ n :: (Q ++ [c])) := by
  rw [show nats (pre ++ n :: Q) = nats pre ++ nats (n :: Q) by simp, List.drop_left' (by simp), List.take_of_length_le (by simp)]; simp
theorem mapIS : Tryz.prog.underlying 85 = some (.map 3 22) := by kernel_rfl
theorem spread_inv {N : Nat} {mv : MV} {ok : Nat → Bool} (hmv : ∀ c d n, c < N → mv c d = some n → n < N) (l : List Nat) (hl : ∀ c, c ∈ l → c < N) : HInv N (spreadH N mv ok l) := by
  obtain ⟨g1, g2, _⟩ := start_srch (N := N) (mv := mv) (ok := ok) l hl
  have h0 : HInv N (fromH l (startH N ok)) := fromH_inv (mv := mv) _ _ rfl hl
  have e0 : (fromH l (startH N ok)).1 = fromM l (startS N ok) := fromH_1 _ _
  rw [← e0] at g1
  unfold spreadH
  generalize fromH l (startH N ok) = x at h0 g1
  clear g2 e0
  suffices ∀ k (x : SH), HInv N x → Srch N mv ok (· ∈ l) x.1 → HInv N (bfsH mv k x) from this N x h0 g1
  intro k
  induction k with
  | zero => intro x h _; exact h
  | succ k ih =>
    intro x h s
    unfold bfsH
    cases hq : x.1.q with
    | nil => exact h
    | cons c r' =>
      simp only
      have m0 := s.pop hq
      have key : ∀ (j d : Nat) (y : SH), d + j = 6 → Mid N mv ok (· ∈ l) c d y.1 → HInv N y → HInv N ((List.range' d j).foldl (tryH mv c) y) ∧ Mid N mv ok (· ∈ l) c 6 ((List.range' d j).foldl (tryH mv c) y).1 := by
        intro j
        induction j with
        | zero =>
          intro d y hd m hy
          obtain rfl : d = 6 := by omega
          exact ⟨hy, m⟩
        | succ j ihj =>
          intro d y hd m hy
          rw [List.range'_succ, List.foldl_cons]
          refine ihj (d + 1) _ (by omega) (by rw [tryH_1]; exact m.next hmv (by omega)) ?_
          unfold tryH
          cases hm : mv c d with
          | none => exact hy
          | some n =>
            have hn := hmv c d n m.hc hm
            exact hy.reach hn m.inv.lu (by have := m.h0; omega) (fun ho => ((m.inv.opn n hn).1 ho).2)
      obtain ⟨k1, k2⟩ := key 6 0 (⟨x.1.op, x.1.out, r'⟩, x.2) rfl m0 ⟨h.nd, h.lt, h.mem⟩
      have e6 : expandH mv c (⟨x.1.op, x.1.out, r'⟩, x.2) = (List.range' 0 6).foldl (tryH mv c) (⟨x.1.op, x.1.out, r'⟩, x.2) := by unfold expandH; rw [List.range_eq_range']
      rw [e6]
      exact ih _ k1 k2.end
theorem bv_wall {f : Flo} (g : Fine f) {c d n : Nat} (h : bvN f c d = some n) : f.k.getD n 0 ≠ 0 := by
  have h1 := (next_some g ((mvN_some g).1 ((mv_bv g).2 h))).2.2.2.2.1
  unfold kindI at h1
  rwa [Int.toNat_natCast] at h1
theorem offs_c (s : Sit) (g : Fine s.fl) : ACall Tryz.prog 46 [.agg (sitA s)] [] (.mp 0) [.mapO (okA (offL s.fl (walkP s.fl))) (ovA (offL s.fl (walkP s.fl)))] := by
  have hN := g.le
  have hb := g.bounds
  have hkl : (ints s.fl.k).length = s.fl.k.length := ints_length _
  have hWa := walk_asc s.fl
  have hWn : (walkP s.fl).Nodup := hWa.imp (fun h => by omega)
  have hWl := walk_len s.fl
  have cw := walkOf_c s (by omega)
  have hWr : ∀ x, x ∈ walkP s.fl → 0 ≤ x ∧ x < s.fl.k.length := fun x hx => by obtain ⟨h1, h2, _⟩ := mem_walk.1 hx; exact ⟨h1, h2⟩
  have hsrc : ∀ c, c ∈ srcF s.fl → c < s.fl.k.length := srcK_lt (Nat.le_refl _)
  have hinv := spread_inv (ok := okN s.fl) (bvN_lt g) (srcF s.fl) hsrc
  have hfar := (off_far g).1
  have hole := off_le g
  have holen := (off_far g).2
  have hF1 : (spreadH s.fl.k.length (bvN s.fl) (okN s.fl) (srcF s.fl)).1 = spreadM s.fl.k.length (bvN s.fl) (okN s.fl) (srcF s.fl) := spreadH_1 _ _ _ _
  have hFo : (spreadH s.fl.k.length (bvN s.fl) (okN s.fl) (srcF s.fl)).1.out = offO s.fl := by rw [hF1]; rfl
  have hF0 : spreadH s.fl.k.length (bvN s.fl) (okN s.fl) (srcF s.fl) = bfsH (bvN s.fl) s.fl.k.length (fromH (srcF s.fl) (startH s.fl.k.length (okN s.fl))) := rfl
  generalize spreadH s.fl.k.length (bvN s.fl) (okN s.fl) (srcF s.fl) = F at *
  clear hF1
  refine acall T Tryz.func46 rfl rfl rfl rfl ?_
  repeat' (first|refine wS ?_|(refine rg 0 ?_;refine vc_n (by exact fs_box rfl rfl) rfl ?_;refine aV ?_)|(refine rg 1 ?_;refine lV T ?_;refine vV (by exact kC (cw)) ?_;refine aV ?_)|(refine rg 2 ?_;refine vc_n (by exact fs_mapNew) rfl ?_;refine aV ?_)|(refine rg 3 ?_;refine aV ?_)|refine nZ ?_)
  refine aw_own 5 1 rfl (by decide) ?_
  dsimp only [ln1, ln2, List.append_nil, ln4, ln5, ln6, ln7, ln8, ln9, putAt, putd, allObjs, argEnv, un_v, un_ptr, un_ep, un_pr, un_sl, un_mp, un_row, un_agg, un_tup, un_clo, Nat.zero_add, lnb, Nat.reduceAdd, lnc, lnd]
  repeat' (first|refine wB ?_|(refine rg 4 ?_;refine fV T ?_;refine fV T ?_;refine lV T ?_;(refine qV T ?_);refine mV ?_)|refine nZ ?_)
  -- the cells that do not belong to the walk
  refine aw_loop (X := {j : Nat // j ≤ s.fl.k.length}) (fun j => [(1, .ptr 0 0), (3, .rowE (ints (walkP s.fl)) 1), (4, .mp 1), (5, .sl 2 0 (srcK s.fl (walkP s.fl) j.1).length 1), (25, .rowE (ints s.fl.k) 1), (26, .i s.fl.k.length), (27, .i (j.1 : Int))])
    (fun j => [.cells (sitA s), .mapO (dkA (srcK s.fl (walkP s.fl) j.1)) (z0 (srcK s.fl (walkP s.fl) j.1)), .arr (nats (srcK s.fl (walkP s.fl) j.1)) 1]) (fun j => s.fl.k.length - j.1) ⟨0, Nat.zero_le _⟩ ⟨[0, 1, 2], rfl, ⟨rfl, rfl, rfl, rfl, rfl, congrArg (fun n : Nat => some (AV.i n)) hkl, rfl, trivial⟩, ⟨.inr rfl, .inr (sub_map rfl rfl rfl (z0_idf _)), .inr (sub_arr rfl rfl (nats_idf _)), trivial⟩, by decide, fun _ hi => absurd hi (Nat.not_lt_zero _)⟩ ?_
  rintro ⟨j, hj⟩
  dsimp only
  by_cases hlt : j < s.fl.k.length
  · have hs := srcK_succ s.fl (walkP s.fl) j
    have hn := srcK_len s.fl (walkP s.fl) j
    have hno : kI (j : Int) ∉ dkA (srcK s.fl (walkP s.fl) j) := dk_no fun c hc hm => by have := (mem_srcK.1 hm).1; omega
    have q1 : (ints s.fl.k)[(j : Int).toNat]? = some [AV.i (s.fl.k.getD j 0)] := ints_gI (l := s.fl.k) (j := (j : Int)) 0 hlt rfl
    have ch := rhas_c (walkP s.fl) (j : Int) hWa (by omega)
    unfold srcB at hs
    generalize hT : srcK s.fl (walkP s.fl) (j + 1) = T1 at *
    generalize srcK s.fl (walkP s.fl) j = T0 at *
    generalize s.fl.k.getD j 0 = y at *
    by_cases hy : y = 0
    · subst hy
      rw [decide_eq_false (by simp), Bool.false_and, if_neg (by decide)] at hs
      repeat' (first|refine wS ?_|refine wB ?_|refine wK ?_|refine wT ?_|refine wU ?_|(refine rg 5 ?_;refine vV (by exact fs_lssT rfl rfl (by omega)) ?_)|(refine rg 6 ?_;refine mV ?_;refine vV (by exact fs_indexRowE T rfl rfl rfl rfl rfl (by omega) (ints_len _) q1) ?_;refine lV T ?_;refine aV ?_;refine aV ?_)|(refine rg 7 ?_;(all_goals (refine mV ?_;refine vV (by exact fs_neqF rfl rfl rfl) ?_;refine mV ?_));(all_goals (refine gK ?_));(all_goals (iterate 4 refine gF ?_));(all_goals (refine pV ?_)))|(refine rg 10 ?_;refine vV (by exact fs_addr rfl rfl (by omega) (by omega)) ?_;refine mV ?_)|refine nZ ?_)
      all_goals exact ⟨⟨j + 1, hlt⟩, by dsimp only; omega, [0, 1, 2], rfl, ⟨rfl, rfl, rfl, by dsimp only; rw [hT, hs]; rfl, rfl, rfl, rfl, trivial⟩, ⟨.inr rfl, .inr (sub_map rfl (by dsimp only; rw [hT, hs]) (by dsimp only; rw [hT, hs]) (z0_idf _)), .inr (sub_arr rfl (by dsimp only; rw [hT, hs]) (nats_idf _)), trivial⟩, by decide, fun _ hi => absurd hi (Nat.not_lt_zero _)⟩
    · rw [decide_eq_true hy, Bool.true_and] at hs
      by_cases hm : (j : Int) ∈ walkP s.fl
      · rw [decide_eq_true hm] at hs ch
        rw [if_neg (by decide)] at hs
        repeat' (first|refine wS ?_|refine wB ?_|refine wK ?_|refine wT ?_|refine wU ?_|(refine rg 5 ?_;refine vV (by exact fs_lssT rfl rfl (by omega)) ?_)|(refine rg 6 ?_;refine mV ?_;refine vV (by exact fs_indexRowE T rfl rfl rfl rfl rfl (by omega) (ints_len _) q1) ?_;refine lV T ?_;refine aV ?_;refine aV ?_)|(refine rg 7 ?_;(all_goals (refine mV ?_;refine vV (by exact fs_neqT rfl rfl hy) ?_;refine mV ?_));(all_goals (refine gK ?_));(all_goals (refine gT ?_;(refine mV ?_);refine gT ?_;(refine mV ?_);refine gT ?_;(refine vV (by exact kC (ch)) ?_);refine gT ?_;(refine vV (by exact fs_not rfl) ?_)));(all_goals (refine pV ?_)))|(refine rg 10 ?_;refine vV (by exact fs_addr rfl rfl (by omega) (by omega)) ?_;refine mV ?_)|refine nZ ?_)
        all_goals exact ⟨⟨j + 1, hlt⟩, by dsimp only; omega, [0, 1, 2], rfl, ⟨rfl, rfl, rfl, by dsimp only; rw [hT, hs]; rfl, rfl, rfl, rfl, trivial⟩, ⟨.inr rfl, .inr (sub_map rfl (by dsimp only; rw [hT, hs]) (by dsimp only; rw [hT, hs]) (z0_idf _)), .inr (sub_arr rfl (by dsimp only; rw [hT, hs]) (nats_idf _)), trivial⟩, by decide, fun _ hi => absurd hi (Nat.not_lt_zero _)⟩
      · rw [decide_eq_false hm] at hs ch
        rw [if_pos (by decide)] at hs
        repeat' (first|refine wS ?_|refine wB ?_|refine wK ?_|refine wT ?_|(refine rg 5 ?_;refine vV (by exact fs_lssT rfl rfl (by omega)) ?_)|(refine rg 6 ?_;refine mV ?_;refine vV (by exact fs_indexRowE T rfl rfl rfl rfl rfl (by omega) (ints_len _) q1) ?_;refine lV T ?_;refine aV ?_;refine aV ?_)|(refine rg 7 ?_;(all_goals (refine mV ?_;refine vV (by exact fs_neqT rfl rfl hy) ?_;refine mV ?_));(all_goals (refine gK ?_));(all_goals (refine gT ?_;(refine mV ?_);refine gT ?_;(refine mV ?_);refine gT ?_;(refine vV (by exact kC (ch)) ?_);refine gT ?_;(refine vV (by exact fs_not rfl) ?_)));(all_goals (refine pV ?_)))|(refine rg 8 ?_;refine mV ?_;refine mV ?_;refine vc_mapNew mapII intK rfl rfl (isv_i _) rfl rfl (dk_good _) (good_i _) hno ?_)|(refine rg 9 ?_;refine mV ?_;refine mV ?_;refine vc_n (by exact fs_buildSlice T rfl rfl (by decide) (by decide) rfl rfl rfl) rfl ?_;refine vc_append T rfl rfl rfl rfl rfl rfl (by simp) (Elems.whole rfl rfl) rfl (by simp;omega) (by simp;omega) rfl ?_;refine aV ?_)|(refine rg 10 ?_;refine vV (by exact fs_addr rfl rfl (by omega) (by omega)) ?_;refine mV ?_)|refine nZ ?_)
        all_goals exact ⟨⟨j + 1, hlt⟩, by dsimp only; omega, [0, 1, 4], rfl, ⟨rfl, rfl, rfl, by dsimp only; rw [hT, hs, List.length_append]; rfl, rfl, rfl, rfl, trivial⟩, ⟨.inr rfl, .inr (sub_map rfl (by dsimp only; rw [hT, hs]; simp) (by dsimp only; rw [hT, hs]; simp) (z0_idf _)), .inr (sub_arr rfl (by dsimp only; rw [hT, hs]; simp; exact List.take_of_length_le (by simp)) (nats_idf _)), trivial⟩, by decide, fun _ hi => absurd hi (Nat.not_lt_zero _)⟩
  obtain rfl : j = s.fl.k.length := by omega
  repeat' (first|refine wS ?_|refine wB ?_|refine wE ?_|refine wU ?_|(refine rg 5 ?_;refine vV (by exact fs_lssF rfl rfl (by omega)) ?_)|refine nZ ?_)
  -- the search
  have hok : ∀ c, c ∈ srcF s.fl → c < s.fl.k.length ∧ okN s.fl c = true := fun c hc => by
    obtain ⟨h1, h2, _⟩ := src_iff.1 hc
    exact ⟨h1, by unfold okN; exact decide_eq_true h2⟩
  have hsnd := srcK_nd s.fl (walkP s.fl) s.fl.k.length
  obtain ⟨g1, g2, g3⟩ := start_srch (N := s.fl.k.length) (mv := bvN s.fl) (ok := okN s.fl) (srcF s.fl) hsrc
  have hi0 := fromH_inv (N := s.fl.k.length) (mv := bvN s.fl) (ok := okN s.fl) _ (srcF s.fl) rfl hsrc
  have e0 : (fromH (srcF s.fl) (startH s.fl.k.length (okN s.fl))).1 = fromM (srcF s.fl) (startS s.fl.k.length (okN s.fl)) := fromH_1 _ _
  rw [← e0] at g1 g2 g3
  obtain ⟨l1, l2⟩ := from_list (N := s.fl.k.length) (mv := bvN s.fl) (ok := okN s.fl) _ (srcF s.fl) rfl hok hsnd
  have hz := z0_dv (from_zero (N := s.fl.k.length) (mv := bvN s.fl) (ok := okN s.fl) hok hsnd)
  generalize fromH (srcF s.fl) (startH s.fl.k.length (okN s.fl)) = x0 at *
  refine aw_loop (X := {x : SH × List Nat × Nat // Srch s.fl.k.length (bvN s.fl) (okN s.fl) (· ∈ srcF s.fl) x.1.1 ∧ HInv s.fl.k.length x.1 ∧ roomS x.1.1 ≤ x.2.2 ∧ x.2.2 ≤ s.fl.k.length ∧ bfsH (bvN s.fl) x.2.2 x.1 = F ∧ ∀ k, k < s.fl.k.length → x.1.1.out.getD k (-1) + x.2.2 ≤ s.fl.k.length})
    (fun x => [(1, .ptr 0 0), (3, .rowE (ints (walkP s.fl)) 1), (4, .mp 1), (5, .sl 2 x.1.2.1.length x.1.1.1.q.length 1)])
    (fun x => [.cells (sitA s), .mapO (dkA x.1.1.2) (dvA x.1.1.1.out x.1.1.2), .arr (nats (x.1.2.1 ++ x.1.1.1.q)) 1]) (fun x => x.1.2.2) ⟨(x0, [], s.fl.k.length), g1, hi0, g2, Nat.le_refl _, hF0.symm, fun k hk => by have := g3 k hk; dsimp only; omega⟩
    ⟨[0, 1, 2], rfl, ⟨rfl, rfl, rfl, by dsimp only; rw [l2]; rfl, trivial⟩, ⟨.inr rfl, .inr (sub_map rfl (by dsimp only; rw [l1]) (by dsimp only; rw [l1]; exact hz.symm) (dv_idf _ _)), .inr (sub_arr rfl (by dsimp only; rw [l2]; rfl) (nats_idf _)), trivial⟩, by decide, fun _ hi => absurd hi (Nat.not_lt_zero _)⟩ ?_
  clear g1 g2 g3 l1 l2 hz hi0 e0
  rintro ⟨⟨⟨⟨op, out, q⟩, hist⟩, pre, fuel⟩, h1, hh1, h2, h3, h4, h5⟩
  simp only at h1 h2 h3 h4 h5
  dsimp only
  have lu : out.length = s.fl.k.length := h1.inv.lu
  cases q with
  | nil =>
    have e : F = (⟨op, out, []⟩, hist) := by rw [← h4]; cases fuel <;> rfl
    rw [e] at hFo hinv
    dsimp only at hFo hinv
    subst hFo
    have hnd := hinv.nd
    have hmem := hinv.mem
    clear h1 hh1 h2 h3 h4 h5 e
    repeat' (first|refine wS ?_|refine wB ?_|refine wE ?_|refine wU ?_|(refine rg 11 ?_;refine mV ?_;(refine qV T ?_);refine vV (by exact fs_gtr rfl rfl) ?_)|(refine rg 22 ?_;refine vc_n (by exact fs_mapNew) rfl ?_;refine aV ?_)|(refine rg 23 ?_;refine mV ?_;(refine qV T ?_);refine mV ?_)|refine nZ ?_)
    have hwl : (ints (walkP s.fl)).length = (walkP s.fl).length := ints_length _
    refine aw_loop (X := {j : Nat // j ≤ (walkP s.fl).length}) (fun j => [(1, .ptr 0 0), (4, .mp 1), (13, .mp 2), (95, .rowE (ints (walkP s.fl)) 1), (96, .i (walkP s.fl).length), (97, .i (j.1 : Int))])
      (fun j => [.cells (sitA s), .mapO (dkA hist) (dvA (offO s.fl) hist), .mapO (okA (offL s.fl ((walkP s.fl).take j.1))) (ovA (offL s.fl ((walkP s.fl).take j.1)))]) (fun j => (walkP s.fl).length - j.1) ⟨0, Nat.zero_le _⟩ ⟨[0, 1, 3], rfl, ⟨rfl, rfl, rfl, rfl, congrArg (fun n : Nat => some (AV.i n)) hwl, rfl, trivial⟩, ⟨.inr rfl, .inr (sub_map rfl rfl rfl (dv_idf _ _)), .inr (sub_map rfl rfl rfl (ov_idf _)), trivial⟩, by decide, fun _ hi => absurd hi (Nat.not_lt_zero _)⟩ ?_
    rintro ⟨j, hj⟩
    dsimp only
    by_cases hlt : j < (walkP s.fl).length
    · have htk := List.take_succ_eq_append_getElem hlt
      have q1 : (ints (walkP s.fl))[(j : Int).toNat]? = some [AV.i (walkP s.fl)[j]] := by rw [Int.toNat_natCast]; exact ints_get hlt
      have hcr := hWr _ (List.getElem_mem hlt)
      have hcno : (walkP s.fl)[j] ∉ (walkP s.fl).take j := fun hm => by
        obtain ⟨i, hi, he⟩ := List.mem_iff_getElem.1 hm
        rw [List.getElem_take] at he
        rw [List.length_take] at hi
        have := (List.getElem_inj hWn).1 he
        omega
      generalize (walkP s.fl)[j] = x at *
      obtain ⟨c, rfl⟩ := Int.eq_ofNat_of_zero_le hcr.1
      have hc : c < s.fl.k.length := by omega
      have hos := offL_snoc s.fl ((walkP s.fl).take j) (c : Int)
      rw [Int.toNat_natCast] at hos
      have hno := offL_no (f := s.fl) hcno
      by_cases hkn : kn hist (c : Int) = true
      · have hcm : c ∈ hist := by unfold kn at hkn; simpa using (of_decide_eq_true hkn).2
        have h0 := (hmem c hc).1 hcm
        rw [if_pos h0] at hos
        repeat' (first|refine wS ?_|refine wB ?_|refine wK ?_|refine wT ?_|refine wU ?_|(refine rg 24 ?_;refine vV (by exact fs_lssT rfl rfl (by omega)) ?_)|(refine rg 25 ?_;refine vV (by exact fs_indexRowE T rfl rfl rfl rfl rfl (by omega) (ints_len _) q1) ?_;refine lV T ?_;refine aV ?_)|(refine rg 26 ?_;refine mV ?_;refine mV ?_;refine vV (by exact fs_dkTO (c := c) hnd hcm rfl rfl rfl) ?_;refine mV ?_;refine xV ?_;refine xV ?_;refine aV ?_;refine aV ?_)|(refine rg 27 ?_;refine mV ?_;refine vV (by exact fs_not rfl) ?_)|(refine rg 28 ?_;refine mV ?_;refine vc_n (by exact fs_buildSlice T rfl rfl (by decide) (by decide) rfl rfl rfl) rfl ?_;refine aV ?_)|(refine rg 29 ?_;refine mV ?_;refine aV ?_)|refine nZ ?_)
        refine aw_loop (X := {p : Nat × List Int × Nat // p.1 < s.fl.k.length ∧ offD s.fl p.1 = p.2.2 ∧ p.1 ∈ hist ∧ p.2.1 ++ wayT s.fl (offO s.fl) p.2.2 p.1 = offW s.fl c}) (fun p => [(1, .ptr 0 0), (4, .mp 1), (13, .mp 2), (15, .i (c : Int)), (18, .sl 3 0 p.1.2.1.length 1), (19, .i (p.1.1 : Int)), (95, .rowE (ints (walkP s.fl)) 1), (96, .i (walkP s.fl).length), (97, .i (j : Int))])
          (fun p => [.cells (sitA s), .mapO (dkA hist) (dvA (offO s.fl) hist), .mapO (okA (offL s.fl ((walkP s.fl).take j))) (ovA (offL s.fl ((walkP s.fl).take j))), .arr (ints p.1.2.1) 1]) (fun p => p.1.2.2) ⟨(c, [(c : Int)], (offD s.fl c).toNat), hc, (Int.toNat_of_nonneg h0).symm, hcm, rfl⟩
          ⟨[0, 1, 2, 3], rfl, ⟨rfl, rfl, rfl, rfl, rfl, rfl, rfl, rfl, rfl, trivial⟩, ⟨.inr rfl, .inr (sub_map rfl rfl rfl (dv_idf _ _)), .inr (sub_map rfl rfl rfl (ov_idf _)), .inr (sub_arr rfl rfl (ints_idf _)), trivial⟩, by decide, fun _ hi => absurd hi (Nat.not_lt_zero _)⟩ ?_
        rintro ⟨⟨x, d, n⟩, hx, hxd, hxm, hway⟩
        dsimp only at hx hxd hxm hway
        dsimp only
        have hdl : d.length + n = (offD s.fl c).toNat + 1 := by have := congrArg List.length hway; rw [List.length_append, wayT_len, offW_len] at this; exact this
        have hcl := hole c hc
        have hge := (hmem x hx).1 hxm
        cases n with
        | zero =>
          have hde : d = offW s.fl c := by rw [← hway]; simp [wayT]
          subst hde
          have hxd : (offO s.fl).getD x (-1) = 0 := hxd
          repeat' (first|refine wS ?_|refine wE ?_|(refine wC rfl (fun hb=>?_) (fun hb=>?_)<;>(((try simp only [nm] at hb);try (exfalso;omega))))|(refine rg 30 ?_;refine mV ?_;refine mV ?_;refine vV (by exact fs_dist1O hnd hxm rfl rfl rfl) ?_;refine vV (by exact fs_gtr rfl rfl) ?_)|refine nZ ?_)
          refine aw_frz 18 rfl rfl (by simp) (idfL_flat (ints_idf _)) ?_
          repeat' (first|(refine rg 33 ?_;refine mV ?_;refine mV ?_;refine mV ?_;refine vc_mapNew mapIS intK rfl rfl (isv_i _) rfl rfl (ok_good _) (good_i _) hno ?_)|(refine rg 34 ?_;refine vV (by exact fs_addr rfl rfl (by omega) (by omega)) ?_;refine mV ?_)|refine nZ ?_)
          all_goals exact ⟨⟨j + 1, hlt⟩, by dsimp only; omega, [0, 1, 2], rfl, ⟨rfl, rfl, rfl, rfl, rfl, rfl, trivial⟩, ⟨.inr rfl, .inr (sub_map rfl rfl rfl (dv_idf _ _)), .inr (sub_map rfl (by dsimp only; rw [htk, hos]; simp) (by dsimp only; rw [htk, hos]; simp) (ov_idf _)), trivial⟩, by decide, fun _ hi => absurd hi (Nat.not_lt_zero _)⟩
        | succ n =>
          have hxd : (offO s.fl).getD x (-1) = ((n + 1 : Nat) : Int) := hxd
          obtain ⟨y1, y2, _⟩ := down_near g hfar (c := x) hx (by show 0 < (offO s.fl).getD x (-1); omega)
          have hdw := down_c s g (out := offO s.fl) hnd hmem hole hx hxm
          have hym : downN s.fl (offO s.fl) x ∈ hist := (hmem _ y1).2 (by rw [y2]; omega)
          have hwt : wayT s.fl (offO s.fl) (n + 1) x = (downN s.fl (offO s.fl) x : Int) :: wayT s.fl (offO s.fl) n (downN s.fl (offO s.fl) x) := rfl
          rw [hwt] at hway
          generalize downN s.fl (offO s.fl) x = y at *
          repeat' (first|refine wS ?_|refine wB ?_|refine wK ?_|(refine wC rfl (fun hb=>?_) (fun hb=>?_)<;>(((try simp only [nm] at hb);try (exfalso;omega))))|(refine rg 30 ?_;refine mV ?_;refine mV ?_;refine vV (by exact fs_dist1O hnd hxm rfl rfl rfl) ?_;refine vV (by exact fs_gtr rfl rfl) ?_)|(refine rg 32 ?_;(all_goals (refine lV T ?_;refine mV ?_;refine mV ?_));(all_goals (refine vV (by exact fs_callb0 rfl rfl hdw (.cons (.agg (by repeat (first|exact .nil|exact .v _|exact .row _ _ _|refine .cons ?_ ?_))) (.cons (.mp rfl (dv_view _ _)) (.cons (.v _) .nil))) rfl rfl) ?_));(all_goals (refine aV ?_)))|(refine rg 31 ?_;refine mV ?_;refine mV ?_;refine vc_n (by exact fs_buildSlice T rfl rfl (by decide) (by decide) rfl rfl rfl) rfl ?_;refine vc_append T rfl rfl rfl rfl rfl rfl (by simp) (Elems.whole rfl rfl) rfl (by simp;omega) (by simp;omega) rfl ?_;refine aV ?_)|refine nZ ?_)
          all_goals exact ⟨⟨(y, d ++ [(y : Int)], n), y1, by dsimp only; show (offO s.fl).getD y (-1) = _; rw [y2, hxd]; omega, hym, by dsimp only; rw [List.append_assoc]; exact hway⟩, by dsimp only; omega, [0, 1, 2, 5], rfl, ⟨rfl, rfl, rfl, rfl, by dsimp only; rw [List.length_append]; rfl, rfl, rfl, rfl, rfl, trivial⟩, ⟨.inr rfl, .inr (sub_map rfl rfl rfl (dv_idf _ _)), .inr (sub_map rfl rfl rfl (ov_idf _)), .inr (sub_arr rfl ints_app (ints_idf _)), trivial⟩, by decide, fun _ hi => absurd hi (Nat.not_lt_zero _)⟩
      · have hkn : kn hist (c : Int) = false := by simpa using hkn
        have hcm : c ∉ hist := by unfold kn at hkn; simpa using of_decide_eq_false hkn
        have hci : kI (c : Int) ∉ dkA hist := dk_no fun c' e hm' => hcm (by rw [show c = c' by omega]; exact hm')
        rw [if_neg (fun q => hcm ((hmem c hc).2 q))] at hos
        repeat' (first|refine wS ?_|refine wB ?_|refine wK ?_|refine wE ?_|refine wT ?_|(refine rg 24 ?_;refine vV (by exact fs_lssT rfl rfl (by omega)) ?_)|(refine rg 25 ?_;refine vV (by exact fs_indexRowE T rfl rfl rfl rfl rfl (by omega) (ints_len _) q1) ?_;refine lV T ?_;refine aV ?_)|(refine rg 26 ?_;refine mV ?_;refine mV ?_;refine vV (by exact fs_dkFO (c := (c : Int)) hci rfl rfl rfl) ?_;refine mV ?_;refine xV ?_;refine xV ?_;refine aV ?_;refine aV ?_)|(refine rg 27 ?_;refine mV ?_;refine vV (by exact fs_not rfl) ?_)|(refine rg 34 ?_;refine vV (by exact fs_addr rfl rfl (by omega) (by omega)) ?_;refine mV ?_)|refine nZ ?_)
        all_goals exact ⟨⟨j + 1, hlt⟩, by dsimp only; omega, [0, 1, 2], rfl, ⟨rfl, rfl, rfl, rfl, rfl, rfl, trivial⟩, ⟨.inr rfl, .inr (sub_map rfl rfl rfl (dv_idf _ _)), .inr (sub_map rfl (by dsimp only; rw [htk, hos]) (by dsimp only; rw [htk, hos]) (ov_idf _)), trivial⟩, by decide, fun _ hi => absurd hi (Nat.not_lt_zero _)⟩
    · obtain rfl : j = (walkP s.fl).length := by omega
      rw [List.take_length]
      repeat' (first|refine wS ?_|refine wR ?_|refine wE ?_|refine wU ?_|(refine rg 24 ?_;refine vV (by exact fs_lssF rfl rfl (by omega)) ?_)|(refine rg 35 ?_;refine mV ?_;refine aV ?_)|refine nZ ?_)
      all_goals exact ⟨.inl rfl, [2], _, rfl, rfl, rfl, ⟨.inr (sub_map rfl rfl rfl (ov_idf _)), trivial⟩, by decide, fun _ hi => absurd hi (Nat.not_lt_zero _)⟩
  | cons c r' =>
    have hcr : (c :: r').length = r'.length + 1 := rfl
    have hrm : roomS ⟨op, out, c :: r'⟩ = roomS ⟨op, out, r'⟩ + 1 := by unfold roomS; simp; omega
    obtain ⟨k, rfl⟩ : ∃ k, fuel = k + 1 := ⟨fuel - 1, by omega⟩
    have m0 := h1.pop rfl
    have hc := m0.hc
    repeat' (first|refine wS ?_|refine wB ?_|refine wK ?_|(refine wC rfl (fun hb=>?_) (fun hb=>?_)<;>(((try simp only [nm] at hb);try (exfalso;omega))))|(refine rg 11 ?_;refine mV ?_;(refine qV T ?_);refine vV (by exact fs_gtr rfl rfl) ?_)|(refine rg 13 ?_;refine mV ?_)|refine nZ ?_)
    refine aw_loop (X := {x : SH × List Nat × Nat // Mid s.fl.k.length (bvN s.fl) (okN s.fl) (· ∈ srcF s.fl) c x.2.2 x.1.1 ∧ HInv s.fl.k.length x.1 ∧ x.2.2 ≤ 6 ∧ (List.range' x.2.2 (6 - x.2.2)).foldl (tryH (bvN s.fl) c) x.1 = expandH (bvN s.fl) c (⟨op, out, r'⟩, hist) ∧ roomS x.1.1 ≤ k ∧ (∀ y, y < s.fl.k.length → x.1.1.out.getD y (-1) ≤ s.fl.k.length - k) ∧ x.1.1.out.getD c (-1) + 1 ≤ s.fl.k.length - k})
      (fun x => [(1, .ptr 0 0), (3, .rowE (ints (walkP s.fl)) 1), (4, .mp 1), (5, .sl 2 x.1.2.1.length (c :: x.1.1.1.q).length 1), (52, .i x.1.2.2)])
      (fun x => [.cells (sitA s), .mapO (dkA x.1.1.2) (dvA x.1.1.1.out x.1.1.2), .arr (nats (x.1.2.1 ++ c :: x.1.1.1.q)) 1]) (fun x => 6 - x.1.2.2) ⟨((⟨op, out, r'⟩, hist), pre, 0), m0, ⟨hh1.nd, hh1.lt, hh1.mem⟩, Nat.zero_le _, by unfold expandH; rw [List.range_eq_range'] <;> rfl, by dsimp only; omega, fun y hy => by have := h5 y hy; dsimp only; omega, by have := h5 c hc; dsimp only; omega⟩
      ⟨[0, 1, 2], rfl, ⟨rfl, rfl, rfl, rfl, rfl, trivial⟩, ⟨.inr rfl, .inr (sub_map rfl rfl rfl (dv_idf _ _)), .inr (sub_arr rfl rfl (nats_idf _)), trivial⟩, by decide, fun _ hi => absurd hi (Nat.not_lt_zero _)⟩ ?_
    rintro ⟨⟨⟨⟨op', out', q'⟩, hist'⟩, pre', d⟩, m1, hm1, m2, m3, m4, m5, m6⟩
    simp only at m1 m2 m3 m4 m5 m6
    dsimp only
    have lu' : out'.length = s.fl.k.length := m1.inv.lu
    have m0' : 0 ≤ out'.getD c (-1) := m1.h0
    have hq : q'.length ≤ 300 := by unfold roomS at m4; simp only at m4; omega
    have hnd' := hm1.nd
    have e1 : (nats (pre' ++ c :: q'))[pre'.length + (0 : Int).toNat]? = some [AV.i (c : Int)] := by simp
    by_cases hd : d < 6
    · have hcm := back_n g c d
      have hcmm := (hm1.mem c hc).2 m0'
      have n1 := m1.next (bvN_lt g) hd
      obtain ⟨n2, n3⟩ := m1.bound (bvN_lt g) m5 m6
      have n4 : (List.range' (d + 1) (6 - (d + 1))).foldl (tryH (bvN s.fl) c) (tryH (bvN s.fl) c (⟨op', out', q'⟩, hist') d) = expandH (bvN s.fl) c (⟨op, out, r'⟩, hist) := by
        rw [← m3, show 6 - d = (6 - (d + 1)) + 1 by omega, List.range'_succ, List.foldl_cons]
      have n5 : roomS (tryM (bvN s.fl) c ⟨op', out', q'⟩ d) ≤ k := by rw [room_try]; exact m4
      have n6 : (tryM (bvN s.fl) c ⟨op', out', q'⟩ d).out.getD c (-1) + 1 ≤ s.fl.k.length - k := by rw [n3]; exact m6
      have nh : HInv s.fl.k.length (tryH (bvN s.fl) c (⟨op', out', q'⟩, hist') d) := by
        unfold tryH
        cases hm : bvN s.fl c d with
        | none => exact hm1
        | some n =>
          have hn := bvN_lt g c d n hc hm
          exact hm1.reach hn lu' (by dsimp only; omega) (fun ho => ((m1.inv.opn n hn).1 ho).2)
      have nx : ∀ s', tryH (bvN s.fl) c (⟨op', out', q'⟩, hist') d = s' → Mid s.fl.k.length (bvN s.fl) (okN s.fl) (· ∈ srcF s.fl) c (d + 1) s'.1 ∧ HInv s.fl.k.length s' ∧ d + 1 ≤ 6 ∧ (List.range' (d + 1) (6 - (d + 1))).foldl (tryH (bvN s.fl) c) s' = expandH (bvN s.fl) c (⟨op, out, r'⟩, hist) ∧ roomS s'.1 ≤ k ∧ (∀ y, y < s.fl.k.length → s'.1.out.getD y (-1) ≤ s.fl.k.length - k) ∧ s'.1.out.getD c (-1) + 1 ≤ s.fl.k.length - k := by
        rintro s' rfl
        have e : (tryH (bvN s.fl) c (⟨op', out', q'⟩, hist') d).1 = tryM (bvN s.fl) c ⟨op', out', q'⟩ d := tryH_1
        rw [e]
        exact ⟨n1, nh, hd, n4, n5, n2, n6⟩
      clear nh n1 n2 n3 n4 n5 n6
      unfold tryH at nx
      cases hm : bvN s.fl c d with
      | none =>
        rw [hm] at hcm nx
        repeat' (first|refine wS ?_|refine wB ?_|refine wK ?_|refine wT ?_|refine wU ?_|(refine rg 14 ?_;refine vV (by exact fs_lssT rfl rfl (by omega)) ?_)|(refine rg 15 ?_;refine mV ?_;refine aV ?_)|(((refine aw_draw2k (id := 16) 129 [[],[0],[],[2],[2,3],[],[0,1,2,3,4,5],[0,1,2,3,4,5,6],[0,1,2,3,4,5,6,7],[0,1,2,3,4,5,6,7],[0,1,2,3,4,5,6,7,8]] [56,57,58,59,60,61,62,55,63,64,9] [[],[],[56,57],[56,57],[56,57],[56,57,58,59,60],[],[],[],[63],[64]] mixedP rfl (by decide +kernel) ?_));(all_goals (refine dV rfl (by exact fs_fieldAddr T rfl rfl rfl) ?_));(all_goals (refine dV rfl (by exact fs_load T rfl rfl rfl rfl) ?_));(all_goals (refine dV rfl (by exact fs_move rfl) ?_));(all_goals (refine dV rfl (by exact fs_indexOwn T rfl rfl rfl rfl rfl (by omega) (by simp)) ?_));(all_goals (refine dV rfl (by exact fs_load T rfl rfl (behind_ep rfl e1) rfl) ?_));(all_goals (refine dV rfl (by exact fs_move rfl) ?_));(all_goals (refine dV rfl (by exact kC (hcm)) ?_));(all_goals (refine dV rfl (by exact fs_move rfl) ?_));(all_goals (refine dV rfl (by exact fs_extract rfl rfl) ?_));(all_goals (refine dV rfl (by exact fs_extract rfl rfl) ?_));(all_goals (refine dV rfl (by exact fs_assign rfl) ?_));(all_goals (refine dw_fin rfl rfl (by ((dsimp only [ln1,ln2,List.append_nil,ln4,ln5,ln6,ln7,ln8,ln9,putAt,putd,allObjs,argEnv,un_v,un_ptr,un_ep,un_pr,un_sl,un_mp,un_row,un_agg,un_tup,un_clo,Nat.zero_add,lnb,Nat.reduceAdd,lnc,lnd];done))) ?_;refine aV ?_)))|(refine rg 17 ?_;refine mV ?_;refine mV ?_;refine vV (by exact fs_distO hnd' rfl rfl rfl) ?_;refine mV ?_;refine xV ?_;refine xV ?_;refine aV ?_;refine aV ?_)|(refine rg 18 ?_;(all_goals (refine mV ?_;refine mV ?_));(all_goals (refine gK ?_));(all_goals (iterate 2 refine gF ?_));(all_goals ((refine pV ?_);refine mV ?_));(all_goals (refine gK ?_));(all_goals (iterate 3 refine gF ?_));(all_goals (refine pV ?_)))|(refine rg 21 ?_;refine vV (by exact fs_addr rfl rfl (by omega) (by omega)) ?_;refine mV ?_)|refine nZ ?_)
        all_goals exact ⟨⟨((⟨op', out', q'⟩, hist'), pre', d + 1), nx _ rfl⟩, by dsimp only; omega, [0, 1, 2], rfl, (by (repeat (first | exact trivial | refine ⟨rfl, ?_⟩))), ⟨.inr rfl, .inr (sub_map rfl rfl rfl (dv_idf _ _)), .inr (sub_arr rfl rfl (nats_idf _)), trivial⟩, by decide, fun _ hi => absurd hi (Nat.not_lt_zero _)⟩
      | some n =>
        have hn := bvN_lt g c d n hc hm
        have hokn : okN s.fl n = true := by unfold okN; exact decide_eq_true (bv_wall g hm)
        have hopn := m1.inv.opn n hn
        have hmemn := hm1.mem n hn
        simp only at hopn hmemn
        rw [hm] at hcm nx
        simp only at nx
        unfold reachH at nx
        by_cases hkn : kn hist' (n : Int) = true
        · have hnm : n ∈ hist' := by unfold kn at hkn; simpa using (of_decide_eq_true hkn).2
          have hop : op'.getD n false = false := by
            cases hop : op'.getD n false with
            | false => rfl
            | true => have := (hopn.1 hop).2; have := hmemn.1 hnm; omega
          rw [if_neg (by simp only; rw [hop]; decide)] at nx
          repeat' (first|refine wS ?_|refine wB ?_|refine wK ?_|refine wT ?_|refine wU ?_|(refine rg 14 ?_;refine vV (by exact fs_lssT rfl rfl (by omega)) ?_)|(refine rg 15 ?_;refine mV ?_;refine aV ?_)|(((refine aw_draw2k (id := 16) 129 [[],[0],[],[2],[2,3],[],[0,1,2,3,4,5],[0,1,2,3,4,5,6],[0,1,2,3,4,5,6,7],[0,1,2,3,4,5,6,7],[0,1,2,3,4,5,6,7,8]] [56,57,58,59,60,61,62,55,63,64,9] [[],[],[56,57],[56,57],[56,57],[56,57,58,59,60],[],[],[],[63],[64]] mixedP rfl (by decide +kernel) ?_));(all_goals (refine dV rfl (by exact fs_fieldAddr T rfl rfl rfl) ?_));(all_goals (refine dV rfl (by exact fs_load T rfl rfl rfl rfl) ?_));(all_goals (refine dV rfl (by exact fs_move rfl) ?_));(all_goals (refine dV rfl (by exact fs_indexOwn T rfl rfl rfl rfl rfl (by omega) (by simp)) ?_));(all_goals (refine dV rfl (by exact fs_load T rfl rfl (behind_ep rfl e1) rfl) ?_));(all_goals (refine dV rfl (by exact fs_move rfl) ?_));(all_goals (refine dV rfl (by exact kC (hcm)) ?_));(all_goals (refine dV rfl (by exact fs_move rfl) ?_));(all_goals (refine dV rfl (by exact fs_extract rfl rfl) ?_));(all_goals (refine dV rfl (by exact fs_extract rfl rfl) ?_));(all_goals (refine dV rfl (by exact fs_assign rfl) ?_));(all_goals (refine dw_fin rfl rfl (by ((dsimp only [ln1,ln2,List.append_nil,ln4,ln5,ln6,ln7,ln8,ln9,putAt,putd,allObjs,argEnv,un_v,un_ptr,un_ep,un_pr,un_sl,un_mp,un_row,un_agg,un_tup,un_clo,Nat.zero_add,lnb,Nat.reduceAdd,lnc,lnd];done))) ?_;refine aV ?_)))|(refine rg 17 ?_;refine mV ?_;refine mV ?_;refine vV (by exact fs_dkTO (c := n) hnd' hnm rfl rfl rfl) ?_;refine mV ?_;refine xV ?_;refine xV ?_;refine aV ?_;refine aV ?_)|(refine rg 18 ?_;(all_goals (refine mV ?_;refine mV ?_));(all_goals (refine gK ?_));(all_goals (refine gT ?_;(refine mV ?_);refine gT ?_;(refine vV (by exact fs_not rfl) ?_)));(all_goals ((refine pV ?_);refine mV ?_));(all_goals (refine gK ?_));(all_goals (iterate 3 refine gF ?_));(all_goals (refine pV ?_)))|(refine rg 21 ?_;refine vV (by exact fs_addr rfl rfl (by omega) (by omega)) ?_;refine mV ?_)|refine nZ ?_)
          all_goals exact ⟨⟨((⟨op', out', q'⟩, hist'), pre', d + 1), nx _ rfl⟩, by dsimp only; omega, [0, 1, 2], rfl, (by (repeat (first | exact trivial | refine ⟨rfl, ?_⟩))), ⟨.inr rfl, .inr (sub_map rfl rfl rfl (dv_idf _ _)), .inr (sub_arr rfl rfl (nats_idf _)), trivial⟩, by decide, fun _ hi => absurd hi (Nat.not_lt_zero _)⟩
        · have hkn : kn hist' (n : Int) = false := by simpa using hkn
          have hnm : n ∉ hist' := by unfold kn at hkn; simpa using of_decide_eq_false hkn
          have hlt0 : out'.getD n (-1) < 0 := by have : ¬ 0 ≤ out'.getD n (-1) := fun q => hnm (hmemn.2 q); omega
          have hop : op'.getD n false = true := hopn.2 ⟨hokn, hlt0⟩
          rw [if_pos hop] at nx
          have hnW : (n : Int) ∈ walkP s.fl := by
            by_cases q : (n : Int) ∈ walkP s.fl
            · exact q
            · exfalso
              have hw : wkB s.fl n = false := by
                cases h : wkB s.fl n with
                | false => rfl
                | true => exact absurd (mem_walk.2 ⟨by omega, by omega, by rw [Int.toNat_natCast]; exact h⟩) q
              have : out'.getD n (-1) = 0 := m1.all n hn hokn (src_iff.2 ⟨hn, bv_wall g hm, hw⟩)
              omega
          have ch := rhas_c (walkP s.fl) (n : Int) hWa (by omega)
          rw [decide_eq_true hnW] at ch
          have hni : kI (n : Int) ∉ dkA hist' := dk_no fun c' e hm' => hnm (by rw [show n = c' by omega]; exact hm')
          have hdv := dv_snoc (out := out') (v := out'.getD c (-1) + 1) hnm (by omega)
          repeat' (first|refine wS ?_|refine wB ?_|refine wK ?_|refine wT ?_|(refine rg 14 ?_;refine vV (by exact fs_lssT rfl rfl (by omega)) ?_)|(refine rg 15 ?_;refine mV ?_;refine aV ?_)|(((refine aw_draw2k (id := 16) 129 [[],[0],[],[2],[2,3],[],[0,1,2,3,4,5],[0,1,2,3,4,5,6],[0,1,2,3,4,5,6,7],[0,1,2,3,4,5,6,7],[0,1,2,3,4,5,6,7,8]] [56,57,58,59,60,61,62,55,63,64,9] [[],[],[56,57],[56,57],[56,57],[56,57,58,59,60],[],[],[],[63],[64]] mixedP rfl (by decide +kernel) ?_));(all_goals (refine dV rfl (by exact fs_fieldAddr T rfl rfl rfl) ?_));(all_goals (refine dV rfl (by exact fs_load T rfl rfl rfl rfl) ?_));(all_goals (refine dV rfl (by exact fs_move rfl) ?_));(all_goals (refine dV rfl (by exact fs_indexOwn T rfl rfl rfl rfl rfl (by omega) (by simp)) ?_));(all_goals (refine dV rfl (by exact fs_load T rfl rfl (behind_ep rfl e1) rfl) ?_));(all_goals (refine dV rfl (by exact fs_move rfl) ?_));(all_goals (refine dV rfl (by exact kC (hcm)) ?_));(all_goals (refine dV rfl (by exact fs_move rfl) ?_));(all_goals (refine dV rfl (by exact fs_extract rfl rfl) ?_));(all_goals (refine dV rfl (by exact fs_extract rfl rfl) ?_));(all_goals (refine dV rfl (by exact fs_assign rfl) ?_));(all_goals (refine dw_fin rfl rfl (by ((dsimp only [ln1,ln2,List.append_nil,ln4,ln5,ln6,ln7,ln8,ln9,putAt,putd,allObjs,argEnv,un_v,un_ptr,un_ep,un_pr,un_sl,un_mp,un_row,un_agg,un_tup,un_clo,Nat.zero_add,lnb,Nat.reduceAdd,lnc,lnd];done))) ?_;refine aV ?_)))|(refine rg 17 ?_;refine mV ?_;refine mV ?_;refine vV (by exact fs_dkFO (c := (n : Int)) hni rfl rfl rfl) ?_;refine mV ?_;refine xV ?_;refine xV ?_;refine aV ?_;refine aV ?_)|(refine rg 18 ?_;(all_goals (refine mV ?_;refine mV ?_));(all_goals (refine gK ?_));(all_goals (refine gT ?_;(refine mV ?_);refine gT ?_;(refine vV (by exact fs_not rfl) ?_)));(all_goals ((refine pV ?_);refine mV ?_));(all_goals (refine gK ?_));(all_goals (refine gT ?_;(refine mV ?_);refine gT ?_;(refine mV ?_);refine gT ?_;(refine vV (by exact kC (ch)) ?_)));(all_goals (refine pV ?_)))|(refine rg 19 ?_;refine mV ?_;refine mV ?_;refine mV ?_;refine mV ?_;refine vV (by exact fs_indexOwn T rfl rfl rfl rfl rfl (by omega) (by simp)) ?_;refine vV (by exact fs_load T rfl rfl (behind_ep rfl e1) rfl) ?_;refine vV (by exact fs_dist1O hnd' hcmm rfl rfl rfl) ?_;refine vV (by exact fs_addr rfl rfl (by omega) (by omega)) ?_;refine vc_mapNew mapII intK rfl rfl (isv_i _) rfl rfl (dk_good _) (good_i _) hni ?_)|(refine rg 20 ?_;refine mV ?_;refine mV ?_;refine vc_n (by exact fs_buildSlice T rfl rfl (by decide) (by decide) rfl rfl rfl) rfl ?_;refine vc_append T rfl rfl rfl rfl rfl rfl (by simp) (Elems.whole rfl rfl) rfl (by simp;omega) (by simp;omega) rfl ?_;refine aV ?_)|(refine rg 21 ?_;refine vV (by exact fs_addr rfl rfl (by omega) (by omega)) ?_;refine mV ?_)|refine nZ ?_)
          all_goals exact ⟨⟨((⟨op'.set n false, out'.set n (out'.getD c (-1) + 1), q' ++ [n]⟩, hist' ++ [n]), [], d + 1), nx _ rfl⟩, by dsimp only; omega, [0, 1, 4], rfl, ⟨rfl, rfl, rfl, (by simp only [List.length_cons, List.length_append, List.length_nil]; rfl), rfl, trivial⟩, ⟨.inr rfl, .inr (sub_map rfl dk_snoc hdv (dv_idf _ _)), .inr (sub_arr rfl nats_app2 (nats_idf _)), trivial⟩, by decide, fun _ hi => absurd hi (Nat.not_lt_zero _)⟩
    · obtain rfl : d = 6 := by omega
      have m3 : ((⟨op', out', q'⟩, hist') : SH) = expandH (bvN s.fl) c (⟨op, out, r'⟩, hist) := m3
      have h4 : bfsH (bvN s.fl) k (expandH (bvN s.fl) c (⟨op, out, r'⟩, hist)) = F := h4
      repeat' (first|refine wS ?_|refine wE ?_|refine wU ?_|(refine rg 14 ?_;refine vV (by exact fs_lssF rfl rfl (by omega)) ?_)|(refine rg 12 ?_;refine mV ?_;refine vV (by exact fs_sliceOwn T rfl rfl rfl rfl rfl rfl (by omega) (by omega) (by omega)) ?_;refine aV ?_)|refine nZ ?_)
      all_goals exact ⟨⟨((⟨op', out', q'⟩, hist'), pre' ++ [c], k), m1.end, hm1, m4, by dsimp only; omega, by dsimp only; rw [m3]; exact h4, fun y hy => by have := m5 y hy; dsimp only; omega⟩, by dsimp only; omega, [0, 1, 2], rfl, ⟨rfl, rfl, rfl, (show some (AV.sl 2 (pre'.length + (1 : Int).toNat) (((q'.length + 1 : Nat) : Int) - 1).toNat 1) = some (AV.sl 2 (pre' ++ [c]).length q'.length 1) by rw [show pre'.length + (1 : Int).toNat = (pre' ++ [c]).length by simp, show (((q'.length + 1 : Nat) : Int) - 1).toNat = q'.length by omega]), trivial⟩, ⟨.inr rfl, .inr (sub_map rfl rfl rfl (dv_idf _ _)), .inr (sub_arr rfl (by simp) (nats_idf _)), trivial⟩, by decide, fun _ hi => absurd hi (Nat.not_lt_zero _)⟩
end Go.Proofs.YtjpcpbbkelgkeaaGreat
namespace Go.Ab
open Go
theorem pcall_view {P : Program} {f : FuncId} {args : List AV} {Φ : AV → Hp → Prop} {Ψ : AV → Prop} (h : PCall P f args [] Φ) (hv : ∀ r o, Φ r o → ∃ r', View o r r' ∧ Ψ r') : PCall P f args [] (fun r o => o = [] ∧ Ψ r) := by
  refine ⟨h.1, fun ρ S w vs hs ha => (h.2 ρ S w vs hs ha).mono ?_⟩
  rintro e w' ⟨r, o, hΦ, y, ρ', S', rfl, h2, h3⟩
  obtain ⟨r', hv', hψ⟩ := hv _ _ hΦ
  exact ⟨r', [], ⟨rfl, hψ⟩, y, _, _, rfl, h2.view rfl, view_val h2.blk hv' h3⟩
end Go.Ab
namespace Go.Proofs.YtjpcpbbkelgkeaaGreat
open Go Go.Ab Go.Fl Go.Re Go.Ln Go.MapKept
attribute [local irreducible] VC AW FStep ACall PCall AStep
set_option maxHeartbeats 4000000
def atD {α : Type} (L : List α) (d : List Nat) : List α := d.filterMap fun i => L[i]?
theorem atD_snoc {α : Type} {L : List α} {d : List Nat} {i : Nat} {e : α} (h : L[i]? = some e) : atD L (d ++ [i]) = atD L d ++ [e] := by
  unfold atD; rw [List.filterMap_append]; simp [h]
theorem atD_all {α : Type} {L : List α} {d : List Nat} (hd : d.Nodup) (hlt : ∀ i, i ∈ d → i < L.length) (hall : ∀ i, i < L.length → i ∈ d) : (atD L d).Perm L := by
  have hp : d.Perm (List.range L.length) := (List.perm_ext_iff_of_nodup hd List.nodup_range).2 fun i => by
    rw [List.mem_range]; exact ⟨hlt i, hall i⟩
  have h1 := hp.filterMap fun i => L[i]?
  have h2 : (List.range L.length).filterMap (fun i => L[i]?) = L := by
    have key : ∀ n, n ≤ L.length → (List.range n).filterMap (fun i => L[i]?) = L.take n := by
      intro n
      induction n with
      | zero => intro _; simp
      | succ n ih =>
        intro hn
        rw [List.range_succ, List.filterMap_append, ih (by omega), List.take_succ_eq_append_getElem (by omega : n < L.length)]
        simp [List.getElem?_eq_getElem (by omega : n < L.length)]
    rw [key _ (Nat.le_refl _), List.take_length]
  rw [h2] at h1
  exact h1
theorem zSl : ∀ w, (zeroValue 22).run Tryz.prog w = .ok (.slice none 0 0) w := zero_run (by kernel_rfl)
theorem zSlA (S : Nat → Prop) (w : World) (ρ : Pl) : R S w .nils ρ (.slice none 0 0) := by simp [R]
theorem sub_mapBe {h : Hp} {i : Nat} {θ : Nat → Nat} {ks : List Value} {vs vs' : List AV} {bs : List Nat} {ck : Nat} (hk : h[i]? = some (.mapB ks vs' bs ck)) (e : vs' = vs) (hi : AV.idfL vs = true) : h[i]? = some ((AB.mapB ks vs bs ck).map θ) := by
  subst e; exact sub_mapB hk hi
def mxD (L : List (Int × List Int)) (d : List Nat) : Int := (atD L d).foldl mxL 0
theorem mxD_snoc {L : List (Int × List Int)} {d : List Nat} {i : Nat} {e : Int × List Int} (h : L[i]? = some e) : mxD L (d ++ [i]) = max (mxD L d) ((e.2.length : Int) - 1) := by
  unfold mxD; rw [atD_snoc h, List.foldl_append]; rfl
theorem mxD_all {L : List (Int × List Int)} {d : List Nat} (hd : d.Nodup) (hlt : ∀ i, i ∈ d → i < L.length) (hall : ∀ i, i < L.length → i ∈ d) : mxD L d = L.foldl mxL 0 :=
  (atD_all hd hlt hall).foldl_eq' (fun x _ y _ z => by unfold mxL; omega) 0
theorem bound_c (s : Sit) (g : Fine s.fl) : ACall Tryz.prog 27 [.agg (sitA s)] [] (.i (boundP s.fl)) [] := by
  have hN := g.le
  have hb := g.bounds
  have ho := offs_c s g
  have hll : ∀ e, e ∈ offL s.fl (walkP s.fl) → (e.2.length : Int) ≤ s.fl.k.length + 1 := fun e he => by
    obtain ⟨h1, h2, h3⟩ := mem_offL.1 he
    obtain ⟨w1, w2, _⟩ := mem_walk.1 h1
    have := off_le g e.1.toNat (by omega)
    rw [h3, offW_len]; omega
  unfold boundP
  generalize offL s.fl (walkP s.fl) = L at *
  refine acall T Tryz.func27 rfl rfl rfl rfl ?_
  repeat' (first|refine wS ?_|refine wB ?_|(refine rg 0 ?_;refine vc_n (by exact fs_box rfl rfl) rfl ?_;refine aV ?_)|(refine rg 1 ?_;refine aV ?_)|(refine rg 2 ?_;(all_goals (refine lV T ?_));(all_goals (refine vc_n (by exact fs_call rfl rfl ho (.inr ⟨rfl,rfl,by simp⟩)) rfl ?_;refine vc_mapOpen 1 rfl fun bs ck hb1' hb2' hb3' hb4'=>?_));(all_goals (refine vc_n (by exact fs_range mapIS rfl rfl) rfl ?_)))|refine nZ ?_)
  have hbl : bs.length = L.length := by rw [hb1']; simp
  refine aw_loop (X := {d : List Nat // d.Nodup ∧ ∀ i, i ∈ d → i < L.length}) (fun d => [(3, .i (mxD L d.1)), (8, .ptr 2 0)]) (fun d => [.cells (sitA s), .mapB (okA L) (ovA L) bs ck, .iter 1 ck (seenB bs d.1) ck]) (fun d => L.length - d.1.length) ⟨[], List.nodup_nil, fun i hi => by cases hi⟩ ⟨[0, 1, 2], rfl, (by (repeat (first | exact trivial | refine ⟨rfl, ?_⟩))), ⟨.inr rfl, .inr (sub_mapBe rfl (mapL_idf _ _ (ov_idf _)) (ov_idf _)), .inr rfl, trivial⟩, by decide, lt0 _⟩ ?_
  rintro ⟨d, hnd, hlt⟩
  dsimp only
  have hdl := nodup_le hnd hlt
  repeat' (first|refine wS ?_|refine wB ?_|refine wK ?_|refine wE ?_|refine wT ?_|refine wU ?_|(refine rg 3 ?_;(all_goals (refine vc_next rfl rfl rfl hb4' (Nat.le_refl _) rfl (fun hend=>vc_mapShut 1 rfl ?_) (fun i kv v b g1 g1' g2 g3=>?_)));(all_goals (refine xV ?_)))|refine nZ ?_)
  · have hall := seen_all hb3' (by rw [hbl]; exact hlt) hend
    rw [hbl] at hall
    have hmx := mxD_all hnd hlt hall
    rw [hmx]
    repeat' (first|refine wR ?_|(refine rg 6 ?_;refine mV ?_;refine aV ?_)|refine nZ ?_)
    all_goals exact ret_plain (.inl rfl) rfl rfl
  · rw [List.getElem?_map] at g1
    obtain ⟨⟨c, w⟩, hac, rfl⟩ := Option.map_eq_some_iff.1 g1
    have hv : v = .rowE (ints w) 1 := by rw [List.getElem?_map, hac] at g1'; simpa using g1'.symm
    subst hv
    have k1 : (okA L)[i]? = some (kI c) := by simp [hac]
    have k2 : (ovA L)[i]? = some (.rowE (ints w) 1) := by simp [hac]
    have hnew := seen_not g2 g3
    have hil := (List.getElem?_eq_some_iff.1 hac).1
    have hsn := seen_snoc (d := d) g2
    have hd' : (d ++ [i]).Nodup ∧ ∀ j, j ∈ d ++ [i] → j < L.length := ⟨nodup_snoc hnd hnew, fun j hj => (List.mem_append.1 hj).elim (hlt j) (fun e => by simp at e; rw [e]; exact hil)⟩
    have hdl2 := nodup_le hd'.1 hd'.2
    rw [List.length_append, List.length_singleton] at hdl2
    have hwl := hll _ (List.mem_of_getElem? hac)
    dsimp only at hwl
    have hms := mxD_snoc (d := d) hac
    dsimp only at hms
    have hil2 : (ints w).length = w.length := ints_length _
    generalize hT1 : mxD L (d ++ [i]) = T1 at *
    generalize mxD L d = T0 at *
    repeat' (first|(refine rg 4 ?_;(all_goals (refine vc_n (by exact fs_entry rfl rfl rfl rfl g2 k1 k2) rfl ?_));(all_goals (refine xV ?_;refine aV ?_)))|(refine rg 5 ?_;refine mV ?_;refine mV ?_;(refine qV T ?_);refine vV (by exact fs_subr rfl rfl (by omega) (by omega)) ?_;refine vV (by exact fs_max rfl rfl) ?_;refine aV ?_)|refine nZ ?_)
    all_goals exact ⟨⟨d ++ [i], hd'⟩, by dsimp only; rw [List.length_append, List.length_singleton]; omega, [0, 1, 2], rfl, ⟨by dsimp only; rw [hT1, hms, ← hil2]; rfl, rfl, trivial⟩, ⟨.inr rfl, .inr (sub_mapB rfl (ov_idf _)), .inr (sub_iter rfl hsn), trivial⟩, by decide, lt0 _⟩
theorem off_c (s : Sit) (g : Fine s.fl) (c : Int) (hc : rngI c) : ACall Tryz.prog 13 [.agg (sitA s), .i c] [] (.rowE (ints (offR s.fl c)) 1) [] := by
  have ho := offs_c s g
  have hnd := offL_nd (f := s.fl) ((walk_asc s.fl).imp (fun h => by omega) : (walkP s.fl).Nodup)
  unfold offR
  by_cases h : c ∈ walkP s.fl ∧ 0 ≤ offD s.fl c.toNat
  · rw [if_pos h]
    obtain ⟨i, hi⟩ := List.mem_iff_getElem?.1 (mem_offL.2 ⟨h.1, h.2, rfl⟩ : (c, offW s.fl c.toNat) ∈ offL s.fl (walkP s.fl))
    have k1 : (okA (offL s.fl (walkP s.fl)))[i]? = some (kI c) := by simp [hi]
    have k2 : (ovA (offL s.fl (walkP s.fl)))[i]? = some (.rowE (ints (offW s.fl c.toNat)) 1) := by simp [hi]
    refine acall T Tryz.func13 rfl rfl rfl rfl ?_
    repeat' (first|refine wS ?_|refine wR ?_|(refine rg 0 ?_;refine vc_n (by exact fs_box rfl rfl) rfl ?_;refine aV ?_)|(refine rg 1 ?_;refine lV T ?_;refine vc_n (by exact fs_call rfl rfl ho (.inr ⟨rfl,rfl,by simp⟩)) rfl ?_;refine mV ?_;refine vV (by exact fs_mapGet1 mapIS intK rfl rfl (isv_i _) rfl (ok_good _) (good_i _) hnd k1 (by rw [mapL_idf _ _ (ov_idf _)];exact k2)) ?_;refine aV ?_)|refine nZ ?_)
    all_goals exact ret_plain (.inl rfl) rfl rfl
  · rw [if_neg h]
    have hno : kI c ∉ okA (offL s.fl (walkP s.fl)) := fun hm => by
      obtain ⟨e, he, q⟩ := List.mem_map.1 hm
      simp [kI] at q
      obtain ⟨h1, h2, _⟩ := mem_offL.1 he
      rw [q] at h1 h2; exact h ⟨h1, h2⟩
    refine acall_nils ?_
    refine acall T Tryz.func13 rfl rfl rfl rfl ?_
    repeat' (first|refine wS ?_|refine wR ?_|(refine rg 0 ?_;refine vc_n (by exact fs_box rfl rfl) rfl ?_;refine aV ?_)|(refine rg 1 ?_;refine lV T ?_;refine vc_n (by exact fs_call rfl rfl ho (.inr ⟨rfl,rfl,by simp⟩)) rfl ?_;refine mV ?_;refine vV (by exact fs_mapMiss1 (zA := .nils) mapIS intK zSl zSlA rfl rfl (isv_i _) rfl (ok_good _) (good_i _) hno) ?_;refine aV ?_)|refine nZ ?_)
    all_goals exact ret_plain (.inl rfl) rfl rfl
end Go.Proofs.YtjpcpbbkelgkeaaGreat
namespace Go.Proofs.YtjpcpbbkelgkeaaGreat
open Go Go.Ab Go.Fl Go.Re Go.Ln Go.MapKept
attribute [local irreducible] VC AW FStep ACall PCall AStep
set_option maxHeartbeats 4000000
theorem flow_0 (s : Sit) (W : List Int) (c : Int) : Flow (netP s W c) 0 [] := ⟨List.nodup_nil, (fun e h => by cases h), fun _ => Nat.zero_le _, fun _ _ _ => rfl, rfl⟩
theorem prev_0 : PrevOk [] (prevF []) := fun c p => by simp [prevF]
theorem flow_iw {s : Sit} {W : List Int} {st : Int} {k : Nat} {Te : List LEdge} (h : Flow (netP s W st) k Te) : ∀ e, e ∈ Te → inW W st (e.1, true) := fun e he => (flow_W h he).2
theorem lanes_idfs (l : List LaneT) : ∀ e, e ∈ lanesA l → AV.idfL e = true := by intro e he; obtain ⟨x, _, rfl⟩ := List.mem_map.1 he; rfl
theorem lanes_pln : ∀ l : List LaneT, AV.plnL (lanesA l).flatten = true
  | [] => rfl
  | _ :: l => lanes_pln l
theorem lanes_len (l : List LaneT) : ∀ e, e ∈ lanesA l → e.length = 3 := by intro e he; obtain ⟨x, _, rfl⟩ := List.mem_map.1 he; rfl
theorem lanes_next (l : List LaneT) (x : LaneT) : ((lanesA l).drop 0).take l.length ++ [laneA x] = lanesA (l ++ [x]) := by
  rw [List.drop_zero, List.take_of_length_le (by simp)]; simp
abbrev certA (l : List LaneT) (b : Int) : List AV := [.rowE (lanesA l) 3, .i b]
inductive MakeOk (s : Sit) : AV → Prop
  | ok (L : List LaneT) (h1 : L.map (·.1) = kindC s.fl 4) (h2 : ∀ x, x ∈ L → PairOk s x) : MakeOk s (.tup [.agg (certA L (boundP s.fl)), .i (-1), .i 0])
  | no (L : List LaneT) (c : Int) (post : List Int) (h1 : L.map (·.1) ++ c :: post = kindC s.fl 4) (h2 : ∀ x, x ∈ L → PairOk s x) (h3 : StuckP s c) : MakeOk s (.tup [.agg (certA [] 0), .i c, .i 14])
theorem make_p (s : Sit) (g : Fine s.fl) : PCall Tryz.prog 8 [.agg (sitA s)] [] (fun r o => o = [] ∧ MakeOk s r) := by
  have hN := g.le
  have hbb := g.bounds
  have cb := bound_c s g
  have hWa := walk_asc s.fl
  have hWl := walk_len s.fl
  have cw := walkOf_c s (by omega)
  have ck := ofKind_c s 4 (by omega)
  have hWr : ∀ x, x ∈ walkP s.fl → 0 ≤ x ∧ x < s.fl.k.length := fun x hx => by obtain ⟨h1, h2, _⟩ := mem_walk.1 hx; exact ⟨h1, h2⟩
  have hKl := ofK_len s.fl.k 4 s.fl.k.length
  have hKm : ∀ x, x ∈ kindC s.fl 4 → 0 ≤ x ∧ x < s.fl.k.length ∧ exB s.fl x = false := fun x hx => by
    obtain ⟨h1, h2, h3⟩ := mem_ofK.1 hx
    exact ⟨h1, h2, by unfold exB; rw [h3]; decide⟩
  refine pcall_view (Φ := fun r o => (∃ L : List LaneT, L.map (·.1) = kindC s.fl 4 ∧ (∀ x, x ∈ L → PairOk s x) ∧ r = .tup [.agg [.sl 0 0 L.length 3, .i (boundP s.fl)], .i (-1), .i 0] ∧ o = [.arr (lanesA L) 3]) ∨
    (∃ (L : List LaneT) (c : Int) (post : List Int), L.map (·.1) ++ c :: post = kindC s.fl 4 ∧ (∀ x, x ∈ L → PairOk s x) ∧ StuckP s c ∧ r = .tup [.agg [.nils, .i 0], .i c, .i 14] ∧ o = [])) ?_ ?_
  · generalize hKK : kindC s.fl 4 = K at *
    generalize boundP s.fl = b at *
    have hkl : (ints K).length = K.length := ints_length _
    have hKl : K.length ≤ 300 := by rw [← hKK]; exact Nat.le_trans hKl hN
    refine pcall T Tryz.func8 rfl rfl rfl rfl ?_
    repeat' (first|refine wS ?_|refine wB ?_|(refine rg 0 ?_;refine vc_n (by exact fs_box rfl rfl) rfl ?_;refine vc_n (by exact fs_alloc T rfl) rfl ?_;refine aV ?_;refine aV ?_)|(refine rg 1 ?_;refine lV T ?_;refine vV (by exact kC (cb)) ?_;refine vV (by exact fs_build T rfl rfl rfl rfl) ?_;refine vc_n (by exact fs_alloc T rfl) rfl ?_;refine vc_store T rfl rfl rfl rfl rfl rfl (by decide) rfl ?_)|(refine rg 2 ?_;refine lV T ?_;refine vV (by exact kC (cw)) ?_;refine aV ?_)|(refine rg 3 ?_;refine lV T ?_;refine vV (by exact kC (ck)) ?_;(refine qV T ?_);refine mV ?_)|refine nZ ?_)
    refine aw_ownC 2 0 3 rfl rfl (by decide) ?_
    refine aw_loop (X := {L : List LaneT // L.length ≤ K.length ∧ L.map (·.1) = K.take L.length ∧ ∀ x, x ∈ L → PairOk s x}) (fun L => [(1, .ptr 0 0), (2, .ptr 1 0), (5, .ptr 2 0), (6, .rowE (ints (walkP s.fl)) 1), (17, .rowE (ints K) 1), (18, .i K.length), (19, .i (L.1.length : Int))])
      (fun L => [.cells (sitA s), .cells [.nils, .i 0], .cells [.sl 3 0 L.1.length 3, .i b], .arr (lanesA L.1) 3]) (fun L => K.length - L.1.length) ⟨[], Nat.zero_le _, rfl, fun x hx => by cases hx⟩ ⟨[0, 1, 2, 3], rfl, ⟨rfl, rfl, rfl, rfl, rfl, congrArg (fun n : Nat => some (AV.i n)) hkl, rfl, trivial⟩, ⟨.inr rfl, .inr rfl, .inr rfl, .inr rfl, trivial⟩, by decide, fun _ hi => absurd hi (Nat.not_lt_zero _)⟩ ?_
    rintro ⟨L, hLl, hLm, hLp⟩
    dsimp only
    by_cases hlt : L.length < K.length
    · have htk := List.take_succ_eq_append_getElem hlt
      have hsp : K.take L.length ++ K[L.length] :: K.drop (L.length + 1) = K := by rw [← List.drop_eq_getElem_cons hlt, List.take_append_drop]
      have hcm : K[L.length] ∈ K := List.getElem_mem hlt
      have q1 : (ints K)[(L.length : Int).toNat]? = some [AV.i K[L.length]] := by rw [Int.toNat_natCast]; exact ints_get hlt
      generalize K[L.length] = c at *
      obtain ⟨hc0, hc1, hcx⟩ := hKm c hcm
      have hg1 := grow_c s g (walkP s.fl) hWa (by omega) hWr c ⟨hc0, hc1⟩ hcx (flow_0 s (walkP s.fl) c) (fun e he => by cases he) (fun e he => by cases he) prev_0 List.nodup_nil
      have hll : (lanesA L).length = L.length := by simp
      repeat' (first|refine wS ?_|refine wB ?_|refine wK ?_|refine wT ?_|(refine rg 4 ?_;refine vV (by exact fs_lssT rfl rfl (by omega)) ?_)|(refine rg 5 ?_;refine vV (by exact fs_indexRowE T rfl rfl rfl rfl rfl (by omega) (ints_len _) q1) ?_;refine lV T ?_;refine aV ?_)|(refine rg 6 ?_;refine lV T ?_;refine mV ?_;refine mV ?_;refine vc_n (by exact fs_mapNew) rfl ?_;refine vc_n (by exact fs_mapNew) rfl ?_;refine vV (by exact fs_build T rfl rfl rfl rfl) ?_;refine vc_n (by exact fs_box rfl rfl) rfl ?_;refine aV ?_)|refine nZ ?_)
      refine aw_keep [(1, .ptr 0 0), (2, .ptr 1 0), (5, .ptr 2 0), (6, .rowE (ints (walkP s.fl)) 1), (8, .i c), (9, .ptr 6 0), (17, .rowE (ints K) 1), (18, .i K.length), (19, .i (L.length : Int))]
        [.cells (sitA s), .cells [.nils, .i 0], .cells [.sl 3 0 L.length 3, .i b], .arr (lanesA L) 3, .mapO [] [], .mapO [] [], .cells (netA s (walkP s.fl) c (.mp 4) (.mp 5))] ⟨[0, 1, 2, 3, 4, 5, 6], rfl, (by (repeat (first | exact trivial | refine ⟨rfl, ?_⟩))), ⟨.inr rfl, .inr rfl, .inr rfl, .inr (sub_arr rfl rfl (lanes_idfs _)), .inr rfl, .inr rfl, .inr rfl, trivial⟩, by decide, fun _ hi => absurd hi (Nat.not_lt_zero _)⟩ ?_
      repeat' (first|refine wS ?_|refine wK ?_|refine wT ?_|refine wU ?_|(refine rg 7 ?_;(all_goals (refine mV ?_));(all_goals (refine vc_pcallw [6,4,5] rfl rfl hg1 rfl rfl (by decide) ⟨.inr rfl,.inr (sub_map rfl rfl rfl rfl),.inr (sub_map rfl rfl rfl rfl),trivial⟩ (by simp) rfl ?_;rintro r o (⟨rfl,T1,U1,rfl,f1,f2,f3,f4⟩|⟨rfl,rfl,R1,f1⟩)));(all_goals (refine vV (by exact fs_not rfl) ?_;refine mV ?_));(all_goals (refine gK ?_));(all_goals first|(refine gT ?_;(refine mV ?_);refine gT ?_;((refine vc_pcallw [6,4,7] rfl rfl (grow_c s g (walkP s.fl) hWa (by omega) hWr c ⟨hc0,hc1⟩ hcx f1 f2 (flow_iw f1) f3 f4) rfl rfl (by decide) ⟨.inr rfl,.inr (by exact sub_map rfl rfl (mapL_idf _ _ (tr_idf _)) (tr_idf _)),.inr (by exact sub_map rfl rfl (mapL_idf _ _ (pv_idf _)) (pv_idf _)),trivial⟩ (by simp) rfl ?_;rintro r o (⟨rfl,T2,U2,rfl,k1,k2,k3,k4⟩|⟨rfl,rfl,R2,k1⟩))))|(iterate 2 refine gF ?_));(all_goals first|(refine gT ?_;(refine vV (by exact fs_not rfl) ?_))|(refine gF ?_));(all_goals (refine pV ?_)))|refine nZ ?_)
      · have hw2 := ways_p s g (walkP s.fl) (by omega) hWr c k1 k3 k4
        repeat' (first|(refine rg 9 ?_;(all_goals (refine mV ?_));(all_goals (refine vc_pcallw [6,4,8] rfl rfl hw2 rfl rfl (by decide) ⟨.inr rfl,.inr (by exact sub_map rfl rfl (mapL_idf _ _ (tr_idf _)) (tr_idf _)),.inr (by exact sub_map rfl rfl (mapL_idf _ _ (pv_idf _)) (pv_idf _)),trivial⟩ (by simp) rfl ?_;rintro r o ⟨es,bF,hwk,rfl,rfl⟩));(all_goals (refine aV ?_)))|refine nZ ?_)
        obtain ⟨e0, e1, rfl, hp⟩ := two_ok k1 hwk
        refine aw_keep [(1, .ptr 0 0), (2, .ptr 1 0), (5, .ptr 2 0), (6, .rowE (ints (walkP s.fl)) 1), (8, .i c), (10, .sl 4 0 2 1), (17, .rowE (ints K) 1), (18, .i K.length), (19, .i (L.length : Int))]
          [.cells (sitA s), .cells [.nils, .i 0], .cells [.sl 3 0 L.length 3, .i b], .arr (lanesA L) 3, .arr (rwI [wayR bF e0, wayR bF e1]) 1] ⟨[0, 1, 2, 3, 9], rfl, (by (repeat (first | exact trivial | refine ⟨rfl, ?_⟩))), ⟨.inr rfl, .inr rfl, .inr rfl, .inr (sub_arr rfl rfl (lanes_idfs _)), .inr (sub_rwI rfl rfl), trivial⟩, by decide, fun _ hi => absurd hi (Nat.not_lt_zero _)⟩ ?_
        refine aw_frz 10 rfl rfl rfl (idfL_flat (rwI_idfs _)) ?_
        have qa : (rwI [wayR bF e0, wayR bF e1])[(0 : Int).toNat]? = some [.rowE (ints (wayR bF e0)) 1] := rfl
        have qb : (rwI [wayR bF e0, wayR bF e1])[(1 : Int).toNat]? = some [.rowE (ints (wayR bF e1)) 1] := rfl
        generalize wayR bF e0 = w0 at *
        generalize wayR bF e1 = w1 at *
        repeat' (first|(((refine aw_draw4k (id := 10) 57 [[],[0],[],[],[3],[3,4],[],[6],[6,7],[2,3,4,5,6,7,8],[2,3,4,5,6,7,8,9],[0,1,2,3,4,5,6,7,8,9,10]] [42,43,44,45,46,47,48,49,50,51,52,53] [[],[],[42,43],[42,43,44],[42,43,44],[42,43,44],[42,43,44,45,46,47],[42,43,44,45,46,47],[42,43,44,45,46,47],[42,43],[42,43],[]] [(11,3)] mixedP rfl (by decide +kernel) ?_));(all_goals (refine dwa_v rfl rfl rfl rfl (by exact fs_fieldAddr T rfl rfl rfl) ?_;refine dwa_v rfl rfl rfl rfl (by exact fs_load T rfl rfl rfl rfl) ?_;refine dwa_v rfl rfl rfl rfl (by exact fs_move rfl) ?_;refine dwa_v rfl rfl rfl rfl (by exact fs_move rfl) ?_;refine dwa_v rfl rfl rfl rfl (by exact fs_indexRowE T rfl rfl rfl rfl rfl (by decide) (rwI_len _) qa) ?_;refine dwa_v rfl rfl rfl rfl (by exact fs_load T rfl rfl rfl rfl) ?_;refine dwa_v rfl rfl rfl rfl (by exact fs_move rfl) ?_;refine dwa_v rfl rfl rfl rfl (by exact fs_indexRowE T rfl rfl rfl rfl rfl (by decide) (rwI_len _) qb) ?_;refine dwa_v rfl rfl rfl rfl (by exact fs_load T rfl rfl rfl rfl) ?_;refine dwa_v rfl rfl rfl rfl (by exact fs_build T rfl rfl rfl rfl) ?_;refine dwa_n rfl rfl rfl rfl (by exact fs_buildSlice T rfl rfl (by decide) (by decide) rfl rfl rfl) rfl ?_));(all_goals (refine dwa_a1 rfl rfl rfl rfl (Nat.le_of_ble_eq_true rfl) (by exact as_append T rfl rfl rfl rfl rfl rfl (by simp) (Elems.whole rfl rfl) rfl (by simp;omega) (by simp;omega)) ?_));(all_goals (refine dwa_fin rfl rfl rfl (by exact rfl) ?_;refine fV T ?_;refine vc_store T rfl rfl rfl rfl rfl rfl (by decide) rfl ?_)))|(refine rg 11 ?_;refine vV (by exact fs_addr rfl rfl (by omega) (by omega)) ?_;refine mV ?_)|refine nZ ?_)
        have hln : (L ++ [(c, w0, w1)]).length = L.length + 1 := by simp
        all_goals exact ⟨⟨L ++ [(c, w0, w1)], by rw [List.length_append, List.length_singleton]; omega, by rw [List.map_append, hLm, List.length_append, List.length_singleton, htk]; rfl, fun x hx => (List.mem_append.1 hx).elim (hLp x) (fun h => by simp only [List.mem_singleton] at h; rw [h]; exact hp)⟩, by dsimp only; rw [List.length_append, List.length_singleton]; omega, [0, 1, 2, 6], rfl, ⟨rfl, rfl, rfl, rfl, rfl, rfl, (congrArg (fun n : Nat => some (AV.i (n : Int))) hln).symm, trivial⟩, ⟨.inr rfl, .inr rfl, .inr (congrArg (fun n : Nat => some (AB.cells [.sl 6 0 n 3, .i b])) hln).symm, .inr (sub_arr rfl (lanes_next L (c, w0, w1)) (lanes_idfs _)), trivial⟩, by decide, fun _ hi => absurd hi (Nat.not_lt_zero _)⟩
      · repeat' (first|refine wR ?_|(((refine rg 8 ?_)); (all_goals (refine vV (by exact fs_build T rfl rfl rfl rfl) ?_; refine mV ?_; refine vc_store T rfl rfl rfl rfl rfl rfl (by decide) rfl ?_; refine aV ?_; refine aV ?_)))|(refine vc_nilp (by ((dsimp only [ln1, ln2, List.append_nil, ln4, ln5, ln6, ln7, ln8, ln9, putAt, putd, allObjs, argEnv, un_v, un_ptr, un_ep, un_pr, un_sl, un_mp, un_row, un_agg, un_tup, un_clo, Nat.zero_add, lnb, Nat.reduceAdd, lnc, lnd]; done))) ?_))
        all_goals exact ⟨_, _, .inr ⟨L, c, K.drop (L.length + 1), by rw [hLm]; exact hsp, hLp, stuck_1 g hcx f1 k1, rfl, rfl⟩, .inl rfl, [], _, rfl, rfl, rfl, trivial, List.nodup_nil, fun _ hi => absurd hi (Nat.not_lt_zero _)⟩
      · repeat' (first|refine wR ?_|(((refine rg 8 ?_)); (all_goals (refine vV (by exact fs_build T rfl rfl rfl rfl) ?_; refine mV ?_; refine vc_store T rfl rfl rfl rfl rfl rfl (by decide) rfl ?_; refine aV ?_; refine aV ?_)))|(refine vc_nilp (by ((dsimp only [ln1, ln2, List.append_nil, ln4, ln5, ln6, ln7, ln8, ln9, putAt, putd, allObjs, argEnv, un_v, un_ptr, un_ep, un_pr, un_sl, un_mp, un_row, un_agg, un_tup, un_clo, Nat.zero_add, lnb, Nat.reduceAdd, lnc, lnd]; done))) ?_))
        all_goals exact ⟨_, _, .inr ⟨L, c, K.drop (L.length + 1), by rw [hLm]; exact hsp, hLp, stuck_0 g hcx (flow_0 s (walkP s.fl) c) f1, rfl, rfl⟩, .inl rfl, [], _, rfl, rfl, rfl, trivial, List.nodup_nil, fun _ hi => absurd hi (Nat.not_lt_zero _)⟩
    · have hle : L.length = K.length := by omega
      rw [hle, List.take_length] at hLm
      repeat' (first|refine wS ?_|refine wR ?_|refine wE ?_|refine wU ?_|(refine rg 4 ?_;refine vV (by exact fs_lssF rfl rfl (by omega)) ?_)|(refine rg 12 ?_;refine lV T ?_;refine vc_store T rfl rfl rfl rfl rfl rfl (by decide) rfl ?_;refine aV ?_;refine aV ?_)|refine nZ ?_)
      all_goals exact ⟨_, _, .inl ⟨L, hLm, hLp, rfl, rfl⟩, .inl rfl, [3], _, rfl, rfl, rfl, ⟨.inr (sub_arr rfl rfl (lanes_idfs _)), trivial⟩, by decide, fun _ hi => absurd hi (Nat.not_lt_zero _)⟩
  · rintro r o (⟨L, h1, h2, rfl, rfl⟩ | ⟨L, c, post, h1, h2, h3, rfl, rfl⟩)
    · refine ⟨_, ?_, .ok L h1 h2⟩
      have e : AV.rowE (lanesA L) 3 = .row (lanesA L).flatten L.length 3 := by simp [AV.rowE]
      dsimp only [certA]
      rw [e]
      refine .tup (.cons (.agg (.cons (.sl (es := lanesA L) rfl (by simp) ?_) (.cons (.v _) .nil))) (.cons (.v _) (.cons (.v _) .nil)))
      rw [List.drop_zero, List.take_of_length_le (by simp)]
      exact viewL_self _ (lanes_pln L)
    · exact ⟨_, .tup (.cons (.agg (.cons (.nils 3) (.cons (.v _) .nil))) (.cons (.v _) (.cons (.v _) .nil))), .no L c post h1 h2 h3⟩
end Go.Proofs.YtjpcpbbkelgkeaaGreat
namespace Go.Proofs.YtjpcpbbkelgkeaaGreat
open Go Go.Ab Go.Fl Go.Re Go.Ln Go.MapKept
attribute [local irreducible] VC AW FStep ACall PCall AStep
set_option maxHeartbeats 4000000
theorem ticks_c (l w : List Int) (hl : l.length ≤ 1000000) : ACall Tryz.prog 50 [.rowE (ints l) 1, .rowE (ints w) 1] [] (.i (tickP w l)) [] := by
  have hll : (ints l).length = l.length := ints_length _
  have hwl : (ints w).length = w.length := ints_length _
  have hmin : min (1 : Int) (((ints l).length : Nat) : Int) = ((min 1 l.length : Nat) : Int) := by rw [hll]; omega
  have hdr : (ints l).drop (min 1 l.length) = ints (l.drop 1) := by
    cases l with
    | nil => rfl
    | cons a l => rw [show min 1 (a :: l).length = 1 by simp]; rfl
  have htl : (l.drop 1).length ≤ 1000000 := by rw [List.length_drop]; omega
  unfold tickP
  refine acall T Tryz.func50 rfl rfl rfl rfl ?_
  repeat' (first|refine wS ?_|refine wB ?_|(refine rg 0 ?_;refine aV ?_)|(refine rg 1 ?_;refine aV ?_)|(refine rg 2 ?_;refine mV ?_;refine mV ?_;(refine qV T ?_);refine vV (by exact fs_min rfl rfl) ?_;refine vV (by exact (show FStep _ _ _ _ 0 (fun _=>AV.rowE (ints (l.drop 1)) 1) (fun _=>[]) from hdr ▸ fs_sliceFromE T rfl rfl rfl rfl (k := min 1 l.length) (congrArg some hmin) (by omega) (ints_len _))) ?_;(refine qV T ?_);refine mV ?_)|refine nZ ?_)
  generalize l.drop 1 = t at *
  have htl2 : (ints t).length = t.length := ints_length _
  refine aw_loop (X := {p : Nat × Int // p.1 ≤ t.length ∧ tickL w p.2 (t.drop p.1) = tickL w 0 t}) (fun p => [(1, .rowE (ints w) 1), (5, .i p.1.2), (12, .rowE (ints t) 1), (13, .i t.length), (14, .i (p.1.1 : Int))]) (fun _ => []) (fun p => t.length - p.1.1) ⟨(0, 0), Nat.zero_le _, by rw [List.drop_zero]⟩ ⟨[], rfl, ⟨rfl, rfl, rfl, congrArg (fun n : Nat => some (AV.i n)) htl2, rfl, trivial⟩, trivial, List.nodup_nil, fun _ hi => absurd hi (Nat.not_lt_zero _)⟩ ?_
  rintro ⟨⟨j, n⟩, hj, hn⟩
  dsimp only at hj hn ⊢
  by_cases hlt : j < t.length
  · rw [List.drop_eq_getElem_cons hlt, tick_cons] at hn
    have q1 : (ints t)[(j : Int).toNat]? = some [AV.i t[j]] := by rw [Int.toNat_natCast]; exact ints_get hlt
    generalize t[j] = c at *
    by_cases h1 : 0 ≤ c ∧ c < w.length
    · have q2 := ints_gI (l := w) (j := c) (i := c.toNat) (-1) (by omega) (by omega)
      generalize w.getD c.toNat (-1) = y at *
      by_cases h2 : y = -1
      · rw [if_neg (fun h => h.2.2 h2)] at hn
        rw [← hn]
        repeat' (first|refine wS ?_|refine wB ?_|refine wK ?_|refine wR ?_|refine wT ?_|(refine rg 3 ?_;refine vV (by exact fs_lssT rfl rfl (by omega)) ?_)|(refine rg 4 ?_;refine vV (by exact fs_indexRowE T rfl rfl rfl rfl rfl (by omega) (ints_len _) q1) ?_;refine lV T ?_;refine aV ?_)|(refine rg 5 ?_;(all_goals (refine mV ?_;refine vV (by exact fs_lssF rfl rfl (by omega)) ?_;refine mV ?_));(all_goals (refine gK ?_));(all_goals (refine gT ?_;(refine mV ?_);refine gT ?_;(refine mV ?_);refine gT ?_;(refine qV T ?_);refine gT ?_;(refine vV (by exact fs_geqF rfl rfl (by omega)) ?_)));(all_goals ((refine pV ?_);refine mV ?_));(all_goals (refine gK ?_));(all_goals (refine gT ?_;(refine mV ?_);refine gT ?_;(refine mV ?_);refine gT ?_;(refine vV (by exact fs_indexRowE T rfl rfl rfl rfl rfl (by omega) (ints_len _) q2) ?_);refine gT ?_;(refine lV T ?_);refine gT ?_;(refine vV (by exact fs_eqlT rfl rfl h2) ?_)));(all_goals (refine pV ?_)))|(refine rg 6 ?_;refine aV ?_)|refine nZ ?_)
        all_goals first | (exfalso; omega) | exact ret_plain (.inl rfl) rfl rfl
      · rw [if_pos ⟨h1.1, h1.2, h2⟩] at hn
        repeat' (first|refine wS ?_|refine wB ?_|refine wK ?_|refine wT ?_|refine wU ?_|(refine rg 3 ?_;refine vV (by exact fs_lssT rfl rfl (by omega)) ?_)|(refine rg 4 ?_;refine vV (by exact fs_indexRowE T rfl rfl rfl rfl rfl (by omega) (ints_len _) q1) ?_;refine lV T ?_;refine aV ?_)|(refine rg 5 ?_;(all_goals (refine mV ?_;refine vV (by exact fs_lssF rfl rfl (by omega)) ?_;refine mV ?_));(all_goals (refine gK ?_));(all_goals (refine gT ?_;(refine mV ?_);refine gT ?_;(refine mV ?_);refine gT ?_;(refine qV T ?_);refine gT ?_;(refine vV (by exact fs_geqF rfl rfl (by omega)) ?_)));(all_goals ((refine pV ?_);refine mV ?_));(all_goals (refine gK ?_));(all_goals (refine gT ?_;(refine mV ?_);refine gT ?_;(refine mV ?_);refine gT ?_;(refine vV (by exact fs_indexRowE T rfl rfl rfl rfl rfl (by omega) (ints_len _) q2) ?_);refine gT ?_;(refine lV T ?_);refine gT ?_;(refine vV (by exact fs_eqlF rfl rfl h2) ?_)));(all_goals (refine pV ?_)))|(refine rg 7 ?_;refine mV ?_;refine mV ?_;refine mV ?_;refine vV (by exact fs_indexRowE T rfl rfl rfl rfl rfl (by omega) (ints_len _) q2) ?_;refine lV T ?_;refine vV (by exact fs_max rfl rfl) ?_;refine aV ?_)|(refine rg 8 ?_;refine vV (by exact fs_addr rfl rfl (by omega) (by omega)) ?_;refine mV ?_)|refine nZ ?_)
        all_goals first | (exfalso; omega) | exact ⟨⟨(j + 1, max n y), hlt, hn⟩, by dsimp only; omega, by (refine ⟨[], rfl, ?_, trivial, List.nodup_nil, fun _ h => absurd h (Nat.not_lt_zero _)⟩; (repeat (first | exact trivial | refine ⟨rfl, ?_⟩)))⟩
    · rw [if_neg (fun h => h1 ⟨h.1, h.2.1⟩)] at hn
      rw [← hn]
      repeat' (first|refine wS ?_|refine wB ?_|refine wK ?_|refine wR ?_|refine wT ?_|(refine rg 3 ?_;refine vV (by exact fs_lssT rfl rfl (by omega)) ?_)|(refine rg 4 ?_;refine vV (by exact fs_indexRowE T rfl rfl rfl rfl rfl (by omega) (ints_len _) q1) ?_;refine lV T ?_;refine aV ?_)|(refine rg 5 ?_;(all_goals (refine mV ?_;refine vV (by exact fs_lss rfl rfl) ?_;refine mV ?_));(all_goals (refine vc_split rfl rfl (fun hb=>?_) (fun hb=>?_)<;>((rw [hb];(try simp only [nm] at hb);try ((exfalso;omega);done)))));(all_goals first|(refine gT ?_;(refine mV ?_);refine gT ?_;(refine mV ?_);refine gT ?_;(refine qV T ?_);refine gT ?_;(refine vV (by exact fs_geq rfl rfl) ?_))|(iterate 4 refine gF ?_));(all_goals ((refine pV ?_);refine mV ?_));(all_goals first|(refine gK ?_)|(refine vc_split rfl rfl (fun hb=>?_) (fun hb=>?_)<;>((rw [hb];(try simp only [nm] at hb);try ((exfalso;omega);done)))));(all_goals (iterate 5 refine gF ?_));(all_goals (refine pV ?_)))|(refine rg 6 ?_;refine aV ?_)|refine nZ ?_)
      all_goals first | (exfalso; omega) | exact ret_plain (.inl rfl) rfl rfl
  · rw [List.drop_of_length_le (by omega)] at hn
    rw [← hn]
    rw [show tickL w n [] = n from rfl]
    repeat' (first|refine wS ?_|refine wR ?_|refine wE ?_|refine wU ?_|(refine rg 3 ?_;refine vV (by exact fs_lssF rfl rfl (by omega)) ?_)|(refine rg 9 ?_;refine mV ?_;refine aV ?_)|refine nZ ?_)
    all_goals first | (exfalso; omega) | exact ret_plain (.inl rfl) rfl rfl
def laneF : List LaneT → Int → Int → Int
  | [], _, _ => -1
  | x :: l, c, k => if x.1 = c then k else laneF l c (k + 1)
theorem laneF_drop {l : List LaneT} {c : Int} {k : Nat} (h : k < l.length) : laneF (l.drop k) c k = if (l[k]).1 = c then (k : Int) else laneF (l.drop (k + 1)) c ((k + 1 : Nat) : Int) := by
  rw [List.drop_eq_getElem_cons h]; simp [laneF]
theorem laneF_find : ∀ (l : List LaneT) (c : Int) (k : Nat), (laneF l c k = -1 ∧ l.find? (fun x => decide (x.1 = c)) = none) ∨ ∃ i : Nat, laneF l c k = ((k + i : Nat) : Int) ∧ i < l.length ∧ l[i]? = l.find? (fun x => decide (x.1 = c))
  | [], _, _ => .inl ⟨rfl, rfl⟩
  | x :: l, c, k => by
    unfold laneF
    by_cases h : x.1 = c
    · rw [if_pos h]
      exact .inr ⟨0, rfl, by simp, by simp [h]⟩
    · rw [if_neg h, List.find?_cons_of_neg (by simpa using h)]
      rcases laneF_find l c (k + 1) with ⟨h1, h2⟩ | ⟨i, h1, h2, h3⟩
      · exact .inl ⟨h1, h2⟩
      · exact .inr ⟨i + 1, by rw [← show ((k + 1 : Nat) : Int) = (k : Int) + 1 by omega, h1]; omega, by simp only [List.length_cons]; omega, by rw [List.getElem?_cons_succ]; exact h3⟩
theorem lanes_get {l : List LaneT} {i : Nat} {x : LaneT} (h : l[i]? = some x) : (lanesA l)[i]? = some (laneA x) := by simp [h]
theorem req1_c (x : LaneT) (c : Int) : ACall Tryz.prog 49 [.agg (laneA x), .pr [.i c] 0] [] (.b (decide (x.1 = c))) [] := by
  obtain ⟨y, a, b⟩ := x
  refine acall T Tryz.func49 rfl rfl rfl rfl ?_
  repeat' (first|refine wS ?_|refine wR ?_|(refine rg 0 ?_;refine vc_n (by exact fs_box rfl rfl) rfl ?_;refine aV ?_)|(refine rg 1 ?_;refine fV T ?_;refine vV (by exact fs_load T rfl rfl rfl rfl) ?_;refine vV (by exact fs_load T rfl rfl rfl rfl) ?_;refine vV (by exact fs_eql rfl rfl) ?_;refine aV ?_)|refine nZ ?_)
  all_goals first | (exfalso; omega) | exact ret_plain (.inl rfl) rfl rfl
theorem indexL_c (l : List LaneT) (c : Int) (hl : l.length ≤ 9223372036854775807) : ACall Tryz.prog 48 [.rowE (lanesA l) 3, .clo (.func 49) [] [.pr [.i c] 0]] [] (.i (laneF l c 0)) [] := by
  have hlen : (lanesA l).length = l.length := by simp
  refine acall T Tryz.func48 rfl rfl rfl rfl ?_
  repeat' (first|refine wS ?_|refine wB ?_|(refine rg 0 ?_;refine aV ?_)|(refine rg 1 ?_;refine mV ?_;(refine qV T ?_);refine mV ?_)|refine nZ ?_)
  refine aw_loop (X := {k : Nat // k ≤ l.length ∧ laneF l c 0 = laneF (l.drop k) c k}) (fun k => [(0, .rowE (lanesA l) 3), (1, .clo (.func 49) [] [.pr [.i c] 0]), (7, .i (lanesA l).length), (8, .i k.1)]) (fun _ => []) (fun k => l.length - k.1) ⟨0, by simp, rfl⟩ (by (refine ⟨[], rfl, ?_, trivial, List.nodup_nil, fun _ h => absurd h (Nat.not_lt_zero _)⟩; (repeat (first | exact trivial | refine ⟨rfl, ?_⟩)))) ?_
  rintro ⟨k, hk, hf⟩
  dsimp only
  by_cases hlt : k < l.length
  · have hd := laneF_drop (c := c) hlt
    have q1 : (lanesA l)[(k : Int).toNat]? = some (laneA l[k]) := lanes_get (by rw [Int.toNat_natCast, List.getElem?_eq_getElem hlt])
    have hc := req1_c l[k] c
    generalize l[k] = r at *
    obtain ⟨y, a, b⟩ := r
    dsimp only at hc hd q1
    by_cases hb : y = c
    · rw [decide_eq_true hb] at hc
      rw [hf, hd, if_pos hb]
      repeat' (first|refine wS ?_|refine wB ?_|refine wK ?_|refine wR ?_|refine wT ?_|(refine rg 2 ?_;refine vV (by exact fs_lssT rfl rfl (by omega)) ?_)|(refine rg 3 ?_;refine mV ?_;refine aV ?_)|(refine rg 4 ?_;refine mV ?_;refine mV ?_;refine mV ?_;refine vV (by exact fs_indexRowE T rfl rfl rfl rfl rfl (by omega) (lanes_len l) q1) ?_;refine lV T ?_;refine vV (by exact kC (hc)) ?_)|(refine rg 5 ?_;refine mV ?_;refine aV ?_)|refine nZ ?_)
      all_goals first | (exfalso; omega) | exact ret_plain (.inl rfl) rfl rfl
    · rw [decide_eq_false hb] at hc
      rw [if_neg hb] at hd
      repeat' (first|refine wS ?_|refine wB ?_|refine wK ?_|refine wT ?_|refine wU ?_|(refine rg 2 ?_;refine vV (by exact fs_lssT rfl rfl (by omega)) ?_)|(refine rg 3 ?_;refine mV ?_;refine aV ?_)|(refine rg 4 ?_;refine mV ?_;refine mV ?_;refine mV ?_;refine vV (by exact fs_indexRowE T rfl rfl rfl rfl rfl (by omega) (lanes_len l) q1) ?_;refine lV T ?_;refine vV (by exact kC (hc)) ?_)|(refine rg 6 ?_;refine vV (by exact fs_addr rfl rfl (by omega) (by omega)) ?_;refine mV ?_)|refine nZ ?_)
      all_goals first | (exfalso; omega) | exact ⟨⟨k + 1, by omega, by rw [hf, hd]⟩, by dsimp only; omega, by (refine ⟨[], rfl, ?_, trivial, List.nodup_nil, fun _ h => absurd h (Nat.not_lt_zero _)⟩; (repeat (first | exact trivial | refine ⟨rfl, ?_⟩)))⟩
  · rw [hf, List.drop_of_length_le (by omega)]
    repeat' (first|refine wS ?_|refine wR ?_|refine wE ?_|refine wU ?_|(refine rg 2 ?_;refine vV (by exact fs_lssF rfl rfl (by omega)) ?_)|(refine rg 7 ?_;refine aV ?_)|refine nZ ?_)
    all_goals first | (exfalso; omega) | exact ret_plain (.inl rfl) rfl rfl
abbrev ansA (x : Int × Int × Int) : AV := .tup [.i x.1, .i x.2.1, .i x.2.2]
theorem request_c (l : List LaneT) (b c : Int) (w : List Int) (hl : l.length ≤ 1000000) (hll : ∀ x, x ∈ l → x.2.1.length ≤ 1000000 ∧ x.2.2.length ≤ 1000000) :
    ACall Tryz.prog 15 [.agg (certA l b), .i c, .rowE (ints w) 1] [] (ansA (reqP l b c w)) [] := by
  have hi := indexL_c l c (by omega)
  unfold reqP
  rcases laneF_find l c 0 with ⟨h1, h2⟩ | ⟨i, h1, h2, h3⟩
  · rw [h2]
    rw [show laneF l c 0 = -1 from h1] at hi
    dsimp only
    refine acall T Tryz.func15 rfl rfl rfl rfl ?_
    repeat' (first|refine wS ?_|refine wR ?_|refine wT ?_|(refine rg 0 ?_;refine vc_n (by exact fs_box rfl rfl) rfl ?_;refine vc_n (by exact fs_box rfl rfl) rfl ?_;refine aV ?_;refine aV ?_;refine aV ?_)|(refine rg 1 ?_;refine fV T ?_;refine lV T ?_;refine vV (by exact fs_makeFunc rfl rfl) ?_;refine vV (by exact fs_callb0 rfl rfl hi (.cons (.row _ _ _) (.cons (.clo .nil (.cons (.ptr rfl (.cons (.v _) .nil)) .nil)) .nil)) rfl rfl) ?_;refine aV ?_)|(refine rg 2 ?_;refine mV ?_;refine vV (by exact fs_lss rfl rfl) ?_)|(refine rg 3 ?_;refine aV ?_;refine aV ?_;refine aV ?_)|refine nZ ?_)
    all_goals first | (exfalso; omega) | exact ret_plain (.inl rfl) rfl rfl
  · rw [← h3]
    obtain ⟨x, hx⟩ : ∃ x, l[i]? = some x := ⟨l[i], List.getElem?_eq_getElem h2⟩
    rw [hx]
    have hxl := hll x (List.mem_of_getElem? hx)
    rw [show laneF l c 0 = ((i : Nat) : Int) by rw [show laneF l c 0 = laneF l c ((0 : Nat) : Int) from rfl, h1]; omega] at hi
    have q1 : (lanesA l)[((i : Nat) : Int).toNat]? = some (laneA x) := lanes_get (by rw [Int.toNat_natCast]; exact hx)
    obtain ⟨y, A, B⟩ := x
    have ca := ticks_c A w hxl.1
    have cb := ticks_c B w hxl.2
    dsimp only
    unfold reqA
    dsimp only
    have g1 := tick_ge (w := w) (t := A.drop 1) (n := 0) (by omega)
    have g2 := tick_ge (w := w) (t := B.drop 1) (n := 0) (by omega)
    generalize hta : tickP w A = ta at *
    generalize htb : tickP w B = tb at *
    refine acall T Tryz.func15 rfl rfl rfl rfl ?_
    repeat' (first|refine wS ?_|refine wB ?_|refine wK ?_|refine wU ?_|(refine rg 0 ?_;refine vc_n (by exact fs_box rfl rfl) rfl ?_;refine vc_n (by exact fs_box rfl rfl) rfl ?_;refine aV ?_;refine aV ?_;refine aV ?_)|(refine rg 1 ?_;refine fV T ?_;refine lV T ?_;refine vV (by exact fs_makeFunc rfl rfl) ?_;refine vV (by exact fs_callb0 rfl rfl hi (.cons (.row _ _ _) (.cons (.clo .nil (.cons (.ptr rfl (.cons (.v _) .nil)) .nil)) .nil)) rfl rfl) ?_;refine aV ?_)|(refine rg 2 ?_;refine mV ?_;refine vV (by exact fs_lssF rfl rfl (by omega)) ?_)|(((refine aw_draw2k (id := 4) 63 [[],[0],[],[0,1,2],[0,1,2,3],[0,1,2,3,4],[],[0,1,2,3,4,5,6],[],[8],[],[8,9,10],[8,9,10,11],[8,9,10,11,12],[],[0,1,2,3,4,5,6,7,8,9,10,11,12,13,14],[0,1,2,3,4,5,6,7,8,9,10,11,12,13,14,15]] [18,19,20,21,22,23,24,25,26,27,28,29,30,31,32,33,10] [[],[],[18,19],[],[],[],[18,19,20,21,22,23],[],[18,19,20,21,22,23,24,25],[18,19,20,21,22,23,24,25],[18,19,20,21,22,23,24,25,26,27],[18,19,20,21,22,23,24,25],[18,19,20,21,22,23,24,25],[18,19,20,21,22,23,24,25],[18,19,20,21,22,23,24,25,26,27,28,29,30,31],[],[]] mixedP rfl (by decide +kernel) ?_));(all_goals (refine dV rfl (by exact fs_fieldAddr T rfl rfl rfl) ?_));(all_goals (refine dV rfl (by exact fs_load T rfl rfl rfl rfl) ?_));(all_goals (refine dV rfl (by exact fs_move rfl) ?_));(all_goals (refine dV rfl (by exact fs_indexRowE T rfl rfl rfl rfl rfl (by omega) (lanes_len l) q1) ?_));(all_goals (refine dV rfl (by exact fs_fieldAddr T rfl rfl rfl) ?_));(all_goals (refine dV rfl (by exact fs_load T rfl rfl rfl rfl) ?_));(all_goals (refine dV rfl (by exact fs_move rfl) ?_));(all_goals (refine dV rfl (by exact kC (ca)) ?_));(all_goals (refine dV rfl (by exact fs_fieldAddr T rfl rfl rfl) ?_));(all_goals (refine dV rfl (by exact fs_load T rfl rfl rfl rfl) ?_));(all_goals (refine dV rfl (by exact fs_move rfl) ?_));(all_goals (refine dV rfl (by exact fs_indexRowE T rfl rfl rfl rfl rfl (by omega) (lanes_len l) q1) ?_));(all_goals (refine dV rfl (by exact fs_fieldAddr T rfl rfl rfl) ?_));(all_goals (refine dV rfl (by exact fs_load T rfl rfl rfl rfl) ?_));(all_goals (refine dV rfl (by exact fs_move rfl) ?_));(all_goals (refine dV rfl (by exact kC (cb)) ?_));(all_goals (refine dV rfl (by exact fs_assign rfl) ?_));(all_goals (refine dw_fin rfl rfl (by ((dsimp only [ln1,ln2,List.append_nil,ln4,ln5,ln6,ln7,ln8,ln9,putAt,putd,allObjs,argEnv,un_v,un_ptr,un_ep,un_pr,un_sl,un_mp,un_row,un_agg,un_tup,un_clo,Nat.zero_add,lnb,Nat.reduceAdd,lnc,lnd];done))) ?_;refine aV ?_)))|refine nZ ?_)
    refine aw_keep [(3, .ptr 0 0), (6, .i 0), (7, .i 0), (8, .i 0), (10, .i ta), (11, .i tb)] [.cells (certA l b)] ⟨[0], rfl, (by (repeat (first | exact trivial | refine ⟨rfl, ?_⟩))), ⟨.inr rfl, trivial⟩, by decide, fun _ hi => absurd hi (Nat.not_lt_zero _)⟩ ?_
    have hcase : (ta < 0 ∧ tb < 0) ∨ (¬ (ta < 0 ∧ tb < 0) ∧ (ta < 0 ∨ (0 ≤ tb ∧ tb < ta)) ∧ b < tb) ∨ (¬ (ta < 0 ∧ tb < 0) ∧ (ta < 0 ∨ (0 ≤ tb ∧ tb < ta)) ∧ ¬ b < tb) ∨ (¬ (ta < 0 ∧ tb < 0) ∧ ¬ (ta < 0 ∨ (0 ≤ tb ∧ tb < ta)) ∧ b < ta) ∨ (¬ (ta < 0 ∧ tb < 0) ∧ ¬ (ta < 0 ∨ (0 ≤ tb ∧ tb < ta)) ∧ ¬ b < ta) := by omega
    rcases hcase with h | ⟨h1, h2, h3⟩ | ⟨h1, h2, h3⟩ | ⟨h1, h2, h3⟩ | ⟨h1, h2, h3⟩
    · rw [if_pos h]
      repeat' (first|refine wS ?_|refine wR ?_|refine wT ?_|(refine rg 6 ?_;(all_goals (refine mV ?_;refine vV (by exact fs_lssT rfl rfl (by omega)) ?_;refine mV ?_));(all_goals (refine gK ?_));(all_goals (refine gT ?_;(refine mV ?_);refine gT ?_;(refine vV (by exact fs_lssT rfl rfl (by omega)) ?_)));(all_goals ((refine pV ?_);refine aV ?_)))|(refine rg 7 ?_;refine aV ?_;refine aV ?_;refine aV ?_)|refine nZ ?_)
      all_goals first | (exfalso; omega) | exact ret_plain (.inl rfl) rfl rfl
    · rw [if_neg h1, if_pos h2, if_pos h3]
      repeat' (first|refine wS ?_|refine wR ?_|refine wT ?_|refine wU ?_|(refine wC rfl (fun hb=>?_) (fun hb=>?_)<;>(((try simp only [nm] at hb);try (exfalso;omega))))|(refine rg 6 ?_;(all_goals (refine mV ?_;refine vV (by exact fs_lss rfl rfl) ?_;refine mV ?_));(all_goals (refine vc_split rfl rfl (fun hb=>?_) (fun hb=>?_)<;>((rw [hb];(try simp only [nm] at hb);try ((exfalso;omega);done)))));(all_goals first|(refine gT ?_;(refine mV ?_);refine gT ?_;(refine vV (by exact fs_lss rfl rfl) ?_))|(iterate 2 refine gF ?_));(all_goals ((refine pV ?_);refine aV ?_)))|(refine rg 8 ?_;(all_goals (refine mV ?_;refine vV (by exact fs_lss rfl rfl) ?_;refine mV ?_));(all_goals (refine vc_split rfl rfl (fun hb=>?_) (fun hb=>?_)<;>((rw [hb];(try simp only [nm] at hb);try ((exfalso;omega);done)))));(all_goals first|(refine gT ?_;(refine mV ?_);refine gT ?_;(refine vV (by exact fs_geq rfl rfl) ?_);refine gT ?_;(refine mV ?_))|(iterate 3 refine gF ?_));(all_goals first|(refine gK ?_)|(refine vc_split rfl rfl (fun hb=>?_) (fun hb=>?_)<;>((rw [hb];(try simp only [nm] at hb);try ((exfalso;omega);done)))));(all_goals first|(refine gT ?_;(refine mV ?_);refine gT ?_;(refine mV ?_);refine gT ?_;(refine vV (by exact fs_lss rfl rfl) ?_))|(iterate 3 refine gU ?_));(all_goals first|(refine gT ?_;(refine pV ?_))|(refine gF ?_));(all_goals ((refine pV ?_);refine aV ?_)))|(refine rg 9 ?_;refine mV ?_;refine aV ?_;refine aV ?_)|(refine rg 10 ?_;refine mV ?_;refine fV T ?_;refine lV T ?_;refine vV (by exact fs_gtr rfl rfl) ?_)|(refine rg 11 ?_;refine mV ?_;refine mV ?_;refine aV ?_;refine aV ?_;refine aV ?_)|refine nZ ?_)
      all_goals first | (exfalso; omega) | exact ret_plain (.inl rfl) rfl rfl
    · rw [if_neg h1, if_pos h2, if_neg h3]
      repeat' (first|refine wS ?_|refine wK ?_|refine wR ?_|refine wT ?_|refine wU ?_|(refine wC rfl (fun hb=>?_) (fun hb=>?_)<;>(((try simp only [nm] at hb);try (exfalso;omega))))|(refine rg 6 ?_;(all_goals (refine mV ?_;refine vV (by exact fs_lss rfl rfl) ?_;refine mV ?_));(all_goals (refine vc_split rfl rfl (fun hb=>?_) (fun hb=>?_)<;>((rw [hb];(try simp only [nm] at hb);try ((exfalso;omega);done)))));(all_goals first|(refine gT ?_;(refine mV ?_);refine gT ?_;(refine vV (by exact fs_lss rfl rfl) ?_))|(iterate 2 refine gF ?_));(all_goals ((refine pV ?_);refine aV ?_)))|(refine rg 8 ?_;(all_goals (refine mV ?_;refine vV (by exact fs_lss rfl rfl) ?_;refine mV ?_));(all_goals (refine vc_split rfl rfl (fun hb=>?_) (fun hb=>?_)<;>((rw [hb];(try simp only [nm] at hb);try ((exfalso;omega);done)))));(all_goals first|(refine gT ?_;(refine mV ?_);refine gT ?_;(refine vV (by exact fs_geq rfl rfl) ?_);refine gT ?_;(refine mV ?_))|(iterate 3 refine gF ?_));(all_goals first|(refine gK ?_)|(refine vc_split rfl rfl (fun hb=>?_) (fun hb=>?_)<;>((rw [hb];(try simp only [nm] at hb);try ((exfalso;omega);done)))));(all_goals first|(refine gT ?_;(refine mV ?_);refine gT ?_;(refine mV ?_);refine gT ?_;(refine vV (by exact fs_lss rfl rfl) ?_))|(iterate 3 refine gU ?_));(all_goals first|(refine gT ?_;(refine pV ?_))|(refine gF ?_));(all_goals ((refine pV ?_);refine aV ?_)))|(refine rg 9 ?_;refine mV ?_;refine aV ?_;refine aV ?_)|(refine rg 10 ?_;refine mV ?_;refine fV T ?_;refine lV T ?_;refine vV (by exact fs_gtr rfl rfl) ?_)|(refine rg 12 ?_;refine mV ?_;refine mV ?_;refine aV ?_;refine aV ?_;refine aV ?_)|refine nZ ?_)
      all_goals first | (exfalso; omega) | exact ret_plain (.inl rfl) rfl rfl
    · rw [if_neg h1, if_neg h2, if_pos h3]
      repeat' (first|refine wS ?_|refine wR ?_|refine wU ?_|(refine wC rfl (fun hb=>?_) (fun hb=>?_)<;>(((try simp only [nm] at hb);try (exfalso;omega))))|(refine rg 6 ?_;(all_goals (refine mV ?_;refine vV (by exact fs_lss rfl rfl) ?_;refine mV ?_));(all_goals (refine vc_split rfl rfl (fun hb=>?_) (fun hb=>?_)<;>((rw [hb];(try simp only [nm] at hb);try ((exfalso;omega);done)))));(all_goals (iterate 2 refine gF ?_));(all_goals ((refine pV ?_);refine aV ?_)))|(refine rg 8 ?_;(all_goals (refine mV ?_;refine vV (by exact fs_lss rfl rfl) ?_;refine mV ?_));(all_goals (refine vc_split rfl rfl (fun hb=>?_) (fun hb=>?_)<;>((rw [hb];(try simp only [nm] at hb);try ((exfalso;omega);done)))));(all_goals (refine gT ?_;(refine mV ?_);refine gT ?_;(refine vV (by exact fs_geq rfl rfl) ?_);refine gT ?_;(refine mV ?_)));(all_goals (refine vc_split rfl rfl (fun hb=>?_) (fun hb=>?_)<;>((rw [hb];(try simp only [nm] at hb);try ((exfalso;omega);done)))));(all_goals first|(refine gT ?_;(refine mV ?_);refine gT ?_;(refine mV ?_);refine gT ?_;(refine vV (by exact fs_lss rfl rfl) ?_))|(iterate 3 refine gF ?_));(all_goals (refine gT ?_;(refine pV ?_)));(all_goals ((refine pV ?_);refine aV ?_)))|(refine rg 5 ?_;refine mV ?_;refine aV ?_)|(refine rg 10 ?_;refine mV ?_;refine fV T ?_;refine lV T ?_;refine vV (by exact fs_gtr rfl rfl) ?_)|(refine rg 11 ?_;refine mV ?_;refine mV ?_;refine aV ?_;refine aV ?_;refine aV ?_)|refine nZ ?_)
      all_goals first | (exfalso; omega) | exact ret_plain (.inl rfl) rfl rfl
    · rw [if_neg h1, if_neg h2, if_neg h3]
      repeat' (first|refine wS ?_|refine wK ?_|refine wR ?_|refine wU ?_|(refine wC rfl (fun hb=>?_) (fun hb=>?_)<;>(((try simp only [nm] at hb);try (exfalso;omega))))|(refine rg 6 ?_;(all_goals (refine mV ?_;refine vV (by exact fs_lss rfl rfl) ?_;refine mV ?_));(all_goals (refine vc_split rfl rfl (fun hb=>?_) (fun hb=>?_)<;>((rw [hb];(try simp only [nm] at hb);try ((exfalso;omega);done)))));(all_goals (iterate 2 refine gF ?_));(all_goals ((refine pV ?_);refine aV ?_)))|(refine rg 8 ?_;(all_goals (refine mV ?_;refine vV (by exact fs_lss rfl rfl) ?_;refine mV ?_));(all_goals (refine vc_split rfl rfl (fun hb=>?_) (fun hb=>?_)<;>((rw [hb];(try simp only [nm] at hb);try ((exfalso;omega);done)))));(all_goals (refine gT ?_;(refine mV ?_);refine gT ?_;(refine vV (by exact fs_geq rfl rfl) ?_);refine gT ?_;(refine mV ?_)));(all_goals (refine vc_split rfl rfl (fun hb=>?_) (fun hb=>?_)<;>((rw [hb];(try simp only [nm] at hb);try ((exfalso;omega);done)))));(all_goals first|(refine gT ?_;(refine mV ?_);refine gT ?_;(refine mV ?_);refine gT ?_;(refine vV (by exact fs_lss rfl rfl) ?_))|(iterate 3 refine gF ?_));(all_goals (refine gT ?_;(refine pV ?_)));(all_goals ((refine pV ?_);refine aV ?_)))|(refine rg 5 ?_;refine mV ?_;refine aV ?_)|(refine rg 10 ?_;refine mV ?_;refine fV T ?_;refine lV T ?_;refine vV (by exact fs_gtr rfl rfl) ?_)|(refine rg 12 ?_;refine mV ?_;refine mV ?_;refine aV ?_;refine aV ?_;refine aV ?_)|refine nZ ?_)
      all_goals first | (exfalso; omega) | exact ret_plain (.inl rfl) rfl rfl
end Go.Proofs.YtjpcpbbkelgkeaaGreat
namespace Go.Proofs.YtjpcpbbkelgkeaaGreat
open Go Go.Ab Go.Fl Go.Shelf Go.Proofs Go.MapKept
attribute [local irreducible] VC AW FStep ACall PCall StrStruct StrT AStep
set_option maxHeartbeats 8000000
end Go.Proofs.YtjpcpbbkelgkeaaGreat
namespace Go.Proofs.YtjpcpbbkelgkeaaGreat
open Go Go.Ab Go.Fl Go.Shelf Go.Proofs Go.MapKept
attribute [local irreducible] VC AW FStep ACall PCall StrStruct StrT AStep
set_option maxHeartbeats 8000000
end Go.Proofs.YtjpcpbbkelgkeaaGreat
namespace Go.Proofs.YtjpcpbbkelgkeaaGreat
open Go Go.Ab Go.Fl Go.Shelf Go.Proofs Go.MapKept
attribute [local irreducible] VC AW FStep ACall PCall StrStruct StrT AStep
set_option maxHeartbeats 8000000
end Go.Proofs.YtjpcpbbkelgkeaaGreat
namespace Go.Proofs.YtjpcpbbkelgkeaaGreat
open Go Go.Ab Go.Fl Go.Shelf Go.Proofs Go.MapKept
attribute [local irreducible] VC AW FStep ACall PCall StrStruct StrT AStep
set_option maxHeartbeats 8000000
theorem few11_p (s : Sit) (n m : Nat) (hn : n ≤ 1000) (hm : m ≤ 1000) :
    PCall Tryz.prog 25 [.agg (sitA s), .i n, .i m] [] (okB (FewP s n m)) := by
  have cF := few_c s.fl n
  have hzl : (zonsA s.zn).length = s.zn.length := by simp
  have hal : (apsA s.ap).length = s.ap.length := by simp
  have hsl : (shsA s.sh).length = s.sh.length := by simp
  have hrl : (stksA s.rb).length = s.rb.length := by simp
  refine pcall T Tryz.func25 rfl rfl rfl rfl ?_
  repeat' (first|refine wS ?_|refine wB ?_|(refine rg 0 ?_;refine vc_n (by exact fs_box rfl rfl) rfl ?_;refine aV ?_)|(refine rg 1 ?_;refine aV ?_)|refine nZ ?_)
  refine aw_loop (X := {k : Nat // k ≤ m + 1 ∧ k ≤ s.zn.length ∧ ∀ (j : Nat) (hj : j < k) (hl : j < s.zn.length), (s.zn[j]).2.1.length ≤ n ∧ (s.zn[j]).2.2.2.2.length ≤ 20 ∧ (s.zn[j]).1.length ≤ 40}) (fun k => [(1, .i n), (2, .i m), (3, .ptr 0 0), (7, .i k.1)]) (fun _ => [.cells (sitA s)]) (fun k => m + 1 - k.1) ⟨0, by omega, by omega, fun j hj => absurd hj (Nat.not_lt_zero _)⟩ (by (refine ⟨[0], rfl, (by (repeat (first | exact trivial | refine ⟨rfl, ?_⟩))), (by (repeat (first | exact trivial | refine ⟨Or.inl rfl, ?_⟩ | refine ⟨Or.inr rfl, ?_⟩))), by decide, (fun _ hi => absurd hi (Nat.not_lt_zero _))⟩)) ?_
  rintro ⟨k, hk1, hk2, hz⟩
  dsimp only
  by_cases hlt : k < s.zn.length ∧ k ≤ m
  · obtain ⟨hlt, hlm⟩ := hlt
    have q1 := zons_get hlt
    have hnx : ((s.zn[k]).2.1.length ≤ n ∧ (s.zn[k]).2.2.2.2.length ≤ 20 ∧ (s.zn[k]).1.length ≤ 40) → ∀ (j : Nat) (hj : j < k + 1) (hl : j < s.zn.length), (s.zn[j]).2.1.length ≤ n ∧ (s.zn[j]).2.2.2.2.length ≤ 20 ∧ (s.zn[j]).1.length ≤ 40 := fun h j hj hl => by
      by_cases e : j = k
      · subst e; exact h
      · exact hz j (by omega) hl
    generalize s.zn[k] = z at *
    have hcl : (ints z.2.1).length = z.2.1.length := ints_length _
    have hul : (stksA z.2.2.2.2).length = z.2.2.2.2.length := by simp
    repeat' (first|refine wS ?_|refine wB ?_|refine wK ?_|refine wR ?_|refine wT ?_|(refine wC rfl (fun hb=>?_) (fun hb=>?_)<;>(((try simp only [nm] at hb);try (exfalso;omega))))|(refine rg 2 ?_;(all_goals (refine mV ?_;refine fV T ?_;refine lV T ?_;refine vV (by exact fs_lenRow T rfl rfl) ?_;refine vV (by exact fs_lss rfl rfl) ?_;refine mV ?_));(all_goals (refine vc_split rfl rfl (fun hb=>?_) (fun hb=>?_)<;>((rw [hb];(try simp only [nm] at hb);try ((exfalso;omega);done)))));(all_goals (refine gT ?_;(refine mV ?_);refine gT ?_;(refine mV ?_);refine gT ?_;(refine vV (by exact fs_leq rfl rfl) ?_)));(all_goals (refine pV ?_)))|(refine rg 4 ?_;(all_goals (refine fV T ?_;refine lV T ?_;refine mV ?_;refine vV (by exact fs_indexRowE T rfl rfl rfl rfl rfl (by omega) (zons_len _) q1) ?_;refine fV T ?_;refine lV T ?_;refine vV (by exact fs_lenRow T rfl rfl) ?_;refine mV ?_;refine vV (by exact fs_gtr rfl rfl) ?_;refine mV ?_));(all_goals (refine vc_split rfl rfl (fun hb=>?_) (fun hb=>?_)<;>((rw [hb];(try simp only [nm] at hb);try ((exfalso;omega);done)))));(all_goals first|(refine gT ?_;(refine fV T ?_);refine gT ?_;(refine lV T ?_);refine gT ?_;(refine mV ?_);refine gT ?_;(refine vV (by exact fs_indexRowE T rfl rfl rfl rfl rfl (by omega) (zons_len _) q1) ?_);refine gT ?_;(refine fV T ?_);refine gT ?_;(refine lV T ?_);refine gT ?_;(refine vV (by exact fs_lenRow T rfl rfl) ?_);refine gT ?_;(refine vV (by exact fs_gtr rfl rfl) ?_))|(iterate 8 refine gF ?_));(all_goals ((refine pV ?_);refine mV ?_));(all_goals first|(refine gK ?_)|(refine vc_split rfl rfl (fun hb=>?_) (fun hb=>?_)<;>((rw [hb];(try simp only [nm] at hb);try ((exfalso;omega);done)))));(all_goals first|(refine gT ?_;(refine fV T ?_);refine gT ?_;(refine lV T ?_);refine gT ?_;(refine mV ?_);refine gT ?_;(refine vV (by exact fs_indexRowE T rfl rfl rfl rfl rfl (by omega) (zons_len _) q1) ?_);refine gT ?_;(refine fV T ?_);refine gT ?_;(refine lV T ?_);refine gT ?_;(refine vV (by exact fs_lenS strT rfl) ?_);refine gT ?_;(refine vV (by exact fs_gtr rfl rfl) ?_))|(iterate 8 refine gF ?_));(all_goals (refine pV ?_)))|(refine rg 5 ?_;refine aV ?_)|(refine rg 3 ?_;refine mV ?_;refine vV (by exact fs_addr rfl rfl (by omega) (by omega)) ?_;refine aV ?_)|refine nZ ?_)
    all_goals first | (exfalso; omega) | exact ⟨.b false, [], ⟨rfl, false, rfl, fun h => Bool.noConfusion h⟩, ret_plain (.inl rfl) rfl rfl⟩ | exact ⟨⟨k + 1, by omega, by omega, hnx ⟨by omega, by omega, by omega⟩⟩, by dsimp only; omega, by (refine ⟨[0], rfl, (by (repeat (first | exact trivial | refine ⟨rfl, ?_⟩))), (by (repeat (first | exact trivial | refine ⟨Or.inl rfl, ?_⟩ | refine ⟨Or.inr rfl, ?_⟩))), by decide, (fun _ hi => absurd hi (Nat.not_lt_zero _))⟩)⟩
  · repeat' (first|refine wS ?_|refine wB ?_|refine wE ?_|refine aw_condf rfl ?_|(refine wC rfl (fun hb => ?_) (fun hb => ?_) <;> (((try simp only [nm] at hb); try (exfalso; omega))))|(((refine rg 2 ?_)); (all_goals (refine mV ?_; refine fV T ?_; refine lV T ?_; (refine qV T ?_); refine vV (by exact fs_lss rfl rfl) ?_; refine mV ?_)); (all_goals (refine vc_split rfl rfl (fun hb => ?_) (fun hb => ?_) <;> ((rw [hb]; (try simp only [nm] at hb); try ((exfalso; omega); done))))); (all_goals first|(refine gT ?_; (refine mV ?_); refine gT ?_; (refine mV ?_); refine gT ?_; (refine vV (by exact fs_leq rfl rfl) ?_))|(iterate 3 refine gF ?_)); (all_goals (refine pV ?_)))|(((refine rg 6 ?_)); (all_goals (refine aV ?_)))|(refine vc_nilp (by ((dsimp only [ln1, ln2, List.append_nil, ln4, ln5, ln6, ln7, ln8, ln9, putAt, putd, allObjs, argEnv, un_v, un_ptr, un_ep, un_pr, un_sl, un_mp, un_row, un_agg, un_tup, un_clo, Nat.zero_add, lnb, Nat.reduceAdd, lnc, lnd]; done))) ?_))
    all_goals first | (exfalso; omega) | skip
    all_goals
      have hx1 := hlt
      clear hk1 hlt
      refine aw_loop (X := {k : Nat // k ≤ m + 1 ∧ k ≤ s.ap.length ∧ ∀ (j : Nat) (hj : j < k) (hl : j < s.ap.length), (s.ap[j]).1.length ≤ 40 ∧ (s.ap[j]).2.length ≤ 40}) (fun k => [(1, .i n), (2, .i m), (3, .ptr 0 0), (8, .i k.1)]) (fun _ => [.cells (sitA s)]) (fun k => m + 1 - k.1) ⟨0, by omega, by omega, fun j hj => absurd hj (Nat.not_lt_zero _)⟩ (by (refine ⟨[0], rfl, (by (repeat (first | exact trivial | refine ⟨rfl, ?_⟩))), (by (repeat (first | exact trivial | refine ⟨Or.inl rfl, ?_⟩ | refine ⟨Or.inr rfl, ?_⟩))), by decide, (fun _ hi => absurd hi (Nat.not_lt_zero _))⟩)) ?_
      rintro ⟨k2, hk3, hk4, ha⟩
      dsimp only
      by_cases hlt : k2 < s.ap.length ∧ k2 ≤ m
      · obtain ⟨hlt, hlm⟩ := hlt
        have q1 := aps_get hlt
        have hnx : ((s.ap[k2]).1.length ≤ 40 ∧ (s.ap[k2]).2.length ≤ 40) → ∀ (j : Nat) (hj : j < k2 + 1) (hl : j < s.ap.length), (s.ap[j]).1.length ≤ 40 ∧ (s.ap[j]).2.length ≤ 40 := fun h j hj hl => by
          by_cases e : j = k2
          · subst e; exact h
          · exact ha j (by omega) hl
        generalize s.ap[k2] = z at *
        repeat' (first|refine wS ?_|refine wB ?_|refine wK ?_|refine wR ?_|refine wT ?_|(refine wC rfl (fun hb=>?_) (fun hb=>?_)<;>(((try simp only [nm] at hb);try (exfalso;omega))))|(refine rg 7 ?_;(all_goals (refine mV ?_;refine fV T ?_;refine lV T ?_;refine vV (by exact fs_lenRow T rfl rfl) ?_;refine vV (by exact fs_lss rfl rfl) ?_;refine mV ?_));(all_goals (refine vc_split rfl rfl (fun hb=>?_) (fun hb=>?_)<;>((rw [hb];(try simp only [nm] at hb);try ((exfalso;omega);done)))));(all_goals (refine gT ?_;(refine mV ?_);refine gT ?_;(refine mV ?_);refine gT ?_;(refine vV (by exact fs_leq rfl rfl) ?_)));(all_goals (refine pV ?_)))|(refine rg 9 ?_;(all_goals (refine fV T ?_;refine lV T ?_;refine mV ?_;refine vV (by exact fs_indexRowE T rfl rfl rfl rfl rfl (by omega) (aps_len _) q1) ?_;refine fV T ?_;refine lV T ?_;refine vV (by exact fs_lenS strT rfl) ?_;refine vV (by exact fs_gtr rfl rfl) ?_;refine mV ?_));(all_goals (refine vc_split rfl rfl (fun hb=>?_) (fun hb=>?_)<;>((rw [hb];(try simp only [nm] at hb);try ((exfalso;omega);done)))));(all_goals first|(refine gT ?_;(refine fV T ?_);refine gT ?_;(refine lV T ?_);refine gT ?_;(refine mV ?_);refine gT ?_;(refine vV (by exact fs_indexRowE T rfl rfl rfl rfl rfl (by omega) (aps_len _) q1) ?_);refine gT ?_;(refine fV T ?_);refine gT ?_;(refine lV T ?_);refine gT ?_;(refine vV (by exact fs_lenS strT rfl) ?_);refine gT ?_;(refine vV (by exact fs_gtr rfl rfl) ?_))|(iterate 8 refine gF ?_));(all_goals (refine pV ?_)))|(refine rg 10 ?_;refine aV ?_)|(refine rg 8 ?_;refine mV ?_;refine vV (by exact fs_addr rfl rfl (by omega) (by omega)) ?_;refine aV ?_)|refine nZ ?_)
        all_goals first | (exfalso; omega) | exact ⟨.b false, [], ⟨rfl, false, rfl, fun h => Bool.noConfusion h⟩, ret_plain (.inl rfl) rfl rfl⟩ | exact ⟨⟨k2 + 1, by omega, by omega, hnx ⟨by omega, by omega⟩⟩, by dsimp only; omega, by (refine ⟨[0], rfl, (by (repeat (first | exact trivial | refine ⟨rfl, ?_⟩))), (by (repeat (first | exact trivial | refine ⟨Or.inl rfl, ?_⟩ | refine ⟨Or.inr rfl, ?_⟩))), by decide, (fun _ hi => absurd hi (Nat.not_lt_zero _))⟩)⟩
      · repeat' (first|refine wS ?_|refine wB ?_|refine wE ?_|refine aw_condf rfl ?_|(refine wC rfl (fun hb => ?_) (fun hb => ?_) <;> (((try simp only [nm] at hb); try (exfalso; omega))))|(((refine rg 7 ?_)); (all_goals (refine mV ?_; refine fV T ?_; refine lV T ?_; (refine qV T ?_); refine vV (by exact fs_lss rfl rfl) ?_; refine mV ?_)); (all_goals (refine vc_split rfl rfl (fun hb => ?_) (fun hb => ?_) <;> ((rw [hb]; (try simp only [nm] at hb); try ((exfalso; omega); done))))); (all_goals first|(refine gT ?_; (refine mV ?_); refine gT ?_; (refine mV ?_); refine gT ?_; (refine vV (by exact fs_leq rfl rfl) ?_))|(iterate 3 refine gF ?_)); (all_goals (refine pV ?_)))|(((refine rg 11 ?_)); (all_goals (refine aV ?_)))|(refine vc_nilp (by ((dsimp only [ln1, ln2, List.append_nil, ln4, ln5, ln6, ln7, ln8, ln9, putAt, putd, allObjs, argEnv, un_v, un_ptr, un_ep, un_pr, un_sl, un_mp, un_row, un_agg, un_tup, un_clo, Nat.zero_add, lnb, Nat.reduceAdd, lnc, lnd]; done))) ?_))
        all_goals first | (exfalso; omega) | skip
        all_goals
          have hx2 := hlt
          clear hk3 hlt
          refine aw_loop (X := {k : Nat // k ≤ m + 1 ∧ k ≤ s.sh.length ∧ ∀ (j : Nat) (hj : j < k) (hl : j < s.sh.length), (s.sh[j]).2.length ≤ 40}) (fun k => [(1, .i n), (2, .i m), (3, .ptr 0 0), (9, .i k.1)]) (fun _ => [.cells (sitA s)]) (fun k => m + 1 - k.1) ⟨0, by omega, by omega, fun j hj => absurd hj (Nat.not_lt_zero _)⟩ (by (refine ⟨[0], rfl, (by (repeat (first | exact trivial | refine ⟨rfl, ?_⟩))), (by (repeat (first | exact trivial | refine ⟨Or.inl rfl, ?_⟩ | refine ⟨Or.inr rfl, ?_⟩))), by decide, (fun _ hi => absurd hi (Nat.not_lt_zero _))⟩)) ?_
          rintro ⟨k3, hk5, hk6, hs⟩
          dsimp only
          by_cases hlt : k3 < s.sh.length ∧ k3 ≤ m
          · obtain ⟨hlt, hlm⟩ := hlt
            have q1 := shs_gI hlt
            have hnx : (s.sh[k3]).2.length ≤ 40 → ∀ (j : Nat) (hj : j < k3 + 1) (hl : j < s.sh.length), (s.sh[j]).2.length ≤ 40 := fun h j hj hl => by
              by_cases e : j = k3
              · subst e; exact h
              · exact hs j (by omega) hl
            generalize s.sh[k3] = z at *
            repeat' (first|refine wS ?_|refine wB ?_|refine wK ?_|refine wR ?_|(refine wC rfl (fun hb=>?_) (fun hb=>?_)<;>(((try simp only [nm] at hb);try (exfalso;omega))))|(refine rg 12 ?_;(all_goals (refine mV ?_;refine fV T ?_;refine lV T ?_;refine vV (by exact fs_lenRow T rfl rfl) ?_;refine vV (by exact fs_lss rfl rfl) ?_;refine mV ?_));(all_goals (refine vc_split rfl rfl (fun hb=>?_) (fun hb=>?_)<;>((rw [hb];(try simp only [nm] at hb);try ((exfalso;omega);done)))));(all_goals (refine gT ?_;(refine mV ?_);refine gT ?_;(refine mV ?_);refine gT ?_;(refine vV (by exact fs_leq rfl rfl) ?_)));(all_goals (refine pV ?_)))|(refine rg 14 ?_;refine fV T ?_;refine lV T ?_;refine mV ?_;refine vV (by exact fs_indexRowE T rfl rfl rfl rfl rfl (by omega) (shs_len _) q1) ?_;refine fV T ?_;refine lV T ?_;refine vV (by exact fs_lenS strT rfl) ?_;refine vV (by exact fs_gtr rfl rfl) ?_)|(refine rg 15 ?_;refine aV ?_)|(refine rg 13 ?_;refine mV ?_;refine vV (by exact fs_addr rfl rfl (by omega) (by omega)) ?_;refine aV ?_)|refine nZ ?_)
            all_goals first | (exfalso; omega) | exact ⟨.b false, [], ⟨rfl, false, rfl, fun h => Bool.noConfusion h⟩, ret_plain (.inl rfl) rfl rfl⟩ | exact ⟨⟨k3 + 1, by omega, by omega, hnx (by omega)⟩, by dsimp only; omega, by (refine ⟨[0], rfl, (by (repeat (first | exact trivial | refine ⟨rfl, ?_⟩))), (by (repeat (first | exact trivial | refine ⟨Or.inl rfl, ?_⟩ | refine ⟨Or.inr rfl, ?_⟩))), by decide, (fun _ hi => absurd hi (Nat.not_lt_zero _))⟩)⟩
          · skip
            by_cases hF : FewP s n m
            · have e : (decide ((s.fl.k.length : Int) ≤ n) && decide ((s.fl.o.length : Int) ≤ n)) = true := by have := hF.kl; have := hF.ol; simp; omega
              rw [e] at cF
              have f1 := hF.zl
              have f2 := hF.al
              have f3 := hF.sl
              have f4 := hF.rl
              repeat' (first|refine wS ?_|refine wR ?_|refine wE ?_|refine wU ?_|(refine rg 12 ?_;(all_goals (refine mV ?_;refine fV T ?_;refine lV T ?_;(refine qV T ?_);refine vV (by exact fs_lss rfl rfl) ?_;refine mV ?_));(all_goals (refine vc_split rfl rfl (fun hb=>?_) (fun hb=>?_)<;>((rw [hb];(try simp only [nm] at hb);try ((exfalso;omega);done)))));(all_goals (iterate 3 refine gF ?_));(all_goals (refine pV ?_)))|(refine rg 16 ?_;(all_goals (refine fV T ?_;refine lV T ?_;refine mV ?_;refine vV (by exact kC (cF)) ?_;refine mV ?_));(all_goals (refine gK ?_));(all_goals (refine gT ?_;(refine fV T ?_);refine gT ?_;(refine lV T ?_);refine gT ?_;(refine qV T ?_);refine gT ?_;(refine mV ?_);refine gT ?_;(refine vV (by exact fs_leqT rfl rfl (by omega)) ?_)));(all_goals ((refine pV ?_);refine mV ?_));(all_goals (refine gK ?_));(all_goals (refine gT ?_;(refine fV T ?_);refine gT ?_;(refine lV T ?_);refine gT ?_;(refine qV T ?_);refine gT ?_;(refine mV ?_);refine gT ?_;(refine vV (by exact fs_leqT rfl rfl (by omega)) ?_)));(all_goals ((refine pV ?_);refine mV ?_));(all_goals (refine gK ?_));(all_goals (refine gT ?_;(refine fV T ?_);refine gT ?_;(refine lV T ?_);refine gT ?_;(refine qV T ?_);refine gT ?_;(refine mV ?_);refine gT ?_;(refine vV (by exact fs_leqT rfl rfl (by omega)) ?_)));(all_goals ((refine pV ?_);refine mV ?_));(all_goals (refine gK ?_));(all_goals (refine gT ?_;(refine fV T ?_);refine gT ?_;(refine lV T ?_);refine gT ?_;(refine qV T ?_);refine gT ?_;(refine mV ?_);refine gT ?_;(refine vV (by exact fs_leqT rfl rfl (by omega)) ?_)));(all_goals ((refine pV ?_);refine aV ?_)))|refine nZ ?_)
              all_goals first | (exfalso; omega) | exact ⟨.b true, [], ⟨rfl, true, rfl, fun _ => hF⟩, ret_plain (.inl rfl) rfl rfl⟩
            · generalize hgf : (decide ((s.fl.k.length : Int) ≤ n) && decide ((s.fl.o.length : Int) ≤ n)) = y at *
              have hno : y = true → (s.zn.length : Int) ≤ m → (s.ap.length : Int) ≤ m → (s.sh.length : Int) ≤ m → (s.rb.length : Int) ≤ m → False := fun e a1 a2 a3 a4 => hF (by
                subst e
                simp only [Bool.and_eq_true, decide_eq_true_eq] at hgf
                refine ⟨by omega, by omega, by omega, by omega, by omega, by omega, fun z hzm => ?_, fun z hzm => ?_, fun z hzm => ?_⟩
                · obtain ⟨j, hj, rfl⟩ := List.mem_iff_getElem.1 hzm
                  exact hz j (by omega) hj
                · obtain ⟨j, hj, rfl⟩ := List.mem_iff_getElem.1 hzm
                  exact ha j (by omega) hj
                · obtain ⟨j, hj, rfl⟩ := List.mem_iff_getElem.1 hzm
                  exact hs j (by omega) hj)
              cases y with
              | false =>
                repeat' (first|refine wS ?_|refine wR ?_|refine wE ?_|refine wU ?_|(refine wC rfl (fun hb=>?_) (fun hb=>?_)<;>(((try simp only [nm] at hb);try (exfalso;omega))))|(refine rg 12 ?_;(all_goals (refine mV ?_;refine fV T ?_;refine lV T ?_;(refine qV T ?_);refine vV (by exact fs_lss rfl rfl) ?_;refine mV ?_));(all_goals (refine vc_split rfl rfl (fun hb=>?_) (fun hb=>?_)<;>((rw [hb];(try simp only [nm] at hb);try ((exfalso;omega);done)))));(all_goals first|(refine gT ?_;(refine mV ?_);refine gT ?_;(refine mV ?_);refine gT ?_;(refine vV (by exact fs_leq rfl rfl) ?_))|(iterate 3 refine gF ?_));(all_goals (refine pV ?_)))|(refine rg 16 ?_;(all_goals (refine fV T ?_;refine lV T ?_;refine mV ?_;refine vV (by exact kC (cF)) ?_;refine mV ?_));(all_goals (refine gK ?_));(all_goals (iterate 5 refine gF ?_));(all_goals ((refine pV ?_);refine mV ?_));(all_goals (refine gK ?_));(all_goals (iterate 5 refine gF ?_));(all_goals ((refine pV ?_);refine mV ?_));(all_goals (refine gK ?_));(all_goals (iterate 5 refine gF ?_));(all_goals ((refine pV ?_);refine mV ?_));(all_goals (refine gK ?_));(all_goals (iterate 5 refine gF ?_));(all_goals ((refine pV ?_);refine aV ?_)))|refine nZ ?_)
                all_goals first | (exfalso; omega) | exact ⟨.b false, [], ⟨rfl, false, rfl, fun h => Bool.noConfusion h⟩, ret_plain (.inl rfl) rfl rfl⟩
              | true =>
                have hno := hno rfl
                repeat' (first|refine wS ?_|refine wR ?_|refine wE ?_|refine wU ?_|(refine wC rfl (fun hb=>?_) (fun hb=>?_)<;>(((try simp only [nm] at hb);try (exfalso;omega))))|(refine rg 12 ?_;(all_goals (refine mV ?_;refine fV T ?_;refine lV T ?_;(refine qV T ?_);refine vV (by exact fs_lss rfl rfl) ?_;refine mV ?_));(all_goals (refine vc_split rfl rfl (fun hb=>?_) (fun hb=>?_)<;>((rw [hb];(try simp only [nm] at hb);try ((exfalso;omega);done)))));(all_goals first|(refine gT ?_;(refine mV ?_);refine gT ?_;(refine mV ?_);refine gT ?_;(refine vV (by exact fs_leq rfl rfl) ?_))|(iterate 3 refine gF ?_));(all_goals (refine pV ?_)))|(refine rg 16 ?_;(all_goals (refine fV T ?_;refine lV T ?_;refine mV ?_;refine vV (by exact kC (cF)) ?_;refine mV ?_));(all_goals (refine gK ?_));(all_goals (refine gT ?_;(refine fV T ?_);refine gT ?_;(refine lV T ?_);refine gT ?_;(refine qV T ?_);refine gT ?_;(refine mV ?_);refine gT ?_;(refine vV (by exact fs_leq rfl rfl) ?_)));(all_goals ((refine pV ?_);refine mV ?_));(all_goals (refine vc_split rfl rfl (fun hb=>?_) (fun hb=>?_)<;>((rw [hb];(try simp only [nm] at hb);try ((exfalso;omega);done)))));(all_goals first|(refine gT ?_;(refine fV T ?_);refine gT ?_;(refine lV T ?_);refine gT ?_;(refine qV T ?_);refine gT ?_;(refine mV ?_);refine gT ?_;(refine vV (by exact fs_leq rfl rfl) ?_))|(iterate 5 refine gF ?_));(all_goals ((refine pV ?_);refine mV ?_));(all_goals first|(refine gK ?_)|(refine vc_split rfl rfl (fun hb=>?_) (fun hb=>?_)<;>((rw [hb];(try simp only [nm] at hb);try ((exfalso;omega);done)))));(all_goals first|(refine gT ?_;(refine fV T ?_);refine gT ?_;(refine lV T ?_);refine gT ?_;(refine qV T ?_);refine gT ?_;(refine mV ?_);refine gT ?_;(refine vV (by exact fs_leq rfl rfl) ?_))|(iterate 5 refine gF ?_));(all_goals ((refine pV ?_);refine mV ?_));(all_goals first|(refine gK ?_)|(refine vc_split rfl rfl (fun hb=>?_) (fun hb=>?_)<;>((rw [hb];(try simp only [nm] at hb);try ((exfalso;omega);done)))));(all_goals first|(refine gT ?_;(refine fV T ?_);refine gT ?_;(refine lV T ?_);refine gT ?_;(refine qV T ?_);refine gT ?_;(refine mV ?_);refine gT ?_;(refine vV (by exact fs_leq rfl rfl) ?_))|(iterate 5 refine gF ?_));(all_goals ((refine pV ?_);refine aV ?_)))|refine nZ ?_)
                all_goals first | (exfalso; omega) | exact ⟨.b false, [], ⟨rfl, false, rfl, fun h => Bool.noConfusion h⟩, ret_plain (.inl rfl) rfl rfl⟩ | (exfalso; exact hno (by omega) (by omega) (by omega) (by omega)) | exact ⟨_, _, ⟨rfl, _, rfl, fun h => (hno (by omega) (by omega) (by omega) (by have := of_decide_eq_true h; omega)).elim⟩, ret_plain (.inl rfl) rfl rfl⟩
end Go.Proofs.YtjpcpbbkelgkeaaGreat
namespace Go.Proofs.YtjpcpbbkelgkeaaGreat
open Go Go.Ab Go.Fl Go.Re Go.Ln Go.MapKept
attribute [local irreducible] VC AW FStep ACall PCall AStep
set_option maxHeartbeats 4000000
theorem same_c (a b : List Int) (ha : a.length ≤ 9223372036854775807) : ACall Tryz.prog 21 [.rowE (ints a) 1, .rowE (ints b) 1] [] (.b (decide (a = b))) [] := by
  have hal : (ints a).length = a.length := by simp
  have hbl : (ints b).length = b.length := by simp
  by_cases hl : a.length = b.length
  · refine acall T Tryz.func21 rfl rfl rfl rfl ?_
    repeat' (first|refine wS ?_|refine wB ?_|refine wK ?_|(refine wC rfl (fun hb=>?_) (fun hb=>?_)<;>(((try simp only [nm] at hb);try (exfalso;omega))))|(refine rg 0 ?_;refine aV ?_)|(refine rg 1 ?_;refine mV ?_;(refine qV T ?_);refine mV ?_;(refine qV T ?_);refine vV (by exact fs_neq rfl rfl) ?_)|(refine rg 3 ?_;refine aV ?_)|refine nZ ?_)
    all_goals try (exfalso; omega)
    refine aw_loop (X := {i : Nat // i ≤ a.length ∧ a.take i = b.take i}) (fun i => [(0, .rowE (ints a) 1), (1, .rowE (ints b) 1), (5, .i i.1)]) (fun _ => []) (fun i => a.length - i.1) ⟨0, by omega, rfl⟩ (by (refine ⟨[], rfl, ?_, trivial, List.nodup_nil, fun _ h => absurd h (Nat.not_lt_zero _)⟩; (repeat (first | exact trivial | refine ⟨rfl, ?_⟩)))) ?_
    rintro ⟨i, hi, hg⟩
    dsimp only
    by_cases hlt : i < a.length
    · have q1 := ints_get (l := a) (k := i) hlt
      have q2 := ints_get (l := b) (k := i) (by omega)
      by_cases e : a[i] = b[i]
      · repeat' (first|refine wS ?_|refine wB ?_|refine wK ?_|(refine wC rfl (fun hb => ?_) (fun hb => ?_) <;> (((try simp only [nm] at hb); try (exfalso; omega))))|(((refine rg 4 ?_)); (all_goals (refine mV ?_; refine mV ?_; (refine qV T ?_); refine vV (by exact fs_lss rfl rfl) ?_)))|(((refine aw_draw2k (id := 6) 26 [[], [], [0, 1], [0, 1, 2], [], [], [4, 5], [4, 5, 6], [0, 1, 2, 3, 4, 5, 6, 7]] [17, 18, 19, 20, 21, 22, 23, 24, 25] [[], [17], [], [], [17, 18, 19, 20], [17, 18, 19, 20, 21], [17, 18, 19, 20], [17, 18, 19, 20], []] mixedP rfl (by decide +kernel) ?_)); (all_goals (refine dV rfl (by exact fs_move rfl) ?_)); (all_goals (refine dV rfl (by exact fs_move rfl) ?_)); (all_goals (refine dV rfl (by exact fs_indexRowE T rfl rfl rfl rfl rfl (by omega) (ints_len a) q1) ?_)); (all_goals (refine dV rfl (by exact fs_load T rfl rfl rfl rfl) ?_)); (all_goals (refine dV rfl (by exact fs_move rfl) ?_)); (all_goals (refine dV rfl (by exact fs_move rfl) ?_)); (all_goals (refine dV rfl (by exact fs_indexRowE T rfl rfl rfl rfl rfl (by omega) (ints_len b) q2) ?_)); (all_goals (refine dV rfl (by exact fs_load T rfl rfl rfl rfl) ?_)); (all_goals (refine dV rfl (by exact fs_neq rfl rfl) ?_)); (all_goals (refine dw_fin rfl rfl (by ((dsimp only [ln1, ln2, List.append_nil, ln4, ln5, ln6, ln7, ln8, ln9, putAt, putd, allObjs, argEnv, un_v, un_ptr, un_ep, un_pr, un_sl, un_mp, un_row, un_agg, un_tup, un_clo, Nat.zero_add, lnb, Nat.reduceAdd, lnc, lnd]; done))) ?_)))|(((refine rg 5 ?_)); (all_goals (refine mV ?_; refine vV (by exact fs_addr rfl rfl (by omega) (by omega)) ?_; refine aV ?_)))|(refine vc_nilp (by ((dsimp only [ln1, ln2, List.append_nil, ln4, ln5, ln6, ln7, ln8, ln9, putAt, putd, allObjs, argEnv, un_v, un_ptr, un_ep, un_pr, un_sl, un_mp, un_row, un_agg, un_tup, un_clo, Nat.zero_add, lnb, Nat.reduceAdd, lnc, lnd]; done))) ?_))
        all_goals try (exfalso; omega)
        refine ⟨⟨i + 1, hlt, ?_⟩, by dsimp only; omega, by (refine ⟨[], rfl, ?_, trivial, List.nodup_nil, fun _ h => absurd h (Nat.not_lt_zero _)⟩; (repeat (first | exact trivial | refine ⟨rfl, ?_⟩)))⟩
        rw [List.take_succ_eq_append_getElem hlt, List.take_succ_eq_append_getElem (by omega), hg, e]
      · rw [show decide (a = b) = false from decide_eq_false (fun h => e (by subst h; rfl))]
        repeat' (first|refine wS ?_|refine wB ?_|refine wK ?_|refine wR ?_|(refine wC rfl (fun hb=>?_) (fun hb=>?_)<;>(((try simp only [nm] at hb);try (exfalso;omega))))|(refine rg 4 ?_;refine mV ?_;refine mV ?_;(refine qV T ?_);refine vV (by exact fs_lss rfl rfl) ?_)|(((refine aw_draw2k (id := 6) 26 [[],[],[0,1],[0,1,2],[],[],[4,5],[4,5,6],[0,1,2,3,4,5,6,7]] [17,18,19,20,21,22,23,24,25] [[],[17],[],[],[17,18,19,20],[17,18,19,20,21],[17,18,19,20],[17,18,19,20],[]] mixedP rfl (by decide +kernel) ?_));(all_goals (refine dV rfl (by exact fs_move rfl) ?_));(all_goals (refine dV rfl (by exact fs_move rfl) ?_));(all_goals (refine dV rfl (by exact fs_indexRowE T rfl rfl rfl rfl rfl (by omega) (ints_len a) q1) ?_));(all_goals (refine dV rfl (by exact fs_load T rfl rfl rfl rfl) ?_));(all_goals (refine dV rfl (by exact fs_move rfl) ?_));(all_goals (refine dV rfl (by exact fs_move rfl) ?_));(all_goals (refine dV rfl (by exact fs_indexRowE T rfl rfl rfl rfl rfl (by omega) (ints_len b) q2) ?_));(all_goals (refine dV rfl (by exact fs_load T rfl rfl rfl rfl) ?_));(all_goals (refine dV rfl (by exact fs_neq rfl rfl) ?_));(all_goals (refine dw_fin rfl rfl (by ((dsimp only [ln1,ln2,List.append_nil,ln4,ln5,ln6,ln7,ln8,ln9,putAt,putd,allObjs,argEnv,un_v,un_ptr,un_ep,un_pr,un_sl,un_mp,un_row,un_agg,un_tup,un_clo,Nat.zero_add,lnb,Nat.reduceAdd,lnc,lnd];done))) ?_)))|(refine rg 7 ?_;refine aV ?_)|refine nZ ?_)
        all_goals first | (exfalso; omega) | exact ret_plain (.inl rfl) rfl rfl
    · rw [List.take_of_length_le (by omega), List.take_of_length_le (by omega)] at hg
      rw [show decide (a = b) = true from decide_eq_true hg]
      repeat' (first|refine wS ?_|refine wR ?_|refine wE ?_|(refine wC rfl (fun hb=>?_) (fun hb=>?_)<;>(((try simp only [nm] at hb);try (exfalso;omega))))|(refine rg 4 ?_;refine mV ?_;refine mV ?_;(refine qV T ?_);refine vV (by exact fs_lss rfl rfl) ?_)|(refine rg 8 ?_;refine aV ?_)|refine nZ ?_)
      all_goals first | (exfalso; omega) | exact ret_plain (.inl rfl) rfl rfl
  · rw [show decide (a = b) = false from decide_eq_false (fun h => hl (by rw [h]))]
    refine acall T Tryz.func21 rfl rfl rfl rfl ?_
    repeat' (first|refine wS ?_|refine wR ?_|(refine wC rfl (fun hb=>?_) (fun hb=>?_)<;>(((try simp only [nm] at hb);try (exfalso;omega))))|(refine rg 0 ?_;refine aV ?_)|(refine rg 1 ?_;refine mV ?_;(refine qV T ?_);refine mV ?_;(refine qV T ?_);refine vV (by exact fs_neq rfl rfl) ?_)|(refine rg 2 ?_;refine aV ?_)|refine nZ ?_)
    all_goals first | (exfalso; omega) | exact ret_plain (.inl rfl) rfl rfl
theorem sampleO_c : ACall Tryz.prog 24 [] [] (.agg [.i 5, .i 2, .i 1, .rowE (ints smF.k) 1, .sl 0 0 10 1, .nils, .nils, .nils, .nils]) [.arr (ints (List.replicate 10 15)) 1] := by
  refine acall T Tryz.func24 rfl rfl rfl rfl ?_
  repeat' (first|refine wS ?_|refine wB ?_|(refine rg 0 ?_;(all_goals (refine vc_n (by exact fs_alloc T rfl) rfl ?_)))|(refine rg 1 ?_;(all_goals (refine vc_n (by exact fs_buildSlice T rfl rfl (by decide) (by decide) rfl rfl rfl) rfl ?_;refine vc_frz 3 rfl rfl rfl rfl ?_));(all_goals (refine vV (by exact fs_build T rfl rfl rfl rfl) ?_));(all_goals (refine vc_n (by exact fs_alloc T rfl) rfl ?_));(all_goals (refine vc_store T rfl rfl rfl rfl rfl rfl (by decide) rfl ?_)))|(refine rg 2 ?_;refine aV ?_)|refine nZ ?_)
  refine aw_ownC 2 4 1 rfl rfl (by decide) ?_
  refine aw_loop (X := {j : Nat // j ≤ 10}) (fun j => [(0, .ptr 0 0), (1, .ptr 1 0), (2, .i j.1)]) (fun j => [.cells [.i 0, .i 0, .i 0, .nils, .nils, .nils, .nils, .nils, .nils], .cells [.i 5, .i 2, .i 1, .rowE (ints smF.k) 1, .sl 2 0 j.1 1], .arr (ints (List.replicate j.1 15)) 1]) (fun j => 10 - j.1) ⟨0, by omega⟩ ⟨[0, 2, 3], rfl, (by (repeat (first | exact trivial | refine ⟨rfl, ?_⟩))), ⟨.inr rfl, .inr rfl, .inr rfl, trivial⟩, by decide, fun _ hi => absurd hi (Nat.not_lt_zero _)⟩ ?_
  rintro ⟨j, hj⟩
  dsimp only
  have hrl : (List.replicate j (15 : Int)).length = j := List.length_replicate
  by_cases hlt : j < 10
  · have hrs : List.replicate (j + 1) (15 : Int) = List.replicate j 15 ++ [15] := List.replicate_succ'
    generalize List.replicate j (15 : Int) = R at *
    repeat' (first|refine wS ?_|refine wB ?_|refine wK ?_|refine wT ?_|(refine rg 3 ?_;refine mV ?_;refine vV (by exact fs_lssT rfl rfl (by omega)) ?_)|(refine rg 5 ?_;refine fV T ?_;refine lV T ?_;refine vc_n (by exact fs_buildSlice T rfl rfl (by decide) (by decide) rfl rfl rfl) rfl ?_;refine vc_append T rfl rfl rfl rfl rfl rfl (by simp;omega) (Elems.whole rfl rfl) rfl (by simp;omega) (by simp;omega) rfl ?_;refine fV T ?_;refine vc_store T rfl rfl rfl rfl rfl rfl (by decide) rfl ?_)|(refine rg 4 ?_;refine mV ?_;refine vV (by exact fs_addr rfl rfl (by omega) (by omega)) ?_;refine aV ?_)|refine nZ ?_)
    all_goals exact ⟨⟨j + 1, hlt⟩, by dsimp only; omega, [0, 1, 4], rfl, (by (repeat (first | exact trivial | refine ⟨rfl, ?_⟩))), ⟨.inr rfl, .inr (by simp only [hrl]; rfl), .inr (sub_arr rfl (by dsimp only; rw [hrs, ← hrl]; exact ints_app) (ints_idf _)), trivial⟩, by decide, fun _ hi => absurd hi (Nat.not_lt_zero _)⟩
  · obtain rfl : j = 10 := by omega
    repeat' (first|refine wS ?_|refine wR ?_|refine wE ?_|refine wU ?_|(refine rg 3 ?_;refine mV ?_;refine vV (by exact fs_lssF rfl rfl (by omega)) ?_)|(refine rg 6 ?_;refine lV T ?_;refine vV (by exact fs_build T rfl rfl rfl rfl) ?_;refine vc_store T rfl rfl rfl rfl rfl rfl (by decide) rfl ?_)|refine nZ ?_)
    all_goals exact ⟨.inl rfl, [2], _, rfl, rfl, rfl, ⟨.inr (sub_arr rfl rfl (ints_idf _)), trivial⟩, by decide, fun _ hi => absurd hi (Nat.not_lt_zero _)⟩
theorem sample_c : ACall Tryz.prog 24 [] [] (.agg (sitA smS)) [] :=
  acall_view sampleO_c (.agg (.cons (.v _) (.cons (.v _) (.cons (.v _) (.cons (.row _ _ _) (.cons (view_ints rfl rfl) (.cons (.nils 5) (.cons (.nils 2) (.cons (.nils 2) (.cons (.nils 2) .nil))))))))))
theorem way_1 : LaneP (netP smS (walkP smF) 1) [1, 0] ∧ LaneP (netP smS (walkP smF) 1) [1, 2, 3, 4] := by
  rw [sm_walk]
  refine ⟨⟨by decide, [0], rfl, (by decide : exB smF 1 = false), (by decide : (0 : Int) ∈ stepP smF [0, 1, 2, 3, 4] 1), (by decide : exB smF 0 = true)⟩, ⟨by decide, [2, 3, 4], rfl, (by decide : exB smF 1 = false), (by decide : (2 : Int) ∈ stepP smF [0, 1, 2, 3, 4] 1), (by decide : exB smF 2 = false), (by decide : (3 : Int) ∈ stepP smF [0, 1, 2, 3, 4] 2), (by decide : exB smF 3 = false), (by decide : (4 : Int) ∈ stepP smF [0, 1, 2, 3, 4] 3), (by decide : exB smF 4 = true)⟩⟩
theorem way_2 : LaneP (netP smS (walkP smF) 2) [2, 1, 0] ∧ LaneP (netP smS (walkP smF) 2) [2, 3, 4] := by
  rw [sm_walk]
  refine ⟨⟨by decide, [1, 0], rfl, (by decide : exB smF 2 = false), (by decide : (1 : Int) ∈ stepP smF [0, 1, 2, 3, 4] 2), (by decide : exB smF 1 = false), (by decide : (0 : Int) ∈ stepP smF [0, 1, 2, 3, 4] 1), (by decide : exB smF 0 = true)⟩, ⟨by decide, [3, 4], rfl, (by decide : exB smF 2 = false), (by decide : (3 : Int) ∈ stepP smF [0, 1, 2, 3, 4] 2), (by decide : exB smF 3 = false), (by decide : (4 : Int) ∈ stepP smF [0, 1, 2, 3, 4] 3), (by decide : exB smF 4 = true)⟩⟩
theorem way_3 : LaneP (netP smS (walkP smF) 3) [3, 2, 1, 0] ∧ LaneP (netP smS (walkP smF) 3) [3, 4] := by
  rw [sm_walk]
  refine ⟨⟨by decide, [2, 1, 0], rfl, (by decide : exB smF 3 = false), (by decide : (2 : Int) ∈ stepP smF [0, 1, 2, 3, 4] 3), (by decide : exB smF 2 = false), (by decide : (1 : Int) ∈ stepP smF [0, 1, 2, 3, 4] 2), (by decide : exB smF 1 = false), (by decide : (0 : Int) ∈ stepP smF [0, 1, 2, 3, 4] 1), (by decide : exB smF 0 = true)⟩, ⟨by decide, [4], rfl, (by decide : exB smF 3 = false), (by decide : (4 : Int) ∈ stepP smF [0, 1, 2, 3, 4] 3), (by decide : exB smF 4 = true)⟩⟩
theorem not_stuck {s : Sit} {c : Int} {l l' : List Int} (h1 : LaneP (netP s (walkP s.fl) c) l) (h2 : LaneP (netP s (walkP s.fl) c) l') (h : ∀ x, x ∈ l → x ∈ l' → x = c) : ¬ StuckP s c := by
  rintro (h3 | ⟨x, hx, h3⟩)
  · exact h3 _ h1
  · exact hx (h x (h3 _ h1) (h3 _ h2))
theorem sm_free : ∀ c, c ∈ kindC smF 4 → ¬ StuckP smS c := by
  intro c hc
  rw [sm_kind] at hc
  simp only [List.mem_cons, List.not_mem_nil, or_false] at hc
  rcases hc with rfl | rfl | rfl
  · exact not_stuck way_1.1 way_1.2 (by decide)
  · exact not_stuck way_2.1 way_2.2 (by decide)
  · exact not_stuck way_3.1 way_3.2 (by decide)
theorem sm_certs {L : List LaneT} (h1 : L.map (·.1) = kindC smF 4) (h2 : ∀ x, x ∈ L → PairOk smS x) : ∃ (a1 b1 a3 b3 A B : List Int), L = [(1, a1, b1), (2, A, B), (3, a3, b3)] ∧ ((A = [2, 1, 0] ∧ B = [2, 3, 4]) ∨ (A = [2, 3, 4] ∧ B = [2, 1, 0])) := by
  rw [sm_kind] at h1
  match L, h1, h2 with
  | [], h1, _ => simp at h1
  | [_], h1, _ => simp at h1
  | [_, _], h1, _ => simp at h1
  | _ :: _ :: _ :: _ :: _, h1, _ => simp at h1
  | [(c1, a1, b1), (c2, A, B), (c3, a3, b3)], h1, h2 =>
    simp only [List.map_cons, List.map_nil, List.cons.injEq, and_true] at h1
    obtain ⟨rfl, rfl, rfl⟩ := h1
    obtain ⟨p1, p2, p3⟩ := h2 (2, A, B) (by simp)
    dsimp only at p1 p2 p3
    refine ⟨a1, b1, a3, b3, A, B, rfl, ?_⟩
    rcases sm_lane p1 with rfl | rfl <;> rcases sm_lane p2 with rfl | rfl
    · exact absurd (p3 1 (by simp) (by simp)) (by decide)
    · exact .inl ⟨rfl, rfl⟩
    · exact .inr ⟨rfl, rfl⟩
    · exact absurd (p3 3 (by simp) (by simp)) (by decide)
theorem sm_len {L : List LaneT} (h2 : ∀ x, x ∈ L → PairOk smS x) : ∀ x, x ∈ L → x.2.1.length ≤ 1000000 ∧ x.2.2.length ≤ 1000000 := fun x hx => by
  obtain ⟨p1, p2, _⟩ := h2 x hx
  have q1 := lane_len p1
  have q2 := lane_len p2
  have e : (walkP smS.fl).length = 5 := by show (walkP smF).length = 5; rw [sm_walk]; rfl
  omega
theorem smallL_c : ACall Tryz.prog 6 [] [] (.b true) [] := by
  have cM := make_p smS sm_fine
  have cO := off_c smS sm_fine 2 (by unfold rngI; omega)
  rw [show offR smS.fl 2 = [2, 7] from sm_off] at cO
  have cE := same_c [2, 7] [2, 7] (by decide)
  have c00 := same_c [2, 1, 0] [2, 1, 0] (by decide)
  have c01 := same_c [2, 1, 0] [2, 3, 4] (by decide)
  have c10 := same_c [2, 3, 4] [2, 1, 0] (by decide)
  have c11 := same_c [2, 3, 4] [2, 3, 4] (by decide)
  rw [decide_eq_true rfl] at c00 c11 cE
  rw [decide_eq_false (by decide)] at c01 c10
  refine PCall.toA (Φ := fun r o => r = .b true ∧ o = []) ?_ (fun _ _ h => h)
  refine pcall T Tryz.func6 rfl rfl rfl rfl ?_
  repeat' (first|refine wS ?_|(refine rg 0 ?_;refine aV ?_)|(refine rg 1 ?_;refine vV (by exact kC (sample_c)) ?_;refine vc_n (by exact fs_alloc T rfl) rfl ?_;refine vc_store T rfl rfl rfl rfl rfl rfl (by decide) rfl ?_)|(refine rg 2 ?_;(all_goals (refine lV T ?_));(all_goals (refine vc_pcallw [] rfl rfl cM rfl rfl (by decide) trivial (by simp) rfl ?_;rintro _ _ ⟨rfl,(⟨L,h1,h2⟩|⟨L,c,post,h1,h2,h3⟩)⟩));(all_goals (refine mV ?_;refine xV ?_;refine xV ?_;refine xV ?_;refine vc_n (by exact fs_alloc T rfl) rfl ?_;refine vc_store T rfl rfl rfl rfl rfl rfl (by decide) rfl ?_;refine aV ?_;refine aV ?_)))|refine nZ ?_)
  · have hlen := sm_len h2
    have hb : boundP smS.fl = 1 := sm_bound
    rw [hb]
    obtain ⟨a1, b1, a3, b3, A, B, rfl, hAB⟩ := sm_certs h1 h2
    have q1 : (lanesA [(1, a1, b1), (2, A, B), (3, a3, b3)])[(1 : Int).toNat]? = some (laneA (2, A, B)) := rfl
    have cR := request_c [(1, a1, b1), (2, A, B), (3, a3, b3)] 1 2 [0, -1, 0, 1, 0, 0, 0, 0, 0, 0] (by simp) hlen
    rcases hAB with ⟨rfl, rfl⟩ | ⟨rfl, rfl⟩
    · rw [show reqP [(1, a1, b1), (2, [2, 1, 0], [2, 3, 4]), (3, a3, b3)] 1 2 [0, -1, 0, 1, 0, 0, 0, 0, 0, 0] = (1, 1, 0) from rfl] at cR
      repeat' (first|refine wS ?_|refine wK ?_|refine wU ?_|(refine rg 3 ?_;(all_goals (refine mV ?_;refine vV (by exact fs_neq rfl rfl) ?_;refine mV ?_));(all_goals (refine gK ?_));(all_goals (refine gT ?_;(refine mV ?_);refine gT ?_;(refine vV (by exact fs_neq rfl rfl) ?_)));(all_goals ((refine pV ?_);refine mV ?_));(all_goals (refine gK ?_));(all_goals (refine gT ?_;(refine fV T ?_);refine gT ?_;(refine lV T ?_);refine gT ?_;(refine qV T ?_);refine gT ?_;(refine vV (by exact fs_neq rfl rfl) ?_)));(all_goals ((refine pV ?_);refine mV ?_));(all_goals (refine gK ?_));(all_goals (refine gT ?_;(refine fV T ?_);refine gT ?_;(refine lV T ?_);refine gT ?_;(refine vV (by exact fs_neq rfl rfl) ?_)));(all_goals (refine pV ?_)))|(refine rg 5 ?_;refine fV T ?_;refine lV T ?_;refine vV (by exact fs_indexRowE T rfl rfl rfl rfl rfl (by decide) (lanes_len _) q1) ?_;refine lV T ?_;refine vc_n (by exact fs_alloc T rfl) rfl ?_;refine vc_store T rfl rfl rfl rfl rfl rfl (by decide) rfl ?_)|refine nZ ?_)
      refine aw_keep [(1, .ptr 0 0), (2, .ptr 1 0), (5, .ptr 2 0)] [.cells (sitA smS), .cells (certA [(1, a1, b1), (2, [2, 1, 0], [2, 3, 4]), (3, a3, b3)] 1), .cells (laneA (2, [2, 1, 0], [2, 3, 4]))] ⟨[0, 1, 2], rfl, (by (repeat (first | exact trivial | refine ⟨rfl, ?_⟩))), ⟨.inr rfl, .inr rfl, .inr rfl, trivial⟩, by decide, fun _ hi => absurd hi (Nat.not_lt_zero _)⟩ ?_
      repeat' (first|refine wS ?_|(refine rg 6 ?_;(all_goals (refine fV T ?_;refine lV T ?_));(all_goals (refine vc_n (by exact fs_buildSlice T rfl rfl (by decide) (by decide) rfl rfl rfl) rfl ?_;refine vc_frz 42 rfl rfl rfl rfl ?_));(all_goals (refine vV (by exact kC (c00)) ?_;refine mV ?_));(all_goals (refine gK ?_));(all_goals (refine gT ?_;(refine fV T ?_);refine gT ?_;(refine lV T ?_);refine gT ?_;((refine vc_n (by exact fs_buildSlice T rfl rfl (by decide) (by decide) rfl rfl rfl) rfl ?_;refine vc_frz 47 rfl rfl rfl rfl ?_));refine gT ?_;(refine vV (by exact kC (c11)) ?_)));(all_goals ((refine pV ?_);refine aV ?_)))|(refine rg 7 ?_;(all_goals (refine fV T ?_;refine lV T ?_));(all_goals (refine vc_n (by exact fs_buildSlice T rfl rfl (by decide) (by decide) rfl rfl rfl) rfl ?_;refine vc_frz 52 rfl rfl rfl rfl ?_));(all_goals (refine vV (by exact kC (c10)) ?_;refine mV ?_));(all_goals (refine gK ?_));(all_goals (iterate 4 refine gF ?_));(all_goals ((refine pV ?_);refine aV ?_)))|refine nZ ?_)
      refine aw_keep [(1, .ptr 0 0), (2, .ptr 1 0), (6, .b true), (7, .b false)] [.cells (sitA smS), .cells (certA [(1, a1, b1), (2, [2, 1, 0], [2, 3, 4]), (3, a3, b3)] 1)] ⟨[0, 1], rfl, (by (repeat (first | exact trivial | refine ⟨rfl, ?_⟩))), ⟨.inr rfl, .inr rfl, trivial⟩, by decide, fun _ hi => absurd hi (Nat.not_lt_zero _)⟩ ?_
      repeat' (first|refine wS ?_|(refine rg 8 ?_;(all_goals (refine vc_n (by exact fs_buildSlice T rfl rfl (by decide) (by decide) rfl rfl rfl) rfl ?_;refine vc_frz 60 rfl rfl rfl rfl ?_));(all_goals (refine aV ?_)))|(refine rg 9 ?_;refine lV T ?_;refine mV ?_;refine vV (by exact kC (cR)) ?_;refine mV ?_;refine xV ?_;refine xV ?_;refine xV ?_;refine aV ?_;refine aV ?_;refine aV ?_)|refine nZ ?_)
      refine aw_keep [(1, .ptr 0 0), (6, .b true), (7, .b false), (9, .i 1), (10, .i 1), (11, .i 0)] [.cells (sitA smS)] ⟨[0], rfl, (by (repeat (first | exact trivial | refine ⟨rfl, ?_⟩))), ⟨.inr rfl, trivial⟩, by decide, fun _ hi => absurd hi (Nat.not_lt_zero _)⟩ ?_
      repeat' (first|refine wR ?_|(refine rg 10 ?_;(all_goals (refine mV ?_;refine mV ?_));(all_goals (refine gK ?_));(all_goals (refine gT ?_;(refine mV ?_);refine gT ?_;(refine vV (by exact fs_eql rfl rfl) ?_)));(all_goals ((refine pV ?_);refine mV ?_));(all_goals (refine gK ?_));(all_goals (iterate 2 refine gF ?_));(all_goals (refine gK ?_));(all_goals (iterate 2 refine gU ?_));(all_goals (refine gF ?_));(all_goals ((refine pV ?_);refine mV ?_));(all_goals (refine gK ?_));(all_goals (refine gT ?_;(refine mV ?_);refine gT ?_;(refine vV (by exact fs_eql rfl rfl) ?_)));(all_goals ((refine pV ?_);refine mV ?_));(all_goals (refine gK ?_));(all_goals (refine gT ?_;(refine mV ?_);refine gT ?_;(refine vV (by exact fs_eql rfl rfl) ?_)));(all_goals ((refine pV ?_);refine mV ?_));(all_goals (refine gK ?_));(all_goals (refine gT ?_;(refine lV T ?_);refine gT ?_;(refine vV (by exact kC (cO)) ?_);refine gT ?_;((refine vc_n (by exact fs_buildSlice T rfl rfl (by decide) (by decide) rfl rfl rfl) rfl ?_;refine vc_frz 91 rfl rfl rfl rfl ?_));refine gT ?_;(refine vV (by exact kC (cE)) ?_)));(all_goals ((refine pV ?_);refine aV ?_)))|refine nZ ?_)
      all_goals exact ⟨_, _, ⟨rfl, rfl⟩, ret_plain (.inl rfl) rfl rfl⟩
    · rw [show reqP [(1, a1, b1), (2, [2, 3, 4], [2, 1, 0]), (3, a3, b3)] 1 2 [0, -1, 0, 1, 0, 0, 0, 0, 0, 0] = (0, 1, 0) from rfl] at cR
      repeat' (first|refine wS ?_|refine wK ?_|refine wU ?_|(refine rg 3 ?_;(all_goals (refine mV ?_;refine vV (by exact fs_neq rfl rfl) ?_;refine mV ?_));(all_goals (refine gK ?_));(all_goals (refine gT ?_;(refine mV ?_);refine gT ?_;(refine vV (by exact fs_neq rfl rfl) ?_)));(all_goals ((refine pV ?_);refine mV ?_));(all_goals (refine gK ?_));(all_goals (refine gT ?_;(refine fV T ?_);refine gT ?_;(refine lV T ?_);refine gT ?_;(refine qV T ?_);refine gT ?_;(refine vV (by exact fs_neq rfl rfl) ?_)));(all_goals ((refine pV ?_);refine mV ?_));(all_goals (refine gK ?_));(all_goals (refine gT ?_;(refine fV T ?_);refine gT ?_;(refine lV T ?_);refine gT ?_;(refine vV (by exact fs_neq rfl rfl) ?_)));(all_goals (refine pV ?_)))|(refine rg 5 ?_;refine fV T ?_;refine lV T ?_;refine vV (by exact fs_indexRowE T rfl rfl rfl rfl rfl (by decide) (lanes_len _) q1) ?_;refine lV T ?_;refine vc_n (by exact fs_alloc T rfl) rfl ?_;refine vc_store T rfl rfl rfl rfl rfl rfl (by decide) rfl ?_)|refine nZ ?_)
      refine aw_keep [(1, .ptr 0 0), (2, .ptr 1 0), (5, .ptr 2 0)] [.cells (sitA smS), .cells (certA [(1, a1, b1), (2, [2, 3, 4], [2, 1, 0]), (3, a3, b3)] 1), .cells (laneA (2, [2, 3, 4], [2, 1, 0]))] ⟨[0, 1, 2], rfl, (by (repeat (first | exact trivial | refine ⟨rfl, ?_⟩))), ⟨.inr rfl, .inr rfl, .inr rfl, trivial⟩, by decide, fun _ hi => absurd hi (Nat.not_lt_zero _)⟩ ?_
      repeat' (first|refine wS ?_|(refine rg 6 ?_;(all_goals (refine fV T ?_;refine lV T ?_));(all_goals (refine vc_n (by exact fs_buildSlice T rfl rfl (by decide) (by decide) rfl rfl rfl) rfl ?_;refine vc_frz 42 rfl rfl rfl rfl ?_));(all_goals (refine vV (by exact kC (c10)) ?_;refine mV ?_));(all_goals (refine gK ?_));(all_goals (iterate 4 refine gF ?_));(all_goals ((refine pV ?_);refine aV ?_)))|(refine rg 7 ?_;(all_goals (refine fV T ?_;refine lV T ?_));(all_goals (refine vc_n (by exact fs_buildSlice T rfl rfl (by decide) (by decide) rfl rfl rfl) rfl ?_;refine vc_frz 52 rfl rfl rfl rfl ?_));(all_goals (refine vV (by exact kC (c00)) ?_;refine mV ?_));(all_goals (refine gK ?_));(all_goals (refine gT ?_;(refine fV T ?_);refine gT ?_;(refine lV T ?_);refine gT ?_;((refine vc_n (by exact fs_buildSlice T rfl rfl (by decide) (by decide) rfl rfl rfl) rfl ?_;refine vc_frz 57 rfl rfl rfl rfl ?_));refine gT ?_;(refine vV (by exact kC (c11)) ?_)));(all_goals ((refine pV ?_);refine aV ?_)))|refine nZ ?_)
      refine aw_keep [(1, .ptr 0 0), (2, .ptr 1 0), (6, .b false), (7, .b true)] [.cells (sitA smS), .cells (certA [(1, a1, b1), (2, [2, 3, 4], [2, 1, 0]), (3, a3, b3)] 1)] ⟨[0, 1], rfl, (by (repeat (first | exact trivial | refine ⟨rfl, ?_⟩))), ⟨.inr rfl, .inr rfl, trivial⟩, by decide, fun _ hi => absurd hi (Nat.not_lt_zero _)⟩ ?_
      repeat' (first|refine wS ?_|(refine rg 8 ?_;(all_goals (refine vc_n (by exact fs_buildSlice T rfl rfl (by decide) (by decide) rfl rfl rfl) rfl ?_;refine vc_frz 60 rfl rfl rfl rfl ?_));(all_goals (refine aV ?_)))|(refine rg 9 ?_;refine lV T ?_;refine mV ?_;refine vV (by exact kC (cR)) ?_;refine mV ?_;refine xV ?_;refine xV ?_;refine xV ?_;refine aV ?_;refine aV ?_;refine aV ?_)|refine nZ ?_)
      refine aw_keep [(1, .ptr 0 0), (6, .b false), (7, .b true), (9, .i 0), (10, .i 1), (11, .i 0)] [.cells (sitA smS)] ⟨[0], rfl, (by (repeat (first | exact trivial | refine ⟨rfl, ?_⟩))), ⟨.inr rfl, trivial⟩, by decide, fun _ hi => absurd hi (Nat.not_lt_zero _)⟩ ?_
      repeat' (first|refine wR ?_|(refine rg 10 ?_;(all_goals (refine mV ?_;refine mV ?_));(all_goals (refine gK ?_));(all_goals (iterate 2 refine gF ?_));(all_goals ((refine pV ?_);refine mV ?_));(all_goals (refine gK ?_));(all_goals (refine gT ?_;(refine mV ?_);refine gT ?_;(refine mV ?_)));(all_goals (refine gK ?_));(all_goals (refine gT ?_;(refine mV ?_);refine gT ?_;(refine vV (by exact fs_eql rfl rfl) ?_)));(all_goals (refine gT ?_;(refine pV ?_)));(all_goals ((refine pV ?_);refine mV ?_));(all_goals (refine gK ?_));(all_goals (refine gT ?_;(refine mV ?_);refine gT ?_;(refine vV (by exact fs_eql rfl rfl) ?_)));(all_goals ((refine pV ?_);refine mV ?_));(all_goals (refine gK ?_));(all_goals (refine gT ?_;(refine mV ?_);refine gT ?_;(refine vV (by exact fs_eql rfl rfl) ?_)));(all_goals ((refine pV ?_);refine mV ?_));(all_goals (refine gK ?_));(all_goals (refine gT ?_;(refine lV T ?_);refine gT ?_;(refine vV (by exact kC (cO)) ?_);refine gT ?_;((refine vc_n (by exact fs_buildSlice T rfl rfl (by decide) (by decide) rfl rfl rfl) rfl ?_;refine vc_frz 91 rfl rfl rfl rfl ?_));refine gT ?_;(refine vV (by exact kC (cE)) ?_)));(all_goals ((refine pV ?_);refine aV ?_)))|refine nZ ?_)
      all_goals exact ⟨_, _, ⟨rfl, rfl⟩, ret_plain (.inl rfl) rfl rfl⟩
  · exact absurd h3 (sm_free c (by rw [show smS.fl = smF from rfl] at h1; rw [← h1]; simp))
end Go.Proofs.YtjpcpbbkelgkeaaGreat
namespace Go.Proofs.YtjpcpbbkelgkeaaGreat
open Go Go.Ab Go.Fl Go.Re Go.Ln Go.MapKept
attribute [local irreducible] VC AW FStep ACall PCall AStep
set_option maxHeartbeats 4000000
theorem rsize_c {f : Flo} (g : Fine f) : ACall Tryz.prog 116 [floorA f] [] (.i f.size) [] := by
  have hb := g.bounds
  refine acall T Tryz.func116 rfl rfl rfl rfl ?_
  repeat' (first|refine wS ?_|refine wR ?_|(refine rg 0 ?_;refine vc_n (by exact fs_box rfl rfl) rfl ?_;refine aV ?_)|(refine rg 1 ?_;refine fV T ?_;refine lV T ?_;refine fV T ?_;refine lV T ?_;refine vV (by exact fs_mulr rfl rfl (by omega) (by omega)) ?_;refine fV T ?_;refine lV T ?_;refine vV (by exact fs_mulr rfl rfl (by omega) (by omega)) ?_;refine aV ?_)|refine nZ ?_)
  exact ret_plain (.inl rfl) rfl rfl
theorem ris_c {f : Flo} (g : Fine f) (c : Int) : ACall Tryz.prog 84 [floorA f, .i c] [] (.b (decide (0 ≤ c) && decide (c < f.size))) [] := by
  have hs := rsize_c g
  refine acall T Tryz.func84 rfl rfl rfl rfl ?_
  repeat' (first|refine wS ?_|refine wR ?_|(refine rg 0 ?_;refine vc_n (by exact fs_box rfl rfl) rfl ?_;refine aV ?_)|(refine rg 1 ?_;(all_goals (refine mV ?_;refine vV (by exact fs_geq rfl rfl) ?_;refine mV ?_));(all_goals (refine vc_split rfl rfl (fun hb=>?_) (fun hb=>?_)<;>((rw [hb];(try simp only [nm] at hb);try ((exfalso;omega);done)))));(all_goals first|(refine gT ?_;(refine mV ?_);refine gT ?_;(refine lV T ?_);refine gT ?_;(refine vV (by exact kC (hs)) ?_);refine gT ?_;(refine vV (by exact fs_lss rfl rfl) ?_))|(iterate 4 refine gF ?_));(all_goals ((refine pV ?_);refine aV ?_)))|refine nZ ?_)
  all_goals
    refine ret_plain (.inl rfl) rfl (b_ret ?_)
    simp [*]
theorem few_more {s : Sit} (h : FewP s 40 20) : FewP s 300 1000 :=
  ⟨Nat.le_trans h.kl (by decide), Nat.le_trans h.ol (by decide), Nat.le_trans h.zl (by decide), Nat.le_trans h.al (by decide), Nat.le_trans h.sl (by decide), Nat.le_trans h.rl (by decide), fun z hz => ⟨Nat.le_trans (h.z z hz).1 (by decide), (h.z z hz).2⟩, h.a, h.s⟩
structure FitP (s : Sit) : Prop where
  few : FewP s 40 20
  ok : SvOk s
theorem FitP.fine {s : Sit} (h : FitP s) : Fine s.fl := right_fine h.ok.fl (by have := h.few.kl; omega)
theorem fits_p (s : Sit) : PCall Tryz.prog 7 [.agg (sitA s)] [] (okB (FitP s)) := by
  have cF := few11_p s 40 20 (by decide) (by decide)
  refine pcall T Tryz.func7 rfl rfl rfl rfl ?_
  repeat' (first|refine wS ?_|refine wR ?_|(refine rg 0 ?_;refine vc_n (by exact fs_box rfl rfl) rfl ?_;refine aV ?_)|(refine rg 1 ?_;(all_goals (refine lV T ?_));(all_goals (refine vc_pcallb rfl rfl (cF) (.cons (view_self _ rfl) (.cons (.v _) (.cons (.v _) .nil))) (by rintro _ ⟨_,rfl,_⟩;rfl) rfl ?_;rintro _ ⟨b1,rfl,hF⟩;dsimp only [putd];cases b1));(all_goals (refine mV ?_));(all_goals (refine gK ?_));(all_goals first|(refine gT ?_;(refine lV T ?_);refine gT ?_;(refine vc_pcallb rfl rfl (sright_c s (few_more (hF rfl))) (.cons (view_self _ rfl) .nil) (by rintro _ ⟨_,rfl,_⟩;rfl) rfl ?_;rintro _ ⟨b2,rfl,hS⟩;dsimp only [putd];cases b2))|(iterate 2 refine gF ?_));(all_goals ((refine pV ?_);refine aV ?_)))|refine nZ ?_)
  all_goals first | exact ⟨.b false, [], ⟨rfl, false, rfl, fun h => Bool.noConfusion h⟩, ret_plain (.inl rfl) rfl rfl⟩ | exact ⟨.b true, [], ⟨rfl, true, rfl, fun _ => ⟨hF rfl, hS rfl⟩⟩, ret_plain (.inl rfl) rfl rfl⟩
end Go.Proofs.YtjpcpbbkelgkeaaGreat
namespace Go.Proofs.YtjpcpbbkelgkeaaGreat
open Go Go.Ab Go.Fl Go.Shelf Go.Proofs Go.MapKept
attribute [local irreducible] VC AW FStep ACall PCall StrStruct StrT AStep AnyAt
set_option maxHeartbeats 8000000
end Go.Proofs.YtjpcpbbkelgkeaaGreat
namespace Go.Proofs.YtjpcpbbkelgkeaaGreat
open Go Go.Ab Go.Fl Go.Shelf Go.Proofs Go.MapKept
end Go.Proofs.YtjpcpbbkelgkeaaGreat
namespace Go.Proofs.YtjpcpbbkelgkeaaGreat
open Go Go.Ab Go.Fl Go.Shelf Go.Proofs Go.MapKept
attribute [local irreducible] VC AW FStep ACall PCall StrStruct StrT AStep
set_option maxHeartbeats 4000000
end Go.Proofs.YtjpcpbbkelgkeaaGreat
namespace Go.Proofs.YtjpcpbbkelgkeaaGreat
open Go Go.Ab Go.Fl Go.Shelf Go.Proofs Go.MapKept
attribute [local irreducible] VC AW FStep ACall PCall StrStruct StrT AStep
set_option maxHeartbeats 4000000
theorem FewP.more {s : Sit} (h : FewP s 30 12) : FewP s 300 1000 :=
  ⟨Nat.le_trans h.kl (by decide), Nat.le_trans h.ol (by decide), Nat.le_trans h.zl (by decide), Nat.le_trans h.al (by decide), Nat.le_trans h.sl (by decide), Nat.le_trans h.rl (by decide), fun z hz => ⟨Nat.le_trans (h.z z hz).1 (by decide), (h.z z hz).2⟩, h.a, h.s⟩
end Go.Proofs.YtjpcpbbkelgkeaaGreat
namespace Go.Proofs.YtjpcpbbkelgkeaaGreat
open Go Go.Ab Go.Fl
attribute [local irreducible] VC AW FStep ACall
def okI (n : Int) : Prop := (Lit.int .i64 n).wf = true
theorem opInt : Opens Tryz.prog 3 okI (fun n => [AV.i n]) := Opens.int Tryz.underlying3 (by kernel_rfl)
theorem opStr : Opens Tryz.prog 9 (fun l : List UInt8 => l.length ≤ maxLen) (fun l => [AV.s l]) :=
  Opens.iso (Opens.string (by kernel_rfl) (by kernel_rfl)) (fun s : ByteArray => s.data.toList) fun s hs => ⟨by simpa using hs, rfl⟩
theorem opInts : Opens Tryz.prog 22 (fun l : List Int => l.length ≤ maxLen ∧ ∀ a, a ∈ l → okI a) (fun l => [.rowE (ints l) 1]) :=
  Opens.slice Tryz.underlying22 (by kernel_rfl) (by kernel_rfl) (by decide) opInt
theorem opFloor : Opens Tryz.prog 24 (fun _ : Flo => True) (fun p => floorC p) :=
  Opens.struct (fs := [(3, 0), (3, 1), (3, 2), (22, 3), (22, 4)]) (by kernel_rfl) (by kernel_rfl)
    (fun e W fuel css hl hx => by
      obtain ⟨a, h1, h2, h3⟩ := OpensF.cons opInt (OpensF.cons opInt (OpensF.cons opInt (OpensF.cons opInts (OpensF.cons opInts OpensF.nil)))) e W fuel css hl hx
      exact ⟨⟨a.1, a.2.1, a.2.2.1, a.2.2.2.1, a.2.2.2.2.1⟩, trivial, by simpa using h2, by simpa using h3⟩)
    (fun _ => by kernel_rfl)
theorem opSpan : Opens Tryz.prog 151 (fun _ : Int × Int => True) (fun x => [AV.i x.1, AV.i x.2]) :=
  Opens.struct (fs := [(3, 0), (3, 1)]) (by kernel_rfl) (by kernel_rfl)
    (fun e W fuel css hl hx => by
      obtain ⟨a, h1, h2, h3⟩ := OpensF.cons opInt (OpensF.cons opInt OpensF.nil) e W fuel css hl hx
      exact ⟨(a.1, a.2.1), trivial, by simpa using h2, by simpa using h3⟩)
    (fun _ => by kernel_rfl)
theorem opSpans : Opens Tryz.prog 91 (fun l : List (Int × Int) => l.length ≤ maxLen ∧ ∀ a, a ∈ l → True) (fun l => [.rowE (stksA l) 2]) :=
  Opens.slice Tryz.underlying91 (by kernel_rfl) (by kernel_rfl) (by decide) opSpan
theorem opStart : Opens Tryz.prog 109 (fun _ : Int × Int => True) (fun x => [AV.i x.1, AV.i x.2]) :=
  Opens.struct (fs := [(3, 0), (3, 1)]) (by kernel_rfl) (by kernel_rfl)
    (fun e W fuel css hl hx => by
      obtain ⟨a, h1, h2, h3⟩ := OpensF.cons opInt (OpensF.cons opInt OpensF.nil) e W fuel css hl hx
      exact ⟨(a.1, a.2.1), trivial, by simpa using h2, by simpa using h3⟩)
    (fun _ => by kernel_rfl)
theorem opStarts : Opens Tryz.prog 28 (fun l : List (Int × Int) => l.length ≤ maxLen ∧ ∀ a, a ∈ l → True) (fun l => [.rowE (stksA l) 2]) :=
  Opens.slice Tryz.underlying28 (by kernel_rfl) (by kernel_rfl) (by decide) opStart
theorem opApart : Opens Tryz.prog 95 (fun _ : List UInt8 × List UInt8 => True) (fun x => [AV.s x.1, AV.s x.2]) :=
  Opens.struct (fs := [(9, 0), (9, 1)]) (by kernel_rfl) (by kernel_rfl)
    (fun e W fuel css hl hx => by
      obtain ⟨a, h1, h2, h3⟩ := OpensF.cons opStr (OpensF.cons opStr OpensF.nil) e W fuel css hl hx
      exact ⟨(a.1, a.2.1), trivial, by simpa using h2, by simpa using h3⟩)
    (fun _ => by kernel_rfl)
theorem opAparts : Opens Tryz.prog 26 (fun l : List (List UInt8 × List UInt8) => l.length ≤ maxLen ∧ ∀ a, a ∈ l → True) (fun l => [.rowE (apsA l) 2]) :=
  Opens.slice Tryz.underlying26 (by kernel_rfl) (by kernel_rfl) (by decide) opApart
theorem opShelf : Opens Tryz.prog 97 (fun _ : Int × List UInt8 => True) (fun x => [AV.i x.1, AV.s x.2]) :=
  Opens.struct (fs := [(3, 0), (9, 1)]) (by kernel_rfl) (by kernel_rfl)
    (fun e W fuel css hl hx => by
      obtain ⟨a, h1, h2, h3⟩ := OpensF.cons opInt (OpensF.cons opStr OpensF.nil) e W fuel css hl hx
      exact ⟨(a.1, a.2.1), trivial, by simpa using h2, by simpa using h3⟩)
    (fun _ => by kernel_rfl)
theorem opShelves : Opens Tryz.prog 27 (fun l : List (Int × List UInt8) => l.length ≤ maxLen ∧ ∀ a, a ∈ l → True) (fun l => [.rowE (shsA l) 2]) :=
  Opens.slice Tryz.underlying27 (by kernel_rfl) (by kernel_rfl) (by decide) opShelf
theorem opZone : Opens Tryz.prog 93 (fun _ : Zon => True) zonA :=
  Opens.struct (fs := [(9, 0), (22, 1), (3, 2), (3, 3), (91, 4)]) (by kernel_rfl) (by kernel_rfl)
    (fun e W fuel css hl hx => by
      obtain ⟨a, h1, h2, h3⟩ := OpensF.cons opStr (OpensF.cons opInts (OpensF.cons opInt (OpensF.cons opInt (OpensF.cons opSpans OpensF.nil)))) e W fuel css hl hx
      exact ⟨(a.1, a.2.1, a.2.2.1, a.2.2.2.1, a.2.2.2.2.1), trivial, by simpa using h2, by simpa using h3⟩)
    (fun _ => by kernel_rfl)
theorem opZones : Opens Tryz.prog 25 (fun l : List Zon => l.length ≤ maxLen ∧ ∀ a, a ∈ l → True) (fun l => [.rowE (zonsA l) 5]) :=
  Opens.slice Tryz.underlying25 (by kernel_rfl) (by kernel_rfl) (by decide) opZone
theorem opSite : Opens Tryz.prog 30 (fun _ : Sit => True) (fun s => sitA s) :=
  Opens.struct (fs := [(24, 0), (25, 5), (26, 6), (27, 7), (28, 8)]) (by kernel_rfl) (by kernel_rfl)
    (fun e W fuel css hl hx => by
      obtain ⟨a, h1, h2, h3⟩ := OpensF.cons opFloor (OpensF.cons opZones (OpensF.cons opAparts (OpensF.cons opShelves (OpensF.cons opStarts OpensF.nil)))) e W fuel css hl hx
      exact ⟨⟨a.1, a.2.1, a.2.2.1, a.2.2.2.1, a.2.2.2.2.1⟩, trivial, by simpa using h2, by simpa using h3⟩)
    (fun _ => by kernel_rfl)
end Go.Proofs.YtjpcpbbkelgkeaaGreat
namespace Go.Proofs.YtjpcpbbkelgkeaaGreat
open Go Go.Ab Go.Fl
end Go.Proofs.YtjpcpbbkelgkeaaGreat
namespace Go.Proofs.YtjpcpbbkelgkeaaGreat
open Go Go.Ab Go.Fl Go.Re
attribute [local irreducible] VC AW FStep ACall AY VY AIter
set_option maxHeartbeats 4000000
theorem wrap_dir' {d : Int} (hd : 0 ≤ d ∧ d < 6) : IntKind.u64.wrap d = d := by
  have h : d = 0 ∨ d = 1 ∨ d = 2 ∨ d = 3 ∨ d = 4 ∨ d = 5 := by omega
  rcases h with rfl | rfl | rfl | rfl | rfl | rfl <;> decide
section
variable {f : Flo}
theorem rcell_c (g : Fine f) (x y z : Int) : ACall Tryz.prog 115 [floorA f, .i x, .i y, .i z] [] (.i (cellI f x y z)) [] := by
  have hb := g.bounds
  have hw := g.w1
  have hh := g.h1
  have hd1 := g.d1
  by_cases hr : x < 0 ∨ y < 0 ∨ z < 0 ∨ f.w ≤ x ∨ f.h ≤ y ∨ f.d ≤ z
  · have e : cellI f x y z = -1 := by unfold cellI; rw [if_pos hr]
    rw [e]
    refine acall T Tryz.func115 rfl rfl rfl rfl ?_
    repeat' (first|refine wS ?_|refine wR ?_|refine wT ?_|(refine wC rfl (fun hb=>?_) (fun hb=>?_)<;>(((try simp only [nm] at hb);try (exfalso;omega))))|(refine rg 0 ?_;refine vc_n (by exact fs_box rfl rfl) rfl ?_;refine aV ?_)|(refine rg 1 ?_;(all_goals (refine mV ?_;refine vV (by exact fs_lss rfl rfl) ?_;refine mV ?_));(all_goals (refine vc_split rfl rfl (fun hb=>?_) (fun hb=>?_)<;>((rw [hb];(try simp only [nm] at hb);try ((exfalso;omega);done)))));(all_goals first|(refine gT ?_;(refine mV ?_);refine gT ?_;(refine fV T ?_);refine gT ?_;(refine lV T ?_);refine gT ?_;(refine vV (by exact fs_geq rfl rfl) ?_))|(iterate 4 refine gF ?_));(all_goals ((refine pV ?_);refine mV ?_));(all_goals first|(refine gK ?_)|(refine vc_split rfl rfl (fun hb=>?_) (fun hb=>?_)<;>((rw [hb];(try simp only [nm] at hb);try ((exfalso;omega);done)))));(all_goals first|(refine gT ?_;(refine mV ?_);refine gT ?_;(refine vV (by exact fs_lss rfl rfl) ?_))|(iterate 2 refine gF ?_));(all_goals ((refine pV ?_);refine mV ?_));(all_goals first|(refine gK ?_)|(refine vc_split rfl rfl (fun hb=>?_) (fun hb=>?_)<;>((rw [hb];(try simp only [nm] at hb);try ((exfalso;omega);done)))));(all_goals first|(refine gT ?_;(refine mV ?_);refine gT ?_;(refine fV T ?_);refine gT ?_;(refine lV T ?_);refine gT ?_;(refine vV (by exact fs_geq rfl rfl) ?_))|(iterate 4 refine gF ?_));(all_goals ((refine pV ?_);refine mV ?_));(all_goals first|(refine gK ?_)|(refine vc_split rfl rfl (fun hb=>?_) (fun hb=>?_)<;>((rw [hb];(try simp only [nm] at hb);try ((exfalso;omega);done)))));(all_goals first|(refine gT ?_;(refine mV ?_);refine gT ?_;(refine vV (by exact fs_lss rfl rfl) ?_))|(iterate 2 refine gF ?_));(all_goals ((refine pV ?_);refine mV ?_));(all_goals first|(refine gK ?_)|(refine vc_split rfl rfl (fun hb=>?_) (fun hb=>?_)<;>((rw [hb];(try simp only [nm] at hb);try ((exfalso;omega);done)))));(all_goals first|(refine gT ?_;(refine mV ?_);refine gT ?_;(refine fV T ?_);refine gT ?_;(refine lV T ?_);refine gT ?_;(refine vV (by exact fs_geq rfl rfl) ?_))|(iterate 4 refine gF ?_));(all_goals (refine pV ?_)))|(refine rg 2 ?_;refine aV ?_)|refine nZ ?_)
    all_goals first | (exfalso; omega) | exact ret_plain (.inl rfl) rfl rfl
  · have e : cellI f x y z = (z * f.h + y) * f.w + x := by unfold cellI; rw [if_neg hr]
    rw [e]
    obtain ⟨c1, _⟩ := cell_back g (x := x) (y := y) (z := z) (by omega) (by omega) (by omega)
    have n1 : 0 ≤ z * f.h := Int.mul_nonneg (by omega) (by omega)
    have n3 : z * f.h + y ≤ (z * f.h + y) * f.w := le_mul_pos (by omega) (by omega)
    have hsz : f.size = f.w * f.h * f.d := rfl
    refine acall T Tryz.func115 rfl rfl rfl rfl ?_
    repeat' (first|refine wS ?_|refine wK ?_|refine wR ?_|(refine wC rfl (fun hb=>?_) (fun hb=>?_)<;>(((try simp only [nm] at hb);try (exfalso;omega))))|(refine rg 0 ?_;refine vc_n (by exact fs_box rfl rfl) rfl ?_;refine aV ?_)|(refine rg 1 ?_;(all_goals (refine mV ?_;refine vV (by exact fs_lss rfl rfl) ?_;refine mV ?_));(all_goals (refine vc_split rfl rfl (fun hb=>?_) (fun hb=>?_)<;>((rw [hb];(try simp only [nm] at hb);try ((exfalso;omega);done)))));(all_goals (refine gT ?_;(refine mV ?_);refine gT ?_;(refine fV T ?_);refine gT ?_;(refine lV T ?_);refine gT ?_;(refine vV (by exact fs_geq rfl rfl) ?_)));(all_goals ((refine pV ?_);refine mV ?_));(all_goals (refine vc_split rfl rfl (fun hb=>?_) (fun hb=>?_)<;>((rw [hb];(try simp only [nm] at hb);try ((exfalso;omega);done)))));(all_goals (refine gT ?_;(refine mV ?_);refine gT ?_;(refine vV (by exact fs_lss rfl rfl) ?_)));(all_goals ((refine pV ?_);refine mV ?_));(all_goals (refine vc_split rfl rfl (fun hb=>?_) (fun hb=>?_)<;>((rw [hb];(try simp only [nm] at hb);try ((exfalso;omega);done)))));(all_goals (refine gT ?_;(refine mV ?_);refine gT ?_;(refine fV T ?_);refine gT ?_;(refine lV T ?_);refine gT ?_;(refine vV (by exact fs_geq rfl rfl) ?_)));(all_goals ((refine pV ?_);refine mV ?_));(all_goals (refine vc_split rfl rfl (fun hb=>?_) (fun hb=>?_)<;>((rw [hb];(try simp only [nm] at hb);try ((exfalso;omega);done)))));(all_goals (refine gT ?_;(refine mV ?_);refine gT ?_;(refine vV (by exact fs_lss rfl rfl) ?_)));(all_goals ((refine pV ?_);refine mV ?_));(all_goals (refine vc_split rfl rfl (fun hb=>?_) (fun hb=>?_)<;>((rw [hb];(try simp only [nm] at hb);try ((exfalso;omega);done)))));(all_goals (refine gT ?_;(refine mV ?_);refine gT ?_;(refine fV T ?_);refine gT ?_;(refine lV T ?_);refine gT ?_;(refine vV (by exact fs_geq rfl rfl) ?_)));(all_goals (refine pV ?_)))|(refine rg 3 ?_;refine mV ?_;refine fV T ?_;refine lV T ?_;refine vV (by exact fs_mulr rfl rfl (by omega) (by omega)) ?_;refine mV ?_;refine vV (by exact fs_addr rfl rfl (by omega) (by omega)) ?_;refine fV T ?_;refine lV T ?_;refine vV (by exact fs_mulr rfl rfl (by omega) (by omega)) ?_;refine mV ?_;refine vV (by exact fs_addr rfl rfl (by omega) (by omega)) ?_;refine aV ?_)|refine nZ ?_)
    all_goals first | (exfalso; omega) | exact ret_plain (.inl rfl) rfl rfl
theorem rat_c (g : Fine f) (c : Int) : ACall Tryz.prog 114 [floorA f, .i c] [] (.tup [.i (atI f c).1, .i (atI f c).2.1, .i (atI f c).2.2]) [] := by
  have hb := g.bounds
  have hw := g.w1
  have hh := g.h1
  have hi := ris_c g c
  have hsz : f.size = f.w * f.h * f.d := rfl
  by_cases hr : 0 ≤ c ∧ c < f.size
  · rw [show (decide (0 ≤ c) && decide (c < f.size)) = true by simp [hr]] at hi
    have e : atI f c = (c % f.w, c / f.w % f.h, c / f.w / f.h) := by unfold atI; rw [if_pos hr, Int.ediv_ediv_of_nonneg (by omega)]
    rw [e]
    have hq : 0 ≤ c / f.w := Int.ediv_nonneg hr.1 (by omega)
    have hq2 : c / f.w ≤ c := Int.ediv_le_self _ hr.1
    refine acall T Tryz.func114 rfl rfl rfl rfl ?_
    repeat' (first|refine wS ?_|refine wK ?_|refine wR ?_|refine wU ?_|(refine rg 0 ?_;refine vc_n (by exact fs_box rfl rfl) rfl ?_;refine aV ?_;refine aV ?_;refine aV ?_)|(refine rg 1 ?_;refine lV T ?_;refine mV ?_;refine vV (by exact kC (hi)) ?_;refine vV (by exact fs_not rfl) ?_)|(((refine aw_draw2k (id := 3) 29 [[],[],[1],[0,1,2],[],[],[5],[4,5,6],[],[8],[4,5,6,7,8,9],[],[],[12],[11,12,13],[],[15],[11,12,13,14,15,16],[0,1,2,3],[0,1,2,3,4,5,6,7,8,9,10,18]] [11,12,13,14,15,16,17,18,19,20,21,22,23,24,25,26,27,28,4,5] [[],[11],[11],[],[11,12,13,14],[11,12,13,14,15],[11,12,13,14,15],[11,12,13,14],[11,12,13,14,15,16,17,18],[11,12,13,14,15,16,17,18],[11,12,13,14],[11,12,13,14,15,16,17,18,19,20,21],[11,12,13,14,15,16,17,18,19,20,21,22],[11,12,13,14,15,16,17,18,19,20,21,22],[11,12,13,14,15,16,17,18,19,20,21],[11,12,13,14,15,16,17,18,19,20,21,22,23,24,25],[11,12,13,14,15,16,17,18,19,20,21,22,23,24,25],[11,12,13,14,15,16,17,18,19,20,21],[15,16,17,18,19,20,21,22,23,24,25,26,27,28],[22,23,24,25,26,27,28]] mixedP rfl (by decide +kernel) ?_));(all_goals (refine dV rfl (by exact fs_move rfl) ?_));(all_goals (refine dV rfl (by exact fs_fieldAddr T rfl rfl rfl) ?_));(all_goals (refine dV rfl (by exact fs_load T rfl rfl rfl rfl) ?_));(all_goals (refine dV rfl (by exact fs_remr rfl rfl (by omega) (by omega)) ?_));(all_goals (refine dV rfl (by exact fs_move rfl) ?_));(all_goals (refine dV rfl (by exact fs_fieldAddr T rfl rfl rfl) ?_));(all_goals (refine dV rfl (by exact fs_load T rfl rfl rfl rfl) ?_));(all_goals (refine dV rfl (by exact fs_quor rfl rfl (by omega) (by omega) (by omega)) ?_));(all_goals (refine dV rfl (by exact fs_fieldAddr T rfl rfl rfl) ?_));(all_goals (refine dV rfl (by exact fs_load T rfl rfl rfl rfl) ?_));(all_goals (refine dV rfl (by exact fs_remr rfl rfl (by omega) (by omega)) ?_));(all_goals (refine dV rfl (by exact fs_move rfl) ?_));(all_goals (refine dV rfl (by exact fs_fieldAddr T rfl rfl rfl) ?_));(all_goals (refine dV rfl (by exact fs_load T rfl rfl rfl rfl) ?_));(all_goals (refine dV rfl (by exact fs_quor rfl rfl (by omega) (by omega) (by omega)) ?_));(all_goals (refine dV rfl (by exact fs_fieldAddr T rfl rfl rfl) ?_));(all_goals (refine dV rfl (by exact fs_load T rfl rfl rfl rfl) ?_));(all_goals (refine dV rfl (by exact fs_quor rfl rfl (by omega) (by omega) (by omega)) ?_));(all_goals (refine dV rfl (by exact fs_assign rfl) ?_));(all_goals (refine dV rfl (by exact fs_assign rfl) ?_));(all_goals (refine dw_fin rfl rfl (by ((dsimp only [ln1,ln2,List.append_nil,ln4,ln5,ln6,ln7,ln8,ln9,putAt,putd,allObjs,argEnv,un_v,un_ptr,un_ep,un_pr,un_sl,un_mp,un_row,un_agg,un_tup,un_clo,Nat.zero_add,lnb,Nat.reduceAdd,lnc,lnd];done))) ?_;refine aV ?_)))|refine nZ ?_)
    all_goals first | (exfalso; omega) | exact ret_plain (.inl rfl) rfl rfl
  · rw [show (decide (0 ≤ c) && decide (c < f.size)) = false by rw [← Bool.not_eq_true]; simp; omega] at hi
    have e : atI f c = (0, 0, 0) := by unfold atI; rw [if_neg hr]
    rw [e]
    refine acall T Tryz.func114 rfl rfl rfl rfl ?_
    repeat' (first|refine wS ?_|refine wR ?_|refine wT ?_|(refine rg 0 ?_;refine vc_n (by exact fs_box rfl rfl) rfl ?_;refine aV ?_;refine aV ?_;refine aV ?_)|(refine rg 1 ?_;refine lV T ?_;refine mV ?_;refine vV (by exact kC (hi)) ?_;refine vV (by exact fs_not rfl) ?_)|(refine rg 2 ?_;refine aV ?_;refine aV ?_;refine aV ?_)|refine nZ ?_)
    all_goals exact ret_plain (.inl rfl) rfl rfl
theorem rbeside_c (g : Fine f) (c d : Int) : ACall Tryz.prog 83 [floorA f, .i c, .i d] [] (.i (besideI f c d)) [] := by
  have hb := g.bounds
  have hi := ris_c g c
  have hsz : f.size = f.w * f.h * f.d := rfl
  by_cases hc : 0 ≤ c ∧ c < f.size
  · rw [show (decide (0 ≤ c) && decide (c < f.size)) = true by simp [hc]] at hi
    have ha := rat_c g c
    have e : atI f c = (c % f.w, c / f.w % f.h, c / (f.w * f.h)) := by unfold atI; rw [if_pos hc]
    rw [e] at ha
    have rgH := at_range g (c := c) (by omega) (by omega)
    have hcl := fun x y z => rcell_c g x y z
    by_cases hd : d < 0 ∨ 6 ≤ d
    · have e : besideI f c d = -1 := by unfold besideI; rw [if_pos (by omega)]
      rw [e]
      refine acall T Tryz.func83 rfl rfl rfl rfl ?_
      repeat' (first|refine wS ?_|refine wB ?_|refine wK ?_|refine wR ?_|refine wU ?_|(refine rg 0 ?_;refine vc_n (by exact fs_box rfl rfl) rfl ?_;refine aV ?_)|(refine rg 1 ?_;refine lV T ?_;refine mV ?_;refine vV (by exact kC (hi)) ?_;refine vV (by exact fs_not rfl) ?_)|(refine rg 3 ?_;refine lV T ?_;refine mV ?_;refine vV (by exact kC (ha)) ?_;refine mV ?_;refine xV ?_;refine xV ?_;refine xV ?_;refine aV ?_;refine aV ?_;refine aV ?_)|(refine rg 4 ?_;refine mV ?_)|(refine rg 5 ?_;refine vV (by exact fs_eqlF rfl rfl (by omega)) ?_;refine aV ?_)|(refine rg 7 ?_;refine vV (by exact fs_eqlF rfl rfl (by omega)) ?_;refine aV ?_)|(refine rg 9 ?_;refine vV (by exact fs_eqlF rfl rfl (by omega)) ?_;refine aV ?_)|(refine rg 11 ?_;refine vV (by exact fs_eqlF rfl rfl (by omega)) ?_;refine aV ?_)|(refine rg 13 ?_;refine vV (by exact fs_eqlF rfl rfl (by omega)) ?_;refine aV ?_)|(refine rg 15 ?_;refine vV (by exact fs_eqlF rfl rfl (by omega)) ?_;refine aV ?_)|(refine rg 17 ?_;refine aV ?_)|refine nZ ?_)
      all_goals first | (exfalso; omega) | exact ret_plain (.inl rfl) rfl rfl
    · have e : besideI f c d = cellI f (c % f.w + dxI d) (c / f.w % f.h + dyI d) (c / (f.w * f.h) + dzI d) := by unfold besideI; rw [if_neg (by omega)]
      rw [e]
      have h : d = 0 ∨ d = 1 ∨ d = 2 ∨ d = 3 ∨ d = 4 ∨ d = 5 := by omega
      refine acall T Tryz.func83 rfl rfl rfl rfl ?_
      generalize hX : c % f.w = X at *
      generalize hY : c / f.w % f.h = Y at *
      generalize hZ : c / (f.w * f.h) = Z at *
      rcases h with rfl | rfl | rfl | rfl | rfl | rfl
      all_goals
        repeat' (first|refine wS ?_|refine wB ?_|refine wK ?_|refine wR ?_|refine wT ?_|refine wU ?_|(refine rg 0 ?_;refine vc_n (by exact fs_box rfl rfl) rfl ?_;refine aV ?_)|(refine rg 1 ?_;refine lV T ?_;refine mV ?_;refine vV (by exact kC (hi)) ?_;refine vV (by exact fs_not rfl) ?_)|(refine rg 3 ?_;refine lV T ?_;refine mV ?_;refine vV (by exact kC (ha)) ?_;refine mV ?_;refine xV ?_;refine xV ?_;refine xV ?_;refine aV ?_;refine aV ?_;refine aV ?_)|(refine rg 4 ?_;refine mV ?_)|(refine rg 5 ?_;refine vV (by first|exact fs_eqlT rfl rfl (by omega)|exact fs_eqlF rfl rfl (by omega)) ?_;refine aV ?_)|(refine rg 6 ?_;refine lV T ?_;refine mV ?_;refine vV (by exact fs_addr rfl rfl (by omega) (by omega)) ?_;refine mV ?_;refine mV ?_;refine vV (by exact fs_call0 rfl rfl (hcl _ _ _) rfl rfl rfl) ?_;refine aV ?_)|(refine rg 7 ?_;refine vV (by first|exact fs_eqlT rfl rfl (by omega)|exact fs_eqlF rfl rfl (by omega)) ?_;refine aV ?_)|(refine rg 8 ?_;refine lV T ?_;refine mV ?_;refine mV ?_;refine vV (by exact fs_addr rfl rfl (by omega) (by omega)) ?_;refine mV ?_;refine vV (by exact fs_call0 rfl rfl (hcl _ _ _) rfl rfl rfl) ?_;refine aV ?_)|(refine rg 9 ?_;refine vV (by first|exact fs_eqlT rfl rfl (by omega)|exact fs_eqlF rfl rfl (by omega)) ?_;refine aV ?_)|(refine rg 10 ?_;refine lV T ?_;refine mV ?_;refine vV (by exact fs_subr rfl rfl (by omega) (by omega)) ?_;refine mV ?_;refine mV ?_;refine vV (by exact fs_call0 rfl rfl (hcl _ _ _) rfl rfl rfl) ?_;refine aV ?_)|(refine rg 11 ?_;refine vV (by first|exact fs_eqlT rfl rfl (by omega)|exact fs_eqlF rfl rfl (by omega)) ?_;refine aV ?_)|(refine rg 12 ?_;refine lV T ?_;refine mV ?_;refine mV ?_;refine vV (by exact fs_subr rfl rfl (by omega) (by omega)) ?_;refine mV ?_;refine vV (by exact fs_call0 rfl rfl (hcl _ _ _) rfl rfl rfl) ?_;refine aV ?_)|(refine rg 13 ?_;refine vV (by first|exact fs_eqlT rfl rfl (by omega)|exact fs_eqlF rfl rfl (by omega)) ?_;refine aV ?_)|(refine rg 14 ?_;refine lV T ?_;refine mV ?_;refine mV ?_;refine mV ?_;refine vV (by exact fs_addr rfl rfl (by omega) (by omega)) ?_;refine vV (by exact fs_call0 rfl rfl (hcl _ _ _) rfl rfl rfl) ?_;refine aV ?_)|(refine rg 15 ?_;refine vV (by exact fs_eqlT rfl rfl (by omega)) ?_;refine aV ?_)|(refine rg 16 ?_;refine lV T ?_;refine mV ?_;refine mV ?_;refine mV ?_;refine vV (by exact fs_subr rfl rfl (by omega) (by omega)) ?_;refine vV (by exact fs_call0 rfl rfl (hcl _ _ _) rfl rfl rfl) ?_;refine aV ?_)|refine nZ ?_)
      all_goals first | (exfalso; omega) | exact ret_plain (.inl rfl) rfl (by simp [dxI, dyI, dzI, Int.sub_eq_add_neg]; rfl)
  · rw [show (decide (0 ≤ c) && decide (c < f.size)) = false by rw [← Bool.not_eq_true]; simp; omega] at hi
    have e : besideI f c d = -1 := by unfold besideI; rw [if_pos (by omega)]
    rw [e]
    refine acall T Tryz.func83 rfl rfl rfl rfl ?_
    repeat' (first|refine wS ?_|refine wR ?_|refine wT ?_|(refine rg 0 ?_;refine vc_n (by exact fs_box rfl rfl) rfl ?_;refine aV ?_)|(refine rg 1 ?_;refine lV T ?_;refine mV ?_;refine vV (by exact kC (hi)) ?_;refine vV (by exact fs_not rfl) ?_)|(refine rg 2 ?_;refine aV ?_)|refine nZ ?_)
    all_goals first | (exfalso; omega) | exact ret_plain (.inl rfl) rfl rfl
theorem rnext_c (g : Fine f) (c d : Int) : ACall Tryz.prog 36 [floorA f, .i c, .i d] [] (optA (nextI f c d)) [] := by
  have hbs := rbeside_c g c d
  by_cases hn : besideI f c d < 0
  · have e : nextI f c d = none := by unfold nextI; rw [if_neg (by omega)]
    rw [e]
    generalize besideI f c d = n at *
    refine acall T Tryz.func36 rfl rfl rfl rfl ?_
    repeat' (first|refine wS ?_|refine wR ?_|(refine wC rfl (fun hb=>?_) (fun hb=>?_)<;>(((try simp only [nm] at hb);try (exfalso;omega))))|(refine rg 0 ?_;refine vc_n (by exact fs_box rfl rfl) rfl ?_;refine aV ?_;refine aV ?_)|(refine rg 1 ?_;refine lV T ?_;refine mV ?_;refine mV ?_;refine vV (by exact kC (hbs)) ?_;refine aV ?_)|(refine rg 2 ?_;refine mV ?_;refine vV (by exact fs_lss rfl rfl) ?_)|(refine rg 3 ?_;refine aV ?_;refine aV ?_)|refine nZ ?_)
    all_goals first | (exfalso; omega) | exact ret_plain (.inl rfl) rfl rfl
  · obtain ⟨h1, h2, h3, _⟩ := beside_at g (c := c) (d := d) (by omega)
    have hk : f.size = f.k.length := by have := g.kl; unfold Flo.size; omega
    have hol := g.ol
    have key : nextI f c d = if kindI f c ≠ 0 ∧ kindI f (besideI f c d) ≠ 0 ∧ bitI f c d ≠ 0 ∧ (d = 4 ∨ d = 5 → kindI f c = 6 ∧ kindI f (besideI f c d) = 6) then some (besideI f c d) else none := by
      unfold nextI passI
      by_cases hp : kindI f c ≠ 0 ∧ kindI f (besideI f c d) ≠ 0 ∧ bitI f c d ≠ 0 ∧ (d = 4 ∨ d = 5 → kindI f c = 6 ∧ kindI f (besideI f c d) = 6)
      · rw [if_pos hp, if_pos ⟨by omega, hp⟩]
      · rw [if_neg hp, if_neg (fun q => hp q.2)]
    have q1 : (ints f.k)[c.toNat]? = some [AV.i (kindI f c)] := ints_getD h1.1 (by omega)
    have q2 : (ints f.k)[(besideI f c d).toNat]? = some [AV.i (kindI f (besideI f c d))] := ints_getD (by omega) (by omega)
    have q3 : (ints f.o)[c.toNat]? = some [AV.i (f.o.getD c.toNat 0)] := ints_getD h1.1 (by omega)
    have hob : 0 ≤ f.o.getD c.toNat 0 ∧ f.o.getD c.toNat 0 ≤ 63 := by
      have := g.o c.toNat (by omega)
      rwa [List.getD_eq_getElem?_getD, List.getElem?_eq_getElem (by omega)]
    have hpw : 0 < (2 : Int) ^ d.toNat := Int.pow_pos (by omega)
    have hob2 : 0 ≤ f.o.getD c.toNat 0 / 2 ^ d.toNat ∧ f.o.getD c.toNat 0 / 2 ^ d.toNat ≤ 63 := ⟨Int.ediv_nonneg hob.1 (by omega), Int.le_trans (Int.ediv_le_self _ hob.1) hob.2⟩
    have hbit : bitI f c d = f.o.getD c.toNat 0 / 2 ^ d.toNat % 2 := rfl
    have hwd := wrap_dir' h2
    rw [key]
    clear key hpw
    generalize besideI f c d = n at *
    generalize f.o.getD c.toNat 0 = O at *
    generalize hP : (2 : Int) ^ d.toNat = P2 at *
    generalize kindI f c = kc at *
    generalize kindI f n = kn at *
    generalize bitI f c d = B at *
    subst hbit
    have hdl : d.toNat ≤ IntKind.i64.bits := by have : IntKind.i64.bits = 64 := rfl; omega
    refine acall T Tryz.func36 rfl rfl rfl rfl ?_
    repeat' (first|refine wS ?_|refine wK ?_|refine wR ?_|refine wT ?_|refine wU ?_|(refine wC rfl (fun hb=>?_) (fun hb=>?_)<;>(((try simp only [nm] at hb);try (exfalso;omega))))|(refine rg 0 ?_;refine vc_n (by exact fs_box rfl rfl) rfl ?_;refine aV ?_;refine aV ?_)|(refine rg 1 ?_;refine lV T ?_;refine mV ?_;refine mV ?_;refine vV (by exact kC (hbs)) ?_;refine aV ?_)|(refine rg 2 ?_;refine mV ?_;refine vV (by exact fs_lss rfl rfl) ?_)|(refine rg 4 ?_;(all_goals (refine fV T ?_;refine lV T ?_;refine mV ?_;refine vV (by exact fs_indexRowE T rfl rfl rfl rfl rfl (by omega) (ints_len f.k) q1) ?_;refine lV T ?_;refine vV (by exact fs_eql rfl rfl) ?_;refine mV ?_));(all_goals (refine vc_split rfl rfl (fun hb=>?_) (fun hb=>?_)<;>((rw [hb];(try simp only [nm] at hb);try ((exfalso;omega);done)))));(all_goals first|(refine gT ?_;(refine fV T ?_);refine gT ?_;(refine lV T ?_);refine gT ?_;(refine mV ?_);refine gT ?_;(refine vV (by exact fs_indexRowE T rfl rfl rfl rfl rfl (by omega) (ints_len f.k) q2) ?_);refine gT ?_;(refine lV T ?_);refine gT ?_;(refine vV (by exact fs_eql rfl rfl) ?_))|(iterate 6 refine gF ?_));(all_goals ((refine pV ?_);refine mV ?_));(all_goals first|(refine gK ?_)|(refine vc_split rfl rfl (fun hb=>?_) (fun hb=>?_)<;>((rw [hb];(try simp only [nm] at hb);try ((exfalso;omega);done)))));(all_goals first|(refine gT ?_;(refine fV T ?_);refine gT ?_;(refine lV T ?_);refine gT ?_;(refine mV ?_);refine gT ?_;(refine vV (by exact fs_indexRowE T rfl rfl rfl rfl rfl (by omega) (ints_len f.o) q3) ?_);refine gT ?_;(refine lV T ?_);refine gT ?_;(refine mV ?_);refine gT ?_;(refine vV (by exact fs_convII Tryz.underlying3 Tryz.underlying130 rfl hwd) ?_);refine gT ?_;(refine vV (by exact hP ▸ fs_shrF rfl rfl (by omega) hdl) ?_);refine gT ?_;(refine vV (by exact fs_and1 rfl rfl (by omega) (by omega)) ?_);refine gT ?_;(refine vV (by exact fs_eql rfl rfl) ?_))|(iterate 10 refine gF ?_));(all_goals (refine pV ?_)))|(refine rg 5 ?_;refine aV ?_;refine aV ?_)|(refine rg 6 ?_;(all_goals (refine mV ?_;refine vV (by exact fs_geq rfl rfl) ?_;refine mV ?_));(all_goals (refine vc_split rfl rfl (fun hb=>?_) (fun hb=>?_)<;>((rw [hb];(try simp only [nm] at hb);try ((exfalso;omega);done)))));(all_goals first|(refine gT ?_;(refine fV T ?_);refine gT ?_;(refine lV T ?_);refine gT ?_;(refine mV ?_);refine gT ?_;(refine vV (by exact fs_indexRowE T rfl rfl rfl rfl rfl (by omega) (ints_len f.k) q1) ?_);refine gT ?_;(refine lV T ?_);refine gT ?_;(refine vV (by exact fs_neq rfl rfl) ?_);refine gT ?_;(refine mV ?_))|(iterate 7 refine gF ?_));(all_goals first|(refine gK ?_)|(refine vc_split rfl rfl (fun hb=>?_) (fun hb=>?_)<;>((rw [hb];(try simp only [nm] at hb);try ((exfalso;omega);done)))));(all_goals first|(refine gT ?_;(refine fV T ?_);refine gT ?_;(refine lV T ?_);refine gT ?_;(refine mV ?_);refine gT ?_;(refine vV (by exact fs_indexRowE T rfl rfl rfl rfl rfl (by omega) (ints_len f.k) q2) ?_);refine gT ?_;(refine lV T ?_);refine gT ?_;(refine vV (by exact fs_neq rfl rfl) ?_))|(iterate 6 first|refine gF ?_|refine gU ?_));(all_goals first|(refine gT ?_;(refine pV ?_))|(refine gF ?_));(all_goals (refine pV ?_)))|(refine rg 7 ?_;refine aV ?_;refine aV ?_)|(refine rg 8 ?_;refine mV ?_;refine aV ?_;refine aV ?_)|refine nZ ?_)
    all_goals first
      | (exfalso; omega)
      | (rw [if_neg (by omega)]; exact ret_plain (.inl rfl) rfl rfl)
      | (rw [if_pos (by omega)]; exact ret_plain (.inl rfl) rfl rfl)
end
end Go.Proofs.YtjpcpbbkelgkeaaGreat
namespace Go.Ln
structure Bq (g : Net) (av : Int → Prop) (q : List Int) (fr : Int → Int) : Prop where
  nd : q.Nodup
  head : q[0]? = some g.st
  par : ∀ (k : Nat) (y : Int), q[k]? = some y → 0 < k → ∃ (j : Nat) (x : Int), j < k ∧ q[j]? = some x ∧ fr y = x ∧ y ∈ g.sp x ∧ ¬ av y ∧ g.ex x = false
def Bdone (g : Net) (av : Int → Prop) (q : List Int) (i : Nat) : Prop := ∀ (k : Nat) (x : Int), k < i → q[k]? = some x → g.ex x = false ∧ ∀ y, y ∈ g.sp x → ¬ av y → y ∈ q
structure Bl (g : Net) (av : Int → Prop) (q : List Int) (x : Int) (l : List Int) (k : Nat) : Prop where
  at' : q[k]? = some x
  way : Way g x l
  nd : l.Nodup
  later : ∀ z, z ∈ l → ∃ m : Nat, k < m ∧ q[m]? = some z
  av : ∀ z, z ∈ l → ¬ av z
theorem idx_uniq {q : List Int} (h : q.Nodup) {i j : Nat} {x : Int} (hi : q[i]? = some x) (hj : q[j]? = some x) : i = j :=
  (List.getElem?_inj (List.getElem?_eq_some_iff.1 hi).1 h).1 (hi.trans hj.symm)
theorem Bq.start {g : Net} {av : Int → Prop} {fr : Int → Int} : Bq g av [g.st] fr :=
  ⟨by simp, rfl, fun k y h hk => by rw [List.getElem?_eq_none (by simp; omega)] at h; cases h⟩
theorem Bq.add {g : Net} {av : Int → Prop} {q : List Int} {fr fr' : Int → Int} (h : Bq g av q fr) {i : Nat} {x y : Int} (hi : q[i]? = some x) (hy : y ∈ g.sp x) (hav : ¬ av y) (hx : g.ex x = false) (hn : y ∉ q) (hf : fr' y = x) (hf2 : ∀ z, z ≠ y → fr' z = fr z) : Bq g av (q ++ [y]) fr' := by
  have hil := (List.getElem?_eq_some_iff.1 hi).1
  refine ⟨?_, ?_, fun k z hk h0 => ?_⟩
  · rw [List.nodup_append]
    exact ⟨h.nd, by simp, fun a ha b hb e => hn (by simp at hb; rw [← hb, ← e]; exact ha)⟩
  · rw [List.getElem?_append_left (by omega)]; exact h.head
  · by_cases hkl : k < q.length
    · rw [List.getElem?_append_left hkl] at hk
      obtain ⟨j, w, h1, h2, h3, h4, h5, h6⟩ := h.par k z hk h0
      refine ⟨j, w, h1, by rw [List.getElem?_append_left (by omega)]; exact h2, ?_, h4, h5, h6⟩
      rw [hf2 z (fun e => hn (by rw [← e]; exact List.mem_of_getElem? hk))]; exact h3
    · rw [List.getElem?_append_right (by omega)] at hk
      have : k = q.length := by
        by_cases e : k - q.length = 0
        · omega
        · rw [List.getElem?_eq_none (by simp; omega)] at hk; cases hk
      subst this
      simp at hk
      subst hk
      exact ⟨i, x, hil, by rw [List.getElem?_append_left hil]; exact hi, hf, hy, hav, hx⟩
theorem Bdone.add {g : Net} {av : Int → Prop} {q : List Int} {i : Nat} (h : Bdone g av q i) (hi : i ≤ q.length) (y : Int) : Bdone g av (q ++ [y]) i := fun k x hk hx => by
  rw [List.getElem?_append_left (by omega)] at hx
  obtain ⟨a, b⟩ := h k x hk hx
  exact ⟨a, fun z hz hz2 => List.mem_append_left _ (b z hz hz2)⟩
theorem Bdone.next {g : Net} {av : Int → Prop} {q : List Int} {i : Nat} (h : Bdone g av q i) {x : Int} (hi : q[i]? = some x) (hx : g.ex x = false) (hs : ∀ y, y ∈ g.sp x → ¬ av y → y ∈ q) : Bdone g av q (i + 1) := fun k z hk hz => by
  by_cases e : k = i
  · subst e; rw [hi] at hz; cases hz; exact ⟨hx, hs⟩
  · exact h k z (by omega) hz
theorem Bdone.no {g : Net} {av : Int → Prop} {q : List Int} (h : Bdone g av q q.length) : ∀ (r : List Int) (c : Int), c ∈ q → Way g c r → (∀ y, y ∈ r → ¬ av y) → False
  | [], c, hc, hw, _ => by
    obtain ⟨k, hk⟩ := List.mem_iff_getElem?.1 hc
    have := (h k c (List.getElem?_eq_some_iff.1 hk).1 hk).1
    have hw : g.ex c = true := hw
    rw [hw] at this; cases this
  | x :: r, c, hc, hw, ha => by
    obtain ⟨k, hk⟩ := List.mem_iff_getElem?.1 hc
    obtain ⟨_, h2, h3⟩ := hw
    exact Bdone.no h r x ((h k c (List.getElem?_eq_some_iff.1 hk).1 hk).2 x h2 (ha x (by simp))) h3 fun y hy => ha y (.tail _ hy)
theorem Bl.start {g : Net} {av : Int → Prop} {q : List Int} {x : Int} {k : Nat} (hk : q[k]? = some x) (hx : g.ex x = true) : Bl g av q x [] k :=
  ⟨hk, hx, by simp, (fun z h => by cases h), fun z h => by cases h⟩
theorem Bl.more {g : Net} {av : Int → Prop} {q : List Int} {fr : Int → Int} (h : Bq g av q fr) {x : Int} {l : List Int} {k : Nat} (hl : Bl g av q x l k) (hx : x ≠ g.st) : ∃ j, j < k ∧ Bl g av q (fr x) (x :: l) j := by
  have hk0 : 0 < k := by
    rcases Nat.eq_zero_or_pos k with e | e
    · subst e
      have := hl.at'
      rw [h.head] at this
      cases this; exact absurd rfl hx
    · exact e
  obtain ⟨j, w, h1, h2, h3, h4, h5, h6⟩ := h.par k x hl.at' hk0
  rw [h3]
  refine ⟨j, h1, h2, ⟨h6, h4, hl.way⟩, List.nodup_cons.2 ⟨fun hm => ?_, hl.nd⟩, fun z hz => ?_, fun z hz => ?_⟩
  · obtain ⟨m, a, b⟩ := hl.later x hm
    have := idx_uniq h.nd hl.at' b
    omega
  · rcases List.mem_cons.1 hz with rfl | hz
    · exact ⟨k, h1, hl.at'⟩
    · obtain ⟨m, a, b⟩ := hl.later z hz
      exact ⟨m, by omega, b⟩
  · rcases List.mem_cons.1 hz with rfl | hz
    · exact h5
    · exact hl.av z hz
theorem Bl.done {g : Net} {av : Int → Prop} {q : List Int} {fr : Int → Int} (h : Bq g av q fr) {l : List Int} {k : Nat} (hl : Bl g av q g.st l k) : LaneP g (g.st :: l) ∧ ∀ z, z ∈ l → ¬ av z := by
  refine ⟨⟨List.nodup_cons.2 ⟨fun hm => ?_, hl.nd⟩, l, rfl, hl.way⟩, hl.av⟩
  obtain ⟨m, a, b⟩ := hl.later _ hm
  have := idx_uniq h.nd hl.at' b
  omega
theorem Bl.len {g : Net} {av : Int → Prop} {q : List Int} {x : Int} {l : List Int} {k : Nat} (hl : Bl g av q x l k) : l.length ≤ q.length :=
  nodup_sub hl.nd fun z hz => by obtain ⟨m, _, h⟩ := hl.later z hz; exact List.mem_of_getElem? h
end Go.Ln
