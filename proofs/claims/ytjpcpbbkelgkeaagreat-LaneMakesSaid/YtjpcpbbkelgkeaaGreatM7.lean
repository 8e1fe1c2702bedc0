/-
  Texts of the logic and of the layer, in one module (part 7).
-/
import Derived.Test.YtjpcpbbkelgkeaaGreatM6
set_option linter.unusedVariables false
set_option linter.unusedSimpArgs false
namespace Go.Ab
open Go
theorem pcall_arg {P : Program} {f : FuncId} {args args' : List AV} {hin : Hp} {Φ : AV → Hp → Prop} (h : PCall P f args hin Φ) (ha : ∀ (S : Nat → Prop) w ρ ys, RL S w args' ρ ys → RL S w args ρ ys) : PCall P f args' hin Φ :=
  ⟨h.1, fun ρ S w vs hs hv => h.2 ρ S w vs hs (ha S w ρ vs hv)⟩
end Go.Ab
namespace Go.Proofs.YtjpcpbbkelgkeaaGreat
open Go Go.Ab Go.Fl Go.Re Go.Ln
attribute [local irreducible] VC AW FStep ACall PCall AStep
set_option maxHeartbeats 4000000
theorem rhas7_c (l : List Int) (v : Int) (hl : l.length ≤ 1000) : ACall Tryz.prog 38 [.rowE (ints l) 1, .i v] [] (.b (decide (v ∈ l))) [] := by
  have hlen : (ints l).length = l.length := by simp
  refine acall T Tryz.func38 rfl rfl rfl rfl ?_
  repeat' (first|refine wS ?_|refine wB ?_|(refine rg 0 ?_;refine aV ?_)|(refine rg 1 ?_;refine aV ?_)|refine nZ ?_)
  refine aw_loop (X := {k : Nat // k ≤ l.length ∧ (v ∈ l ↔ v ∈ l.drop k)}) (fun k => [(0, .rowE (ints l) 1), (1, .i v), (5, .i k.1)]) (fun _ => []) (fun k => l.length - k.1) ⟨0, by simp⟩ (by (refine ⟨[], rfl, ?_, trivial, List.nodup_nil, fun _ h => absurd h (Nat.not_lt_zero _)⟩; (repeat (first | exact trivial | refine ⟨rfl, ?_⟩)))) ?_
  rintro ⟨k, hk, hf⟩
  dsimp only
  by_cases hlt : k < l.length
  · repeat' (first|refine wS ?_|refine wB ?_|refine wK ?_|refine wR ?_|(refine wC rfl (fun hb => ?_) (fun hb => ?_) <;> (((try simp only [nm] at hb); try (exfalso; omega))))|(((refine rg 2 ?_)); (all_goals (refine mV ?_; refine mV ?_; (refine qV T ?_); refine vV (by exact fs_lss rfl rfl) ?_)))|(((refine rg 4 ?_)); (all_goals (refine mV ?_; refine mV ?_; refine vV (by exact fs_indexRowE T rfl rfl rfl rfl rfl (by omega) (ints_len l) (ints_get (k := k) (by omega))) ?_; refine lV T ?_; refine mV ?_; refine vV (by exact fs_eql rfl rfl) ?_)))|(((refine rg 5 ?_)); (all_goals (refine aV ?_)))|(((refine rg 3 ?_)); (all_goals (refine mV ?_; refine vV (by exact fs_addr rfl rfl (by omega) (by omega)) ?_; refine aV ?_)))|(refine vc_nilp (by ((dsimp only [ln1, ln2, List.append_nil, ln4, ln5, ln6, ln7, ln8, ln9, putAt, putd, allObjs, argEnv, un_v, un_ptr, un_ep, un_pr, un_sl, un_mp, un_row, un_agg, un_tup, un_clo, Nat.zero_add, lnb, Nat.reduceAdd, lnc, lnd]; done))) ?_))
    · refine ret_plain (.inl rfl) rfl (b_ret ?_)
      have : v ∈ l := by rw [← hb]; exact List.getElem_mem hlt
      simp [this]
    · refine ⟨⟨k + 1, by omega, ?_⟩, by dsimp only; omega, by (refine ⟨[], rfl, ?_, trivial, List.nodup_nil, fun _ h => absurd h (Nat.not_lt_zero _)⟩; (repeat (first | exact trivial | refine ⟨rfl, ?_⟩)))⟩
      rw [hf, List.drop_eq_getElem_cons hlt]
      simp only [List.mem_cons]
      exact ⟨fun h => h.resolve_left (fun e => hb e.symm), .inr⟩
  · repeat' (first|refine wS ?_|refine wR ?_|refine wE ?_|(refine wC rfl (fun hb => ?_) (fun hb => ?_) <;> (((try simp only [nm] at hb); try (exfalso; omega))))|(((refine rg 2 ?_)); (all_goals (refine mV ?_; refine mV ?_; (refine qV T ?_); refine vV (by exact fs_lss rfl rfl) ?_)))|(((refine rg 6 ?_)); (all_goals (refine aV ?_)))|(refine vc_nilp (by ((dsimp only [ln1, ln2, List.append_nil, ln4, ln5, ln6, ln7, ln8, ln9, putAt, putd, allObjs, argEnv, un_v, un_ptr, un_ep, un_pr, un_sl, un_mp, un_row, un_agg, un_tup, un_clo, Nat.zero_add, lnb, Nat.reduceAdd, lnc, lnd]; done))) ?_))
    refine ret_plain (.inl rfl) rfl (b_ret ?_)
    rw [List.drop_of_length_le (by omega)] at hf
    simp at hf
    simp [hf]
theorem rwalk_c (s : Sit) (g : Fine s.fl) (c : Int) : ACall Tryz.prog 37 [.agg (sitA s), .i c] [] (.b (decide (c ∈ walkP s.fl))) [] := by
  have hsz := size_eq g
  have cI := ris_c g c
  have hkl : (ints s.fl.k).length = s.fl.k.length := ints_length _
  by_cases hr : 0 ≤ c ∧ c < s.fl.size
  · have hi : (decide (0 ≤ c) && decide (c < s.fl.size)) = true := by
      rw [Bool.and_eq_true, decide_eq_true_eq, decide_eq_true_eq]; exact hr
    rw [hi] at cI
    have q1 := ints_gI (l := s.fl.k) (j := c) (i := c.toNat) 0 (by omega) (by omega)
    have hm : c ∈ walkP s.fl ↔ s.fl.k.getD c.toNat 0 = 4 ∨ s.fl.k.getD c.toNat 0 = 5 := by
      rw [mem_walk]; unfold wkB; rw [Bool.or_eq_true, decide_eq_true_eq, decide_eq_true_eq]; exact ⟨fun h => h.2.2, fun h => ⟨hr.1, by omega, h⟩⟩
    generalize s.fl.k.getD c.toNat 0 = y at *
    have hb : decide (c ∈ walkP s.fl) = decide (y = 4 ∨ y = 5) := by rw [decide_eq_decide]; exact hm
    rw [hb]
    refine acall T Tryz.func37 rfl rfl rfl rfl ?_
    repeat' (first|refine wS ?_|refine wK ?_|refine wR ?_|refine wU ?_|(refine rg 0 ?_;refine vc_n (by exact fs_box rfl rfl) rfl ?_;refine aV ?_)|(refine rg 1 ?_;refine fV T ?_;refine lV T ?_;refine mV ?_;refine vV (by exact kC (cI)) ?_;refine vV (by exact fs_not rfl) ?_)|(refine rg 3 ?_;(all_goals (refine fV T ?_;refine fV T ?_;refine lV T ?_;refine mV ?_;refine vV (by exact fs_indexRowE T rfl rfl rfl rfl rfl (by omega) (ints_len _) q1) ?_;refine lV T ?_;refine vV (by exact fs_eql rfl rfl) ?_;refine mV ?_));(all_goals (refine vc_split rfl rfl (fun hb=>?_) (fun hb=>?_)<;>((rw [hb];(try simp only [nm] at hb);try ((exfalso;omega);done)))));(all_goals first|(refine gT ?_;(refine fV T ?_);refine gT ?_;(refine fV T ?_);refine gT ?_;(refine lV T ?_);refine gT ?_;(refine mV ?_);refine gT ?_;(refine vV (by exact fs_indexRowE T rfl rfl rfl rfl rfl (by omega) (ints_len _) q1) ?_);refine gT ?_;(refine lV T ?_);refine gT ?_;(refine vV (by exact fs_eql rfl rfl) ?_))|(iterate 7 refine gF ?_));(all_goals ((refine pV ?_);refine aV ?_)))|refine nZ ?_)
    all_goals
      refine ret_plain (.inl rfl) rfl (b_ret ?_)
      first | (symm; exact decide_eq_true (by omega)) | (symm; exact decide_eq_false (by omega)) | (exact decide_eq_decide.2 (by omega)) | (simp [*]; done)
  · have hi : (decide (0 ≤ c) && decide (c < s.fl.size)) = false := by
      rw [← Bool.not_eq_true, Bool.and_eq_true, decide_eq_true_eq, decide_eq_true_eq]; exact hr
    rw [hi] at cI
    rw [decide_eq_false (fun h => by obtain ⟨h1, h2, _⟩ := mem_walk.1 h; exact hr ⟨h1, by omega⟩)]
    refine acall T Tryz.func37 rfl rfl rfl rfl ?_
    repeat' (first|refine wS ?_|refine wR ?_|refine wT ?_|(refine rg 0 ?_;refine vc_n (by exact fs_box rfl rfl) rfl ?_;refine aV ?_)|(refine rg 1 ?_;refine fV T ?_;refine lV T ?_;refine mV ?_;refine vV (by exact kC (cI)) ?_;refine vV (by exact fs_not rfl) ?_)|(refine rg 2 ?_;refine aV ?_)|refine nZ ?_)
    all_goals exact ret_plain (.inl rfl) rfl rfl
def SomeOk (s : Sit) (c : Int) (av l : List Int) : Prop :=
  (l = [] ∧ ∀ l', LaneP (netP s (walkP s.fl) c) l' → ∃ z, z ∈ l'.drop 1 ∧ z ∈ av) ∨ (LaneP (netP s (walkP s.fl) c) l ∧ ∀ z, z ∈ l.drop 1 → z ∉ av)
def frF (fr : List Int) (z : Int) : Int := if 0 ≤ z then fr.getD z.toNat (-1) else -1
theorem frF_set {fr : List Int} {y x z : Int} (h0 : 0 ≤ y) (h1 : y < fr.length) : frF (fr.set y.toNat x) z = if z = y then x else frF fr z := by
  unfold frF
  by_cases e : z = y
  · subst e; rw [if_pos h0, if_pos rfl, getD_set, if_pos ⟨rfl, by omega⟩]
  · rw [if_neg e]
    by_cases q : 0 ≤ z
    · rw [if_pos q, if_pos q, getD_set, if_neg (fun w => e (by omega))]
    · rw [if_neg q, if_neg q]
structure SmI (s : Sit) (c : Int) (av fr q : List Int) (i : Nat) : Prop where
  fl : fr.length = s.fl.k.length
  bq : Bq (netP s (walkP s.fl) c) (· ∈ av) q (frF fr)
  dn : Bdone (netP s (walkP s.fl) c) (· ∈ av) q i
  il : i ≤ q.length
  rg : ∀ y : Int, y ∈ q → 0 ≤ y ∧ y < s.fl.k.length
  vis : ∀ y : Int, 0 ≤ y → y < s.fl.k.length → (0 ≤ frF fr y ↔ y ∈ q)
theorem SmI.ql {s : Sit} {c : Int} {av fr q : List Int} {i : Nat} (h : SmI s c av fr q i) : q.length ≤ s.fl.k.length := by
  have := nodup_sub (m := (List.range s.fl.k.length).map fun i : Nat => (i : Int)) h.bq.nd fun x hx => by
    obtain ⟨a, b⟩ := h.rg x hx
    exact List.mem_map.2 ⟨x.toNat, List.mem_range.2 (by omega), by omega⟩
  simpa using this
theorem netP_ex (s : Sit) (W : List Int) (c x : Int) : (netP s W c).ex x = exB s.fl x := rfl
theorem ints_setP (l : List Int) (j : Nat) (v : Int) : (ints l).set j [AV.i v] = ints (l.set j v) := by
  simp [List.map_set]
theorem some_p (s : Sit) (g : Fine s.fl) (c : Int) (hc : 0 ≤ c ∧ c < s.fl.k.length) (av : List Int) (hav : av.length ≤ 1000) : PCall Tryz.prog 10 [.agg (sitA s), .i c, .rowE (ints av) 1] [] (fun r o => o = [] ∧ ∃ l, r = .rowE (ints l) 1 ∧ SomeOk s c av l) := by
  have hN := g.le
  have hkl : (ints s.fl.k).length = s.fl.k.length := ints_length _
  refine pcall_view (Φ := fun r o => (r = .nils ∧ o = [] ∧ SomeOk s c av []) ∨ (∃ l, r = .sl 0 0 l.length 1 ∧ o = [.arr (ints l) 1] ∧ SomeOk s c av l)) ?_ ?_
  rotate_left
  · rintro r o (⟨rfl, rfl, h⟩ | ⟨l, rfl, rfl, h⟩)
    · exact ⟨_, .nils 1, [], rfl, h⟩
    · exact ⟨_, view_ints rfl rfl, l, rfl, h⟩
  refine pcall T Tryz.func10 rfl rfl rfl rfl ?_
  repeat' (first|refine wS ?_|refine wB ?_|(refine rg 0 ?_;refine vc_n (by exact fs_box rfl rfl) rfl ?_;refine aV ?_)|(refine rg 1 ?_;refine fV T ?_;refine fV T ?_;refine lV T ?_;(refine qV T ?_);refine aV ?_)|(refine rg 2 ?_;refine mV ?_;refine vc_n (by exact fs_makeSlice T rfl rfl rfl rfl (by omega) (by omega) (by dsimp only;omega) (by omega) (by decide)) rfl ?_;refine aV ?_)|(refine rg 3 ?_;refine aV ?_)|refine nZ ?_)
  refine aw_loop (X := {p : Nat × List Int // p.1 ≤ s.fl.k.length ∧ p.2.length = s.fl.k.length ∧ ∀ i, i < p.1 → p.2.getD i (-1) = -1}) (fun p => [(1, .i c), (2, .rowE (ints av) 1), (3, .ptr 0 0), (7, .i s.fl.k.length), (8, .sl 1 0 s.fl.k.length 1), (9, .i (p.1.1 : Int))]) (fun p => [.cells (sitA s), .arr (ints p.1.2) 1]) (fun p => s.fl.k.length - p.1.1) ⟨(0, List.replicate s.fl.k.length 0), Nat.zero_le _, by simp, fun _ hi => absurd hi (Nat.not_lt_zero _)⟩ ?_ ?_
  · exact ⟨[0, 1], rfl, ⟨rfl, rfl, rfl, congrArg (fun n : Nat => some (AV.i n)) hkl, congrArg (fun n : Nat => some (AV.sl 1 0 n 1)) hkl, rfl, trivial⟩, ⟨.inr rfl, .inr (sub_arr rfl (by dsimp only; rw [hkl, Int.toNat_natCast]; exact (List.map_replicate (f := fun n : Int => [AV.i n]) (a := 0) (n := s.fl.k.length)).symm) (ints_idf _)), trivial⟩, by decide, fun _ hi => absurd hi (Nat.not_lt_zero _)⟩
  rintro ⟨⟨j, fr⟩, hj, hfl, hfi⟩
  dsimp only at hj hfl hfi ⊢
  have hfrl : (ints fr).length = s.fl.k.length := by rw [ints_length, hfl]
  by_cases hlt : j < s.fl.k.length
  · have q0 : (ints fr)[0 + (j : Int).toNat]? = some [AV.i (fr.getD j 0)] := by rw [Nat.zero_add]; exact ints_gI 0 (by omega) (by simp)
    have hfi2 : ∀ i, i < j + 1 → (fr.set j (-1)).getD i (-1) = -1 := fun i hi => by
      rw [getD_set]
      split
      · rfl
      · exact hfi i (by omega)
    have hst : (ints fr).set (0 + (j : Int).toNat) [AV.i (-1)] = ints (fr.set j (-1)) := by rw [Nat.zero_add, Int.toNat_natCast]; exact ints_setP _ _ _
    repeat' (first|refine wS ?_|refine wB ?_|refine wK ?_|refine wT ?_|(refine rg 4 ?_;refine mV ?_;refine mV ?_;refine vV (by exact fs_lssT rfl rfl (by omega)) ?_)|(refine rg 6 ?_;(all_goals (refine mV ?_;refine mV ?_;refine vV (by exact fs_indexOwn T rfl rfl rfl rfl rfl (by omega) (by omega)) ?_));(all_goals (refine vc_store T rfl rfl rfl rfl rfl rfl (by decide) (upd_ep rfl q0 rfl) ?_)))|(refine rg 5 ?_;refine mV ?_;refine vV (by exact fs_addr rfl rfl (by omega) (by omega)) ?_;refine aV ?_)|refine nZ ?_)
    all_goals exact ⟨⟨(j + 1, fr.set j (-1)), hlt, by simpa using hfl, hfi2⟩, by dsimp only; omega, [0, 1], rfl, (by (repeat (first | exact trivial | refine ⟨rfl, ?_⟩))), ⟨.inr rfl, .inr (sub_arr rfl hst (ints_idf _)), trivial⟩, by decide, fun _ hi => absurd hi (Nat.not_lt_zero _)⟩
  obtain rfl : j = s.fl.k.length := by omega
  have q0 : (ints fr)[0 + c.toNat]? = some [AV.i (fr.getD c.toNat 0)] := by rw [Nat.zero_add]; exact ints_gI 0 (by omega) (by omega)
  have hst : (ints fr).set (0 + c.toNat) [AV.i c] = ints (fr.set c.toNat c) := by rw [Nat.zero_add]; exact ints_setP _ _ _
  have hI : SmI s c av (fr.set c.toNat c) [c] 0 := by
    refine ⟨by simpa using hfl, .start, (fun k x hk => absurd hk (Nat.not_lt_zero _)), Nat.zero_le _, fun y hy => by simp at hy; subst hy; exact hc, fun y h0 h1 => ?_⟩
    rw [frF_set hc.1 (by omega)]
    by_cases e : y = c
    · subst e; simp [h0]
    · rw [if_neg e]; unfold frF; rw [if_pos h0, hfi _ (by omega)]; simp [e]
  clear hfi
  repeat' (first|refine wS ?_|refine wB ?_|refine wE ?_|refine wU ?_|(refine rg 4 ?_;refine mV ?_;refine mV ?_;refine vV (by exact fs_lssF rfl rfl (by omega)) ?_)|(refine rg 7 ?_;(all_goals (refine mV ?_;refine mV ?_;refine mV ?_;refine vV (by exact fs_indexOwn T rfl rfl rfl rfl rfl (by omega) (by omega)) ?_));(all_goals (refine vc_store T rfl rfl rfl rfl rfl rfl (by decide) (upd_ep rfl q0 rfl) ?_)))|(refine rg 8 ?_;refine mV ?_;refine vc_n (by exact fs_buildSlice T rfl rfl (by decide) (by decide) rfl rfl rfl) rfl ?_;refine aV ?_)|(refine rg 9 ?_;refine aV ?_)|refine nZ ?_)
  refine aw_loop (X := {p : List Int × List Int × Nat // SmI s c av p.1 p.2.1 p.2.2}) (fun p => [(1, .i c), (2, .rowE (ints av) 1), (3, .ptr 0 0), (8, .sl 1 0 s.fl.k.length 1), (10, .sl 2 0 p.1.2.1.length 1), (11, .i (p.1.2.2 : Int))]) (fun p => [.cells (sitA s), .arr (ints p.1.1) 1, .arr (ints p.1.2.1) 1]) (fun p => s.fl.k.length - p.1.2.2) ⟨(fr.set c.toNat c, [c], 0), hI⟩ ⟨[0, 1, 2], rfl, (by (repeat (first | exact trivial | refine ⟨rfl, ?_⟩))), ⟨.inr rfl, .inr (sub_arr rfl hst (ints_idf _)), .inr rfl, trivial⟩, by decide, fun _ hi => absurd hi (Nat.not_lt_zero _)⟩ ?_
  clear hI hst q0 hfl hfrl
  rintro ⟨⟨fr, q, i⟩, hI⟩
  dsimp only at hI ⊢
  have hql := hI.ql
  have hfl := hI.fl
  have hfrl : (ints fr).length = s.fl.k.length := by rw [ints_length, hfl]
  by_cases hil : i < q.length
  case neg =>
    have hie : i = q.length := by have := hI.il; omega
    have hok : SomeOk s c av [] := by
      refine .inl ⟨rfl, fun l' hl' => Classical.byContradiction fun hn => ?_⟩
      obtain ⟨_, r, rfl, hw⟩ := hl'
      have hd := hI.dn
      rw [hie] at hd
      refine hd.no r c (List.mem_of_getElem? hI.bq.head) hw fun y hy hya => hn ⟨y, ?_, hya⟩
      simpa using hy
    repeat' (first|refine wS ?_|refine wR ?_|refine wE ?_|refine wU ?_|(refine rg 10 ?_;refine mV ?_;refine mV ?_;(refine qV T ?_);refine vV (by exact fs_lssF rfl rfl (by omega)) ?_)|(refine rg 27 ?_;refine aV ?_)|refine nZ ?_)
    all_goals exact ⟨_, [], .inl ⟨rfl, rfl, hok⟩, .inl rfl, [], _, rfl, rfl, rfl, trivial, List.nodup_nil, fun _ hi => absurd hi (Nat.not_lt_zero _)⟩
  have hxq : q[i]? = some q[i] := List.getElem?_eq_getElem hil
  have qx : (ints q)[0 + (i : Int).toNat]? = some [AV.i q[i]] := by rw [Nat.zero_add, Int.toNat_natCast]; exact ints_get hil
  obtain ⟨hx0, hx1⟩ := hI.rg _ (List.getElem_mem hil)
  have qk := ints_gI (l := s.fl.k) (j := q[i]) (i := (q[i]).toNat) 0 (by omega) (by omega)
  generalize q[i] = x at *
  by_cases hx : s.fl.k.getD x.toNat 0 = 5
  · have hbl := Bl.start (g := netP s (walkP s.fl) c) (av := (· ∈ av)) hxq (by rw [netP_ex]; unfold exB; exact decide_eq_true hx)
    repeat' (first|refine wS ?_|refine wB ?_|refine wK ?_|refine wT ?_|(refine rg 10 ?_;refine mV ?_;refine mV ?_;(refine qV T ?_);refine vV (by exact fs_lssT rfl rfl (by omega)) ?_)|(refine rg 12 ?_;refine mV ?_;refine mV ?_;refine vV (by exact fs_indexOwn T rfl rfl rfl rfl rfl (by omega) (by omega)) ?_;refine vV (by exact fs_load T rfl rfl (behind_ep rfl qx) rfl) ?_;refine aV ?_)|(refine rg 13 ?_;refine fV T ?_;refine fV T ?_;refine vV (by exact fs_load T rfl rfl rfl rfl) ?_;refine mV ?_;refine vV (by exact fs_indexRowE T rfl rfl rfl rfl rfl (by omega) (ints_len _) qk) ?_;refine vV (by exact fs_load T rfl rfl rfl rfl) ?_;refine vV (by exact fs_eqlT rfl rfl hx) ?_)|(refine rg 14 ?_;refine aV ?_)|refine nZ ?_)
    refine aw_own 13 1 rfl (by decide) ?_
    refine aw_loop (X := {p : Int × List Int × Nat // Bl (netP s (walkP s.fl) c) (· ∈ av) q p.1 p.2.1 p.2.2}) (fun p => [(1, .i c), (8, .sl 0 0 s.fl.k.length 1), (12, .i p.1.1), (13, .sl 1 0 p.1.2.1.length 1)]) (fun p => [.arr (ints fr) 1, .arr (ints p.1.2.1) 1]) (fun p => p.1.2.2) ⟨(x, [], i), hbl⟩ ⟨[1, 3], rfl, (by (repeat (first | exact trivial | refine ⟨rfl, ?_⟩))), ⟨.inr (sub_arr rfl rfl (ints_idf _)), .inr rfl, trivial⟩, by decide, fun _ hi => absurd hi (Nat.not_lt_zero _)⟩ ?_
    rintro ⟨⟨z, l, k⟩, hb⟩
    dsimp only at hb ⊢
    have hll := hb.len
    by_cases hz : z = c
    · subst hz
      have hdn := Bl.done hI.bq hb
      have hok : SomeOk s z av (z :: l) := .inr ⟨hdn.1, fun y hy => hdn.2 y (by simpa using hy)⟩
      repeat' (first|refine wS ?_|refine wR ?_|refine wE ?_|refine wU ?_|(refine rg 15 ?_;refine mV ?_;refine mV ?_;refine vV (by exact fs_neqF rfl rfl rfl) ?_)|(refine rg 18 ?_;refine mV ?_;refine vc_n (by exact fs_buildSlice T rfl rfl (by decide) (by decide) rfl rfl rfl) rfl ?_;refine mV ?_;refine vc_append T rfl rfl rfl rfl rfl rfl (by simp) (Elems.whole rfl (by simp)) (ints_one _) (by simp;omega) (by simp;omega) rfl ?_;refine aV ?_)|refine nZ ?_)
      all_goals exact ⟨_, _, .inr ⟨z :: l, rfl, rfl, hok⟩, .inl rfl, [3], _, rfl, (by show AV.sl 3 0 (1 + (ints l).length) 1 = AV.sl 3 0 (z :: l).length 1; rw [ints_length, List.length_cons, Nat.add_comm]), rfl, ⟨.inr (sub_arr rfl rfl (ints_idf _)), trivial⟩, by decide, fun _ hi => absurd hi (Nat.not_lt_zero _)⟩
    · obtain ⟨m, hmk, hb2⟩ := Bl.more hI.bq hb hz
      obtain ⟨hz0, hz1⟩ := hI.rg _ (List.mem_of_getElem? hb.at')
      have qz : (ints fr)[0 + z.toNat]? = some [AV.i (fr.getD z.toNat (-1))] := by rw [Nat.zero_add]; exact ints_gI (-1) (by omega) (by omega)
      have hfz : frF fr z = fr.getD z.toNat (-1) := by unfold frF; rw [if_pos hz0]
      rw [hfz] at hb2
      repeat' (first|refine wS ?_|refine wB ?_|refine wK ?_|refine wT ?_|(refine rg 15 ?_;refine mV ?_;refine mV ?_;refine vV (by exact fs_neqT rfl rfl hz) ?_)|(refine rg 16 ?_;refine mV ?_;refine vc_n (by exact fs_buildSlice T rfl rfl (by decide) (by decide) rfl rfl rfl) rfl ?_;refine mV ?_;refine vc_append T rfl rfl rfl rfl rfl rfl (by simp) (Elems.whole rfl (by simp)) (ints_one _) (by simp;omega) (by simp;omega) rfl ?_;refine aV ?_)|(refine rg 17 ?_;refine mV ?_;refine mV ?_;refine vV (by exact fs_indexOwn T rfl rfl rfl rfl rfl (by omega) (by omega)) ?_;refine vV (by exact fs_load T rfl rfl (behind_ep rfl qz) rfl) ?_;refine aV ?_)|refine nZ ?_)
      all_goals exact ⟨⟨(_, z :: l, m), hb2⟩, hmk, [0, 3], rfl, ⟨rfl, rfl, rfl, congrArg (fun n : Nat => some (AV.sl 3 0 n 1)) (show 1 + (ints l).length = (z :: l).length by rw [ints_length, List.length_cons, Nat.add_comm]), trivial⟩, ⟨.inr (sub_arr rfl rfl (ints_idf _)), .inr (sub_arr rfl rfl (ints_idf _)), trivial⟩, by decide, fun _ hi => absurd hi (Nat.not_lt_zero _)⟩
  · have hxe : exB s.fl x = false := by unfold exB; exact decide_eq_false hx
    repeat' (first|refine wS ?_|refine wB ?_|refine wK ?_|refine wT ?_|refine wU ?_|(refine rg 10 ?_;refine mV ?_;refine mV ?_;(refine qV T ?_);refine vV (by exact fs_lssT rfl rfl (by omega)) ?_)|(refine rg 12 ?_;refine mV ?_;refine mV ?_;refine vV (by exact fs_indexOwn T rfl rfl rfl rfl rfl (by omega) (by omega)) ?_;refine vV (by exact fs_load T rfl rfl (behind_ep rfl qx) rfl) ?_;refine aV ?_)|(refine rg 13 ?_;refine fV T ?_;refine fV T ?_;refine vV (by exact fs_load T rfl rfl rfl rfl) ?_;refine mV ?_;refine vV (by exact fs_indexRowE T rfl rfl rfl rfl rfl (by omega) (ints_len _) qk) ?_;refine vV (by exact fs_load T rfl rfl rfl rfl) ?_;refine vV (by exact fs_eqlF rfl rfl hx) ?_)|(refine rg 19 ?_;refine aV ?_)|refine nZ ?_)
    clear qx qk hql hfl hfrl
    refine aw_loop (X := {p : List Int × List Int × Nat // SmI s c av p.1 p.2.1 i ∧ p.2.1[i]? = some x ∧ p.2.2 ≤ 6 ∧ ∀ d : Nat, d < p.2.2 → ∀ y, nextI s.fl x d = some y → y ∈ walkP s.fl → y ∉ av → y ∈ p.2.1}) (fun p => [(1, .i c), (2, .rowE (ints av) 1), (3, .ptr 0 0), (8, .sl 1 0 s.fl.k.length 1), (10, .sl 2 0 p.1.2.1.length 1), (11, .i (i : Int)), (12, .i x), (14, .i (p.1.2.2 : Int))]) (fun p => [.cells (sitA s), .arr (ints p.1.1) 1, .arr (ints p.1.2.1) 1]) (fun p => 6 - p.1.2.2) ⟨(fr, q, 0), hI, hxq, Nat.zero_le _, fun d hd => absurd hd (Nat.not_lt_zero _)⟩ ⟨[0, 1, 2], rfl, (by (repeat (first | exact trivial | refine ⟨rfl, ?_⟩))), ⟨.inr rfl, .inr (sub_arr rfl rfl (ints_idf _)), .inr (sub_arr rfl rfl (ints_idf _)), trivial⟩, by decide, fun _ hi => absurd hi (Nat.not_lt_zero _)⟩ ?_
    clear hI hxq hil
    rintro ⟨⟨fr, q, d⟩, hI, hxq, hd6, hds⟩
    dsimp only at hI hxq hd6 hds ⊢
    have hql := hI.ql
    have hfl := hI.fl
    have hfrl : (ints fr).length = s.fl.k.length := by rw [ints_length, hfl]
    by_cases hd : d < 6
    case neg =>
      obtain rfl : d = 6 := by omega
      have hdn : Bdone (netP s (walkP s.fl) c) (· ∈ av) q (i + 1) := hI.dn.next hxq hxe fun y hy hya => by
        obtain ⟨h1, d, h2, h3⟩ := mem_stepP.1 hy
        exact hds d h2 y h3 h1 hya
      have hil := (List.getElem?_eq_some_iff.1 hxq).1
      repeat' (first|refine wS ?_|refine wE ?_|refine wU ?_|(refine rg 20 ?_;refine mV ?_;refine vV (by exact fs_lssF rfl rfl (by omega)) ?_)|(refine rg 11 ?_;refine mV ?_;refine vV (by exact fs_addr rfl rfl (by omega) (by omega)) ?_;refine aV ?_)|refine nZ ?_)
      all_goals exact ⟨⟨(fr, q, i + 1), ⟨hI.fl, hI.bq, hdn, hil, hI.rg, hI.vis⟩⟩, by dsimp only; omega, [0, 1, 2], rfl, (by (repeat (first | exact trivial | refine ⟨rfl, ?_⟩))), ⟨.inr rfl, .inr (sub_arr rfl rfl (ints_idf _)), .inr (sub_arr rfl rfl (ints_idf _)), trivial⟩, by decide, fun _ hi => absurd hi (Nat.not_lt_zero _)⟩
    have cn := rnext_c g x d
    have more : ∀ q' : List Int, (∀ z, z ∈ q → z ∈ q') → (∀ y, nextI s.fl x d = some y → y ∈ walkP s.fl → y ∉ av → y ∈ q') → ∀ d' : Nat, d' < d + 1 → ∀ y, nextI s.fl x d' = some y → y ∈ walkP s.fl → y ∉ av → y ∈ q' := fun q' h1 h2 d' hd' y hy hw ha => by
      by_cases e : d' = d
      · subst e; exact h2 y hy hw ha
      · exact h1 _ (hds d' (by omega) y hy hw ha)
    cases hm : nextI s.fl x d with
    | none =>
      rw [hm] at cn more
      have hmo := more q (fun _ h => h) (fun y h => nomatch h)
      repeat' (first|refine wS ?_|refine wB ?_|refine wK ?_|refine wT ?_|refine wU ?_|(refine rg 20 ?_;refine mV ?_;refine vV (by exact fs_lssT rfl rfl (by omega)) ?_)|(refine rg 22 ?_;refine fV T ?_;refine lV T ?_;refine mV ?_;refine mV ?_;refine vV (by exact kC (cn)) ?_;refine mV ?_;refine xV ?_;refine xV ?_;refine aV ?_;refine aV ?_)|(refine rg 23 ?_;refine mV ?_)|(refine rg 21 ?_;refine mV ?_;refine vV (by exact fs_addr rfl rfl (by omega) (by omega)) ?_;refine aV ?_)|refine nZ ?_)
      all_goals exact ⟨⟨(fr, q, d + 1), hI, hxq, hd, hmo⟩, by dsimp only; omega, [0, 1, 2], rfl, (by (repeat (first | exact trivial | refine ⟨rfl, ?_⟩))), ⟨.inr rfl, .inr (sub_arr rfl rfl (ints_idf _)), .inr (sub_arr rfl rfl (ints_idf _)), trivial⟩, by decide, fun _ hi => absurd hi (Nat.not_lt_zero _)⟩
    | some y =>
      have cw := rwalk_c s g y
      have ch := rhas7_c av y hav
      rw [hm] at cn more
      have hyr := (next_some g hm).2.2.1
      have hsz := size_eq g
      have hvis := hI.vis y hyr.1 (by omega)
      have hfy : frF fr y = fr.getD y.toNat (-1) := by unfold frF; rw [if_pos hyr.1]
      rw [hfy] at hvis
      have qy : (ints fr)[0 + y.toNat]? = some [AV.i (fr.getD y.toNat (-1))] := by rw [Nat.zero_add]; exact ints_gI (-1) (by omega) (by omega)
      have hadd : y ∈ walkP s.fl → y ∉ av → y ∉ q → SmI s c av (fr.set y.toNat x) (q ++ [y]) i := fun hw ha hn => by
        have hsp : y ∈ (netP s (walkP s.fl) c).sp x := mem_stepP.2 ⟨hw, d, hd, hm⟩
        refine ⟨by simpa using hfl, hI.bq.add hxq hsp ha hxe hn (by rw [frF_set hyr.1 (by omega), if_pos rfl]) (fun z hz => by rw [frF_set hyr.1 (by omega), if_neg hz]), hI.dn.add hI.il y, by rw [List.length_append]; have := hI.il; omega, fun z hz => ?_, fun z h0 h1 => ?_⟩
        · rcases List.mem_append.1 hz with hz | hz
          · exact hI.rg z hz
          · simp at hz; subst hz; exact ⟨hyr.1, by omega⟩
        · rw [frF_set hyr.1 (by omega), List.mem_append, List.mem_singleton]
          by_cases e : z = y
          · subst e; simp [hx0]
          · rw [if_neg e, hI.vis z h0 h1]; simp [e]
      generalize fr.getD y.toNat (-1) = v at *
      have hno : (y ∉ walkP s.fl ∨ 0 ≤ v ∨ y ∈ av) ∨ (y ∈ walkP s.fl ∧ v < 0 ∧ y ∉ av) := by
        by_cases h1 : y ∈ walkP s.fl
        · by_cases h2 : 0 ≤ v
          · exact .inl (.inr (.inl h2))
          · by_cases h3 : y ∈ av
            · exact .inl (.inr (.inr h3))
            · exact .inr ⟨h1, by omega, h3⟩
        · exact .inl (.inl h1)
      rcases hno with hno | ⟨hw, hv, ha⟩
      · have hmo := more q (fun _ h => h) (fun z h hw ha => by
          cases h
          rcases hno with h | h | h
          · exact absurd hw h
          · exact hvis.1 h
          · exact absurd h ha)
        have fin : ∀ (e : Unit), True := fun _ => trivial
        by_cases h1 : y ∈ walkP s.fl
        · rw [decide_eq_true h1] at cw
          by_cases h2 : v < 0
          · have h3 : y ∈ av := by rcases hno with h | h | h; exact absurd h1 h; omega; exact h
            rw [decide_eq_true h3] at ch
            repeat' (first|refine wS ?_|refine wB ?_|refine wK ?_|refine wT ?_|refine wU ?_|(refine rg 20 ?_;refine mV ?_;refine vV (by exact fs_lssT rfl rfl (by omega)) ?_)|(refine rg 22 ?_;refine fV T ?_;refine vV (by exact fs_load T rfl rfl rfl rfl) ?_;refine mV ?_;refine mV ?_;refine vV (by exact kC (cn)) ?_;refine mV ?_;refine xV ?_;refine xV ?_;refine aV ?_;refine aV ?_)|(refine rg 23 ?_;refine mV ?_)|(refine rg 24 ?_;(all_goals (refine vV (by exact fs_load T rfl rfl rfl rfl) ?_;refine mV ?_;refine vV (by exact kC (cw)) ?_;refine mV ?_));(all_goals (refine gK ?_));(all_goals (refine gT ?_;(refine mV ?_);refine gT ?_;(refine mV ?_);refine gT ?_;(refine vV (by exact fs_indexOwn (j := y) T rfl rfl rfl rfl rfl (by omega) (by omega)) ?_);refine gT ?_;(refine vV (by exact fs_load T rfl rfl (behind_ep rfl qy) rfl) ?_);refine gT ?_;(refine vV (by exact fs_lssT rfl rfl (by omega)) ?_)));(all_goals ((refine pV ?_);refine mV ?_));(all_goals (refine gK ?_));(all_goals (refine gT ?_;(refine mV ?_);refine gT ?_;(refine mV ?_);refine gT ?_;(refine vV (by exact kC (ch)) ?_);refine gT ?_;(refine vV (by exact fs_not rfl) ?_)));(all_goals (refine pV ?_)))|(refine rg 21 ?_;refine mV ?_;refine vV (by exact fs_addr rfl rfl (by omega) (by omega)) ?_;refine aV ?_)|refine nZ ?_)
            all_goals exact ⟨⟨(fr, q, d + 1), hI, hxq, hd, hmo⟩, by dsimp only; omega, [0, 1, 2], rfl, (by (repeat (first | exact trivial | refine ⟨rfl, ?_⟩))), ⟨.inr rfl, .inr (sub_arr rfl rfl (ints_idf _)), .inr (sub_arr rfl rfl (ints_idf _)), trivial⟩, by decide, fun _ hi => absurd hi (Nat.not_lt_zero _)⟩
          · repeat' (first|refine wS ?_|refine wB ?_|refine wK ?_|refine aw_condt rfl ?_|refine aw_condf rfl ?_|(((refine rg 20 ?_)); (all_goals (refine mV ?_; refine vV (by exact fs_lssT rfl rfl (by omega)) ?_)))|(((refine rg 22 ?_)); (all_goals (refine fV T ?_; refine vV (by exact fs_load T rfl rfl rfl rfl) ?_; refine mV ?_; refine mV ?_; refine vV (by exact kC (cn)) ?_; refine mV ?_; refine xV ?_; refine xV ?_; refine aV ?_; refine aV ?_)))|(((refine rg 23 ?_)); (all_goals (refine mV ?_)))|(((refine rg 24 ?_)); (all_goals (refine vV (by exact fs_load T rfl rfl rfl rfl) ?_; refine mV ?_; refine vV (by exact kC (cw)) ?_; refine mV ?_)); (all_goals (refine gK ?_)); (all_goals (refine gT ?_; (refine mV ?_); refine gT ?_; (refine mV ?_); refine gT ?_; (refine vV (by exact fs_indexOwn (j := y) T rfl rfl rfl rfl rfl (by omega) (by omega)) ?_); refine gT ?_; (refine vV (by exact fs_load T rfl rfl (behind_ep rfl qy) rfl) ?_); refine gT ?_; (refine vV (by exact fs_lssF rfl rfl (by omega)) ?_))); (all_goals ((refine pV ?_); refine mV ?_)); (all_goals (refine gK ?_)); (all_goals (iterate 4 refine gF ?_)); (all_goals (refine pV ?_)))|(((refine rg 21 ?_)); (all_goals (refine mV ?_; refine vV (by exact fs_addr rfl rfl (by omega) (by omega)) ?_; refine aV ?_)))|(refine vc_nilp (by ((dsimp only [ln1, ln2, List.append_nil, ln4, ln5, ln6, ln7, ln8, ln9, putAt, putd, allObjs, argEnv, un_v, un_ptr, un_ep, un_pr, un_sl, un_mp, un_row, un_agg, un_tup, un_clo, Nat.zero_add, lnb, Nat.reduceAdd, lnc, lnd]; done))) ?_))
            all_goals exact ⟨⟨(fr, q, d + 1), hI, hxq, hd, hmo⟩, by dsimp only; omega, [0, 1, 2], rfl, (by (repeat (first | exact trivial | refine ⟨rfl, ?_⟩))), ⟨.inr rfl, .inr (sub_arr rfl rfl (ints_idf _)), .inr (sub_arr rfl rfl (ints_idf _)), trivial⟩, by decide, fun _ hi => absurd hi (Nat.not_lt_zero _)⟩
        · rw [decide_eq_false h1] at cw
          repeat' (first|refine wS ?_|refine wB ?_|refine wK ?_|refine wT ?_|refine wU ?_|(refine rg 20 ?_;refine mV ?_;refine vV (by exact fs_lssT rfl rfl (by omega)) ?_)|(refine rg 22 ?_;refine fV T ?_;refine lV T ?_;refine mV ?_;refine mV ?_;refine vV (by exact kC (cn)) ?_;refine mV ?_;refine xV ?_;refine xV ?_;refine aV ?_;refine aV ?_)|(refine rg 23 ?_;refine mV ?_)|(refine rg 24 ?_;(all_goals (refine lV T ?_;refine mV ?_;refine vV (by exact kC (cw)) ?_;refine mV ?_));(all_goals (refine gK ?_));(all_goals (iterate 5 refine gF ?_));(all_goals ((refine pV ?_);refine mV ?_));(all_goals (refine gK ?_));(all_goals (iterate 4 refine gF ?_));(all_goals (refine pV ?_)))|(refine rg 21 ?_;refine mV ?_;refine vV (by exact fs_addr rfl rfl (by omega) (by omega)) ?_;refine aV ?_)|refine nZ ?_)
          all_goals exact ⟨⟨(fr, q, d + 1), hI, hxq, hd, hmo⟩, by dsimp only; omega, [0, 1, 2], rfl, (by (repeat (first | exact trivial | refine ⟨rfl, ?_⟩))), ⟨.inr rfl, .inr (sub_arr rfl rfl (ints_idf _)), .inr (sub_arr rfl rfl (ints_idf _)), trivial⟩, by decide, fun _ hi => absurd hi (Nat.not_lt_zero _)⟩
      · rw [decide_eq_true hw] at cw
        rw [decide_eq_false ha] at ch
        have hI2 := hadd hw ha (fun h => by have := hvis.2 h; omega)
        have hmo := more (q ++ [y]) (fun z h => List.mem_append_left _ h) (fun z h _ _ => by cases h; simp)
        have hxq2 : (q ++ [y])[i]? = some x := by rw [List.getElem?_append_left (List.getElem?_eq_some_iff.1 hxq).1]; exact hxq
        have hst : (ints fr).set (0 + y.toNat) [AV.i x] = ints (fr.set y.toNat x) := by rw [Nat.zero_add]; exact ints_setP _ _ _
        repeat' (first|refine wS ?_|refine wB ?_|refine wK ?_|refine wT ?_|(refine rg 20 ?_;refine mV ?_;refine vV (by exact fs_lssT rfl rfl (by omega)) ?_)|(refine rg 22 ?_;refine fV T ?_;refine vV (by exact fs_load T rfl rfl rfl rfl) ?_;refine mV ?_;refine mV ?_;refine vV (by exact kC (cn)) ?_;refine mV ?_;refine xV ?_;refine xV ?_;refine aV ?_;refine aV ?_)|(refine rg 23 ?_;refine mV ?_)|(refine rg 24 ?_;(all_goals (refine vV (by exact fs_load T rfl rfl rfl rfl) ?_;refine mV ?_;refine vV (by exact kC (cw)) ?_;refine mV ?_));(all_goals (refine gK ?_));(all_goals (refine gT ?_;(refine mV ?_);refine gT ?_;(refine mV ?_);refine gT ?_;(refine vV (by exact fs_indexOwn (j := y) T rfl rfl rfl rfl rfl (by omega) (by omega)) ?_);refine gT ?_;(refine vV (by exact fs_load T rfl rfl (behind_ep rfl qy) rfl) ?_);refine gT ?_;(refine vV (by exact fs_lssT rfl rfl (by omega)) ?_)));(all_goals ((refine pV ?_);refine mV ?_));(all_goals (refine gK ?_));(all_goals (refine gT ?_;(refine mV ?_);refine gT ?_;(refine mV ?_);refine gT ?_;(refine vV (by exact kC (ch)) ?_);refine gT ?_;(refine vV (by exact fs_not rfl) ?_)));(all_goals (refine pV ?_)))|(refine rg 25 ?_;(all_goals (refine mV ?_;refine mV ?_;refine mV ?_;refine vV (by exact fs_indexOwn (j := y) T rfl rfl rfl rfl rfl (by omega) (by omega)) ?_));(all_goals (refine vc_store T rfl rfl rfl rfl rfl rfl (by decide) (upd_ep rfl qy rfl) ?_)))|(refine rg 26 ?_;refine mV ?_;refine mV ?_;refine vc_n (by exact fs_buildSlice T rfl rfl (by decide) (by decide) rfl rfl rfl) rfl ?_;refine vc_append T rfl rfl rfl rfl rfl rfl (by simp) (Elems.whole rfl rfl) rfl (by simp;omega) (by simp;omega) rfl ?_;refine aV ?_)|(refine rg 21 ?_;refine mV ?_;refine vV (by exact fs_addr rfl rfl (by omega) (by omega)) ?_;refine aV ?_)|refine nZ ?_)
        all_goals exact ⟨⟨(fr.set y.toNat x, q ++ [y], d + 1), hI2, hxq2, hd, hmo⟩, by dsimp only; omega, [0, 1, 4], rfl, ⟨rfl, rfl, rfl, rfl, by dsimp only; rw [List.length_append]; rfl, rfl, rfl, rfl, trivial⟩, ⟨.inr rfl, .inr (sub_arr rfl hst (ints_idf _)), .inr (sub_arr rfl ints_app (ints_idf _)), trivial⟩, by decide, fun _ hi => absurd hi (Nat.not_lt_zero _)⟩
end Go.Proofs.YtjpcpbbkelgkeaaGreat
namespace Go.Proofs.YtjpcpbbkelgkeaaGreat
open Go Go.Ab Go.Fl Go.Re
attribute [local irreducible] VC AW FStep ACall AY VY AIter
set_option maxHeartbeats 4000000
theorem clone_o (l : List Int) (hl : l.length ≤ 1000000) : ACall Tryz.prog 79 [.rowE (ints l) 1] [] (.sl 0 0 l.length 1) [.arr (ints l) 1] := by
  have hll : (ints l).length = l.length := by simp
  refine acall T Tryz.func79 rfl rfl rfl rfl ?_
  repeat' (first|refine wS ?_|refine wK ?_|refine wT ?_|refine wU ?_|(refine rg 0 ?_;refine aV ?_)|(refine rg 1 ?_;(all_goals (refine mV ?_));(all_goals (refine vc_eqNil T rfl rfl rfl rfl fun b hb=>?_;cases b)))|refine nZ ?_)
  · repeat' (first|refine wR ?_|(((refine rg 3 ?_)); (all_goals (refine vc_n (by exact fs_buildSlice T rfl rfl (by decide) (by decide) rfl rfl rfl) rfl ?_; refine mV ?_; refine vc_append T rfl rfl rfl rfl rfl rfl (by decide) (.row (ints_len l)) (ints_one l) (by simp; omega) (by simp; omega) rfl ?_; refine aV ?_)))|(refine vc_nilp (by ((dsimp only [ln1, ln2, List.append_nil, ln4, ln5, ln6, ln7, ln8, ln9, putAt, putd, allObjs, argEnv, un_v, un_ptr, un_ep, un_pr, un_sl, un_mp, un_row, un_agg, un_tup, un_clo, Nat.zero_add, lnb, Nat.reduceAdd, lnc, lnd]; done))) ?_))
    exact ⟨.inl rfl, [1], _, rfl, (by show AV.sl 1 0 (0 + (ints l).length) 1 = AV.sl 1 0 l.length 1; simp), rfl, ⟨.inr (sub_arr rfl rfl (ints_idf _)), trivial⟩, by decide, fun _ hi => absurd hi (Nat.not_lt_zero _)⟩
  · have hl0 : l = [] := List.length_eq_zero_iff.1 (Classical.byContradiction fun h => by have := hb (by omega); cases this)
    subst hl0
    repeat' (first|refine wR ?_|(refine rg 2 ?_;(all_goals (refine vV (by exact fs_assign rfl) ?_;refine vc_own 2 1 rfl (by decide) ?_)))|refine nZ ?_)
    exact ⟨.inl rfl, [0], _, rfl, rfl, rfl, ⟨.inr (sub_arr rfl rfl (ints_idf _)), trivial⟩, by decide, fun _ hi => absurd hi (Nat.not_lt_zero _)⟩
def fidxI (q : Int → Bool) : List Int → Nat → Int
  | [], _ => -1
  | a :: l, k => if q a then k else fidxI q l (k + 1)
theorem fidxI_drop {q : Int → Bool} {l : List Int} {k : Nat} (h : k < l.length) : fidxI q (l.drop k) k = if q l[k] then (k : Int) else fidxI q (l.drop (k + 1)) (k + 1) := by
  rw [List.drop_eq_getElem_cons h]; rfl
theorem fidxI_spec (q : Int → Bool) : ∀ (l : List Int) (k : Nat), (fidxI q l k = -1 ∧ ∀ x, x ∈ l → q x = false) ∨ ∃ j, ∃ h : j < l.length, fidxI q l k = ((k + j : Nat) : Int) ∧ q l[j] = true ∧ ∀ x, x ∈ l.take j → q x = false
  | [], k => .inl ⟨rfl, fun x h => nomatch h⟩
  | a :: l, k => by
    unfold fidxI
    cases e : q a
    · rw [if_neg (by simp)]
      rcases fidxI_spec q l (k + 1) with ⟨h1, h2⟩ | ⟨j, hj, h1, h2, h3⟩
      · exact .inl ⟨h1, fun x hx => by rcases List.mem_cons.1 hx with rfl | h; exact e; exact h2 x h⟩
      · refine .inr ⟨j + 1, by simpa using hj, by rw [h1]; omega, h2, fun x hx => ?_⟩
        rw [List.take_succ_cons] at hx
        rcases List.mem_cons.1 hx with rfl | h
        · exact e
        · exact h3 x h
    · rw [if_pos rfl]
      exact .inr ⟨0, by simp, by simp, e, fun x hx => by simp at hx⟩
theorem idxQ_c {F : FuncId} {q : Int → Bool} (l : List Int) (hl : l.length ≤ 1000000) (hF : ∀ a, ACall Tryz.prog F [.i a] [] (.b (q a)) []) :
    ACall Tryz.prog 113 [.rowE (ints l) 1, .clo (.func F) [] []] [] (.i (fidxI q l 0)) [] := by
  have hlen : (ints l).length = l.length := by simp
  refine acall T Tryz.func113 rfl rfl rfl rfl ?_
  repeat' (first|refine wS ?_|refine wB ?_|(refine rg 0 ?_;refine aV ?_)|(refine rg 1 ?_;refine mV ?_;(refine qV T ?_);refine mV ?_)|refine nZ ?_)
  refine aw_loop (X := {k : Nat // k ≤ l.length ∧ fidxI q l 0 = fidxI q (l.drop k) k}) (fun k => [(0, .rowE (ints l) 1), (1, .clo (.func F) [] []), (7, .i (ints l).length), (8, .i k.1)]) (fun _ => []) (fun k => l.length - k.1) ⟨0, by simp, rfl⟩ (by (refine ⟨[], rfl, ?_, trivial, List.nodup_nil, fun _ h => absurd h (Nat.not_lt_zero _)⟩; (repeat (first | exact trivial | refine ⟨rfl, ?_⟩)))) ?_
  rintro ⟨k, hk, hf⟩
  dsimp only
  by_cases hlt : k < l.length
  · have hd := fidxI_drop (q := q) hlt
    have hget := ints_get hlt
    have hc := hF l[k]
    repeat' (first|refine wS ?_|refine wB ?_|refine wK ?_|refine wR ?_|(refine wC rfl (fun hb=>?_) (fun hb=>?_)<;>(((try simp only [nm] at hb);try (exfalso;omega))))|(refine rg 2 ?_;refine vV (by exact fs_lss rfl rfl) ?_)|(refine rg 3 ?_;refine mV ?_;refine aV ?_)|(refine rg 4 ?_;refine mV ?_;refine mV ?_;refine mV ?_;refine vV (by exact fs_indexRowE T rfl rfl rfl rfl rfl (by omega) (ints_len l) hget) ?_;refine lV T ?_;refine vV (by exact kC (hc)) ?_)|(refine rg 5 ?_;refine mV ?_;refine aV ?_)|(refine rg 6 ?_;refine vV (by exact fs_addr rfl rfl (by omega) (by omega)) ?_;refine mV ?_)|refine nZ ?_)
    all_goals try (exfalso; omega)
    · refine ret_plain (.inl rfl) rfl ?_
      rw [hf, hd, if_pos (by simpa using hb)]; rfl
    · refine ⟨⟨k + 1, by omega, ?_⟩, by dsimp only; omega, by (refine ⟨[], rfl, ?_, trivial, List.nodup_nil, fun _ h => absurd h (Nat.not_lt_zero _)⟩; (repeat (first | exact trivial | refine ⟨rfl, ?_⟩)))⟩
      rw [hf, hd, if_neg (by simpa using hb)]
  · repeat' (first|refine wS ?_|refine wR ?_|refine wE ?_|(refine wC rfl (fun hb => ?_) (fun hb => ?_) <;> (((try simp only [nm] at hb); try (exfalso; omega))))|(((refine rg 2 ?_)); (all_goals (refine vV (by exact fs_lss rfl rfl) ?_)))|(((refine rg 7 ?_)); (all_goals (refine aV ?_)))|(refine vc_nilp (by ((dsimp only [ln1, ln2, List.append_nil, ln4, ln5, ln6, ln7, ln8, ln9, putAt, putd, allObjs, argEnv, un_v, un_ptr, un_ep, un_pr, un_sl, un_mp, un_row, un_agg, un_tup, un_clo, Nat.zero_add, lnb, Nat.reduceAdd, lnc, lnd]; done))) ?_))
    all_goals try (exfalso; omega)
    refine ret_plain (.inl rfl) rfl ?_
    rw [hf, List.drop_of_length_le (by omega)]; rfl
abbrev keepM (q : Int → Bool) (l : List Int) : List Int := l.filter fun x => !q x
theorem keep_take {q : Int → Bool} {l : List Int} {k : Nat} (h : k < l.length) : keepM q (l.take (k + 1)) = if q l[k] then keepM q (l.take k) else keepM q (l.take k) ++ [l[k]] := by
  unfold keepM
  rw [List.take_succ_eq_append_getElem h, List.filter_append]
  cases e : q l[k] <;> simp [e]
theorem keep_le (q : Int → Bool) (l : List Int) (k : Nat) : (keepM q (l.take k)).length ≤ k := Nat.le_trans (List.length_filter_le _ _) (by simp; omega)
theorem at_own {G l : List Int} {m : Nat} (hg : G.length ≤ m) (hm : m < l.length) : (ints (G ++ l.drop G.length))[0 + (m : Int).toNat]? = some [AV.i l[m]] := by
  rw [Nat.zero_add, Int.toNat_natCast, List.getElem?_map, List.getElem?_append_right hg, List.getElem?_drop, show G.length + (m - G.length) = m by omega, List.getElem?_eq_getElem hm]; rfl
theorem set_own {G l : List Int} {x : Int} (hg : G.length < l.length) : (ints (G ++ l.drop G.length)).set (0 + (G.length : Int).toNat) [AV.i x] = ints ((G ++ [x]) ++ l.drop (G ++ [x]).length) := by
  rw [Nat.zero_add, Int.toNat_natCast, ← List.map_set, List.set_append_right _ _ (Nat.le_refl _), Nat.sub_self, List.drop_eq_getElem_cons hg, List.set_cons_zero]
  simp
theorem own_len {G l : List Int} (hg : G.length ≤ l.length) : (ints (G ++ l.drop G.length)).length = l.length := by simp; omega
theorem take_own {G l : List Int} : (ints (G ++ l.drop G.length)).take (0 + (G.length : Int).toNat) = ints G := by
  rw [Nat.zero_add, Int.toNat_natCast, ← List.map_take, List.take_append_of_le_length (Nat.le_refl _), List.take_of_length_le (Nat.le_refl _)]
theorem delete_c {F : FuncId} {q : Int → Bool} (l : List Int) (hl : l.length ≤ 1000000) (hF : ∀ a, ACall Tryz.prog F [.i a] [] (.b (q a)) []) :
    ACall Tryz.prog 78 [.sl 0 0 l.length 1, .clo (.func F) [] []] [.arr (ints l) 1] (.sl 0 0 (keepM q l).length 1) [.arr (ints (keepM q l)) 1] := by
  have hll : (ints l).length = l.length := by simp
  have hi := idxQ_c l hl hF
  refine acall T Tryz.func78 rfl rfl rfl rfl ?_
  rcases fidxI_spec q l 0 with ⟨h1, h2⟩ | ⟨j, hj, h1, h2, h3⟩
  · rw [h1] at hi
    have hk : keepM q l = l := List.filter_eq_self.2 fun x hx => by rw [h2 x hx]; rfl
    rw [hk]
    repeat' (first|refine wS ?_|refine wR ?_|refine wT ?_|(refine rg 0 ?_;refine aV ?_)|(refine rg 1 ?_;refine mV ?_;refine mV ?_;refine vV (by exact fs_callb0 rfl rfl hi (.cons (view_ints rfl rfl) (.cons (.clo .nil .nil) .nil)) rfl rfl) ?_;refine aV ?_)|(refine rg 2 ?_;refine mV ?_;refine vV (by exact fs_eql rfl rfl) ?_)|(refine rg 3 ?_;refine mV ?_;refine aV ?_)|refine nZ ?_)
    all_goals first | (exfalso; omega) | exact ⟨.inl rfl, [0], _, rfl, rfl, rfl, ⟨.inr (sub_arr rfl rfl (ints_idf _)), trivial⟩, by decide, lt1z⟩
  · rw [h1, Nat.zero_add] at hi
    have hk0 : keepM q (l.take (j + 1)) = l.take j := by
      rw [keep_take hj, if_pos h2]
      exact List.filter_eq_self.2 fun x hx => by rw [h3 x hx]; rfl
    have hkl : (keepM q (l.take (j + 1))).length = j := by rw [hk0]; simp; omega
    have hka : keepM q (l.take (j + 1)) ++ l.drop (keepM q (l.take (j + 1))).length = l := by rw [hkl, hk0, List.take_append_drop]
    have hkf : keepM q l = keepM q (l.take l.length) := by rw [List.take_length]
    rw [hkf]
    repeat' (first|refine wS ?_|refine wB ?_|refine wK ?_|refine wU ?_|(refine rg 0 ?_;refine aV ?_)|(refine rg 1 ?_;refine mV ?_;refine mV ?_;refine vV (by exact fs_callb0 rfl rfl hi (.cons (view_ints rfl rfl) (.cons (.clo .nil .nil) .nil)) rfl rfl) ?_;refine aV ?_)|(refine rg 2 ?_;refine mV ?_;refine vV (by exact fs_eql rfl rfl) ?_)|(refine rg 4 ?_;refine mV ?_;refine vV (by exact fs_addr rfl rfl (by omega) (by omega)) ?_;refine aV ?_)|refine nZ ?_)
    all_goals try (exfalso; omega)
    refine aw_loop (X := {m : Nat // m ≤ l.length}) (fun m => [(0, .sl 0 0 l.length 1), (1, .clo (.func F) [] []), (5, .i (keepM q (l.take m.1)).length), (6, .i m.1)]) (fun m => [.arr (ints (keepM q (l.take m.1) ++ l.drop (keepM q (l.take m.1)).length)) 1]) (fun m => l.length - m.1) ⟨j + 1, hj⟩ ⟨[0], rfl, ⟨rfl, rfl, by dsimp only; rw [hkl]; rfl, rfl, trivial⟩, ⟨.inr (sub_arr rfl (by dsimp only; rw [hka]) (ints_idf _)), trivial⟩, by decide, lt1z⟩ ?_
    rintro ⟨m, hm⟩
    dsimp only
    have hle := keep_le q l m
    by_cases hlt : m < l.length
    · have hs := keep_take (q := q) hlt
      have hget := at_own hle hlt
      have hg2 := at_own (G := keepM q (l.take m)) (l := l) (Nat.le_refl _) (by omega)
      have hset := set_own (G := keepM q (l.take m)) (l := l) (x := l[m]) (by omega)
      have hc := hF l[m]
      have hal := own_len (G := keepM q (l.take m)) (l := l) (by omega)
      generalize l[m] = x at *
      generalize l[(keepM q (l.take m)).length] = y at *
      generalize hG : keepM q (l.take m) = G at *
      generalize hA : ints (G ++ l.drop G.length) = A at *
      cases e : q x
      · rw [e] at hc hs
        rw [if_neg (by simp)] at hs
        repeat' (first|refine wS ?_|refine wB ?_|refine wK ?_|refine wT ?_|(refine wC rfl (fun hb=>?_) (fun hb=>?_)<;>(((try simp only [nm] at hb);try (exfalso;omega))))|(refine rg 5 ?_;refine mV ?_;refine mV ?_;(refine qV T ?_);refine vV (by exact fs_lss rfl rfl) ?_)|(refine rg 7 ?_;refine mV ?_;refine mV ?_;refine vV (by exact fs_indexOwn T rfl rfl rfl rfl rfl (by omega) (by omega)) ?_;refine vV (by exact fs_load T rfl rfl (behind_ep rfl hget) rfl) ?_;refine aV ?_)|(refine rg 8 ?_;refine mV ?_;refine mV ?_;refine vV (by exact kC (hc)) ?_;refine vV (by exact fs_not rfl) ?_)|(refine rg 9 ?_;(all_goals (refine mV ?_;refine mV ?_;refine mV ?_;refine vV (by exact fs_indexOwn T rfl rfl rfl rfl rfl (by omega) (by omega)) ?_));(all_goals (refine vc_store T rfl rfl rfl rfl rfl rfl (by decide) (upd_ep rfl hg2 rfl) ?_)))|(refine rg 10 ?_;refine mV ?_;refine vV (by exact fs_addr rfl rfl (by omega) (by omega)) ?_;refine aV ?_)|(refine rg 6 ?_;refine mV ?_;refine vV (by exact fs_addr rfl rfl (by omega) (by omega)) ?_;refine aV ?_)|refine nZ ?_)
        all_goals try (exfalso; omega)
        all_goals exact ⟨⟨m + 1, hlt⟩, by dsimp only; omega, [0], rfl, ⟨rfl, rfl, by rw [hs]; simp only [List.length_append]; rfl, rfl, trivial⟩, ⟨.inr (sub_arr rfl (by rw [hs]; exact hset) (ints_idf _)), trivial⟩, by decide, lt1z⟩
      · rw [e] at hc hs
        rw [if_pos rfl] at hs
        repeat' (first|refine wS ?_|refine wB ?_|refine wK ?_|refine wU ?_|(refine wC rfl (fun hb=>?_) (fun hb=>?_)<;>(((try simp only [nm] at hb);try (exfalso;omega))))|(refine rg 5 ?_;refine mV ?_;refine mV ?_;(refine qV T ?_);refine vV (by exact fs_lss rfl rfl) ?_)|(refine rg 7 ?_;refine mV ?_;refine mV ?_;refine vV (by exact fs_indexOwn T rfl rfl rfl rfl rfl (by omega) (by omega)) ?_;refine vV (by exact fs_load T rfl rfl (behind_ep rfl hget) rfl) ?_;refine aV ?_)|(refine rg 8 ?_;refine mV ?_;refine mV ?_;refine vV (by exact kC (hc)) ?_;refine vV (by exact fs_not rfl) ?_)|(refine rg 6 ?_;refine mV ?_;refine vV (by exact fs_addr rfl rfl (by omega) (by omega)) ?_;refine aV ?_)|refine nZ ?_)
        all_goals try (exfalso; omega)
        all_goals exact ⟨⟨m + 1, hlt⟩, by dsimp only; omega, [0], rfl, ⟨rfl, rfl, by rw [hs]; rfl, rfl, trivial⟩, ⟨.inr (sub_arr rfl (by rw [hs]; exact hA.symm) (ints_idf _)), trivial⟩, by decide, lt1z⟩
    · obtain rfl : m = l.length := by omega
      have hal := own_len (G := keepM q (l.take l.length)) (l := l) (by omega)
      have htk := take_own (G := keepM q (l.take l.length)) (l := l)
      generalize keepM q (l.take l.length) = G at *
      repeat' (first|refine wS ?_|refine wR ?_|refine wE ?_|(refine wC rfl (fun hb=>?_) (fun hb=>?_)<;>(((try simp only [nm] at hb);try (exfalso;omega))))|(refine rg 5 ?_;refine mV ?_;refine mV ?_;(refine qV T ?_);refine vV (by exact fs_lss rfl rfl) ?_)|(refine rg 11 ?_;refine mV ?_;refine mV ?_;refine vV (by exact fs_sliceOwn T rfl rfl rfl rfl rfl rfl (by omega) (by omega) (by omega)) ?_;refine vc_clear T rfl rfl rfl rfl rfl (by rw [hal];omega) ?_)|(refine rg 12 ?_;refine mV ?_;refine mV ?_;refine vV (by exact fs_sliceOwn T rfl rfl rfl rfl rfl rfl (by omega) (by omega) (by omega)) ?_;refine aV ?_)|refine nZ ?_)
      all_goals try (exfalso; omega)
      all_goals exact ⟨.inl rfl, [0], _, rfl, (by show AV.sl 0 0 ((G.length : Int) - 0).toNat 1 = AV.sl 0 0 G.length 1; rw [show ((G.length : Int) - 0).toNat = G.length by omega]), rfl, ⟨.inr (sub_arr rfl htk (ints_idf _)), trivial⟩, by decide, lt1z⟩
def compN (l : List Int) : Nat → List Int
  | 0 => []
  | m + 1 => if 0 < m ∧ l.getD m 0 = l.getD (m - 1) 0 then compN l m else compN l m ++ [l.getD m 0]
def compM (l : List Int) : List Int := compN l l.length
theorem comp_dup {l : List Int} {m : Nat} (h : 0 < m) (e : l.getD m 0 = l.getD (m - 1) 0) : compN l (m + 1) = compN l m := by
  unfold compN; rw [if_pos ⟨h, e⟩]; cases m <;> rfl
theorem comp_new {l : List Int} {m : Nat} (e : l.getD m 0 ≠ l.getD (m - 1) 0) : compN l (m + 1) = compN l m ++ [l.getD m 0] := by
  unfold compN; rw [if_neg (fun q => e q.2)]; cases m <;> rfl
theorem comp_one (l : List Int) : compN l 1 = [l.getD 0 0] := by
  unfold compN; rw [if_neg (fun q => Nat.lt_irrefl _ q.1)]; rfl
theorem getD_el {l : List Int} {m : Nat} (h : m < l.length) : l.getD m 0 = l[m] := by rw [List.getD_eq_getElem?_getD, List.getElem?_eq_getElem h]; rfl
theorem at_ownD {G l : List Int} {m : Nat} {i : Nat} (hg : G.length ≤ m) (hm : m < l.length) (hi : i = m) : (ints (G ++ l.drop G.length))[i]? = some [AV.i (l.getD m 0)] := by
  have := at_own hg hm
  rw [Nat.zero_add, Int.toNat_natCast] at this
  rw [hi, this, getD_el hm]
theorem at_intD {l : List Int} {m i : Nat} (hm : m < l.length) (hi : i = m) : (ints l)[i]? = some [AV.i (l.getD m 0)] := by
  rw [hi, ints_get hm, getD_el hm]
theorem compact_c (l : List Int) (hl : l.length ≤ 1000000) : ACall Tryz.prog 82 [.sl 0 0 l.length 1] [.arr (ints l) 1] (.sl 0 0 (compM l).length 1) [.arr (ints (compM l)) 1] := by
  have hll : (ints l).length = l.length := by simp
  refine acall T Tryz.func82 rfl rfl rfl rfl ?_
  by_cases h2 : l.length < 2
  · have hk : compM l = l := by
      match l, h2 with
      | [], _ => rfl
      | [a], _ => exact comp_one _
      | _ :: _ :: _, h => exact absurd h (by simp)
    rw [hk]
    repeat' (first|refine wS ?_|refine wR ?_|(refine wC rfl (fun hb=>?_) (fun hb=>?_)<;>(((try simp only [nm] at hb);try (exfalso;omega))))|(refine rg 0 ?_;refine aV ?_)|(refine rg 1 ?_;refine mV ?_;(refine qV T ?_);refine vV (by exact fs_lss rfl rfl) ?_)|(refine rg 2 ?_;refine mV ?_;refine aV ?_)|refine nZ ?_)
    all_goals first | (exfalso; omega) | exact ⟨.inl rfl, [0], _, rfl, rfl, rfl, ⟨.inr (sub_arr rfl rfl (ints_idf _)), trivial⟩, by decide, lt1z⟩
  · repeat' (first|refine wS ?_|refine wB ?_|refine wK ?_|(refine wC rfl (fun hb => ?_) (fun hb => ?_) <;> (((try simp only [nm] at hb); try (exfalso; omega))))|(((refine rg 0 ?_)); (all_goals (refine aV ?_)))|(((refine rg 1 ?_)); (all_goals (refine mV ?_; (refine qV T ?_); refine vV (by exact fs_lss rfl rfl) ?_)))|(((refine rg 3 ?_)); (all_goals (refine aV ?_)))|(refine vc_nilp (by ((dsimp only [ln1, ln2, List.append_nil, ln4, ln5, ln6, ln7, ln8, ln9, putAt, putd, allObjs, argEnv, un_v, un_ptr, un_ep, un_pr, un_sl, un_mp, un_row, un_agg, un_tup, un_clo, Nat.zero_add, lnb, Nat.reduceAdd, lnc, lnd]; done))) ?_))
    all_goals try (exfalso; omega)
    refine aw_loop (X := {k : Nat // 1 ≤ k ∧ k ≤ l.length ∧ compN l k = l.take k}) (fun k => [(0, .sl 0 0 l.length 1), (3, .i k.1)]) (fun _ => [.arr (ints l) 1]) (fun k => l.length - k.1) ⟨1, by omega, by omega, by rw [comp_one, getD_el (by omega), List.take_succ_eq_append_getElem (by omega)]; rfl⟩ ⟨[0], rfl, by (repeat (first | exact trivial | refine ⟨rfl, ?_⟩)), ⟨.inr (sub_arr rfl rfl (ints_idf _)), trivial⟩, by decide, lt1z⟩ ?_
    rintro ⟨k, hk1, hk, hkc⟩
    dsimp only
    by_cases hlt : k < l.length
    · have e1 := at_intD (i := 0 + (k : Int).toNat) hlt (by omega)
      have e2 := at_intD (l := l) (m := k - 1) (i := 0 + ((k : Int) - 1).toNat) (by omega) (by omega)
      by_cases hd : l.getD k 0 = l.getD (k - 1) 0
      · have hc1 := comp_dup (l := l) hk1 hd
        rw [hkc] at hc1
        generalize l.getD k 0 = a at *
        generalize l.getD (k - 1) 0 = b at *
        repeat' (first|refine wS ?_|refine wB ?_|refine wK ?_|refine wT ?_|(refine wC rfl (fun hb=>?_) (fun hb=>?_)<;>(((try simp only [nm] at hb);try (exfalso;omega))))|(refine rg 4 ?_;refine mV ?_;refine mV ?_;(refine qV T ?_);refine vV (by exact fs_lss rfl rfl) ?_)|(((refine aw_draw2k (id := 6) 61 [[],[],[0,1],[0,1,2],[],[],[5],[4,5,6],[4,5,6,7],[0,1,2,3,4,5,6,7,8]] [16,17,18,19,20,21,22,23,24,25] [[],[16],[],[],[16,17,18,19],[16,17,18,19,20],[16,17,18,19,20],[16,17,18,19],[16,17,18,19],[]] mixedP rfl (by decide +kernel) ?_));(all_goals (refine dV rfl (by exact fs_move rfl) ?_));(all_goals (refine dV rfl (by exact fs_move rfl) ?_));(all_goals (refine dV rfl (by exact fs_indexOwn T rfl rfl rfl rfl rfl (by omega) (by omega)) ?_));(all_goals (refine dV rfl (by exact fs_load T rfl rfl (behind_ep rfl e1) rfl) ?_));(all_goals (refine dV rfl (by exact fs_move rfl) ?_));(all_goals (refine dV rfl (by exact fs_move rfl) ?_));(all_goals (refine dV rfl (by exact fs_subr rfl rfl (by omega) (by omega)) ?_));(all_goals (refine dV rfl (by exact fs_indexOwn T rfl rfl rfl rfl rfl (by omega) (by omega)) ?_));(all_goals (refine dV rfl (by exact fs_load T rfl rfl (behind_ep rfl e2) rfl) ?_));(all_goals (refine dV rfl (by exact fs_eqlT rfl rfl (by omega)) ?_));(all_goals (refine dw_fin rfl rfl (by ((dsimp only [ln1,ln2,List.append_nil,ln4,ln5,ln6,ln7,ln8,ln9,putAt,putd,allObjs,argEnv,un_v,un_ptr,un_ep,un_pr,un_sl,un_mp,un_row,un_agg,un_tup,un_clo,Nat.zero_add,lnb,Nat.reduceAdd,lnc,lnd];done))) ?_)))|(refine rg 7 ?_;refine mV ?_;refine mV ?_;refine vV (by exact fs_sliceOwn T rfl rfl rfl rfl rfl rfl (by omega) (by omega) (by omega)) ?_;refine aV ?_)|(refine rg 8 ?_;refine aV ?_)|refine nZ ?_)
        all_goals try (exfalso; omega)
        have hl1 : (compN l (k + 1)).length = k := by rw [hc1]; simp; omega
        refine aw_loop (X := {j : Nat // 1 ≤ j ∧ k + j ≤ l.length ∧ (compN l (k + j)).length + 1 ≤ k + j}) (fun j => [(0, .sl 0 0 l.length 1), (3, .i (compN l (k + j.1)).length), (4, .sl 0 (0 + (k : Int).toNat) ((l.length : Int) - (k : Int)).toNat 1), (5, .i j.1)]) (fun j => [.arr (ints (compN l (k + j.1) ++ l.drop (compN l (k + j.1)).length)) 1]) (fun j => l.length - (k + j.1)) ⟨1, by omega, by omega, by omega⟩ ⟨[0], rfl, ⟨rfl, by dsimp only; rw [hl1]; rfl, rfl, rfl, trivial⟩, ⟨.inr (sub_arr rfl (by dsimp only; rw [hl1, hc1, List.take_append_drop]) (ints_idf _)), trivial⟩, by decide, lt1z⟩ ?_
        clear e1 e2 hd hl1 hc1
        rintro ⟨j, hj1, hj, hjc⟩
        dsimp only
        by_cases hjl : k + j < l.length
        · have e1 := at_ownD (G := compN l (k + j)) (l := l) (m := k + j) (i := 0 + (k : Int).toNat + (j : Int).toNat) (by omega) hjl (by omega)
          have e2 := at_ownD (G := compN l (k + j)) (l := l) (m := k + j - 1) (i := 0 + (k : Int).toNat + ((j : Int) - 1).toNat) (by omega) (by omega) (by omega)
          have e3 := at_own (G := compN l (k + j)) (l := l) (Nat.le_refl _) (by omega)
          have hset := set_own (G := compN l (k + j)) (l := l) (x := l.getD (k + j) 0) (by omega)
          have hal := own_len (G := compN l (k + j)) (l := l) (by omega)
          have hdup := comp_dup (l := l) (m := k + j) (by omega)
          have hnew := comp_new (l := l) (m := k + j)
          have hnl : ∀ G : List Int, (G ++ [l.getD (k + j) 0]).length = G.length + 1 := fun G => by simp
          rw [show k + j + 1 = k + (j + 1) by omega] at hdup hnew
          generalize l.getD (k + j) 0 = a at *
          generalize l.getD (k + j - 1) 0 = b at *
          generalize l[(compN l (k + j)).length] = y at *
          generalize compN l (k + j) = G at *
          by_cases hd : a = b
          · have hdup := hdup hd
            generalize hA : ints (G ++ l.drop G.length) = A at *
            repeat' (first|refine wS ?_|refine wB ?_|refine wK ?_|refine wU ?_|(refine wC rfl (fun hb=>?_) (fun hb=>?_)<;>(((try simp only [nm] at hb);try (exfalso;omega))))|(refine rg 9 ?_;refine mV ?_;refine mV ?_;(refine qV T ?_);refine vV (by exact fs_lss rfl rfl) ?_)|(((refine aw_draw2k (id := 11) 61 [[],[],[0,1],[0,1,2],[],[],[5],[4,5,6],[4,5,6,7],[0,1,2,3,4,5,6,7,8]] [35,36,37,38,39,40,41,42,43,44] [[],[35],[],[],[35,36,37,38],[35,36,37,38,39],[35,36,37,38,39],[35,36,37,38],[35,36,37,38],[]] mixedP rfl (by decide +kernel) ?_));(all_goals (refine dV rfl (by exact fs_move rfl) ?_));(all_goals (refine dV rfl (by exact fs_move rfl) ?_));(all_goals (refine dV rfl (by exact fs_indexOwn T rfl rfl rfl rfl rfl (by omega) (by omega)) ?_));(all_goals (refine dV rfl (by exact fs_load T rfl rfl (behind_ep rfl e1) rfl) ?_));(all_goals (refine dV rfl (by exact fs_move rfl) ?_));(all_goals (refine dV rfl (by exact fs_move rfl) ?_));(all_goals (refine dV rfl (by exact fs_subr rfl rfl (by omega) (by omega)) ?_));(all_goals (refine dV rfl (by exact fs_indexOwn T rfl rfl rfl rfl rfl (by omega) (by omega)) ?_));(all_goals (refine dV rfl (by exact fs_load T rfl rfl (behind_ep rfl e2) rfl) ?_));(all_goals (refine dV rfl (by exact fs_neqF rfl rfl (by omega)) ?_));(all_goals (refine dw_fin rfl rfl (by ((dsimp only [ln1,ln2,List.append_nil,ln4,ln5,ln6,ln7,ln8,ln9,putAt,putd,allObjs,argEnv,un_v,un_ptr,un_ep,un_pr,un_sl,un_mp,un_row,un_agg,un_tup,un_clo,Nat.zero_add,lnb,Nat.reduceAdd,lnc,lnd];done))) ?_)))|(refine rg 10 ?_;refine mV ?_;refine vV (by exact fs_addr rfl rfl (by omega) (by omega)) ?_;refine aV ?_)|refine nZ ?_)
            all_goals try (exfalso; omega)
            all_goals exact ⟨⟨j + 1, by omega, by omega, by rw [hdup]; omega⟩, by dsimp only; omega, [0], rfl, ⟨rfl, by dsimp only; rw [hdup]; rfl, rfl, rfl, trivial⟩, ⟨.inr (sub_arr rfl (by dsimp only; rw [hdup]; exact hA.symm) (ints_idf _)), trivial⟩, by decide, lt1z⟩
          · have hnew := hnew hd
            have hgl := hnl G
            generalize hA : ints (G ++ l.drop G.length) = A at *
            repeat' (first|refine wS ?_|refine wB ?_|refine wK ?_|refine wT ?_|(refine wC rfl (fun hb=>?_) (fun hb=>?_)<;>(((try simp only [nm] at hb);try (exfalso;omega))))|(refine rg 9 ?_;refine mV ?_;refine mV ?_;(refine qV T ?_);refine vV (by exact fs_lss rfl rfl) ?_)|(((refine aw_draw2k (id := 11) 61 [[],[],[0,1],[0,1,2],[],[],[5],[4,5,6],[4,5,6,7],[0,1,2,3,4,5,6,7,8]] [35,36,37,38,39,40,41,42,43,44] [[],[35],[],[],[35,36,37,38],[35,36,37,38,39],[35,36,37,38,39],[35,36,37,38],[35,36,37,38],[]] mixedP rfl (by decide +kernel) ?_));(all_goals (refine dV rfl (by exact fs_move rfl) ?_));(all_goals (refine dV rfl (by exact fs_move rfl) ?_));(all_goals (refine dV rfl (by exact fs_indexOwn T rfl rfl rfl rfl rfl (by omega) (by omega)) ?_));(all_goals (refine dV rfl (by exact fs_load T rfl rfl (behind_ep rfl e1) rfl) ?_));(all_goals (refine dV rfl (by exact fs_move rfl) ?_));(all_goals (refine dV rfl (by exact fs_move rfl) ?_));(all_goals (refine dV rfl (by exact fs_subr rfl rfl (by omega) (by omega)) ?_));(all_goals (refine dV rfl (by exact fs_indexOwn T rfl rfl rfl rfl rfl (by omega) (by omega)) ?_));(all_goals (refine dV rfl (by exact fs_load T rfl rfl (behind_ep rfl e2) rfl) ?_));(all_goals (refine dV rfl (by exact fs_neqT rfl rfl (by omega)) ?_));(all_goals (refine dw_fin rfl rfl (by ((dsimp only [ln1,ln2,List.append_nil,ln4,ln5,ln6,ln7,ln8,ln9,putAt,putd,allObjs,argEnv,un_v,un_ptr,un_ep,un_pr,un_sl,un_mp,un_row,un_agg,un_tup,un_clo,Nat.zero_add,lnb,Nat.reduceAdd,lnc,lnd];done))) ?_)))|(refine rg 12 ?_;(all_goals (refine mV ?_;refine mV ?_;refine mV ?_;refine mV ?_;refine vV (by exact fs_indexOwn T rfl rfl rfl rfl rfl (by omega) (by omega)) ?_;refine vV (by exact fs_load T rfl rfl (behind_ep rfl e1) rfl) ?_;refine vV (by exact fs_indexOwn T rfl rfl rfl rfl rfl (by omega) (by omega)) ?_));(all_goals (refine vc_store T rfl rfl rfl rfl rfl rfl (by decide) (upd_ep rfl e3 rfl) ?_)))|(refine rg 13 ?_;refine mV ?_;refine vV (by exact fs_addr rfl rfl (by omega) (by omega)) ?_;refine aV ?_)|(refine rg 10 ?_;refine mV ?_;refine vV (by exact fs_addr rfl rfl (by omega) (by omega)) ?_;refine aV ?_)|refine nZ ?_)
            all_goals try (exfalso; omega)
            all_goals exact ⟨⟨j + 1, by omega, by omega, by rw [hnew]; omega⟩, by dsimp only; omega, [0], rfl, ⟨rfl, by dsimp only; rw [hnew, hgl]; rfl, rfl, rfl, trivial⟩, ⟨.inr (sub_arr rfl (by dsimp only; rw [hnew]; exact hset) (ints_idf _)), trivial⟩, by decide, lt1z⟩
        · have hkj : k + j = l.length := by omega
          have hcm : compM l = compN l (k + j) := by rw [hkj]; rfl
          have hal := own_len (G := compN l (k + j)) (l := l) (by omega)
          have htk := take_own (G := compN l (k + j)) (l := l)
          rw [hcm]
          generalize compN l (k + j) = G at *
          repeat' (first|refine wS ?_|refine wR ?_|refine wE ?_|(refine wC rfl (fun hb=>?_) (fun hb=>?_)<;>(((try simp only [nm] at hb);try (exfalso;omega))))|(refine rg 9 ?_;refine mV ?_;refine mV ?_;(refine qV T ?_);refine vV (by exact fs_lss rfl rfl) ?_)|(refine rg 14 ?_;refine mV ?_;refine mV ?_;refine vV (by exact fs_sliceOwn T rfl rfl rfl rfl rfl rfl (by omega) (by omega) (by omega)) ?_;refine vc_clear T rfl rfl rfl rfl rfl (by rw [hal];omega) ?_)|(refine rg 15 ?_;refine mV ?_;refine mV ?_;refine vV (by exact fs_sliceOwn T rfl rfl rfl rfl rfl rfl (by omega) (by omega) (by omega)) ?_;refine aV ?_)|refine nZ ?_)
          all_goals try (exfalso; omega)
          all_goals exact ⟨.inl rfl, [0], _, rfl, (by show AV.sl 0 0 ((G.length : Int) - 0).toNat 1 = AV.sl 0 0 G.length 1; rw [show ((G.length : Int) - 0).toNat = G.length by omega]), rfl, ⟨.inr (sub_arr rfl htk (ints_idf _)), trivial⟩, by decide, lt1z⟩
      · have hnew := comp_new (l := l) hd
        rw [hkc, getD_el hlt, ← List.take_succ_eq_append_getElem hlt] at hnew
        generalize l.getD k 0 = a at *
        generalize l.getD (k - 1) 0 = b at *
        repeat' (first|refine wS ?_|refine wB ?_|refine wK ?_|refine wU ?_|(refine wC rfl (fun hb=>?_) (fun hb=>?_)<;>(((try simp only [nm] at hb);try (exfalso;omega))))|(refine rg 4 ?_;refine mV ?_;refine mV ?_;(refine qV T ?_);refine vV (by exact fs_lss rfl rfl) ?_)|(((refine aw_draw2k (id := 6) 61 [[],[],[0,1],[0,1,2],[],[],[5],[4,5,6],[4,5,6,7],[0,1,2,3,4,5,6,7,8]] [16,17,18,19,20,21,22,23,24,25] [[],[16],[],[],[16,17,18,19],[16,17,18,19,20],[16,17,18,19,20],[16,17,18,19],[16,17,18,19],[]] mixedP rfl (by decide +kernel) ?_));(all_goals (refine dV rfl (by exact fs_move rfl) ?_));(all_goals (refine dV rfl (by exact fs_move rfl) ?_));(all_goals (refine dV rfl (by exact fs_indexOwn T rfl rfl rfl rfl rfl (by omega) (by omega)) ?_));(all_goals (refine dV rfl (by exact fs_load T rfl rfl (behind_ep rfl e1) rfl) ?_));(all_goals (refine dV rfl (by exact fs_move rfl) ?_));(all_goals (refine dV rfl (by exact fs_move rfl) ?_));(all_goals (refine dV rfl (by exact fs_subr rfl rfl (by omega) (by omega)) ?_));(all_goals (refine dV rfl (by exact fs_indexOwn T rfl rfl rfl rfl rfl (by omega) (by omega)) ?_));(all_goals (refine dV rfl (by exact fs_load T rfl rfl (behind_ep rfl e2) rfl) ?_));(all_goals (refine dV rfl (by exact fs_eqlF rfl rfl (by omega)) ?_));(all_goals (refine dw_fin rfl rfl (by ((dsimp only [ln1,ln2,List.append_nil,ln4,ln5,ln6,ln7,ln8,ln9,putAt,putd,allObjs,argEnv,un_v,un_ptr,un_ep,un_pr,un_sl,un_mp,un_row,un_agg,un_tup,un_clo,Nat.zero_add,lnb,Nat.reduceAdd,lnc,lnd];done))) ?_)))|(refine rg 5 ?_;refine mV ?_;refine vV (by exact fs_addr rfl rfl (by omega) (by omega)) ?_;refine aV ?_)|refine nZ ?_)
        all_goals try (exfalso; omega)
        all_goals exact ⟨⟨k + 1, by omega, hlt, hnew⟩, by dsimp only; omega, [0], rfl, by (repeat (first | exact trivial | refine ⟨rfl, ?_⟩)), ⟨.inr (sub_arr rfl rfl (ints_idf _)), trivial⟩, by decide, lt1z⟩
    · obtain rfl : k = l.length := by omega
      have hcm : compM l = l := by
        show compN l l.length = l
        rw [hkc, List.take_length]
      rw [hcm]
      repeat' (first|refine wS ?_|refine wR ?_|refine wE ?_|(refine wC rfl (fun hb=>?_) (fun hb=>?_)<;>(((try simp only [nm] at hb);try (exfalso;omega))))|(refine rg 4 ?_;refine mV ?_;refine mV ?_;(refine qV T ?_);refine vV (by exact fs_lss rfl rfl) ?_)|(refine rg 16 ?_;refine mV ?_;refine aV ?_)|refine nZ ?_)
      all_goals first | (exfalso; omega) | exact ⟨.inl rfl, [0], _, rfl, rfl, rfl, ⟨.inr (sub_arr rfl rfl (ints_idf _)), trivial⟩, by decide, lt1z⟩
def noCell (a : Int) : Bool := !decide (0 ≤ a ∧ a < 4096)
theorem ofel_c (a : Int) : ACall Tryz.prog 80 [.i a] [] (.b (noCell a)) [] := by
  have h := iscell_c a
  refine acall T Tryz.func80 rfl rfl rfl rfl ?_
  repeat' (first|refine wS ?_|refine wR ?_|(refine rg 0 ?_;refine aV ?_)|(refine rg 1 ?_;refine mV ?_;refine vV (by exact kC (h)) ?_;refine vV (by exact fs_not rfl) ?_;refine aV ?_)|refine nZ ?_)
  exact ret_plain (.inl rfl) rfl rfl
def ofM (l : List Int) : List Int := compM (sorted (keepM noCell l))
theorem comp_len (l : List Int) : ∀ m, (compN l m).length ≤ m
  | 0 => Nat.le_refl _
  | m + 1 => by
    have := comp_len l m
    unfold compN
    split
    · omega
    · rw [List.length_append]; simp; omega
theorem of_len (l : List Int) : (ofM l).length ≤ l.length := by
  have h1 := comp_len (sorted (keepM noCell l)) (sorted (keepM noCell l)).length
  have h2 : (keepM noCell l).length ≤ l.length := List.length_filter_le _ _
  rw [sorted_len] at h1
  show (compN _ _).length ≤ _
  rw [sorted_len]
  omega
theorem of_c (l : List Int) (hl : l.length ≤ 1000000) : ACall Tryz.prog 34 [.rowE (ints l) 1] [] (.rowE (ints (ofM l)) 1) [] := by
  refine acall_frz (by simp : (ofM l).length = (ints (ofM l)).length) (idfL_flat (ints_idf _)) ?_
  have h1 := clone_o l hl
  have h2 := delete_c (F := 80) l hl ofel_c
  have hk : (keepM noCell l).length ≤ l.length := List.length_filter_le _ _
  have h3 := sort_c (keepM noCell l) (by omega)
  have h4 := compact_c (sorted (keepM noCell l)) (by rw [sorted_len]; omega)
  rw [sorted_len] at h4
  have hof : ofM l = compM (sorted (keepM noCell l)) := rfl
  rw [hof]
  have hrf := ints_rf l
  generalize compM (sorted (keepM noCell l)) = C at *
  generalize sorted (keepM noCell l) = B at *
  generalize keepM noCell l = A at *
  refine acall T Tryz.func34 rfl rfl rfl rfl ?_
  repeat' (first|refine wS ?_|refine wR ?_|(refine rg 0 ?_;refine aV ?_)|(refine rg 1 ?_;(all_goals (refine mV ?_));(all_goals (refine vc_n (by exact fs_call rfl rfl h1 (.inr ⟨rfl,rfl,by simp⟩)) rfl ?_));(all_goals (refine vc_callw [0] rfl rfl h2 rfl rfl (by decide) ⟨.inr (sub_arr rfl (ints_map _ _) (ints_idf _)),trivial⟩ (by simp) rfl ?_;refine aV ?_)))|(refine rg 2 ?_;refine mV ?_;refine vc_callw [0] rfl rfl h3 rfl rfl (by decide) ⟨.inr (sub_arr rfl (ints_map _ _) (ints_idf _)),trivial⟩ (by simp) rfl ?_)|(refine rg 3 ?_;refine mV ?_;refine vc_callw [0] rfl rfl h4 rfl rfl (by decide) ⟨.inr (sub_arr rfl (ints_map _ _) (ints_idf _)),trivial⟩ (by simp) rfl ?_;refine aV ?_)|refine nZ ?_)
  all_goals exact ⟨.inl rfl, [0], _, rfl, rfl, rfl, ⟨.inr (sub_arr rfl (ints_map _ _) (ints_idf _)), trivial⟩, by decide, fun _ hi => absurd hi (Nat.not_lt_zero _)⟩
theorem comp_mem (l : List Int) (x : Int) : ∀ m, m ≤ l.length → (x ∈ compN l m ↔ x ∈ l.take m)
  | 0, _ => by simp [compN]
  | m + 1, hm => by
    have ih := comp_mem l x m (by omega)
    rw [List.take_succ_eq_append_getElem (by omega)]
    by_cases e : 0 < m ∧ l.getD m 0 = l.getD (m - 1) 0
    · rw [comp_dup e.1 e.2, ih, List.mem_append, List.mem_singleton]
      refine ⟨.inl, fun h => h.elim id fun h => ?_⟩
      have e2 := e.2
      rw [getD_el (by omega), getD_el (by omega)] at e2
      rw [h, e2]
      exact List.mem_take_iff_getElem.2 ⟨m - 1, by omega, rfl⟩
    · have : compN l (m + 1) = compN l m ++ [l.getD m 0] := by
        unfold compN; rw [if_neg e]; cases m <;> rfl
      rw [this, List.mem_append, List.mem_append, ih, getD_el (by omega)]
theorem comp_asc {l : List Int} (hs : l.Pairwise (· ≤ ·)) : ∀ m, m ≤ l.length → Asc (compN l m)
  | 0, _ => List.Pairwise.nil
  | m + 1, hm => by
    have ih := comp_asc hs m (by omega)
    by_cases e : 0 < m ∧ l.getD m 0 = l.getD (m - 1) 0
    · rw [comp_dup e.1 e.2]; exact ih
    · have : compN l (m + 1) = compN l m ++ [l.getD m 0] := by
        unfold compN; rw [if_neg e]; cases m <;> rfl
      rw [this]
      refine List.pairwise_append.2 ⟨ih, List.pairwise_singleton _ _, fun x hx y hy => ?_⟩
      rw [List.mem_singleton] at hy
      rw [comp_mem l x m (by omega)] at hx
      obtain ⟨i, hi, rfl⟩ := List.mem_take_iff_getElem.1 hx
      have him : i < m := by omega
      rw [hy, getD_el (by omega)]
      have h1 : l[m - 1] ≤ l[m] := List.pairwise_iff_getElem.1 hs (m - 1) m _ _ (by omega)
      have h2 : l[i] ≤ l[m - 1] := by
        by_cases ei : i = m - 1
        · subst ei; exact Int.le_refl _
        · exact List.pairwise_iff_getElem.1 hs i (m - 1) _ _ (by omega)
      have h3 : l[m] ≠ l[m - 1] := fun q => e ⟨by omega, by rw [getD_el (by omega), getD_el (by omega)]; exact q⟩
      omega
theorem sorted_pw (l : List Int) : (sorted l).Pairwise (· ≤ ·) := by
  have h := List.pairwise_mergeSort (le := fun x y : Int => decide (x ≤ y)) (fun a b c h1 h2 => by simp at *; omega) (fun a b => by simp; omega) l
  exact h.imp fun h => by simpa using h
theorem mem_of {l : List Int} {x : Int} : x ∈ ofM l ↔ x ∈ l ∧ 0 ≤ x ∧ x < 4096 := by
  unfold ofM compM
  rw [comp_mem _ _ _ (Nat.le_refl _), List.take_length]
  unfold sorted keepM
  rw [List.mem_mergeSort, List.mem_filter]
  unfold noCell
  simp
theorem of_reg (l : List Int) : RegP (ofM l) := ⟨comp_asc (sorted_pw _) _ (Nat.le_refl _), fun _ hx => (mem_of.1 hx).2⟩
end Go.Proofs.YtjpcpbbkelgkeaaGreat
namespace Go.Proofs.YtjpcpbbkelgkeaaGreat
open Go Go.Ab Go.Fl Go.Re Go.Ln Go.MapKept
attribute [local irreducible] VC AW FStep ACall PCall AStep
set_option maxHeartbeats 4000000
theorem ofM_asc (l : List Int) : Asc (ofM l) := (of_reg l).1
theorem ofM_len {l : List Int} (hn : l.Nodup) (hr : ∀ x, x ∈ l → 0 ≤ x ∧ x < 4096) : (ofM l).length = l.length := by
  have h1 := nodup_sub (l := ofM l) (m := l) ((ofM_asc l).imp (fun h => by omega)) fun x hx => (mem_of.1 hx).1
  have h2 := nodup_sub (m := ofM l) hn fun x hx => mem_of.2 ⟨hx, hr x hx⟩
  omega
theorem boolTL : BoolT Tryz.prog 4 := by unfold BoolT; kernel_rfl
theorem way_at {s : Sit} {W : List Int} {st : Int} : ∀ {r : List Int} {c : Int}, Ln.Way (netP s W st) c r → ∀ (i : Nat) (x : Int), (c :: r)[i]? = some x → (exB s.fl x = decide (i = r.length)) ∧ (0 < i → ∃ y, (c :: r)[i - 1]? = some y ∧ x ∈ stepP s.fl W y)
  | [], c, h, i, x, hx => by
    match i, hx with
    | 0, hx =>
      have e : c = x := by simpa using hx
      subst e
      have h : exB s.fl c = true := h
      exact ⟨by rw [h]; rfl, fun h => absurd h (Nat.lt_irrefl _)⟩
    | i + 1, hx => simp at hx
  | y :: r, c, h, i, x, hx => by
    obtain ⟨h1, h2, h3⟩ := h
    match i, hx with
    | 0, hx =>
      have e : c = x := by simpa using hx
      subst e
      have h1 : exB s.fl c = false := h1
      exact ⟨by rw [h1]; exact (decide_eq_false (by simp)).symm, fun h => absurd h (Nat.lt_irrefl _)⟩
    | i + 1, hx =>
      rw [List.getElem?_cons_succ] at hx
      obtain ⟨a, b⟩ := way_at h3 i x hx
      refine ⟨by rw [a]; simp, fun _ => ?_⟩
      match i, hx with
      | 0, hx =>
        have e : y = x := by simpa using hx
        subst e
        exact ⟨c, rfl, h2⟩
      | i + 1, hx =>
        obtain ⟨z, z1, z2⟩ := b (by omega)
        exact ⟨z, by rw [show i + 1 + 1 - 1 = (i + 1 - 1) + 1 by omega, List.getElem?_cons_succ]; exact z1, z2⟩
theorem isLane_t (s : Sit) (g : Fine s.fl) (c : Int) (hcw : c ∈ walkP s.fl) (hcx : exB s.fl c = false) (l : List Int) (hl : LaneP (netP s (walkP s.fl) c) l) : ACall Tryz.prog 32 [.agg (sitA s), .rowE (ints (walkP s.fl)) 1, .i c, .rowE (ints l) 1] [] (.b true) [] := by
  have hN := g.le
  have hWa := walk_asc s.fl
  have hWl := walk_len s.fl
  have hll := lane_len hl
  have hln := hl.1
  obtain ⟨r, hle, _, hrW⟩ := lane_drop hl
  have hmem : ∀ x, x ∈ l → x ∈ walkP s.fl := fun x hx => by
    rw [hle] at hx
    rcases List.mem_cons.1 hx with rfl | hx
    · exact hcw
    · exact (hrW x hx).1
  have hrg : ∀ x, x ∈ l → 0 ≤ x ∧ x < s.fl.k.length := fun x hx => by obtain ⟨h1, h2, _⟩ := mem_walk.1 (hmem x hx); exact ⟨h1, h2⟩
  have hway : Ln.Way (netP s (walkP s.fl) c) c r := by
    obtain ⟨_, r', e, hw⟩ := hl
    have e : l = c :: r' := e
    rw [hle] at e
    cases e; exact hw
  have hr0 : r ≠ [] := fun e => by
    subst e
    have h : exB s.fl c = true := hway
    rw [hcx] at h; cases h
  have hl2 : 2 ≤ l.length := by rw [hle]; cases r with | nil => exact absurd rfl hr0 | cons a r => simp
  have hat := fun i x (h : l[i]? = some x) => way_at hway i x (by rw [← hle]; exact h)
  have hrl : r.length = l.length - 1 := by rw [hle]; simp
  have cO := of_c l (by omega)
  have hol : (ints (ofM l)).length = l.length := by rw [ints_length, ofM_len hln fun x hx => by have := hrg x hx; omega]
  have hil : (ints l).length = l.length := ints_length _
  have q0 : (ints l)[(0 : Int).toNat]? = some [AV.i c] := by rw [hle]; rfl
  refine acall T Tryz.func32 rfl rfl rfl rfl ?_
  repeat' (first|refine wS ?_|refine wB ?_|refine wK ?_|refine wU ?_|(refine rg 0 ?_;refine vc_n (by exact fs_box rfl rfl) rfl ?_;refine aV ?_)|(refine rg 1 ?_;(all_goals (refine mV ?_;(refine qV T ?_);refine vV (by exact fs_lssF rfl rfl (by omega)) ?_;refine mV ?_));(all_goals (refine gK ?_));(all_goals (refine gT ?_;(refine mV ?_);refine gT ?_;(refine vV (by exact fs_indexRowE T rfl rfl rfl rfl rfl (by decide) (ints_len _) q0) ?_);refine gT ?_;(refine lV T ?_);refine gT ?_;(refine mV ?_);refine gT ?_;(refine vV (by exact fs_neqF rfl rfl rfl) ?_)));(all_goals ((refine pV ?_);refine mV ?_));(all_goals (refine gK ?_));(all_goals (refine gT ?_;(refine mV ?_);refine gT ?_;(refine vV (by exact kC (cO)) ?_);refine gT ?_;(refine qV T ?_);refine gT ?_;(refine mV ?_);refine gT ?_;(refine qV T ?_);refine gT ?_;(refine vV (by exact fs_neqF rfl rfl (by omega)) ?_)));(all_goals (refine pV ?_)))|(refine rg 3 ?_;refine mV ?_;(refine qV T ?_);refine mV ?_)|refine nZ ?_)
  refine aw_loop (X := {j : Nat // j ≤ l.length}) (fun j => [(1, .rowE (ints (walkP s.fl)) 1), (3, .rowE (ints l) 1), (4, .ptr 0 0), (29, .rowE (ints l) 1), (30, .i l.length), (31, .i (j.1 : Int))]) (fun _ => [.cells (sitA s)]) (fun j => l.length - j.1) ⟨0, Nat.zero_le _⟩ ⟨[0], rfl, ⟨rfl, rfl, rfl, rfl, congrArg (fun n : Nat => some (AV.i n)) hil, rfl, trivial⟩, ⟨.inr rfl, trivial⟩, by decide, fun _ hi => absurd hi (Nat.not_lt_zero _)⟩ ?_
  rintro ⟨j, hj⟩
  dsimp only
  by_cases hlt : j < l.length
  case neg =>
    obtain rfl : j = l.length := by omega
    repeat' (first|refine wS ?_|refine wR ?_|refine wE ?_|refine wU ?_|(refine rg 4 ?_;refine vV (by exact fs_lssF rfl rfl (by omega)) ?_)|(refine rg 9 ?_;refine aV ?_)|refine nZ ?_)
    all_goals exact ret_plain (.inl rfl) rfl rfl
  have hx : l[j]? = some l[j] := List.getElem?_eq_getElem hlt
  obtain ⟨hx1, hx2⟩ := hat j _ hx
  have hxm := hmem _ (List.getElem_mem hlt)
  have hxr := hrg _ (List.getElem_mem hlt)
  have qx : (ints l)[(j : Int).toNat]? = some [AV.i l[j]] := by rw [Int.toNat_natCast]; exact ints_get hlt
  generalize l[j] = x at *
  have ch := rhas_c (walkP s.fl) x hWa (by omega)
  rw [decide_eq_true hxm] at ch
  have ce := isExit_c s x hxr.1 hxr.2
  rw [hx1] at ce
  have hdec : decide (j = r.length) = decide ((j : Int) = (l.length : Int) - 1) := by rw [decide_eq_decide, hrl]; omega
  rw [hdec] at ce
  by_cases hj0 : 0 < j
  · obtain ⟨y, y1, y2⟩ := hx2 hj0
    rw [← hle] at y1
    have qy : (ints l)[((j : Int) - 1).toNat]? = some [AV.i y] := by rw [show ((j : Int) - 1).toNat = j - 1 by omega]; simp [y1]
    have cs := steps_ln s g (walkP s.fl) hWa (by omega) y
    have cc := contains_c (stepP s.fl (walkP s.fl) y) x (by have : (stepP s.fl (walkP s.fl) y).length ≤ 6 := stepK_len s.fl (walkP s.fl) y 6; omega)
    rw [decide_eq_true y2] at cc
    by_cases hje : (j : Int) = (l.length : Int) - 1
    · rw [decide_eq_true hje] at ce
      repeat' (first|refine wS ?_|refine wB ?_|refine wK ?_|refine wT ?_|refine wU ?_|(refine rg 4 ?_;refine vV (by exact fs_lssT rfl rfl (by omega)) ?_)|(refine rg 5 ?_;refine mV ?_;refine vV (by exact fs_indexRowE T rfl rfl rfl rfl rfl (by omega) (ints_len _) qx) ?_;refine lV T ?_;refine aV ?_;refine aV ?_)|(((refine aw_draw2k (id := 6) 69 [[],[],[0,1],[0,1,2],[0,1,2,3],[0,1,2,3,4],[0,1,2,3,4],[0,1,2,3,4,5,6],[0,1,2,3,4],[0,1,2,3,4],[0,1,2,3,4,9],[0,1,2,3,4,9,10],[0,1,2,3,4,8,9,10,11],[0,1,2,3,4,5,6,7,8,9,10,11,12],[0,1,2,3,4,5,6,7,8,9,10,11,12,13],[0,1,2,3,4,5,6,7,8,9,10,11,12,13,14],[0,1,2,3,4,5,6,7,8,9,10,11,12,13,14,15],[0,1,2,3,4,5,6,7,8,9,10,11,12,13,14,15,16],[0,1,2,3,4,5,6,7,8,9,10,11,12,13,14,15,16,17],[0,1,2,3,4,5,6,7,8,9,10,11,12,13,14,15,16,17,18],[0,1,2,3,4,5,6,7,8,9,10,11,12,13,14,15,16,17,18],[0,1,2,3,4,5,6,7,8,9,10,11,12,13,14,15,16,17,18],[0,1,2,3,4,5,6,7,8,9,10,11,12,13,14,15,16,17,18],[0,1,2,3,4,5,6,7,8,9,10,11,12,13,14,15,16,17,18,22],[0,1,2,3,4,5,6,7,8,9,10,11,12,13,14,15,16,17,18,21,22,23],[0,1,2,3,4,5,6,7,8,9,10,11,12,13,14,15,16,17,18,21,22,23,24],[0,1,2,3,4,5,6,7,8,9,10,11,12,13,14,15,16,17,18,19,20,21,22,23,24,25],[0,1,2,3,4,5,6,7,8,9,10,11,12,13,14,15,16,17,18],[0,1,2,3,4,5,6,7,8,9,10,11,12,13,14,15,16,17,18,19,20,21,22,23,24,25,26,27],[0,1,2,3,4,5,6,7,8,9,10,11,12,13,14,15,16,17,18,19,20,21,22,23,24,25,26,27,28],[0,1,2,3,4,5,6,7,8,9,10,11,12,13,14,15,16,17,18,19,20,21,22,23,24,25,26,27,28,29],[0,1,2,3,4,5,6,7,8,9,10,11,12,13,14,15,16,17,18,19,20,21,22,23,24,25,26,27,28,29,30]] [36,37,38,39,40,41,42,43,44,45,46,47,48,49,50,51,52,53,54,55,56,57,58,59,60,61,62,63,64,65,66,67] [[],[36],[],[],[],[],[41],[],[41,42,43],[41,42,43,44],[41,42,43,44],[41,42,43,44],[41,42,43],[],[],[],[],[],[],[],[55],[55,56],[55,56,57],[55,56,57],[55,56],[55,56],[],[55,56,57,58,59,60,61,62],[],[],[],[]] mixedP rfl (by decide +kernel) ?_));(all_goals (refine dV rfl (by exact fs_move rfl) ?_));(all_goals (refine dV rfl (by exact fs_move rfl) ?_));(all_goals (refine dV rfl (by exact kC (ch)) ?_));(all_goals (refine dV rfl (by exact fs_not rfl) ?_));(all_goals (refine dV rfl (by exact fs_move rfl) ?_));(all_goals (refine dT rfl (by exact fs_load T rfl rfl rfl rfl) ?_));(all_goals (refine dT rfl (by exact fs_move rfl) ?_));(all_goals (refine dT rfl (by exact kC (ce)) ?_));(all_goals (refine dT rfl (by exact fs_move rfl) ?_));(all_goals (refine dT rfl (by exact fs_move rfl) ?_));(all_goals (refine dT rfl (by exact fs_lenRow T rfl rfl) ?_));(all_goals (refine dT rfl (by exact fs_subr rfl rfl (by omega) (by omega)) ?_));(all_goals (refine dT rfl (by exact fs_eqlT rfl rfl (by omega)) ?_));(all_goals (refine dT rfl (by exact fs_neqBs boolTL rfl rfl) ?_));(all_goals (refine dV rfl (by exact fs_pickf rfl rfl) ?_));(all_goals (refine dV rfl (by exact fs_move rfl) ?_));(all_goals (refine dT rfl (by exact fs_move rfl) ?_));(all_goals (refine dT rfl (by exact fs_gtrT rfl rfl (by omega)) ?_));(all_goals (refine dT rfl (by exact fs_move rfl) ?_));(all_goals (refine dT rfl (by exact fs_load T rfl rfl rfl rfl) ?_));(all_goals (refine dT rfl (by exact fs_move rfl) ?_));(all_goals (refine dT rfl (by exact fs_move rfl) ?_));(all_goals (refine dT rfl (by exact fs_move rfl) ?_));(all_goals (refine dT rfl (by exact fs_subr rfl rfl (by omega) (by omega)) ?_));(all_goals (refine dT rfl (by exact fs_indexRowE T rfl rfl rfl rfl rfl (by omega) (ints_len _) qy) ?_));(all_goals (refine dT rfl (by exact fs_load T rfl rfl rfl rfl) ?_));(all_goals (refine dT rfl (by exact kC (cs)) ?_));(all_goals (refine dT rfl (by exact fs_move rfl) ?_));(all_goals (refine dT rfl (by exact kC (cc)) ?_));(all_goals (refine dT rfl (by exact fs_not rfl) ?_));(all_goals (refine dT rfl (by exact fs_pickt rfl rfl) ?_));(all_goals (refine dV rfl (by exact fs_pickf rfl rfl) ?_));(all_goals (refine dw_fin rfl rfl (by ((dsimp only [ln1,ln2,List.append_nil,ln4,ln5,ln6,ln7,ln8,ln9,putAt,putd,allObjs,argEnv,un_v,un_ptr,un_ep,un_pr,un_sl,un_mp,un_row,un_agg,un_tup,un_clo,Nat.zero_add,lnb,Nat.reduceAdd,lnc,lnd];done))) ?_)))|(refine rg 8 ?_;refine vV (by exact fs_addr rfl rfl (by omega) (by omega)) ?_;refine mV ?_)|refine nZ ?_)
      all_goals exact ⟨⟨j + 1, hlt⟩, by dsimp only; omega, [0], rfl, (by (repeat (first | exact trivial | refine ⟨rfl, ?_⟩))), ⟨.inr rfl, trivial⟩, by decide, fun _ hi => absurd hi (Nat.not_lt_zero _)⟩
    · rw [decide_eq_false hje] at ce
      repeat' (first|refine wS ?_|refine wB ?_|refine wK ?_|refine wT ?_|refine wU ?_|(refine rg 4 ?_;refine vV (by exact fs_lssT rfl rfl (by omega)) ?_)|(refine rg 5 ?_;refine mV ?_;refine vV (by exact fs_indexRowE T rfl rfl rfl rfl rfl (by omega) (ints_len _) qx) ?_;refine lV T ?_;refine aV ?_;refine aV ?_)|(((refine aw_draw2k (id := 6) 69 [[],[],[0,1],[0,1,2],[0,1,2,3],[0,1,2,3,4],[0,1,2,3,4],[0,1,2,3,4,5,6],[0,1,2,3,4],[0,1,2,3,4],[0,1,2,3,4,9],[0,1,2,3,4,9,10],[0,1,2,3,4,8,9,10,11],[0,1,2,3,4,5,6,7,8,9,10,11,12],[0,1,2,3,4,5,6,7,8,9,10,11,12,13],[0,1,2,3,4,5,6,7,8,9,10,11,12,13,14],[0,1,2,3,4,5,6,7,8,9,10,11,12,13,14,15],[0,1,2,3,4,5,6,7,8,9,10,11,12,13,14,15,16],[0,1,2,3,4,5,6,7,8,9,10,11,12,13,14,15,16,17],[0,1,2,3,4,5,6,7,8,9,10,11,12,13,14,15,16,17,18],[0,1,2,3,4,5,6,7,8,9,10,11,12,13,14,15,16,17,18],[0,1,2,3,4,5,6,7,8,9,10,11,12,13,14,15,16,17,18],[0,1,2,3,4,5,6,7,8,9,10,11,12,13,14,15,16,17,18],[0,1,2,3,4,5,6,7,8,9,10,11,12,13,14,15,16,17,18,22],[0,1,2,3,4,5,6,7,8,9,10,11,12,13,14,15,16,17,18,21,22,23],[0,1,2,3,4,5,6,7,8,9,10,11,12,13,14,15,16,17,18,21,22,23,24],[0,1,2,3,4,5,6,7,8,9,10,11,12,13,14,15,16,17,18,19,20,21,22,23,24,25],[0,1,2,3,4,5,6,7,8,9,10,11,12,13,14,15,16,17,18],[0,1,2,3,4,5,6,7,8,9,10,11,12,13,14,15,16,17,18,19,20,21,22,23,24,25,26,27],[0,1,2,3,4,5,6,7,8,9,10,11,12,13,14,15,16,17,18,19,20,21,22,23,24,25,26,27,28],[0,1,2,3,4,5,6,7,8,9,10,11,12,13,14,15,16,17,18,19,20,21,22,23,24,25,26,27,28,29],[0,1,2,3,4,5,6,7,8,9,10,11,12,13,14,15,16,17,18,19,20,21,22,23,24,25,26,27,28,29,30]] [36,37,38,39,40,41,42,43,44,45,46,47,48,49,50,51,52,53,54,55,56,57,58,59,60,61,62,63,64,65,66,67] [[],[36],[],[],[],[],[41],[],[41,42,43],[41,42,43,44],[41,42,43,44],[41,42,43,44],[41,42,43],[],[],[],[],[],[],[],[55],[55,56],[55,56,57],[55,56,57],[55,56],[55,56],[],[55,56,57,58,59,60,61,62],[],[],[],[]] mixedP rfl (by decide +kernel) ?_));(all_goals (refine dV rfl (by exact fs_move rfl) ?_));(all_goals (refine dV rfl (by exact fs_move rfl) ?_));(all_goals (refine dV rfl (by exact kC (ch)) ?_));(all_goals (refine dV rfl (by exact fs_not rfl) ?_));(all_goals (refine dV rfl (by exact fs_move rfl) ?_));(all_goals (refine dT rfl (by exact fs_load T rfl rfl rfl rfl) ?_));(all_goals (refine dT rfl (by exact fs_move rfl) ?_));(all_goals (refine dT rfl (by exact kC (ce)) ?_));(all_goals (refine dT rfl (by exact fs_move rfl) ?_));(all_goals (refine dT rfl (by exact fs_move rfl) ?_));(all_goals (refine dT rfl (by exact fs_lenRow T rfl rfl) ?_));(all_goals (refine dT rfl (by exact fs_subr rfl rfl (by omega) (by omega)) ?_));(all_goals (refine dT rfl (by exact fs_eqlF rfl rfl (by omega)) ?_));(all_goals (refine dT rfl (by exact fs_neqBs boolTL rfl rfl) ?_));(all_goals (refine dV rfl (by exact fs_pickf rfl rfl) ?_));(all_goals (refine dV rfl (by exact fs_move rfl) ?_));(all_goals (refine dT rfl (by exact fs_move rfl) ?_));(all_goals (refine dT rfl (by exact fs_gtrT rfl rfl (by omega)) ?_));(all_goals (refine dT rfl (by exact fs_move rfl) ?_));(all_goals (refine dT rfl (by exact fs_load T rfl rfl rfl rfl) ?_));(all_goals (refine dT rfl (by exact fs_move rfl) ?_));(all_goals (refine dT rfl (by exact fs_move rfl) ?_));(all_goals (refine dT rfl (by exact fs_move rfl) ?_));(all_goals (refine dT rfl (by exact fs_subr rfl rfl (by omega) (by omega)) ?_));(all_goals (refine dT rfl (by exact fs_indexRowE T rfl rfl rfl rfl rfl (by omega) (ints_len _) qy) ?_));(all_goals (refine dT rfl (by exact fs_load T rfl rfl rfl rfl) ?_));(all_goals (refine dT rfl (by exact kC (cs)) ?_));(all_goals (refine dT rfl (by exact fs_move rfl) ?_));(all_goals (refine dT rfl (by exact kC (cc)) ?_));(all_goals (refine dT rfl (by exact fs_not rfl) ?_));(all_goals (refine dT rfl (by exact fs_pickt rfl rfl) ?_));(all_goals (refine dV rfl (by exact fs_pickf rfl rfl) ?_));(all_goals (refine dw_fin rfl rfl (by ((dsimp only [ln1,ln2,List.append_nil,ln4,ln5,ln6,ln7,ln8,ln9,putAt,putd,allObjs,argEnv,un_v,un_ptr,un_ep,un_pr,un_sl,un_mp,un_row,un_agg,un_tup,un_clo,Nat.zero_add,lnb,Nat.reduceAdd,lnc,lnd];done))) ?_)))|(refine rg 8 ?_;refine vV (by exact fs_addr rfl rfl (by omega) (by omega)) ?_;refine mV ?_)|refine nZ ?_)
      all_goals exact ⟨⟨j + 1, hlt⟩, by dsimp only; omega, [0], rfl, (by (repeat (first | exact trivial | refine ⟨rfl, ?_⟩))), ⟨.inr rfl, trivial⟩, by decide, fun _ hi => absurd hi (Nat.not_lt_zero _)⟩
  · rw [decide_eq_false (by omega)] at ce
    repeat' (first|refine wS ?_|refine wB ?_|refine wK ?_|refine wT ?_|refine wU ?_|(refine rg 4 ?_;refine vV (by exact fs_lssT rfl rfl (by omega)) ?_)|(refine rg 5 ?_;refine mV ?_;refine vV (by exact fs_indexRowE T rfl rfl rfl rfl rfl (by omega) (ints_len _) qx) ?_;refine lV T ?_;refine aV ?_;refine aV ?_)|(((refine aw_draw2k (id := 6) 69 [[],[],[0,1],[0,1,2],[0,1,2,3],[0,1,2,3,4],[0,1,2,3,4],[0,1,2,3,4,5,6],[0,1,2,3,4],[0,1,2,3,4],[0,1,2,3,4,9],[0,1,2,3,4,9,10],[0,1,2,3,4,8,9,10,11],[0,1,2,3,4,5,6,7,8,9,10,11,12],[0,1,2,3,4,5,6,7,8,9,10,11,12,13],[0,1,2,3,4,5,6,7,8,9,10,11,12,13,14],[0,1,2,3,4,5,6,7,8,9,10,11,12,13,14,15],[0,1,2,3,4,5,6,7,8,9,10,11,12,13,14,15,16],[0,1,2,3,4,5,6,7,8,9,10,11,12,13,14,15,16,17],[0,1,2,3,4,5,6,7,8,9,10,11,12,13,14,15,16,17,18],[0,1,2,3,4,5,6,7,8,9,10,11,12,13,14,15,16,17,18],[0,1,2,3,4,5,6,7,8,9,10,11,12,13,14,15,16,17,18],[0,1,2,3,4,5,6,7,8,9,10,11,12,13,14,15,16,17,18],[0,1,2,3,4,5,6,7,8,9,10,11,12,13,14,15,16,17,18,22],[0,1,2,3,4,5,6,7,8,9,10,11,12,13,14,15,16,17,18,21,22,23],[0,1,2,3,4,5,6,7,8,9,10,11,12,13,14,15,16,17,18,21,22,23,24],[0,1,2,3,4,5,6,7,8,9,10,11,12,13,14,15,16,17,18,19,20,21,22,23,24,25],[0,1,2,3,4,5,6,7,8,9,10,11,12,13,14,15,16,17,18],[0,1,2,3,4,5,6,7,8,9,10,11,12,13,14,15,16,17,18,19,20,21,22,23,24,25,26,27],[0,1,2,3,4,5,6,7,8,9,10,11,12,13,14,15,16,17,18,19,20,21,22,23,24,25,26,27,28],[0,1,2,3,4,5,6,7,8,9,10,11,12,13,14,15,16,17,18,19,20,21,22,23,24,25,26,27,28,29],[0,1,2,3,4,5,6,7,8,9,10,11,12,13,14,15,16,17,18,19,20,21,22,23,24,25,26,27,28,29,30]] [36,37,38,39,40,41,42,43,44,45,46,47,48,49,50,51,52,53,54,55,56,57,58,59,60,61,62,63,64,65,66,67] [[],[36],[],[],[],[],[41],[],[41,42,43],[41,42,43,44],[41,42,43,44],[41,42,43,44],[41,42,43],[],[],[],[],[],[],[],[55],[55,56],[55,56,57],[55,56,57],[55,56],[55,56],[],[55,56,57,58,59,60,61,62],[],[],[],[]] mixedP rfl (by decide +kernel) ?_));(all_goals (refine dV rfl (by exact fs_move rfl) ?_));(all_goals (refine dV rfl (by exact fs_move rfl) ?_));(all_goals (refine dV rfl (by exact kC (ch)) ?_));(all_goals (refine dV rfl (by exact fs_not rfl) ?_));(all_goals (refine dV rfl (by exact fs_move rfl) ?_));(all_goals (refine dT rfl (by exact fs_load T rfl rfl rfl rfl) ?_));(all_goals (refine dT rfl (by exact fs_move rfl) ?_));(all_goals (refine dT rfl (by exact kC (ce)) ?_));(all_goals (refine dT rfl (by exact fs_move rfl) ?_));(all_goals (refine dT rfl (by exact fs_move rfl) ?_));(all_goals (refine dT rfl (by exact fs_lenRow T rfl rfl) ?_));(all_goals (refine dT rfl (by exact fs_subr rfl rfl (by omega) (by omega)) ?_));(all_goals (refine dT rfl (by exact fs_eqlF rfl rfl (by omega)) ?_));(all_goals (refine dT rfl (by exact fs_neqBs boolTL rfl rfl) ?_));(all_goals (refine dV rfl (by exact fs_pickf rfl rfl) ?_));(all_goals (refine dV rfl (by exact fs_move rfl) ?_));(all_goals (refine dT rfl (by exact fs_move rfl) ?_));(all_goals (refine dT rfl (by exact fs_gtrF rfl rfl (by omega)) ?_));(all_goals (refine dT rfl (by exact fs_move rfl) ?_));(all_goals (refine dG ?_));(all_goals (refine dG ?_));(all_goals (refine dG ?_));(all_goals (refine dG ?_));(all_goals (refine dG ?_));(all_goals (refine dG ?_));(all_goals (refine dG ?_));(all_goals (refine dG ?_));(all_goals (refine dG ?_));(all_goals (refine dG ?_));(all_goals (refine dG ?_));(all_goals (refine dT rfl (by exact fs_pickf rfl rfl) ?_));(all_goals (refine dV rfl (by exact fs_pickf rfl rfl) ?_));(all_goals (refine dw_fin rfl rfl (by ((dsimp only [ln1,ln2,List.append_nil,ln4,ln5,ln6,ln7,ln8,ln9,putAt,putd,allObjs,argEnv,un_v,un_ptr,un_ep,un_pr,un_sl,un_mp,un_row,un_agg,un_tup,un_clo,Nat.zero_add,lnb,Nat.reduceAdd,lnc,lnd];done))) ?_)))|(refine rg 8 ?_;refine vV (by exact fs_addr rfl rfl (by omega) (by omega)) ?_;refine mV ?_)|refine nZ ?_)
    all_goals exact ⟨⟨j + 1, hlt⟩, by dsimp only; omega, [0], rfl, (by (repeat (first | exact trivial | refine ⟨rfl, ?_⟩))), ⟨.inr rfl, trivial⟩, by decide, fun _ hi => absurd hi (Nat.not_lt_zero _)⟩
end Go.Proofs.YtjpcpbbkelgkeaaGreat
namespace Go.Proofs.YtjpcpbbkelgkeaaGreat
open Go Go.Ab Go.Fl Go.Re Go.Ln Go.MapKept
attribute [local irreducible] VC AW FStep ACall PCall AStep
set_option maxHeartbeats 4000000
abbrev cfK (l : List LaneT) : List Value := l.map fun x => kI x.1
abbrev cfV (l : List LaneT) : List AV := l.map fun x => AV.rowE [laneA x] 3
theorem cf_good (l : List LaneT) : ∀ q, q ∈ cfK l → MapKept.IsKey (.int .i64) q := fun q hq => by
  obtain ⟨c, _, rfl⟩ := List.mem_map.1 hq; rfl
theorem cf_idf (l : List LaneT) : AV.idfL (cfV l) = true := by
  induction l with
  | nil => rfl
  | cons e l ih => exact ih
theorem cf_no {l : List LaneT} {c : Int} (h : c ∉ l.map (·.1)) : kI c ∉ cfK l := fun hm => by
  obtain ⟨x, hx, e⟩ := List.mem_map.1 hm
  simp [kI] at e
  exact h (List.mem_map.2 ⟨x, hx, e⟩)
theorem cf_nd {l : List LaneT} (h : (l.map (·.1)).Nodup) : (cfK l).Nodup := by
  have e : cfK l = (l.map (·.1)).map kI := by simp
  rw [e]
  exact List.Pairwise.map _ (fun a b hab e => hab (by simp [kI] at e; exact e)) h
theorem cf_addK (l : List LaneT) (x : LaneT) : cfK l ++ [kI x.1] = cfK (l ++ [x]) := by simp
theorem cf_addV (l : List LaneT) (x : LaneT) : cfV l ++ [AV.row [laneA x].flatten 1 3] = cfV (l ++ [x]) := by unfold cfV; rw [List.map_append]; rfl
theorem mapIL : Tryz.prog.underlying 71 = some (.map 3 33) := by kernel_rfl
theorem zLs : ∀ w, (zeroValue 33).run Tryz.prog w = .ok (.slice none 0 0) w := zero_run (by kernel_rfl)
theorem laneA_one (x : LaneT) : AV.idfL [laneA x].flatten = true := rfl
theorem lane_one_len (x : LaneT) : ∀ e, e ∈ [laneA x] → e.length = 3 := by intro e he; simp at he; subst he; rfl
theorem inter_one {s : Sit} {c : Int} {A B : List Int} (h1 : LaneP (netP s (walkP s.fl) c) A) (h2 : LaneP (netP s (walkP s.fl) c) B) (h3 : ∀ y, y ∈ A → y ∈ B → y = c) (hc0 : 0 ≤ c) (hc1 : c < s.fl.k.length ∧ s.fl.k.length ≤ 300) : (interM (ofM A) (ofM B)).length = 1 := by
  have hA : c ∈ A := by obtain ⟨r, hr, _⟩ := lane_drop h1; rw [hr]; simp
  have hB : c ∈ B := by obtain ⟨r, hr, _⟩ := lane_drop h2; rw [hr]; simp
  have hm : ∀ y, y ∈ interM (ofM A) (ofM B) ↔ y = c := fun y => by
    rw [mem_inter (ofM_asc A) (ofM_asc B), mem_of, mem_of]
    refine ⟨fun h => h3 y h.1.1 h.2.1, fun h => ?_⟩
    subst h; exact ⟨⟨hA, by omega⟩, hB, by omega⟩
  have hn : (interM (ofM A) (ofM B)).Nodup := (inter_asc (ofM_asc A) (ofM_asc B)).imp (fun h => by omega)
  have a1 := nodup_sub (m := [c]) hn fun y hy => by rw [(hm y).1 hy]; simp
  have a2 := nodup_sub (l := [c]) (m := interM (ofM A) (ofM B)) (by simp) fun y hy => by rw [hm]; simpa using hy
  simp at a1 a2
  omega
theorem check_ok (s : Sit) (g : Fine s.fl) (L : List LaneT) (h1 : L.map (·.1) = kindC s.fl 4) (h2 : ∀ x, x ∈ L → PairOk s x) : ACall Tryz.prog 9 [.agg (sitA s), .agg (certA L (boundP s.fl))] [] (.tup [.i (-1), .i 0]) [] := by
  have hN := g.le
  have cb := bound_c s g
  have hWa := walk_asc s.fl
  have hWl := walk_len s.fl
  have cw := walkOf_c s (by omega)
  have ck := ofKind_c s 4 (by omega)
  have hKl : (kindC s.fl 4).length ≤ s.fl.k.length := ofK_len s.fl.k 4 s.fl.k.length
  have hKm : ∀ x, x ∈ kindC s.fl 4 → 0 ≤ x ∧ x < s.fl.k.length ∧ exB s.fl x = false ∧ x ∈ walkP s.fl := fun x hx => by
    obtain ⟨h1, h2, h3⟩ := mem_ofK.1 hx
    exact ⟨h1, h2, by unfold exB; rw [h3]; decide, mem_walk.2 ⟨h1, h2, by unfold wkB; rw [h3]; rfl⟩⟩
  have hnd : (kindC s.fl 4).Nodup := (ofK_asc _ _ _).imp (fun h => by omega)
  generalize kindC s.fl 4 = K at *
  generalize boundP s.fl = b at *
  have hLK : L.length = K.length := by rw [← h1, List.length_map]
  have hKL : K.length ≤ 300 := by omega
  have hkl : (ints K).length = K.length := ints_length _
  have hll : (lanesA L).length = L.length := by simp
  refine acall T Tryz.func9 rfl rfl rfl rfl ?_
  repeat' (first|refine wS ?_|(refine rg 0 ?_;refine vc_n (by exact fs_box rfl rfl) rfl ?_;refine vc_n (by exact fs_box rfl rfl) rfl ?_;refine aV ?_;refine aV ?_)|(refine rg 1 ?_;refine lV T ?_;refine vV (by exact kC (cw)) ?_;refine aV ?_)|(refine rg 2 ?_;refine lV T ?_;refine vV (by exact kC (ck)) ?_;refine aV ?_)|(refine rg 3 ?_;refine vc_n (by exact fs_mapNew) rfl ?_;refine aV ?_)|(refine rg 4 ?_;refine aV ?_)|refine nZ ?_)
  refine aw_own 9 1 rfl (by decide) ?_
  repeat' (first|refine wB ?_|(refine rg 5 ?_;refine fV T ?_;refine lV T ?_;(refine qV T ?_);refine mV ?_)|refine nZ ?_)
  refine aw_loop (X := {j : Nat // j ≤ L.length}) (fun j => [(2, .ptr 0 0), (3, .ptr 1 0), (6, .rowE (ints (walkP s.fl)) 1), (7, .rowE (ints K) 1), (8, .mp 2), (9, .sl 3 0 j.1 1), (21, .rowE (lanesA L) 3), (22, .i L.length), (23, .i (j.1 : Int))])
    (fun j => [.cells (sitA s), .cells (certA L b), .mapO (cfK (L.take j.1)) (cfV (L.take j.1)), .arr (ints ((L.take j.1).map (·.1))) 1]) (fun j => L.length - j.1) ⟨0, Nat.zero_le _⟩ ⟨[0, 1, 2, 3], rfl, ⟨rfl, rfl, rfl, rfl, rfl, rfl, rfl, congrArg (fun n : Nat => some (AV.i n)) hll, rfl, trivial⟩, ⟨.inr rfl, .inr rfl, .inr (sub_map rfl rfl rfl (cf_idf _)), .inr rfl, trivial⟩, by decide, fun _ hi => absurd hi (Nat.not_lt_zero _)⟩ ?_
  rintro ⟨j, hj⟩
  dsimp only
  by_cases hlt : j < L.length
  · have htk := List.take_succ_eq_append_getElem hlt
    have qx : (lanesA L)[(j : Int).toNat]? = some (laneA L[j]) := lanes_get (by rw [Int.toNat_natCast, List.getElem?_eq_getElem hlt])
    have hno : (L[j]).1 ∉ (L.take j).map (·.1) := fun hm => by
      obtain ⟨y, hy, e⟩ := List.mem_map.1 hm
      obtain ⟨i, hi, rfl⟩ := List.mem_iff_getElem.1 hy
      rw [List.length_take] at hi
      rw [List.getElem_take] at e
      have hnd2 : (L.map (·.1)).Nodup := by rw [h1]; exact hnd
      have : i = j := (List.getElem?_inj (by simp; omega) hnd2).1 (by rw [List.getElem?_map, List.getElem?_map, List.getElem?_eq_getElem (by omega), List.getElem?_eq_getElem hlt]; exact congrArg some e)
      omega
    have hkn := cf_no hno
    have htl : (L.take j).length = j := by rw [List.length_take]; omega
    generalize L[j] = x at *
    generalize L.take j = L0 at *
    obtain ⟨xc, xa, xb⟩ := x
    dsimp only at hkn hno
    repeat' (first|refine wS ?_|refine wB ?_|refine wK ?_|refine wT ?_|(refine rg 6 ?_;refine vV (by exact fs_lssT rfl rfl (by omega)) ?_)|(refine rg 7 ?_;refine vV (by exact fs_indexRowE T rfl rfl rfl rfl rfl (by omega) (lanes_len _) qx) ?_;refine lV T ?_;refine vc_n (by exact fs_alloc T rfl) rfl ?_;refine vc_store T rfl rfl rfl rfl rfl rfl (by decide) rfl ?_)|refine nZ ?_)
    refine aw_keep [(2, .ptr 0 0), (3, .ptr 1 0), (6, .rowE (ints (walkP s.fl)) 1), (7, .rowE (ints K) 1), (8, .mp 2), (9, .sl 3 0 j 1), (11, .ptr 4 0), (21, .rowE (lanesA L) 3), (22, .i L.length), (23, .i (j : Int))] [.cells (sitA s), .cells (certA L b), .mapO (cfK L0) (cfV L0), .arr (ints (L0.map (·.1))) 1, .cells (laneA (xc, xa, xb))] ⟨[0, 1, 2, 3, 4], rfl, (by (repeat (first | exact trivial | refine ⟨rfl, ?_⟩))), ⟨.inr rfl, .inr rfl, .inr (sub_map rfl rfl rfl (cf_idf _)), .inr (sub_arr rfl rfl (ints_idf _)), .inr rfl, trivial⟩, by decide, fun _ hi => absurd hi (Nat.not_lt_zero _)⟩ ?_
    refine aw_ent _ _ (ent_ghost 3 (by decide)) ?_
    dsimp only [ln1, ln2, List.append_nil, ln4, ln5, ln6, ln7, ln8, ln9, putAt, putd, allObjs, argEnv, un_v, un_ptr, un_ep, un_pr, un_sl, un_mp, un_row, un_agg, un_tup, un_clo, Nat.zero_add, lnb, Nat.reduceAdd, lnc, lnd]
    repeat' (first|(((refine aw_draw4k (id := 8) 100 [[],[],[1],[],[],[4],[3,4,5],[],[7],[3,4,5,6,7,8]] [27,28,29,30,31,32,33,34,35,36] [[],[27],[27],[27,28,29],[27,28,29,30],[27,28,29,30],[27,28,29],[27,28,29,30,31,32,33],[27,28,29,30,31,32,33],[27,28,29]] [(9,5)] mixedP rfl (by decide +kernel) ?_));(all_goals (refine dwa_v rfl rfl rfl rfl (by exact fs_move rfl) ?_;refine dwa_v rfl rfl rfl rfl (by exact fs_fieldAddr T rfl rfl rfl) ?_;refine dwa_v rfl rfl rfl rfl (by exact fs_load T rfl rfl rfl rfl) ?_;refine dwa_v rfl rfl rfl rfl (by exact fs_move rfl) ?_;refine dwa_v rfl rfl rfl rfl (by exact fs_fieldAddr T rfl rfl rfl) ?_;refine dwa_v rfl rfl rfl rfl (by exact fs_load T rfl rfl rfl rfl) ?_;refine dwa_v rfl rfl rfl rfl (by exact fs_mapMiss1 mapIL intK zLs (fun _ _ _=>R_nilsl 5 3) rfl rfl (isv_i _) rfl (cf_good _) (good_i _) hkn) ?_;refine dwa_v rfl rfl rfl rfl (by exact fs_load T rfl rfl rfl rfl) ?_;refine dwa_n rfl rfl rfl rfl (by exact fs_buildSlice T rfl rfl (by decide) (by decide) rfl rfl rfl) rfl ?_));(all_goals (refine dwa_a1 rfl rfl rfl rfl (Nat.le_of_ble_eq_true rfl) (by exact as_append T rfl rfl rfl rfl rfl rfl (by simp) (Elems.whole rfl rfl) rfl (by simp) (by simp)) ?_));(all_goals (refine dwa_fin rfl rfl rfl (by exact rfl) ?_));(all_goals (refine vc_frz (es := [laneA (xc,xa,xb)]) 36 rfl rfl rfl (laneA_one _) ?_;refine vc_mapNew mapIL intK rfl rfl (isv_i _) rfl rfl (cf_good _) (good_i _) hkn ?_)))|refine nZ ?_)
    refine aw_keep [(2, .ptr 0 0), (3, .ptr 1 0), (6, .rowE (ints (walkP s.fl)) 1), (7, .rowE (ints K) 1), (8, .mp 2), (9, .sl 3 0 j 1), (11, .ptr 4 0), (21, .rowE (lanesA L) 3), (22, .i L.length), (23, .i (j : Int))] [.cells (sitA s), .cells (certA L b), .mapO (cfK (L0 ++ [(xc, xa, xb)])) (cfV (L0 ++ [(xc, xa, xb)])), .arr (ints (L0.map (·.1))) 1, .cells (laneA (xc, xa, xb))] ⟨[0, 1, 2, 3, 4], rfl, (by (repeat (first | exact trivial | refine ⟨rfl, ?_⟩))), ⟨.inr rfl, .inr rfl, .inr (sub_map rfl (cf_addK L0 (xc, xa, xb)) (cf_addV L0 (xc, xa, xb)) (cf_idf _)), .inr (sub_arr rfl rfl (ints_idf _)), .inr rfl, trivial⟩, by decide, fun _ hi => absurd hi (Nat.not_lt_zero _)⟩ ?_
    have hap : List.take j (List.drop 0 (ints (L0.map (·.1)))) ++ [[AV.i xc]] = ints ((L.take (j + 1)).map (·.1)) := by
      rw [htk, List.drop_zero, List.take_of_length_le (by simp; omega)]; simp
    repeat' (first|(refine rg 9 ?_;refine mV ?_;refine fV T ?_;refine lV T ?_;refine vc_n (by exact fs_buildSlice T rfl rfl (by decide) (by decide) rfl rfl rfl) rfl ?_;refine vc_append T rfl rfl rfl rfl rfl rfl (by simp;omega) (Elems.whole rfl rfl) rfl (by simp;omega) (by simp;omega) rfl ?_;refine aV ?_)|(refine rg 10 ?_;refine vV (by exact fs_addr rfl rfl (by omega) (by omega)) ?_;refine mV ?_)|refine nZ ?_)
    all_goals exact ⟨⟨j + 1, hlt⟩, by dsimp only; omega, [0, 1, 2, 6], rfl, (by (repeat (first | exact trivial | refine ⟨rfl, ?_⟩))), ⟨.inr rfl, .inr rfl, .inr (sub_map rfl (by dsimp only; rw [htk]) (by dsimp only; rw [htk]) (cf_idf _)), .inr (sub_arr rfl hap (ints_idf _)), trivial⟩, by decide, fun _ hi => absurd hi (Nat.not_lt_zero _)⟩
  obtain rfl : j = L.length := by omega
  have hnd2 : (L.map (·.1)).Nodup := by rw [h1]; exact hnd
  have hcn := cf_nd hnd2
  have ce := equal_c (L.map (·.1)) K (by rw [List.length_map]; omega)
  rw [decide_eq_true h1] at ce
  clear hll
  repeat' (first|refine wS ?_|refine wB ?_|refine wE ?_|refine wU ?_|(refine rg 6 ?_;refine vV (by exact fs_lssF rfl rfl (by omega)) ?_)|(refine rg 11 ?_;refine mV ?_;(refine qV T ?_);refine mV ?_)|refine nZ ?_)
  refine aw_loop (X := {k : Nat // k ≤ K.length}) (fun k => [(2, .ptr 0 0), (3, .ptr 1 0), (6, .rowE (ints (walkP s.fl)) 1), (7, .rowE (ints K) 1), (8, .mp 2), (9, .sl 3 0 L.length 1), (43, .rowE (ints K) 1), (44, .i K.length), (45, .i (k.1 : Int))])
    (fun _ => [.cells (sitA s), .cells (certA L b), .mapO (cfK L) (cfV L), .arr (ints (L.map (·.1))) 1]) (fun k => K.length - k.1) ⟨0, Nat.zero_le _⟩ ⟨[0, 1, 2, 3], rfl, ⟨rfl, rfl, rfl, rfl, rfl, rfl, rfl, congrArg (fun n : Nat => some (AV.i n)) hkl, rfl, trivial⟩, ⟨.inr rfl, .inr rfl, .inr (sub_map rfl (by rw [List.take_length]) (by rw [List.take_length]) (cf_idf _)), .inr (sub_arr rfl (by rw [List.take_length]) (ints_idf _)), trivial⟩, by decide, fun _ hi => absurd hi (Nat.not_lt_zero _)⟩ ?_
  rintro ⟨k, hk⟩
  dsimp only
  by_cases hlt : k < K.length
  case neg =>
    obtain rfl : k = K.length := by omega
    repeat' (first|refine wS ?_|refine wE ?_|refine wU ?_|(refine rg 12 ?_;refine vV (by exact fs_lssF rfl rfl (by omega)) ?_)|refine nZ ?_)
    refine aw_keep [(2, .ptr 0 0), (3, .ptr 1 0), (7, .rowE (ints K) 1), (9, .sl 2 0 L.length 1)] [.cells (sitA s), .cells (certA L b), .arr (ints (L.map (·.1))) 1] ⟨[0, 1, 3], rfl, (by (repeat (first | exact trivial | refine ⟨rfl, ?_⟩))), ⟨.inr rfl, .inr rfl, .inr (sub_arr rfl rfl (ints_idf _)), trivial⟩, by decide, fun _ hi => absurd hi (Nat.not_lt_zero _)⟩ ?_
    refine aw_frz 9 rfl rfl (by simp) (idfL_flat (ints_idf _)) ?_
    dsimp only [ln1, ln2, List.append_nil, ln4, ln5, ln6, ln7, ln8, ln9, putAt, putd, allObjs, argEnv, un_v, un_ptr, un_ep, un_pr, un_sl, un_mp, un_row, un_agg, un_tup, un_clo, Nat.zero_add, lnb, Nat.reduceAdd, lnc, lnd]
    repeat' (first|refine wS ?_|refine wK ?_|refine wR ?_|refine wU ?_|(((refine aw_draw2k (id := 20) 100 [[],[],[0,1],[0,1,2],[0,1,2,3],[0,1,2,3,4],[0,1,2,3,4,5],[0,1,2,3,4],[0,1,2,3,4,7],[0,1,2,3,4,5,6,7,8],[0,1,2,3,4,5,6,7,8,9]] [89,90,91,92,93,94,95,96,97,98,99] [[],[89],[],[],[],[],[],[94,95],[94,95],[],[]] mixedP rfl (by decide +kernel) ?_));(all_goals (refine dV rfl (by exact fs_move rfl) ?_));(all_goals (refine dV rfl (by exact fs_move rfl) ?_));(all_goals (refine dV rfl (by exact kC (ce)) ?_));(all_goals (refine dV rfl (by exact fs_not rfl) ?_));(all_goals (refine dV rfl (by exact fs_move rfl) ?_));(all_goals (refine dT rfl (by exact fs_fieldAddr T rfl rfl rfl) ?_));(all_goals (refine dT rfl (by exact fs_load T rfl rfl rfl rfl) ?_));(all_goals (refine dT rfl (by exact fs_load T rfl rfl rfl rfl) ?_));(all_goals (refine dT rfl (by exact kC (cb)) ?_));(all_goals (refine dT rfl (by exact fs_lssF rfl rfl (by omega)) ?_));(all_goals (refine dV rfl (by exact fs_pickf rfl rfl) ?_));(all_goals (refine dw_fin rfl rfl (by ((dsimp only [ln1,ln2,List.append_nil,ln4,ln5,ln6,ln7,ln8,ln9,putAt,putd,allObjs,argEnv,un_v,un_ptr,un_ep,un_pr,un_sl,un_mp,un_row,un_agg,un_tup,un_clo,Nat.zero_add,lnb,Nat.reduceAdd,lnc,lnd];done))) ?_)))|(refine rg 22 ?_;refine aV ?_;refine aV ?_)|refine nZ ?_)
    all_goals exact ret_plain (.inl rfl) rfl rfl
  obtain ⟨x, hx⟩ : ∃ x, L[k]? = some x := ⟨_, List.getElem?_eq_getElem (by omega)⟩
  have hxm := List.mem_of_getElem? hx
  have qx : (ints K)[(k : Int).toNat]? = some [AV.i x.1] := by
    rw [Int.toNat_natCast, ← h1]; simp [hx]
  have hmk : (cfK L)[k]? = some (kI x.1) := by simp [hx]
  have hmv : (cfV L)[k]? = some (AV.rowE [laneA x] 3) := by simp [hx]
  obtain ⟨p1, p2, p3⟩ := h2 _ hxm
  obtain ⟨r1, r2, r3, r4⟩ := hKm x.1 (by rw [← h1]; exact List.mem_map.2 ⟨_, hxm, rfl⟩)
  obtain ⟨xc, xa, xb⟩ := x
  dsimp only at p1 p2 p3 r1 r2 r3 r4 qx hmk
  have cA := isLane_t s g xc r4 r3 xa p1
  have cB := isLane_t s g xc r4 r3 xb p2
  have la := lane_len p1
  have lb := lane_len p2
  have oa := of_c xa (by omega)
  have ob := of_c xb (by omega)
  have ola := of_len xa
  have olb := of_len xb
  have ci := inter_c (ofM xa) (ofM xb) (by omega) (by omega)
  have hi1 : (ints (interM (ofM xa) (ofM xb))).length = 1 := by
    rw [ints_length]; exact inter_one p1 p2 p3 r1 (by omega)
  generalize interM (ofM xa) (ofM xb) = I at *
  generalize ofM xa = Oa at *
  generalize ofM xb = Ob at *
  repeat' (first|refine wS ?_|refine wB ?_|refine wK ?_|refine wT ?_|refine wU ?_|(refine rg 12 ?_;refine vV (by exact fs_lssT rfl rfl (by omega)) ?_)|(refine rg 13 ?_;refine vV (by exact fs_indexRowE T rfl rfl rfl rfl rfl (by omega) (ints_len _) qx) ?_;refine lV T ?_;refine aV ?_)|(refine rg 14 ?_;refine mV ?_;refine mV ?_;refine vV (by exact fs_mapGet1 mapIL intK rfl rfl (isv_i _) rfl (cf_good _) (good_i _) hcn hmk hmv) ?_;(refine qV T ?_);refine vV (by exact fs_neqF rfl rfl rfl) ?_)|(refine rg 16 ?_;refine mV ?_;refine mV ?_;refine vV (by exact fs_mapGet1 mapIL intK rfl rfl (isv_i _) rfl (cf_good _) (good_i _) hcn hmk hmv) ?_;refine vV (by exact fs_indexRowE T rfl rfl rfl rfl rfl (by decide) (lane_one_len _) rfl) ?_;refine lV T ?_;refine vc_n (by exact fs_alloc T rfl) rfl ?_;refine vc_store T rfl rfl rfl rfl rfl rfl (by decide) rfl ?_)|(((refine aw_draw2k (id := 17) 100 [[],[],[],[],[3],[0,1,2,3,4],[0,1,2,3,4,5],[0,1,2,3,4,5,6],[0,1,2,3,4,5,6,7],[0,1,2,3,4,5,6,7],[0,1,2,3,4,5,6,7],[0,1,2,3,4,5,6,7],[0,1,2,3,4,5,6,7,11],[0,1,2,3,4,5,6,7,8,9,10,11,12],[0,1,2,3,4,5,6,7,8,9,10,11,12,13],[0,1,2,3,4,5,6,7,8,9,10,11,12,13,14],[0,1,2,3,4,5,6,7,8,9,10,11,12,13,14,15],[0,1,2,3,4,5,6,7,8,9,10,11,12,13,14,15,16],[0,1,2,3,4,5,6,7,8,9,10,11,12,13,14,15,16,17],[0,1,2,3,4,5,6,7,8,9,10,11,12,13,14,15,16,17,18],[0,1,2,3,4,5,6,7,8,9,10,11,12,13,14,15,16],[0,1,2,3,4,5,6,7,8,9,10,11,12,13,14,15,16,20],[0,1,2,3,4,5,6,7,8,9,10,11,12,13,14,15,16,17,18,19,20,21],[0,1,2,3,4,5,6,7,8,9,10,11,12,13,14,15,16,17,18,19,20,21,22],[0,1,2,3,4,5,6,7,8,9,10,11,12,13,14,15,16,17,18,19,20,21,22,23],[0,1,2,3,4,5,6,7,8,9,10,11,12,13,14,15,16,17,18,19,20,21,22,23,24],[0,1,2,3,4,5,6,7,8,9,10,11,12,13,14,15,16,17,18,19,20,21,22,23,24,25]] [60,61,62,63,64,65,66,67,68,69,70,71,72,73,74,75,76,77,78,79,80,81,82,83,84,85,86] [[],[60],[60,61],[60,61,62],[60,61,62],[],[],[],[],[68],[68,69],[68,69,70],[68,69,70],[],[],[],[],[],[],[],[77,78,79],[77,78,79],[],[],[],[],[]] mixedP rfl (by decide +kernel) ?_));(all_goals (refine dV rfl (by exact fs_load T rfl rfl rfl rfl) ?_));(all_goals (refine dV rfl (by exact fs_move rfl) ?_));(all_goals (refine dV rfl (by exact fs_move rfl) ?_));(all_goals (refine dV rfl (by exact fs_fieldAddr T rfl rfl rfl) ?_));(all_goals (refine dV rfl (by exact fs_load T rfl rfl rfl rfl) ?_));(all_goals (refine dV rfl (by exact kC (cA)) ?_));(all_goals (refine dV rfl (by exact fs_not rfl) ?_));(all_goals (refine dV rfl (by exact fs_move rfl) ?_));(all_goals (refine dT rfl (by exact fs_load T rfl rfl rfl rfl) ?_));(all_goals (refine dT rfl (by exact fs_move rfl) ?_));(all_goals (refine dT rfl (by exact fs_move rfl) ?_));(all_goals (refine dT rfl (by exact fs_fieldAddr T rfl rfl rfl) ?_));(all_goals (refine dT rfl (by exact fs_load T rfl rfl rfl rfl) ?_));(all_goals (refine dT rfl (by exact kC (cB)) ?_));(all_goals (refine dT rfl (by exact fs_not rfl) ?_));(all_goals (refine dV rfl (by exact fs_pickf rfl rfl) ?_));(all_goals (refine dV rfl (by exact fs_move rfl) ?_));(all_goals (refine dT rfl (by exact fs_fieldAddr T rfl rfl rfl) ?_));(all_goals (refine dT rfl (by exact fs_load T rfl rfl rfl rfl) ?_));(all_goals (refine dT rfl (by exact kC (oa)) ?_));(all_goals (refine dT rfl (by exact fs_fieldAddr T rfl rfl rfl) ?_));(all_goals (refine dT rfl (by exact fs_load T rfl rfl rfl rfl) ?_));(all_goals (refine dT rfl (by exact kC (ob)) ?_));(all_goals (refine dT rfl (by exact kC (ci)) ?_));(all_goals (refine dT rfl (by exact fs_lenRow T rfl rfl) ?_));(all_goals (refine dT rfl (by exact fs_neqF rfl rfl (by omega)) ?_));(all_goals (refine dV rfl (by exact fs_pickf rfl rfl) ?_));(all_goals (refine dw_fin rfl rfl (by ((dsimp only [ln1,ln2,List.append_nil,ln4,ln5,ln6,ln7,ln8,ln9,putAt,putd,allObjs,argEnv,un_v,un_ptr,un_ep,un_pr,un_sl,un_mp,un_row,un_agg,un_tup,un_clo,Nat.zero_add,lnb,Nat.reduceAdd,lnc,lnd];done))) ?_)))|(refine rg 19 ?_;refine vV (by exact fs_addr rfl rfl (by omega) (by omega)) ?_;refine mV ?_)|refine nZ ?_)
  all_goals exact ⟨⟨k + 1, hlt⟩, by dsimp only; omega, [0, 1, 2, 3], rfl, (by (repeat (first | exact trivial | refine ⟨rfl, ?_⟩))), ⟨.inr rfl, .inr rfl, .inr (sub_map rfl rfl rfl (cf_idf _)), .inr (sub_arr rfl rfl (ints_idf _)), trivial⟩, by decide, fun _ hi => absurd hi (Nat.not_lt_zero _)⟩
end Go.Proofs.YtjpcpbbkelgkeaaGreat
namespace Go.Proofs.YtjpcpbbkelgkeaaGreat
open Go Go.Ab Go.Fl Go.Re Go.Ln Go.MapKept
attribute [local irreducible] VC AW FStep ACall PCall AStep
set_option maxHeartbeats 4000000
theorem some_n (s : Sit) (g : Fine s.fl) (c : Int) (hc : 0 ≤ c ∧ c < s.fl.k.length) : PCall Tryz.prog 10 [.agg (sitA s), .i c, .nils] [] (fun r o => o = [] ∧ ∃ l, r = .rowE (ints l) 1 ∧ SomeOk s c [] l) :=
  pcall_arg (some_p s g c hc [] (by simp)) fun S w ρ ys => RL_cons_mono (fun _ h => h) fun ys => RL_cons_mono (fun _ h => h) fun ys => RL_cons_mono (fun _ h => R_nils_row h) fun _ h => h
theorem laneMakes_law (s : Sit) : ACall Tryz.prog 3 [.agg (sitA s)] [] (.b true) [] := by
  have cF := fits_p s
  refine PCall.toA (Φ := fun r o => r = .b true ∧ o = []) ?_ (fun _ _ h => h)
  refine pcall T Tryz.func3 rfl rfl rfl rfl ?_
  repeat' (first|refine wS ?_|refine wK ?_|refine wR ?_|refine wT ?_|refine wU ?_|(refine rg 0 ?_;refine vc_n (by exact fs_box rfl rfl) rfl ?_;refine aV ?_)|(refine rg 1 ?_;refine vV (by exact kC (smallL_c)) ?_;refine aV ?_)|(refine rg 2 ?_;(all_goals (refine lV T ?_));(all_goals (refine vc_pcallb rfl rfl (cF) (.cons (view_self _ rfl) .nil) (by rintro _ ⟨_,rfl,_⟩;rfl) rfl ?_;rintro _ ⟨b1,rfl,hF⟩;dsimp only [putd];cases b1));(all_goals (refine vV (by exact fs_not rfl) ?_)))|(refine rg 3 ?_;refine mV ?_;refine aV ?_)|refine nZ ?_)
  all_goals first | exact ⟨_, _, ⟨rfl, rfl⟩, ret_plain (.inl rfl) rfl rfl⟩ | skip
  have g := (hF rfl).fine
  have hN := (hF rfl).few.kl
  clear cF hF
  have cM := make_p s g
  have hkl : (ints s.fl.k).length = s.fl.k.length := ints_length _
  repeat' (first|refine wS ?_|(refine rg 4 ?_;(all_goals (refine lV T ?_));(all_goals (refine vc_pcallw [] rfl rfl cM rfl rfl (by decide) trivial (by simp) rfl ?_;rintro _ _ ⟨rfl,(⟨L,h1,h2⟩|⟨L,c,post,h1,h2,h3⟩)⟩));(all_goals (refine mV ?_;refine xV ?_;refine xV ?_;refine xV ?_;refine vc_n (by exact fs_alloc T rfl) rfl ?_;refine vc_store T rfl rfl rfl rfl rfl rfl (by decide) rfl ?_;refine aV ?_;refine aV ?_)))|refine nZ ?_)
  · have cC := check_ok s g L h1 h2
    refine aw_keep [(1, .ptr 0 0), (3, .b true), (4, .ptr 1 0), (5, .i (-1)), (6, .i 0)] [.cells (sitA s), .cells (certA L (boundP s.fl))] ⟨[0, 1], rfl, (by (repeat (first | exact trivial | refine ⟨rfl, ?_⟩))), ⟨.inr rfl, .inr rfl, trivial⟩, by decide, fun _ hi => absurd hi (Nat.not_lt_zero _)⟩ ?_
    repeat' (first|refine wS ?_|refine wR ?_|refine wT ?_|(refine rg 5 ?_;refine mV ?_;refine vV (by exact fs_eqlT rfl rfl rfl) ?_)|(refine rg 6 ?_;refine lV T ?_;refine lV T ?_;refine vV (by exact kC (cC)) ?_;refine mV ?_;refine xV ?_;refine xV ?_;refine aV ?_;refine aV ?_)|(refine rg 7 ?_;(all_goals (refine mV ?_;refine mV ?_));(all_goals (refine gK ?_));(all_goals (refine gT ?_;(refine mV ?_);refine gT ?_;(refine vV (by exact fs_eqlT rfl rfl rfl) ?_)));(all_goals ((refine pV ?_);refine mV ?_));(all_goals (refine gK ?_));(all_goals (refine gT ?_;(refine mV ?_);refine gT ?_;(refine vV (by exact fs_eqlT rfl rfl rfl) ?_)));(all_goals ((refine pV ?_);refine mV ?_));(all_goals (refine gK ?_));(all_goals (refine gT ?_;(refine mV ?_);refine gT ?_;(refine vV (by exact fs_eqlT rfl rfl rfl) ?_)));(all_goals ((refine pV ?_);refine aV ?_)))|refine nZ ?_)
    all_goals exact ⟨_, _, ⟨rfl, rfl⟩, ret_plain (.inl rfl) rfl rfl⟩
  · refine aw_keep [(1, .ptr 0 0), (3, .b true), (5, .i c), (6, .i 14)] [.cells (sitA s)] ⟨[0], rfl, (by (repeat (first | exact trivial | refine ⟨rfl, ?_⟩))), ⟨.inr rfl, trivial⟩, by decide, fun _ hi => absurd hi (Nat.not_lt_zero _)⟩ ?_
    have hcK : c ∈ kindC s.fl 4 := by rw [← h1]; simp
    obtain ⟨hc0, hc1, hck⟩ := mem_ofK.1 hcK
    have q1 := ints_gI (l := s.fl.k) (j := c) (i := c.toNat) 0 (by omega) (by omega)
    rw [hck] at q1
    have cS := some_n s g c ⟨hc0, hc1⟩
    repeat' (first|refine wS ?_|refine wK ?_|refine wU ?_|(refine wC rfl (fun hb=>?_) (fun hb=>?_)<;>(((try simp only [nm] at hb);try (exfalso;omega))))|(refine rg 5 ?_;refine mV ?_;refine vV (by exact fs_eqlF rfl rfl (by decide)) ?_)|(refine rg 8 ?_;(all_goals (refine mV ?_;refine vV (by exact fs_lssF rfl rfl (by omega)) ?_;refine mV ?_));(all_goals (refine gK ?_));(all_goals (refine gT ?_;(refine mV ?_);refine gT ?_;(refine fV T ?_);refine gT ?_;(refine fV T ?_);refine gT ?_;(refine lV T ?_);refine gT ?_;(refine qV T ?_);refine gT ?_;(refine vV (by exact fs_geqF rfl rfl (by omega)) ?_)));(all_goals (refine pV ?_)))|(refine rg 10 ?_;refine fV T ?_;refine fV T ?_;refine lV T ?_;refine mV ?_;refine vV (by exact fs_indexRowE T rfl rfl rfl rfl rfl (by omega) (ints_len _) q1) ?_;refine lV T ?_;refine vV (by exact fs_neqF rfl rfl rfl) ?_)|(refine rg 12 ?_;(all_goals (refine lV T ?_;refine mV ?_));(all_goals (refine vc_pcallw [] rfl rfl cS rfl rfl (by decide) trivial (by simp) rfl ?_;rintro _ _ ⟨rfl,l0,rfl,hS⟩));(all_goals ((refine qV T ?_);refine vV (by exact fs_eql rfl rfl) ?_)))|refine nZ ?_)
    all_goals have hl0 : (ints l0).length = l0.length := ints_length _
    · repeat' (first|refine wR ?_|(((refine rg 13 ?_)); (all_goals (refine mV ?_; refine aV ?_)))|(refine vc_nilp (by ((dsimp only [ln1, ln2, List.append_nil, ln4, ln5, ln6, ln7, ln8, ln9, putAt, putd, allObjs, argEnv, un_v, un_ptr, un_ep, un_pr, un_sl, un_mp, un_row, un_agg, un_tup, un_clo, Nat.zero_add, lnb, Nat.reduceAdd, lnc, lnd]; done))) ?_))
      all_goals exact ⟨_, _, ⟨rfl, rfl⟩, ret_plain (.inl rfl) rfl rfl⟩
    · have hlan : LaneP (netP s (walkP s.fl) c) l0 := by
        rcases hS with ⟨rfl, _⟩ | ⟨h, _⟩
        · exact absurd rfl hb
        · exact h
      rcases h3 with h3 | ⟨x, hxc, h3⟩
      · exact absurd hlan (h3 l0)
      obtain ⟨r, hr, _, hrW⟩ := lane_drop hlan
      have hxl := h3 l0 hlan
      rw [hr] at hxl
      have hxr : x ∈ r := by
        rcases List.mem_cons.1 hxl with h | h
        · exact absurd h hxc
        · exact h
      obtain ⟨hx0, hx1, _⟩ := mem_walk.1 (hrW x hxr).1
      clear cS q1 hr hrW hxl hxr hS hb hl0 hlan
      have hcS := fun j : Int => some_p s g c ⟨hc0, hc1⟩ [j] (by simp)
      refine aw_keep [(1, .ptr 0 0), (3, .b true), (5, .i c)] [.cells (sitA s)] ⟨[0], rfl, (by (repeat (first | exact trivial | refine ⟨rfl, ?_⟩))), ⟨.inr rfl, trivial⟩, by decide, fun _ hi => absurd hi (Nat.not_lt_zero _)⟩ ?_
      repeat' (first|refine wB ?_|(refine rg 14 ?_;refine aV ?_)|refine nZ ?_)
      refine aw_loop (X := {j : Nat // j ≤ x.toNat}) (fun j => [(1, .ptr 0 0), (3, .b true), (5, .i c), (9, .i (j.1 : Int))]) (fun _ => [.cells (sitA s)]) (fun j => x.toNat - j.1) ⟨0, Nat.zero_le _⟩ ⟨[0], rfl, (by (repeat (first | exact trivial | refine ⟨rfl, ?_⟩))), ⟨.inr rfl, trivial⟩, by decide, fun _ hi => absurd hi (Nat.not_lt_zero _)⟩ ?_
      rintro ⟨j, hj⟩
      dsimp only
      have cS := hcS j
      by_cases hjc : (j : Int) = c
      · repeat' (first|refine wS ?_|refine wB ?_|refine wK ?_|refine aw_condt rfl ?_|refine aw_condf rfl ?_|(((refine rg 15 ?_)); (all_goals (refine mV ?_; refine fV T ?_; refine fV T ?_; refine lV T ?_; (refine qV T ?_); refine vV (by exact fs_lssT rfl rfl (by omega)) ?_)))|(((refine rg 17 ?_)); (all_goals (refine mV ?_; refine mV ?_; refine vV (by exact fs_neqF rfl rfl hjc) ?_; refine mV ?_)); (all_goals (refine gK ?_)); (all_goals (iterate 7 refine gF ?_)); (all_goals (refine pV ?_)))|(((refine rg 16 ?_)); (all_goals (refine mV ?_; refine vV (by exact fs_addr rfl rfl (by omega) (by omega)) ?_; refine aV ?_)))|(refine vc_nilp (by ((dsimp only [ln1, ln2, List.append_nil, ln4, ln5, ln6, ln7, ln8, ln9, putAt, putd, allObjs, argEnv, un_v, un_ptr, un_ep, un_pr, un_sl, un_mp, un_row, un_agg, un_tup, un_clo, Nat.zero_add, lnb, Nat.reduceAdd, lnc, lnd]; done))) ?_))
        all_goals exact ⟨⟨j + 1, by omega⟩, by dsimp only; omega, [0], rfl, (by (repeat (first | exact trivial | refine ⟨rfl, ?_⟩))), ⟨.inr rfl, trivial⟩, by decide, fun _ hi => absurd hi (Nat.not_lt_zero _)⟩
      · repeat' (first|refine wS ?_|refine wB ?_|refine wK ?_|refine aw_condt rfl ?_|(refine wC rfl (fun hb => ?_) (fun hb => ?_) <;> (((try simp only [nm] at hb); try (exfalso; omega))))|(((refine rg 15 ?_)); (all_goals (refine mV ?_; refine fV T ?_; refine fV T ?_; refine lV T ?_; (refine qV T ?_); refine vV (by exact fs_lssT rfl rfl (by omega)) ?_)))|(((refine rg 17 ?_)); (all_goals (refine mV ?_; refine mV ?_; refine vV (by exact fs_neqT rfl rfl hjc) ?_; refine mV ?_)); (all_goals (refine gK ?_)); (all_goals (refine gT ?_; (refine lV T ?_); refine gT ?_; (refine mV ?_); refine gT ?_; (refine mV ?_); refine gT ?_; (refine vc_n (by exact fs_buildSlice T rfl rfl (by decide) (by decide) rfl rfl rfl) rfl ?_); refine gT ?_; (refine vc_frz (es := [[AV.i (j : Int)]]) 80 rfl rfl rfl rfl ?_; refine vc_pcallw [] rfl rfl cS rfl rfl (by decide) trivial (by simp) rfl ?_; rintro _ _ ⟨rfl, l1, rfl, hS1⟩))); (all_goals (refine gT ?_; (refine qV T ?_); refine gT ?_; (refine vV (by exact fs_eql rfl rfl) ?_))); (all_goals (refine pV ?_)))|(refine vc_nilp (by ((dsimp only [ln1, ln2, List.append_nil, ln4, ln5, ln6, ln7, ln8, ln9, putAt, putd, allObjs, argEnv, un_v, un_ptr, un_ep, un_pr, un_sl, un_mp, un_row, un_agg, un_tup, un_clo, Nat.zero_add, lnb, Nat.reduceAdd, lnc, lnd]; done))) ?_))
        · repeat' (first|refine wR ?_|(((refine rg 18 ?_)); (all_goals (refine mV ?_; refine aV ?_)))|(refine vc_nilp (by ((dsimp only [ln1, ln2, List.append_nil, ln4, ln5, ln6, ln7, ln8, ln9, putAt, putd, allObjs, argEnv, un_v, un_ptr, un_ep, un_pr, un_sl, un_mp, un_row, un_agg, un_tup, un_clo, Nat.zero_add, lnb, Nat.reduceAdd, lnc, lnd]; done))) ?_))
          all_goals exact ⟨_, _, ⟨rfl, rfl⟩, ret_plain (.inl rfl) rfl rfl⟩
        · have hlt : j < x.toNat := by
            refine Classical.byContradiction fun hn => hb ?_
            have hjx : (j : Int) = x := by omega
            rcases hS1 with ⟨rfl, _⟩ | ⟨hl, hav⟩
            · rfl
            · exfalso
              obtain ⟨r1, hr1, hd1, _⟩ := lane_drop hl
              have hm := h3 l1 hl
              rw [hr1] at hm
              rcases List.mem_cons.1 hm with h | h
              · exact hxc h
              · exact hav x (by rw [hd1]; exact h) (by rw [hjx]; simp)
          repeat' (first|(refine rg 16 ?_;refine mV ?_;refine vV (by exact fs_addr rfl rfl (by omega) (by omega)) ?_;refine aV ?_)|refine nZ ?_)
          all_goals exact ⟨⟨j + 1, hlt⟩, by dsimp only; omega, [0], rfl, (by (repeat (first | exact trivial | refine ⟨rfl, ?_⟩))), ⟨.inr rfl, trivial⟩, by decide, fun _ hi => absurd hi (Nat.not_lt_zero _)⟩
end Go.Proofs.YtjpcpbbkelgkeaaGreat
namespace Go.Proofs.YtjpcpbbkelgkeaaGreat
open Go Go.Ab Go.Fl
theorem laneMakes_fin (s : Sit) (_ : True) : ACall Tryz.prog 3 [.agg (sitA s)] [] (.b true) [] := laneMakes_law s
end Go.Proofs.YtjpcpbbkelgkeaaGreat
