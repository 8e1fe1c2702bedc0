/-
  Layer 14: the first state is right (plain); its contract with nothing to write; comparing lists.
-/
import Derived.Test.YtcdgmjfmmnklnaaBdI
namespace Go.Proofs.Ytcdgmjfmmnklnaa
open Go Go.Ab Go.Fl Go.Shelf Go.Proofs Go.MapKept
set_option linter.unusedVariables false
set_option linter.unusedSimpArgs false
attribute [local irreducible] VC AW FStep ACall PCall StrStruct StrT AStep
set_option maxHeartbeats 4000000
theorem kndF_in {f : Flo} {c : Int} (h : inF f c = true) : kndF f c = f.k.getD c.toNat 0 := by
  unfold kndF
  rw [if_pos (inF_t.1 h)]
theorem first_rob {s : Sit} (h : SvOk s) : ∀ r, r ∈ (firstS s).rb → RobF s.fl r := by
  intro r hr
  unfold firstS at hr
  obtain ⟨x, hx, rfl⟩ := List.mem_map.1 hr
  obtain ⟨h1, h2, h3⟩ := h.rr x hx
  exact ⟨h1, by rw [← kndF_in h1]; exact h3, rfl, h2, rfl, rfl⟩
theorem car_none {l : List Rob} (h : ∀ r, r ∈ l → r.2.1 = -1) (i : Nat) : carI l i < 0 := by
  by_cases hc : 0 ≤ carI l (i : Int)
  · obtain ⟨r, hr, e⟩ := (carI_iff (Int.natCast_nonneg i)).1 hc
    have := h r hr
    omega
  · omega
theorem allL_first (s : Sit) : allL (firstS s) = (s.rb.map fun x => 2 * x.1) ++ (s.sh.map fun x => 2 * x.1 + 1) := by
  unfold allL
  have e1 : robL (firstS s) (firstS s).rb.length = s.rb.map fun x => 2 * x.1 := by
    rw [robL_all]
    unfold firstS
    rw [List.map_map]
    have : ((fun r : Rob => atL r.2.1 r.1) ∘ fun x : Int × Int => (x.1, (-1 : Int), x.2, (0 : Int), (0 : Int), false)) = fun x => [2 * x.1] := by
      funext x; rfl
    rw [this]
    induction s.rb with
    | nil => rfl
    | cons a l ih => simp only [List.map_cons, List.flatten_cons, ih, List.singleton_append]
  have e2 : ∀ k, k ≤ s.sh.length → shL (firstS s) k = (s.sh.take k).map fun x => 2 * x.1 + 1 := by
    intro k
    induction k with
    | zero => intro _; rfl
    | succ k ih =>
      intro hk
      rw [shL_next, ih (by omega), List.take_succ_eq_append_getElem (by omega), List.map_append]
      congr 1
      unfold shL1
      have hc := car_none (l := (firstS s).rb) (fun r hr => by unfold firstS at hr; obtain ⟨x, _, rfl⟩ := List.mem_map.1 hr; rfl) k
      rw [if_neg (by omega)]
      unfold firstS
      simp [List.getElem?_eq_getElem (show k < s.sh.length by omega)]
  have e3 : ppL (firstS s) (firstS s).pp.length = [] := rfl
  have e4 : (firstS s).sh.length = s.sh.length := by unfold firstS; simp
  rw [e1, e4, e2 _ (Nat.le_refl _), e3, List.take_length, List.append_nil]
theorem first_ok {s : Sit} (h : SvOk s) : StOk s (firstS s) := by
  refine ⟨rfl, by unfold firstS; simp, by unfold firstS; simp, by unfold firstS; simp, fun k hk => ?_, rfl, rfl, fun i hi _ => ?_, fun i hi => ?_, ?_⟩
  · obtain ⟨r1, r2, r3, r4, r5, r6⟩ := first_rob h _ (List.getElem_mem hk)
    exact ⟨r1, r2, by rw [r3]; exact withinB_t.2 (by omega), r4, by rw [r5]; rfl, by rw [r6]; rfl, fun h0 => by omega⟩
  · have hi2 : i < s.sh.length := by unfold firstS at hi; simpa using hi
    have e : (firstS s).sh.getD i 0 = (s.sh[i]).1 := by unfold firstS; simp [List.getElem?_eq_getElem hi2]
    obtain ⟨g1, g2⟩ := h.st _ (List.getElem_mem hi2)
    rw [kndF_in g1] at g2
    rw [e]
    unfold onB
    unfold standB at g2
    have := inF_t.1 g1
    simp only [Bool.and_eq_true, decide_eq_true_eq] at g2 ⊢
    exact ⟨this, by simpa using g2⟩
  · unfold firstS at hi; simp at hi
  · rw [clash_iff, allL_first, List.nodup_append]
    have n1 := h.rn
    have n2 := h.nd
    refine ⟨?_, ?_, ?_⟩
    · have : (s.rb.map fun x => 2 * x.1) = (s.rb.map (·.1)).map (2 * ·) := by simp
      rw [this]
      exact n1.map _ (fun a b hab e => hab (by omega))
    · have : (s.sh.map fun x => 2 * x.1 + 1) = (s.sh.map (·.1)).map (2 * · + 1) := by simp
      rw [this]
      exact n2.map _ (fun a b hab e => hab (by omega))
    · intro a ha b hb e
      obtain ⟨x, _, rfl⟩ := List.mem_map.1 ha
      obtain ⟨y, _, rfl⟩ := List.mem_map.1 hb
      omega
theorem firstA_c (s : Sit) (h1 : s.sh.length ≤ 1000) (h2 : s.rb.length ≤ 1000) : ACall Try.prog 10 [.agg (sitA s)] [] (.agg (sttA (firstS s))) [] := by
  have h := first_c s h1 h2
  have e1 : cellsF s s.sh.length = (firstS s).sh := by unfold cellsF firstS; rw [List.take_length]
  have e2 : robsF s s.rb.length = (firstS s).rb := by unfold robsF firstS; rw [List.take_length]
  rw [e1, e2] at h
  refine acall_view h (.agg (.cons (.v _) (.cons (view_ints rfl (by unfold firstS; simp)) (.cons (view_rows rfl (by unfold firstS; simp) (pln_flat (fun _ => rfl) _)) (.cons (.nils 1) (.cons (.nils 1) (.cons (.nils 2) .nil)))))))
theorem same14_c (a b : List Int) (ha : a.length ≤ 9223372036854775807) : ACall Try.prog 20 [.rowE (ints a) 1, .rowE (ints b) 1] [] (.b (decide (a = b))) [] := by
  have hal : (ints a).length = a.length := ints_length _
  have hbl : (ints b).length = b.length := ints_length _
  refine acall T Try.func20 rfl rfl rfl rfl ?_
  by_cases hl : a.length = b.length
  · repeat' (first | refine wS ?_ | refine wB ?_ | refine wK ?_ | refine wR ?_ | refine wE ?_ | refine aw_condt rfl ?_ | refine aw_condf rfl ?_ | (refine wC rfl (fun hb => ?_) (fun hb => ?_) <;> (first | subst hb | ((try simp only [nm] at hb); try (exfalso; omega)))) | (((refine rg 0 ?_)); (all_goals (refine aV ?_))) | (((refine rg 1 ?_)); (all_goals (refine mV ?_; (first|refine qV T ?_|refine vV (by exact fs_lenNil T rfl rfl) ?_); refine mV ?_; (first|refine qV T ?_|refine vV (by exact fs_lenNil T rfl rfl) ?_); refine vV (by exact fs_neq rfl rfl) ?_))) | (((refine rg 3 ?_)); (all_goals (refine aV ?_))) | (refine vc_nilp (by (first | (dsimp only [ln1, ln2, List.append_nil, ln4, ln5, ln6, ln7, ln8, ln9, putAt, putd, allObjs, argEnv, un_v, un_ptr, un_ep, un_pr, un_sl, un_mp, un_row, un_agg, un_tup, un_clo, Nat.zero_add, lnb, Nat.reduceAdd, lnc, lnd]; first | done | exact rfl) | exact rfl)) ?_))
    all_goals try (exfalso; omega)
    refine aw_loop (X := {k : Nat // k ≤ a.length ∧ ∀ j, j < k → a.getD j 0 = b.getD j 0}) (fun k => [(0, .rowE (ints a) 1), (1, .rowE (ints b) 1), (5, .i k.1)]) (fun _ => []) (fun k => a.length - k.1) ⟨0, by omega, fun j hj => absurd hj (Nat.not_lt_zero _)⟩ (by (refine ⟨[], rfl, ?_, trivial, List.nodup_nil, fun _ h => absurd h (Nat.not_lt_zero _)⟩; (repeat (first | exact trivial | refine ⟨rfl, ?_⟩)))) ?_
    rintro ⟨k, hk, hp⟩
    dsimp only
    by_cases hlt : k < a.length
    · have q1 := ints_gI (l := a) (j := (k : Int)) 0 hlt rfl
      have q2 := ints_gI (l := b) (j := (k : Int)) 0 (by omega) rfl
      by_cases e : a.getD k 0 = b.getD k 0
      · have hnx : ∀ j, j < k + 1 → a.getD j 0 = b.getD j 0 := fun j hj => by
          by_cases e2 : j = k
          · subst e2; exact e
          · exact hp j (by omega)
        rw [← e] at q2
        generalize a.getD k 0 = x at *
        repeat' (first|refine wS ?_|refine wB ?_|refine wK ?_|refine wR ?_|refine wE ?_|refine wT ?_|refine wU ?_|(refine wC rfl (fun hb=>?_) (fun hb=>?_)<;>(first|subst hb|((try simp only [nm] at hb);try (exfalso;omega))))|(refine rg 4 ?_;(all_goals (refine mV ?_;refine mV ?_;(first|refine qV T ?_|refine vV (by exact fs_lenNil T rfl rfl) ?_);refine vV (by first|exact fs_lssT rfl rfl (by omega)|exact fs_lss rfl rfl) ?_)))|(((refine aw_draw2k (id := 6) 26 [[],[],[0,1],[0,1,2],[],[],[4,5],[4,5,6],[0,1,2,3,4,5,6,7]] [17,18,19,20,21,22,23,24,25] [[],[17],[],[],[17,18,19,20],[17,18,19,20,21],[17,18,19,20],[17,18,19,20],[]] mixedP rfl (by decide +kernel) ?_));(all_goals first|(refine dw_v rfl rfl rfl (by first|exact fs_move rfl) ?_));(all_goals first|(refine dw_v rfl rfl rfl (by first|exact fs_move rfl) ?_));(all_goals first|(refine dw_v rfl rfl rfl (by first|exact fs_indexRowE T rfl rfl rfl rfl rfl (by omega) (ints_len _) q1|exact fs_indexRowE T rfl rfl rfl rfl rfl (by omega) (ints_len _) q2) ?_));(all_goals first|(refine dw_v rfl rfl rfl (by first|exact fs_load T rfl rfl rfl rfl) ?_));(all_goals first|(refine dw_v rfl rfl rfl (by first|exact fs_move rfl) ?_));(all_goals first|(refine dw_v rfl rfl rfl (by first|exact fs_move rfl) ?_));(all_goals first|(refine dw_v rfl rfl rfl (by first|exact fs_indexRowE T rfl rfl rfl rfl rfl (by omega) (ints_len _) q1|exact fs_indexRowE T rfl rfl rfl rfl rfl (by omega) (ints_len _) q2) ?_));(all_goals first|(refine dw_v rfl rfl rfl (by first|exact fs_load T rfl rfl rfl rfl) ?_));(all_goals first|(refine dw_v rfl rfl rfl (by first|exact fs_neqF rfl rfl rfl|exact fs_neq rfl rfl) ?_));(all_goals (refine dw_fin rfl rfl (by (first|(dsimp only [ln1,ln2,List.append_nil,ln4,ln5,ln6,ln7,ln8,ln9,putAt,putd,allObjs,argEnv,un_v,un_ptr,un_ep,un_pr,un_sl,un_mp,un_row,un_agg,un_tup,un_clo,Nat.zero_add,lnb,Nat.reduceAdd,lnc,lnd];first|done|exact rfl)|exact rfl)) ?_)))|(refine rg 5 ?_;(all_goals (refine mV ?_;refine vV (by first|exact fs_addr rfl rfl (by omega) (by omega)|exact fs_add rfl rfl) ?_;refine aV ?_)))|(refine vc_nilp (by (first|(dsimp only [ln1,ln2,List.append_nil,ln4,ln5,ln6,ln7,ln8,ln9,putAt,putd,allObjs,argEnv,un_v,un_ptr,un_ep,un_pr,un_sl,un_mp,un_row,un_agg,un_tup,un_clo,Nat.zero_add,lnb,Nat.reduceAdd,lnc,lnd];first|done|exact rfl)|exact rfl)) ?_))
        all_goals first | (exfalso; omega) | exact ⟨⟨k + 1, hlt, hnx⟩, by dsimp only; omega, by (refine ⟨[], rfl, ?_, trivial, List.nodup_nil, fun _ h => absurd h (Nat.not_lt_zero _)⟩; (repeat (first | exact trivial | refine ⟨rfl, ?_⟩)))⟩
      · rw [decide_eq_false (fun h => e (by rw [h]))]
        generalize a.getD k 0 = x at *
        generalize b.getD k 0 = y at *
        repeat' (first|refine wS ?_|refine wB ?_|refine wK ?_|refine wR ?_|refine wE ?_|refine wT ?_|refine wU ?_|(refine wC rfl (fun hb=>?_) (fun hb=>?_)<;>(first|subst hb|((try simp only [nm] at hb);try (exfalso;omega))))|(refine rg 4 ?_;(all_goals (refine mV ?_;refine mV ?_;(first|refine qV T ?_|refine vV (by exact fs_lenNil T rfl rfl) ?_);refine vV (by first|exact fs_lssT rfl rfl (by omega)|exact fs_lss rfl rfl) ?_)))|(((refine aw_draw2k (id := 6) 26 [[],[],[0,1],[0,1,2],[],[],[4,5],[4,5,6],[0,1,2,3,4,5,6,7]] [17,18,19,20,21,22,23,24,25] [[],[17],[],[],[17,18,19,20],[17,18,19,20,21],[17,18,19,20],[17,18,19,20],[]] mixedP rfl (by decide +kernel) ?_));(all_goals first|(refine dw_v rfl rfl rfl (by first|exact fs_move rfl) ?_));(all_goals first|(refine dw_v rfl rfl rfl (by first|exact fs_move rfl) ?_));(all_goals first|(refine dw_v rfl rfl rfl (by first|exact fs_indexRowE T rfl rfl rfl rfl rfl (by omega) (ints_len _) q1|exact fs_indexRowE T rfl rfl rfl rfl rfl (by omega) (ints_len _) q2) ?_));(all_goals first|(refine dw_v rfl rfl rfl (by first|exact fs_load T rfl rfl rfl rfl) ?_));(all_goals first|(refine dw_v rfl rfl rfl (by first|exact fs_move rfl) ?_));(all_goals first|(refine dw_v rfl rfl rfl (by first|exact fs_move rfl) ?_));(all_goals first|(refine dw_v rfl rfl rfl (by first|exact fs_indexRowE T rfl rfl rfl rfl rfl (by omega) (ints_len _) q1|exact fs_indexRowE T rfl rfl rfl rfl rfl (by omega) (ints_len _) q2) ?_));(all_goals first|(refine dw_v rfl rfl rfl (by first|exact fs_load T rfl rfl rfl rfl) ?_));(all_goals first|(refine dw_v rfl rfl rfl (by first|exact fs_neqT rfl rfl e|exact fs_neq rfl rfl) ?_));(all_goals (refine dw_fin rfl rfl (by (first|(dsimp only [ln1,ln2,List.append_nil,ln4,ln5,ln6,ln7,ln8,ln9,putAt,putd,allObjs,argEnv,un_v,un_ptr,un_ep,un_pr,un_sl,un_mp,un_row,un_agg,un_tup,un_clo,Nat.zero_add,lnb,Nat.reduceAdd,lnc,lnd];first|done|exact rfl)|exact rfl)) ?_)))|(refine rg 7 ?_;(all_goals (refine aV ?_)))|(refine vc_nilp (by (first|(dsimp only [ln1,ln2,List.append_nil,ln4,ln5,ln6,ln7,ln8,ln9,putAt,putd,allObjs,argEnv,un_v,un_ptr,un_ep,un_pr,un_sl,un_mp,un_row,un_agg,un_tup,un_clo,Nat.zero_add,lnb,Nat.reduceAdd,lnc,lnd];first|done|exact rfl)|exact rfl)) ?_))
        all_goals first | (exfalso; omega) | exact ret_plain (.inl rfl) rfl rfl
    · have e : a = b := List.ext_getElem hl fun j h1 h2 => by
        have := hp j (by omega)
        rwa [List.getD_eq_getElem?_getD, List.getElem?_eq_getElem h1, List.getD_eq_getElem?_getD, List.getElem?_eq_getElem h2] at this
      rw [decide_eq_true e]
      repeat' (first|refine wS ?_|refine wB ?_|refine wK ?_|refine wR ?_|refine wE ?_|refine wT ?_|refine wU ?_|(refine wC rfl (fun hb=>?_) (fun hb=>?_)<;>(first|subst hb|((try simp only [nm] at hb);try (exfalso;omega))))|(refine rg 4 ?_;(all_goals (refine mV ?_;refine mV ?_;(first|refine qV T ?_|refine vV (by exact fs_lenNil T rfl rfl) ?_);refine vV (by first|exact fs_lssF rfl rfl (by omega)|exact fs_lss rfl rfl) ?_)))|(refine rg 8 ?_;(all_goals (refine aV ?_)))|(refine vc_nilp (by (first|(dsimp only [ln1,ln2,List.append_nil,ln4,ln5,ln6,ln7,ln8,ln9,putAt,putd,allObjs,argEnv,un_v,un_ptr,un_ep,un_pr,un_sl,un_mp,un_row,un_agg,un_tup,un_clo,Nat.zero_add,lnb,Nat.reduceAdd,lnc,lnd];first|done|exact rfl)|exact rfl)) ?_))
      all_goals first | (exfalso; omega) | exact ret_plain (.inl rfl) rfl rfl
  · rw [decide_eq_false (fun h => hl (by rw [h]))]
    repeat' (first|refine wS ?_|refine wB ?_|refine wK ?_|refine wR ?_|refine wE ?_|refine wT ?_|refine wU ?_|(refine wC rfl (fun hb=>?_) (fun hb=>?_)<;>(first|subst hb|((try simp only [nm] at hb);try (exfalso;omega))))|(refine rg 0 ?_;(all_goals (refine aV ?_)))|(refine rg 1 ?_;(all_goals (refine mV ?_;(first|refine qV T ?_|refine vV (by exact fs_lenNil T rfl rfl) ?_);refine mV ?_;(first|refine qV T ?_|refine vV (by exact fs_lenNil T rfl rfl) ?_);refine vV (by exact fs_neq rfl rfl) ?_)))|(refine rg 2 ?_;(all_goals (refine aV ?_)))|(refine vc_nilp (by (first|(dsimp only [ln1,ln2,List.append_nil,ln4,ln5,ln6,ln7,ln8,ln9,putAt,putd,allObjs,argEnv,un_v,un_ptr,un_ep,un_pr,un_sl,un_mp,un_row,un_agg,un_tup,un_clo,Nat.zero_add,lnb,Nat.reduceAdd,lnc,lnd];first|done|exact rfl)|exact rfl)) ?_))
    all_goals first | (exfalso; omega) | exact ret_plain (.inl rfl) rfl rfl
end Go.Proofs.Ytcdgmjfmmnklnaa
