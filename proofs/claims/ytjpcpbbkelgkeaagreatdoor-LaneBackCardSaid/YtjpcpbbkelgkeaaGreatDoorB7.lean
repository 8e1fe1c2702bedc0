/-
  Texts of the logic and of the layer, in one module (part 7).
-/
import Derived.Test.YtjpcpbbkelgkeaaGreatDoorB6
import Derived.Test.YtjpcpbbkelgkeaaGreatDoorRows
import Derived.Deep.DeepHandedRow
import Derived.Lib.LaidTab
import Derived.Stop.LaidErr
set_option linter.unusedVariables false
set_option linter.unusedSimpArgs false
namespace Go.Proofs.YtjpcpbbkelgkeaaGreatDoor
open Go Go.Ab Go.Ln Go.Wr
attribute [local irreducible] VC AW FStep ACall PCall AStep
set_option maxHeartbeats 4000000
theorem boolTL : BoolT Tryz.prog 4 := by unfold BoolT; kernel_rfl
attribute [local irreducible] BoolT
theorem cfew_p (b : Int) (L : List LaneT) : PCall Tryz.prog 5 [.agg (certA L b)] [] (okB (L.length ≤ 20 ∧ ∀ x, x ∈ L → x.2.1.length ≤ 40 ∧ x.2.2.length ≤ 40)) := by
  have hll : (lanesA L).length = L.length := by simp
  refine pcall T Tryz.func5 rfl rfl rfl rfl ?_
  repeat' (first|refine wS ?_|refine wB ?_|refine wK ?_|refine wR ?_|refine wE ?_|refine wT ?_|refine wU ?_|(refine wC rfl (fun hb=>?_) (fun hb=>?_)<;>(first|subst hb|((try simp only [nm] at hb);try (exfalso;omega))))|(refine rg 0 ?_;refine vc_n (by exact fs_box rfl rfl) rfl ?_;refine aV ?_)|(refine rg 1 ?_;refine aV ?_)|refine nZ ?_)
  refine aw_loop (X := {k : Nat // k ≤ 21 ∧ k ≤ L.length ∧ ∀ x, x ∈ L.take k → x.2.1.length ≤ 40 ∧ x.2.2.length ≤ 40}) (fun k => [(1, .ptr 0 0), (3, .i k.1)]) (fun _ => [.cells (certA L b)]) (fun k => 21 - k.1) ⟨0, by omega, Nat.zero_le _, fun x hx => by cases hx⟩ (by (refine ⟨[0], rfl, (by (repeat (first | exact trivial | refine ⟨rfl, ?_⟩))), (by (repeat (first | exact trivial | refine ⟨Or.inl rfl, ?_⟩ | refine ⟨Or.inr rfl, ?_⟩))), by decide, (fun _ hi => absurd hi (Nat.not_lt_zero _))⟩)) ?_
  rintro ⟨k, hk1, hk2, hz⟩
  dsimp only
  by_cases hlt : k < L.length ∧ k < 21
  · obtain ⟨hlt, h21⟩ := hlt
    have qx : (lanesA L)[(k : Int).toNat]? = some (laneA L[k]) := lanes_get (by rw [Int.toNat_natCast, List.getElem?_eq_getElem hlt])
    have hnx : (L[k].2.1.length ≤ 40 ∧ L[k].2.2.length ≤ 40) → ∀ x, x ∈ L.take (k + 1) → x.2.1.length ≤ 40 ∧ x.2.2.length ≤ 40 := fun h x hx => by
      rw [List.take_succ_eq_append_getElem hlt, List.mem_append, List.mem_singleton] at hx
      rcases hx with hx | hx
      · exact hz x hx
      · rw [hx]; exact h
    generalize L[k] = x at *
    obtain ⟨xc, xa, xb⟩ := x
    dsimp only at hnx
    have hal : (ints xa).length = xa.length := ints_length _
    have hbl : (ints xb).length = xb.length := ints_length _
    repeat' (first|refine wS ?_|refine wB ?_|refine wK ?_|refine wR ?_|refine wE ?_|refine wT ?_|refine wU ?_|(refine wC rfl (fun hb=>?_) (fun hb=>?_)<;>(first|subst hb|((try simp only [nm] at hb);try (exfalso;omega))))|(refine rg 2 ?_;(all_goals (refine mV ?_;refine fV T ?_;refine lV T ?_;(first|refine qV T ?_|refine vV (by exact fs_lenNil T rfl rfl) ?_);refine vV (by exact fs_lss rfl rfl) ?_;refine mV ?_));(all_goals first|(refine gK ?_)|(refine vc_split rfl rfl (fun hb=>?_) (fun hb=>?_)<;>(first|subst hb|(rw [hb];(try simp only [nm] at hb);try ((exfalso;omega);done)))));(all_goals first|(refine gT ?_;(refine mV ?_);refine gT ?_;(refine vV (by exact fs_lss rfl rfl) ?_))|(iterate 2 first|refine gF ?_|refine gU ?_));(all_goals (first|refine pV ?_|refine vV (by exact fs_pick rfl rfl rfl) ?_)))|(refine rg 4 ?_;(all_goals (refine fV T ?_;refine lV T ?_;refine mV ?_;refine vV (by exact fs_indexRowE T rfl rfl rfl rfl rfl (by omega) (lanes_len _) qx) ?_;refine fV T ?_;refine lV T ?_;(first|refine qV T ?_|refine vV (by exact fs_lenNil T rfl rfl) ?_);refine vV (by exact fs_gtr rfl rfl) ?_;refine mV ?_));(all_goals first|(refine gK ?_)|(refine vc_split rfl rfl (fun hb=>?_) (fun hb=>?_)<;>(first|subst hb|(rw [hb];(try simp only [nm] at hb);try ((exfalso;omega);done)))));(all_goals first|(refine gT ?_;(refine fV T ?_);refine gT ?_;(refine lV T ?_);refine gT ?_;(refine mV ?_);refine gT ?_;(refine vV (by exact fs_indexRowE T rfl rfl rfl rfl rfl (by omega) (lanes_len _) qx) ?_);refine gT ?_;(refine fV T ?_);refine gT ?_;(refine lV T ?_);refine gT ?_;(first|refine qV T ?_|refine vV (by exact fs_lenNil T rfl rfl) ?_);refine gT ?_;(refine vV (by exact fs_gtr rfl rfl) ?_))|(iterate 8 first|refine gF ?_|refine gU ?_));(all_goals (first|refine pV ?_|refine vV (by exact fs_pick rfl rfl rfl) ?_)))|(refine rg 5 ?_;refine aV ?_)|(refine rg 3 ?_;refine mV ?_;refine vV (by first|exact fs_addr rfl rfl (by omega) (by omega)|exact fs_add rfl rfl) ?_;refine aV ?_)|refine nZ ?_)
    all_goals first | (exfalso; omega) | exact ⟨.b false, [], ⟨rfl, false, rfl, fun h => Bool.noConfusion h⟩, ret_plain (.inl rfl) rfl rfl⟩ | exact ⟨⟨k + 1, by omega, by omega, hnx ⟨by omega, by omega⟩⟩, by dsimp only; omega, by (refine ⟨[0], rfl, (by (repeat (first | exact trivial | refine ⟨rfl, ?_⟩))), (by (repeat (first | exact trivial | refine ⟨Or.inl rfl, ?_⟩ | refine ⟨Or.inr rfl, ?_⟩))), by decide, (fun _ hi => absurd hi (Nat.not_lt_zero _))⟩)⟩
  · repeat' (first | refine wS ?_ | refine wB ?_ | refine wK ?_ | refine wR ?_ | refine wE ?_ | refine aw_condt rfl ?_ | refine aw_condf rfl ?_ | (refine wC rfl (fun hb => ?_) (fun hb => ?_) <;> (first | subst hb | ((try simp only [nm] at hb); try (exfalso; omega)))) | (((refine rg 2 ?_)); (all_goals (refine mV ?_; refine fV T ?_; refine lV T ?_; (first|refine qV T ?_|refine vV (by exact fs_lenNil T rfl rfl) ?_); refine vV (by exact fs_lss rfl rfl) ?_; refine mV ?_)); (all_goals first | (refine gK ?_) | (refine vc_split rfl rfl (fun hb => ?_) (fun hb => ?_) <;> (first | subst hb | (rw [hb]; (try simp only [nm] at hb); try ((exfalso; omega); done))))); (all_goals first | (refine gT ?_; (refine mV ?_); refine gT ?_; (refine vV (by exact fs_lss rfl rfl) ?_)) | (iterate 2 first | refine gF ?_ | refine gU ?_)); (all_goals (first|refine pV ?_|refine vV (by exact fs_pick rfl rfl rfl) ?_))) | (((refine rg 6 ?_)); (all_goals (refine fV T ?_; refine lV T ?_; (first|refine qV T ?_|refine vV (by exact fs_lenNil T rfl rfl) ?_); refine vV (by exact fs_leq rfl rfl) ?_; refine aV ?_))) | (refine vc_nilp (by (first | (dsimp only [ln1, ln2, List.append_nil, ln4, ln5, ln6, ln7, ln8, ln9, putAt, putd, allObjs, argEnv, un_v, un_ptr, un_ep, un_pr, un_sl, un_mp, un_row, un_agg, un_tup, un_clo, Nat.zero_add, lnb, Nat.reduceAdd, lnc, lnd]; first | done | exact rfl) | exact rfl)) ?_))
    all_goals first | (exfalso; omega) | skip
    all_goals exact ⟨_, _, ⟨rfl, _, rfl, fun h => by
      have h20 : ((lanesA L).length : Int) ≤ 20 := of_decide_eq_true h
      refine ⟨by omega, fun x hx => hz x ?_⟩
      rw [List.take_of_length_le (by omega)]; exact hx⟩, ret_plain (.inl rfl) rfl rfl⟩
theorem csame_c (b b' : Int) (L L' : List LaneT) (hb : I64 b) (hL : ∀ x, x ∈ L → OkLane x) (hl : L.length ≤ 1000) (hb' : I64 b') (hL' : ∀ x, x ∈ L' → OkLane x) (hl' : L'.length ≤ 1000) (he : certB b L = certB b' L') : ACall Tryz.prog 9 [.agg (certA L b), .agg (certA L' b')] [] (.b true) [] := by
  have c1 := rbytesL_c b L hb hL hl
  have c2 := rbytesL_c b' L' hb' hL' hl'
  refine acall T Tryz.func9 rfl rfl rfl rfl ?_
  repeat' (first|refine wS ?_|refine wB ?_|refine wK ?_|refine wR ?_|refine wE ?_|refine wT ?_|refine wU ?_|(refine rg 0 ?_;refine vc_n (by exact fs_box rfl rfl) rfl ?_;refine vc_n (by exact fs_box rfl rfl) rfl ?_;refine aV ?_)|(((refine aw_draw2k (id := 1) 10 [[],[0],[],[0,1,2],[0,1,2,3]] [5,6,7,8,9] [[],[],[5,6],[],[]] mixedP rfl (by decide +kernel) ?_));(all_goals first|(refine dV rfl (by exact fs_load T rfl rfl rfl rfl) ?_));(all_goals first|(refine dV rfl (by first|exact kC (c1)|exact kC (c2)) ?_)|(refine dw_n rfl rfl rfl (by first|exact kC (c1)|exact kC (c2)) rfl ?_));(all_goals first|(refine dV rfl (by exact fs_load T rfl rfl rfl rfl) ?_));(all_goals first|(refine dV rfl (by first|exact kC (c1)|exact kC (c2)) ?_)|(refine dw_n rfl rfl rfl (by first|exact kC (c1)|exact kC (c2)) rfl ?_));(all_goals first|(refine dV rfl (by first|exact fs_eqlST rfl rfl he|exact fs_eql rfl rfl) ?_));(all_goals (refine dw_fin rfl rfl (by (first|(dsimp only [ln1,ln2,List.append_nil,ln4,ln5,ln6,ln7,ln8,ln9,putAt,putd,allObjs,argEnv,un_v,un_ptr,un_ep,un_pr,un_sl,un_mp,un_row,un_agg,un_tup,un_clo,Nat.zero_add,lnb,Nat.reduceAdd,lnc,lnd];first|done|exact rfl)|exact rfl)) ?_;refine aV ?_)))|refine nZ ?_)
  all_goals exact ret_plain (.inl rfl) rfl rfl
theorem readN_lenS : ∀ (k : Nat) (s : St), (readN k s).1.length ≤ (s.getD []).length
  | 0, s => Nat.zero_le _
  | k + 1, s => by
    unfold readN
    by_cases hz : (s.getD []).length = 0
    · rw [if_pos hz]; exact Nat.zero_le _
    · rw [if_neg hz, List.length_cons]
      have h1 := readN_lenS k (numsS (numsS (intS s).2).2).2
      have h2 := numsS_len (intS s).2
      have h3 := numsS_len (numsS (intS s).2).2
      have h4 : ((intS s).2.getD []).length + 1 ≤ (s.getD []).length := by
        cases s with
        | none => simp at hz
        | some r =>
          rcases intS_len r with h | ⟨r', h, hr⟩
          · rw [h]; simp at hz ⊢; exact List.length_pos_iff.2 hz
          · rw [h]; simp; omega
      omega
theorem readN_lenL : ∀ (k : Nat) (s : St), (s.getD []).length ≤ 400 → (readN k s).1.length ≤ 1000 := fun k s hl => by
  have := readN_lenS k s
  omega
theorem readC_ok {l : List UInt8} {b : Int} {L : List LaneT} (hl : l.length ≤ 400) (h : readC l = some (b, L)) : I64 b ∧ (∀ x, x ∈ L → OkLane x) ∧ L.length ≤ 1000 := by
  have h1 := numS_getD (some l) 59 (-9223372036854775808)
  have h2 := numS_getD (intS (some l)).2 59 0
  have hl0 : ((some l : St).getD []).length = l.length := rfl
  rw [hl0] at h1
  have h3 : ((intS (some l)).2.getD []).length ≤ l.length := h1
  unfold readC endC at h
  split at h
  · simp only [Option.some.injEq, Prod.mk.injEq] at h
    obtain ⟨g1, g2⟩ := h
    rw [← g1, ← g2]
    exact ⟨numS_I64 (some l) 59 (-9223372036854775808), readN_ok _ _ (by omega), readN_lenL _ _ (by omega)⟩
  · cases h
theorem laneBack_law (b : Int) (L : List LaneT) (hbI : I64 b) (hL : ∀ x, x ∈ L → I64 x.1 ∧ (∀ y, y ∈ x.2.1 → I64 y) ∧ ∀ y, y ∈ x.2.2 → I64 y) (l : List UInt8) : ACall Tryz.prog 3 [.agg (certA L b), .s l] [] (.b true) [] := by
  have cF := cfew_p b L
  refine PCall.toA (Φ := fun r o => r = .b true ∧ o = []) ?_ (fun _ _ h => h)
  refine pcall T Tryz.func3 rfl rfl rfl rfl ?_
  repeat' (first|refine wS ?_|refine wB ?_|refine wK ?_|refine wR ?_|refine wE ?_|refine wT ?_|refine wU ?_|(refine wC rfl (fun hb=>?_) (fun hb=>?_)<;>(first|subst hb|((try simp only [nm] at hb);try (exfalso;omega))))|(refine rg 0 ?_;refine vc_n (by exact fs_box rfl rfl) rfl ?_;refine aV ?_)|(refine rg 1 ?_;refine vV (by exact kC (smallL_c)) ?_;refine aV ?_)|(refine rg 2 ?_;(all_goals (refine lV T ?_));(all_goals (refine vc_pcallb rfl rfl (cF) (.cons (view_self _ rfl) .nil) (by rintro _ ⟨_,rfl,_⟩;rfl) rfl ?_;rintro _ ⟨b1,rfl,hF⟩;dsimp only [putd];cases b1));(all_goals (refine vV (by exact fs_not rfl) ?_;refine mV ?_));(all_goals first|(refine gK ?_)|(refine vc_split rfl rfl (fun hb=>?_) (fun hb=>?_)<;>(first|subst hb|(rw [hb];(try simp only [nm] at hb);try ((exfalso;omega);done)))));(all_goals first|(refine gT ?_;(refine mV ?_);refine gT ?_;(refine vV (by first|exact fs_lenOwn T rfl rfl|exact fs_lenRow T rfl rfl|exact fs_lenNil T rfl rfl|exact fs_lenS strTW rfl) ?_);refine gT ?_;(refine vV (by exact fs_gtr rfl rfl) ?_))|(iterate 3 first|refine gF ?_|refine gU ?_));(all_goals (first|refine pV ?_|refine vV (by exact fs_pick rfl rfl rfl) ?_)))|(refine rg 3 ?_;refine mV ?_;refine aV ?_)|refine nZ ?_)
  all_goals first | exact ⟨_, _, ⟨rfl, rfl⟩, ret_plain (.inl rfl) rfl rfl⟩ | skip
  obtain ⟨h20, h40⟩ := hF rfl
  have hOk : ∀ x, x ∈ L → OkLane x := fun x hx => ⟨(hL x hx).1, (hL x hx).2.1, (hL x hx).2.2, by have := (h40 x hx).1; omega, by have := (h40 x hx).2; omega⟩
  have cB := bytesL_c b L hbI hOk (by omega)
  have rB := rbytesL_c b L hbI hOk (by omega)
  have hlen : (certB b L).length ≤ 1000000 := by
    have h1 := intB_len hbI
    have h2 := intB_len (n := (L.length : Int)) ⟨by omega, by omega⟩
    have h3 := lanesB_len L hOk
    unfold certB; simp only [List.length_append]; omega
  have cR1 : ACall Tryz.prog 6 [.s (certB b L)] [] (.tup [.agg (certA L b), .b true]) [] := PCall.toA (readL_p _ hlen) fun r o h => ⟨h.2.trans (by rw [readC_mk hbI hOk (by omega)]; rfl), h.1⟩
  have cS1 := csame_c b b L L hbI hOk (by omega) hbI hOk (by omega) rfl
  have pR2 := readL_p l (by omega)
  have pR3 := qreadL_p l (by omega)
  clear cF hF hL
  cases hR : readC l with
  | none =>
    have cR2 : ACall Tryz.prog 6 [.s l] [] (.tup [.agg (certA [] 0), .b false]) [] := PCall.toA pR2 fun r o h => ⟨h.2.trans (by rw [hR]; rfl), h.1⟩
    have cR3 : ACall Tryz.prog 8 [.s l] [] (.tup [.agg (certA [] 0), .b false]) [] := PCall.toA pR3 fun r o h => ⟨h.2.trans (by rw [hR]; rfl), h.1⟩
    have cS2 := csame_c 0 0 [] [] ⟨by decide, by decide⟩ (fun x hx => by cases hx) (by decide) ⟨by decide, by decide⟩ (fun x hx => by cases hx) (by decide) rfl
    clear pR2 pR3
    generalize certB b L = z at *
    repeat' (first|refine wS ?_|refine wB ?_|refine wK ?_|refine wR ?_|refine wE ?_|refine wT ?_|refine wU ?_|(refine wC rfl (fun hb=>?_) (fun hb=>?_)<;>(first|subst hb|((try simp only [nm] at hb);try (exfalso;omega))))|(refine rg 4 ?_;refine lV T ?_;refine vV (by exact kC (cB)) ?_;refine vV (by first|exact kC (cR1)|exact kC (cR2)) ?_;refine mV ?_;refine xV ?_;refine xV ?_;refine vc_n (by exact fs_alloc T rfl) rfl ?_;refine vc_store T rfl rfl rfl rfl rfl rfl (by decide) rfl ?_;refine aV ?_)|(refine rg 5 ?_;refine mV ?_;refine vV (by first|exact kC (cR1)|exact kC (cR2)) ?_;refine mV ?_;refine xV ?_;refine xV ?_;refine vc_n (by exact fs_alloc T rfl) rfl ?_;refine vc_store T rfl rfl rfl rfl rfl rfl (by decide) rfl ?_;refine aV ?_)|(refine rg 6 ?_;refine mV ?_;refine vV (by exact kC (cR3)) ?_;refine mV ?_;refine xV ?_;refine xV ?_;refine vc_n (by exact fs_alloc T rfl) rfl ?_;refine vc_store T rfl rfl rfl rfl rfl rfl (by decide) rfl ?_;refine aV ?_)|(((refine aw_draw2k (id := 7) 74 [[],[0],[0,1],[0,1,2],[0,1,2,3],[0,1,2,3,4],[0,1,2,3,4],[0,1,2,3,4,5,6],[0,1,2,3,4,5,6,7],[0,1,2,3,4,5,6,7,8],[0,1,2,3,4,5,6,7,8,9],[0,1,2,3,4,5,6,7,8,9,10],[0,1,2,3,4,5,6,7,8,9],[0,1,2,3,4,5,6,7,8,9,10,11,12],[0,1,2,3,4,5,6,7,8,9,10,11,12,13],[0,1,2,3,4,5,6,7,8,9,10,11,12,13,14],[0,1,2,3,4,5,6,7,8,9,10,11,12,13,14,15],[0,1,2,3,4,5,6,7,8,9,10,11,12,13,14,15,16],[0,1,2,3,4,5,6,7,8,9,10,11,12,13,14,15,16],[0,1,2,3,4,5,6,7,8,9,10,11,12,13,14,15,16,17,18],[0,1,2,3,4,5,6,7,8,9,10,11,12,13,14,15,16,17,18,19],[0,1,2,3,4,5,6,7,8,9,10,11,12,13,14,15,16,17,18,19,20],[0,1,2,3,4,5,6,7,8,9,10,11,12,13,14,15,16,17,18,19,20,21],[0,1,2,3,4,5,6,7,8,9,10,11,12,13,14,15,16,17,18,19,20,21],[0,1,2,3,4,5,6,7,8,9,10,11,12,13,14,15,16,17,18,19,20,21,22,23],[0,1,2,3,4,5,6,7,8,9,10,11,12,13,14,15,16,17,18,19,20,21,22,23,24],[0,1,2,3,4,5,6,7,8,9,10,11,12,13,14,15,16,17,18,19,20,21,22,23,24,25],[0,1,2,3,4,5,6,7,8,9,10,11,12,13,14,15,16,17,18,19,20,21,22,23,24,25,26],[0,1,2,3,4,5,6,7,8,9,10,11,12,13,14,15,16,17,18,19,20,21,22,23,24,25,26,27],[0,1,2,3,4,5,6,7,8,9,10,11,12,13,14,15,16,17,18,19,20,21,22,23,24,25,26,27,28],[0,1,2,3,4,5,6,7,8,9,10,11,12,13,14,15,16,17,18,19,20,21,22,23,24,25,26,27,28,29],[0,1,2,3,4,5,6,7,8,9,10,11,12,13,14,15,16,17,18,19,20,21,22,23,24,25,26,27,28,29,30],[0,1,2,3,4,5,6,7,8,9,10,11,12,13,14,15,16,17,18,19,20,21,22,23,24,25,26,27,28,29],[0,1,2,3,4,5,6,7,8,9,10,11,12,13,14,15,16,17,18,19,20,21,22,23,24,25,26,27,28,29,30,31,32],[0,1,2,3,4,5,6,7,8,9,10,11,12,13,14,15,16,17,18,19,20,21,22,23,24,25,26,27,28,29,30,31,32,33],[0,1,2,3,4,5,6,7,8,9,10,11,12,13,14,15,16,17,18,19,20,21,22,23,24,25,26,27,28,29,30,31,32,33,34]] [38,39,40,41,42,43,44,45,46,47,48,49,50,51,52,53,54,55,56,57,58,59,60,61,62,63,64,65,66,67,68,69,70,71,72,73] [[],[],[],[],[],[],[43],[],[],[],[],[],[48,49],[],[],[],[],[],[55],[],[],[],[],[60],[],[],[],[],[],[],[],[],[68,69],[],[],[]] mixedP rfl (by decide +kernel) ?_));(all_goals first|(refine dV rfl (by exact fs_move rfl) ?_));(all_goals first|(refine dV rfl (by exact fs_move rfl) ?_));(all_goals first|(refine dT rfl (by exact fs_move rfl) ?_)|(refine dG ?_)|(refine dH ?_)|(refine dw_split rfl rfl rfl rfl (fun hb=>?_) (fun hb=>?_)<;>(first|subst hb|(rw [hb];(try simp only [nm] at hb);try ((exfalso;omega);done)))<;>first|(refine dT rfl (by exact fs_move rfl) ?_)|(refine dG ?_)|(refine dH ?_)));(all_goals first|(refine dV rfl (by first|exact fs_pickt rfl rfl|exact fs_pickf rfl rfl|exact fs_pick rfl rfl rfl) ?_));(all_goals first|(refine dV rfl (by exact fs_move rfl) ?_));(all_goals first|(refine dT rfl (by exact fs_load T rfl rfl rfl rfl) ?_)|(refine dG ?_)|(refine dH ?_)|(refine dw_split rfl rfl rfl rfl (fun hb=>?_) (fun hb=>?_)<;>(first|subst hb|(rw [hb];(try simp only [nm] at hb);try ((exfalso;omega);done)))<;>first|(refine dT rfl (by exact fs_load T rfl rfl rfl rfl) ?_)|(refine dG ?_)|(refine dH ?_)));(all_goals first|(refine dT rfl (by exact fs_load T rfl rfl rfl rfl) ?_)|(refine dG ?_)|(refine dH ?_));(all_goals first|(refine dT rfl (by first|exact kC (cS1)|exact kC (cS2)) ?_)|(refine dw_gn rfl rfl rfl rfl rfl (by first|exact kC (cS1)|exact kC (cS2)) rfl ?_)|(refine dG ?_)|(refine dH ?_));(all_goals first|(refine dV rfl (by first|exact fs_pickt rfl rfl|exact fs_pickf rfl rfl|exact fs_pick rfl rfl rfl) ?_));(all_goals first|(refine dV rfl (by exact fs_move rfl) ?_));(all_goals first|(refine dT rfl (by exact fs_load T rfl rfl rfl rfl) ?_)|(refine dG ?_)|(refine dH ?_)|(refine dw_split rfl rfl rfl rfl (fun hb=>?_) (fun hb=>?_)<;>(first|subst hb|(rw [hb];(try simp only [nm] at hb);try ((exfalso;omega);done)))<;>first|(refine dT rfl (by exact fs_load T rfl rfl rfl rfl) ?_)|(refine dG ?_)|(refine dH ?_)));(all_goals first|(refine dT rfl (by first|exact kC (cB)) ?_)|(refine dw_gn rfl rfl rfl rfl rfl (by first|exact kC (cB)) rfl ?_)|(refine dG ?_)|(refine dH ?_));(all_goals first|(refine dT rfl (by exact fs_load T rfl rfl rfl rfl) ?_)|(refine dG ?_)|(refine dH ?_));(all_goals first|(refine dT rfl (by first|exact kC (rB)) ?_)|(refine dw_gn rfl rfl rfl rfl rfl (by first|exact kC (rB)) rfl ?_)|(refine dG ?_)|(refine dH ?_));(all_goals first|(refine dT rfl (by first|exact fs_eqlST rfl rfl rfl|exact fs_eqlB boolTL rfl rfl|exact fs_eql rfl rfl) ?_)|(refine dG ?_)|(refine dH ?_));(all_goals first|(refine dV rfl (by first|exact fs_pickt rfl rfl|exact fs_pickf rfl rfl|exact fs_pick rfl rfl rfl) ?_));(all_goals first|(refine dV rfl (by exact fs_move rfl) ?_));(all_goals first|(refine dT rfl (by exact fs_move rfl) ?_)|(refine dG ?_)|(refine dH ?_)|(refine dw_split rfl rfl rfl rfl (fun hb=>?_) (fun hb=>?_)<;>(first|subst hb|(rw [hb];(try simp only [nm] at hb);try ((exfalso;omega);done)))<;>first|(refine dT rfl (by exact fs_move rfl) ?_)|(refine dG ?_)|(refine dH ?_)));(all_goals first|(refine dT rfl (by exact fs_move rfl) ?_)|(refine dG ?_)|(refine dH ?_));(all_goals first|(refine dT rfl (by first|exact fs_eqlST rfl rfl rfl|exact fs_eqlB boolTL rfl rfl|exact fs_eql rfl rfl) ?_)|(refine dG ?_)|(refine dH ?_));(all_goals first|(refine dV rfl (by first|exact fs_pickt rfl rfl|exact fs_pickf rfl rfl|exact fs_pick rfl rfl rfl) ?_));(all_goals first|(refine dV rfl (by exact fs_move rfl) ?_));(all_goals first|(refine dT rfl (by exact fs_load T rfl rfl rfl rfl) ?_)|(refine dG ?_)|(refine dH ?_)|(refine dw_split rfl rfl rfl rfl (fun hb=>?_) (fun hb=>?_)<;>(first|subst hb|(rw [hb];(try simp only [nm] at hb);try ((exfalso;omega);done)))<;>first|(refine dT rfl (by exact fs_load T rfl rfl rfl rfl) ?_)|(refine dG ?_)|(refine dH ?_)));(all_goals first|(refine dT rfl (by exact fs_load T rfl rfl rfl rfl) ?_)|(refine dG ?_)|(refine dH ?_));(all_goals first|(refine dT rfl (by first|exact kC (cS1)|exact kC (cS2)) ?_)|(refine dw_gn rfl rfl rfl rfl rfl (by first|exact kC (cS1)|exact kC (cS2)) rfl ?_)|(refine dG ?_)|(refine dH ?_));(all_goals first|(refine dV rfl (by first|exact fs_pickt rfl rfl|exact fs_pickf rfl rfl|exact fs_pick rfl rfl rfl) ?_));(all_goals first|(refine dV rfl (by exact fs_move rfl) ?_));(all_goals first|(refine dT rfl (by exact fs_move rfl) ?_)|(refine dG ?_)|(refine dH ?_)|(refine dw_split rfl rfl rfl rfl (fun hb=>?_) (fun hb=>?_)<;>(first|subst hb|(rw [hb];(try simp only [nm] at hb);try ((exfalso;omega);done)))<;>first|(refine dT rfl (by exact fs_move rfl) ?_)|(refine dG ?_)|(refine dH ?_)));(all_goals first|(refine dT rfl (by exact fs_not rfl) ?_)|(refine dG ?_)|(refine dH ?_));(all_goals first|(refine dT rfl (by exact fs_move rfl) ?_)|(refine dG ?_)|(refine dH ?_));(all_goals first|(refine dT rfl (by exact fs_load T rfl rfl rfl rfl) ?_)|(refine dG ?_)|(refine dH ?_)|(refine dw_split rfl rfl rfl rfl (fun hb=>?_) (fun hb=>?_)<;>(first|subst hb|(rw [hb];(try simp only [nm] at hb);try ((exfalso;omega);done)))<;>first|(refine dT rfl (by exact fs_load T rfl rfl rfl rfl) ?_)|(refine dG ?_)|(refine dH ?_)));(all_goals first|(refine dT rfl (by first|exact kC (cB)) ?_)|(refine dw_gn rfl rfl rfl rfl rfl (by first|exact kC (cB)) rfl ?_)|(refine dG ?_)|(refine dH ?_));(all_goals first|(refine dT rfl (by exact fs_move rfl) ?_)|(refine dG ?_)|(refine dH ?_));(all_goals first|(refine dT rfl (by first|exact fs_eqlST rfl rfl rfl|exact fs_eqlB boolTL rfl rfl|exact fs_eql rfl rfl) ?_)|(refine dG ?_)|(refine dH ?_));(all_goals first|(refine dT rfl (by first|exact fs_pickt rfl rfl|exact fs_pickf rfl rfl|exact fs_pick rfl rfl rfl) ?_)|(refine dG ?_)|(refine dH ?_));(all_goals first|(refine dV rfl (by first|exact fs_pickt rfl rfl|exact fs_pickf rfl rfl|exact fs_pick rfl rfl rfl) ?_));(all_goals (refine dw_fin rfl rfl (by (first|(dsimp only [ln1,ln2,List.append_nil,ln4,ln5,ln6,ln7,ln8,ln9,putAt,putd,allObjs,argEnv,un_v,un_ptr,un_ep,un_pr,un_sl,un_mp,un_row,un_agg,un_tup,un_clo,Nat.zero_add,lnb,Nat.reduceAdd,lnc,lnd];first|done|exact rfl)|exact rfl)) ?_;refine aV ?_)))|refine nZ ?_)
    all_goals exact ⟨_, _, ⟨rfl, rfl⟩, ret_plain (.inl rfl) rfl rfl⟩
  | some q =>
    obtain ⟨b', L'⟩ := q
    have cR2 : ACall Tryz.prog 6 [.s l] [] (.tup [.agg (certA L' b'), .b true]) [] := PCall.toA pR2 fun r o h => ⟨h.2.trans (by rw [hR]; rfl), h.1⟩
    have cR3 : ACall Tryz.prog 8 [.s l] [] (.tup [.agg (certA L' b'), .b true]) [] := PCall.toA pR3 fun r o h => ⟨h.2.trans (by rw [hR]; rfl), h.1⟩
    obtain ⟨k1, k2, k3⟩ := readC_ok (by omega) hR
    have hce := readC_some hR
    have cS2 := csame_c b' b' L' L' k1 k2 k3 k1 k2 k3 rfl
    have cB2 := bytesL_c b' L' k1 k2 k3
    rw [hce] at cB2
    clear pR2 pR3
    generalize certB b L = z at *
    repeat' (first|refine wS ?_|refine wB ?_|refine wK ?_|refine wR ?_|refine wE ?_|refine wT ?_|refine wU ?_|(refine wC rfl (fun hb=>?_) (fun hb=>?_)<;>(first|subst hb|((try simp only [nm] at hb);try (exfalso;omega))))|(refine rg 4 ?_;refine lV T ?_;refine vV (by first|exact kC (cB)|exact kC (cB2)) ?_;refine vV (by first|exact kC (cR1)|exact kC (cR2)) ?_;refine mV ?_;refine xV ?_;refine xV ?_;refine vc_n (by exact fs_alloc T rfl) rfl ?_;refine vc_store T rfl rfl rfl rfl rfl rfl (by decide) rfl ?_;refine aV ?_)|(refine rg 5 ?_;refine mV ?_;refine vV (by first|exact kC (cR1)|exact kC (cR2)) ?_;refine mV ?_;refine xV ?_;refine xV ?_;refine vc_n (by exact fs_alloc T rfl) rfl ?_;refine vc_store T rfl rfl rfl rfl rfl rfl (by decide) rfl ?_;refine aV ?_)|(refine rg 6 ?_;refine mV ?_;refine vV (by exact kC (cR3)) ?_;refine mV ?_;refine xV ?_;refine xV ?_;refine vc_n (by exact fs_alloc T rfl) rfl ?_;refine vc_store T rfl rfl rfl rfl rfl rfl (by decide) rfl ?_;refine aV ?_)|(((refine aw_draw2k (id := 7) 74 [[],[0],[0,1],[0,1,2],[0,1,2,3],[0,1,2,3,4],[0,1,2,3,4],[0,1,2,3,4,5,6],[0,1,2,3,4,5,6,7],[0,1,2,3,4,5,6,7,8],[0,1,2,3,4,5,6,7,8,9],[0,1,2,3,4,5,6,7,8,9,10],[0,1,2,3,4,5,6,7,8,9],[0,1,2,3,4,5,6,7,8,9,10,11,12],[0,1,2,3,4,5,6,7,8,9,10,11,12,13],[0,1,2,3,4,5,6,7,8,9,10,11,12,13,14],[0,1,2,3,4,5,6,7,8,9,10,11,12,13,14,15],[0,1,2,3,4,5,6,7,8,9,10,11,12,13,14,15,16],[0,1,2,3,4,5,6,7,8,9,10,11,12,13,14,15,16],[0,1,2,3,4,5,6,7,8,9,10,11,12,13,14,15,16,17,18],[0,1,2,3,4,5,6,7,8,9,10,11,12,13,14,15,16,17,18,19],[0,1,2,3,4,5,6,7,8,9,10,11,12,13,14,15,16,17,18,19,20],[0,1,2,3,4,5,6,7,8,9,10,11,12,13,14,15,16,17,18,19,20,21],[0,1,2,3,4,5,6,7,8,9,10,11,12,13,14,15,16,17,18,19,20,21],[0,1,2,3,4,5,6,7,8,9,10,11,12,13,14,15,16,17,18,19,20,21,22,23],[0,1,2,3,4,5,6,7,8,9,10,11,12,13,14,15,16,17,18,19,20,21,22,23,24],[0,1,2,3,4,5,6,7,8,9,10,11,12,13,14,15,16,17,18,19,20,21,22,23,24,25],[0,1,2,3,4,5,6,7,8,9,10,11,12,13,14,15,16,17,18,19,20,21,22,23,24,25,26],[0,1,2,3,4,5,6,7,8,9,10,11,12,13,14,15,16,17,18,19,20,21,22,23,24,25,26,27],[0,1,2,3,4,5,6,7,8,9,10,11,12,13,14,15,16,17,18,19,20,21,22,23,24,25,26,27,28],[0,1,2,3,4,5,6,7,8,9,10,11,12,13,14,15,16,17,18,19,20,21,22,23,24,25,26,27,28,29],[0,1,2,3,4,5,6,7,8,9,10,11,12,13,14,15,16,17,18,19,20,21,22,23,24,25,26,27,28,29,30],[0,1,2,3,4,5,6,7,8,9,10,11,12,13,14,15,16,17,18,19,20,21,22,23,24,25,26,27,28,29],[0,1,2,3,4,5,6,7,8,9,10,11,12,13,14,15,16,17,18,19,20,21,22,23,24,25,26,27,28,29,30,31,32],[0,1,2,3,4,5,6,7,8,9,10,11,12,13,14,15,16,17,18,19,20,21,22,23,24,25,26,27,28,29,30,31,32,33],[0,1,2,3,4,5,6,7,8,9,10,11,12,13,14,15,16,17,18,19,20,21,22,23,24,25,26,27,28,29,30,31,32,33,34]] [38,39,40,41,42,43,44,45,46,47,48,49,50,51,52,53,54,55,56,57,58,59,60,61,62,63,64,65,66,67,68,69,70,71,72,73] [[],[],[],[],[],[],[43],[],[],[],[],[],[48,49],[],[],[],[],[],[55],[],[],[],[],[60],[],[],[],[],[],[],[],[],[68,69],[],[],[]] mixedP rfl (by decide +kernel) ?_));(all_goals first|(refine dV rfl (by exact fs_move rfl) ?_));(all_goals first|(refine dV rfl (by exact fs_move rfl) ?_));(all_goals first|(refine dT rfl (by exact fs_move rfl) ?_)|(refine dG ?_)|(refine dH ?_)|(refine dw_split rfl rfl rfl rfl (fun hb=>?_) (fun hb=>?_)<;>(first|subst hb|(rw [hb];(try simp only [nm] at hb);try ((exfalso;omega);done)))<;>first|(refine dT rfl (by exact fs_move rfl) ?_)|(refine dG ?_)|(refine dH ?_)));(all_goals first|(refine dV rfl (by first|exact fs_pickt rfl rfl|exact fs_pickf rfl rfl|exact fs_pick rfl rfl rfl) ?_));(all_goals first|(refine dV rfl (by exact fs_move rfl) ?_));(all_goals first|(refine dT rfl (by exact fs_load T rfl rfl rfl rfl) ?_)|(refine dG ?_)|(refine dH ?_)|(refine dw_split rfl rfl rfl rfl (fun hb=>?_) (fun hb=>?_)<;>(first|subst hb|(rw [hb];(try simp only [nm] at hb);try ((exfalso;omega);done)))<;>first|(refine dT rfl (by exact fs_load T rfl rfl rfl rfl) ?_)|(refine dG ?_)|(refine dH ?_)));(all_goals first|(refine dT rfl (by exact fs_load T rfl rfl rfl rfl) ?_)|(refine dG ?_)|(refine dH ?_));(all_goals first|(refine dT rfl (by first|exact kC (cS1)|exact kC (cS2)) ?_)|(refine dw_gn rfl rfl rfl rfl rfl (by first|exact kC (cS1)|exact kC (cS2)) rfl ?_)|(refine dG ?_)|(refine dH ?_));(all_goals first|(refine dV rfl (by first|exact fs_pickt rfl rfl|exact fs_pickf rfl rfl|exact fs_pick rfl rfl rfl) ?_));(all_goals first|(refine dV rfl (by exact fs_move rfl) ?_));(all_goals first|(refine dT rfl (by exact fs_load T rfl rfl rfl rfl) ?_)|(refine dG ?_)|(refine dH ?_)|(refine dw_split rfl rfl rfl rfl (fun hb=>?_) (fun hb=>?_)<;>(first|subst hb|(rw [hb];(try simp only [nm] at hb);try ((exfalso;omega);done)))<;>first|(refine dT rfl (by exact fs_load T rfl rfl rfl rfl) ?_)|(refine dG ?_)|(refine dH ?_)));(all_goals first|(refine dT rfl (by first|exact kC (cB)|exact kC (cB2)) ?_)|(refine dw_gn rfl rfl rfl rfl rfl (by first|exact kC (cB)|exact kC (cB2)) rfl ?_)|(refine dG ?_)|(refine dH ?_));(all_goals first|(refine dT rfl (by exact fs_load T rfl rfl rfl rfl) ?_)|(refine dG ?_)|(refine dH ?_));(all_goals first|(refine dT rfl (by first|exact kC (rB)) ?_)|(refine dw_gn rfl rfl rfl rfl rfl (by first|exact kC (rB)) rfl ?_)|(refine dG ?_)|(refine dH ?_));(all_goals first|(refine dT rfl (by first|exact fs_eqlST rfl rfl rfl|exact fs_eqlB boolTL rfl rfl|exact fs_eql rfl rfl) ?_)|(refine dG ?_)|(refine dH ?_));(all_goals first|(refine dV rfl (by first|exact fs_pickt rfl rfl|exact fs_pickf rfl rfl|exact fs_pick rfl rfl rfl) ?_));(all_goals first|(refine dV rfl (by exact fs_move rfl) ?_));(all_goals first|(refine dT rfl (by exact fs_move rfl) ?_)|(refine dG ?_)|(refine dH ?_)|(refine dw_split rfl rfl rfl rfl (fun hb=>?_) (fun hb=>?_)<;>(first|subst hb|(rw [hb];(try simp only [nm] at hb);try ((exfalso;omega);done)))<;>first|(refine dT rfl (by exact fs_move rfl) ?_)|(refine dG ?_)|(refine dH ?_)));(all_goals first|(refine dT rfl (by exact fs_move rfl) ?_)|(refine dG ?_)|(refine dH ?_));(all_goals first|(refine dT rfl (by first|exact fs_eqlST rfl rfl rfl|exact fs_eqlB boolTL rfl rfl|exact fs_eql rfl rfl) ?_)|(refine dG ?_)|(refine dH ?_));(all_goals first|(refine dV rfl (by first|exact fs_pickt rfl rfl|exact fs_pickf rfl rfl|exact fs_pick rfl rfl rfl) ?_));(all_goals first|(refine dV rfl (by exact fs_move rfl) ?_));(all_goals first|(refine dT rfl (by exact fs_load T rfl rfl rfl rfl) ?_)|(refine dG ?_)|(refine dH ?_)|(refine dw_split rfl rfl rfl rfl (fun hb=>?_) (fun hb=>?_)<;>(first|subst hb|(rw [hb];(try simp only [nm] at hb);try ((exfalso;omega);done)))<;>first|(refine dT rfl (by exact fs_load T rfl rfl rfl rfl) ?_)|(refine dG ?_)|(refine dH ?_)));(all_goals first|(refine dT rfl (by exact fs_load T rfl rfl rfl rfl) ?_)|(refine dG ?_)|(refine dH ?_));(all_goals first|(refine dT rfl (by first|exact kC (cS1)|exact kC (cS2)) ?_)|(refine dw_gn rfl rfl rfl rfl rfl (by first|exact kC (cS1)|exact kC (cS2)) rfl ?_)|(refine dG ?_)|(refine dH ?_));(all_goals first|(refine dV rfl (by first|exact fs_pickt rfl rfl|exact fs_pickf rfl rfl|exact fs_pick rfl rfl rfl) ?_));(all_goals first|(refine dV rfl (by exact fs_move rfl) ?_));(all_goals first|(refine dT rfl (by exact fs_move rfl) ?_)|(refine dG ?_)|(refine dH ?_)|(refine dw_split rfl rfl rfl rfl (fun hb=>?_) (fun hb=>?_)<;>(first|subst hb|(rw [hb];(try simp only [nm] at hb);try ((exfalso;omega);done)))<;>first|(refine dT rfl (by exact fs_move rfl) ?_)|(refine dG ?_)|(refine dH ?_)));(all_goals first|(refine dT rfl (by exact fs_not rfl) ?_)|(refine dG ?_)|(refine dH ?_));(all_goals first|(refine dT rfl (by exact fs_move rfl) ?_)|(refine dG ?_)|(refine dH ?_));(all_goals first|(refine dT rfl (by exact fs_load T rfl rfl rfl rfl) ?_)|(refine dG ?_)|(refine dH ?_)|(refine dw_split rfl rfl rfl rfl (fun hb=>?_) (fun hb=>?_)<;>(first|subst hb|(rw [hb];(try simp only [nm] at hb);try ((exfalso;omega);done)))<;>first|(refine dT rfl (by exact fs_load T rfl rfl rfl rfl) ?_)|(refine dG ?_)|(refine dH ?_)));(all_goals first|(refine dT rfl (by first|exact kC (cB)|exact kC (cB2)) ?_)|(refine dw_gn rfl rfl rfl rfl rfl (by first|exact kC (cB)|exact kC (cB2)) rfl ?_)|(refine dG ?_)|(refine dH ?_));(all_goals first|(refine dT rfl (by exact fs_move rfl) ?_)|(refine dG ?_)|(refine dH ?_));(all_goals first|(refine dT rfl (by first|exact fs_eqlST rfl rfl rfl|exact fs_eqlB boolTL rfl rfl|exact fs_eql rfl rfl) ?_)|(refine dG ?_)|(refine dH ?_));(all_goals first|(refine dT rfl (by first|exact fs_pickt rfl rfl|exact fs_pickf rfl rfl|exact fs_pick rfl rfl rfl) ?_)|(refine dG ?_)|(refine dH ?_));(all_goals first|(refine dV rfl (by first|exact fs_pickt rfl rfl|exact fs_pickf rfl rfl|exact fs_pick rfl rfl rfl) ?_));(all_goals (refine dw_fin rfl rfl (by (first|(dsimp only [ln1,ln2,List.append_nil,ln4,ln5,ln6,ln7,ln8,ln9,putAt,putd,allObjs,argEnv,un_v,un_ptr,un_ep,un_pr,un_sl,un_mp,un_row,un_agg,un_tup,un_clo,Nat.zero_add,lnb,Nat.reduceAdd,lnc,lnd];first|done|exact rfl)|exact rfl)) ?_;refine aV ?_)))|refine nZ ?_)
    all_goals exact ⟨_, _, ⟨rfl, rfl⟩, ret_plain (.inl rfl) rfl rfl⟩
end Go.Proofs.YtjpcpbbkelgkeaaGreatDoor
namespace Go.Proofs.YtjpcpbbkelgkeaaGreatDoor
open Go Go.Ab Go.Ln Go.ChangeShapes Go.WideShapes Go.ChangeAt Go.RowKit
def okI (n : Int) : Prop := (Lit.int .i64 n).wf = true
theorem okI_I64 {n : Int} (h : okI n) : I64 n := by
  have e1 : IntKind.i64.min = -9223372036854775808 := rfl
  have e2 : IntKind.i64.max = 9223372036854775807 := rfl
  simp only [okI, Lit.wf, Bool.and_eq_true, decide_eq_true_eq, e1, e2] at h
  exact h
theorem opInt : Opens Tryz.prog 3 okI (fun n => [AV.i n]) := Opens.int Tryz.underlying3 (by kernel_rfl)
theorem opInts : Opens Tryz.prog 32 (fun l : List Int => l.length ≤ maxLen ∧ ∀ a, a ∈ l → okI a) (fun l => [.rowE (ints l) 1]) :=
  Opens.slice Tryz.underlying32 (by kernel_rfl) (by kernel_rfl) (by decide) opInt
abbrev OkCells (l : List Int) : Prop := l.length ≤ maxLen ∧ ∀ a, a ∈ l → okI a
theorem opLane : Opens Tryz.prog 46 (fun x : LaneT => okI x.1 ∧ OkCells x.2.1 ∧ OkCells x.2.2) laneA :=
  Opens.struct (fs := [(3, 0), (32, 1), (32, 2)]) (by kernel_rfl) (by kernel_rfl)
    (fun e W fuel css hl hx => by
      obtain ⟨a, h1, h2, h3⟩ := OpensF.cons opInt (OpensF.cons opInts (OpensF.cons opInts OpensF.nil)) e W fuel css hl hx
      exact ⟨(a.1, a.2.1, a.2.2.1), ⟨h1.1, h1.2.1, h1.2.2.1⟩, by simpa using h2, by simpa using h3⟩)
    (fun _ => by kernel_rfl)
theorem opLanes : Opens Tryz.prog 22 (fun l : List LaneT => l.length ≤ maxLen ∧ ∀ a, a ∈ l → okI a.1 ∧ OkCells a.2.1 ∧ OkCells a.2.2) (fun l => [.rowE (lanesA l) 3]) :=
  Opens.slice Tryz.underlying22 (by kernel_rfl) (by kernel_rfl) (by decide) opLane
theorem opCert : Opens Tryz.prog 24 (fun p : List LaneT × Int => (∀ a, a ∈ p.1 → okI a.1 ∧ OkCells a.2.1 ∧ OkCells a.2.2) ∧ okI p.2) (fun p => certA p.1 p.2) :=
  Opens.struct (fs := [(22, 0), (3, 1)]) (by kernel_rfl) (by kernel_rfl)
    (fun e W fuel css hl hx => by
      obtain ⟨a, h1, h2, h3⟩ := OpensF.cons opLanes (OpensF.cons opInt OpensF.nil) e W fuel css hl hx
      exact ⟨(a.1, a.2.1), ⟨h1.1.2, h1.2.1⟩, by simpa using h2, by simpa using h3⟩)
    (fun _ => by kernel_rfl)
theorem laidVars_mem {P : Program} {W : World} {name : String} {d : DataW Unit} : ∀ {l : List (String × DataW Unit)} {ps : List MemPlace}, DataW.LaidVars P W l ps → (name, d) ∈ l →
    ∃ g t cs fuel p, P.globalNamed name = some g ∧ (P.globals[g]?).map (·.type) = some t ∧ W.var? P name = some cs ∧ DataW.trod (fun _ => ()) P W 0 (fun _ => true) false fuel t cs.toList = some (d, p)
  | [], _, _, h => by cases h
  | (n, d') :: r, ps, h, hm => by
    obtain ⟨g, t, cs, fuel, p, q, h1, h2, h3, h4, h5, _⟩ := h
    rcases List.mem_cons.1 hm with e | hm
    · cases e
      exact ⟨g, t, cs, fuel, p, h1, h2, h3, h4⟩
    · exact laidVars_mem h5 hm
def pow10s : List Int := (List.range 20).map fun i => ((10 ^ i : Nat) : Int)
theorem gPow : Tryz.prog.globalNamed "internal/strconv.uint64pow10" = some 3 := by kernel_rfl
theorem gPowType : (Tryz.prog.globals[3]?).map (·.type) = some 176 := by kernel_rfl
theorem u64U : Tryz.prog.underlying 138 = some (.int .u64) := by kernel_rfl
theorem arrU : Tryz.prog.underlying 176 = some (.array 20 138) := by kernel_rfl
theorem cellsU : Tryz.prog.cellsOf 138 = 1 := by kernel_rfl
theorem cellsA : Tryz.prog.cellsOf 176 = 20 := by kernel_rfl
theorem powData : (Rows.laid_internal_strconv_uint64pow10 : DataW Unit) = Lib.tabData .u64 pow10s := by kernel_rfl
theorem gES : Tryz.prog.globalNamed "strconv.ErrSyntax" = some 1 := by kernel_rfl
theorem gER : Tryz.prog.globalNamed "strconv.ErrRange" = some 2 := by kernel_rfl
theorem gESType : (Tryz.prog.globals[1]?).map (·.type) = some 100 := by kernel_rfl
theorem gERType : (Tryz.prog.globals[2]?).map (·.type) = some 100 := by kernel_rfl
theorem starE : "*" ++ "errors.errorString" = "*errors.errorString" := by decide
theorem rowE (u : TypeId) (h : Tryz.prog.typeName? 3 u = some "*errors.errorString") : u = 183 :=
  typeName_ptr_named (nm := "errors.errorString") (by rw [starE]; kernel_rfl) (by kernel_rfl) (by decide) u (by rw [starE]; exact h)
theorem ifcU : Tryz.prog.underlying 100 = some (.interface #[("Error", 108)]) := by kernel_rfl
theorem perU : Tryz.prog.underlying 183 = some (.pointer 185) := by kernel_rfl
theorem cellsE : Tryz.prog.cellsOf 185 = 1 := by kernel_rfl
theorem cellsS : Tryz.prog.cellsOf 9 = 1 := by kernel_rfl
theorem errAt {n : String} {text : List UInt8} {r : List (String × DataW Unit)} {W : World} {g : Nat} (h : laidMet Tryz.prog ((n, .iface "*errors.errorString" (.ptr (.agg [.lit (.string text)]))) :: r) W)
    (hg : Tryz.prog.globalNamed n = some g) (ht : (Tryz.prog.globals[g]?).map (·.type) = some 100) : ∃ p, W.var? Tryz.prog n = some #[.iface 183 p] := by
  obtain ⟨a, s, hv, _⟩ := laid_sentinel h hg ht ifcU rowE perU Tryz.underlying185 rfl rfl Tryz.underlying9 cellsE cellsS
  exact ⟨_, hv⟩
theorem glob_of_var {W : World} {n : String} {g : Nat} {p : Value} (hg : Tryz.prog.globalNamed n = some g) (hv : W.var? Tryz.prog n = some #[.iface 183 p]) :
    g < W.heap.size ∧ ∃ ys t fz, W.heap[g]? = some (.cells ys t fz) ∧ RL (fun b => b < W.heap.size) W [AV.ifc 183 .any] (fun _ => none) ys.toList := by
  unfold World.var? at hv
  rw [hg] at hv
  simp only [Option.bind_some] at hv
  split at hv
  · rename_i c ty fz hh
    cases hv
    refine ⟨(Array.getElem?_eq_some_iff.1 hh).1, _, ty, fz, hh, ?_⟩
    simp only [RL, R]
    exact ⟨_, _, rfl, ⟨p, rfl, trivial⟩, rfl⟩
  · cases hv
theorem globOk_of {W : World} {l : List (String × DataW Unit)} {a b : String × DataW Unit} (hl : l = [a, b, ("internal/strconv.uint64pow10", (Rows.laid_internal_strconv_uint64pow10 : DataW Unit)), ("strconv.ErrRange", (Rows.laid_strconv_ErrRange : DataW Unit)), ("strconv.ErrSyntax", (Rows.laid_strconv_ErrSyntax : DataW Unit))]) (h0 : laidMet Tryz.prog l W) : GlobOk (fun b => b < W.heap.size) W := by
  subst hl
  obtain ⟨pr, hr⟩ := errAt (n := "strconv.ErrRange") h0.tail.tail.tail gER gERType
  obtain ⟨pe, he⟩ := errAt (n := "strconv.ErrSyntax") h0.tail.tail.tail.tail gES gESType
  obtain ⟨ps, hv, _⟩ := h0
  obtain ⟨g, t, cs, fuel, p, h1, h2, h3, h4⟩ := laidVars_mem hv (.tail _ (.tail _ (.head _)))
  obtain rfl := Option.some.inj (gPow.symm.trans h1)
  obtain rfl := Option.some.inj (gPowType.symm.trans h2)
  rw [powData] at h4
  have e := Lib.cells_of_tab arrU u64U cellsU cellsA h4
  unfold World.var? at h3
  rw [gPow] at h3
  simp only [Option.bind_some] at h3
  intro g cs' hg
  have hg' : (g = 3 ∧ cs' = (pow10s.map fun z => Value.int .u64 z).map .v) ∨ (g = 1 ∧ cs' = [AV.ifc 183 .any]) ∨ (g = 2 ∧ cs' = [AV.ifc 183 .any]) := by
    simp only [globTab, List.mem_cons, List.not_mem_nil, or_false, Prod.mk.injEq] at hg
    rcases hg with hg | hg | hg
    · refine .inl ⟨hg.1, hg.2.trans ?_⟩
      simp [pow10s, List.map_map, Function.comp_def]
    · exact .inr (.inl hg)
    · exact .inr (.inr hg)
  rcases hg' with ⟨rfl, rfl⟩ | ⟨rfl, rfl⟩ | ⟨rfl, rfl⟩
  · split at h3
    · rename_i c ty fz hh
      cases h3
      refine ⟨(Array.getElem?_eq_some_iff.1 hh).1, cs, ty, fz, hh, ?_⟩
      rw [e]
      exact RL_vs _
    · cases h3
  · exact glob_of_var gES he
  · exact glob_of_var gER hr
noncomputable def low (os : Os) : Nat := (World.holding Tryz.prog os ⟨#[], #[], []⟩).heap.size
noncomputable def laidWorld (os : Os) : World :=
  { World.holding Tryz.prog os ⟨#[.cells #[.string ⟨#[118, 97, 108, 117, 101, 32, 111, 117, 116, 32, 111, 102, 32, 114, 97, 110, 103, 101]⟩] 185, .cells #[.string ⟨#[105, 110, 118, 97, 108, 105, 100, 32, 115, 121, 110, 116, 97, 120]⟩] 185], #[], []⟩ with heap := ((((((World.holding Tryz.prog os ⟨#[.cells #[.string ⟨#[118, 97, 108, 117, 101, 32, 111, 117, 116, 32, 111, 102, 32, 114, 97, 110, 103, 101]⟩] 185, .cells #[.string ⟨#[105, 110, 118, 97, 108, 105, 100, 32, 115, 121, 110, 116, 97, 120]⟩] 185], #[], []⟩).heap.modify 3 fun
      | .cells _ t frozen => .cells #[.int .u64 1, .int .u64 10, .int .u64 100, .int .u64 1000, .int .u64 10000, .int .u64 100000, .int .u64 1000000, .int .u64 10000000, .int .u64 100000000, .int .u64 1000000000, .int .u64 10000000000, .int .u64 100000000000, .int .u64 1000000000000, .int .u64 10000000000000, .int .u64 100000000000000, .int .u64 1000000000000000, .int .u64 10000000000000000, .int .u64 100000000000000000, .int .u64 1000000000000000000, .int .u64 10000000000000000000] t frozen
      | o => o).modify 4 fun
      | .cells _ t frozen => .cells #[.int .u8 0, .int .u8 1, .int .u8 28, .int .u8 2, .int .u8 29, .int .u8 14, .int .u8 24, .int .u8 3, .int .u8 30, .int .u8 22, .int .u8 20, .int .u8 15, .int .u8 25, .int .u8 17, .int .u8 4, .int .u8 8, .int .u8 31, .int .u8 27, .int .u8 13, .int .u8 23, .int .u8 21, .int .u8 19, .int .u8 16, .int .u8 7, .int .u8 26, .int .u8 12, .int .u8 18, .int .u8 6, .int .u8 11, .int .u8 5, .int .u8 10, .int .u8 9] t frozen
      | o => o).modify 5 fun
      | .cells _ t frozen => .cells #[.int .u8 0, .int .u8 1, .int .u8 56, .int .u8 2, .int .u8 57, .int .u8 49, .int .u8 28, .int .u8 3, .int .u8 61, .int .u8 58, .int .u8 42, .int .u8 50, .int .u8 38, .int .u8 29, .int .u8 17, .int .u8 4, .int .u8 62, .int .u8 47, .int .u8 59, .int .u8 36, .int .u8 45, .int .u8 43, .int .u8 51, .int .u8 22, .int .u8 53, .int .u8 39, .int .u8 33, .int .u8 30, .int .u8 24, .int .u8 18, .int .u8 12, .int .u8 5, .int .u8 63, .int .u8 55, .int .u8 48, .int .u8 27, .int .u8 60, .int .u8 41, .int .u8 37, .int .u8 16, .int .u8 46, .int .u8 35, .int .u8 44, .int .u8 21, .int .u8 52, .int .u8 32, .int .u8 23, .int .u8 11, .int .u8 54, .int .u8 26, .int .u8 40, .int .u8 15, .int .u8 34, .int .u8 20, .int .u8 31, .int .u8 10, .int .u8 25, .int .u8 14, .int .u8 19, .int .u8 9, .int .u8 13, .int .u8 8, .int .u8 7, .int .u8 6] t frozen
      | o => o).modify 2 fun
      | .cells _ t frozen => .cells #[.iface 183 (.pointer (some ⟨low os, 0, none⟩))] t frozen
      | o => o).modify 1 fun
      | .cells _ t frozen => .cells #[.iface 183 (.pointer (some ⟨low os + 1, 0, none⟩))] t frozen
      | o => o) }
theorem opStr : Opens Tryz.prog 9 (fun l : List UInt8 => l.length ≤ maxLen) (fun l => [AV.s l]) :=
  Opens.iso (Opens.string (by kernel_rfl) (by kernel_rfl)) (fun s : ByteArray => s.data.toList) fun s hs => ⟨by simpa using hs, rfl⟩
theorem lback_fin (p : List LaneT × Int) (h : (∀ a, a ∈ p.1 → okI a.1 ∧ OkCells a.2.1 ∧ OkCells a.2.2) ∧ okI p.2) (s : List UInt8) (_ : s.length ≤ maxLen) :
    ACall Tryz.prog 3 [.agg (certA p.1 p.2), .s s] [] (.b true) [] :=
  laneBack_law p.2 p.1 (okI_I64 h.2) (fun x hx => ⟨okI_I64 (h.1 x hx).1, fun y hy => okI_I64 ((h.1 x hx).2.1.2 y hy), fun y hy => okI_I64 ((h.1 x hx).2.2.2 y hy)⟩) s
end Go.Proofs.YtjpcpbbkelgkeaaGreatDoor
