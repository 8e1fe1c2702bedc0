/-
  Texts of the logic and of the layer,in one module (part 8).
-/
import Derived.Test.YtdmajnjoeidgeaaGreatW7
set_option linter.unusedVariables false
set_option linter.unusedSimpArgs false
namespace Go.Proofs.YtdmajnjoeidgeaaGreat
open Go Go.Ab Go.Fl Go.Re Go.Ln Go.MapKept
attribute [local irreducible] VC AW FStep ACall PCall AStep
set_option maxHeartbeats 4000000
theorem laneWaits_law (s : Sit) (st : Stt) : ACall Tryz.prog 3 [.agg (sitA s),.agg (sttA st)] [] (.b true) [] := by
  have cF := fits_p s
  have cG := few14_p st
  refine PCall.toA (Φ := fun r o => r = .b true ∧ o = []) ?_ (fun _ _ h => h)
  refine pcall T Tryz.func3 rfl rfl rfl rfl ?_
  repeat' (first|refine wS ?_|refine wK ?_|refine wR ?_|refine wT ?_|refine wU ?_|(refine rg 0 ?_;refine vc_n (by exact fs_box rfl rfl) rfl ?_;refine vc_n (by exact fs_box rfl rfl) rfl ?_;refine aV ?_)|(refine rg 1 ?_;refine vV (by exact kC (smallL_c)) ?_;refine aV ?_)|(refine rg 2 ?_;refine lV T ?_;refine vc_pcallb rfl rfl (cF) (.cons (view_self _ rfl) .nil) (by rintro _ ⟨_,rfl,_⟩;rfl) rfl ?_;rintro _ ⟨b1,rfl,hF⟩;dsimp only [putd];cases b1;(all_goals (refine vV (by exact fs_not rfl) ?_;refine mV ?_;refine gK ?_));(all_goals first|(refine gT ?_;(refine lV T ?_);refine gT ?_;(refine vc_pcallb rfl rfl (cG) (.cons (view_self _ rfl) .nil) (by rintro _ ⟨_,rfl,_⟩;rfl) rfl ?_;rintro _ ⟨b2,rfl,hG⟩;dsimp only [putd];cases b2))|(iterate 2 refine gF ?_));(all_goals first|(refine gT ?_;(refine vV (by exact fs_not rfl) ?_))|(refine gF ?_));(all_goals (refine pV ?_;refine mV ?_;refine gK ?_));(all_goals first|(refine gT ?_;(refine lV T ?_);refine gT ?_;(refine lV T ?_);refine gT ?_;(refine vc_pcallb rfl rfl (right_p s st (by have := (hF rfl).few.kl;omega) (by have := (hG rfl).sl;omega) (by have := (hG rfl).rl;omega) (by have := (hG rfl).pl;omega) (by have := (hG rfl).dl;omega) (by have := (hG rfl).kl;omega) (by have := (hF rfl).few.sl;omega) (by have := (hF rfl).few.rl;omega)) (.cons (view_self _ rfl) (.cons (view_self _ rfl) .nil)) (by rintro _ ⟨_,rfl,_⟩;rfl) rfl ?_;rintro _ ⟨b3,rfl,hR⟩;dsimp only [putd];cases b3))|(iterate 3 refine gF ?_));(all_goals first|(refine gT ?_;(refine vV (by exact fs_not rfl) ?_))|(refine gF ?_));(all_goals (refine pV ?_)))|(refine rg 3 ?_;refine mV ?_;refine aV ?_)|refine nZ ?_)
  all_goals first | exact ⟨_,_,⟨rfl,rfl⟩,rQ⟩ | skip
  have g := (hF rfl).fine
  have hN := (hF rfl).few.kl
  have hO := hR rfl
  clear cF cG hF hR
  have cM := make_p s g
  have hkl : (ints s.fl.k).length = s.fl.k.length := ints_length _
  repeat' (first|refine wS ?_|(refine rg 4 ?_;refine lV T ?_;refine vc_pcallw [] rfl rfl cM rfl rfl (by decide) trivial (by simp) rfl ?_;rintro _ _ ⟨rfl,(⟨L,h1,h2⟩|⟨L,c',post,h1,h2,h3⟩)⟩;(all_goals (refine mV ?_;refine xV ?_;refine xV ?_;refine xV ?_;refine vc_n (by exact fs_alloc T rfl) rfl ?_;refine vc_store T rfl rfl rfl rfl rfl rfl (by decide) rfl ?_;refine aaV ?_)))|refine nZ ?_)
  rotate_left
  · repeat' (first|refine wS ?_|refine wR ?_|refine aw_condt rfl ?_|(((refine rg 5 ?_));(all_goals (refine mV ?_;refine vV (by exact fs_neqT rfl rfl (by decide)) ?_)))|(((refine rg 6 ?_));(all_goals (refine mV ?_;refine aV ?_)))|(refine nZ ?_))
    all_goals exact ⟨_,_,⟨rfl,rfl⟩,rQ⟩
  repeat' (first|refine wS ?_|refine wB ?_|refine wK ?_|refine wU ?_|(refine rg 5 ?_;refine mV ?_;refine vV (by exact fs_neqF rfl rfl rfl) ?_)|(refine rg 7 ?_;refine fV T ?_;refine flV T ?_;refine qV T ?_;refine vc_n (by exact fs_makeSlice T rfl rfl rfl rfl (by omega) (by omega) (by dsimp only;omega) (by omega) (by decide)) rfl ?_;refine aV ?_)|(refine rg 8 ?_;refine aV ?_)|refine nZ ?_)
  clear cM
  generalize hbd : boundP s.fl = b at *
  have hrb : ∀ r,r ∈ st.rb → 0 ≤ r.1 ∧ r.1 < s.fl.k.length := fun r hr => by
    obtain ⟨i,hi,rfl⟩ := List.mem_iff_getElem.1 hr
    exact inF_t.1 (hO.rb i hi).c
  have hdd : ∀ c,c ∈ st.dd → 0 ≤ c ∧ c < s.fl.k.length := fun c hc => by
    obtain ⟨i,hi,rfl⟩ := List.mem_iff_getElem.1 hc
    have := allB_yes.1 hO.dd i hi
    unfold deadB at this
    rw [decide_eq_true_eq,getD_el hi] at this
    exact ⟨this.1,this.2.1⟩
  have hrl : st.rb.length ≤ 1000 := by have := (hG rfl).rl;omega
  have hdl : st.dd.length ≤ 1000 := by have := (hG rfl).dl;omega
  clear hG
  have hrbl : (robsA st.rb).length = st.rb.length := by simp
  refine aw_loop (X := {p : Nat × List Bool // p.1 ≤ st.rb.length ∧ lostR s.fl (st.rb.take p.1) = p.2 ∧ ∀ r, r ∈ st.rb.take p.1 → r.1 ∈ walkP s.fl → r.2.2.2.1 = 0 ∧ r.2.2.2.2.1 = 0 ∧ offR s.fl r.1 ≠ []}) (fun p => [(2, .ptr 0 0), (3, .ptr 1 0), (5, .b true), (6, .ptr 2 0), (9, .sl 3 0 s.fl.k.length 1), (10, .i (p.1.1 : Int))])
    (fun p => [.cells (sitA s),.cells (sttA st),.cells (certA L b),.arr (bools p.1.2) 1]) (fun p => st.rb.length - p.1.1) ⟨(0,List.replicate s.fl.k.length false),Nat.zero_le _,rfl,fun r hr => by simp at hr⟩ ?_ ?_
  · exact ⟨[0,1,2,3],rfl,⟨rfl,rfl,rfl,rfl,congrArg (fun n : Nat => some (AV.sl 3 0 n 1)) hkl,rfl,trivial⟩,⟨.inr rfl,.inr rfl,.inr rfl,.inr (sub_arr rfl (by dsimp only;rw [hkl,Int.toNat_natCast];exact (List.map_replicate (f := fun n : Bool => [AV.b n]) (a := false) (n := s.fl.k.length)).symm) (bools_idf _)),trivial⟩,by decide,nz0⟩
  rintro ⟨⟨k,out⟩,hk,hlo,hbe⟩
  dsimp only at hk hlo hbe ⊢
  have hol : out.length = s.fl.k.length := by rw [← hlo,lostR_len]
  by_cases hlt : k < st.rb.length
  · have qr : (robsA st.rb)[(k : Int).toNat]? = some (robA st.rb[k]) := by rw [Int.toNat_natCast];exact robs_get hlt
    have hnx : lostR s.fl (st.rb.take (k + 1)) = lostRS s.fl out st.rb[k] := by
      rw [List.take_succ_eq_append_getElem hlt,lostR_snoc,hlo]
    have hrk := hrb _ (List.getElem_mem hlt)
    have hmem : ∀ r,r ∈ st.rb.take (k + 1) → r ∈ st.rb.take k ∨ r = st.rb[k] := fun r hr => by
      rw [List.take_succ_eq_append_getElem hlt] at hr
      exact (List.mem_append.1 hr).imp id List.mem_singleton.1
    generalize st.rb[k] = r at *
    obtain ⟨rc,rg1,rk,rr,rm,rd⟩ := r
    dsimp only at hrk
    have qk := ints_gI (l := s.fl.k) (j := rc) (i := rc.toNat) 0 (by omega) (by omega)
    have hwk := walk_kind hrk
    unfold lostRS at hnx
    dsimp only at hnx
    by_cases hw : rc ∈ walkP s.fl
    · rw [if_pos hw] at hnx
      have hy := hwk.1 hw
      generalize s.fl.k.getD rc.toNat 0 = y at *
      apply cutT
      · intro rest
        rcases hy with hy | hy
        all_goals
          repeat' (first|refine wS ?_|refine wB ?_|refine wK ?_|refine wT ?_|refine wU ?_|(refine rg 9 ?_;refine mV ?_;refine flV T ?_;refine qV T ?_;refine vV (by exact fs_lssT rfl rfl (by omega)) ?_)|(refine rg 11 ?_;refine flV T ?_;refine mV ?_;refine vV (by exact ix T rfl (by omega) (robs_len _) qr) ?_;refine lV T ?_;refine vc_n (by exact fs_alloc T rfl) rfl ?_;refine vc_store T rfl rfl rfl rfl rfl rfl (by decide) rfl ?_)|(refine rg 12 ?_;refine fV T ?_;refine flV T ?_;refine flV T ?_;refine vV (by exact ix T rfl (by omega) (ints_len _) qk) ?_;refine lV T ?_;refine aV ?_)|(refine rg 13 ?_;refine mV ?_;refine vV (by first|exact fs_neqT rfl rfl (by omega)|exact fs_neqF rfl rfl (by omega)) ?_;refine mV ?_;refine gK ?_;(all_goals first|(refine gT ?_;(refine mV ?_);refine gT ?_;(refine vV (by exact fs_neqF rfl rfl (by omega)) ?_))|(iterate 2 refine gF ?_));(all_goals (refine pV ?_)))|refine nZ ?_)
          all_goals exact aw_keep [(2,.ptr 0 0),(3,.ptr 1 0),(5,.b true),(6,.ptr 2 0),(9,.sl 3 0 s.fl.k.length 1),(10,.i (k : Int)),(11,.ptr 4 0)] [.cells (sitA s),.cells (sttA st),.cells (certA L b),.arr (bools out) 1,.cells (robA (rc,rg1,rk,rr,rm,rd))] ⟨[0,1,2,3,4],rfl,⟨rfl,rfl,rfl,rfl,rfl,rfl,rfl,trivial⟩,⟨.inr rfl,.inr rfl,.inr rfl,.inr (sub_arr rfl rfl (bools_idf _)),.inr rfl,trivial⟩,by decide,nz0⟩ rest.get
      clear hy hwk qk
      have cO := off_c s g rc (by unfold rngI;omega)
      have hofl : (ints (offR s.fl rc)).length = (offR s.fl rc).length := ints_length _
      by_cases hrr : rr = 0
      case neg =>
        repeat' (first|refine wS ?_|refine wR ?_|refine wT ?_|(refine rg 14 ?_;refine flV T ?_;refine vV (by exact fs_neqT rfl rfl hrr) ?_;refine mV ?_;refine gK ?_;(iterate 3 refine gF ?_);refine pV ?_;refine mV ?_;refine gK ?_;(iterate 6 refine gF ?_);refine pV ?_)|(refine rg 15 ?_;refine mV ?_;refine aV ?_)|refine nZ ?_)
        all_goals exact ⟨_,_,⟨rfl,rfl⟩,rQ⟩
      by_cases hrm : rm = 0
      case neg =>
        repeat' (first|refine wS ?_|refine wR ?_|refine wT ?_|(refine rg 14 ?_;refine flV T ?_;refine vV (by exact fs_neqF rfl rfl hrr) ?_;refine mV ?_;refine gK ?_;refine yF T ?_;refine yL T ?_;refine yV (by exact fs_neqT rfl rfl hrm) ?_;refine pV ?_;refine mV ?_;refine gK ?_;(iterate 6 refine gF ?_);refine pV ?_)|(refine rg 15 ?_;refine mV ?_;refine aV ?_)|refine nZ ?_)
        all_goals exact ⟨_,_,⟨rfl,rfl⟩,rQ⟩
      by_cases hof : offR s.fl rc = []
      · have hz : ((ints (offR s.fl rc)).length : Int) = 0 := by rw [hof];rfl
        repeat' (first|refine wS ?_|refine wR ?_|refine wT ?_|(refine rg 14 ?_;refine flV T ?_;refine vV (by exact fs_neqF rfl rfl hrr) ?_;refine mV ?_;refine gK ?_;refine yF T ?_;refine yL T ?_;refine yV (by exact fs_neqF rfl rfl hrm) ?_;refine pV ?_;refine mV ?_;refine gK ?_;refine yL T ?_;refine yF T ?_;refine yL T ?_;refine yV (by exact kC (cO)) ?_;refine gT ?_;refine qV T ?_;refine yV (by exact fs_eqlT rfl rfl hz) ?_;refine pV ?_)|(refine rg 15 ?_;refine mV ?_;refine aV ?_)|refine nZ ?_)
        all_goals exact ⟨_,_,⟨rfl,rfl⟩,rQ⟩
      have hz : ((ints (offR s.fl rc)).length : Int) ≠ 0 := fun h => hof (List.eq_nil_of_length_eq_zero (by omega))
      have q0 : (bools out)[0 + rc.toNat]? = some [AV.b (out.getD rc.toNat false)] := bools_gO (j := rc) (by omega) (by omega)
      have hse : ∀ x,(bools out).set (0 + rc.toNat) [AV.b x] = bools (out.set rc.toNat x) := fun x => bools_sO (j := rc) (by omega)
      have hbe2 : ∀ r,r ∈ st.rb.take (k + 1) → r.1 ∈ walkP s.fl → r.2.2.2.1 = 0 ∧ r.2.2.2.2.1 = 0 ∧ offR s.fl r.1 ≠ [] := fun r hr hq => by
        rcases hmem r hr with h | h
        · exact hbe r h hq
        · subst h;exact ⟨hrr,hrm,hof⟩
      have hbl : (bools out).length = s.fl.k.length := by rw [bools_length,hol]
      cases hb : out.getD rc.toNat false with
      | true =>
        rw [hb,Bool.true_or] at hnx
        rw [hb] at q0
        have hse := hse true
        repeat' (first|refine wK ?_|refine wU ?_|(refine rg 14 ?_;refine fV T ?_;refine vV (by exact fs_load T rfl rfl rfl rfl) ?_;refine vV (by exact fs_neqF rfl rfl hrr) ?_;refine mV ?_;refine gK ?_;refine yF T ?_;refine yV (by exact fs_load T rfl rfl rfl rfl) ?_;refine yV (by exact fs_neqF rfl rfl hrm) ?_;refine pV ?_;refine mV ?_;refine gK ?_;refine yV (by exact fs_load T rfl rfl rfl rfl) ?_;refine yF T ?_;refine yV (by exact fs_load T rfl rfl rfl rfl) ?_;refine yV (by exact kC (cO)) ?_;refine gT ?_;refine qV T ?_;refine yV (by exact fs_eqlF rfl rfl hz) ?_;refine pV ?_)|(refine aw_draw2k (id := 16) 242 [[],[],[1],[],[],[4],[3,4,5],[3,4,5,6],[3,4,5,6,7],[3,4,5,6,7,8],[3,4,5,6,7,8,9],[3,4,5,6,7,8,9,10]] [96,97,98,99,100,101,102,103,104,105,106,107] [[],[96],[96],[96,97,98],[96,97,98,99],[96,97,98,99],[96,97,98],[96,97,98],[96,97,98],[96,97,98],[96,97,98],[96,97,98]] mixedP rfl (by decide +kernel) ?_;refine dM ?_;refine dF T ?_;refine dL T ?_;refine dM ?_;refine dF T ?_;refine dL T ?_;refine dV rfl (by exact fs_indexOwn T rfl rfl rfl rfl rfl (by omega) (by omega)) ?_;refine dV rfl (by exact fs_load T rfl rfl (behind_ep rfl q0) rfl) ?_;refine dM ?_;refine dG ?_;refine dG ?_;refine dV rfl (by exact fs_pickt rfl rfl) ?_;refine dw_fin rfl rfl (by ((dsimp only [ln1,ln2,List.append_nil,ln4,ln5,ln6,ln7,ln8,ln9,putAt,putd,allObjs,argEnv,un_v,un_ptr,un_ep,un_pr,un_sl,un_mp,un_row,un_agg,un_tup,un_clo,Nat.zero_add,lnb,Nat.reduceAdd,lnc,lnd];done))) ?_;refine vV (by exact fs_indexOwn T rfl rfl rfl rfl rfl (by omega) (by omega)) ?_;refine vc_store T rfl rfl rfl rfl rfl rfl (by decide) (upd_ep rfl q0 rfl) ?_)|(refine rg 10 ?_;refine mV ?_;refine vV (by exact fs_addr rfl rfl (by omega) (by omega)) ?_;refine aV ?_)|refine nZ ?_)
        all_goals exact ⟨⟨(k + 1,out.set rc.toNat true),hlt,hnx,hbe2⟩,by dsimp only;omega,[0,1,2,3],rfl,(by (repeat (first | exact trivial | refine ⟨rfl,?_⟩))),⟨.inr rfl,.inr rfl,.inr rfl,.inr (sub_arr rfl hse (bools_idf _)),trivial⟩,by decide,nz0⟩
      | false =>
        rw [hb,Bool.false_or] at hnx
        rw [hb] at q0
        have hse := hse rd
        repeat' (first|refine wK ?_|refine wU ?_|(refine rg 14 ?_;refine fV T ?_;refine vV (by exact fs_load T rfl rfl rfl rfl) ?_;refine vV (by exact fs_neqF rfl rfl hrr) ?_;refine mV ?_;refine gK ?_;refine yF T ?_;refine yV (by exact fs_load T rfl rfl rfl rfl) ?_;refine yV (by exact fs_neqF rfl rfl hrm) ?_;refine pV ?_;refine mV ?_;refine gK ?_;refine yV (by exact fs_load T rfl rfl rfl rfl) ?_;refine yF T ?_;refine yV (by exact fs_load T rfl rfl rfl rfl) ?_;refine yV (by exact kC (cO)) ?_;refine gT ?_;refine qV T ?_;refine yV (by exact fs_eqlF rfl rfl hz) ?_;refine pV ?_)|(refine aw_draw2k (id := 16) 242 [[],[],[1],[],[],[4],[3,4,5],[3,4,5,6],[3,4,5,6,7],[3,4,5,6,7,8],[3,4,5,6,7,8,9],[3,4,5,6,7,8,9,10]] [96,97,98,99,100,101,102,103,104,105,106,107] [[],[96],[96],[96,97,98],[96,97,98,99],[96,97,98,99],[96,97,98],[96,97,98],[96,97,98],[96,97,98],[96,97,98],[96,97,98]] mixedP rfl (by decide +kernel) ?_;refine dM ?_;refine dF T ?_;refine dL T ?_;refine dM ?_;refine dF T ?_;refine dL T ?_;refine dV rfl (by exact fs_indexOwn T rfl rfl rfl rfl rfl (by omega) (by omega)) ?_;refine dV rfl (by exact fs_load T rfl rfl (behind_ep rfl q0) rfl) ?_;refine dM ?_;refine tF T ?_;refine tL T ?_;refine dV rfl (by exact fs_pickf rfl rfl) ?_;refine dw_fin rfl rfl (by ((dsimp only [ln1,ln2,List.append_nil,ln4,ln5,ln6,ln7,ln8,ln9,putAt,putd,allObjs,argEnv,un_v,un_ptr,un_ep,un_pr,un_sl,un_mp,un_row,un_agg,un_tup,un_clo,Nat.zero_add,lnb,Nat.reduceAdd,lnc,lnd];done))) ?_;refine vV (by exact fs_indexOwn T rfl rfl rfl rfl rfl (by omega) (by omega)) ?_;refine vc_store T rfl rfl rfl rfl rfl rfl (by decide) (upd_ep rfl q0 rfl) ?_)|(refine rg 10 ?_;refine mV ?_;refine vV (by exact fs_addr rfl rfl (by omega) (by omega)) ?_;refine aV ?_)|refine nZ ?_)
        all_goals exact ⟨⟨(k + 1,out.set rc.toNat rd),hlt,hnx,hbe2⟩,by dsimp only;omega,[0,1,2,3],rfl,(by (repeat (first | exact trivial | refine ⟨rfl,?_⟩))),⟨.inr rfl,.inr rfl,.inr rfl,.inr (sub_arr rfl hse (bools_idf _)),trivial⟩,by decide,nz0⟩
    · rw [if_neg hw] at hnx
      have hy : ¬ (s.fl.k.getD rc.toNat 0 = 4 ∨ s.fl.k.getD rc.toNat 0 = 5) := fun h => hw (hwk.2 h)
      generalize s.fl.k.getD rc.toNat 0 = y at *
      have hbe2 : ∀ r,r ∈ st.rb.take (k + 1) → r.1 ∈ walkP s.fl → r.2.2.2.1 = 0 ∧ r.2.2.2.2.1 = 0 ∧ offR s.fl r.1 ≠ [] := fun r hr hq => by
        rcases hmem r hr with h | h
        · exact hbe r h hq
        · subst h;exact absurd hq hw
      repeat' (first|refine wS ?_|refine wB ?_|refine wK ?_|refine wE ?_|refine wT ?_|(refine rg 9 ?_;refine mV ?_;refine flV T ?_;refine qV T ?_;refine vV (by exact fs_lssT rfl rfl (by omega)) ?_)|(refine rg 11 ?_;refine flV T ?_;refine mV ?_;refine vV (by exact ix T rfl (by omega) (robs_len _) qr) ?_;refine lV T ?_;refine vc_n (by exact fs_alloc T rfl) rfl ?_;refine vc_store T rfl rfl rfl rfl rfl rfl (by decide) rfl ?_)|(refine rg 12 ?_;refine fV T ?_;refine flV T ?_;refine flV T ?_;refine vV (by exact ix T rfl (by omega) (ints_len _) qk) ?_;refine lV T ?_;refine aV ?_)|(refine rg 13 ?_;refine mV ?_;refine vV (by exact fs_neqT rfl rfl (by omega)) ?_;refine mV ?_;refine gK ?_;refine yM ?_;refine yV (by exact fs_neqT rfl rfl (by omega)) ?_;refine pV ?_)|(refine rg 10 ?_;refine mV ?_;refine vV (by exact fs_addr rfl rfl (by omega) (by omega)) ?_;refine aV ?_)|refine nZ ?_)
      all_goals exact ⟨⟨(k + 1,out),hlt,hnx,hbe2⟩,by dsimp only;omega,[0,1,2,3],rfl,(by (repeat (first | exact trivial | refine ⟨rfl,?_⟩))),⟨.inr rfl,.inr rfl,.inr rfl,.inr (sub_arr rfl rfl (bools_idf _)),trivial⟩,by decide,nz0⟩
  obtain rfl : k = st.rb.length := by omega
  rw [List.take_length] at hlo hbe
  repeat' (first|refine wS ?_|refine wB ?_|refine wE ?_|refine wU ?_|(refine rg 9 ?_;refine mV ?_;refine flV T ?_;refine qV T ?_;refine vV (by exact fs_lssF rfl rfl (by omega)) ?_)|(refine rg 17 ?_;refine aV ?_)|(refine rg 18 ?_;refine aV ?_)|refine nZ ?_)
  have hddl : (ints st.dd).length = st.dd.length := ints_length _
  have hLP : lostP s.fl st.rb st.dd = st.dd.foldl (lostDS s.fl) out := by unfold lostP;rw [hlo]
  clear hlo
  refine aw_loop (X := {p : Nat × List Bool // p.1 ≤ st.dd.length ∧ p.2 = (st.dd.take p.1).foldl (lostDS s.fl) out ∧ p.2.length = s.fl.k.length}) (fun p => [(2, .ptr 0 0), (3, .ptr 1 0), (5, .b true), (6, .ptr 2 0), (9, .sl 3 0 s.fl.k.length 1), (13, .i 0), (14, .i (p.1.1 : Int))])
    (fun p => [.cells (sitA s),.cells (sttA st),.cells (certA L b),.arr (bools p.1.2) 1]) (fun p => st.dd.length - p.1.1) ⟨(0,out),Nat.zero_le _,rfl,hol⟩ ⟨[0,1,2,3],rfl,(by (repeat (first | exact trivial | refine ⟨rfl,?_⟩))),⟨.inr rfl,.inr rfl,.inr rfl,.inr (sub_arr rfl rfl (bools_idf _)),trivial⟩,by decide,nz0⟩ ?_
  rintro ⟨⟨k,o2⟩,hk,ho2,hol2⟩
  dsimp only at hk ho2 hol2 ⊢
  by_cases hlt : k < st.dd.length
  · have hnx : lostDS s.fl o2 st.dd[k] = (st.dd.take (k + 1)).foldl (lostDS s.fl) out := by
      rw [List.take_succ_eq_append_getElem hlt,List.foldl_append,← ho2];rfl
    have qd : (ints st.dd)[(k : Int).toNat]? = some [AV.i st.dd[k]] := by rw [Int.toNat_natCast];exact ints_get hlt
    have hck := hdd _ (List.getElem_mem hlt)
    generalize st.dd[k] = c at *
    have qk := ints_gI (l := s.fl.k) (j := c) (i := c.toNat) 0 (by omega) (by omega)
    have hwk := walk_kind hck
    generalize s.fl.k.getD c.toNat 0 = y at *
    have q0 : (bools o2)[0 + c.toNat]? = some [AV.b (o2.getD c.toNat false)] := bools_gO (j := c) (by omega) (by omega)
    have hse : ∀ x,(bools o2).set (0 + c.toNat) [AV.b x] = bools (o2.set c.toNat x) := fun x => bools_sO (j := c) (by omega)
    have hbl : (bools o2).length = s.fl.k.length := by rw [bools_length,hol2]
    have fin : ∀ x,(o2.getD c.toNat false || decide (c ∈ walkP s.fl)) = x → o2.set c.toNat x = (st.dd.take (k + 1)).foldl (lostDS s.fl) out := fun x hx => by
      rw [← hnx];unfold lostDS;rw [hx]
    have hsl : ∀ x,(o2.set c.toNat x).length = s.fl.k.length := fun x => by rw [List.length_set,hol2]
    clear hnx
    cases hb : o2.getD c.toNat false with
    | true =>
      rw [hb] at q0 fin
      have fin := fin true (by simp)
      have hse := hse true
      repeat' (first|refine wS ?_|refine wB ?_|refine wK ?_|refine wT ?_|(refine rg 19 ?_;refine mV ?_;refine fV T ?_;refine vV (by exact fs_load T rfl rfl rfl rfl) ?_;refine qV T ?_;refine vV (by exact fs_lssT rfl rfl (by omega)) ?_)|(refine aw_draw2k (id := 21) 242 [[],[0],[0,1],[],[3],[],[3,4,5],[3,4,5,6],[0,1,2,3,4,5,6,7],[0,1,2,3,4,5,6,7,8]] [116,117,118,119,120,121,122,123,124,125] [[],[],[],[116,117,118],[116,117,118],[116,117,118,119,120],[116,117,118],[116,117,118],[],[]] mixedP rfl (by decide +kernel) ?_;refine dF T ?_;refine dF T ?_;refine dL T ?_;refine dF T ?_;refine dL T ?_;refine dM ?_;refine dV rfl (by exact ix T rfl (by omega) (ints_len _) qd) ?_;refine dL T ?_;refine dV rfl (by exact ix T rfl (by omega) (ints_len _) qk) ?_;refine dL T ?_;refine dw_fin rfl rfl (by ((dsimp only [ln1,ln2,List.append_nil,ln4,ln5,ln6,ln7,ln8,ln9,putAt,putd,allObjs,argEnv,un_v,un_ptr,un_ep,un_pr,un_sl,un_mp,un_row,un_agg,un_tup,un_clo,Nat.zero_add,lnb,Nat.reduceAdd,lnc,lnd];done))) ?_;refine aV ?_)|(refine aw_draw2k (id := 22) 242 [[],[],[1],[],[1,2,3],[1,2,3,4],[],[],[7],[],[7,8,9],[7,8,9,10],[6,7,8,9,10,11],[6,7,8,9,10,11,12],[6,7,8,9,10,11,12,13],[6,7,8,9,10,11,12,13,14],[6,7,8,9,10,11,12,13,14,15],[6,7,8,9,10,11,12,13,14,15,16],[6,7,8,9,10,11,12,13,14,15,16,17],[6,7,8,9,10,11,12,13,14,15,16,17,18],[6,7,8,9,10,11,12,13,14,15,16,17,18,19],[6,7,8,9,10,11,12,13,14,15,16,17,18,19,20]] [126,127,128,129,130,131,132,133,134,135,136,137,138,139,140,141,142,143,144,145,146,147] [[],[126],[126],[126,127,128],[126],[126],[126,127,128,129,130,131],[126,127,128,129,130,131,132],[126,127,128,129,130,131,132],[126,127,128,129,130,131,132,133,134],[126,127,128,129,130,131,132],[126,127,128,129,130,131,132],[126,127,128,129,130,131],[126,127,128,129,130,131],[126,127,128,129,130,131],[126,127,128,129,130,131],[126,127,128,129,130,131],[126,127,128,129,130,131],[126,127,128,129,130,131],[126,127,128,129,130,131],[126,127,128,129,130,131],[126,127,128,129,130,131]] mixedP rfl (by decide +kernel) ?_;refine dM ?_;refine dF T ?_;refine dL T ?_;refine dM ?_;refine dV rfl (by exact ix T rfl (by omega) (ints_len _) qd) ?_;refine dL T ?_;refine dM ?_;refine dF T ?_;refine dL T ?_;refine dM ?_;refine dV rfl (by exact ix T rfl (by omega) (ints_len _) qd) ?_;refine dL T ?_;refine dV rfl (by exact fs_indexOwn T rfl rfl rfl rfl rfl (by omega) (by omega)) ?_;refine dV rfl (by exact fs_load T rfl rfl (behind_ep rfl q0) rfl) ?_;refine dM ?_;refine dG ?_;refine dG ?_;refine dV rfl (by exact fs_pickt rfl rfl) ?_;refine dM ?_;refine dG ?_;refine dG ?_;refine dV rfl (by exact fs_pickt rfl rfl) ?_;refine dw_fin rfl rfl (by ((dsimp only [ln1,ln2,List.append_nil,ln4,ln5,ln6,ln7,ln8,ln9,putAt,putd,allObjs,argEnv,un_v,un_ptr,un_ep,un_pr,un_sl,un_mp,un_row,un_agg,un_tup,un_clo,Nat.zero_add,lnb,Nat.reduceAdd,lnc,lnd];done))) ?_;refine vV (by exact fs_indexOwn T rfl rfl rfl rfl rfl (by omega) (by omega)) ?_;refine vc_store T rfl rfl rfl rfl rfl rfl (by decide) (upd_ep rfl q0 rfl) ?_)|(refine rg 20 ?_;refine mV ?_;refine vV (by exact fs_addr rfl rfl (by omega) (by omega)) ?_;refine aV ?_)|refine nZ ?_)
      all_goals exact ⟨⟨(k + 1,o2.set c.toNat true),hlt,fin,hsl _⟩,by dsimp only;omega,[0,1,2,3],rfl,(by (repeat (first | exact trivial | refine ⟨rfl,?_⟩))),⟨.inr rfl,.inr rfl,.inr rfl,.inr (sub_arr rfl hse (bools_idf _)),trivial⟩,by decide,nz0⟩
    | false =>
      rw [hb,Bool.false_or] at fin
      rw [hb] at q0
      by_cases hy : y = 4
      · have fin := fin true (decide_eq_true (hwk.2 (.inl hy)))
        have hse := hse true
        repeat' (first|refine wS ?_|refine wB ?_|refine wK ?_|refine wT ?_|(refine rg 19 ?_;refine mV ?_;refine fV T ?_;refine vV (by exact fs_load T rfl rfl rfl rfl) ?_;refine qV T ?_;refine vV (by exact fs_lssT rfl rfl (by omega)) ?_)|(refine aw_draw2k (id := 21) 242 [[],[0],[0,1],[],[3],[],[3,4,5],[3,4,5,6],[0,1,2,3,4,5,6,7],[0,1,2,3,4,5,6,7,8]] [116,117,118,119,120,121,122,123,124,125] [[],[],[],[116,117,118],[116,117,118],[116,117,118,119,120],[116,117,118],[116,117,118],[],[]] mixedP rfl (by decide +kernel) ?_;refine dF T ?_;refine dF T ?_;refine dL T ?_;refine dF T ?_;refine dL T ?_;refine dM ?_;refine dV rfl (by exact ix T rfl (by omega) (ints_len _) qd) ?_;refine dL T ?_;refine dV rfl (by exact ix T rfl (by omega) (ints_len _) qk) ?_;refine dL T ?_;refine dw_fin rfl rfl (by ((dsimp only [ln1,ln2,List.append_nil,ln4,ln5,ln6,ln7,ln8,ln9,putAt,putd,allObjs,argEnv,un_v,un_ptr,un_ep,un_pr,un_sl,un_mp,un_row,un_agg,un_tup,un_clo,Nat.zero_add,lnb,Nat.reduceAdd,lnc,lnd];done))) ?_;refine aV ?_)|(refine aw_draw2k (id := 22) 242 [[],[],[1],[],[1,2,3],[1,2,3,4],[],[],[7],[],[7,8,9],[7,8,9,10],[6,7,8,9,10,11],[6,7,8,9,10,11,12],[6,7,8,9,10,11,12,13],[6,7,8,9,10,11,12,13,14],[6,7,8,9,10,11,12,13,14,15],[6,7,8,9,10,11,12,13,14,15,16],[6,7,8,9,10,11,12,13,14,15,16,17],[6,7,8,9,10,11,12,13,14,15,16,17,18],[6,7,8,9,10,11,12,13,14,15,16,17,18,19],[6,7,8,9,10,11,12,13,14,15,16,17,18,19,20]] [126,127,128,129,130,131,132,133,134,135,136,137,138,139,140,141,142,143,144,145,146,147] [[],[126],[126],[126,127,128],[126],[126],[126,127,128,129,130,131],[126,127,128,129,130,131,132],[126,127,128,129,130,131,132],[126,127,128,129,130,131,132,133,134],[126,127,128,129,130,131,132],[126,127,128,129,130,131,132],[126,127,128,129,130,131],[126,127,128,129,130,131],[126,127,128,129,130,131],[126,127,128,129,130,131],[126,127,128,129,130,131],[126,127,128,129,130,131],[126,127,128,129,130,131],[126,127,128,129,130,131],[126,127,128,129,130,131],[126,127,128,129,130,131]] mixedP rfl (by decide +kernel) ?_;refine dM ?_;refine dF T ?_;refine dL T ?_;refine dM ?_;refine dV rfl (by exact ix T rfl (by omega) (ints_len _) qd) ?_;refine dL T ?_;refine dM ?_;refine dF T ?_;refine dL T ?_;refine dM ?_;refine dV rfl (by exact ix T rfl (by omega) (ints_len _) qd) ?_;refine dL T ?_;refine dV rfl (by exact fs_indexOwn T rfl rfl rfl rfl rfl (by omega) (by omega)) ?_;refine dV rfl (by exact fs_load T rfl rfl (behind_ep rfl q0) rfl) ?_;refine dM ?_;refine tM ?_;refine dT rfl (by exact fs_eqlT rfl rfl hy) ?_;refine dV rfl (by exact fs_pickf rfl rfl) ?_;refine dM ?_;refine dG ?_;refine dG ?_;refine dV rfl (by exact fs_pickt rfl rfl) ?_;refine dw_fin rfl rfl (by ((dsimp only [ln1,ln2,List.append_nil,ln4,ln5,ln6,ln7,ln8,ln9,putAt,putd,allObjs,argEnv,un_v,un_ptr,un_ep,un_pr,un_sl,un_mp,un_row,un_agg,un_tup,un_clo,Nat.zero_add,lnb,Nat.reduceAdd,lnc,lnd];done))) ?_;refine vV (by exact fs_indexOwn T rfl rfl rfl rfl rfl (by omega) (by omega)) ?_;refine vc_store T rfl rfl rfl rfl rfl rfl (by decide) (upd_ep rfl q0 rfl) ?_)|(refine rg 20 ?_;refine mV ?_;refine vV (by exact fs_addr rfl rfl (by omega) (by omega)) ?_;refine aV ?_)|refine nZ ?_)
        all_goals exact ⟨⟨(k + 1,o2.set c.toNat true),hlt,fin,hsl _⟩,by dsimp only;omega,[0,1,2,3],rfl,(by (repeat (first | exact trivial | refine ⟨rfl,?_⟩))),⟨.inr rfl,.inr rfl,.inr rfl,.inr (sub_arr rfl hse (bools_idf _)),trivial⟩,by decide,nz0⟩
      · have hd5 : decide (c ∈ walkP s.fl) = decide (y = 5) := by rw [decide_eq_decide,hwk];exact ⟨fun q => q.resolve_left hy,.inr⟩
        have fin := fin (decide (y = 5)) hd5
        have hse := hse (decide (y = 5))
        repeat' (first|refine wS ?_|refine wB ?_|refine wK ?_|refine wT ?_|(refine rg 19 ?_;refine mV ?_;refine fV T ?_;refine vV (by exact fs_load T rfl rfl rfl rfl) ?_;refine qV T ?_;refine vV (by exact fs_lssT rfl rfl (by omega)) ?_)|(refine aw_draw2k (id := 21) 242 [[],[0],[0,1],[],[3],[],[3,4,5],[3,4,5,6],[0,1,2,3,4,5,6,7],[0,1,2,3,4,5,6,7,8]] [116,117,118,119,120,121,122,123,124,125] [[],[],[],[116,117,118],[116,117,118],[116,117,118,119,120],[116,117,118],[116,117,118],[],[]] mixedP rfl (by decide +kernel) ?_;refine dF T ?_;refine dF T ?_;refine dL T ?_;refine dF T ?_;refine dL T ?_;refine dM ?_;refine dV rfl (by exact ix T rfl (by omega) (ints_len _) qd) ?_;refine dL T ?_;refine dV rfl (by exact ix T rfl (by omega) (ints_len _) qk) ?_;refine dL T ?_;refine dw_fin rfl rfl (by ((dsimp only [ln1,ln2,List.append_nil,ln4,ln5,ln6,ln7,ln8,ln9,putAt,putd,allObjs,argEnv,un_v,un_ptr,un_ep,un_pr,un_sl,un_mp,un_row,un_agg,un_tup,un_clo,Nat.zero_add,lnb,Nat.reduceAdd,lnc,lnd];done))) ?_;refine aV ?_)|(refine aw_draw2k (id := 22) 242 [[],[],[1],[],[1,2,3],[1,2,3,4],[],[],[7],[],[7,8,9],[7,8,9,10],[6,7,8,9,10,11],[6,7,8,9,10,11,12],[6,7,8,9,10,11,12,13],[6,7,8,9,10,11,12,13,14],[6,7,8,9,10,11,12,13,14,15],[6,7,8,9,10,11,12,13,14,15,16],[6,7,8,9,10,11,12,13,14,15,16,17],[6,7,8,9,10,11,12,13,14,15,16,17,18],[6,7,8,9,10,11,12,13,14,15,16,17,18,19],[6,7,8,9,10,11,12,13,14,15,16,17,18,19,20]] [126,127,128,129,130,131,132,133,134,135,136,137,138,139,140,141,142,143,144,145,146,147] [[],[126],[126],[126,127,128],[126],[126],[126,127,128,129,130,131],[126,127,128,129,130,131,132],[126,127,128,129,130,131,132],[126,127,128,129,130,131,132,133,134],[126,127,128,129,130,131,132],[126,127,128,129,130,131,132],[126,127,128,129,130,131],[126,127,128,129,130,131],[126,127,128,129,130,131],[126,127,128,129,130,131],[126,127,128,129,130,131],[126,127,128,129,130,131],[126,127,128,129,130,131],[126,127,128,129,130,131],[126,127,128,129,130,131],[126,127,128,129,130,131]] mixedP rfl (by decide +kernel) ?_;refine dM ?_;refine dF T ?_;refine dL T ?_;refine dM ?_;refine dV rfl (by exact ix T rfl (by omega) (ints_len _) qd) ?_;refine dL T ?_;refine dM ?_;refine dF T ?_;refine dL T ?_;refine dM ?_;refine dV rfl (by exact ix T rfl (by omega) (ints_len _) qd) ?_;refine dL T ?_;refine dV rfl (by exact fs_indexOwn T rfl rfl rfl rfl rfl (by omega) (by omega)) ?_;refine dV rfl (by exact fs_load T rfl rfl (behind_ep rfl q0) rfl) ?_;refine dM ?_;refine tM ?_;refine dT rfl (by exact fs_eqlF rfl rfl hy) ?_;refine dV rfl (by exact fs_pickf rfl rfl) ?_;refine dM ?_;refine tM ?_;refine dT rfl (by exact fs_eql rfl rfl) ?_;refine dV rfl (by exact fs_pickf rfl rfl) ?_;refine dw_fin rfl rfl (by ((dsimp only [ln1,ln2,List.append_nil,ln4,ln5,ln6,ln7,ln8,ln9,putAt,putd,allObjs,argEnv,un_v,un_ptr,un_ep,un_pr,un_sl,un_mp,un_row,un_agg,un_tup,un_clo,Nat.zero_add,lnb,Nat.reduceAdd,lnc,lnd];done))) ?_;refine vV (by exact fs_indexOwn T rfl rfl rfl rfl rfl (by omega) (by omega)) ?_;refine vc_store T rfl rfl rfl rfl rfl rfl (by decide) (upd_ep rfl q0 rfl) ?_)|(refine rg 20 ?_;refine mV ?_;refine vV (by exact fs_addr rfl rfl (by omega) (by omega)) ?_;refine aV ?_)|refine nZ ?_)
        all_goals exact ⟨⟨(k + 1,o2.set c.toNat (decide (y = 5))),hlt,fin,hsl _⟩,by dsimp only;omega,[0,1,2,3],rfl,(by (repeat (first | exact trivial | refine ⟨rfl,?_⟩))),⟨.inr rfl,.inr rfl,.inr rfl,.inr (sub_arr rfl hse (bools_idf _)),trivial⟩,by decide,nz0⟩
  obtain rfl : k = st.dd.length := by omega
  rw [List.take_length,← hLP] at ho2
  repeat' (first|refine wS ?_|refine wB ?_|refine wE ?_|refine wU ?_|(refine rg 19 ?_;refine mV ?_;refine flV T ?_;refine qV T ?_;refine vV (by exact fs_lssF rfl rfl (by omega)) ?_)|(refine rg 23 ?_;refine aV ?_)|refine nZ ?_)
  obtain ⟨_,hLat⟩ := lostP_at hrb hdd
  rw [← ho2] at hLat
  clear ho2 hLP hol
  have hbl2 : (bools o2).length = s.fl.k.length := by rw [bools_length,hol2]
  refine aw_frz 9 rfl rfl hbl2.symm (idfL_flat (bools_idf _)) ?_
  have hcl : o2.count true ≤ s.fl.k.length := by rw [← hol2];exact List.count_le_length ..
  refine aw_loop (X := {k : Nat // k ≤ s.fl.k.length}) (fun k => [(2, .ptr 0 0), (3, .ptr 1 0), (5, .b true), (6, .ptr 2 0), (9, .rowE (bools o2) 1), (13, .i (((o2.take k.1).count true : Nat) : Int)), (16, .i (k.1 : Int))])
    (fun _ => [.cells (sitA s),.cells (sttA st),.cells (certA L b)]) (fun k => s.fl.k.length - k.1) ⟨0,Nat.zero_le _⟩ ⟨[0,1,2],rfl,(by (repeat (first | exact trivial | refine ⟨rfl,?_⟩))),⟨.inr rfl,.inr rfl,.inr rfl,trivial⟩,by decide,nz0⟩ ?_
  rintro ⟨k,hk⟩
  dsimp only at hk ⊢
  by_cases hlt : k < s.fl.k.length
  · have qb : (bools o2)[(k : Int).toNat]? = some [AV.b (o2.getD k false)] := by have := bools_gO (l := o2) (j := (k : Int)) (i := k) (by omega) rfl;rw [Nat.zero_add] at this;exact this
    have hcs := cnt_snoc (l := o2) (k := k) (by omega)
    have hck : (o2.take k).count true ≤ k := Nat.le_trans (List.count_le_length ..) (by rw [List.length_take];omega)
    cases hb : o2.getD k false with
    | true =>
      rw [hb] at qb hcs
      rw [if_pos rfl] at hcs
      have hci : (((o2.take (k + 1)).count true : Nat) : Int) = (((o2.take k).count true : Nat) : Int) + 1 := by omega
      repeat' (first|refine wS ?_|refine wB ?_|refine wK ?_|refine wT ?_|(refine rg 24 ?_;refine mmV ?_;refine qV T ?_;refine vV (by exact fs_lssT rfl rfl (by omega)) ?_)|(refine rg 26 ?_;refine mmV ?_;refine vV (by exact ix T rfl (by omega) (bools_len _) qb) ?_;refine lV T ?_)|(refine rg 27 ?_;refine mV ?_;refine vV (by exact fs_addr rfl rfl (by omega) (by omega)) ?_;refine aV ?_)|(refine rg 25 ?_;refine mV ?_;refine vV (by exact fs_addr rfl rfl (by omega) (by omega)) ?_;refine aV ?_)|refine nZ ?_)
      all_goals exact ⟨⟨k + 1,hlt⟩,by dsimp only;omega,[0,1,2],rfl,⟨rfl,rfl,rfl,rfl,rfl,congrArg (fun n : Int => some (AV.i n)) hci.symm,rfl,trivial⟩,⟨.inr rfl,.inr rfl,.inr rfl,trivial⟩,by decide,nz0⟩
    | false =>
      rw [hb] at qb hcs
      rw [if_neg (by simp),Nat.add_zero] at hcs
      repeat' (first|refine wS ?_|refine wB ?_|refine wK ?_|refine wT ?_|refine wU ?_|(refine rg 24 ?_;refine mmV ?_;refine qV T ?_;refine vV (by exact fs_lssT rfl rfl (by omega)) ?_)|(refine rg 26 ?_;refine mmV ?_;refine vV (by exact ix T rfl (by omega) (bools_len _) qb) ?_;refine lV T ?_)|(refine rg 25 ?_;refine mV ?_;refine vV (by exact fs_addr rfl rfl (by omega) (by omega)) ?_;refine aV ?_)|refine nZ ?_)
      all_goals exact ⟨⟨k + 1,hlt⟩,by dsimp only;omega,[0,1,2],rfl,⟨rfl,rfl,rfl,rfl,rfl,by dsimp only;rw [hcs];rfl,rfl,trivial⟩,⟨.inr rfl,.inr rfl,.inr rfl,trivial⟩,by decide,nz0⟩
  obtain rfl : k = s.fl.k.length := by omega
  rw [List.take_of_length_le (by omega)]
  have cW := waits_c s g st (by omega) (by omega)
  have hbt := bound_top s g
  have hb0 := bound_ge s
  obtain ⟨hwl,hwa⟩ := waits_at hb0 (by omega) st.rb st.dd hbe
  rw [hbd] at hwa hbt hb0
  generalize waitsP s.fl st.rb st.dd = w at *
  have hwil : (ints w).length = s.fl.k.length := by rw [ints_length,hwl]
  have hw2 : ∀ j : Nat,j < s.fl.k.length → (o2.getD j false = true → w.getD j 0 = -1) ∧ (o2.getD j false = false → 0 ≤ w.getD j 0 ∧ w.getD j 0 ≤ b) := fun j hj => by
    obtain ⟨a1,a2⟩ := hwa j hj
    refine ⟨fun q => a1 ((hLat j hj).1 q),fun q => a2 fun q2 => ?_⟩
    rw [(hLat j hj).2 q2] at q;cases q
  clear hwa hLat hbe hrb hdd
  repeat' (first|refine wS ?_|refine wB ?_|refine wK ?_|refine wE ?_|refine wU ?_|(refine rg 24 ?_;refine mmV ?_;refine qV T ?_;refine vV (by exact fs_lssF rfl rfl (by omega)) ?_)|(refine rg 28 ?_;refine lV T ?_;refine lV T ?_;refine vV (by exact kC (cW)) ?_;refine aV ?_)|(refine rg 29 ?_;refine mV ?_;refine qV T ?_;refine mV ?_;refine qV T ?_;refine vV (by exact fs_neqF rfl rfl (by omega)) ?_)|(refine rg 31 ?_;refine aV ?_)|refine nZ ?_)
  refine aw_loop (X := {k : Nat // k ≤ s.fl.k.length}) (fun k => [(5, .b true), (6, .ptr 0 0), (9, .rowE (bools o2) 1), (13, .i ((o2.count true : Nat) : Int)), (17, .rowE (ints w) 1), (18, .i (k.1 : Int))])
    (fun _ => [.cells (certA L b)]) (fun k => s.fl.k.length - k.1) ⟨0,Nat.zero_le _⟩ ⟨[2],rfl,(by (repeat (first | exact trivial | refine ⟨rfl,?_⟩))),⟨.inr rfl,trivial⟩,by decide,nz0⟩ ?_
  rintro ⟨k,hk⟩
  dsimp only at hk ⊢
  by_cases hlt : k < s.fl.k.length
  · have qb : (bools o2)[(k : Int).toNat]? = some [AV.b (o2.getD k false)] := by have := bools_gO (l := o2) (j := (k : Int)) (i := k) (by omega) rfl;rw [Nat.zero_add] at this;exact this
    have qw := ints_gI (l := w) (j := (k : Int)) (i := k) 0 (by omega) (by simp)
    obtain ⟨a1,a2⟩ := hw2 k hlt
    generalize w.getD k 0 = v at *
    cases hb : o2.getD k false with
    | true =>
      rw [hb] at qb
      have hv := a1 hb
      repeat' (first|refine wS ?_|refine wB ?_|refine wK ?_|refine wT ?_|refine wU ?_|(refine rg 32 ?_;refine mmV ?_;refine qV T ?_;refine vV (by exact fs_lssT rfl rfl (by omega)) ?_)|(refine aw_draw2k (id := 34) 242 [[],[],[0,1],[0,1,2],[],[4],[0,1,2,3,4,5],[0,1,2,3,4,5,6],[0,1,2,3,4,5,6,7],[0,1,2,3,4,5,6,7],[0,1,2,3,4,5,6,7,8,9],[0,1,2,3,4,5,6,7,8,9,10],[0,1,2,3,4,5,6,7,8,9,10,11],[0,1,2,3,4,5,6,7],[0,1,2,3,4,5,6,7],[0,1,2,3,4,5,6,7,13,14],[0,1,2,3,4,5,6,7,13,14,15],[0,1,2,3,4,5,6,7,8,9,10,11,12,13,14,15,16],[0,1,2,3,4,5,6,7,8,9,10,11,12,13,14,15,16,17],[0,1,2,3,4,5,6,7,8,9,10,11,12,13,14,15,16,17,18],[0,1,2,3,4,5,6,7,8,9,10,11,12,13,14,15,16,17,18,19],[0,1,2,3,4,5,6,7,8,9,10,11,12,13,14,15,16,17,18,19],[0,1,2,3,4,5,6,7,8,9,10,11,12,13,14,15,16,17,18,19,20,21],[0,1,2,3,4,5,6,7,8,9,10,11,12,13,14,15,16,17,18,19,20,21,22],[0,1,2,3,4,5,6,7,8,9,10,11,12,13,14,15,16,17,18,19,20,21,22,23],[0,1,2,3,4,5,6,7,8,9,10,11,12,13,14,15,16,17,18,19,20,21,22,23,24]] [175,176,177,178,179,180,181,182,183,184,185,186,187,188,189,190,191,192,193,194,195,196,197,198,199,200] [[],[175],[],[],[175,176,177,178],[175,176,177,178],[],[],[],[183],[],[],[],[183,184,185,186,187],[183,184,185,186,187,188],[183,184,185,186,187],[183,184,185,186,187],[],[],[],[],[195],[],[],[],[]] mixedP rfl (by decide +kernel) ?_;refine dM ?_;refine dM ?_;refine dV rfl (by exact ix T rfl (by omega) (ints_len _) qw) ?_;refine dL T ?_;refine dF T ?_;refine dL T ?_;refine dV rfl (by exact fs_gtrF rfl rfl (by omega)) ?_;refine dM ?_;refine tM ?_;refine tM ?_;refine dT rfl (by exact ix T rfl (by omega) (ints_len _) qw) ?_;refine tL T ?_;refine dT rfl (by exact fs_eqlT rfl rfl hv) ?_;refine tM ?_;refine tM ?_;refine dT rfl (by exact ix T rfl (by omega) (bools_len _) qb) ?_;refine tL T ?_;refine dT rfl (by exact fs_neqBs boolTL rfl rfl) ?_;refine dV rfl (by exact fs_pickf rfl rfl) ?_;refine dM ?_;refine tM ?_;refine tM ?_;refine dT rfl (by exact ix T rfl (by omega) (ints_len _) qw) ?_;refine tL T ?_;refine dT rfl (by exact fs_lssF rfl rfl (by omega)) ?_;refine dV rfl (by exact fs_pickf rfl rfl) ?_;refine dw_fin rfl rfl (by ((dsimp only [ln1,ln2,List.append_nil,ln4,ln5,ln6,ln7,ln8,ln9,putAt,putd,allObjs,argEnv,un_v,un_ptr,un_ep,un_pr,un_sl,un_mp,un_row,un_agg,un_tup,un_clo,Nat.zero_add,lnb,Nat.reduceAdd,lnc,lnd];done))) ?_)|(refine rg 33 ?_;refine mV ?_;refine vV (by exact fs_addr rfl rfl (by omega) (by omega)) ?_;refine aV ?_)|refine nZ ?_)
      all_goals exact ⟨⟨k + 1,hlt⟩,by dsimp only;omega,[0],rfl,(by (repeat (first | exact trivial | refine ⟨rfl,?_⟩))),⟨.inr rfl,trivial⟩,by decide,nz0⟩
    | false =>
      rw [hb] at qb
      have hv := a2 hb
      repeat' (first|refine wS ?_|refine wB ?_|refine wK ?_|refine wT ?_|refine wU ?_|(refine rg 32 ?_;refine mmV ?_;refine qV T ?_;refine vV (by exact fs_lssT rfl rfl (by omega)) ?_)|(refine aw_draw2k (id := 34) 242 [[],[],[0,1],[0,1,2],[],[4],[0,1,2,3,4,5],[0,1,2,3,4,5,6],[0,1,2,3,4,5,6,7],[0,1,2,3,4,5,6,7],[0,1,2,3,4,5,6,7,8,9],[0,1,2,3,4,5,6,7,8,9,10],[0,1,2,3,4,5,6,7,8,9,10,11],[0,1,2,3,4,5,6,7],[0,1,2,3,4,5,6,7],[0,1,2,3,4,5,6,7,13,14],[0,1,2,3,4,5,6,7,13,14,15],[0,1,2,3,4,5,6,7,8,9,10,11,12,13,14,15,16],[0,1,2,3,4,5,6,7,8,9,10,11,12,13,14,15,16,17],[0,1,2,3,4,5,6,7,8,9,10,11,12,13,14,15,16,17,18],[0,1,2,3,4,5,6,7,8,9,10,11,12,13,14,15,16,17,18,19],[0,1,2,3,4,5,6,7,8,9,10,11,12,13,14,15,16,17,18,19],[0,1,2,3,4,5,6,7,8,9,10,11,12,13,14,15,16,17,18,19,20,21],[0,1,2,3,4,5,6,7,8,9,10,11,12,13,14,15,16,17,18,19,20,21,22],[0,1,2,3,4,5,6,7,8,9,10,11,12,13,14,15,16,17,18,19,20,21,22,23],[0,1,2,3,4,5,6,7,8,9,10,11,12,13,14,15,16,17,18,19,20,21,22,23,24]] [175,176,177,178,179,180,181,182,183,184,185,186,187,188,189,190,191,192,193,194,195,196,197,198,199,200] [[],[175],[],[],[175,176,177,178],[175,176,177,178],[],[],[],[183],[],[],[],[183,184,185,186,187],[183,184,185,186,187,188],[183,184,185,186,187],[183,184,185,186,187],[],[],[],[],[195],[],[],[],[]] mixedP rfl (by decide +kernel) ?_;refine dM ?_;refine dM ?_;refine dV rfl (by exact ix T rfl (by omega) (ints_len _) qw) ?_;refine dL T ?_;refine dF T ?_;refine dL T ?_;refine dV rfl (by exact fs_gtrF rfl rfl (by omega)) ?_;refine dM ?_;refine tM ?_;refine tM ?_;refine dT rfl (by exact ix T rfl (by omega) (ints_len _) qw) ?_;refine tL T ?_;refine dT rfl (by exact fs_eqlF rfl rfl (by omega)) ?_;refine tM ?_;refine tM ?_;refine dT rfl (by exact ix T rfl (by omega) (bools_len _) qb) ?_;refine tL T ?_;refine dT rfl (by exact fs_neqBs boolTL rfl rfl) ?_;refine dV rfl (by exact fs_pickf rfl rfl) ?_;refine dM ?_;refine tM ?_;refine tM ?_;refine dT rfl (by exact ix T rfl (by omega) (ints_len _) qw) ?_;refine tL T ?_;refine dT rfl (by exact fs_lssF rfl rfl (by omega)) ?_;refine dV rfl (by exact fs_pickf rfl rfl) ?_;refine dw_fin rfl rfl (by ((dsimp only [ln1,ln2,List.append_nil,ln4,ln5,ln6,ln7,ln8,ln9,putAt,putd,allObjs,argEnv,un_v,un_ptr,un_ep,un_pr,un_sl,un_mp,un_row,un_agg,un_tup,un_clo,Nat.zero_add,lnb,Nat.reduceAdd,lnc,lnd];done))) ?_)|(refine rg 33 ?_;refine mV ?_;refine vV (by exact fs_addr rfl rfl (by omega) (by omega)) ?_;refine aV ?_)|refine nZ ?_)
      all_goals exact ⟨⟨k + 1,hlt⟩,by dsimp only;omega,[0],rfl,(by (repeat (first | exact trivial | refine ⟨rfl,?_⟩))),⟨.inr rfl,trivial⟩,by decide,nz0⟩
  repeat' (first|refine wS ?_|refine wB ?_|refine wE ?_|refine wU ?_|(refine rg 32 ?_;refine mmV ?_;refine qV T ?_;refine vV (by exact fs_lssF rfl rfl (by omega)) ?_)|(refine rg 36 ?_;refine aV ?_)|refine nZ ?_)
  have hlen : ∀ x,x ∈ L → x.2.1.length ≤ 1000000 ∧ x.2.2.length ≤ 1000000 := fun x hx => by
    obtain ⟨p1,p2,_⟩ := h2 x hx
    have a1 := lane_len p1
    have a2 := lane_len p2
    have a3 := walk_len s.fl
    omega
  have hLl : L.length ≤ s.fl.k.length := by have := congrArg List.length h1;rw [List.length_map] at this;rw [this];exact ofK_len _ _ _
  have hLA : (lanesA L).length = L.length := by simp
  generalize hcn : o2.count true = cn at *
  refine aw_loop (X := {k : Nat // k ≤ L.length}) (fun k => [(5, .b true), (6, .ptr 0 0), (9, .rowE (bools o2) 1), (13, .i (cn : Int)), (17, .rowE (ints w) 1), (19, .i (k.1 : Int))])
    (fun _ => [.cells (certA L b)]) (fun k => L.length - k.1) ⟨0,Nat.zero_le _⟩ ⟨[0],rfl,(by (repeat (first | exact trivial | refine ⟨rfl,?_⟩))),⟨.inr rfl,trivial⟩,by decide,nz0⟩ ?_
  rintro ⟨k,hk⟩
  dsimp only at hk ⊢
  by_cases hlt : k < L.length
  case neg =>
    repeat' (first|refine wS ?_|refine wR ?_|refine wE ?_|refine wU ?_|(refine rg 37 ?_;refine mV ?_;refine flV T ?_;refine qV T ?_;refine vV (by exact fs_lssF rfl rfl (by omega)) ?_;refine mV ?_;refine gK ?_;(iterate 2 refine gF ?_);refine pV ?_)|(refine rg 43 ?_;refine mV ?_;refine aV ?_)|refine nZ ?_)
    all_goals exact ⟨_,_,⟨rfl,rfl⟩,rQ⟩
  by_cases hc1 : cn ≤ 1
  case neg =>
    repeat' (first|refine wS ?_|refine wR ?_|refine wE ?_|refine wU ?_|(refine rg 37 ?_;refine mV ?_;refine flV T ?_;refine qV T ?_;refine vV (by exact fs_lssT rfl rfl (by omega)) ?_;refine mV ?_;refine gK ?_;refine yM ?_;refine yV (by exact fs_leqF rfl rfl (by omega)) ?_;refine pV ?_)|(refine rg 43 ?_;refine mV ?_;refine aV ?_)|refine nZ ?_)
    all_goals exact ⟨_,_,⟨rfl,rfl⟩,rQ⟩
  have qx : (lanesA L)[(k : Int).toNat]? = some (laneA L[k]) := lanes_get (by rw [Int.toNat_natCast,List.getElem?_eq_getElem hlt])
  have hcm : L[k].1 ∈ kindC s.fl 4 := by rw [← h1];exact List.mem_map.2 ⟨_,List.getElem_mem hlt,rfl⟩
  obtain ⟨lost,hlost⟩ := lost_one (l := o2) (by omega)
  have hws : lostS w lost b s.fl.k.length s.fl.k.length = w := lostS_self hwl fun j hj => by
    obtain ⟨a1,a2⟩ := hw2 j hj
    have hj2 := hlost j (by omega)
    refine ⟨fun q => a1 (hj2.2 q),fun q => a2 ?_⟩
    cases hb : o2.getD j false with
    | true => exact absurd (hj2.1 hb) q
    | false => rfl
  have cR := request_c L b L[k].1 w (by omega) hlen
  have hst := fun hq : lost ≠ L[k].1 => stands_p g h1 h2 hcm hq w
  rw [hbd,hws] at hst
  generalize L[k] = x at *
  obtain ⟨c0,c1,_⟩ := mem_ofK.1 hcm
  have qb : (bools o2)[x.1.toNat]? = some [AV.b (o2.getD x.1.toNat false)] := by have := bools_gO (l := o2) (j := x.1) (i := x.1.toNat) (by omega) (by omega);rw [Nat.zero_add] at this;exact this
  have hlx := hlost x.1.toNat (by omega)
  cases hb : o2.getD x.1.toNat false with
  | true =>
    rw [hb] at qb
    generalize reqP L b x.1 w = rq at *
    repeat' (first|refine wS ?_|refine wB ?_|refine wK ?_|refine wT ?_|refine wU ?_|(refine rg 37 ?_;refine mV ?_;refine flV T ?_;refine qV T ?_;refine vV (by exact fs_lssT rfl rfl (by omega)) ?_;refine mV ?_;refine gK ?_;refine yM ?_;refine yV (by exact fs_leqT rfl rfl (by omega)) ?_;refine pV ?_)|(refine rg 39 ?_;refine flV T ?_;refine mV ?_;refine vV (by exact ix T rfl (by omega) (lanes_len _) qx) ?_;refine flV T ?_;refine aV ?_)|(refine rg 40 ?_;refine lV T ?_;refine mmV ?_;refine vV (by exact kC (cR)) ?_;refine mV ?_;refine xV ?_;refine xV ?_;refine xV ?_;refine aaV ?_;refine aV ?_)|(refine rg 41 ?_;refine mmV ?_;refine vV (by exact ix T rfl (by omega) (bools_len _) qb) ?_;refine lV T ?_;refine vV (by exact fs_not rfl) ?_;refine mV ?_;refine gK ?_;(iterate 3 refine gF ?_);refine gK ?_;(iterate 4 refine gU ?_);refine gF ?_;refine pV ?_)|(refine rg 38 ?_;refine mV ?_;refine vV (by exact fs_addr rfl rfl (by omega) (by omega)) ?_;refine aV ?_)|refine nZ ?_)
    all_goals exact ⟨⟨k + 1,hlt⟩,by dsimp only;omega,[0],rfl,(by (repeat (first | exact trivial | refine ⟨rfl,?_⟩))),⟨.inr rfl,trivial⟩,by decide,nz0⟩
  | false =>
    rw [hb] at qb
    obtain ⟨k2,n,hreq,hn0,hnb,_,_⟩ := hst fun q => by
      have := hlx.2 (by omega)
      rw [hb] at this;cases this
    rw [hreq] at cR
    clear hreq hst
    repeat' (first|refine wS ?_|refine wB ?_|refine wK ?_|refine wT ?_|refine wU ?_|(refine rg 37 ?_;refine mV ?_;refine flV T ?_;refine qV T ?_;refine vV (by exact fs_lssT rfl rfl (by omega)) ?_;refine mV ?_;refine gK ?_;refine yM ?_;refine yV (by exact fs_leqT rfl rfl (by omega)) ?_;refine pV ?_)|(refine rg 39 ?_;refine flV T ?_;refine mV ?_;refine vV (by exact ix T rfl (by omega) (lanes_len _) qx) ?_;refine flV T ?_;refine aV ?_)|(refine rg 40 ?_;refine lV T ?_;refine mmV ?_;refine vV (by exact kC (cR)) ?_;refine mV ?_;refine xV ?_;refine xV ?_;refine xV ?_;refine aaV ?_;refine aV ?_)|(refine rg 41 ?_;refine mmV ?_;refine vV (by exact ix T rfl (by omega) (bools_len _) qb) ?_;refine lV T ?_;refine vV (by exact fs_not rfl) ?_;refine mV ?_;refine gK ?_;refine yM ?_;refine yV (by exact fs_neqF rfl rfl rfl) ?_;refine yM ?_;refine gK ?_;refine yM ?_;refine yF T ?_;refine yL T ?_;refine yV (by exact fs_gtrF rfl rfl (by omega)) ?_;refine gT ?_;refine pV ?_;refine pV ?_)|(refine rg 38 ?_;refine mV ?_;refine vV (by exact fs_addr rfl rfl (by omega) (by omega)) ?_;refine aV ?_)|refine nZ ?_)
    all_goals exact ⟨⟨k + 1,hlt⟩,by dsimp only;omega,[0],rfl,(by (repeat (first | exact trivial | refine ⟨rfl,?_⟩))),⟨.inr rfl,trivial⟩,by decide,nz0⟩
end Go.Proofs.YtdmajnjoeidgeaaGreat
namespace Go.Proofs.YtdmajnjoeidgeaaGreat
open Go Go.Ab Go.Fl
theorem laneWaits_fin (s : Sit) (_ : True) (st : Stt) (_ : True) : ACall Tryz.prog 3 [.agg (sitA s),.agg (sttA st)] [] (.b true) [] := laneWaits_law s st
end Go.Proofs.YtdmajnjoeidgeaaGreat
