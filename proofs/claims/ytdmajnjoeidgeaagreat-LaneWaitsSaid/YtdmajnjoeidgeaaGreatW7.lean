/-
  Texts of the logic and of the layer,in one module (part 7).
-/
import Derived.Test.YtdmajnjoeidgeaaGreatW6
set_option linter.unusedVariables false
set_option linter.unusedSimpArgs false
namespace Go.Proofs.YtdmajnjoeidgeaaGreat
open Go Go.Ab Go.Fl Go.Shelf Go.Proofs Go.MapKept
attribute [local irreducible] VC AW FStep ACall PCall StrStruct StrT AStep
set_option maxHeartbeats 8000000
structure RobP (f : Flo) (sh : List Int) (pre : List Int) (r : Rob) : Prop where
  c : inF f r.1 = true
  w : f.k.getD r.1.toNat 0 ≠ 0
  l : withinB r.2.1 (-1) (sh.length - 1) = true
  ch : withinB r.2.2.1 0 1000000 = true
  re : withinB r.2.2.2.1 0 20000 = true
  mu : withinB r.2.2.2.2.1 0 20000 = true
  ld : 0 ≤ r.2.1 → r.2.1 ∉ pre ∧ sh.getD r.2.1.toNat 0 = r.1
def loadsF (l : List Rob) (k : Nat) : List Int := (l.take k).map (·.2.1)
def RobOk (f : Flo) (sh : List Int) (l : List Rob) : Prop := ∀ (k : Nat) (h : k < l.length),RobP f sh (loadsF l k) l[k]
theorem withinB_t {n f t : Int} : withinB n f t = true ↔ f ≤ n ∧ n ≤ t := by unfold withinB;simp
theorem inF_t {f : Flo} {c : Int} : inF f c = true ↔ 0 ≤ c ∧ c < f.k.length := by unfold inF;simp
theorem robots_p (s : Sit) (st : Stt) (h1 : st.sh.length ≤ 1000) (h2 : st.rb.length ≤ 1000) : PCall Tryz.prog 26 [.agg (sitA s),.agg (sttA st)] [] (okB (RobOk s.fl st.sh st.rb)) := by
  have hkl : (ints s.fl.k).length = s.fl.k.length := ints_length _
  have hsl : (ints st.sh).length = st.sh.length := ints_length _
  have hrl : (robsA st.rb).length = st.rb.length := by simp
  refine pcall T Tryz.func26 rfl rfl rfl rfl ?_
  repeat' (first|refine wS ?_|refine wB ?_|(refine rg 0 ?_;refine vc_n (by exact fs_box rfl rfl) rfl ?_;refine vc_n (by exact fs_box rfl rfl) rfl ?_;refine aV ?_)|(refine rg 1 ?_;refine vc_n (by exact fs_mapNew) rfl ?_;refine aV ?_)|(refine rg 2 ?_;refine flV T ?_;refine qV T ?_;refine mV ?_)|refine nZ ?_)
  refine aw_loop (X := {p : Nat × List Int // p.1 ≤ st.rb.length ∧ p.2.Nodup ∧ (∀ x,x ∈ p.2 ↔ x ∈ loadsF st.rb p.1) ∧ ∀ (j : Nat) (hj : j < p.1) (hl : j < st.rb.length),RobP s.fl st.sh (loadsF st.rb j) st.rb[j]}) (fun p => [(2,.ptr 0 0),(3,.ptr 1 0),(5,.mp 2),(10,.rowE (robsA st.rb) 6),(11,.i st.rb.length),(12,.i p.1.1)]) (fun p => [.cells (sitA s),.cells (sttA st),.mapO (p.1.2.map kI) (tru p.1.2.length)]) (fun p => st.rb.length - p.1.1) ⟨(0,[]),by dsimp only;omega,List.nodup_nil,fun x => by simp [loadsF],fun j hj => absurd hj (Nat.not_lt_zero _)⟩ ⟨[0,1,2],rfl,⟨rfl,rfl,rfl,rfl,congrArg (fun n : Nat => some (AV.i n)) hrl,rfl,trivial⟩,⟨.inr rfl,.inr rfl,.inr rfl,trivial⟩,by decide,lt0 _⟩ ?_
  rintro ⟨⟨k,ks⟩,hk,hnd,hks,hp⟩
  dsimp only
  change k ≤ st.rb.length at hk
  change ks.Nodup at hnd
  change ∀ x,x ∈ ks ↔ x ∈ loadsF st.rb k at hks
  change ∀ (j : Nat) (hj : j < k) (hl : j < st.rb.length),RobP s.fl st.sh (loadsF st.rb j) st.rb[j] at hp
  by_cases hlt : k < st.rb.length
  · have q1 : (robsA st.rb)[(k : Int).toNat]? = some (robA st.rb[k]) := robs_get hlt
    have hln : loadsF st.rb (k + 1) = loadsF st.rb k ++ [(st.rb[k]).2.1] := by unfold loadsF;rw [List.take_succ_eq_append_getElem hlt,List.map_append];rfl
    have hnx : RobP s.fl st.sh (loadsF st.rb k) st.rb[k] → ∀ (j : Nat) (hj : j < k + 1) (hl : j < st.rb.length),RobP s.fl st.sh (loadsF st.rb j) st.rb[j] := fun h j hj hl => by
      by_cases e : j = k
      · subst e;exact h
      · exact hp j (by omega) hl
    generalize st.rb[k] = r at *
    obtain ⟨x,ld,ch,re,mu,de⟩ := r
    dsimp only at hln
    by_cases hin : 0 ≤ x ∧ x < s.fl.k.length
    · have q2 := ints_gI (l := s.fl.k) (j := x) (i := x.toNat) 0 (by omega) (by omega)
      have c1 := within_c ld (-1) (st.sh.length - 1)
      have c2 := within_c ch 0 1000000
      have c3 := within_c re 0 20000
      have c4 := within_c mu 0 20000
      rw [← hsl] at c1
      cases w1 : withinB ld (-1) (st.sh.length - 1) with
      | false =>
        rw [hsl,w1] at c1
        rw [← hsl] at c1
        repeat' (first|refine wS ?_|refine wB ?_|refine wK ?_|refine wR ?_|refine wT ?_|(refine rg 3 ?_;refine vV (by exact fs_lssT rfl rfl (by omega)) ?_)|(refine rg 4 ?_;refine vV (by exact ix T rfl (by omega) (robs_len _) q1) ?_;refine lV T ?_;refine vc_n (by exact fs_alloc T rfl) rfl ?_;refine vc_store T rfl rfl rfl rfl rfl rfl (by decide) rfl ?_)|(refine rg 5 ?_;refine flV T ?_;refine vV (by exact fs_lssF rfl rfl (by omega)) ?_;refine mV ?_;refine gK ?_;refine yF T ?_;refine yL T ?_;refine yF T ?_;refine yF T ?_;refine yL T ?_;refine gT ?_;refine qV T ?_;refine yV (by exact fs_geqF rfl rfl (by omega)) ?_;refine pV ?_;refine mV ?_;refine gK ?_;refine yF T ?_;refine yF T ?_;refine yL T ?_;refine yF T ?_;refine yL T ?_;refine yV (by exact ix T rfl (by omega) (ints_len _) q2) ?_;refine yL T ?_;refine yV (by exact fs_eql rfl rfl) ?_;refine pV ?_;refine mV ?_;refine vc_split rfl rfl (fun hb=>?_) (fun hb=>?_)<;>((rw [hb];(try simp only [nm] at hb);try ((exfalso;omega);done)));(all_goals first|(refine gT ?_;(refine fV T ?_);refine gT ?_;(refine lV T ?_);refine gT ?_;(refine fV T ?_);refine gT ?_;(refine lV T ?_);refine gT ?_;(refine qV T ?_);refine gT ?_;(refine vV (by exact fs_subr rfl rfl (by omega) (by omega)) ?_);refine gT ?_;(refine vV (by exact kC (c1)) ?_);refine gT ?_;(refine vV (by exact fs_not rfl) ?_))|(iterate 8 refine gF ?_));(all_goals (refine pV ?_)))|(refine rg 6 ?_;refine aV ?_)|refine nZ ?_)
        all_goals first | (exfalso;omega) | exact ⟨.b false,[],⟨rfl,false,rfl,fun h => Bool.noConfusion h⟩,rQ⟩
      | true =>
        rw [hsl,w1] at c1
        rw [← hsl] at c1
        have w1' := withinB_t.1 w1
        by_cases hl0 : 0 ≤ ld
        · have q3 := ints_gI (l := st.sh) (j := ld) (i := ld.toNat) 0 (by omega) (by omega)
          by_cases hm : ld ∈ ks
          · obtain ⟨i,hi,hi2⟩ := keys_at hm
            have hv := tru_at hi
            repeat' (first|refine wS ?_|refine wB ?_|refine wK ?_|refine wR ?_|refine wT ?_|refine wU ?_|(refine wC rfl (fun hb=>?_) (fun hb=>?_)<;>(((try simp only [nm] at hb);try (exfalso;omega))))|(refine rg 3 ?_;refine vV (by exact fs_lssT rfl rfl (by omega)) ?_)|(refine rg 4 ?_;refine vV (by exact ix T rfl (by omega) (robs_len _) q1) ?_;refine lV T ?_;refine vc_n (by exact fs_alloc T rfl) rfl ?_;refine vc_store T rfl rfl rfl rfl rfl rfl (by decide) rfl ?_)|(refine rg 5 ?_;refine flV T ?_;refine vV (by exact fs_lssF rfl rfl (by omega)) ?_;refine mV ?_;refine gK ?_;refine yF T ?_;refine yL T ?_;refine yF T ?_;refine yF T ?_;refine yL T ?_;refine gT ?_;refine qV T ?_;refine yV (by exact fs_geqF rfl rfl (by omega)) ?_;refine pV ?_;refine mV ?_;refine gK ?_;refine yF T ?_;refine yF T ?_;refine yL T ?_;refine yF T ?_;refine yL T ?_;refine yV (by exact ix T rfl (by omega) (ints_len _) q2) ?_;refine yL T ?_;refine yV (by exact fs_eql rfl rfl) ?_;refine pV ?_;refine mV ?_;refine vc_split rfl rfl (fun hb=>?_) (fun hb=>?_)<;>((rw [hb];(try simp only [nm] at hb);try ((exfalso;omega);done)));(all_goals first|(refine gT ?_;(refine fV T ?_);refine gT ?_;(refine lV T ?_);refine gT ?_;(refine fV T ?_);refine gT ?_;(refine lV T ?_);refine gT ?_;(refine qV T ?_);refine gT ?_;(refine vV (by exact fs_subr rfl rfl (by omega) (by omega)) ?_);refine gT ?_;(refine vV (by exact kC (c1)) ?_);refine gT ?_;(refine vV (by exact fs_not rfl) ?_))|(iterate 8 refine gF ?_));(all_goals (refine pV ?_)))|(refine rg 6 ?_;refine aV ?_)|(refine rg 7 ?_;refine flV T ?_;refine vV (by exact kC (c2)) ?_;refine vV (by exact fs_not rfl) ?_;refine mV ?_;refine vc_split rfl rfl (fun hb=>?_) (fun hb=>?_)<;>((rw [hb];(try simp only [nm] at hb);try ((exfalso;omega);done)));(all_goals first|(refine gT ?_;(refine fV T ?_);refine gT ?_;(refine lV T ?_);refine gT ?_;(refine vV (by exact kC (c3)) ?_);refine gT ?_;(refine vV (by exact fs_not rfl) ?_))|(iterate 4 refine gF ?_));(all_goals (refine pV ?_;refine mV ?_));(all_goals first|(refine gK ?_)|(refine vc_split rfl rfl (fun hb=>?_) (fun hb=>?_)<;>((rw [hb];(try simp only [nm] at hb);try ((exfalso;omega);done)))));(all_goals first|(refine gT ?_;(refine fV T ?_);refine gT ?_;(refine lV T ?_);refine gT ?_;(refine vV (by exact kC (c4)) ?_);refine gT ?_;(refine vV (by exact fs_not rfl) ?_))|(iterate 4 refine gF ?_));(all_goals (refine pV ?_)))|(refine rg 8 ?_;refine aV ?_)|(refine aw_draw2k (id := 9) 88 [[],[0],[0,1],[0,1,2],[0,1,2,3],[0,1,2,3],[0,1,2,3,5],[0,1,2,3,4,5,6],[0,1,2,3,4,5,6,7],[0,1,2,3,4,5,6,7,8],[0,1,2,3,4,5,6,7,8,9],[0,1,2,3,4,5,6,7,8],[0,1,2,3,4,5,6,7,8,11],[0,1,2,3,4,5,6,7,8,9,10,11,12],[0,1,2,3,4,5,6,7,8,9,10,11,12,13],[0,1,2,3,4,5,6,7,8],[0,1,2,3,4,5,6,7,8,15],[0,1,2,3,4,5,6,7,8,9,10,11,12,13,14,15,16],[0,1,2,3,4,5,6,7,8,9,10,11,12,13,14,15,16,17],[0,1,2,3,4,5,6,7,8,9,10,11,12,13,14,15,16,17,18]] [64,65,66,67,68,69,70,71,72,73,74,75,76,77,78,79,80,81,82,83] [[],[],[],[],[],[68],[68],[],[],[],[],[73,74],[73,74],[],[],[73,74,75,76,77,78],[73,74,75,76,77,78],[],[],[]] mixedP rfl (by decide +kernel) ?_;refine dF T ?_;refine dL T ?_;refine dV rfl (by exact fs_geqT rfl rfl (by omega)) ?_;refine dM ?_;refine tM ?_;refine tF T ?_;refine tL T ?_;refine dT rfl (by exact fs_mapGet1 mapIB intK rfl rfl (isv_i _) rfl (keys_good _) (good_i _) (keys_nd hnd) hi2 hv) ?_;refine tM ?_;refine dG ?_;refine dG ?_;refine dG ?_;refine dG ?_;refine dG ?_;refine dG ?_;refine dG ?_;refine dG ?_;refine dG ?_;refine dT rfl (by exact fs_pickt rfl rfl) ?_;refine dV rfl (by exact fs_pickt rfl rfl) ?_;refine dw_fin rfl rfl (by ((dsimp only [ln1,ln2,List.append_nil,ln4,ln5,ln6,ln7,ln8,ln9,putAt,putd,allObjs,argEnv,un_v,un_ptr,un_ep,un_pr,un_sl,un_mp,un_row,un_agg,un_tup,un_clo,Nat.zero_add,lnb,Nat.reduceAdd,lnc,lnd];done))) ?_)|(refine rg 10 ?_;refine aV ?_)|refine nZ ?_)
            all_goals first | (exfalso;omega) | exact ⟨.b false,[],⟨rfl,false,rfl,fun h => Bool.noConfusion h⟩,rQ⟩
          · have hk3 : ks.map kI ++ [kI ld] = (ks ++ [ld]).map kI := by simp
            have hv3 : tru ks.length ++ [.b true] = tru (ks ++ [ld]).length := by rw [tru_snoc];simp
            have hnd3 : (ks ++ [ld]).Nodup := by
              rw [List.nodup_append]
              exact ⟨hnd,by simp,fun a ha b hb e => hm (by simp at hb;subst hb;subst e;exact ha)⟩
            have hks3 : ∀ x,x ∈ ks ++ [ld] ↔ x ∈ loadsF st.rb (k + 1) := fun x => by rw [hln,List.mem_append,List.mem_append,hks x]
            generalize hsx : st.sh.getD ld.toNat 0 = y at *
            generalize hkx : s.fl.k.getD x.toNat 0 = z at *
            repeat' (first|refine wS ?_|refine wB ?_|refine wK ?_|refine wR ?_|refine wT ?_|refine wU ?_|(refine wC rfl (fun hb=>?_) (fun hb=>?_)<;>(((try simp only [nm] at hb);try (exfalso;omega))))|(refine rg 3 ?_;refine vV (by exact fs_lssT rfl rfl (by omega)) ?_)|(refine rg 4 ?_;refine vV (by exact ix T rfl (by omega) (robs_len _) q1) ?_;refine lV T ?_;refine vc_n (by exact fs_alloc T rfl) rfl ?_;refine vc_store T rfl rfl rfl rfl rfl rfl (by decide) rfl ?_)|(refine rg 5 ?_;refine flV T ?_;refine vV (by exact fs_lssF rfl rfl (by omega)) ?_;refine mV ?_;refine gK ?_;refine yF T ?_;refine yL T ?_;refine yF T ?_;refine yF T ?_;refine yL T ?_;refine gT ?_;refine qV T ?_;refine yV (by exact fs_geqF rfl rfl (by omega)) ?_;refine pV ?_;refine mV ?_;refine gK ?_;refine yF T ?_;refine yF T ?_;refine yL T ?_;refine yF T ?_;refine yL T ?_;refine yV (by exact ix T rfl (by omega) (ints_len _) q2) ?_;refine yL T ?_;refine yV (by exact fs_eql rfl rfl) ?_;refine pV ?_;refine mV ?_;refine vc_split rfl rfl (fun hb=>?_) (fun hb=>?_)<;>((rw [hb];(try simp only [nm] at hb);try ((exfalso;omega);done)));(all_goals first|(refine gT ?_;(refine fV T ?_);refine gT ?_;(refine lV T ?_);refine gT ?_;(refine fV T ?_);refine gT ?_;(refine lV T ?_);refine gT ?_;(refine qV T ?_);refine gT ?_;(refine vV (by exact fs_subr rfl rfl (by omega) (by omega)) ?_);refine gT ?_;(refine vV (by exact kC (c1)) ?_);refine gT ?_;(refine vV (by exact fs_not rfl) ?_))|(iterate 8 refine gF ?_));(all_goals (refine pV ?_)))|(refine rg 6 ?_;refine aV ?_)|(refine rg 7 ?_;refine flV T ?_;refine vV (by exact kC (c2)) ?_;refine vV (by exact fs_not rfl) ?_;refine mV ?_;refine vc_split rfl rfl (fun hb=>?_) (fun hb=>?_)<;>((rw [hb];(try simp only [nm] at hb);try ((exfalso;omega);done)));(all_goals first|(refine gT ?_;(refine fV T ?_);refine gT ?_;(refine lV T ?_);refine gT ?_;(refine vV (by exact kC (c3)) ?_);refine gT ?_;(refine vV (by exact fs_not rfl) ?_))|(iterate 4 refine gF ?_));(all_goals (refine pV ?_;refine mV ?_));(all_goals first|(refine gK ?_)|(refine vc_split rfl rfl (fun hb=>?_) (fun hb=>?_)<;>((rw [hb];(try simp only [nm] at hb);try ((exfalso;omega);done)))));(all_goals first|(refine gT ?_;(refine fV T ?_);refine gT ?_;(refine lV T ?_);refine gT ?_;(refine vV (by exact kC (c4)) ?_);refine gT ?_;(refine vV (by exact fs_not rfl) ?_))|(iterate 4 refine gF ?_));(all_goals (refine pV ?_)))|(refine rg 8 ?_;refine aV ?_)|(refine aw_draw2k (id := 9) 88 [[],[0],[0,1],[0,1,2],[0,1,2,3],[0,1,2,3],[0,1,2,3,5],[0,1,2,3,4,5,6],[0,1,2,3,4,5,6,7],[0,1,2,3,4,5,6,7,8],[0,1,2,3,4,5,6,7,8,9],[0,1,2,3,4,5,6,7,8],[0,1,2,3,4,5,6,7,8,11],[0,1,2,3,4,5,6,7,8,9,10,11,12],[0,1,2,3,4,5,6,7,8,9,10,11,12,13],[0,1,2,3,4,5,6,7,8],[0,1,2,3,4,5,6,7,8,15],[0,1,2,3,4,5,6,7,8,9,10,11,12,13,14,15,16],[0,1,2,3,4,5,6,7,8,9,10,11,12,13,14,15,16,17],[0,1,2,3,4,5,6,7,8,9,10,11,12,13,14,15,16,17,18]] [64,65,66,67,68,69,70,71,72,73,74,75,76,77,78,79,80,81,82,83] [[],[],[],[],[],[68],[68],[],[],[],[],[73,74],[73,74],[],[],[73,74,75,76,77,78],[73,74,75,76,77,78],[],[],[]] mixedP rfl (by decide +kernel) ?_;refine dF T ?_;refine dL T ?_;refine dV rfl (by exact fs_geqT rfl rfl (by omega)) ?_;refine dM ?_;refine tM ?_;refine tF T ?_;refine tL T ?_;refine dT rfl (by exact fs_mapMiss1 (zA := .b false) mapIB intK zBool (fun _ _ _=>R_v_mk _) rfl rfl (isv_i _) rfl (keys_good _) (good_i _) (fun e=>hm (keys_mem.1 e))) ?_;refine tM ?_;refine tF T ?_;refine tL T ?_;refine tF T ?_;refine tL T ?_;refine dT rfl (by exact ix T rfl (by omega) (ints_len _) q3) ?_;refine tL T ?_;refine tF T ?_;refine tL T ?_;refine dT rfl (by exact fs_neq rfl rfl) ?_;refine dT rfl (by exact fs_pickf rfl rfl) ?_;refine dV rfl (by exact fs_pickt rfl rfl) ?_;refine dw_fin rfl rfl (by ((dsimp only [ln1,ln2,List.append_nil,ln4,ln5,ln6,ln7,ln8,ln9,putAt,putd,allObjs,argEnv,un_v,un_ptr,un_ep,un_pr,un_sl,un_mp,un_row,un_agg,un_tup,un_clo,Nat.zero_add,lnb,Nat.reduceAdd,lnc,lnd];done))) ?_)|(refine rg 10 ?_;refine aV ?_)|(refine rg 11 ?_;refine mV ?_;refine flV T ?_;refine vc_mapNew mapIB intK rfl rfl (isv_i _) rfl rfl (keys_good _) (good_i _) (fun e=>hm (keys_mem.1 e)) ?_)|(refine rg 12 ?_;refine vV (by exact fs_addr rfl rfl (by omega) (by omega)) ?_;refine mV ?_)|refine nZ ?_)
            all_goals first | (exfalso;omega) | exact ⟨.b false,[],⟨rfl,false,rfl,fun h => Bool.noConfusion h⟩,rQ⟩ | skip
            all_goals exact ⟨⟨(k + 1,ks ++ [ld]),hlt,hnd3,hks3,hnx ⟨inF_t.2 hin,by rw [hkx];assumption,w1,by assumption,by assumption,by assumption,fun _ => ⟨fun e => hm ((hks _).2 e),by rw [hsx];assumption⟩⟩⟩,by dsimp only;omega,⟨[0,1,2],rfl,(by (repeat (first | exact trivial | refine ⟨rfl,?_⟩))),⟨.inr rfl,.inr rfl,.inr (sub_map rfl hk3 hv3 (tru_idf _)),trivial⟩,by decide,lt0 _⟩⟩
        · generalize hkx : s.fl.k.getD x.toNat 0 = z at *
          by_cases hm : ld ∈ ks
          · obtain ⟨i,hi,hi2⟩ := keys_at hm
            have hks3 : ∀ x,x ∈ ks ↔ x ∈ loadsF st.rb (k + 1) := fun x => by
              rw [hln,List.mem_append,← hks x]
              exact ⟨.inl,fun h => h.elim id fun e => by rw [List.mem_singleton.1 e];exact hm⟩
            repeat' (first|refine wS ?_|refine wB ?_|refine wK ?_|refine wR ?_|refine wT ?_|refine wU ?_|(refine wC rfl (fun hb=>?_) (fun hb=>?_)<;>(((try simp only [nm] at hb);try (exfalso;omega))))|(refine rg 3 ?_;refine vV (by exact fs_lssT rfl rfl (by omega)) ?_)|(refine rg 4 ?_;refine vV (by exact ix T rfl (by omega) (robs_len _) q1) ?_;refine lV T ?_;refine vc_n (by exact fs_alloc T rfl) rfl ?_;refine vc_store T rfl rfl rfl rfl rfl rfl (by decide) rfl ?_)|(refine rg 5 ?_;refine flV T ?_;refine vV (by exact fs_lssF rfl rfl (by omega)) ?_;refine mV ?_;refine gK ?_;refine yF T ?_;refine yL T ?_;refine yF T ?_;refine yF T ?_;refine yL T ?_;refine gT ?_;refine qV T ?_;refine yV (by exact fs_geqF rfl rfl (by omega)) ?_;refine pV ?_;refine mV ?_;refine gK ?_;refine yF T ?_;refine yF T ?_;refine yL T ?_;refine yF T ?_;refine yL T ?_;refine yV (by exact ix T rfl (by omega) (ints_len _) q2) ?_;refine yL T ?_;refine yV (by exact fs_eql rfl rfl) ?_;refine pV ?_;refine mV ?_;refine vc_split rfl rfl (fun hb=>?_) (fun hb=>?_)<;>((rw [hb];(try simp only [nm] at hb);try ((exfalso;omega);done)));(all_goals first|(refine gT ?_;(refine fV T ?_);refine gT ?_;(refine lV T ?_);refine gT ?_;(refine fV T ?_);refine gT ?_;(refine lV T ?_);refine gT ?_;(refine qV T ?_);refine gT ?_;(refine vV (by exact fs_subr rfl rfl (by omega) (by omega)) ?_);refine gT ?_;(refine vV (by exact kC (c1)) ?_);refine gT ?_;(refine vV (by exact fs_not rfl) ?_))|(iterate 8 refine gF ?_));(all_goals (refine pV ?_)))|(refine rg 6 ?_;refine aV ?_)|(refine rg 7 ?_;refine flV T ?_;refine vV (by exact kC (c2)) ?_;refine vV (by exact fs_not rfl) ?_;refine mV ?_;refine vc_split rfl rfl (fun hb=>?_) (fun hb=>?_)<;>((rw [hb];(try simp only [nm] at hb);try ((exfalso;omega);done)));(all_goals first|(refine gT ?_;(refine fV T ?_);refine gT ?_;(refine lV T ?_);refine gT ?_;(refine vV (by exact kC (c3)) ?_);refine gT ?_;(refine vV (by exact fs_not rfl) ?_))|(iterate 4 refine gF ?_));(all_goals (refine pV ?_;refine mV ?_));(all_goals first|(refine gK ?_)|(refine vc_split rfl rfl (fun hb=>?_) (fun hb=>?_)<;>((rw [hb];(try simp only [nm] at hb);try ((exfalso;omega);done)))));(all_goals first|(refine gT ?_;(refine fV T ?_);refine gT ?_;(refine lV T ?_);refine gT ?_;(refine vV (by exact kC (c4)) ?_);refine gT ?_;(refine vV (by exact fs_not rfl) ?_))|(iterate 4 refine gF ?_));(all_goals (refine pV ?_)))|(refine rg 8 ?_;refine aV ?_)|(refine aw_draw2k (id := 9) 88 [[],[0],[0,1],[0,1,2],[0,1,2,3],[0,1,2,3],[0,1,2,3,5],[0,1,2,3,4,5,6],[0,1,2,3,4,5,6,7],[0,1,2,3,4,5,6,7,8],[0,1,2,3,4,5,6,7,8,9],[0,1,2,3,4,5,6,7,8],[0,1,2,3,4,5,6,7,8,11],[0,1,2,3,4,5,6,7,8,9,10,11,12],[0,1,2,3,4,5,6,7,8,9,10,11,12,13],[0,1,2,3,4,5,6,7,8],[0,1,2,3,4,5,6,7,8,15],[0,1,2,3,4,5,6,7,8,9,10,11,12,13,14,15,16],[0,1,2,3,4,5,6,7,8,9,10,11,12,13,14,15,16,17],[0,1,2,3,4,5,6,7,8,9,10,11,12,13,14,15,16,17,18]] [64,65,66,67,68,69,70,71,72,73,74,75,76,77,78,79,80,81,82,83] [[],[],[],[],[],[68],[68],[],[],[],[],[73,74],[73,74],[],[],[73,74,75,76,77,78],[73,74,75,76,77,78],[],[],[]] mixedP rfl (by decide +kernel) ?_;refine dF T ?_;refine dL T ?_;refine dV rfl (by exact fs_geqF rfl rfl (by omega)) ?_;refine dM ?_;refine dG ?_;refine dG ?_;refine dG ?_;refine dG ?_;refine dG ?_;refine dH ?_;refine dH ?_;refine dH ?_;refine dH ?_;refine dH ?_;refine dH ?_;refine dH ?_;refine dH ?_;refine dH ?_;refine dG ?_;refine dV rfl (by exact fs_pickf rfl rfl) ?_;refine dw_fin rfl rfl (by ((dsimp only [ln1,ln2,List.append_nil,ln4,ln5,ln6,ln7,ln8,ln9,putAt,putd,allObjs,argEnv,un_v,un_ptr,un_ep,un_pr,un_sl,un_mp,un_row,un_agg,un_tup,un_clo,Nat.zero_add,lnb,Nat.reduceAdd,lnc,lnd];done))) ?_)|(refine rg 11 ?_;refine mV ?_;refine flV T ?_;refine vc_mapPut mapIB intK rfl rfl (isv_i _) rfl rfl (keys_good _) (good_i _) (keys_nd hnd) hi2 ?_)|(refine rg 12 ?_;refine vV (by exact fs_addr rfl rfl (by omega) (by omega)) ?_;refine mV ?_)|refine nZ ?_)
            all_goals first | (exfalso;omega) | exact ⟨.b false,[],⟨rfl,false,rfl,fun h => Bool.noConfusion h⟩,rQ⟩ | skip
            all_goals exact ⟨⟨(k + 1,ks),hlt,hnd,hks3,hnx ⟨inF_t.2 hin,by rw [hkx];assumption,w1,by assumption,by assumption,by assumption,fun h => absurd h hl0⟩⟩,by dsimp only;omega,⟨[0,1,2],rfl,(by (repeat (first | exact trivial | refine ⟨rfl,?_⟩))),⟨.inr rfl,.inr rfl,.inr (sub_map rfl rfl (tru_set _ _) (tru_idf _)),trivial⟩,by decide,lt0 _⟩⟩
          · have hk3 : ks.map kI ++ [kI ld] = (ks ++ [ld]).map kI := by simp
            have hv3 : tru ks.length ++ [.b true] = tru (ks ++ [ld]).length := by rw [tru_snoc];simp
            have hnd3 : (ks ++ [ld]).Nodup := by
              rw [List.nodup_append]
              exact ⟨hnd,by simp,fun a ha b hb e => hm (by simp at hb;subst hb;subst e;exact ha)⟩
            have hks3 : ∀ x,x ∈ ks ++ [ld] ↔ x ∈ loadsF st.rb (k + 1) := fun x => by rw [hln,List.mem_append,List.mem_append,hks x]
            repeat' (first|refine wS ?_|refine wB ?_|refine wK ?_|refine wR ?_|refine wT ?_|refine wU ?_|(refine wC rfl (fun hb=>?_) (fun hb=>?_)<;>(((try simp only [nm] at hb);try (exfalso;omega))))|(refine rg 3 ?_;refine vV (by exact fs_lssT rfl rfl (by omega)) ?_)|(refine rg 4 ?_;refine vV (by exact ix T rfl (by omega) (robs_len _) q1) ?_;refine lV T ?_;refine vc_n (by exact fs_alloc T rfl) rfl ?_;refine vc_store T rfl rfl rfl rfl rfl rfl (by decide) rfl ?_)|(refine rg 5 ?_;refine flV T ?_;refine vV (by exact fs_lssF rfl rfl (by omega)) ?_;refine mV ?_;refine gK ?_;refine yF T ?_;refine yL T ?_;refine yF T ?_;refine yF T ?_;refine yL T ?_;refine gT ?_;refine qV T ?_;refine yV (by exact fs_geqF rfl rfl (by omega)) ?_;refine pV ?_;refine mV ?_;refine gK ?_;refine yF T ?_;refine yF T ?_;refine yL T ?_;refine yF T ?_;refine yL T ?_;refine yV (by exact ix T rfl (by omega) (ints_len _) q2) ?_;refine yL T ?_;refine yV (by exact fs_eql rfl rfl) ?_;refine pV ?_;refine mV ?_;refine vc_split rfl rfl (fun hb=>?_) (fun hb=>?_)<;>((rw [hb];(try simp only [nm] at hb);try ((exfalso;omega);done)));(all_goals first|(refine gT ?_;(refine fV T ?_);refine gT ?_;(refine lV T ?_);refine gT ?_;(refine fV T ?_);refine gT ?_;(refine lV T ?_);refine gT ?_;(refine qV T ?_);refine gT ?_;(refine vV (by exact fs_subr rfl rfl (by omega) (by omega)) ?_);refine gT ?_;(refine vV (by exact kC (c1)) ?_);refine gT ?_;(refine vV (by exact fs_not rfl) ?_))|(iterate 8 refine gF ?_));(all_goals (refine pV ?_)))|(refine rg 6 ?_;refine aV ?_)|(refine rg 7 ?_;refine flV T ?_;refine vV (by exact kC (c2)) ?_;refine vV (by exact fs_not rfl) ?_;refine mV ?_;refine vc_split rfl rfl (fun hb=>?_) (fun hb=>?_)<;>((rw [hb];(try simp only [nm] at hb);try ((exfalso;omega);done)));(all_goals first|(refine gT ?_;(refine fV T ?_);refine gT ?_;(refine lV T ?_);refine gT ?_;(refine vV (by exact kC (c3)) ?_);refine gT ?_;(refine vV (by exact fs_not rfl) ?_))|(iterate 4 refine gF ?_));(all_goals (refine pV ?_;refine mV ?_));(all_goals first|(refine gK ?_)|(refine vc_split rfl rfl (fun hb=>?_) (fun hb=>?_)<;>((rw [hb];(try simp only [nm] at hb);try ((exfalso;omega);done)))));(all_goals first|(refine gT ?_;(refine fV T ?_);refine gT ?_;(refine lV T ?_);refine gT ?_;(refine vV (by exact kC (c4)) ?_);refine gT ?_;(refine vV (by exact fs_not rfl) ?_))|(iterate 4 refine gF ?_));(all_goals (refine pV ?_)))|(refine rg 8 ?_;refine aV ?_)|(refine aw_draw2k (id := 9) 88 [[],[0],[0,1],[0,1,2],[0,1,2,3],[0,1,2,3],[0,1,2,3,5],[0,1,2,3,4,5,6],[0,1,2,3,4,5,6,7],[0,1,2,3,4,5,6,7,8],[0,1,2,3,4,5,6,7,8,9],[0,1,2,3,4,5,6,7,8],[0,1,2,3,4,5,6,7,8,11],[0,1,2,3,4,5,6,7,8,9,10,11,12],[0,1,2,3,4,5,6,7,8,9,10,11,12,13],[0,1,2,3,4,5,6,7,8],[0,1,2,3,4,5,6,7,8,15],[0,1,2,3,4,5,6,7,8,9,10,11,12,13,14,15,16],[0,1,2,3,4,5,6,7,8,9,10,11,12,13,14,15,16,17],[0,1,2,3,4,5,6,7,8,9,10,11,12,13,14,15,16,17,18]] [64,65,66,67,68,69,70,71,72,73,74,75,76,77,78,79,80,81,82,83] [[],[],[],[],[],[68],[68],[],[],[],[],[73,74],[73,74],[],[],[73,74,75,76,77,78],[73,74,75,76,77,78],[],[],[]] mixedP rfl (by decide +kernel) ?_;refine dF T ?_;refine dL T ?_;refine dV rfl (by exact fs_geqF rfl rfl (by omega)) ?_;refine dM ?_;refine dG ?_;refine dG ?_;refine dG ?_;refine dG ?_;refine dG ?_;refine dH ?_;refine dH ?_;refine dH ?_;refine dH ?_;refine dH ?_;refine dH ?_;refine dH ?_;refine dH ?_;refine dH ?_;refine dG ?_;refine dV rfl (by exact fs_pickf rfl rfl) ?_;refine dw_fin rfl rfl (by ((dsimp only [ln1,ln2,List.append_nil,ln4,ln5,ln6,ln7,ln8,ln9,putAt,putd,allObjs,argEnv,un_v,un_ptr,un_ep,un_pr,un_sl,un_mp,un_row,un_agg,un_tup,un_clo,Nat.zero_add,lnb,Nat.reduceAdd,lnc,lnd];done))) ?_)|(refine rg 11 ?_;refine mV ?_;refine flV T ?_;refine vc_mapNew mapIB intK rfl rfl (isv_i _) rfl rfl (keys_good _) (good_i _) (fun e=>hm (keys_mem.1 e)) ?_)|(refine rg 12 ?_;refine vV (by exact fs_addr rfl rfl (by omega) (by omega)) ?_;refine mV ?_)|refine nZ ?_)
            all_goals first | (exfalso;omega) | exact ⟨.b false,[],⟨rfl,false,rfl,fun h => Bool.noConfusion h⟩,rQ⟩ | skip
            all_goals exact ⟨⟨(k + 1,ks ++ [ld]),hlt,hnd3,hks3,hnx ⟨inF_t.2 hin,by rw [hkx];assumption,w1,by assumption,by assumption,by assumption,fun h => absurd h hl0⟩⟩,by dsimp only;omega,⟨[0,1,2],rfl,(by (repeat (first | exact trivial | refine ⟨rfl,?_⟩))),⟨.inr rfl,.inr rfl,.inr (sub_map rfl hk3 hv3 (tru_idf _)),trivial⟩,by decide,lt0 _⟩⟩
    · by_cases hx0 : x < 0
      · repeat' (first|refine wS ?_|refine wB ?_|refine wK ?_|refine wR ?_|refine aw_condt rfl ?_|(((refine rg 3 ?_));(all_goals (refine vV (by exact fs_lssT rfl rfl (by omega)) ?_)))|(((refine rg 4 ?_));(all_goals (refine vV (by exact ix T rfl (by omega) (robs_len _) q1) ?_;refine lV T ?_;refine vc_n (by exact fs_alloc T rfl) rfl ?_;refine vc_store T rfl rfl rfl rfl rfl rfl (by decide) rfl ?_)))|(((refine rg 5 ?_));(all_goals (refine fV T ?_;refine lV T ?_;refine vV (by exact fs_lssT rfl rfl (by omega)) ?_;refine mV ?_));(all_goals (refine gK ?_));(all_goals (iterate 7 refine gF ?_));(all_goals ((refine pV ?_);refine mV ?_));(all_goals (refine gK ?_));(all_goals (iterate 8 refine gF ?_));(all_goals ((refine pV ?_);refine mV ?_));(all_goals (refine gK ?_));(all_goals (iterate 8 refine gF ?_));(all_goals (refine pV ?_)))|(((refine rg 6 ?_));(all_goals (refine aV ?_)))|(refine nZ ?_))
        all_goals first | (exfalso;omega) | exact ⟨.b false,[],⟨rfl,false,rfl,fun h => Bool.noConfusion h⟩,rQ⟩
      · repeat' (first|refine wS ?_|refine wB ?_|refine wK ?_|refine wR ?_|refine aw_condt rfl ?_|(((refine rg 3 ?_));(all_goals (refine vV (by exact fs_lssT rfl rfl (by omega)) ?_)))|(((refine rg 4 ?_));(all_goals (refine vV (by exact ix T rfl (by omega) (robs_len _) q1) ?_;refine lV T ?_;refine vc_n (by exact fs_alloc T rfl) rfl ?_;refine vc_store T rfl rfl rfl rfl rfl rfl (by decide) rfl ?_)))|(((refine rg 5 ?_));(all_goals (refine fV T ?_;refine lV T ?_;refine vV (by exact fs_lssF rfl rfl (by omega)) ?_;refine mV ?_));(all_goals (refine gK ?_));(all_goals (refine gT ?_;(refine fV T ?_);refine gT ?_;(refine lV T ?_);refine gT ?_;(refine fV T ?_);refine gT ?_;(refine fV T ?_);refine gT ?_;(refine lV T ?_);refine gT ?_;(refine qV T ?_);refine gT ?_;(refine vV (by exact fs_geqT rfl rfl (by omega)) ?_)));(all_goals ((refine pV ?_);refine mV ?_));(all_goals (refine gK ?_));(all_goals (iterate 8 refine gF ?_));(all_goals ((refine pV ?_);refine mV ?_));(all_goals (refine gK ?_));(all_goals (iterate 8 refine gF ?_));(all_goals (refine pV ?_)))|(((refine rg 6 ?_));(all_goals (refine aV ?_)))|(refine nZ ?_))
        all_goals first | (exfalso;omega) | exact ⟨.b false,[],⟨rfl,false,rfl,fun h => Bool.noConfusion h⟩,rQ⟩
  · repeat' (first|refine wS ?_|refine wR ?_|refine wE ?_|refine aw_condf rfl ?_|(((refine rg 3 ?_));(all_goals (refine vV (by exact fs_lssF rfl rfl (by omega)) ?_)))|(((refine rg 13 ?_));(all_goals (refine aV ?_)))|(refine nZ ?_))
    all_goals first | (exfalso;omega) | exact ⟨_,_,⟨rfl,_,rfl,fun _ j hj => hp j (by omega) hj⟩,rQ⟩
structure StOk (s : Sit) (st : Stt) : Prop where
  tk : withinB st.tick 0 20000 = true
  sl : st.sh.length = s.sh.length
  rl : st.rb.length = s.rb.length
  pl : st.pp.length ≤ 20
  rb : RobOk s.fl st.sh st.rb
  dd : allB (deadB s.fl st.dd) st.dd.length = true
  sk : allB (stkB s.fl st.sk) st.sk.length = true
  sh : ∀ i,i < st.sh.length → carI st.rb i < 0 → onB s.fl (st.sh.getD i 0) [1,2] = true
  pp : ∀ i,i < st.pp.length → onB s.fl (st.pp.getD i 0) [4,5] = true
  cl : (clash (allL st)).2 = false
theorem onB_t {f : Flo} {c : Int} {ks : List Int} (h : onB f c ks = true) : (0 ≤ c ∧ c < f.k.length) ∧ f.k.getD c.toNat 0 ∈ ks := by
  unfold onB at h
  simpa using h
theorem smal_of {s : Sit} {st : Stt} (hk : s.fl.k.length ≤ 300) (h1 : st.sh.length ≤ 1000) (h2 : st.rb.length ≤ 1000) (h3 : st.pp.length ≤ 20) (hr : RobOk s.fl st.sh st.rb)
    (hs : ∀ i,i < st.sh.length → carI st.rb i < 0 → onB s.fl (st.sh.getD i 0) [1,2] = true) (hp : ∀ i,i < st.pp.length → onB s.fl (st.pp.getD i 0) [4,5] = true) : Smal st := by
  have sm : ∀ c : Int,0 ≤ c ∧ c < s.fl.k.length → Sm c := fun c h => by unfold Sm;omega
  refine ⟨h2,h1,by omega,fun r h => ?_,fun c h => ?_,fun c h => ?_⟩
  · obtain ⟨k,hk,rfl⟩ := List.mem_iff_getElem.1 h
    exact sm _ (inF_t.1 (hr k hk).c)
  · obtain ⟨k,hk,rfl⟩ := List.mem_iff_getElem.1 h
    have e : st.sh.getD k 0 = st.sh[k] := by rw [List.getD_eq_getElem?_getD,List.getElem?_eq_getElem hk];rfl
    by_cases hc : carI st.rb k < 0
    · have := (onB_t (hs k hk hc)).1
      rw [e] at this
      exact sm _ this
    · have hc2 : 0 ≤ carF st.rb k 0 := by
        unfold carI at hc
        rw [if_neg (by omega)] at hc
        omega
      obtain ⟨r,hrm,hrl⟩ := (carF_ge st.rb k 0 (Int.le_refl _)).2.2.1 hc2
      obtain ⟨j,hj,rfl⟩ := List.mem_iff_getElem.1 hrm
      have hq := hr j hj
      have := (hq.ld (by omega)).2
      rw [hrl,Int.toNat_natCast,e] at this
      rw [this]
      exact sm _ (inF_t.1 hq.c)
  · obtain ⟨k,hk,rfl⟩ := List.mem_iff_getElem.1 h
    have := (onB_t (hp k hk)).1
    rw [List.getD_eq_getElem?_getD,List.getElem?_eq_getElem hk] at this
    exact sm _ this
theorem right_p (s : Sit) (st : Stt) (hk : s.fl.k.length ≤ 300) (h1 : st.sh.length ≤ 1000) (h2 : st.rb.length ≤ 1000) (h3 : st.pp.length ≤ 1000) (h4 : st.dd.length ≤ 1000) (h5 : st.sk.length ≤ 1000) (h6 : s.sh.length ≤ 1000) (h7 : s.rb.length ≤ 1000) :
    PCall Tryz.prog 8 [.agg (sitA s),.agg (sttA st)] [] (okB (StOk s st)) := by
  have cR := robots_p s st h1 h2
  have cD := rest_c s.fl st h4 h5
  have cT := within_c st.tick 0 20000
  have hsl : (ints st.sh).length = st.sh.length := ints_length _
  have hpl : (ints st.pp).length = st.pp.length := ints_length _
  have hrl : (robsA st.rb).length = st.rb.length := by simp
  have hsl2 : (shsA s.sh).length = s.sh.length := by simp
  have hrl2 : (stksA s.rb).length = s.rb.length := by simp
  generalize hgt : withinB st.tick 0 20000 = b0 at *
  generalize hgd : (allB (deadB s.fl st.dd) st.dd.length && allB (stkB s.fl st.sk) st.sk.length) = b2 at *
  refine pcall T Tryz.func8 rfl rfl rfl rfl ?_
  repeat' (first|refine wS ?_|refine wB ?_|refine wK ?_|refine wR ?_|refine wT ?_|(refine wC rfl (fun hb=>?_) (fun hb=>?_)<;>(((try simp only [nm] at hb);try (exfalso;omega))))|(refine rg 0 ?_;refine vc_n (by exact fs_box rfl rfl) rfl ?_;refine vc_n (by exact fs_box rfl rfl) rfl ?_;refine aV ?_)|(refine rg 1 ?_;refine flV T ?_;refine vV (by exact kC (cT)) ?_;refine vV (by exact fs_not rfl) ?_;refine mV ?_;refine vc_split rfl rfl (fun hb=>?_) (fun hb=>?_)<;>((rw [hb];(try simp only [nm] at hb);try ((exfalso;omega);done)));(all_goals first|(refine gT ?_;(refine fV T ?_);refine gT ?_;(refine lV T ?_);refine gT ?_;(refine qV T ?_);refine gT ?_;(refine fV T ?_);refine gT ?_;(refine lV T ?_);refine gT ?_;(refine qV T ?_);refine gT ?_;(refine vV (by exact fs_neq rfl rfl) ?_))|(iterate 7 refine gF ?_));(all_goals (refine pV ?_;refine mV ?_));(all_goals first|(refine gK ?_)|(refine vc_split rfl rfl (fun hb=>?_) (fun hb=>?_)<;>((rw [hb];(try simp only [nm] at hb);try ((exfalso;omega);done)))));(all_goals first|(refine gT ?_;(refine fV T ?_);refine gT ?_;(refine lV T ?_);refine gT ?_;(refine qV T ?_);refine gT ?_;(refine fV T ?_);refine gT ?_;(refine lV T ?_);refine gT ?_;(refine qV T ?_);refine gT ?_;(refine vV (by exact fs_neq rfl rfl) ?_))|(iterate 7 refine gF ?_));(all_goals (refine pV ?_;refine mV ?_));(all_goals first|(refine gK ?_)|(refine vc_split rfl rfl (fun hb=>?_) (fun hb=>?_)<;>((rw [hb];(try simp only [nm] at hb);try ((exfalso;omega);done)))));(all_goals first|(refine gT ?_;(refine fV T ?_);refine gT ?_;(refine lV T ?_);refine gT ?_;(refine qV T ?_);refine gT ?_;(refine vV (by exact fs_gtr rfl rfl) ?_))|(iterate 4 refine gF ?_));(all_goals (refine pV ?_;refine mV ?_));(all_goals first|(refine gK ?_)|(refine vc_split rfl rfl (fun hb=>?_) (fun hb=>?_)<;>((rw [hb];(try simp only [nm] at hb);try ((exfalso;omega);done)))));(all_goals first|(refine gT ?_;(refine lV T ?_);refine gT ?_;(refine lV T ?_);refine gT ?_;(refine vc_pcallb rfl rfl (cR) (.cons (view_self _ rfl) (.cons (view_self _ rfl) .nil)) (by rintro _ ⟨_,rfl,_⟩;rfl) rfl ?_;rintro _ ⟨b1,rfl,hcr⟩;dsimp only [putd];cases b1))|(iterate 3 refine gF ?_));(all_goals first|(refine gT ?_;(refine vV (by exact fs_not rfl) ?_))|(refine gF ?_));(all_goals (refine pV ?_;refine mV ?_;refine gK ?_));(all_goals first|(refine gT ?_;(refine fV T ?_);refine gT ?_;(refine lV T ?_);refine gT ?_;(refine lV T ?_);refine gT ?_;(refine vV (by exact kC (cD)) ?_);refine gT ?_;(refine vV (by exact fs_not rfl) ?_))|(iterate 5 refine gF ?_));(all_goals (refine pV ?_)))|(refine rg 2 ?_;refine aV ?_)|(refine rg 3 ?_;refine flV T ?_;refine qV T ?_;refine mV ?_)|refine nZ ?_)
  all_goals first | (exfalso;omega) | exact ⟨.b false,[],⟨rfl,false,rfl,fun h => Bool.noConfusion h⟩,rQ⟩ | skip
  all_goals
    refine aw_loop (X := {k : Nat // k ≤ st.sh.length ∧ ∀ i,i < k → carI st.rb i < 0 → onB s.fl (st.sh.getD i 0) [1,2] = true}) (fun k => [(2,.ptr 0 0),(3,.ptr 1 0),(53,.rowE (ints st.sh) 1),(54,.i st.sh.length),(55,.i k.1)]) (fun _ => [.cells (sitA s),.cells (sttA st)]) (fun k => st.sh.length - k.1) ⟨0,by omega,nz0⟩ ⟨[0,1],rfl,⟨rfl,rfl,rfl,congrArg (fun n : Nat => some (AV.i n)) hsl,rfl,trivial⟩,⟨.inr rfl,.inr rfl,trivial⟩,by decide,lt0 _⟩ ?_
    rintro ⟨k,hk1,hsh⟩
    dsimp only
    by_cases hlt : k < st.sh.length
    · have q1 := ints_gI (l := st.sh) (j := (k : Int)) 0 hlt rfl
      have cC := carrier_c st k (by omega)
      have cO := on_c s.fl (st.sh.getD k 0) [1,2] (by simp)
      have hnx : (carI st.rb k < 0 → onB s.fl (st.sh.getD k 0) [1,2] = true) → ∀ i,i < k + 1 → carI st.rb i < 0 → onB s.fl (st.sh.getD i 0) [1,2] = true := fun h i hi => by
        by_cases e : i = k
        · subst e;exact h
        · exact hsh i (by omega)
      generalize hgo : onB s.fl (st.sh.getD k 0) [1,2] = o at *
      generalize st.sh.getD k 0 = c at *
      by_cases hca : carI st.rb k < 0
      · cases o with
        | false =>
          repeat' (first|refine wS ?_|refine wB ?_|refine wK ?_|refine wR ?_|refine wT ?_|(refine rg 4 ?_;refine vV (by exact fs_lssT rfl rfl (by omega)) ?_)|(refine rg 5 ?_;refine mV ?_;refine vV (by exact ix T rfl (by omega) (ints_len _) q1) ?_;refine lV T ?_;refine aaV ?_)|(refine rg 6 ?_;refine lV T ?_;refine mV ?_;refine vV (by exact kC (cC)) ?_;refine vV (by exact fs_lssT rfl rfl (by omega)) ?_;refine mV ?_;refine gK ?_;refine yF T ?_;refine yL T ?_;refine yM ?_;refine gT ?_;refine vc_n (by exact fs_buildSlice T rfl rfl (by decide) (by decide) rfl rfl rfl) rfl ?_;refine yV (by exact fs_callb0 rfl rfl cO (.cons (.agg (.cons (.v _) (.cons (.v _) (.cons (.v _) (.cons (.row _ _ _) (.cons (.row _ _ _) .nil)))))) (.cons (.v _) (.cons (view_ints rfl rfl) .nil))) rfl rfl) ?_;refine yV (by exact fs_not rfl) ?_;refine pV ?_)|(refine rg 7 ?_;refine aV ?_)|refine nZ ?_)
          all_goals first | (exfalso;omega) | exact ⟨.b false,[],⟨rfl,false,rfl,fun h => Bool.noConfusion h⟩,rQ⟩
        | true =>
          repeat' (first|refine wS ?_|refine wB ?_|refine wK ?_|refine wT ?_|refine wU ?_|(refine rg 4 ?_;refine vV (by exact fs_lssT rfl rfl (by omega)) ?_)|(refine rg 5 ?_;refine mV ?_;refine vV (by exact ix T rfl (by omega) (ints_len _) q1) ?_;refine lV T ?_;refine aaV ?_)|(refine rg 6 ?_;refine lV T ?_;refine mV ?_;refine vV (by exact kC (cC)) ?_;refine vV (by exact fs_lssT rfl rfl (by omega)) ?_;refine mV ?_;refine gK ?_;refine yF T ?_;refine yL T ?_;refine yM ?_;refine gT ?_;refine vc_n (by exact fs_buildSlice T rfl rfl (by decide) (by decide) rfl rfl rfl) rfl ?_;refine yV (by exact fs_callb0 rfl rfl cO (.cons (.agg (.cons (.v _) (.cons (.v _) (.cons (.v _) (.cons (.row _ _ _) (.cons (.row _ _ _) .nil)))))) (.cons (.v _) (.cons (view_ints rfl rfl) .nil))) rfl rfl) ?_;refine yV (by exact fs_not rfl) ?_;refine pV ?_)|(refine rg 8 ?_;refine vV (by exact fs_addr rfl rfl (by omega) (by omega)) ?_;refine mV ?_)|refine nZ ?_)
          all_goals first | (exfalso;omega) | exact ⟨⟨k + 1,hlt,hnx fun _ => rfl⟩,by dsimp only;omega,by (refine ⟨[0,1],rfl,(by (repeat (first | exact trivial | refine ⟨rfl,?_⟩))),(by (repeat (first | exact trivial | refine ⟨Or.inl rfl,?_⟩ | refine ⟨Or.inr rfl,?_⟩))),by decide,(nz0)⟩)⟩
      · repeat' (first|refine wS ?_|refine wB ?_|refine wK ?_|refine aw_condt rfl ?_|refine aw_condf rfl ?_|(((refine rg 4 ?_));(all_goals (refine vV (by exact fs_lssT rfl rfl (by omega)) ?_)))|(((refine rg 5 ?_));(all_goals (refine mV ?_;refine vV (by exact ix T rfl (by omega) (ints_len _) q1) ?_;refine lV T ?_;refine aV ?_;refine aV ?_)))|(((refine rg 6 ?_));(all_goals (refine lV T ?_;refine mV ?_;refine vV (by exact kC (cC)) ?_;refine vV (by exact fs_lssF rfl rfl (by omega)) ?_;refine mV ?_));(all_goals (refine gK ?_));(all_goals (iterate 6 refine gF ?_));(all_goals (refine pV ?_)))|(((refine rg 8 ?_));(all_goals (refine vV (by exact fs_addr rfl rfl (by omega) (by omega)) ?_;refine mV ?_)))|(refine nZ ?_))
        all_goals first | (exfalso;omega) | exact ⟨⟨k + 1,hlt,hnx fun h => absurd h hca⟩,by dsimp only;omega,by (refine ⟨[0,1],rfl,(by (repeat (first | exact trivial | refine ⟨rfl,?_⟩))),(by (repeat (first | exact trivial | refine ⟨Or.inl rfl,?_⟩ | refine ⟨Or.inr rfl,?_⟩))),by decide,(nz0)⟩)⟩
    · obtain rfl : k = st.sh.length := by omega
      clear hk1 hlt
      repeat' (first|refine wS ?_|refine wB ?_|refine wE ?_|refine wU ?_|(refine rg 4 ?_;refine vV (by exact fs_lssF rfl rfl (by omega)) ?_)|(refine rg 9 ?_;refine flV T ?_;refine qV T ?_;refine mV ?_)|refine nZ ?_)
      all_goals try (exfalso;omega)
      refine aw_loop (X := {k : Nat // k ≤ st.pp.length ∧ ∀ i,i < k → onB s.fl (st.pp.getD i 0) [4,5] = true}) (fun k => [(2,.ptr 0 0),(3,.ptr 1 0),(74,.rowE (ints st.pp) 1),(75,.i st.pp.length),(76,.i k.1)]) (fun _ => [.cells (sitA s),.cells (sttA st)]) (fun k => st.pp.length - k.1) ⟨0,by omega,nz0⟩ ⟨[0,1],rfl,⟨rfl,rfl,rfl,congrArg (fun n : Nat => some (AV.i n)) hpl,rfl,trivial⟩,⟨.inr rfl,.inr rfl,trivial⟩,by decide,lt0 _⟩ ?_
      rintro ⟨k,hk1,hpp⟩
      dsimp only
      by_cases hlt : k < st.pp.length
      · have q1 := ints_gI (l := st.pp) (j := (k : Int)) 0 hlt rfl
        have cO := on_c s.fl (st.pp.getD k 0) [4,5] (by simp)
        have hnx : onB s.fl (st.pp.getD k 0) [4,5] = true → ∀ i,i < k + 1 → onB s.fl (st.pp.getD i 0) [4,5] = true := fun h i hi => by
          by_cases e : i = k
          · subst e;exact h
          · exact hpp i (by omega)
        generalize hgo : onB s.fl (st.pp.getD k 0) [4,5] = o at *
        generalize st.pp.getD k 0 = c at *
        cases o with
        | false =>
          repeat' (first|refine wS ?_|refine wB ?_|refine wK ?_|refine wR ?_|refine wT ?_|(refine rg 10 ?_;refine vV (by exact fs_lssT rfl rfl (by omega)) ?_)|(refine rg 11 ?_;refine vV (by exact ix T rfl (by omega) (ints_len _) q1) ?_;refine lV T ?_;refine aV ?_)|(refine rg 12 ?_;refine flV T ?_;refine mV ?_;refine vc_n (by exact fs_buildSlice T rfl rfl (by decide) (by decide) rfl rfl rfl) rfl ?_;refine vV (by exact fs_callb0 rfl rfl cO (.cons (.agg (.cons (.v _) (.cons (.v _) (.cons (.v _) (.cons (.row _ _ _) (.cons (.row _ _ _) .nil)))))) (.cons (.v _) (.cons (view_ints rfl rfl) .nil))) rfl rfl) ?_;refine vV (by exact fs_not rfl) ?_)|(refine rg 13 ?_;refine aV ?_)|refine nZ ?_)
          all_goals first | (exfalso;omega) | exact ⟨.b false,[],⟨rfl,false,rfl,fun h => Bool.noConfusion h⟩,rQ⟩
        | true =>
          repeat' (first|refine wS ?_|refine wB ?_|refine wK ?_|refine wT ?_|refine wU ?_|(refine rg 10 ?_;refine vV (by exact fs_lssT rfl rfl (by omega)) ?_)|(refine rg 11 ?_;refine vV (by exact ix T rfl (by omega) (ints_len _) q1) ?_;refine lV T ?_;refine aV ?_)|(refine rg 12 ?_;refine flV T ?_;refine mV ?_;refine vc_n (by exact fs_buildSlice T rfl rfl (by decide) (by decide) rfl rfl rfl) rfl ?_;refine vV (by exact fs_callb0 rfl rfl cO (.cons (.agg (.cons (.v _) (.cons (.v _) (.cons (.v _) (.cons (.row _ _ _) (.cons (.row _ _ _) .nil)))))) (.cons (.v _) (.cons (view_ints rfl rfl) .nil))) rfl rfl) ?_;refine vV (by exact fs_not rfl) ?_)|(refine rg 14 ?_;refine vV (by exact fs_addr rfl rfl (by omega) (by omega)) ?_;refine mV ?_)|refine nZ ?_)
          all_goals first | (exfalso;omega) | exact ⟨⟨k + 1,hlt,hnx rfl⟩,by dsimp only;omega,by (refine ⟨[0,1],rfl,(by (repeat (first | exact trivial | refine ⟨rfl,?_⟩))),(by (repeat (first | exact trivial | refine ⟨Or.inl rfl,?_⟩ | refine ⟨Or.inr rfl,?_⟩))),by decide,(nz0)⟩)⟩
      · obtain rfl : k = st.pp.length := by omega
        have hsm : Smal st := smal_of (s := s) hk h1 h2 (by omega) (hcr rfl) hsh hpp
        have cA := all_c st hsm
        have cL := clash_c (allL st) (by have := allL_len hsm;omega)
        generalize hgy : (clash (allL st)).2 = y at *
        generalize (clash (allL st)).1 = x at *
        repeat' (first|refine wS ?_|refine wR ?_|refine wE ?_|refine wU ?_|(refine rg 10 ?_;refine vV (by exact fs_lssF rfl rfl (by omega)) ?_)|(refine rg 15 ?_;refine lV T ?_;refine vc_n (by exact fs_call rfl rfl cA (.inr ⟨rfl,rfl,by simp⟩)) rfl ?_;refine vc_frz (es := ints (allL st)) 89 rfl (congrArg (fun x=>some (AB.arr x 1)) (ints_map _ _)) (ints_length _).symm (ints_idfF _) ?_;refine vV (by exact kC (cL)) ?_;refine mV ?_;refine xV ?_;refine xV ?_;refine aaV ?_)|(refine rg 16 ?_;refine mV ?_;refine vV (by exact fs_not rfl) ?_;refine aV ?_)|refine nZ ?_)
        all_goals try (exfalso;omega)
        cases y with
        | true => exact ⟨.b false,[],⟨rfl,false,rfl,fun h => Bool.noConfusion h⟩,rQ⟩
        | false =>
          have e0 : b0 = true := by assumption
          have e2 : b2 = true := by assumption
          rw [e2,Bool.and_eq_true] at hgd
          exact ⟨_,_,⟨rfl,_,rfl,fun _ => ⟨hgt.trans e0,by omega,by omega,by omega,hcr rfl,hgd.1,hgd.2,hsh,hpp,hgy⟩⟩,rQ⟩
theorem few11_p (s : Sit) (n m : Nat) (hn : n ≤ 1000) (hm : m ≤ 1000) :
    PCall Tryz.prog 23 [.agg (sitA s),.i n,.i m] [] (okB (FewP s n m)) := by
  have cF := few_c s.fl n
  have hzl : (zonsA s.zn).length = s.zn.length := by simp
  have hal : (apsA s.ap).length = s.ap.length := by simp
  have hsl : (shsA s.sh).length = s.sh.length := by simp
  have hrl : (stksA s.rb).length = s.rb.length := by simp
  refine pcall T Tryz.func23 rfl rfl rfl rfl ?_
  repeat' (first|refine wS ?_|refine wB ?_|(refine rg 0 ?_;refine vc_n (by exact fs_box rfl rfl) rfl ?_;refine aV ?_)|(refine rg 1 ?_;refine aV ?_)|refine nZ ?_)
  refine aw_loop (X := {k : Nat // k ≤ m + 1 ∧ k ≤ s.zn.length ∧ ∀ (j : Nat) (hj : j < k) (hl : j < s.zn.length),(s.zn[j]).2.1.length ≤ n ∧ (s.zn[j]).2.2.2.2.length ≤ 20 ∧ (s.zn[j]).1.length ≤ 40}) (fun k => [(1,.i n),(2,.i m),(3,.ptr 0 0),(7,.i k.1)]) (fun _ => [.cells (sitA s)]) (fun k => m + 1 - k.1) ⟨0,by omega,by omega,fun j hj => absurd hj (Nat.not_lt_zero _)⟩ (by (refine ⟨[0],rfl,(by (repeat (first | exact trivial | refine ⟨rfl,?_⟩))),(by (repeat (first | exact trivial | refine ⟨Or.inl rfl,?_⟩ | refine ⟨Or.inr rfl,?_⟩))),by decide,(nz0)⟩)) ?_
  rintro ⟨k,hk1,hk2,hz⟩
  dsimp only
  by_cases hlt : k < s.zn.length ∧ k ≤ m
  · obtain ⟨hlt,hlm⟩ := hlt
    have q1 := zons_get hlt
    have hnx : ((s.zn[k]).2.1.length ≤ n ∧ (s.zn[k]).2.2.2.2.length ≤ 20 ∧ (s.zn[k]).1.length ≤ 40) → ∀ (j : Nat) (hj : j < k + 1) (hl : j < s.zn.length),(s.zn[j]).2.1.length ≤ n ∧ (s.zn[j]).2.2.2.2.length ≤ 20 ∧ (s.zn[j]).1.length ≤ 40 := fun h j hj hl => by
      by_cases e : j = k
      · subst e;exact h
      · exact hz j (by omega) hl
    generalize s.zn[k] = z at *
    have hcl : (ints z.2.1).length = z.2.1.length := ints_length _
    have hul : (stksA z.2.2.2.2).length = z.2.2.2.2.length := by simp
    repeat' (first|refine wS ?_|refine wB ?_|refine wK ?_|refine wR ?_|refine wT ?_|(refine wC rfl (fun hb=>?_) (fun hb=>?_)<;>(((try simp only [nm] at hb);try (exfalso;omega))))|(refine rg 2 ?_;refine mV ?_;refine flV T ?_;refine vV (by exact fs_lenRow T rfl rfl) ?_;refine vV (by exact fs_lss rfl rfl) ?_;refine mV ?_;refine vc_split rfl rfl (fun hb=>?_) (fun hb=>?_)<;>((rw [hb];(try simp only [nm] at hb);try ((exfalso;omega);done)));(all_goals (refine yM ?_;refine yM ?_;refine yV (by exact fs_leq rfl rfl) ?_;refine pV ?_)))|(refine rg 4 ?_;refine flV T ?_;refine mV ?_;refine vV (by exact ix T rfl (by omega) (zons_len _) q1) ?_;refine flV T ?_;refine vV (by exact fs_lenRow T rfl rfl) ?_;refine mV ?_;refine vV (by exact fs_gtr rfl rfl) ?_;refine mV ?_;refine vc_split rfl rfl (fun hb=>?_) (fun hb=>?_)<;>((rw [hb];(try simp only [nm] at hb);try ((exfalso;omega);done)));(all_goals first|(refine gT ?_;(refine fV T ?_);refine gT ?_;(refine lV T ?_);refine gT ?_;(refine mV ?_);refine gT ?_;(refine vV (by exact ix T rfl (by omega) (zons_len _) q1) ?_);refine gT ?_;(refine fV T ?_);refine gT ?_;(refine lV T ?_);refine gT ?_;(refine vV (by exact fs_lenRow T rfl rfl) ?_);refine gT ?_;(refine vV (by exact fs_gtr rfl rfl) ?_))|(iterate 8 refine gF ?_));(all_goals (refine pV ?_;refine mV ?_));(all_goals first|(refine gK ?_)|(refine vc_split rfl rfl (fun hb=>?_) (fun hb=>?_)<;>((rw [hb];(try simp only [nm] at hb);try ((exfalso;omega);done)))));(all_goals first|(refine gT ?_;(refine fV T ?_);refine gT ?_;(refine lV T ?_);refine gT ?_;(refine mV ?_);refine gT ?_;(refine vV (by exact ix T rfl (by omega) (zons_len _) q1) ?_);refine gT ?_;(refine fV T ?_);refine gT ?_;(refine lV T ?_);refine gT ?_;(refine vV (by exact fs_lenS strT rfl) ?_);refine gT ?_;(refine vV (by exact fs_gtr rfl rfl) ?_))|(iterate 8 refine gF ?_));(all_goals (refine pV ?_)))|(refine rg 5 ?_;refine aV ?_)|(refine rg 3 ?_;refine mV ?_;refine vV (by exact fs_addr rfl rfl (by omega) (by omega)) ?_;refine aV ?_)|refine nZ ?_)
    all_goals first | (exfalso;omega) | exact ⟨.b false,[],⟨rfl,false,rfl,fun h => Bool.noConfusion h⟩,rQ⟩ | exact ⟨⟨k + 1,by omega,by omega,hnx ⟨by omega,by omega,by omega⟩⟩,by dsimp only;omega,by (refine ⟨[0],rfl,(by (repeat (first | exact trivial | refine ⟨rfl,?_⟩))),(by (repeat (first | exact trivial | refine ⟨Or.inl rfl,?_⟩ | refine ⟨Or.inr rfl,?_⟩))),by decide,(nz0)⟩)⟩
  · repeat' (first|refine wS ?_|refine wB ?_|refine wE ?_|refine aw_condf rfl ?_|(refine wC rfl (fun hb => ?_) (fun hb => ?_) <;> (((try simp only [nm] at hb);try (exfalso;omega))))|(((refine rg 2 ?_));(all_goals (refine mV ?_;refine fV T ?_;refine lV T ?_;(refine qV T ?_);refine vV (by exact fs_lss rfl rfl) ?_;refine mV ?_));(all_goals (refine vc_split rfl rfl (fun hb => ?_) (fun hb => ?_) <;> ((rw [hb];(try simp only [nm] at hb);try ((exfalso;omega);done)))));(all_goals first|(refine gT ?_;(refine mV ?_);refine gT ?_;(refine mV ?_);refine gT ?_;(refine vV (by exact fs_leq rfl rfl) ?_))|(iterate 3 refine gF ?_));(all_goals (refine pV ?_)))|(((refine rg 6 ?_));(all_goals (refine aV ?_)))|(refine nZ ?_))
    all_goals first | (exfalso;omega) | skip
    all_goals
      have hx1 := hlt
      clear hk1 hlt
      refine aw_loop (X := {k : Nat // k ≤ m + 1 ∧ k ≤ s.ap.length ∧ ∀ (j : Nat) (hj : j < k) (hl : j < s.ap.length),(s.ap[j]).1.length ≤ 40 ∧ (s.ap[j]).2.length ≤ 40}) (fun k => [(1,.i n),(2,.i m),(3,.ptr 0 0),(8,.i k.1)]) (fun _ => [.cells (sitA s)]) (fun k => m + 1 - k.1) ⟨0,by omega,by omega,fun j hj => absurd hj (Nat.not_lt_zero _)⟩ (by (refine ⟨[0],rfl,(by (repeat (first | exact trivial | refine ⟨rfl,?_⟩))),(by (repeat (first | exact trivial | refine ⟨Or.inl rfl,?_⟩ | refine ⟨Or.inr rfl,?_⟩))),by decide,(nz0)⟩)) ?_
      rintro ⟨k2,hk3,hk4,ha⟩
      dsimp only
      by_cases hlt : k2 < s.ap.length ∧ k2 ≤ m
      · obtain ⟨hlt,hlm⟩ := hlt
        have q1 := aps_get hlt
        have hnx : ((s.ap[k2]).1.length ≤ 40 ∧ (s.ap[k2]).2.length ≤ 40) → ∀ (j : Nat) (hj : j < k2 + 1) (hl : j < s.ap.length),(s.ap[j]).1.length ≤ 40 ∧ (s.ap[j]).2.length ≤ 40 := fun h j hj hl => by
          by_cases e : j = k2
          · subst e;exact h
          · exact ha j (by omega) hl
        generalize s.ap[k2] = z at *
        repeat' (first|refine wS ?_|refine wB ?_|refine wK ?_|refine wR ?_|refine wT ?_|(refine wC rfl (fun hb=>?_) (fun hb=>?_)<;>(((try simp only [nm] at hb);try (exfalso;omega))))|(refine rg 7 ?_;refine mV ?_;refine flV T ?_;refine vV (by exact fs_lenRow T rfl rfl) ?_;refine vV (by exact fs_lss rfl rfl) ?_;refine mV ?_;refine vc_split rfl rfl (fun hb=>?_) (fun hb=>?_)<;>((rw [hb];(try simp only [nm] at hb);try ((exfalso;omega);done)));(all_goals (refine yM ?_;refine yM ?_;refine yV (by exact fs_leq rfl rfl) ?_;refine pV ?_)))|(refine rg 9 ?_;refine flV T ?_;refine mV ?_;refine vV (by exact ix T rfl (by omega) (aps_len _) q1) ?_;refine flV T ?_;refine vV (by exact fs_lenS strT rfl) ?_;refine vV (by exact fs_gtr rfl rfl) ?_;refine mV ?_;refine vc_split rfl rfl (fun hb=>?_) (fun hb=>?_)<;>((rw [hb];(try simp only [nm] at hb);try ((exfalso;omega);done)));(all_goals first|(refine gT ?_;(refine fV T ?_);refine gT ?_;(refine lV T ?_);refine gT ?_;(refine mV ?_);refine gT ?_;(refine vV (by exact ix T rfl (by omega) (aps_len _) q1) ?_);refine gT ?_;(refine fV T ?_);refine gT ?_;(refine lV T ?_);refine gT ?_;(refine vV (by exact fs_lenS strT rfl) ?_);refine gT ?_;(refine vV (by exact fs_gtr rfl rfl) ?_))|(iterate 8 refine gF ?_));(all_goals (refine pV ?_)))|(refine rg 10 ?_;refine aV ?_)|(refine rg 8 ?_;refine mV ?_;refine vV (by exact fs_addr rfl rfl (by omega) (by omega)) ?_;refine aV ?_)|refine nZ ?_)
        all_goals first | (exfalso;omega) | exact ⟨.b false,[],⟨rfl,false,rfl,fun h => Bool.noConfusion h⟩,rQ⟩ | exact ⟨⟨k2 + 1,by omega,by omega,hnx ⟨by omega,by omega⟩⟩,by dsimp only;omega,by (refine ⟨[0],rfl,(by (repeat (first | exact trivial | refine ⟨rfl,?_⟩))),(by (repeat (first | exact trivial | refine ⟨Or.inl rfl,?_⟩ | refine ⟨Or.inr rfl,?_⟩))),by decide,(nz0)⟩)⟩
      · repeat' (first|refine wS ?_|refine wB ?_|refine wE ?_|refine aw_condf rfl ?_|(refine wC rfl (fun hb => ?_) (fun hb => ?_) <;> (((try simp only [nm] at hb);try (exfalso;omega))))|(((refine rg 7 ?_));(all_goals (refine mV ?_;refine fV T ?_;refine lV T ?_;(refine qV T ?_);refine vV (by exact fs_lss rfl rfl) ?_;refine mV ?_));(all_goals (refine vc_split rfl rfl (fun hb => ?_) (fun hb => ?_) <;> ((rw [hb];(try simp only [nm] at hb);try ((exfalso;omega);done)))));(all_goals first|(refine gT ?_;(refine mV ?_);refine gT ?_;(refine mV ?_);refine gT ?_;(refine vV (by exact fs_leq rfl rfl) ?_))|(iterate 3 refine gF ?_));(all_goals (refine pV ?_)))|(((refine rg 11 ?_));(all_goals (refine aV ?_)))|(refine nZ ?_))
        all_goals first | (exfalso;omega) | skip
        all_goals
          have hx2 := hlt
          clear hk3 hlt
          refine aw_loop (X := {k : Nat // k ≤ m + 1 ∧ k ≤ s.sh.length ∧ ∀ (j : Nat) (hj : j < k) (hl : j < s.sh.length),(s.sh[j]).2.length ≤ 40}) (fun k => [(1,.i n),(2,.i m),(3,.ptr 0 0),(9,.i k.1)]) (fun _ => [.cells (sitA s)]) (fun k => m + 1 - k.1) ⟨0,by omega,by omega,fun j hj => absurd hj (Nat.not_lt_zero _)⟩ (by (refine ⟨[0],rfl,(by (repeat (first | exact trivial | refine ⟨rfl,?_⟩))),(by (repeat (first | exact trivial | refine ⟨Or.inl rfl,?_⟩ | refine ⟨Or.inr rfl,?_⟩))),by decide,(nz0)⟩)) ?_
          rintro ⟨k3,hk5,hk6,hs⟩
          dsimp only
          by_cases hlt : k3 < s.sh.length ∧ k3 ≤ m
          · obtain ⟨hlt,hlm⟩ := hlt
            have q1 := shs_gI hlt
            have hnx : (s.sh[k3]).2.length ≤ 40 → ∀ (j : Nat) (hj : j < k3 + 1) (hl : j < s.sh.length),(s.sh[j]).2.length ≤ 40 := fun h j hj hl => by
              by_cases e : j = k3
              · subst e;exact h
              · exact hs j (by omega) hl
            generalize s.sh[k3] = z at *
            repeat' (first|refine wS ?_|refine wB ?_|refine wK ?_|refine wR ?_|(refine wC rfl (fun hb=>?_) (fun hb=>?_)<;>(((try simp only [nm] at hb);try (exfalso;omega))))|(refine rg 12 ?_;refine mV ?_;refine flV T ?_;refine vV (by exact fs_lenRow T rfl rfl) ?_;refine vV (by exact fs_lss rfl rfl) ?_;refine mV ?_;refine vc_split rfl rfl (fun hb=>?_) (fun hb=>?_)<;>((rw [hb];(try simp only [nm] at hb);try ((exfalso;omega);done)));(all_goals (refine yM ?_;refine yM ?_;refine yV (by exact fs_leq rfl rfl) ?_;refine pV ?_)))|(refine rg 14 ?_;refine flV T ?_;refine mV ?_;refine vV (by exact ix T rfl (by omega) (shs_len _) q1) ?_;refine flV T ?_;refine vV (by exact fs_lenS strT rfl) ?_;refine vV (by exact fs_gtr rfl rfl) ?_)|(refine rg 15 ?_;refine aV ?_)|(refine rg 13 ?_;refine mV ?_;refine vV (by exact fs_addr rfl rfl (by omega) (by omega)) ?_;refine aV ?_)|refine nZ ?_)
            all_goals first | (exfalso;omega) | exact ⟨.b false,[],⟨rfl,false,rfl,fun h => Bool.noConfusion h⟩,rQ⟩ | exact ⟨⟨k3 + 1,by omega,by omega,hnx (by omega)⟩,by dsimp only;omega,by (refine ⟨[0],rfl,(by (repeat (first | exact trivial | refine ⟨rfl,?_⟩))),(by (repeat (first | exact trivial | refine ⟨Or.inl rfl,?_⟩ | refine ⟨Or.inr rfl,?_⟩))),by decide,(nz0)⟩)⟩
          · skip
            by_cases hF : FewP s n m
            · have e : (decide ((s.fl.k.length : Int) ≤ n) && decide ((s.fl.o.length : Int) ≤ n)) = true := by have := hF.kl;have := hF.ol;simp;omega
              rw [e] at cF
              have f1 := hF.zl
              have f2 := hF.al
              have f3 := hF.sl
              have f4 := hF.rl
              repeat' (first|refine wS ?_|refine wR ?_|refine wE ?_|refine wU ?_|(refine rg 12 ?_;refine mV ?_;refine flV T ?_;refine qV T ?_;refine vV (by exact fs_lss rfl rfl) ?_;refine mV ?_;refine vc_split rfl rfl (fun hb=>?_) (fun hb=>?_)<;>((rw [hb];(try simp only [nm] at hb);try ((exfalso;omega);done)));(all_goals ((iterate 3 refine gF ?_);refine pV ?_)))|(refine rg 16 ?_;refine flV T ?_;refine mV ?_;refine vV (by exact kC (cF)) ?_;refine mV ?_;refine gK ?_;refine yF T ?_;refine yL T ?_;refine gT ?_;refine qV T ?_;refine yM ?_;refine yV (by exact fs_leqT rfl rfl (by omega)) ?_;refine pV ?_;refine mV ?_;refine gK ?_;refine yF T ?_;refine yL T ?_;refine gT ?_;refine qV T ?_;refine yM ?_;refine yV (by exact fs_leqT rfl rfl (by omega)) ?_;refine pV ?_;refine mV ?_;refine gK ?_;refine yF T ?_;refine yL T ?_;refine gT ?_;refine qV T ?_;refine yM ?_;refine yV (by exact fs_leqT rfl rfl (by omega)) ?_;refine pV ?_;refine mV ?_;refine gK ?_;refine yF T ?_;refine yL T ?_;refine gT ?_;refine qV T ?_;refine yM ?_;refine yV (by exact fs_leqT rfl rfl (by omega)) ?_;refine pV ?_;refine aV ?_)|refine nZ ?_)
              all_goals first | (exfalso;omega) | exact ⟨.b true,[],⟨rfl,true,rfl,fun _ => hF⟩,rQ⟩
            · generalize hgf : (decide ((s.fl.k.length : Int) ≤ n) && decide ((s.fl.o.length : Int) ≤ n)) = y at *
              have hno : y = true → (s.zn.length : Int) ≤ m → (s.ap.length : Int) ≤ m → (s.sh.length : Int) ≤ m → (s.rb.length : Int) ≤ m → False := fun e a1 a2 a3 a4 => hF (by
                subst e
                simp only [Bool.and_eq_true,decide_eq_true_eq] at hgf
                refine ⟨by omega,by omega,by omega,by omega,by omega,by omega,fun z hzm => ?_,fun z hzm => ?_,fun z hzm => ?_⟩
                · obtain ⟨j,hj,rfl⟩ := List.mem_iff_getElem.1 hzm
                  exact hz j (by omega) hj
                · obtain ⟨j,hj,rfl⟩ := List.mem_iff_getElem.1 hzm
                  exact ha j (by omega) hj
                · obtain ⟨j,hj,rfl⟩ := List.mem_iff_getElem.1 hzm
                  exact hs j (by omega) hj)
              cases y with
              | false =>
                repeat' (first|refine wS ?_|refine wR ?_|refine wE ?_|refine wU ?_|(refine wC rfl (fun hb=>?_) (fun hb=>?_)<;>(((try simp only [nm] at hb);try (exfalso;omega))))|(refine rg 12 ?_;refine mV ?_;refine flV T ?_;refine qV T ?_;refine vV (by exact fs_lss rfl rfl) ?_;refine mV ?_;refine vc_split rfl rfl (fun hb=>?_) (fun hb=>?_)<;>((rw [hb];(try simp only [nm] at hb);try ((exfalso;omega);done)));(all_goals first|(refine gT ?_;(refine mV ?_);refine gT ?_;(refine mV ?_);refine gT ?_;(refine vV (by exact fs_leq rfl rfl) ?_))|(iterate 3 refine gF ?_));(all_goals (refine pV ?_)))|(refine rg 16 ?_;refine flV T ?_;refine mV ?_;refine vV (by exact kC (cF)) ?_;refine mV ?_;refine gK ?_;(iterate 5 refine gF ?_);refine pV ?_;refine mV ?_;refine gK ?_;(iterate 5 refine gF ?_);refine pV ?_;refine mV ?_;refine gK ?_;(iterate 5 refine gF ?_);refine pV ?_;refine mV ?_;refine gK ?_;(iterate 5 refine gF ?_);refine pV ?_;refine aV ?_)|refine nZ ?_)
                all_goals first | (exfalso;omega) | exact ⟨.b false,[],⟨rfl,false,rfl,fun h => Bool.noConfusion h⟩,rQ⟩
              | true =>
                have hno := hno rfl
                repeat' (first|refine wS ?_|refine wR ?_|refine wE ?_|refine wU ?_|(refine wC rfl (fun hb=>?_) (fun hb=>?_)<;>(((try simp only [nm] at hb);try (exfalso;omega))))|(refine rg 12 ?_;refine mV ?_;refine flV T ?_;refine qV T ?_;refine vV (by exact fs_lss rfl rfl) ?_;refine mV ?_;refine vc_split rfl rfl (fun hb=>?_) (fun hb=>?_)<;>((rw [hb];(try simp only [nm] at hb);try ((exfalso;omega);done)));(all_goals first|(refine gT ?_;(refine mV ?_);refine gT ?_;(refine mV ?_);refine gT ?_;(refine vV (by exact fs_leq rfl rfl) ?_))|(iterate 3 refine gF ?_));(all_goals (refine pV ?_)))|(refine rg 16 ?_;refine flV T ?_;refine mV ?_;refine vV (by exact kC (cF)) ?_;refine mV ?_;refine gK ?_;refine yF T ?_;refine yL T ?_;refine gT ?_;refine qV T ?_;refine yM ?_;refine yV (by exact fs_leq rfl rfl) ?_;refine pV ?_;refine mV ?_;refine vc_split rfl rfl (fun hb=>?_) (fun hb=>?_)<;>((rw [hb];(try simp only [nm] at hb);try ((exfalso;omega);done)));(all_goals first|(refine gT ?_;(refine fV T ?_);refine gT ?_;(refine lV T ?_);refine gT ?_;(refine qV T ?_);refine gT ?_;(refine mV ?_);refine gT ?_;(refine vV (by exact fs_leq rfl rfl) ?_))|(iterate 5 refine gF ?_));(all_goals (refine pV ?_;refine mV ?_));(all_goals first|(refine gK ?_)|(refine vc_split rfl rfl (fun hb=>?_) (fun hb=>?_)<;>((rw [hb];(try simp only [nm] at hb);try ((exfalso;omega);done)))));(all_goals first|(refine gT ?_;(refine fV T ?_);refine gT ?_;(refine lV T ?_);refine gT ?_;(refine qV T ?_);refine gT ?_;(refine mV ?_);refine gT ?_;(refine vV (by exact fs_leq rfl rfl) ?_))|(iterate 5 refine gF ?_));(all_goals (refine pV ?_;refine mV ?_));(all_goals first|(refine gK ?_)|(refine vc_split rfl rfl (fun hb=>?_) (fun hb=>?_)<;>((rw [hb];(try simp only [nm] at hb);try ((exfalso;omega);done)))));(all_goals first|(refine gT ?_;(refine fV T ?_);refine gT ?_;(refine lV T ?_);refine gT ?_;(refine qV T ?_);refine gT ?_;(refine mV ?_);refine gT ?_;(refine vV (by exact fs_leq rfl rfl) ?_))|(iterate 5 refine gF ?_));(all_goals (refine pV ?_;refine aV ?_)))|refine nZ ?_)
                all_goals first | (exfalso;omega) | exact ⟨.b false,[],⟨rfl,false,rfl,fun h => Bool.noConfusion h⟩,ret_plain (.inl rfl) rfl rfl⟩ | (exfalso;exact hno (by omega) (by omega) (by omega) (by omega)) | exact ⟨_,_,⟨rfl,_,rfl,fun h => (hno (by omega) (by omega) (by omega) (by have := of_decide_eq_true h;omega)).elim⟩,ret_plain (.inl rfl) rfl rfl⟩
end Go.Proofs.YtdmajnjoeidgeaaGreat
namespace Go.Proofs.YtdmajnjoeidgeaaGreat
open Go Go.Ab Go.Fl Go.Re Go.Ln Go.MapKept
attribute [local irreducible] VC AW FStep ACall PCall AStep
set_option maxHeartbeats 4000000
theorem same_c (a b : List Int) (ha : a.length ≤ 9223372036854775807) : ACall Tryz.prog 19 [.rowE (ints a) 1,.rowE (ints b) 1] [] (.b (decide (a = b))) [] := by
  have hal : (ints a).length = a.length := by simp
  have hbl : (ints b).length = b.length := by simp
  by_cases hl : a.length = b.length
  · refine acall T Tryz.func19 rfl rfl rfl rfl ?_
    repeat' (first|refine wS ?_|refine wB ?_|refine wK ?_|(refine wC rfl (fun hb=>?_) (fun hb=>?_)<;>(((try simp only [nm] at hb);try (exfalso;omega))))|(refine rg 0 ?_;refine aV ?_)|(refine rg 1 ?_;refine mV ?_;refine qV T ?_;refine mV ?_;refine qV T ?_;refine vV (by exact fs_neq rfl rfl) ?_)|(refine rg 3 ?_;refine aV ?_)|refine nZ ?_)
    all_goals try (exfalso;omega)
    refine aw_loop (X := {i : Nat // i ≤ a.length ∧ a.take i = b.take i}) (fun i => [(0,.rowE (ints a) 1),(1,.rowE (ints b) 1),(5,.i i.1)]) (fun _ => []) (fun i => a.length - i.1) ⟨0,by omega,rfl⟩ (by (refine ⟨[],rfl,?_,trivial,List.nodup_nil,fun _ h => absurd h (Nat.not_lt_zero _)⟩;(repeat (first | exact trivial | refine ⟨rfl,?_⟩)))) ?_
    rintro ⟨i,hi,hg⟩
    dsimp only
    by_cases hlt : i < a.length
    · have q1 := ints_get (l := a) (k := i) hlt
      have q2 := ints_get (l := b) (k := i) (by omega)
      by_cases e : a[i] = b[i]
      · repeat' (first|refine wS ?_|refine wB ?_|refine wK ?_|(refine wC rfl (fun hb => ?_) (fun hb => ?_) <;> (((try simp only [nm] at hb);try (exfalso;omega))))|(((refine rg 4 ?_));(all_goals (refine mV ?_;refine mV ?_;(refine qV T ?_);refine vV (by exact fs_lss rfl rfl) ?_)))|(refine aw_draw2k (id := 6) 26 [[],[],[0,1],[0,1,2],[],[],[4,5],[4,5,6],[0,1,2,3,4,5,6,7]] [17,18,19,20,21,22,23,24,25] [[],[17],[],[],[17,18,19,20],[17,18,19,20,21],[17,18,19,20],[17,18,19,20],[]] mixedP rfl (by decide +kernel) ?_;refine dM ?_;refine dM ?_;refine dV rfl (by exact ix T rfl (by omega) (ints_len a) q1) ?_;refine dL T ?_;refine dM ?_;refine dM ?_;refine dV rfl (by exact ix T rfl (by omega) (ints_len b) q2) ?_;refine dL T ?_;refine dV rfl (by exact fs_neq rfl rfl) ?_;refine dw_fin rfl rfl (by ((dsimp only [ln1,ln2,List.append_nil,ln4,ln5,ln6,ln7,ln8,ln9,putAt,putd,allObjs,argEnv,un_v,un_ptr,un_ep,un_pr,un_sl,un_mp,un_row,un_agg,un_tup,un_clo,Nat.zero_add,lnb,Nat.reduceAdd,lnc,lnd];done))) ?_)|(((refine rg 5 ?_));(all_goals (refine mV ?_;refine vV (by exact fs_addr rfl rfl (by omega) (by omega)) ?_;refine aV ?_)))|(refine nZ ?_))
        all_goals try (exfalso;omega)
        refine ⟨⟨i + 1,hlt,?_⟩,by dsimp only;omega,by (refine ⟨[],rfl,?_,trivial,List.nodup_nil,fun _ h => absurd h (Nat.not_lt_zero _)⟩;(repeat (first | exact trivial | refine ⟨rfl,?_⟩)))⟩
        rw [List.take_succ_eq_append_getElem hlt,List.take_succ_eq_append_getElem (by omega),hg,e]
      · rw [show decide (a = b) = false from decide_eq_false (fun h => e (by subst h;rfl))]
        repeat' (first|refine wS ?_|refine wB ?_|refine wK ?_|refine wR ?_|(refine wC rfl (fun hb=>?_) (fun hb=>?_)<;>(((try simp only [nm] at hb);try (exfalso;omega))))|(refine rg 4 ?_;refine mmV ?_;refine qV T ?_;refine vV (by exact fs_lss rfl rfl) ?_)|(refine aw_draw2k (id := 6) 26 [[],[],[0,1],[0,1,2],[],[],[4,5],[4,5,6],[0,1,2,3,4,5,6,7]] [17,18,19,20,21,22,23,24,25] [[],[17],[],[],[17,18,19,20],[17,18,19,20,21],[17,18,19,20],[17,18,19,20],[]] mixedP rfl (by decide +kernel) ?_;refine dM ?_;refine dM ?_;refine dV rfl (by exact ix T rfl (by omega) (ints_len a) q1) ?_;refine dL T ?_;refine dM ?_;refine dM ?_;refine dV rfl (by exact ix T rfl (by omega) (ints_len b) q2) ?_;refine dL T ?_;refine dV rfl (by exact fs_neq rfl rfl) ?_;refine dw_fin rfl rfl (by ((dsimp only [ln1,ln2,List.append_nil,ln4,ln5,ln6,ln7,ln8,ln9,putAt,putd,allObjs,argEnv,un_v,un_ptr,un_ep,un_pr,un_sl,un_mp,un_row,un_agg,un_tup,un_clo,Nat.zero_add,lnb,Nat.reduceAdd,lnc,lnd];done))) ?_)|(refine rg 7 ?_;refine aV ?_)|refine nZ ?_)
        all_goals first | (exfalso;omega) | exact rQ
    · rw [List.take_of_length_le (by omega),List.take_of_length_le (by omega)] at hg
      rw [show decide (a = b) = true from decide_eq_true hg]
      repeat' (first|refine wS ?_|refine wR ?_|refine wE ?_|(refine wC rfl (fun hb=>?_) (fun hb=>?_)<;>(((try simp only [nm] at hb);try (exfalso;omega))))|(refine rg 4 ?_;refine mmV ?_;refine qV T ?_;refine vV (by exact fs_lss rfl rfl) ?_)|(refine rg 8 ?_;refine aV ?_)|refine nZ ?_)
      all_goals first | (exfalso;omega) | exact rQ
  · rw [show decide (a = b) = false from decide_eq_false (fun h => hl (by rw [h]))]
    refine acall T Tryz.func19 rfl rfl rfl rfl ?_
    repeat' (first|refine wS ?_|refine wR ?_|(refine wC rfl (fun hb=>?_) (fun hb=>?_)<;>(((try simp only [nm] at hb);try (exfalso;omega))))|(refine rg 0 ?_;refine aV ?_)|(refine rg 1 ?_;refine mV ?_;refine qV T ?_;refine mV ?_;refine qV T ?_;refine vV (by exact fs_neq rfl rfl) ?_)|(refine rg 2 ?_;refine aV ?_)|refine nZ ?_)
    all_goals first | (exfalso;omega) | exact rQ
theorem sampleO_c : ACall Tryz.prog 22 [] [] (.agg [.i 5,.i 2,.i 1,.rowE (ints smF.k) 1,.sl 0 0 10 1,.nils,.nils,.nils,.nils]) [.arr (ints (List.replicate 10 15)) 1] := by
  refine acall T Tryz.func22 rfl rfl rfl rfl ?_
  repeat' (first|refine wS ?_|refine wB ?_|(refine rg 0 ?_;refine vc_n (by exact fs_alloc T rfl) rfl ?_)|(refine rg 1 ?_;refine vc_n (by exact fs_buildSlice T rfl rfl (by decide) (by decide) rfl rfl rfl) rfl ?_;refine vc_frz 3 rfl rfl rfl rfl ?_;refine vV (by exact fs_build T rfl rfl rfl rfl) ?_;refine vc_n (by exact fs_alloc T rfl) rfl ?_;refine vc_store T rfl rfl rfl rfl rfl rfl (by decide) rfl ?_)|(refine rg 2 ?_;refine aV ?_)|refine nZ ?_)
  refine aw_ownC 2 4 1 rfl rfl (by decide) ?_
  refine aw_loop (X := {j : Nat // j ≤ 10}) (fun j => [(0,.ptr 0 0),(1,.ptr 1 0),(2,.i j.1)]) (fun j => [.cells [.i 0,.i 0,.i 0,.nils,.nils,.nils,.nils,.nils,.nils],.cells [.i 5,.i 2,.i 1,.rowE (ints smF.k) 1,.sl 2 0 j.1 1],.arr (ints (List.replicate j.1 15)) 1]) (fun j => 10 - j.1) ⟨0,by omega⟩ ⟨[0,2,3],rfl,(by (repeat (first | exact trivial | refine ⟨rfl,?_⟩))),⟨.inr rfl,.inr rfl,.inr rfl,trivial⟩,by decide,nz0⟩ ?_
  rintro ⟨j,hj⟩
  dsimp only
  have hrl : (List.replicate j (15 : Int)).length = j := List.length_replicate
  by_cases hlt : j < 10
  · have hrs : List.replicate (j + 1) (15 : Int) = List.replicate j 15 ++ [15] := List.replicate_succ'
    generalize List.replicate j (15 : Int) = R at *
    repeat' (first|refine wS ?_|refine wB ?_|refine wK ?_|refine wT ?_|(refine rg 3 ?_;refine mV ?_;refine vV (by exact fs_lssT rfl rfl (by omega)) ?_)|(refine rg 5 ?_;refine flV T ?_;refine vc_n (by exact fs_buildSlice T rfl rfl (by decide) (by decide) rfl rfl rfl) rfl ?_;refine vc_append T rfl rfl rfl rfl rfl rfl (by simp;omega) (Elems.whole rfl rfl) rfl (by simp;omega) (by simp;omega) rfl ?_;refine fV T ?_;refine vc_store T rfl rfl rfl rfl rfl rfl (by decide) rfl ?_)|(refine rg 4 ?_;refine mV ?_;refine vV (by exact fs_addr rfl rfl (by omega) (by omega)) ?_;refine aV ?_)|refine nZ ?_)
    all_goals exact ⟨⟨j + 1,hlt⟩,by dsimp only;omega,[0,1,4],rfl,(by (repeat (first | exact trivial | refine ⟨rfl,?_⟩))),⟨.inr rfl,.inr (by simp only [hrl];rfl),.inr (sub_arr rfl (by dsimp only;rw [hrs,← hrl];exact ints_app) (ints_idf _)),trivial⟩,by decide,nz0⟩
  · obtain rfl : j = 10 := by omega
    repeat' (first|refine wS ?_|refine wR ?_|refine wE ?_|refine wU ?_|(refine rg 3 ?_;refine mV ?_;refine vV (by exact fs_lssF rfl rfl (by omega)) ?_)|(refine rg 6 ?_;refine lV T ?_;refine vV (by exact fs_build T rfl rfl rfl rfl) ?_;refine vc_store T rfl rfl rfl rfl rfl rfl (by decide) rfl ?_)|refine nZ ?_)
    all_goals exact ⟨.inl rfl,[2],_,rfl,rfl,rfl,⟨.inr (sub_arr rfl rfl (ints_idf _)),trivial⟩,by decide,nz0⟩
theorem sample_c : ACall Tryz.prog 22 [] [] (.agg (sitA smS)) [] :=
  acall_view sampleO_c (.agg (.cons (.v _) (.cons (.v _) (.cons (.v _) (.cons (.row _ _ _) (.cons (view_ints rfl rfl) (.cons (.nils 5) (.cons (.nils 2) (.cons (.nils 2) (.cons (.nils 2) .nil))))))))))
theorem way_1 : LaneP (netP smS (walkP smF) 1) [1,0] ∧ LaneP (netP smS (walkP smF) 1) [1,2,3,4] := by
  rw [sm_walk]
  refine ⟨⟨by decide,[0],rfl,(by decide : exB smF 1 = false),(by decide : (0 : Int) ∈ stepP smF [0,1,2,3,4] 1),(by decide : exB smF 0 = true)⟩,⟨by decide,[2,3,4],rfl,(by decide : exB smF 1 = false),(by decide : (2 : Int) ∈ stepP smF [0,1,2,3,4] 1),(by decide : exB smF 2 = false),(by decide : (3 : Int) ∈ stepP smF [0,1,2,3,4] 2),(by decide : exB smF 3 = false),(by decide : (4 : Int) ∈ stepP smF [0,1,2,3,4] 3),(by decide : exB smF 4 = true)⟩⟩
theorem way_2 : LaneP (netP smS (walkP smF) 2) [2,1,0] ∧ LaneP (netP smS (walkP smF) 2) [2,3,4] := by
  rw [sm_walk]
  refine ⟨⟨by decide,[1,0],rfl,(by decide : exB smF 2 = false),(by decide : (1 : Int) ∈ stepP smF [0,1,2,3,4] 2),(by decide : exB smF 1 = false),(by decide : (0 : Int) ∈ stepP smF [0,1,2,3,4] 1),(by decide : exB smF 0 = true)⟩,⟨by decide,[3,4],rfl,(by decide : exB smF 2 = false),(by decide : (3 : Int) ∈ stepP smF [0,1,2,3,4] 2),(by decide : exB smF 3 = false),(by decide : (4 : Int) ∈ stepP smF [0,1,2,3,4] 3),(by decide : exB smF 4 = true)⟩⟩
theorem way_3 : LaneP (netP smS (walkP smF) 3) [3,2,1,0] ∧ LaneP (netP smS (walkP smF) 3) [3,4] := by
  rw [sm_walk]
  refine ⟨⟨by decide,[2,1,0],rfl,(by decide : exB smF 3 = false),(by decide : (2 : Int) ∈ stepP smF [0,1,2,3,4] 3),(by decide : exB smF 2 = false),(by decide : (1 : Int) ∈ stepP smF [0,1,2,3,4] 2),(by decide : exB smF 1 = false),(by decide : (0 : Int) ∈ stepP smF [0,1,2,3,4] 1),(by decide : exB smF 0 = true)⟩,⟨by decide,[4],rfl,(by decide : exB smF 3 = false),(by decide : (4 : Int) ∈ stepP smF [0,1,2,3,4] 3),(by decide : exB smF 4 = true)⟩⟩
theorem not_stuck {s : Sit} {c : Int} {l l' : List Int} (h1 : LaneP (netP s (walkP s.fl) c) l) (h2 : LaneP (netP s (walkP s.fl) c) l') (h : ∀ x,x ∈ l → x ∈ l' → x = c) : ¬ StuckP s c := by
  rintro (h3 | ⟨x,hx,h3⟩)
  · exact h3 _ h1
  · exact hx (h x (h3 _ h1) (h3 _ h2))
theorem sm_free : ∀ c,c ∈ kindC smF 4 → ¬ StuckP smS c := by
  intro c hc
  rw [sm_kind] at hc
  simp only [List.mem_cons,List.not_mem_nil,or_false] at hc
  rcases hc with rfl | rfl | rfl
  · exact not_stuck way_1.1 way_1.2 (by decide)
  · exact not_stuck way_2.1 way_2.2 (by decide)
  · exact not_stuck way_3.1 way_3.2 (by decide)
theorem sm_certs {L : List LaneT} (h1 : L.map (·.1) = kindC smF 4) (h2 : ∀ x,x ∈ L → PairOk smS x) : ∃ (a1 b1 a3 b3 A B : List Int),L = [(1,a1,b1),(2,A,B),(3,a3,b3)] ∧ ((A = [2,1,0] ∧ B = [2,3,4]) ∨ (A = [2,3,4] ∧ B = [2,1,0])) := by
  rw [sm_kind] at h1
  match L,h1,h2 with
  | [],h1,_ => simp at h1
  | [_],h1,_ => simp at h1
  | [_,_],h1,_ => simp at h1
  | _ :: _ :: _ :: _ :: _,h1,_ => simp at h1
  | [(c1,a1,b1),(c2,A,B),(c3,a3,b3)],h1,h2 =>
    simp only [List.map_cons,List.map_nil,List.cons.injEq,and_true] at h1
    obtain ⟨rfl,rfl,rfl⟩ := h1
    obtain ⟨p1,p2,p3⟩ := h2 (2,A,B) (by simp)
    dsimp only at p1 p2 p3
    refine ⟨a1,b1,a3,b3,A,B,rfl,?_⟩
    rcases sm_lane p1 with rfl | rfl <;> rcases sm_lane p2 with rfl | rfl
    · exact absurd (p3 1 (by simp) (by simp)) (by decide)
    · exact .inl ⟨rfl,rfl⟩
    · exact .inr ⟨rfl,rfl⟩
    · exact absurd (p3 3 (by simp) (by simp)) (by decide)
theorem sm_len {L : List LaneT} (h2 : ∀ x,x ∈ L → PairOk smS x) : ∀ x,x ∈ L → x.2.1.length ≤ 1000000 ∧ x.2.2.length ≤ 1000000 := fun x hx => by
  obtain ⟨p1,p2,_⟩ := h2 x hx
  have q1 := lane_len p1
  have q2 := lane_len p2
  have e : (walkP smS.fl).length = 5 := by show (walkP smF).length = 5;rw [sm_walk];rfl
  omega
theorem smallL_c : ACall Tryz.prog 5 [] [] (.b true) [] := by
  have cM := make_p smS sm_fine
  have cO := off_c smS sm_fine 2 (by unfold rngI;omega)
  rw [show offR smS.fl 2 = [2,7] from sm_off] at cO
  have cE := same_c [2,7] [2,7] (by decide)
  have c00 := same_c [2,1,0] [2,1,0] (by decide)
  have c01 := same_c [2,1,0] [2,3,4] (by decide)
  have c10 := same_c [2,3,4] [2,1,0] (by decide)
  have c11 := same_c [2,3,4] [2,3,4] (by decide)
  rw [decide_eq_true rfl] at c00 c11 cE
  rw [decide_eq_false (by decide)] at c01 c10
  refine PCall.toA (Φ := fun r o => r = .b true ∧ o = []) ?_ (fun _ _ h => h)
  refine pcall T Tryz.func5 rfl rfl rfl rfl ?_
  repeat' (first|refine wS ?_|(refine rg 0 ?_;refine aV ?_)|(refine rg 1 ?_;refine vV (by exact kC (sample_c)) ?_;refine vc_n (by exact fs_alloc T rfl) rfl ?_;refine vc_store T rfl rfl rfl rfl rfl rfl (by decide) rfl ?_)|(refine rg 2 ?_;refine lV T ?_;refine vc_pcallw [] rfl rfl cM rfl rfl (by decide) trivial (by simp) rfl ?_;rintro _ _ ⟨rfl,(⟨L,h1,h2⟩|⟨L,c,post,h1,h2,h3⟩)⟩;(all_goals (refine mV ?_;refine xV ?_;refine xV ?_;refine xV ?_;refine vc_n (by exact fs_alloc T rfl) rfl ?_;refine vc_store T rfl rfl rfl rfl rfl rfl (by decide) rfl ?_;refine aaV ?_)))|refine nZ ?_)
  · have hlen := sm_len h2
    have hb : boundP smS.fl = 1 := sm_bound
    rw [hb]
    obtain ⟨a1,b1,a3,b3,A,B,rfl,hAB⟩ := sm_certs h1 h2
    have q1 : (lanesA [(1,a1,b1),(2,A,B),(3,a3,b3)])[(1 : Int).toNat]? = some (laneA (2,A,B)) := rfl
    have cR := request_c [(1,a1,b1),(2,A,B),(3,a3,b3)] 1 2 [0,-1,0,1,0,0,0,0,0,0] (by simp) hlen
    rcases hAB with ⟨rfl,rfl⟩ | ⟨rfl,rfl⟩
    · rw [show reqP [(1,a1,b1),(2,[2,1,0],[2,3,4]),(3,a3,b3)] 1 2 [0,-1,0,1,0,0,0,0,0,0] = (1,1,0) from rfl] at cR
      repeat' (first|refine wS ?_|refine wK ?_|refine wU ?_|(refine rg 3 ?_;refine mV ?_;refine vV (by exact fs_neq rfl rfl) ?_;refine mV ?_;refine gK ?_;refine yM ?_;refine yV (by exact fs_neq rfl rfl) ?_;refine pV ?_;refine mV ?_;refine gK ?_;refine yF T ?_;refine yL T ?_;refine gT ?_;refine qV T ?_;refine yV (by exact fs_neq rfl rfl) ?_;refine pV ?_;refine mV ?_;refine gK ?_;refine yF T ?_;refine yL T ?_;refine yV (by exact fs_neq rfl rfl) ?_;refine pV ?_)|(refine rg 5 ?_;refine flV T ?_;refine vV (by exact ix T rfl (by decide) (lanes_len _) q1) ?_;refine lV T ?_;refine vc_n (by exact fs_alloc T rfl) rfl ?_;refine vc_store T rfl rfl rfl rfl rfl rfl (by decide) rfl ?_)|refine nZ ?_)
      refine aw_keep [(1,.ptr 0 0),(2,.ptr 1 0),(5,.ptr 2 0)] [.cells (sitA smS),.cells (certA [(1,a1,b1),(2,[2,1,0],[2,3,4]),(3,a3,b3)] 1),.cells (laneA (2,[2,1,0],[2,3,4]))] ⟨[0,1,2],rfl,(by (repeat (first | exact trivial | refine ⟨rfl,?_⟩))),⟨.inr rfl,.inr rfl,.inr rfl,trivial⟩,by decide,nz0⟩ ?_
      repeat' (first|refine wS ?_|(refine rg 6 ?_;refine flV T ?_;refine vc_n (by exact fs_buildSlice T rfl rfl (by decide) (by decide) rfl rfl rfl) rfl ?_;refine vc_frz 42 rfl rfl rfl rfl ?_;refine vV (by exact kC (c00)) ?_;refine mV ?_;refine gK ?_;refine yF T ?_;refine yL T ?_;refine gT ?_;refine vc_n (by exact fs_buildSlice T rfl rfl (by decide) (by decide) rfl rfl rfl) rfl ?_;refine vc_frz 47 rfl rfl rfl rfl ?_;refine yV (by exact kC (c11)) ?_;refine pV ?_;refine aV ?_)|(refine rg 7 ?_;refine flV T ?_;refine vc_n (by exact fs_buildSlice T rfl rfl (by decide) (by decide) rfl rfl rfl) rfl ?_;refine vc_frz 52 rfl rfl rfl rfl ?_;refine vV (by exact kC (c10)) ?_;refine mV ?_;refine gK ?_;(iterate 4 refine gF ?_);refine pV ?_;refine aV ?_)|refine nZ ?_)
      refine aw_keep [(1,.ptr 0 0),(2,.ptr 1 0),(6,.b true),(7,.b false)] [.cells (sitA smS),.cells (certA [(1,a1,b1),(2,[2,1,0],[2,3,4]),(3,a3,b3)] 1)] ⟨[0,1],rfl,(by (repeat (first | exact trivial | refine ⟨rfl,?_⟩))),⟨.inr rfl,.inr rfl,trivial⟩,by decide,nz0⟩ ?_
      repeat' (first|refine wS ?_|(refine rg 8 ?_;refine vc_n (by exact fs_buildSlice T rfl rfl (by decide) (by decide) rfl rfl rfl) rfl ?_;refine vc_frz 60 rfl rfl rfl rfl ?_;refine aV ?_)|(refine rg 9 ?_;refine lV T ?_;refine mV ?_;refine vV (by exact kC (cR)) ?_;refine mV ?_;refine xV ?_;refine xV ?_;refine xV ?_;refine aaV ?_;refine aV ?_)|refine nZ ?_)
      refine aw_keep [(1,.ptr 0 0),(6,.b true),(7,.b false),(9,.i 1),(10,.i 1),(11,.i 0)] [.cells (sitA smS)] ⟨[0],rfl,(by (repeat (first | exact trivial | refine ⟨rfl,?_⟩))),⟨.inr rfl,trivial⟩,by decide,nz0⟩ ?_
      repeat' (first|refine wR ?_|(refine rg 10 ?_;refine mmV ?_;refine gK ?_;refine yM ?_;refine yV (by exact fs_eql rfl rfl) ?_;refine pV ?_;refine mV ?_;refine gK ?_;(iterate 2 refine gF ?_);refine gK ?_;(iterate 2 refine gU ?_);refine gF ?_;refine pV ?_;refine mV ?_;refine gK ?_;refine yM ?_;refine yV (by exact fs_eql rfl rfl) ?_;refine pV ?_;refine mV ?_;refine gK ?_;refine yM ?_;refine yV (by exact fs_eql rfl rfl) ?_;refine pV ?_;refine mV ?_;refine gK ?_;refine yL T ?_;refine yV (by exact kC (cO)) ?_;refine gT ?_;refine vc_n (by exact fs_buildSlice T rfl rfl (by decide) (by decide) rfl rfl rfl) rfl ?_;refine vc_frz 91 rfl rfl rfl rfl ?_;refine yV (by exact kC (cE)) ?_;refine pV ?_;refine aV ?_)|refine nZ ?_)
      all_goals exact ⟨_,_,⟨rfl,rfl⟩,rQ⟩
    · rw [show reqP [(1,a1,b1),(2,[2,3,4],[2,1,0]),(3,a3,b3)] 1 2 [0,-1,0,1,0,0,0,0,0,0] = (0,1,0) from rfl] at cR
      repeat' (first|refine wS ?_|refine wK ?_|refine wU ?_|(refine rg 3 ?_;refine mV ?_;refine vV (by exact fs_neq rfl rfl) ?_;refine mV ?_;refine gK ?_;refine yM ?_;refine yV (by exact fs_neq rfl rfl) ?_;refine pV ?_;refine mV ?_;refine gK ?_;refine yF T ?_;refine yL T ?_;refine gT ?_;refine qV T ?_;refine yV (by exact fs_neq rfl rfl) ?_;refine pV ?_;refine mV ?_;refine gK ?_;refine yF T ?_;refine yL T ?_;refine yV (by exact fs_neq rfl rfl) ?_;refine pV ?_)|(refine rg 5 ?_;refine flV T ?_;refine vV (by exact ix T rfl (by decide) (lanes_len _) q1) ?_;refine lV T ?_;refine vc_n (by exact fs_alloc T rfl) rfl ?_;refine vc_store T rfl rfl rfl rfl rfl rfl (by decide) rfl ?_)|refine nZ ?_)
      refine aw_keep [(1,.ptr 0 0),(2,.ptr 1 0),(5,.ptr 2 0)] [.cells (sitA smS),.cells (certA [(1,a1,b1),(2,[2,3,4],[2,1,0]),(3,a3,b3)] 1),.cells (laneA (2,[2,3,4],[2,1,0]))] ⟨[0,1,2],rfl,(by (repeat (first | exact trivial | refine ⟨rfl,?_⟩))),⟨.inr rfl,.inr rfl,.inr rfl,trivial⟩,by decide,nz0⟩ ?_
      repeat' (first|refine wS ?_|(refine rg 6 ?_;refine flV T ?_;refine vc_n (by exact fs_buildSlice T rfl rfl (by decide) (by decide) rfl rfl rfl) rfl ?_;refine vc_frz 42 rfl rfl rfl rfl ?_;refine vV (by exact kC (c10)) ?_;refine mV ?_;refine gK ?_;(iterate 4 refine gF ?_);refine pV ?_;refine aV ?_)|(refine rg 7 ?_;refine flV T ?_;refine vc_n (by exact fs_buildSlice T rfl rfl (by decide) (by decide) rfl rfl rfl) rfl ?_;refine vc_frz 52 rfl rfl rfl rfl ?_;refine vV (by exact kC (c00)) ?_;refine mV ?_;refine gK ?_;refine yF T ?_;refine yL T ?_;refine gT ?_;refine vc_n (by exact fs_buildSlice T rfl rfl (by decide) (by decide) rfl rfl rfl) rfl ?_;refine vc_frz 57 rfl rfl rfl rfl ?_;refine yV (by exact kC (c11)) ?_;refine pV ?_;refine aV ?_)|refine nZ ?_)
      refine aw_keep [(1,.ptr 0 0),(2,.ptr 1 0),(6,.b false),(7,.b true)] [.cells (sitA smS),.cells (certA [(1,a1,b1),(2,[2,3,4],[2,1,0]),(3,a3,b3)] 1)] ⟨[0,1],rfl,(by (repeat (first | exact trivial | refine ⟨rfl,?_⟩))),⟨.inr rfl,.inr rfl,trivial⟩,by decide,nz0⟩ ?_
      repeat' (first|refine wS ?_|(refine rg 8 ?_;refine vc_n (by exact fs_buildSlice T rfl rfl (by decide) (by decide) rfl rfl rfl) rfl ?_;refine vc_frz 60 rfl rfl rfl rfl ?_;refine aV ?_)|(refine rg 9 ?_;refine lV T ?_;refine mV ?_;refine vV (by exact kC (cR)) ?_;refine mV ?_;refine xV ?_;refine xV ?_;refine xV ?_;refine aaV ?_;refine aV ?_)|refine nZ ?_)
      refine aw_keep [(1,.ptr 0 0),(6,.b false),(7,.b true),(9,.i 0),(10,.i 1),(11,.i 0)] [.cells (sitA smS)] ⟨[0],rfl,(by (repeat (first | exact trivial | refine ⟨rfl,?_⟩))),⟨.inr rfl,trivial⟩,by decide,nz0⟩ ?_
      repeat' (first|refine wR ?_|(refine rg 10 ?_;refine mmV ?_;refine gK ?_;(iterate 2 refine gF ?_);refine pV ?_;refine mV ?_;refine gK ?_;refine yM ?_;refine yM ?_;refine gK ?_;refine yM ?_;refine yV (by exact fs_eql rfl rfl) ?_;refine gT ?_;refine pV ?_;refine pV ?_;refine mV ?_;refine gK ?_;refine yM ?_;refine yV (by exact fs_eql rfl rfl) ?_;refine pV ?_;refine mV ?_;refine gK ?_;refine yM ?_;refine yV (by exact fs_eql rfl rfl) ?_;refine pV ?_;refine mV ?_;refine gK ?_;refine yL T ?_;refine yV (by exact kC (cO)) ?_;refine gT ?_;refine vc_n (by exact fs_buildSlice T rfl rfl (by decide) (by decide) rfl rfl rfl) rfl ?_;refine vc_frz 91 rfl rfl rfl rfl ?_;refine yV (by exact kC (cE)) ?_;refine pV ?_;refine aV ?_)|refine nZ ?_)
      all_goals exact ⟨_,_,⟨rfl,rfl⟩,rQ⟩
  · exact absurd h3 (sm_free c (by rw [show smS.fl = smF from rfl] at h1;rw [← h1];simp))
theorem few_more {s : Sit} (h : FewP s 40 20) : FewP s 300 1000 :=
  ⟨Nat.le_trans h.kl (by decide),Nat.le_trans h.ol (by decide),Nat.le_trans h.zl (by decide),Nat.le_trans h.al (by decide),Nat.le_trans h.sl (by decide),Nat.le_trans h.rl (by decide),fun z hz => ⟨Nat.le_trans (h.z z hz).1 (by decide),(h.z z hz).2⟩,h.a,h.s⟩
structure FitP (s : Sit) : Prop where
  few : FewP s 40 20
  ok : SvOk s
theorem FitP.fine {s : Sit} (h : FitP s) : Fine s.fl := right_fine h.ok.fl (by have := h.few.kl;omega)
theorem fits_p (s : Sit) : PCall Tryz.prog 6 [.agg (sitA s)] [] (okB (FitP s)) := by
  have cF := few11_p s 40 20 (by decide) (by decide)
  refine pcall T Tryz.func6 rfl rfl rfl rfl ?_
  repeat' (first|refine wS ?_|refine wR ?_|(refine rg 0 ?_;refine vc_n (by exact fs_box rfl rfl) rfl ?_;refine aV ?_)|(refine rg 1 ?_;refine lV T ?_;refine vc_pcallb rfl rfl (cF) (.cons (view_self _ rfl) (.cons (.v _) (.cons (.v _) .nil))) (by rintro _ ⟨_,rfl,_⟩;rfl) rfl ?_;rintro _ ⟨b1,rfl,hF⟩;dsimp only [putd];cases b1;(all_goals (refine mV ?_;refine gK ?_));(all_goals first|(refine gT ?_;(refine lV T ?_);refine gT ?_;(refine vc_pcallb rfl rfl (sright_c s (few_more (hF rfl))) (.cons (view_self _ rfl) .nil) (by rintro _ ⟨_,rfl,_⟩;rfl) rfl ?_;rintro _ ⟨b2,rfl,hS⟩;dsimp only [putd];cases b2))|(iterate 2 refine gF ?_));(all_goals (refine pV ?_;refine aV ?_)))|refine nZ ?_)
  all_goals first | exact ⟨.b false,[],⟨rfl,false,rfl,fun h => Bool.noConfusion h⟩,rQ⟩ | exact ⟨.b true,[],⟨rfl,true,rfl,fun _ => ⟨hF rfl,hS rfl⟩⟩,rQ⟩
end Go.Proofs.YtdmajnjoeidgeaaGreat
namespace Go.Proofs.YtdmajnjoeidgeaaGreat
open Go Go.Ab Go.Fl Go.Shelf Go.Proofs Go.MapKept
attribute [local irreducible] VC AW FStep ACall PCall StrStruct StrT AStep AnyAt
set_option maxHeartbeats 8000000
theorem app3 (A B C : List Int) : ((((((([] : List (List AV)).drop 0).take 0 ++ ints A).drop 0).take (0 + (ints A).length) ++ ints B).drop 0).take (0 + (ints A).length + (ints B).length)) ++ ints C = ints (A ++ B ++ C) := by
  simp only [List.drop_zero,List.take_nil,List.nil_append,Nat.zero_add,List.take_length]
  rw [← List.length_append,List.take_length,← List.map_append,← List.map_append]
structure FewS (st : Stt) : Prop where
  sl : st.sh.length ≤ 12
  rl : st.rb.length ≤ 12
  pl : st.pp.length ≤ 12
  dl : st.dd.length ≤ 12
  kl : st.sk.length ≤ 12
theorem few14_p (st : Stt) :
    PCall Tryz.prog 7 [.agg (sttA st)] [] (okB (FewS st)) := by
  have hsl : (ints st.sh).length = st.sh.length := ints_length _
  have hpl : (ints st.pp).length = st.pp.length := ints_length _
  have hdl : (ints st.dd).length = st.dd.length := ints_length _
  have hrl : (robsA st.rb).length = st.rb.length := by simp
  have hkl : (stksA st.sk).length = st.sk.length := by simp
  refine pcall T Tryz.func7 rfl rfl rfl rfl ?_
  by_cases hF : FewS st
  · obtain ⟨f1,f2,f3,f4,f5⟩ := hF
    repeat' (first|refine wS ?_|refine wK ?_|(refine wC rfl (fun hb=>?_) (fun hb=>?_)<;>(((try simp only [nm] at hb);try (exfalso;omega))))|(refine rg 0 ?_;refine vc_n (by exact fs_box rfl rfl) rfl ?_;refine aV ?_)|(refine rg 1 ?_;refine flV T ?_;refine qV T ?_;refine vV (by exact fs_gtr rfl rfl) ?_;refine mV ?_;refine vc_split rfl rfl (fun hb=>?_) (fun hb=>?_)<;>((rw [hb];(try simp only [nm] at hb);try ((exfalso;omega);done)));(all_goals (refine yF T ?_;refine yL T ?_;refine gT ?_;refine qV T ?_;refine yV (by exact fs_gtr rfl rfl) ?_;refine pV ?_;refine mV ?_;refine vc_split rfl rfl (fun hb=>?_) (fun hb=>?_)<;>((rw [hb];(try simp only [nm] at hb);try ((exfalso;omega);done)))));(all_goals (refine yF T ?_;refine yL T ?_;refine gT ?_;refine qV T ?_;refine yV (by exact fs_gtr rfl rfl) ?_;refine pV ?_;refine mV ?_;refine vc_split rfl rfl (fun hb=>?_) (fun hb=>?_)<;>((rw [hb];(try simp only [nm] at hb);try ((exfalso;omega);done)))));(all_goals (refine yF T ?_;refine yL T ?_;refine gT ?_;refine qV T ?_;refine yV (by exact fs_gtr rfl rfl) ?_;refine pV ?_;refine mV ?_;refine vc_split rfl rfl (fun hb=>?_) (fun hb=>?_)<;>((rw [hb];(try simp only [nm] at hb);try ((exfalso;omega);done)))));(all_goals (refine yF T ?_;refine yL T ?_;refine gT ?_;refine qV T ?_;refine yV (by exact fs_gtr rfl rfl) ?_;refine pV ?_)))|refine nZ ?_)
    all_goals try (exfalso;omega)
    refine aw_cut [(1,.ptr 0 0),(3,.sl 1 0 (0 + (ints st.sh).length + (ints st.pp).length + (ints st.dd).length) 1)] [.cells (sttA st),.arr (ints (st.sh ++ st.pp ++ st.dd)) 1] ?_ ?_
    · refine aw_anyAt (id := 3) mixedP ?_
      refine any_p 1 rfl rfl (by decide +kernel) (by decide +kernel) (by decide +kernel) (by exact ps_fieldAddr T rfl rfl rfl) rfl ?_
      refine any_p 4 rfl rfl (by decide +kernel) (by decide +kernel) (by decide +kernel) (by exact ps_fieldAddr T rfl rfl rfl) rfl ?_
      refine any_p 7 rfl rfl (by decide +kernel) (by decide +kernel) (by decide +kernel) (by exact ps_fieldAddr T rfl rfl rfl) rfl ?_
      refine any_toL [(0,[]),(1,[]),(2,[1]),(3,[0,2]),(4,[]),(5,[4]),(6,[3,5,3]),(7,[]),(8,[7]),(9,[6,8,6]),(10,[9,9,0,1,2,3,4,5,6,7,8,9])] (by decide +kernel) [false,true,false,false,true,false,false,true,false,false,false] rfl rfl ?_
      repeat' (first|(refine anyL_1 rfl rfl ?_;(first|(refine vV (by first|exact fs_load T rfl rfl rfl rfl|exact fs_assign rfl) ?_)|(refine vc_n (by exact fs_buildSlice T rfl rfl (by decide) (by decide) rfl rfl rfl) rfl ?_)|(refine vc_append T rfl rfl rfl rfl rfl rfl (by simp) (.row (ints_len _)) (ints_one _) (by simp;omega) (by simp;omega) rfl ?_));refine vc_nil ?_;dsimp only [List.set_cons_zero,List.set_cons_succ])|(refine anyL_2 rfl rfl rfl ?_ ?_<;>((first|(refine vV (by exact fs_load T rfl rfl rfl rfl) ?_)|(refine vc_n (by exact fs_buildSlice T rfl rfl (by decide) (by decide) rfl rfl rfl) rfl ?_)|(refine vc_append T rfl rfl rfl rfl rfl rfl (by simp) (.row (ints_len _)) (ints_one _) (by simp;omega) (by simp;omega) rfl ?_));refine vc_nil ?_;dsimp only [List.set_cons_zero,List.set_cons_succ]))|(refine anyL_3 rfl rfl rfl rfl ?_ ?_ ?_<;>((first|(refine vV (by exact fs_load T rfl rfl rfl rfl) ?_)|(refine vc_n (by exact fs_buildSlice T rfl rfl (by decide) (by decide) rfl rfl rfl) rfl ?_)|(refine vc_append T rfl rfl rfl rfl rfl rfl (by simp) (.row (ints_len _)) (ints_one _) (by simp;omega) (by simp;omega) rfl ?_));refine vc_nil ?_;dsimp only [List.set_cons_zero,List.set_cons_succ]))|(refine anyL_4 rfl rfl rfl rfl rfl ?_ ?_ ?_ ?_<;>((first|(refine vV (by exact fs_load T rfl rfl rfl rfl) ?_)|(refine vc_n (by exact fs_buildSlice T rfl rfl (by decide) (by decide) rfl rfl rfl) rfl ?_));refine vc_nil ?_;dsimp only [List.set_cons_zero,List.set_cons_succ])))
      all_goals exact anyL_done rfl ⟨rfl,[0,4],rfl,(by (repeat (first | exact trivial | refine ⟨rfl,?_⟩))),⟨.inr rfl,.inr (sub_arr rfl (app3 _ _ _) (ints_idf _)),trivial⟩,by decide,lt0 _⟩
    · intro v g hs
      refine aw_sub hs ?_
      generalize hL : st.sh ++ st.pp ++ st.dd = L0
      have hl0 : L0.length = st.sh.length + st.pp.length + st.dd.length := by rw [← hL];simp only [List.length_append]
      repeat' (first|refine wS ?_|refine wB ?_|(refine rg 4 ?_;refine aV ?_)|refine nZ ?_)
      refine aw_loop (X := {p : Nat × List Int // p.1 ≤ st.rb.length ∧ p.2.length = L0.length + p.1}) (fun p => [(1,.ptr 0 0),(3,.sl 1 0 p.1.2.length 1),(4,.i p.1.1)]) (fun p => [.cells (sttA st),.arr (ints p.1.2) 1]) (fun p => st.rb.length - p.1.1) ⟨(0,L0),by dsimp only;omega,by dsimp only;omega⟩ ⟨[0,1],rfl,⟨rfl,congrArg (fun n : Nat => some (AV.sl 1 0 n 1)) (by dsimp only;omega),rfl,trivial⟩,⟨.inr rfl,.inr (sub_arr rfl rfl (ints_idf _)),trivial⟩,by decide,lt0 _⟩ ?_
      rintro ⟨⟨k,L⟩,hk,hLl⟩
      dsimp only
      change k ≤ st.rb.length at hk
      change L.length = L0.length + k at hLl
      have hil : (ints L).length = L.length := ints_length _
      by_cases hlt : k < st.rb.length
      · have q1 : (robsA st.rb)[(k : Int).toNat]? = some (robA st.rb[k]) := robs_get hlt
        generalize st.rb[k] = r at *
        obtain ⟨x,ld,ch,re,mu,de⟩ := r
        repeat' (first|refine wS ?_|refine wB ?_|refine wK ?_|refine wT ?_|(refine rg 5 ?_;refine mV ?_;refine flV T ?_;refine qV T ?_;refine vV (by exact fs_lssT rfl rfl (by omega)) ?_)|(refine rg 7 ?_;refine mV ?_;refine flV T ?_;refine mV ?_;refine vV (by exact ix T rfl (by omega) (robs_len _) q1) ?_;refine flV T ?_;refine vc_n (by exact fs_buildSlice T rfl rfl (by decide) (by decide) rfl rfl rfl) rfl ?_;refine vc_append T rfl rfl rfl rfl rfl rfl (by omega) (Elems.whole rfl rfl) rfl (by simp;omega) (by simp;omega) rfl ?_;refine aV ?_)|(refine rg 6 ?_;refine mV ?_;refine vV (by exact fs_addr rfl rfl (by omega) (by omega)) ?_;refine aV ?_)|refine nZ ?_)
        all_goals first | (exfalso;omega) | exact ⟨⟨(k + 1,L ++ [x]),hlt,by dsimp only;rw [List.length_append];simp;omega⟩,by dsimp only;omega,⟨[0,3],rfl,⟨rfl,congrArg (fun n : Nat => some (AV.sl 3 0 n 1)) (by simp),rfl,trivial⟩,⟨.inr rfl,.inr (sub_arr rfl (app_own (q := [x]) rfl) (ints_idf _)),trivial⟩,by decide,lt0 _⟩⟩
      · obtain rfl : k = st.rb.length := by omega
        repeat' (first|refine wS ?_|refine wB ?_|refine wE ?_|refine wU ?_|(refine rg 5 ?_;refine mV ?_;refine flV T ?_;refine qV T ?_;refine vV (by exact fs_lssF rfl rfl (by omega)) ?_)|(refine rg 8 ?_;refine aV ?_)|refine nZ ?_)
        all_goals try (exfalso;omega)
        refine aw_frz 3 (es := ints L) rfl rfl hil.symm (ints_idfF _) ?_
        refine aw_loop (X := {j : Nat // j ≤ L.length}) (fun j => [(3,.rowE (ints L) 1),(5,.i j.1)]) (fun _ => []) (fun j => L.length - j.1) ⟨0,by omega⟩ (by (refine ⟨[],rfl,?_,trivial,List.nodup_nil,fun _ h => absurd h (Nat.not_lt_zero _)⟩;(repeat (first | exact trivial | refine ⟨rfl,?_⟩)))) ?_
        rintro ⟨j,hj⟩
        dsimp only
        by_cases hlt2 : j < L.length
        · have q1 := ints_gI (l := L) (j := (j : Int)) 0 hlt2 rfl
          generalize L.getD j 0 = c at *
          repeat' (first|refine wS ?_|refine wB ?_|refine wK ?_|refine wR ?_|refine wT ?_|(refine wC rfl (fun hb=>?_) (fun hb=>?_)<;>(((try simp only [nm] at hb);try (exfalso;omega))))|(refine rg 9 ?_;refine mmV ?_;refine qV T ?_;refine vV (by exact fs_lssT rfl rfl (by omega)) ?_)|(refine rg 11 ?_;refine mmV ?_;refine vV (by exact ix T rfl (by omega) (ints_len _) q1) ?_;refine lV T ?_;refine vV (by exact fs_lss rfl rfl) ?_;refine mV ?_;refine vc_split rfl rfl (fun hb=>?_) (fun hb=>?_)<;>((rw [hb];(try simp only [nm] at hb);try ((exfalso;omega);done)));(all_goals first|(refine gT ?_;(refine mV ?_);refine gT ?_;(refine mV ?_);refine gT ?_;(refine vV (by exact ix T rfl (by omega) (ints_len _) q1) ?_);refine gT ?_;(refine lV T ?_);refine gT ?_;(refine vV (by exact fs_gtr rfl rfl) ?_))|(iterate 5 refine gF ?_));(all_goals (refine pV ?_)))|(refine rg 12 ?_;refine aV ?_)|(refine rg 10 ?_;refine mV ?_;refine vV (by exact fs_addr rfl rfl (by omega) (by omega)) ?_;refine aV ?_)|refine nZ ?_)
          all_goals first | (exfalso;omega) | exact ⟨.b false,[],⟨rfl,false,rfl,fun h => Bool.noConfusion h⟩,rQ⟩ | exact ⟨⟨j + 1,by omega⟩,by dsimp only;omega,by (refine ⟨[],rfl,?_,trivial,List.nodup_nil,fun _ h => absurd h (Nat.not_lt_zero _)⟩;(repeat (first | exact trivial | refine ⟨rfl,?_⟩)))⟩
        · repeat' (first|refine wS ?_|refine wR ?_|refine wE ?_|refine aw_condf rfl ?_|(((refine rg 9 ?_));(all_goals (refine mV ?_;refine mV ?_;(refine qV T ?_);refine vV (by exact fs_lssF rfl rfl (by omega)) ?_)))|(((refine rg 13 ?_));(all_goals (refine aV ?_)))|(refine nZ ?_))
          all_goals first | (exfalso;omega) | exact ⟨_,_,⟨rfl,_,rfl,fun _ => ⟨f1,f2,f3,f4,f5⟩⟩,rQ⟩
  · have hno : ∀ a1 : (st.sh.length : Int) ≤ 12,∀ a2 : (st.rb.length : Int) ≤ 12,∀ a3 : (st.pp.length : Int) ≤ 12,∀ a4 : (st.dd.length : Int) ≤ 12,∀ a5 : (st.sk.length : Int) ≤ 12,False := fun a1 a2 a3 a4 a5 => hF ⟨by omega,by omega,by omega,by omega,by omega⟩
    repeat' (first|refine wS ?_|refine wK ?_|refine wR ?_|refine wT ?_|(refine wC rfl (fun hb=>?_) (fun hb=>?_)<;>(((try simp only [nm] at hb);try (exfalso;omega))))|(refine rg 0 ?_;refine vc_n (by exact fs_box rfl rfl) rfl ?_;refine aV ?_)|(refine rg 1 ?_;refine flV T ?_;refine qV T ?_;refine vV (by exact fs_gtr rfl rfl) ?_;refine mV ?_;refine vc_split rfl rfl (fun hb=>?_) (fun hb=>?_)<;>((rw [hb];(try simp only [nm] at hb);try ((exfalso;omega);done)));(all_goals first|(refine gT ?_;(refine fV T ?_);refine gT ?_;(refine lV T ?_);refine gT ?_;(refine qV T ?_);refine gT ?_;(refine vV (by exact fs_gtr rfl rfl) ?_))|(iterate 4 refine gF ?_));(all_goals (refine pV ?_;refine mV ?_));(all_goals first|(refine gK ?_)|(refine vc_split rfl rfl (fun hb=>?_) (fun hb=>?_)<;>((rw [hb];(try simp only [nm] at hb);try ((exfalso;omega);done)))));(all_goals first|(refine gT ?_;(refine fV T ?_);refine gT ?_;(refine lV T ?_);refine gT ?_;(refine qV T ?_);refine gT ?_;(refine vV (by exact fs_gtr rfl rfl) ?_))|(iterate 4 refine gF ?_));(all_goals (refine pV ?_;refine mV ?_));(all_goals first|(refine gK ?_)|(refine vc_split rfl rfl (fun hb=>?_) (fun hb=>?_)<;>((rw [hb];(try simp only [nm] at hb);try ((exfalso;omega);done)))));(all_goals first|(refine gT ?_;(refine fV T ?_);refine gT ?_;(refine lV T ?_);refine gT ?_;(refine qV T ?_);refine gT ?_;(refine vV (by exact fs_gtr rfl rfl) ?_))|(iterate 4 refine gF ?_));(all_goals (refine pV ?_;refine mV ?_));(all_goals first|(refine gK ?_)|(refine vc_split rfl rfl (fun hb=>?_) (fun hb=>?_)<;>((rw [hb];(try simp only [nm] at hb);try ((exfalso;omega);done)))));(all_goals first|(refine gT ?_;(refine fV T ?_);refine gT ?_;(refine lV T ?_);refine gT ?_;(refine qV T ?_);refine gT ?_;(refine vV (by exact fs_gtr rfl rfl) ?_))|(iterate 4 refine gF ?_));(all_goals (refine pV ?_)))|(refine rg 2 ?_;refine aV ?_)|refine nZ ?_)
    all_goals first | (exfalso;omega) | exact ⟨.b false,[],⟨rfl,false,rfl,fun h => Bool.noConfusion h⟩,rQ⟩ | (exfalso;exact hno (by omega) (by omega) (by omega) (by omega) (by omega))
end Go.Proofs.YtdmajnjoeidgeaaGreat
namespace Go.Proofs.YtdmajnjoeidgeaaGreat
open Go Go.Ab Go.Fl Go.Shelf Go.Proofs Go.MapKept
end Go.Proofs.YtdmajnjoeidgeaaGreat
namespace Go.Proofs.YtdmajnjoeidgeaaGreat
open Go Go.Ab Go.Fl Go.Shelf Go.Proofs Go.MapKept
attribute [local irreducible] VC AW FStep ACall PCall StrStruct StrT AStep
set_option maxHeartbeats 4000000
theorem FewP.more {s : Sit} (h : FewP s 30 12) : FewP s 300 1000 :=
  ⟨Nat.le_trans h.kl (by decide),Nat.le_trans h.ol (by decide),Nat.le_trans h.zl (by decide),Nat.le_trans h.al (by decide),Nat.le_trans h.sl (by decide),Nat.le_trans h.rl (by decide),fun z hz => ⟨Nat.le_trans (h.z z hz).1 (by decide),(h.z z hz).2⟩,h.a,h.s⟩
end Go.Proofs.YtdmajnjoeidgeaaGreat
namespace Go.Proofs.YtdmajnjoeidgeaaGreat
open Go Go.Ab Go.Fl
attribute [local irreducible] VC AW FStep ACall
def okI (n : Int) : Prop := (Lit.int .i64 n).wf = true
theorem opInt : Opens Tryz.prog 3 okI (fun n => [AV.i n]) := Opens.int Tryz.underlying3 (by kernel_rfl)
theorem opBool : Opens Tryz.prog 4 (fun _ => True) (fun b => [AV.b b]) := Opens.bool Tryz.underlying4 (by kernel_rfl)
theorem opStr : Opens Tryz.prog 9 (fun l : List UInt8 => l.length ≤ maxLen) (fun l => [AV.s l]) :=
  Opens.iso (Opens.string (by kernel_rfl) (by kernel_rfl)) (fun s : ByteArray => s.data.toList) fun s hs => ⟨by simpa using hs,rfl⟩
theorem opInts : Opens Tryz.prog 22 (fun l : List Int => l.length ≤ maxLen ∧ ∀ a,a ∈ l → okI a) (fun l => [.rowE (ints l) 1]) :=
  Opens.slice Tryz.underlying22 (by kernel_rfl) (by kernel_rfl) (by decide) opInt
theorem opFloor : Opens Tryz.prog 24 (fun _ : Flo => True) (fun p => floorC p) :=
  Opens.struct (fs := [(3, 0), (3, 1), (3, 2), (22, 3), (22, 4)]) (by kernel_rfl) (by kernel_rfl)
    (fun e W fuel css hl hx => by
      obtain ⟨a,h1,h2,h3⟩ := OpensF.cons opInt (OpensF.cons opInt (OpensF.cons opInt (OpensF.cons opInts (OpensF.cons opInts OpensF.nil)))) e W fuel css hl hx
      exact ⟨⟨a.1,a.2.1,a.2.2.1,a.2.2.2.1,a.2.2.2.2.1⟩,trivial,by simpa using h2,by simpa using h3⟩)
    (fun _ => by kernel_rfl)
theorem opSpan : Opens Tryz.prog 151 (fun _ : Int × Int => True) (fun x => [AV.i x.1,AV.i x.2]) :=
  Opens.struct (fs := [(3, 0), (3, 1)]) (by kernel_rfl) (by kernel_rfl)
    (fun e W fuel css hl hx => by
      obtain ⟨a,h1,h2,h3⟩ := OpensF.cons opInt (OpensF.cons opInt OpensF.nil) e W fuel css hl hx
      exact ⟨(a.1,a.2.1),trivial,by simpa using h2,by simpa using h3⟩)
    (fun _ => by kernel_rfl)
theorem opSpans : Opens Tryz.prog 90 (fun l : List (Int × Int) => l.length ≤ maxLen ∧ ∀ a,a ∈ l → True) (fun l => [.rowE (stksA l) 2]) :=
  Opens.slice Tryz.underlying90 (by kernel_rfl) (by kernel_rfl) (by decide) opSpan
theorem opStart : Opens Tryz.prog 108 (fun _ : Int × Int => True) (fun x => [AV.i x.1,AV.i x.2]) :=
  Opens.struct (fs := [(3, 0), (3, 1)]) (by kernel_rfl) (by kernel_rfl)
    (fun e W fuel css hl hx => by
      obtain ⟨a,h1,h2,h3⟩ := OpensF.cons opInt (OpensF.cons opInt OpensF.nil) e W fuel css hl hx
      exact ⟨(a.1,a.2.1),trivial,by simpa using h2,by simpa using h3⟩)
    (fun _ => by kernel_rfl)
theorem opStarts : Opens Tryz.prog 28 (fun l : List (Int × Int) => l.length ≤ maxLen ∧ ∀ a,a ∈ l → True) (fun l => [.rowE (stksA l) 2]) :=
  Opens.slice Tryz.underlying28 (by kernel_rfl) (by kernel_rfl) (by decide) opStart
theorem opApart : Opens Tryz.prog 94 (fun _ : List UInt8 × List UInt8 => True) (fun x => [AV.s x.1,AV.s x.2]) :=
  Opens.struct (fs := [(9, 0), (9, 1)]) (by kernel_rfl) (by kernel_rfl)
    (fun e W fuel css hl hx => by
      obtain ⟨a,h1,h2,h3⟩ := OpensF.cons opStr (OpensF.cons opStr OpensF.nil) e W fuel css hl hx
      exact ⟨(a.1,a.2.1),trivial,by simpa using h2,by simpa using h3⟩)
    (fun _ => by kernel_rfl)
theorem opAparts : Opens Tryz.prog 26 (fun l : List (List UInt8 × List UInt8) => l.length ≤ maxLen ∧ ∀ a,a ∈ l → True) (fun l => [.rowE (apsA l) 2]) :=
  Opens.slice Tryz.underlying26 (by kernel_rfl) (by kernel_rfl) (by decide) opApart
theorem opShelf : Opens Tryz.prog 96 (fun _ : Int × List UInt8 => True) (fun x => [AV.i x.1,AV.s x.2]) :=
  Opens.struct (fs := [(3, 0), (9, 1)]) (by kernel_rfl) (by kernel_rfl)
    (fun e W fuel css hl hx => by
      obtain ⟨a,h1,h2,h3⟩ := OpensF.cons opInt (OpensF.cons opStr OpensF.nil) e W fuel css hl hx
      exact ⟨(a.1,a.2.1),trivial,by simpa using h2,by simpa using h3⟩)
    (fun _ => by kernel_rfl)
theorem opShelves : Opens Tryz.prog 27 (fun l : List (Int × List UInt8) => l.length ≤ maxLen ∧ ∀ a,a ∈ l → True) (fun l => [.rowE (shsA l) 2]) :=
  Opens.slice Tryz.underlying27 (by kernel_rfl) (by kernel_rfl) (by decide) opShelf
theorem opZone : Opens Tryz.prog 92 (fun _ : Zon => True) zonA :=
  Opens.struct (fs := [(9, 0), (22, 1), (3, 2), (3, 3), (90, 4)]) (by kernel_rfl) (by kernel_rfl)
    (fun e W fuel css hl hx => by
      obtain ⟨a,h1,h2,h3⟩ := OpensF.cons opStr (OpensF.cons opInts (OpensF.cons opInt (OpensF.cons opInt (OpensF.cons opSpans OpensF.nil)))) e W fuel css hl hx
      exact ⟨(a.1,a.2.1,a.2.2.1,a.2.2.2.1,a.2.2.2.2.1),trivial,by simpa using h2,by simpa using h3⟩)
    (fun _ => by kernel_rfl)
theorem opZones : Opens Tryz.prog 25 (fun l : List Zon => l.length ≤ maxLen ∧ ∀ a,a ∈ l → True) (fun l => [.rowE (zonsA l) 5]) :=
  Opens.slice Tryz.underlying25 (by kernel_rfl) (by kernel_rfl) (by decide) opZone
theorem opSite : Opens Tryz.prog 30 (fun _ : Sit => True) (fun s => sitA s) :=
  Opens.struct (fs := [(24, 0), (25, 5), (26, 6), (27, 7), (28, 8)]) (by kernel_rfl) (by kernel_rfl)
    (fun e W fuel css hl hx => by
      obtain ⟨a,h1,h2,h3⟩ := OpensF.cons opFloor (OpensF.cons opZones (OpensF.cons opAparts (OpensF.cons opShelves (OpensF.cons opStarts OpensF.nil)))) e W fuel css hl hx
      exact ⟨⟨a.1,a.2.1,a.2.2.1,a.2.2.2.1,a.2.2.2.2.1⟩,trivial,by simpa using h2,by simpa using h3⟩)
    (fun _ => by kernel_rfl)
theorem opRobot : Opens Tryz.prog 47 (fun _ : Rob => True) robA :=
  Opens.struct (fs := [(3, 0), (3, 1), (3, 2), (3, 3), (3, 4), (4, 5)]) (by kernel_rfl) (by kernel_rfl)
    (fun e W fuel css hl hx => by
      obtain ⟨a,h1,h2,h3⟩ := OpensF.cons opInt (OpensF.cons opInt (OpensF.cons opInt (OpensF.cons opInt (OpensF.cons opInt (OpensF.cons opBool OpensF.nil))))) e W fuel css hl hx
      exact ⟨(a.1,a.2.1,a.2.2.1,a.2.2.2.1,a.2.2.2.2.1,a.2.2.2.2.2.1),trivial,by simpa using h2,by simpa using h3⟩)
    (fun _ => by kernel_rfl)
theorem opRobots : Opens Tryz.prog 31 (fun l : List Rob => l.length ≤ maxLen ∧ ∀ a,a ∈ l → True) (fun l => [.rowE (robsA l) 6]) :=
  Opens.slice Tryz.underlying31 (by kernel_rfl) (by kernel_rfl) (by decide) opRobot
theorem opStuck : Opens Tryz.prog 113 (fun _ : Int × Int => True) (fun x => [AV.i x.1,AV.i x.2]) :=
  Opens.struct (fs := [(3, 0), (3, 1)]) (by kernel_rfl) (by kernel_rfl)
    (fun e W fuel css hl hx => by
      obtain ⟨a,h1,h2,h3⟩ := OpensF.cons opInt (OpensF.cons opInt OpensF.nil) e W fuel css hl hx
      exact ⟨(a.1,a.2.1),trivial,by simpa using h2,by simpa using h3⟩)
    (fun _ => by kernel_rfl)
theorem opStucks : Opens Tryz.prog 32 (fun l : List (Int × Int) => l.length ≤ maxLen ∧ ∀ a,a ∈ l → True) (fun l => [.rowE (stksA l) 2]) :=
  Opens.slice Tryz.underlying32 (by kernel_rfl) (by kernel_rfl) (by decide) opStuck
theorem opState : Opens Tryz.prog 34 (fun _ : Stt => True) (fun s => sttA s) :=
  Opens.struct (fs := [(3, 0), (22, 1), (31, 2), (22, 3), (22, 4), (32, 5)]) (by kernel_rfl) (by kernel_rfl)
    (fun e W fuel css hl hx => by
      obtain ⟨a,h1,h2,h3⟩ := OpensF.cons opInt (OpensF.cons opInts (OpensF.cons opRobots (OpensF.cons opInts (OpensF.cons opInts (OpensF.cons opStucks OpensF.nil))))) e W fuel css hl hx
      exact ⟨⟨a.1,a.2.1,a.2.2.1,a.2.2.2.1,a.2.2.2.2.1,a.2.2.2.2.2.1⟩,trivial,by simpa using h2,by simpa using h3⟩)
    (fun _ => by kernel_rfl)
end Go.Proofs.YtdmajnjoeidgeaaGreat
namespace Go.Proofs.YtdmajnjoeidgeaaGreat
open Go Go.Ab Go.Fl
end Go.Proofs.YtdmajnjoeidgeaaGreat
namespace Go.Proofs.YtdmajnjoeidgeaaGreat
open Go Go.Ab Go.Fl Go.Re
attribute [local irreducible] VC AW FStep ACall AY VY AIter
set_option maxHeartbeats 4000000
section
variable {f : Flo}
end
end Go.Proofs.YtdmajnjoeidgeaaGreat
namespace Go.Ln
structure Bq (g : Net) (av : Int → Prop) (q : List Int) (fr : Int → Int) : Prop where
  nd : q.Nodup
  head : q[0]? = some g.st
  par : ∀ (k : Nat) (y : Int),q[k]? = some y → 0 < k → ∃ (j : Nat) (x : Int),j < k ∧ q[j]? = some x ∧ fr y = x ∧ y ∈ g.sp x ∧ ¬ av y ∧ g.ex x = false
def Bdone (g : Net) (av : Int → Prop) (q : List Int) (i : Nat) : Prop := ∀ (k : Nat) (x : Int),k < i → q[k]? = some x → g.ex x = false ∧ ∀ y,y ∈ g.sp x → ¬ av y → y ∈ q
structure Bl (g : Net) (av : Int → Prop) (q : List Int) (x : Int) (l : List Int) (k : Nat) : Prop where
  at' : q[k]? = some x
  way : Way g x l
  nd : l.Nodup
  later : ∀ z,z ∈ l → ∃ m : Nat,k < m ∧ q[m]? = some z
  av : ∀ z,z ∈ l → ¬ av z
theorem idx_uniq {q : List Int} (h : q.Nodup) {i j : Nat} {x : Int} (hi : q[i]? = some x) (hj : q[j]? = some x) : i = j :=
  (List.getElem?_inj (List.getElem?_eq_some_iff.1 hi).1 h).1 (hi.trans hj.symm)
theorem Bq.start {g : Net} {av : Int → Prop} {fr : Int → Int} : Bq g av [g.st] fr :=
  ⟨by simp,rfl,fun k y h hk => by rw [List.getElem?_eq_none (by simp;omega)] at h;cases h⟩
theorem Bq.add {g : Net} {av : Int → Prop} {q : List Int} {fr fr' : Int → Int} (h : Bq g av q fr) {i : Nat} {x y : Int} (hi : q[i]? = some x) (hy : y ∈ g.sp x) (hav : ¬ av y) (hx : g.ex x = false) (hn : y ∉ q) (hf : fr' y = x) (hf2 : ∀ z,z ≠ y → fr' z = fr z) : Bq g av (q ++ [y]) fr' := by
  have hil := (List.getElem?_eq_some_iff.1 hi).1
  refine ⟨?_,?_,fun k z hk h0 => ?_⟩
  · rw [List.nodup_append]
    exact ⟨h.nd,by simp,fun a ha b hb e => hn (by simp at hb;rw [← hb,← e];exact ha)⟩
  · rw [List.getElem?_append_left (by omega)];exact h.head
  · by_cases hkl : k < q.length
    · rw [List.getElem?_append_left hkl] at hk
      obtain ⟨j,w,h1,h2,h3,h4,h5,h6⟩ := h.par k z hk h0
      refine ⟨j,w,h1,by rw [List.getElem?_append_left (by omega)];exact h2,?_,h4,h5,h6⟩
      rw [hf2 z (fun e => hn (by rw [← e];exact List.mem_of_getElem? hk))];exact h3
    · rw [List.getElem?_append_right (by omega)] at hk
      have : k = q.length := by
        by_cases e : k - q.length = 0
        · omega
        · rw [List.getElem?_eq_none (by simp;omega)] at hk;cases hk
      subst this
      simp at hk
      subst hk
      exact ⟨i,x,hil,by rw [List.getElem?_append_left hil];exact hi,hf,hy,hav,hx⟩
theorem Bdone.add {g : Net} {av : Int → Prop} {q : List Int} {i : Nat} (h : Bdone g av q i) (hi : i ≤ q.length) (y : Int) : Bdone g av (q ++ [y]) i := fun k x hk hx => by
  rw [List.getElem?_append_left (by omega)] at hx
  obtain ⟨a,b⟩ := h k x hk hx
  exact ⟨a,fun z hz hz2 => List.mem_append_left _ (b z hz hz2)⟩
theorem Bdone.next {g : Net} {av : Int → Prop} {q : List Int} {i : Nat} (h : Bdone g av q i) {x : Int} (hi : q[i]? = some x) (hx : g.ex x = false) (hs : ∀ y,y ∈ g.sp x → ¬ av y → y ∈ q) : Bdone g av q (i + 1) := fun k z hk hz => by
  by_cases e : k = i
  · subst e;rw [hi] at hz;cases hz;exact ⟨hx,hs⟩
  · exact h k z (by omega) hz
theorem Bdone.no {g : Net} {av : Int → Prop} {q : List Int} (h : Bdone g av q q.length) : ∀ (r : List Int) (c : Int), c ∈ q → Way g c r → (∀ y, y ∈ r → ¬ av y) → False
  | [],c,hc,hw,_ => by
    obtain ⟨k,hk⟩ := List.mem_iff_getElem?.1 hc
    have := (h k c (List.getElem?_eq_some_iff.1 hk).1 hk).1
    have hw : g.ex c = true := hw
    rw [hw] at this;cases this
  | x :: r,c,hc,hw,ha => by
    obtain ⟨k,hk⟩ := List.mem_iff_getElem?.1 hc
    obtain ⟨_,h2,h3⟩ := hw
    exact Bdone.no h r x ((h k c (List.getElem?_eq_some_iff.1 hk).1 hk).2 x h2 (ha x (by simp))) h3 fun y hy => ha y (.tail _ hy)
theorem Bl.start {g : Net} {av : Int → Prop} {q : List Int} {x : Int} {k : Nat} (hk : q[k]? = some x) (hx : g.ex x = true) : Bl g av q x [] k :=
  ⟨hk,hx,by simp,(fun z h => by cases h),fun z h => by cases h⟩
theorem Bl.more {g : Net} {av : Int → Prop} {q : List Int} {fr : Int → Int} (h : Bq g av q fr) {x : Int} {l : List Int} {k : Nat} (hl : Bl g av q x l k) (hx : x ≠ g.st) : ∃ j,j < k ∧ Bl g av q (fr x) (x :: l) j := by
  have hk0 : 0 < k := by
    rcases Nat.eq_zero_or_pos k with e | e
    · subst e
      have := hl.at'
      rw [h.head] at this
      cases this;exact absurd rfl hx
    · exact e
  obtain ⟨j,w,h1,h2,h3,h4,h5,h6⟩ := h.par k x hl.at' hk0
  rw [h3]
  refine ⟨j,h1,h2,⟨h6,h4,hl.way⟩,List.nodup_cons.2 ⟨fun hm => ?_,hl.nd⟩,fun z hz => ?_,fun z hz => ?_⟩
  · obtain ⟨m,a,b⟩ := hl.later x hm
    have := idx_uniq h.nd hl.at' b
    omega
  · rcases List.mem_cons.1 hz with rfl | hz
    · exact ⟨k,h1,hl.at'⟩
    · obtain ⟨m,a,b⟩ := hl.later z hz
      exact ⟨m,by omega,b⟩
  · rcases List.mem_cons.1 hz with rfl | hz
    · exact h5
    · exact hl.av z hz
theorem Bl.done {g : Net} {av : Int → Prop} {q : List Int} {fr : Int → Int} (h : Bq g av q fr) {l : List Int} {k : Nat} (hl : Bl g av q g.st l k) : LaneP g (g.st :: l) ∧ ∀ z,z ∈ l → ¬ av z := by
  refine ⟨⟨List.nodup_cons.2 ⟨fun hm => ?_,hl.nd⟩,l,rfl,hl.way⟩,hl.av⟩
  obtain ⟨m,a,b⟩ := hl.later _ hm
  have := idx_uniq h.nd hl.at' b
  omega
theorem Bl.len {g : Net} {av : Int → Prop} {q : List Int} {x : Int} {l : List Int} {k : Nat} (hl : Bl g av q x l k) : l.length ≤ q.length :=
  nodup_sub hl.nd fun z hz => by obtain ⟨m,_,h⟩ := hl.later z hz;exact List.mem_of_getElem? h
end Go.Ln
namespace Go.Ab
open Go
end Go.Ab
namespace Go.Proofs.YtdmajnjoeidgeaaGreat
open Go Go.Ab Go.Fl Go.Re Go.Ln
attribute [local irreducible] VC AW FStep ACall PCall AStep
set_option maxHeartbeats 4000000
theorem ints_setP (l : List Int) (j : Nat) (v : Int) : (ints l).set j [AV.i v] = ints (l.set j v) := by
  simp [List.map_set]
end Go.Proofs.YtdmajnjoeidgeaaGreat
namespace Go.Proofs.YtdmajnjoeidgeaaGreat
open Go Go.Ab Go.Fl Go.Re
attribute [local irreducible] VC AW FStep ACall AY VY AIter
set_option maxHeartbeats 4000000
theorem getD_el {l : List Int} {m : Nat} (h : m < l.length) : l.getD m 0 = l[m] := by rw [List.getD_eq_getElem?_getD,List.getElem?_eq_getElem h];rfl
end Go.Proofs.YtdmajnjoeidgeaaGreat
namespace Go.Proofs.YtdmajnjoeidgeaaGreat
open Go Go.Ab Go.Fl Go.Re Go.Ln Go.MapKept
attribute [local irreducible] VC AW FStep ACall PCall AStep
set_option maxHeartbeats 4000000
theorem boolTL : BoolT Tryz.prog 4 := by unfold BoolT;kernel_rfl
end Go.Proofs.YtdmajnjoeidgeaaGreat
namespace Go.Proofs.YtdmajnjoeidgeaaGreat
open Go Go.Ab Go.Fl
end Go.Proofs.YtdmajnjoeidgeaaGreat
namespace Go.Proofs.YtdmajnjoeidgeaaGreat
open Go Go.Ab Go.Fl Go.Re Go.Ln Go.MapKept
attribute [local irreducible] VC AW FStep ACall PCall AStep
set_option maxHeartbeats 4000000
def lostF (waits : List Int) (lost b : Int) (i : Nat) : Int := if (i : Int) = lost then -1 else if i < waits.length then max 0 (min (waits.getD i 0) b) else 0
def lostS (waits : List Int) (lost b : Int) (N j : Nat) : List Int := (List.range N).map fun i => if i < j then lostF waits lost b i else 0
theorem lostS_len (waits : List Int) (lost b : Int) (N j : Nat) : (lostS waits lost b N j).length = N := by simp [lostS]
theorem lostS_at {waits : List Int} {lost b : Int} {N j i : Nat} (h : i < N) : (lostS waits lost b N j).getD i (-1) = if i < j then lostF waits lost b i else 0 := by
  unfold lostS;rw [List.getD_eq_getElem?_getD];simp [h]
theorem lostF_rng {waits : List Int} {lost b : Int} {i : Nat} (hb : 0 ≤ b) : -1 ≤ lostF waits lost b i ∧ lostF waits lost b i ≤ b ∧ ((i : Int) ≠ lost → 0 ≤ lostF waits lost b i) := by
  unfold lostF
  by_cases h : (i : Int) = lost
  · rw [if_pos h];exact ⟨by omega,by omega,fun q => absurd h q⟩
  · rw [if_neg h]
    split <;> exact ⟨by omega,by omega,fun _ => by omega⟩
theorem bound_ge (s : Sit) : 0 ≤ boundP s.fl := by
  unfold boundP
  have : ∀ (L : List (Int × List Int)) (n : Int),0 ≤ n → 0 ≤ L.foldl mxL n := by
    intro L
    induction L with
    | nil => intro n h;exact h
    | cons e L ih => intro n h;exact ih _ (by unfold mxL;omega)
  exact this _ 0 (by omega)
theorem cert_find {s : Sit} {L : List LaneT} (h1 : L.map (·.1) = kindC s.fl 4) {c : Int} (hc : c ∈ kindC s.fl 4) : ∃ x,x ∈ L ∧ x.1 = c ∧ L.find? (fun x => decide (x.1 = c)) = some x ∧ ∀ y,y ∈ L → y.1 = c → y = x := by
  rw [← h1] at hc
  obtain ⟨x,hx,rfl⟩ := List.mem_map.1 hc
  have hnd : (L.map (·.1)).Nodup := by rw [h1];exact (ofK_asc _ _ _).imp (fun h => by omega)
  have hu : ∀ y,y ∈ L → y.1 = x.1 → y = x := fun y hy e => by
    obtain ⟨i,hi,rfl⟩ := List.mem_iff_getElem.1 hy
    obtain ⟨j,hj,rfl⟩ := List.mem_iff_getElem.1 hx
    have : i = j := (List.getElem?_inj (by simpa using hi) hnd).1 (by rw [List.getElem?_map,List.getElem?_map,List.getElem?_eq_getElem hi,List.getElem?_eq_getElem hj];exact congrArg some e)
    subst this;rfl
  obtain ⟨z,hz⟩ : ∃ z,L.find? (fun y => decide (y.1 = x.1)) = some z := by
    cases hf : L.find? (fun y => decide (y.1 = x.1)) with
    | none => rw [List.find?_eq_none] at hf;have := hf _ hx;simp at this
    | some z => exact ⟨z,rfl⟩
  have hz1 := List.find?_some hz
  simp only [decide_eq_true_eq] at hz1
  have := hu z (List.mem_of_find?_eq_some hz) hz1
  subst this
  exact ⟨z,hx,rfl,hz,hu⟩
def selL (k : Int) (x : LaneT) : List Int := if k = 1 then x.2.2 else x.2.1
theorem stands_p {s : Sit} (g : Fine s.fl) {L : List LaneT} (h1 : L.map (·.1) = kindC s.fl 4) (h2 : ∀ x,x ∈ L → PairOk s x) {c lost : Int} (hc : c ∈ kindC s.fl 4) (hl : lost ≠ c) (waits : List Int) :
    ∃ k n,reqP L (boundP s.fl) c (lostS waits lost (boundP s.fl) s.fl.k.length s.fl.k.length) = (k,n,0) ∧ 0 ≤ n ∧ n ≤ boundP s.fl ∧ (k = 0 ∨ k = 1) ∧ ∀ x,x ∈ L → x.1 = c → ∀ y,y ∈ (selL k x).drop 1 → 0 ≤ y ∧ y < s.fl.k.length ∧ 0 ≤ (lostS waits lost (boundP s.fl) s.fl.k.length s.fl.k.length).getD y.toNat (-1) ∧ (lostS waits lost (boundP s.fl) s.fl.k.length s.fl.k.length).getD y.toNat (-1) ≤ n := by
  obtain ⟨x,hx,hxc,hf,hu⟩ := cert_find h1 hc
  have hb := bound_ge s
  have hwl := lostS_len waits lost (boundP s.fl) s.fl.k.length s.fl.k.length
  have hp := h2 x hx
  obtain ⟨p1,p2,p3⟩ := hp
  have hin : ∀ {l : List Int},LaneP (netP s (walkP s.fl) x.1) l → ∀ y,y ∈ l.drop 1 → 0 ≤ y ∧ y < s.fl.k.length ∧ y ≠ x.1 ∧ y ∈ l := fun {l} h y hy => by
    obtain ⟨r,e,e2,hW⟩ := lane_drop h
    rw [e2] at hy
    obtain ⟨q1,q2⟩ := hW y hy
    obtain ⟨w1,w2,_⟩ := mem_walk.1 q1
    exact ⟨w1,w2,q2,by rw [e];exact .tail _ hy⟩
  have hv : ∀ y : Int,0 ≤ y → y < s.fl.k.length → (lostS waits lost (boundP s.fl) s.fl.k.length s.fl.k.length).getD y.toNat (-1) = lostF waits lost (boundP s.fl) y.toNat := fun y h0 h1 => by
    rw [lostS_at (by omega),if_pos (by omega)]
  have hr : ∀ {l : List Int},LaneP (netP s (walkP s.fl) x.1) l → ∀ y,y ∈ l.drop 1 → 0 ≤ y ∧ y < (lostS waits lost (boundP s.fl) s.fl.k.length s.fl.k.length).length ∧ -1 ≤ (lostS waits lost (boundP s.fl) s.fl.k.length s.fl.k.length).getD y.toNat (-1) ∧ (lostS waits lost (boundP s.fl) s.fl.k.length s.fl.k.length).getD y.toNat (-1) ≤ boundP s.fl := fun {l} h y hy => by
    obtain ⟨a,b,_,_⟩ := hin h y hy
    have := lostF_rng (waits := waits) (lost := lost) (i := y.toNat) hb
    rw [hwl,hv y a b]
    exact ⟨a,b,this.1,this.2.1⟩
  have hne : ∀ {l : List Int},LaneP (netP s (walkP s.fl) x.1) l → lost ∉ l.drop 1 → ∀ y,y ∈ l.drop 1 → (lostS waits lost (boundP s.fl) s.fl.k.length s.fl.k.length).getD y.toNat (-1) ≠ -1 := fun {l} h hlo y hy => by
    obtain ⟨a,b,_,_⟩ := hin h y hy
    have := lostF_rng (waits := waits) (lost := lost) (i := y.toNat) hb
    rw [hv y a b]
    have h3 := this.2.2 (fun e => hlo (by rw [← e,Int.toNat_of_nonneg a];exact hy))
    omega
  have hor : (∀ y,y ∈ x.2.1.drop 1 → (lostS waits lost (boundP s.fl) s.fl.k.length s.fl.k.length).getD y.toNat (-1) ≠ -1) ∨ (∀ y,y ∈ x.2.2.drop 1 → (lostS waits lost (boundP s.fl) s.fl.k.length s.fl.k.length).getD y.toNat (-1) ≠ -1) := by
    by_cases q : lost ∈ x.2.1.drop 1
    · right
      refine hne p2 fun q2 => ?_
      have a := hin p1 _ q
      have b := hin p2 _ q2
      exact a.2.2.1 (p3 _ a.2.2.2 b.2.2.2)
    · exact .inl (hne p1 q)
  obtain ⟨k,n,e1,e2,e3,e4⟩ := req_free (x := x) (b := boundP s.fl) (w := lostS waits lost (boundP s.fl) s.fl.k.length s.fl.k.length) hb (hr p1) (hr p2) hor
  refine ⟨k,n,by unfold reqP;rw [hf];exact e1,e2,e3,by omega,fun x' hx' hc' => ?_⟩
  have := hu x' hx' hc'
  subst this
  intro y hy
  unfold selL at hy
  rcases e4 with ⟨rfl,e5⟩ | ⟨rfl,e5⟩
  · rw [if_neg (by decide)] at hy
    obtain ⟨a,b,_,_⟩ := hin p1 y hy
    exact ⟨a,b,e5 y hy⟩
  · rw [if_pos rfl] at hy
    obtain ⟨a,b,_,_⟩ := hin p2 y hy
    exact ⟨a,b,e5 y hy⟩
def bumpS (m : Int) (out : List Int) (i : Nat) (c : Int) : List Int := out.set c.toNat (max (out.getD c.toNat 0) (IntKind.i64.wrap (IntKind.i64.wrap (m + i) + 1)))
def bumpN (m : Int) (w : List Int) : Nat → List Int → List Int
  | 0,out => out
  | n + 1,out => bumpS m (bumpN m w n out) n (w.getD n 0)
def robW (f : Flo) (p : List Int × List Int) (r : Rob) : List Int × List Int :=
  if r.2.2.2.2.2 = true ∨ offR f r.1 = [] then (p.1,p.2 ++ [r.1]) else (bumpN (max r.2.2.2.1 r.2.2.2.2.1) (offR f r.1) ((offR f r.1).length - 1) p.1,p.2)
def markS (f : Flo) (out : List Int) (c : Int) : List Int := if c ∈ walkP f then out.set c.toNat (-1) else out
def robsW (f : Flo) (l : List Rob) : List Int × List Int := l.foldl (robW f) (List.replicate f.k.length 0,[])
def waitsP (f : Flo) (l : List Rob) (dd : List Int) : List Int := ((robsW f l).2 ++ dd).foldl (markS f) (robsW f l).1
theorem bumpN_len (m : Int) (w : List Int) : ∀ (n : Nat) (out : List Int), (bumpN m w n out).length = out.length
  | 0,_ => rfl
  | n + 1,out => by unfold bumpN bumpS;rw [List.length_set,bumpN_len m w n]
theorem waits_c (s : Sit) (g : Fine s.fl) (st : Stt) (hrl : st.rb.length ≤ 1000000) (hdl : st.dd.length ≤ 1000000) : ACall Tryz.prog 11 [.agg (sitA s),.agg (sttA st)] [] (.rowE (ints (waitsP s.fl st.rb st.dd)) 1) [] := by
  have hN := g.le
  have hWa := walk_asc s.fl
  have hWl := walk_len s.fl
  have ho := offs_c s g
  have cw := walkOf_c s (by omega)
  have hnd := offL_nd (f := s.fl) ((walk_asc s.fl).imp (fun h => by omega) : (walkP s.fl).Nodup)
  have hkl : (ints s.fl.k).length = s.fl.k.length := ints_length _
  have hrbl : (robsA st.rb).length = st.rb.length := by simp
  refine acall_frz (by simp : (waitsP s.fl st.rb st.dd).length = (ints (waitsP s.fl st.rb st.dd)).length) (idfL_flat (ints_idf _)) ?_
  refine acall T Tryz.func11 rfl rfl rfl rfl ?_
  repeat' (first|refine wS ?_|refine wB ?_|(refine rg 0 ?_;refine vc_n (by exact fs_box rfl rfl) rfl ?_;refine vc_n (by exact fs_box rfl rfl) rfl ?_;refine aV ?_)|(refine rg 1 ?_;refine fV T ?_;refine flV T ?_;refine qV T ?_;refine vc_n (by exact fs_makeSlice T rfl rfl rfl rfl (by omega) (by omega) (by dsimp only;omega) (by omega) (by decide)) rfl ?_;refine aV ?_)|(refine aw_draw2k (id := 2) 94 [[],[0],[],[0,1,2],[0,1,2,3]] [21,22,23,24,6] [[],[],[21,22],[],[]] mixedP rfl (by decide +kernel) ?_;refine dL T ?_;refine dw_n rfl rfl rfl (by exact fs_call rfl rfl ho (.inr ⟨rfl,rfl,by simp⟩)) rfl ?_;refine dL T ?_;refine dV rfl (by exact kC (cw)) ?_;refine dV rfl (by exact fs_assign rfl) ?_;refine dw_fin rfl rfl (by ((dsimp only [ln1,ln2,List.append_nil,ln4,ln5,ln6,ln7,ln8,ln9,putAt,putd,allObjs,argEnv,un_v,un_ptr,un_ep,un_pr,un_sl,un_mp,un_row,un_agg,un_tup,un_clo,Nat.zero_add,lnb,Nat.reduceAdd,lnc,lnd];done))) ?_;refine aV ?_)|(refine rg 3 ?_;refine aV ?_)|(refine rg 4 ?_;refine flV T ?_;refine qV T ?_;refine mV ?_)|refine nZ ?_)
  have hMl : ∀ e,e ∈ offL s.fl (walkP s.fl) → (e.2.length : Int) ≤ s.fl.k.length + 1 := fun e he => by
    obtain ⟨h1,h2,h3⟩ := mem_offL.1 he
    obtain ⟨w1,w2,_⟩ := mem_walk.1 h1
    have := off_le g e.1.toNat (by omega)
    rw [h3,offW_len];omega
  refine aw_own 8 1 rfl (by decide) ?_
  have hM : ∀ c w,(c,w) ∈ offL s.fl (walkP s.fl) ↔ c ∈ walkP s.fl ∧ 0 ≤ offD s.fl c.toNat ∧ w = offW s.fl c.toNat := fun c w => by rw [mem_offL]
  generalize offL s.fl (walkP s.fl) = M at *
  refine aw_loop (X := {p : Nat × List Int × List Int // p.1 ≤ st.rb.length ∧ robsW s.fl (st.rb.take p.1) = p.2 ∧ p.2.1.length = s.fl.k.length ∧ p.2.2.length ≤ p.1}) (fun p => [(2, .ptr 0 0), (3, .ptr 1 0), (5, .sl 2 0 s.fl.k.length 1), (6, .mp 3), (7, .rowE (ints (walkP s.fl)) 1), (8, .sl 4 0 p.1.2.2.length 1), (26, .rowE (robsA st.rb) 6), (27, .i st.rb.length), (28, .i (p.1.1 : Int))])
    (fun p => [.cells (sitA s),.cells (sttA st),.arr (ints p.1.2.1) 1,.mapO (okA M) (ovA M),.arr (ints p.1.2.2) 1]) (fun p => st.rb.length - p.1.1) ⟨(0,List.replicate s.fl.k.length 0,[]),Nat.zero_le _,rfl,by simp,Nat.zero_le _⟩ ⟨[0,1,2,3,4],rfl,⟨rfl,rfl,congrArg (fun n : Nat => some (AV.sl 2 0 n 1)) hkl,rfl,rfl,rfl,rfl,congrArg (fun n : Nat => some (AV.i n)) hrbl,rfl,trivial⟩,⟨.inr rfl,.inr rfl,.inr (sub_arr rfl (by dsimp only;rw [hkl,Int.toNat_natCast];exact (List.map_replicate (f := fun n : Int => [AV.i n]) (a := 0) (n := s.fl.k.length)).symm) (ints_idf _)),.inr (sub_map rfl rfl (mapL_idf _ _ (ov_idf _)) (ov_idf _)),.inr rfl,trivial⟩,by decide,nz0⟩ ?_
  rintro ⟨⟨k,out,lost⟩,hk,hrw,hol,hll⟩
  dsimp only at hk hrw hol hll ⊢
  by_cases hlt : k < st.rb.length
  · have qr : (robsA st.rb)[(k : Int).toNat]? = some (robA st.rb[k]) := by rw [Int.toNat_natCast];exact robs_get hlt
    have hnx : robsW s.fl (st.rb.take (k + 1)) = robW s.fl (out,lost) st.rb[k] := by
      unfold robsW at *
      rw [List.take_succ_eq_append_getElem hlt,List.foldl_append,hrw];rfl
    generalize st.rb[k] = r at *
    obtain ⟨rc,rg1,rk,rr,rm,rd⟩ := r
    by_cases hin : rc ∈ walkP s.fl ∧ 0 ≤ offD s.fl rc.toNat
    · obtain ⟨i,hi⟩ := List.mem_iff_getElem?.1 ((hM rc (offW s.fl rc.toNat)).2 ⟨hin.1,hin.2,rfl⟩)
      have k1 : (okA M)[i]? = some (kI rc) := by simp [hi]
      have k2 : (ovA M)[i]? = some (.rowE (ints (offW s.fl rc.toNat)) 1) := by simp [hi]
      have hof : offR s.fl rc = offW s.fl rc.toNat := if_pos hin
      have hwl := offW_len s.fl rc.toNat
      have hwN : ((offW s.fl rc.toNat).length : Int) ≤ s.fl.k.length + 1 := hMl _ (List.mem_of_getElem? hi)
      have hil : (ints (offW s.fl rc.toNat)).length = (offW s.fl rc.toNat).length := ints_length _
      cases rd with
      | true =>
        have hst : robW s.fl (out,lost) (rc,rg1,rk,rr,rm,true) = (out,lost ++ [rc]) := if_pos (.inl rfl)
        rw [hst] at hnx
        generalize offW s.fl rc.toNat = w at *
        repeat' (first|refine wS ?_|refine wB ?_|refine wK ?_|refine wE ?_|refine wT ?_|(refine rg 5 ?_;refine vV (by exact fs_lssT rfl rfl (by omega)) ?_)|(refine rg 6 ?_;refine vV (by exact ix T rfl (by omega) (robs_len _) qr) ?_;refine lV T ?_;refine vc_n (by exact fs_alloc T rfl) rfl ?_;refine vc_store T rfl rfl rfl rfl rfl rfl (by decide) rfl ?_)|(refine rg 7 ?_;refine mV ?_;refine flV T ?_;refine vV (by exact fs_mapGet1 mapIS intK rfl rfl (isv_i _) rfl (ok_good _) (good_i _) hnd k1 k2) ?_;refine aV ?_)|(refine rg 8 ?_;refine flV T ?_;refine mV ?_;refine gK ?_;(iterate 3 refine gF ?_);refine pV ?_)|(refine rg 9 ?_;refine mV ?_;refine flV T ?_;refine vc_n (by exact fs_buildSlice T rfl rfl (by decide) (by decide) rfl rfl rfl) rfl ?_;refine vc_append T rfl rfl rfl rfl rfl rfl (by simp) (Elems.whole rfl rfl) rfl (by simp;omega) (by simp;omega) rfl ?_;refine aV ?_)|(refine rg 15 ?_;refine vV (by exact fs_addr rfl rfl (by omega) (by omega)) ?_;refine mV ?_)|refine nZ ?_)
        all_goals exact ⟨⟨(k + 1,out,lost ++ [rc]),hlt,hnx,hol,by dsimp only;rw [List.length_append,List.length_singleton];omega⟩,by dsimp only;omega,[0,1,2,3,7],rfl,⟨rfl,rfl,rfl,rfl,rfl,by dsimp only;rw [List.length_append];rfl,rfl,rfl,rfl,trivial⟩,⟨.inr rfl,.inr rfl,.inr (sub_arr rfl rfl (ints_idf _)),.inr (sub_map rfl rfl rfl (ov_idf _)),.inr (sub_arr rfl ints_app (ints_idf _)),trivial⟩,by decide,nz0⟩
      | false =>
        have hne : ¬ (false = true ∨ offW s.fl rc.toNat = []) := fun h => h.elim (fun h => by cases h) (fun h => by rw [h] at hwl;simp at hwl)
        have hst : robW s.fl (out,lost) (rc,rg1,rk,rr,rm,false) = (bumpN (max rr rm) (offW s.fl rc.toNat) ((offW s.fl rc.toNat).length - 1) out,lost) := by
          unfold robW;rw [hof];exact if_neg hne
        rw [hst] at hnx
        have hwr : ∀ i (x : Int),(offW s.fl rc.toNat)[i]? = some x → 0 ≤ x ∧ x < s.fl.k.length := fun i x hx => by
          obtain ⟨h1,h2,_⟩ := mem_walk.1 hin.1
          obtain ⟨b,e1,e2,_⟩ := offW_at g (c := rc.toNat) (by omega) hin.2 (List.getElem?_eq_some_iff.1 hx).1
          rw [e1] at hx;cases hx;omega
        generalize offW s.fl rc.toNat = w at *
        have htk : (ints w).take (w.length - 1) = ints (w.take (w.length - 1)) := List.map_take.symm
        have hsl : ((ints w).length : Int) - 1 = ((w.length - 1 : Nat) : Int) := by omega
        repeat' (first|refine wS ?_|refine wB ?_|refine wK ?_|refine wT ?_|refine wU ?_|(refine rg 5 ?_;refine vV (by exact fs_lssT rfl rfl (by omega)) ?_)|(refine rg 6 ?_;refine vV (by exact ix T rfl (by omega) (robs_len _) qr) ?_;refine lV T ?_;refine vc_n (by exact fs_alloc T rfl) rfl ?_;refine vc_store T rfl rfl rfl rfl rfl rfl (by decide) rfl ?_)|(refine rg 7 ?_;refine mV ?_;refine flV T ?_;refine vV (by exact fs_mapGet1 mapIS intK rfl rfl (isv_i _) rfl (ok_good _) (good_i _) hnd k1 k2) ?_;refine aV ?_)|(refine rg 8 ?_;refine flV T ?_;refine mV ?_;refine gK ?_;refine yM ?_;refine gT ?_;refine qV T ?_;refine yV (by exact fs_eqlF rfl rfl (by omega)) ?_;refine pV ?_)|(refine rg 10 ?_;refine mmV ?_;refine qV T ?_;refine vV (by exact fs_subr rfl rfl (by omega) (by omega)) ?_;refine vV (by exact fs_sliceToE (k := w.length - 1) T rfl rfl rfl rfl (congrArg some hsl) (by omega) (ints_len _)) ?_;refine qV T ?_;refine mV ?_)|refine nZ ?_)
        rw [htk]
        have hwt : ∀ i (x : Int),(w.take (w.length - 1))[i]? = some x → w.getD i 0 = x ∧ 0 ≤ x ∧ x < s.fl.k.length := fun i x hx => by
          have hi := (List.getElem?_eq_some_iff.1 hx).1
          rw [List.length_take] at hi
          rw [List.getElem?_take_of_lt (by omega)] at hx
          exact ⟨by simp [List.getD_eq_getElem?_getD,hx],hwr i x hx⟩
        have hwtl : (w.take (w.length - 1)).length = w.length - 1 := by rw [List.length_take];omega
        generalize w.take (w.length - 1) = w' at *
        have hw'l : (ints w').length = w.length - 1 := by rw [ints_length,hwtl]
        refine aw_loop (X := {i : Nat // i ≤ w.length - 1}) (fun i => [(2, .ptr 0 0), (3, .ptr 1 0), (5, .sl 2 0 s.fl.k.length 1), (6, .mp 3), (7, .rowE (ints (walkP s.fl)) 1), (8, .sl 4 0 lost.length 1), (10, .ptr 5 0), (26, .rowE (robsA st.rb) 6), (27, .i st.rb.length), (28, .i (k : Int)), (52, .rowE (ints w') 1), (53, .i (w.length - 1 : Nat)), (54, .i (i.1 : Int))])
          (fun i => [.cells (sitA s),.cells (sttA st),.arr (ints (bumpN (max rr rm) w i.1 out)) 1,.mapO (okA M) (ovA M),.arr (ints lost) 1,.cells (robA (rc,rg1,rk,rr,rm,false))]) (fun i => w.length - 1 - i.1) ⟨0,Nat.zero_le _⟩ ⟨[0,1,2,3,4,5],rfl,⟨rfl,rfl,rfl,rfl,rfl,rfl,rfl,rfl,rfl,rfl,rfl,congrArg (fun n : Nat => some (AV.i n)) hw'l,rfl,trivial⟩,⟨.inr rfl,.inr rfl,.inr (sub_arr rfl rfl (ints_idf _)),.inr (sub_map rfl rfl rfl (ov_idf _)),.inr (sub_arr rfl rfl (ints_idf _)),.inr rfl,trivial⟩,by decide,nz0⟩ ?_
        rintro ⟨i2,hi2⟩
        dsimp only
        have hbl := bumpN_len (max rr rm) w i2 out
        by_cases hil : i2 < w.length - 1
        · obtain ⟨x,hx⟩ : ∃ x,w'[i2]? = some x := ⟨_,List.getElem?_eq_getElem (by omega)⟩
          obtain ⟨hx0,hx1,hx2⟩ := hwt i2 x hx
          have qw : (ints w')[(i2 : Int).toNat]? = some [AV.i x] := by rw [Int.toNat_natCast];simp [hx]
          have hbs : bumpN (max rr rm) w (i2 + 1) out = bumpS (max rr rm) (bumpN (max rr rm) w i2 out) i2 x := by rw [← hx0];rfl
          generalize bumpN (max rr rm) w i2 out = B at *
          have qx : (ints B)[0 + x.toNat]? = some [AV.i (B.getD x.toNat 0)] := by rw [Nat.zero_add];exact ints_gI 0 (by omega) (by omega)
          have hst2 : (ints B).set (0 + x.toNat) [AV.i (max (B.getD x.toNat 0) (IntKind.i64.wrap (IntKind.i64.wrap (max rr rm + i2) + 1)))] = ints (bumpS (max rr rm) B i2 x) := by
            rw [Nat.zero_add];exact ints_setP _ _ _
          repeat' (first|refine wS ?_|refine wB ?_|refine wK ?_|refine wT ?_|(refine rg 11 ?_;refine vV (by exact fs_lssT rfl rfl (by omega)) ?_)|(refine rg 12 ?_;refine mV ?_;refine vV (by exact ix T rfl (by omega) (ints_len _) qw) ?_;refine vV (by exact fs_load T rfl rfl rfl rfl) ?_;refine aaV ?_)|(refine aw_draw2k (id := 13) 94 [[],[],[],[],[2,3],[2,3,4],[],[6],[],[8],[6,7,8,9],[],[6,7,8,9,10,11],[6,7,8,9,10,11,12],[2,3,4,5,6,7,8,9,10,11,12,13]] [59,60,61,62,63,64,65,66,67,68,69,70,71,72,73] [[],[59],[59,60],[59,60,61],[59,60],[59,60],[59,60,61,62,63,64],[59,60,61,62,63,64],[59,60,61,62,63,64,65,66],[59,60,61,62,63,64,65,66],[59,60,61,62,63,64],[59,60,61,62,63,64,65,66,67,68,69],[59,60,61,62,63,64],[59,60,61,62,63,64],[59,60]] mixedP rfl (by decide +kernel) ?_;refine dM ?_;refine dM ?_;refine dM ?_;refine dM ?_;refine dV rfl (by exact fs_indexOwn T rfl rfl rfl rfl rfl (by omega) (by omega)) ?_;refine dV rfl (by exact fs_load T rfl rfl (behind_ep rfl qx) rfl) ?_;refine dF T ?_;refine dL T ?_;refine dF T ?_;refine dL T ?_;refine dV rfl (by exact fs_max rfl rfl) ?_;refine dM ?_;refine dV rfl (by exact fs_add rfl rfl) ?_;refine dV rfl (by exact fs_add rfl rfl) ?_;refine dV rfl (by exact fs_max rfl rfl) ?_;refine dw_fin rfl rfl (by ((dsimp only [ln1,ln2,List.append_nil,ln4,ln5,ln6,ln7,ln8,ln9,putAt,putd,allObjs,argEnv,un_v,un_ptr,un_ep,un_pr,un_sl,un_mp,un_row,un_agg,un_tup,un_clo,Nat.zero_add,lnb,Nat.reduceAdd,lnc,lnd];done))) ?_;refine vV (by exact fs_indexOwn T rfl rfl rfl rfl rfl (by omega) (by omega)) ?_;refine vc_store T rfl rfl rfl rfl rfl rfl (by decide) (upd_ep rfl qx rfl) ?_)|(refine rg 14 ?_;refine vV (by exact fs_addr rfl rfl (by omega) (by omega)) ?_;refine mV ?_)|refine nZ ?_)
          all_goals exact ⟨⟨i2 + 1,hil⟩,by dsimp only;omega,[0,1,2,3,4,5],rfl,(by (repeat (first | exact trivial | refine ⟨rfl,?_⟩))),⟨.inr rfl,.inr rfl,.inr (sub_arr rfl (by dsimp only;rw [hbs];exact hst2) (ints_idf _)),.inr (sub_map rfl rfl rfl (ov_idf _)),.inr (sub_arr rfl rfl (ints_idf _)),.inr rfl,trivial⟩,by decide,nz0⟩
        · obtain rfl : i2 = w.length - 1 := by omega
          repeat' (first|refine wS ?_|refine wE ?_|refine wU ?_|(refine rg 11 ?_;refine vV (by exact fs_lssF rfl rfl (by omega)) ?_)|(refine rg 15 ?_;refine vV (by exact fs_addr rfl rfl (by omega) (by omega)) ?_;refine mV ?_)|refine nZ ?_)
          all_goals exact ⟨⟨(k + 1,bumpN (max rr rm) w (w.length - 1) out,lost),hlt,hnx,by dsimp only;omega,by dsimp only;omega⟩,by dsimp only;omega,[0,1,2,3,4],rfl,(by (repeat (first | exact trivial | refine ⟨rfl,?_⟩))),⟨.inr rfl,.inr rfl,.inr (sub_arr rfl rfl (ints_idf _)),.inr (sub_map rfl rfl rfl (ov_idf _)),.inr (sub_arr rfl rfl (ints_idf _)),trivial⟩,by decide,nz0⟩
    · have hof : offR s.fl rc = [] := if_neg hin
      have hno : kI rc ∉ okA M := fun hm => by
        obtain ⟨e,he,q⟩ := List.mem_map.1 hm
        simp [kI] at q
        obtain ⟨h1,h2,_⟩ := (hM e.1 e.2).1 he
        rw [q] at h1 h2;exact hin ⟨h1,h2⟩
      have hst : robW s.fl (out,lost) (rc,rg1,rk,rr,rm,rd) = (out,lost ++ [rc]) := if_pos (.inr hof)
      rw [hst] at hnx
      cases rd with
      | true =>
        repeat' (first|refine wS ?_|refine wB ?_|refine wK ?_|refine wE ?_|refine wT ?_|(refine rg 5 ?_;refine vV (by exact fs_lssT rfl rfl (by omega)) ?_)|(refine rg 6 ?_;refine vV (by exact ix T rfl (by omega) (robs_len _) qr) ?_;refine lV T ?_;refine vc_n (by exact fs_alloc T rfl) rfl ?_;refine vc_store T rfl rfl rfl rfl rfl rfl (by decide) rfl ?_)|(refine rg 7 ?_;refine mV ?_;refine flV T ?_;refine vV (by exact fs_mapMiss1 (zA := .nils) mapIS intK zSl zSlA rfl rfl (isv_i _) rfl (ok_good _) (good_i _) hno) ?_;refine aV ?_)|(refine rg 8 ?_;refine flV T ?_;refine mV ?_;refine gK ?_;(iterate 3 refine gF ?_);refine pV ?_)|(refine rg 9 ?_;refine mV ?_;refine flV T ?_;refine vc_n (by exact fs_buildSlice T rfl rfl (by decide) (by decide) rfl rfl rfl) rfl ?_;refine vc_append T rfl rfl rfl rfl rfl rfl (by simp) (Elems.whole rfl rfl) rfl (by simp;omega) (by simp;omega) rfl ?_;refine aV ?_)|(refine rg 15 ?_;refine vV (by exact fs_addr rfl rfl (by omega) (by omega)) ?_;refine mV ?_)|refine nZ ?_)
        all_goals exact ⟨⟨(k + 1,out,lost ++ [rc]),hlt,hnx,hol,by dsimp only;rw [List.length_append,List.length_singleton];omega⟩,by dsimp only;omega,[0,1,2,3,7],rfl,⟨rfl,rfl,rfl,rfl,rfl,by dsimp only;rw [List.length_append];rfl,rfl,rfl,rfl,trivial⟩,⟨.inr rfl,.inr rfl,.inr (sub_arr rfl rfl (ints_idf _)),.inr (sub_map rfl rfl rfl (ov_idf _)),.inr (sub_arr rfl ints_app (ints_idf _)),trivial⟩,by decide,nz0⟩
      | false =>
        repeat' (first|refine wS ?_|refine wB ?_|refine wK ?_|refine wE ?_|refine wT ?_|(refine rg 5 ?_;refine vV (by exact fs_lssT rfl rfl (by omega)) ?_)|(refine rg 6 ?_;refine vV (by exact ix T rfl (by omega) (robs_len _) qr) ?_;refine lV T ?_;refine vc_n (by exact fs_alloc T rfl) rfl ?_;refine vc_store T rfl rfl rfl rfl rfl rfl (by decide) rfl ?_)|(refine rg 7 ?_;refine mV ?_;refine flV T ?_;refine vV (by exact fs_mapMiss1 (zA := .nils) mapIS intK zSl zSlA rfl rfl (isv_i _) rfl (ok_good _) (good_i _) hno) ?_;refine aV ?_)|(refine rg 8 ?_;refine flV T ?_;refine mV ?_;refine gK ?_;refine yM ?_;refine yV (by exact fs_lenNil T rfl rfl) ?_;refine yV (by exact fs_eqlT rfl rfl rfl) ?_;refine pV ?_)|(refine rg 9 ?_;refine mV ?_;refine flV T ?_;refine vc_n (by exact fs_buildSlice T rfl rfl (by decide) (by decide) rfl rfl rfl) rfl ?_;refine vc_append T rfl rfl rfl rfl rfl rfl (by simp) (Elems.whole rfl rfl) rfl (by simp;omega) (by simp;omega) rfl ?_;refine aV ?_)|(refine rg 15 ?_;refine vV (by exact fs_addr rfl rfl (by omega) (by omega)) ?_;refine mV ?_)|refine nZ ?_)
        all_goals exact ⟨⟨(k + 1,out,lost ++ [rc]),hlt,hnx,hol,by dsimp only;rw [List.length_append,List.length_singleton];omega⟩,by dsimp only;omega,[0,1,2,3,7],rfl,⟨rfl,rfl,rfl,rfl,rfl,by dsimp only;rw [List.length_append];rfl,rfl,rfl,rfl,trivial⟩,⟨.inr rfl,.inr rfl,.inr (sub_arr rfl rfl (ints_idf _)),.inr (sub_map rfl rfl rfl (ov_idf _)),.inr (sub_arr rfl ints_app (ints_idf _)),trivial⟩,by decide,nz0⟩
  · obtain rfl : k = st.rb.length := by omega
    rw [List.take_length] at hrw
    have hwp : waitsP s.fl st.rb st.dd = (lost ++ st.dd).foldl (markS s.fl) out := by unfold waitsP;rw [hrw]
    rw [hwp]
    have hddl : (ints st.dd).length = st.dd.length := ints_length _
    repeat' (first|refine wS ?_|refine wB ?_|refine wE ?_|refine wU ?_|(refine rg 5 ?_;refine vV (by exact fs_lssF rfl rfl (by omega)) ?_)|(refine rg 16 ?_;refine mV ?_;refine flV T ?_;refine vc_append T rfl rfl rfl rfl rfl rfl (by simp) (Elems.row (ints_len _)) (ints_one _) (by simp;omega) (by simp;omega) rfl ?_;refine qV T ?_;refine mV ?_)|refine nZ ?_)
    have hap : List.take lost.length (List.drop 0 (ints lost)) ++ ints st.dd = ints (lost ++ st.dd) := by
      rw [List.drop_zero,List.take_of_length_le (by simp)];simp
    generalize hZ : lost ++ st.dd = Z at *
    have hZl : Z.length = lost.length + st.dd.length := by rw [← hZ];simp
    refine aw_loop (X := {p : Nat × List Int // p.1 ≤ Z.length ∧ p.2 = (Z.take p.1).foldl (markS s.fl) out ∧ p.2.length = s.fl.k.length}) (fun p => [(5,.sl 0 0 s.fl.k.length 1),(7,.rowE (ints (walkP s.fl)) 1),(80,.sl 1 0 Z.length 1),(81,.i Z.length),(82,.i (p.1.1 : Int))]) (fun p => [.arr (ints p.1.2) 1,.arr (ints Z) 1]) (fun p => Z.length - p.1.1) ⟨(0,out),Nat.zero_le _,rfl,hol⟩ ⟨[2,5],rfl,⟨rfl,rfl,congrArg (fun n : Nat => some (AV.sl 5 0 n 1)) (show lost.length + (ints st.dd).length = Z.length by omega),congrArg (fun n : Nat => some (AV.i n)) (show lost.length + (ints st.dd).length = Z.length by omega),rfl,trivial⟩,⟨.inr (sub_arr rfl rfl (ints_idf _)),.inr (sub_arr rfl hap (ints_idf _)),trivial⟩,by decide,nz0⟩ ?_
    rintro ⟨⟨k,out2⟩,hk2,ho2,hl2⟩
    dsimp only at hk2 ho2 hl2 ⊢
    have hZi : (ints Z).length = Z.length := ints_length _
    have ho2l : (ints out2).length = s.fl.k.length := by rw [ints_length,hl2]
    by_cases hlt2 : k < Z.length
    · have qz : (ints Z)[0 + (k : Int).toNat]? = some [AV.i Z[k]] := by rw [Nat.zero_add,Int.toNat_natCast];exact ints_get hlt2
      have hnx : (Z.take (k + 1)).foldl (markS s.fl) out = markS s.fl out2 Z[k] := by rw [List.take_succ_eq_append_getElem hlt2,List.foldl_append,← ho2];rfl
      generalize Z[k] = c at *
      have ch := rhas_c (walkP s.fl) c hWa (by omega)
      by_cases hcw : c ∈ walkP s.fl
      · rw [decide_eq_true hcw] at ch
        obtain ⟨c1,c2,_⟩ := mem_walk.1 hcw
        have hms : markS s.fl out2 c = out2.set c.toNat (-1) := if_pos hcw
        rw [hms] at hnx
        have qx : (ints out2)[0 + c.toNat]? = some [AV.i (out2.getD c.toNat 0)] := by rw [Nat.zero_add];exact ints_gI 0 (by omega) (by omega)
        have hst : (ints out2).set (0 + c.toNat) [AV.i (-1)] = ints (out2.set c.toNat (-1)) := by rw [Nat.zero_add];exact ints_setP _ _ _
        repeat' (first|refine wS ?_|refine wB ?_|refine wK ?_|refine wT ?_|(refine rg 17 ?_;refine vV (by exact fs_lssT rfl rfl (by omega)) ?_)|(refine rg 18 ?_;refine vV (by exact fs_indexOwn T rfl rfl rfl rfl rfl (by omega) (by omega)) ?_;refine vV (by exact fs_load T rfl rfl (behind_ep rfl qz) rfl) ?_;refine aV ?_)|(refine rg 19 ?_;refine mmV ?_;refine vV (by exact kC (ch)) ?_)|(refine rg 20 ?_;refine mmV ?_;refine vV (by exact fs_indexOwn T rfl rfl rfl rfl rfl (by omega) (by omega)) ?_;refine vc_store T rfl rfl rfl rfl rfl rfl (by decide) (upd_ep rfl qx rfl) ?_)|(refine rg 21 ?_;refine vV (by exact fs_addr rfl rfl (by omega) (by omega)) ?_;refine mV ?_)|refine nZ ?_)
        all_goals exact ⟨⟨(k + 1,out2.set c.toNat (-1)),hlt2,hnx.symm,by dsimp only;rw [List.length_set];exact hl2⟩,by dsimp only;omega,[0,1],rfl,(by (repeat (first | exact trivial | refine ⟨rfl,?_⟩))),⟨.inr (sub_arr rfl hst (ints_idf _)),.inr (sub_arr rfl rfl (ints_idf _)),trivial⟩,by decide,nz0⟩
      · rw [decide_eq_false hcw] at ch
        have hms : markS s.fl out2 c = out2 := if_neg hcw
        rw [hms] at hnx
        repeat' (first|refine wS ?_|refine wB ?_|refine wK ?_|refine wT ?_|refine wU ?_|(refine rg 17 ?_;refine vV (by exact fs_lssT rfl rfl (by omega)) ?_)|(refine rg 18 ?_;refine vV (by exact fs_indexOwn T rfl rfl rfl rfl rfl (by omega) (by omega)) ?_;refine vV (by exact fs_load T rfl rfl (behind_ep rfl qz) rfl) ?_;refine aV ?_)|(refine rg 19 ?_;refine mmV ?_;refine vV (by exact kC (ch)) ?_)|(refine rg 21 ?_;refine vV (by exact fs_addr rfl rfl (by omega) (by omega)) ?_;refine mV ?_)|refine nZ ?_)
        all_goals exact ⟨⟨(k + 1,out2),hlt2,hnx.symm,hl2⟩,by dsimp only;omega,[0,1],rfl,(by (repeat (first | exact trivial | refine ⟨rfl,?_⟩))),⟨.inr (sub_arr rfl rfl (ints_idf _)),.inr (sub_arr rfl rfl (ints_idf _)),trivial⟩,by decide,nz0⟩
    · obtain rfl : k = Z.length := by omega
      rw [List.take_length] at ho2
      rw [← ho2]
      repeat' (first|refine wS ?_|refine wR ?_|refine wE ?_|refine wU ?_|(refine rg 17 ?_;refine vV (by exact fs_lssF rfl rfl (by omega)) ?_)|(refine rg 22 ?_;refine mV ?_;refine aV ?_)|refine nZ ?_)
      all_goals exact ⟨.inl rfl,[0],_,rfl,congrArg (fun n : Nat => AV.sl 0 0 n 1) hl2.symm,rfl,⟨.inr (sub_arr rfl rfl (ints_idf _)),trivial⟩,by decide,nz0⟩
end Go.Proofs.YtdmajnjoeidgeaaGreat
namespace Go.Proofs.YtdmajnjoeidgeaaGreat
open Go Go.Ab Go.Fl Go.Re Go.Ln
theorem off_bound {f : Flo} (c : Int) : ((offR f c).length : Int) - 1 ≤ boundP f ∨ offR f c = [] := by
  unfold offR
  split
  · rename_i h
    have hm : (c,offW f c.toNat) ∈ offL f (walkP f) := mem_offL.2 ⟨h.1,h.2,rfl⟩
    have : ∀ (L : List (Int × List Int)) (n : Int),(∀ e,e ∈ L → (e.2.length : Int) - 1 ≤ L.foldl mxL n) ∧ n ≤ L.foldl mxL n := by
      intro L
      induction L with
      | nil => exact fun n => ⟨(fun e h => by cases h),Int.le_refl _⟩
      | cons x L ih =>
        intro n
        obtain ⟨i1,i2⟩ := ih (mxL n x)
        rw [List.foldl_cons]
        have h1 : n ≤ mxL n x := by unfold mxL;omega
        have h2 : (x.2.length : Int) - 1 ≤ mxL n x := by unfold mxL;omega
        refine ⟨fun e he => ?_,by omega⟩
        rcases List.mem_cons.1 he with rfl | he
        · omega
        · exact i1 e he
    exact .inl ((this _ 0).1 _ hm)
  · exact .inr rfl
def InB (N : Nat) (b : Int) (out : List Int) : Prop := out.length = N ∧ ∀ j : Nat,0 ≤ out.getD j 0 ∧ out.getD j 0 ≤ b
theorem InB.zero {N : Nat} {b : Int} (hb : 0 ≤ b) : InB N b (List.replicate N 0) := ⟨by simp,fun j => by
  rw [List.getD_eq_getElem?_getD,List.getElem?_replicate];split <;> simp [hb]⟩
theorem InB.bump {N : Nat} {b : Int} {w : List Int} : ∀ (n : Nat) {out : List Int}, InB N b out → (n : Int) ≤ b → b ≤ 1000000 → InB N b (bumpN 0 w n out)
  | 0,out,h,_,_ => h
  | n + 1,out,h,hn,hb => by
    have ih := InB.bump (w := w) n h (by omega) hb
    unfold bumpN bumpS
    refine ⟨by rw [List.length_set];exact ih.1,fun j => ?_⟩
    have e1 : IntKind.i64.wrap (0 + (n : Int)) = n := by rw [Int.zero_add];exact IntWalk.i64_in _ (by omega)
    have e2 : IntKind.i64.wrap ((n : Int) + 1) = n + 1 := IntWalk.i64_in _ (by omega)
    rw [e1,e2,getD_set]
    have h1 := ih.2 (w.getD n 0).toNat
    split
    · omega
    · exact ih.2 j
theorem rev_ind {α : Type} {P : List α → Prop} (h0 : P []) (h1 : ∀ l a,P l → P (l ++ [a])) (l : List α) : P l := by
  have : ∀ l : List α,P l.reverse := fun l => by
    induction l with
    | nil => exact h0
    | cons a l ih => rw [List.reverse_cons];exact h1 _ _ ih
  have := this l.reverse
  rwa [List.reverse_reverse] at this
theorem robsW_snoc (f : Flo) (l : List Rob) (r : Rob) : robsW f (l ++ [r]) = robW f (robsW f l) r := by
  unfold robsW;rw [List.foldl_append];rfl
theorem robsW_ok {f : Flo} (hb : 0 ≤ boundP f) (hB : boundP f ≤ 1000000) : ∀ l : List Rob,(∀ r,r ∈ l → r.1 ∈ walkP f → r.2.2.2.1 = 0 ∧ r.2.2.2.2.1 = 0) → InB f.k.length (boundP f) (robsW f l).1 ∧ ∀ c,c ∈ (robsW f l).2 ↔ ∃ r,r ∈ l ∧ r.1 = c ∧ (r.2.2.2.2.2 = true ∨ offR f c = []) := by
  intro l
  refine rev_ind (P := fun l => (∀ r,r ∈ l → r.1 ∈ walkP f → r.2.2.2.1 = 0 ∧ r.2.2.2.2.1 = 0) → InB f.k.length (boundP f) (robsW f l).1 ∧ ∀ c,c ∈ (robsW f l).2 ↔ ∃ r,r ∈ l ∧ r.1 = c ∧ (r.2.2.2.2.2 = true ∨ offR f c = [])) ?_ ?_ l
  · exact fun _ => ⟨InB.zero hb,fun c => by simp [robsW]⟩
  · intro l r ih h
    obtain ⟨i1,i2⟩ := ih fun x hx => h x (List.mem_append_left _ hx)
    rw [robsW_snoc]
    unfold robW
    split
    · rename_i hc
      refine ⟨i1,fun c => ?_⟩
      rw [List.mem_append,i2,List.mem_singleton]
      constructor
      · rintro (⟨x,h1,h2⟩ | rfl)
        · exact ⟨x,List.mem_append_left _ h1,h2⟩
        · exact ⟨r,by simp,rfl,hc⟩
      · rintro ⟨x,h1,h2,h3⟩
        rcases List.mem_append.1 h1 with h1 | h1
        · exact .inl ⟨x,h1,h2,h3⟩
        · simp at h1;subst h1;exact .inr h2.symm
    · rename_i hc
      have hne : offR f r.1 ≠ [] := fun e => hc (.inr e)
      have hw : r.1 ∈ walkP f := by
        refine Classical.byContradiction fun hn => hne ?_
        unfold offR;rw [if_neg (fun q => hn q.1)]
      obtain ⟨z1,z2⟩ := h r (by simp) hw
      rw [z1,z2]
      have hob : ((offR f r.1).length : Int) - 1 ≤ boundP f := (off_bound r.1).resolve_right hne
      refine ⟨InB.bump _ i1 (by omega) hB,fun c => ?_⟩
      rw [i2]
      constructor
      · rintro ⟨x,h1,h2⟩;exact ⟨x,List.mem_append_left _ h1,h2⟩
      · rintro ⟨x,h1,h2,h3⟩
        rcases List.mem_append.1 h1 with h1 | h1
        · exact ⟨x,h1,h2,h3⟩
        · simp at h1;subst h1;exact absurd (h2 ▸ h3) hc
theorem mark_at (f : Flo) : ∀ (l : List Int) (out : List Int), out.length = f.k.length → (l.foldl (markS f) out).length = f.k.length ∧ ∀ j : Nat, j < f.k.length → (l.foldl (markS f) out).getD j 0 = if (j : Int) ∈ walkP f ∧ (j : Int) ∈ l then -1 else out.getD j 0
  | [],out,h => ⟨h,fun j hj => by simp⟩
  | c :: l,out,h => by
    have hl : (markS f out c).length = f.k.length := by unfold markS;split <;> simp [h]
    obtain ⟨i1,i2⟩ := mark_at f l (markS f out c) hl
    rw [List.foldl_cons]
    refine ⟨i1,fun j hj => ?_⟩
    rw [i2 j hj]
    by_cases hjl : (j : Int) ∈ walkP f ∧ (j : Int) ∈ l
    · rw [if_pos hjl,if_pos ⟨hjl.1,List.mem_cons_of_mem _ hjl.2⟩]
    · rw [if_neg hjl]
      unfold markS
      split
      · rename_i hcw
        obtain ⟨c1,c2,_⟩ := mem_walk.1 hcw
        rw [getD_set]
        by_cases e : j = c.toNat
        · have e2 : (j : Int) = c := by omega
          rw [if_pos ⟨by omega,by omega⟩,if_pos ⟨e2 ▸ hcw,by rw [e2];simp⟩]
        · rw [if_neg (fun q => e (by omega)),if_neg (fun q => ?_)]
          rcases List.mem_cons.1 q.2 with h1 | h1
          · omega
          · exact hjl ⟨q.1,h1⟩
      · rename_i hcw
        rw [if_neg (fun q => ?_)]
        rcases List.mem_cons.1 q.2 with h1 | h1
        · exact hcw (h1 ▸ q.1)
        · exact hjl ⟨q.1,h1⟩
theorem waits_at {f : Flo} (hb : 0 ≤ boundP f) (hB : boundP f ≤ 1000000) (rb : List Rob) (dd : List Int) (h : ∀ r,r ∈ rb → r.1 ∈ walkP f → r.2.2.2.1 = 0 ∧ r.2.2.2.2.1 = 0 ∧ offR f r.1 ≠ []) :
    (waitsP f rb dd).length = f.k.length ∧ ∀ j : Nat,j < f.k.length → ((j : Int) ∈ walkP f ∧ ((∃ r,r ∈ rb ∧ r.1 = j ∧ r.2.2.2.2.2 = true) ∨ (j : Int) ∈ dd) → (waitsP f rb dd).getD j 0 = -1) ∧ (¬ ((j : Int) ∈ walkP f ∧ ((∃ r,r ∈ rb ∧ r.1 = j ∧ r.2.2.2.2.2 = true) ∨ (j : Int) ∈ dd)) → 0 ≤ (waitsP f rb dd).getD j 0 ∧ (waitsP f rb dd).getD j 0 ≤ boundP f) := by
  obtain ⟨h1,h2⟩ := robsW_ok hb hB rb fun r hr hw => ⟨(h r hr hw).1,(h r hr hw).2.1⟩
  obtain ⟨m1,m2⟩ := mark_at f ((robsW f rb).2 ++ dd) (robsW f rb).1 h1.1
  unfold waitsP
  refine ⟨m1,fun j hj => ?_⟩
  rw [m2 j hj]
  have key : (j : Int) ∈ walkP f → ((j : Int) ∈ (robsW f rb).2 ++ dd ↔ (∃ r,r ∈ rb ∧ r.1 = j ∧ r.2.2.2.2.2 = true) ∨ (j : Int) ∈ dd) := fun hw => by
    rw [List.mem_append,h2]
    constructor
    · rintro (⟨r,r1,r2,r3 | r3⟩ | hd)
      · exact .inl ⟨r,r1,r2,r3⟩
      · exact absurd (r2.symm ▸ r3) (h r r1 (r2.symm ▸ hw)).2.2
      · exact .inr hd
    · rintro (⟨r,r1,r2,r3⟩ | hd)
      · exact .inl ⟨r,r1,r2,.inl r3⟩
      · exact .inr hd
  refine ⟨fun hq => if_pos ⟨hq.1,(key hq.1).2 hq.2⟩,fun hq => ?_⟩
  rw [if_neg (fun q => hq ⟨q.1,(key q.1).1 q.2⟩)]
  exact h1.2 j
def lostRS (f : Flo) (out : List Bool) (r : Rob) : List Bool := if r.1 ∈ walkP f then out.set r.1.toNat (out.getD r.1.toNat false || r.2.2.2.2.2) else out
def lostDS (f : Flo) (out : List Bool) (c : Int) : List Bool := out.set c.toNat (out.getD c.toNat false || decide (c ∈ walkP f))
def lostR (f : Flo) (l : List Rob) : List Bool := l.foldl (lostRS f) (List.replicate f.k.length false)
def lostP (f : Flo) (rb : List Rob) (dd : List Int) : List Bool := dd.foldl (lostDS f) (lostR f rb)
theorem lostR_snoc (f : Flo) (l : List Rob) (r : Rob) : lostR f (l ++ [r]) = lostRS f (lostR f l) r := by
  unfold lostR;rw [List.foldl_append];rfl
theorem lostRS_len (f : Flo) (out : List Bool) (r : Rob) : (lostRS f out r).length = out.length := by unfold lostRS;split <;> simp
theorem lostDS_len (f : Flo) (out : List Bool) (c : Int) : (lostDS f out c).length = out.length := by unfold lostDS;simp
theorem lostR_len (f : Flo) (l : List Rob) : (lostR f l).length = f.k.length := by
  refine rev_ind (P := fun l => (lostR f l).length = f.k.length) (by simp [lostR]) (fun l a h => ?_) l
  rw [lostR_snoc,lostRS_len,h]
theorem setB_getD (l : List Bool) (i j : Nat) (x : Bool) (hi : i < l.length) : (l.set i x).getD j false = if i = j then x else l.getD j false := by
  rw [List.getD_eq_getElem?_getD,List.getElem?_set,List.getD_eq_getElem?_getD]
  by_cases h : i = j
  · rw [if_pos h,if_pos h,if_pos hi];rfl
  · rw [if_neg h,if_neg h]
theorem lostR_at (f : Flo) (l : List Rob) : (∀ r,r ∈ l → 0 ≤ r.1 ∧ r.1 < f.k.length) → ∀ j : Nat,j < f.k.length → ((lostR f l).getD j false = true ↔ (j : Int) ∈ walkP f ∧ ∃ r,r ∈ l ∧ r.1 = j ∧ r.2.2.2.2.2 = true) := by
  refine rev_ind (P := fun (l : List Rob) => (∀ r : Rob,r ∈ l → (0 : Int) ≤ r.1 ∧ r.1 < (f.k.length : Int)) → ∀ j : Nat,j < f.k.length → ((lostR f l).getD j false = true ↔ (j : Int) ∈ walkP f ∧ ∃ r,r ∈ l ∧ r.1 = j ∧ r.2.2.2.2.2 = true)) (fun _ j hj => ?_) (fun l a h hr j hj => ?_) l
  · unfold lostR
    simp only [List.foldl_nil,List.not_mem_nil,false_and,exists_false,and_false,iff_false]
    rw [List.getD_eq_getElem?_getD];simp [hj]
  · have h := h (fun r q => hr r (List.mem_append_left _ q)) j hj
    obtain ⟨a0,a1⟩ := hr a (List.mem_append_right _ (List.mem_singleton_self _))
    have hl := lostR_len f l
    rw [lostR_snoc]
    unfold lostRS
    by_cases hw : a.1 ∈ walkP f
    · rw [if_pos hw,setB_getD _ _ _ _ (by omega)]
      by_cases e : a.1.toNat = j
      · subst e
        rw [if_pos rfl]
        have e' : ((a.1.toNat : Nat) : Int) = a.1 := Int.toNat_of_nonneg a0
        rw [e'] at h ⊢
        rw [Bool.or_eq_true,h]
        constructor
        · rintro (⟨_,r,r1,r2,r3⟩ | q)
          · exact ⟨hw,r,List.mem_append_left _ r1,r2,r3⟩
          · exact ⟨hw,a,List.mem_append_right _ (List.mem_singleton_self _),rfl,q⟩
        · rintro ⟨_,r,r1,r2,r3⟩
          rcases List.mem_append.1 r1 with r1 | r1
          · exact .inl ⟨hw,r,r1,r2,r3⟩
          · rw [List.mem_singleton] at r1;subst r1;exact .inr r3
      · rw [if_neg e,h]
        constructor
        · rintro ⟨hj,r,r1,r2,r3⟩;exact ⟨hj,r,List.mem_append_left _ r1,r2,r3⟩
        · rintro ⟨hj,r,r1,r2,r3⟩
          rcases List.mem_append.1 r1 with r1 | r1
          · exact ⟨hj,r,r1,r2,r3⟩
          · rw [List.mem_singleton] at r1;subst r1;omega
    · rw [if_neg hw,h]
      constructor
      · rintro ⟨hj,r,r1,r2,r3⟩;exact ⟨hj,r,List.mem_append_left _ r1,r2,r3⟩
      · rintro ⟨hj,r,r1,r2,r3⟩
        rcases List.mem_append.1 r1 with r1 | r1
        · exact ⟨hj,r,r1,r2,r3⟩
        · rw [List.mem_singleton] at r1;subst r1;rw [← r2] at hj;exact absurd hj hw
theorem lostD_at (f : Flo) : ∀ (l : List Int) (out : List Bool), (∀ c, c ∈ l → 0 ≤ c ∧ c < f.k.length) → out.length = f.k.length → (l.foldl (lostDS f) out).length = f.k.length ∧ ∀ j : Nat, ((l.foldl (lostDS f) out).getD j false = true ↔ out.getD j false = true ∨ ((j : Int) ∈ walkP f ∧ (j : Int) ∈ l))
  | [],out,_,ho => ⟨ho,fun j => by simp⟩
  | c :: l,out,hc,ho => by
      obtain ⟨c0,c1⟩ := hc c (List.mem_cons_self ..)
      obtain ⟨h1,h2⟩ := lostD_at f l (lostDS f out c) (fun x q => hc x (List.mem_cons_of_mem _ q)) (by rw [lostDS_len,ho])
      rw [List.foldl_cons]
      refine ⟨h1,fun j => ?_⟩
      rw [h2]
      unfold lostDS
      rw [setB_getD _ _ _ _ (by omega)]
      by_cases e : c.toNat = j
      · subst e
        have e' : ((c.toNat : Nat) : Int) = c := by omega
        rw [if_pos rfl,e',Bool.or_eq_true,decide_eq_true_eq,List.mem_cons]
        constructor
        · rintro ((q | q) | ⟨q1,q2⟩)
          · exact .inl q
          · exact .inr ⟨q,.inl rfl⟩
          · exact .inr ⟨q1,.inr q2⟩
        · rintro (q | ⟨q1,_⟩)
          · exact .inl (.inl q)
          · exact .inl (.inr q1)
      · rw [if_neg e,List.mem_cons]
        have e2 : (j : Int) ≠ c := by omega
        constructor
        · rintro (q | ⟨q1,q2⟩)
          · exact .inl q
          · exact .inr ⟨q1,.inr q2⟩
        · rintro (q | ⟨q1,q2 | q2⟩)
          · exact .inl q
          · exact absurd q2 e2
          · exact .inr ⟨q1,q2⟩
theorem lostP_at {f : Flo} {rb : List Rob} {dd : List Int} (hr : ∀ r,r ∈ rb → 0 ≤ r.1 ∧ r.1 < f.k.length) (hd : ∀ c,c ∈ dd → 0 ≤ c ∧ c < f.k.length) :
    (lostP f rb dd).length = f.k.length ∧ ∀ j : Nat,j < f.k.length → ((lostP f rb dd).getD j false = true ↔ (j : Int) ∈ walkP f ∧ ((∃ r,r ∈ rb ∧ r.1 = j ∧ r.2.2.2.2.2 = true) ∨ (j : Int) ∈ dd)) := by
  unfold lostP
  obtain ⟨h1,h2⟩ := lostD_at f dd (lostR f rb) hd (lostR_len f rb)
  refine ⟨h1,fun j hj => ?_⟩
  rw [h2,lostR_at f rb hr j hj]
  constructor
  · rintro (⟨q1,q2⟩ | ⟨q1,q2⟩)
    · exact ⟨q1,.inl q2⟩
    · exact ⟨q1,.inr q2⟩
  · rintro ⟨q1,q2 | q2⟩
    · exact .inl ⟨q1,q2⟩
    · exact .inr ⟨q1,q2⟩
theorem cnt_one : ∀ (l : List Bool), l.count true ≤ 1 → ∀ i j : Nat, l.getD i false = true → l.getD j false = true → i = j
  | [],_,i,j,h,_ => by simp at h
  | b :: l,hc,i,j,hi,hj => by
      have h0 : b = true → ∀ k : Nat,l.getD k false ≠ true := fun hb k hk => by
        subst hb
        rw [List.count_cons_self] at hc
        have : l.count true = 0 := by omega
        rw [List.count_eq_zero] at this
        rw [List.getD_eq_getElem?_getD] at hk
        by_cases hkl : k < l.length
        · rw [List.getElem?_eq_getElem hkl] at hk
          exact this (by rw [← show l[k] = true from hk];exact List.getElem_mem _)
        · rw [List.getElem?_eq_none (by omega)] at hk;cases hk
      have hl : l.count true ≤ 1 := by
        rw [List.count_cons] at hc;split at hc <;> omega
      match i,j with
      | 0,0 => rfl
      | 0,j + 1 => exact absurd (by simpa using hj) (h0 (by simpa using hi) j)
      | i + 1,0 => exact absurd (by simpa using hi) (h0 (by simpa using hj) i)
      | i + 1,j + 1 => rw [cnt_one l hl i j (by simpa using hi) (by simpa using hj)]
theorem lost_one {l : List Bool} (h : l.count true ≤ 1) : ∃ c : Int,∀ j : Nat,j < l.length → (l.getD j false = true ↔ (j : Int) = c) := by
  by_cases he : ∃ i : Nat,l.getD i false = true
  · obtain ⟨i,hi⟩ := he
    refine ⟨i,fun j _ => ⟨fun q => by rw [cnt_one l h j i q hi],fun q => ?_⟩⟩
    obtain rfl : j = i := by omega
    exact hi
  · refine ⟨-1,fun j _ => ⟨fun q => absurd ⟨j,q⟩ he,fun q => by omega⟩⟩
theorem cnt_snoc {l : List Bool} {k : Nat} (h : k < l.length) : (l.take (k + 1)).count true = (l.take k).count true + (if l.getD k false = true then 1 else 0) := by
  rw [List.take_succ_eq_append_getElem h,List.count_append]
  have : l.getD k false = l[k] := by rw [List.getD_eq_getElem?_getD,List.getElem?_eq_getElem h];rfl
  rw [this]
  cases l[k] <;> simp
theorem lostS_self {w : List Int} {c b : Int} {N : Nat} (hl : w.length = N) (h : ∀ j : Nat,j < N → ((j : Int) = c → w.getD j 0 = -1) ∧ ((j : Int) ≠ c → 0 ≤ w.getD j 0 ∧ w.getD j 0 ≤ b)) : lostS w c b N N = w := by
  refine List.ext_getElem (by rw [lostS_len,hl]) fun i h1 h2 => ?_
  rw [lostS_len] at h1
  obtain ⟨a1,a2⟩ := h i h1
  have e : w.getD i 0 = w[i] := by rw [List.getD_eq_getElem?_getD,List.getElem?_eq_getElem h2];rfl
  simp only [lostS,List.getElem_map,List.getElem_range]
  rw [if_pos h1]
  unfold lostF
  rw [e] at a1 a2 ⊢
  by_cases q : (i : Int) = c
  · rw [if_pos q,a1 q]
  · rw [if_neg q,if_pos h2]
    obtain ⟨b1,b2⟩ := a2 q
    omega
theorem bound_top (s : Sit) (g : Fine s.fl) : boundP s.fl ≤ s.fl.k.length := by
  refine (mx_le (L := offL s.fl (walkP s.fl)) (n := 0) (b := s.fl.k.length) (by omega) fun e he => ?_).2
  obtain ⟨h1,h2,h3⟩ := mem_offL.1 he
  obtain ⟨w1,w2,_⟩ := mem_walk.1 h1
  have := off_le g e.1.toNat (by omega)
  rw [h3,offW_len];omega
theorem walk_kind {f : Flo} {c : Int} (h : 0 ≤ c ∧ c < f.k.length) : c ∈ walkP f ↔ f.k.getD c.toNat 0 = 4 ∨ f.k.getD c.toNat 0 = 5 := by
  rw [mem_walk];unfold wkB
  simp only [Bool.or_eq_true,decide_eq_true_eq]
  exact ⟨fun q => q.2.2,fun q => ⟨h.1,h.2,q⟩⟩
end Go.Proofs.YtdmajnjoeidgeaaGreat
