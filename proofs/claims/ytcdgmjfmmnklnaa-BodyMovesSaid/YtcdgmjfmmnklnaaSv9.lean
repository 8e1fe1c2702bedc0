/-
  Layer 11: which sites are right: what follows of it.
-/
import Derived.Test.YtcdgmjfmmnklnaaSv8
namespace Go.Proofs.Ytcdgmjfmmnklnaa
open Go Go.Ab Go.Fl Go.Shelf Go.Proofs Go.MapKept
set_option linter.unusedVariables false
set_option linter.unusedSimpArgs false
attribute [local irreducible] VC AW FStep ACall PCall StrStruct StrT AStep
set_option maxHeartbeats 8000000
set_option maxRecDepth 10000
structure FewP (s : Sit) (n m : Nat) : Prop where
  kl : s.fl.k.length ≤ n
  ol : s.fl.o.length ≤ n
  zl : s.zn.length ≤ m
  al : s.ap.length ≤ m
  sl : s.sh.length ≤ m
  rl : s.rb.length ≤ m
  z : ∀ z, z ∈ s.zn → z.2.1.length ≤ n ∧ z.2.2.2.2.length ≤ 20 ∧ z.1.length ≤ 40
  a : ∀ x, x ∈ s.ap → x.1.length ≤ 40 ∧ x.2.length ≤ 40
  s : ∀ x, x ∈ s.sh → x.2.length ≤ 40
structure SvOk (s : Sit) : Prop where
  fl : RightP s.fl
  nd : (s.sh.map (·.1)).Nodup
  st : ∀ x, x ∈ s.sh → inF s.fl x.1 = true ∧ standB (kndF s.fl x.1) = true
  rn : (s.rb.map (·.1)).Nodup
  rr : ∀ x, x ∈ s.rb → inF s.fl x.1 = true ∧ withinB x.2 0 1000000 = true ∧ kndF s.fl x.1 ≠ 0
abbrev rgC (f : Flo) (m : Mk) : List AV := floorC f ++ [.sl 7 0 m.zs.length 5, .sl 8 0 m.aps.length 2, .sl 9 0 m.shs.length 2, .sl 10 0 m.rbs.length 2, .mp 2, .mp 3, .mp 4, .mp 5, .mp 6, .nils, .nils]
abbrev rgH (s : Sit) (m : Mk) : Hp := [.cells (sitA s), .cells (rgC s.fl m), .mapO (m.cl.map kI) (rngA m.shs.length), .mapO (m.rc.map kI) (tru m.rbs.length), .mapO (m.zk.map kI) (tru m.zk.length), .mapO m.nm (rngA m.zs.length), .mapO [] [], .arr (zonsA m.zs) 5, .arr (apsA m.aps) 2, .arr (shsA m.shs) 2, .arr (stksA m.rbs) 2]
theorem rg_view {h : Hp} {s : Sit} {m : Mk} {rest : Hp} (hh : h = rgH s m ++ rest) : View h (.ptr 1 0) (.pr (floorC s.fl ++ mkR m) 0) := by
  subst hh
  refine .ptr rfl (.cons (.v _) (.cons (.v _) (.cons (.v _) (.cons (.row _ _ _) (.cons (.row _ _ _) (.cons ?_ (.cons ?_ (.cons ?_ (.cons ?_ (.cons ?_ (.cons ?_ (.cons ?_ (.cons ?_ (.cons ?_ (.cons (.v _) (.cons (.v _) .nil))))))))))))))))
  · exact view_rows rfl (by simp) (pln_flat (fun _ => rfl) _)
  · exact view_rows rfl (by simp) (pln_flat (fun _ => rfl) _)
  · exact view_rows rfl (by simp) (pln_flat (fun _ => rfl) _)
  · exact view_rows rfl (by simp) (pln_flat (fun _ => rfl) _)
  · exact .mp rfl (viewL_self _ (by unfold rngA; induction (List.range m.shs.length) with | nil => rfl | cons a l ih => exact ih))
  · exact .mp rfl (viewL_self _ (by unfold tru; induction m.rbs.length with | zero => rfl | succ n ih => rw [List.replicate_succ]; exact ih))
  · exact .mp rfl (viewL_self _ (by unfold tru; induction m.zk.length with | zero => rfl | succ n ih => rw [List.replicate_succ]; exact ih))
  · exact .mp rfl (viewL_self _ (by unfold rngA; induction (List.range m.zs.length) with | nil => rfl | cons a l ih => exact ih))
  · exact .mp rfl .nil
abbrev okB (F : Prop) : AV → Hp → Prop := fun r o => o = [] ∧ ∃ b, r = .b b ∧ (b = true → F)
theorem sright_c (s : Sit) (h : FewP s 300 1000) : PCall Try.prog 7 [.agg (sitA s)] [] (okB (SvOk s)) := by
  have hr := right_c s.fl
  have hzl : (zonsA s.zn).length = s.zn.length := by simp
  have hal : (apsA s.ap).length = s.ap.length := by simp
  have hsl : (shsA s.sh).length = s.sh.length := by simp
  have hrl : (stksA s.rb).length = s.rb.length := by simp
  have b1 := h.zl
  have b2 := h.al
  have b3 := h.sl
  have b4 := h.rl
  refine pcall T Try.func7 rfl rfl rfl rfl ?_
  by_cases hri : RightP s.fl
  · rw [rightB_t hri] at hr
    repeat' (first|refine wS ?_|refine wB ?_|refine wK ?_|refine wR ?_|refine wE ?_|refine wT ?_|refine wU ?_|(refine wC rfl (fun hb=>?_) (fun hb=>?_)<;>(first|subst hb|((try simp only [nm] at hb);try (exfalso;omega))))|(refine rg 0 ?_;(all_goals (refine vc_n (by exact fs_box rfl rfl) rfl ?_;refine aV ?_)))|(refine rg 1 ?_;(all_goals (refine fV T ?_;refine lV T ?_;refine vV (by exact kC (hr)) ?_;refine vV (by exact fs_not rfl) ?_)))|(refine rg 3 ?_;(all_goals (refine fV T ?_;refine lV T ?_));(all_goals first|(refine vV (by first|exact fs_call rfl rfl (newMaker_c s.fl) (.inr ⟨rfl,rfl,by simp⟩)) ?_)|(refine vc_n (by first|exact fs_call rfl rfl (newMaker_c s.fl) (.inr ⟨rfl,rfl,by simp⟩)) rfl ?_));(all_goals (refine aV ?_)))|(refine rg 4 ?_;(all_goals (refine fV T ?_;refine lV T ?_;(first|refine qV T ?_|refine vV (by exact fs_lenNil T rfl rfl) ?_);refine mV ?_)))|(refine vc_nilp (by (first|(dsimp only [ln1,ln2,List.append_nil,ln4,ln5,ln6,ln7,ln8,ln9,putAt,putd,allObjs,argEnv,un_v,un_ptr,un_ep,un_pr,un_sl,un_mp,un_row,un_agg,un_tup,un_clo,Nat.zero_add,lnb,Nat.reduceAdd,lnc,lnd];first|done|exact rfl)|exact rfl)) ?_))
    refine aw_ownC 1 5 5 rfl rfl (by decide) ?_
    refine aw_ownC 1 6 2 rfl rfl (by decide) ?_
    refine aw_ownC 1 7 2 rfl rfl (by decide) ?_
    refine aw_ownC 1 8 2 rfl rfl (by decide) ?_
    refine aw_loop (X := {p : Nat × List Zon × List Int // p.1 ≤ s.zn.length ∧ p.2.1 = s.zn.take p.1 ∧ (Mk.mk p.2.1 [] [] [] p.2.2).nm.Nodup ∧ p.2.2.Nodup ∧ ∀ z, z ∈ p.2.1 → (∀ c, c ∈ z.2.1 → 0 ≤ c ∧ c < s.fl.k.length)}) (fun p => [(1, .ptr 0 0), (3, .ptr 1 0), (20, .rowE (zonsA s.zn) 5), (21, .i s.zn.length), (22, .i p.1.1)]) (fun p => rgH s ⟨p.1.2.1, [], [], [], p.1.2.2⟩) (fun p => s.zn.length - p.1.1) ⟨(0, [], []), by dsimp only; omega, rfl, List.nodup_nil, List.nodup_nil, fun _ h => nomatch h⟩ ⟨[0, 1, 2, 3, 4, 5, 6, 7, 8, 9, 10], rfl, ⟨rfl, rfl, rfl, congrArg (fun n : Nat => some (AV.i n)) hzl, rfl, trivial⟩, ⟨.inr rfl, .inr rfl, .inr rfl, .inr rfl, .inr rfl, .inr rfl, .inr rfl, .inr rfl, .inr rfl, .inr rfl, .inr rfl, trivial⟩, by decide, lt0 _⟩ ?_
    rintro ⟨⟨k, zs, zk⟩, hk, hzs, hnm, hzk, hzc⟩
    dsimp only
    change k ≤ s.zn.length at hk
    change zs = s.zn.take k at hzs
    change (Mk.mk zs [] [] [] zk).nm.Nodup at hnm
    change zk.Nodup at hzk
    change ∀ z, z ∈ zs → (∀ c, c ∈ z.2.1 → 0 ≤ c ∧ c < s.fl.k.length) at hzc
    by_cases hlt : k < s.zn.length
    · have q1 := zons_get hlt
      obtain ⟨z1, z2, z3⟩ := h.z _ (List.getElem_mem hlt)
      have hnx : zs ++ [s.zn[k]] = s.zn.take (k + 1) := by rw [hzs, List.take_succ_eq_append_getElem hlt]
      generalize s.zn[k] = z at *
      have cN := name_c z.1 (by omega)
      have cW := swithin_c z.2.2.1 1 100
      have cS := shut_c z.2.2.2.2 (by omega)
      have cC := mcells_c s.fl (mkR ⟨zs, [], [], [], zk⟩) z.2.1 (by omega)
      have cZ := addZone_c s.fl ⟨zs, [], [], [], zk⟩ z hnm hzk (by omega)
      generalize withinB z.2.2.1 1 100 = w at *
      repeat' (first|refine wS ?_|refine wB ?_|refine wK ?_|refine wR ?_|refine wE ?_|refine wT ?_|refine wU ?_|(refine wC rfl (fun hb=>?_) (fun hb=>?_)<;>(first|subst hb|((try simp only [nm] at hb);try (exfalso;omega))))|(refine rg 5 ?_;(all_goals (refine vV (by first|exact fs_lssT rfl rfl (by omega)|exact fs_lss rfl rfl) ?_)))|(refine rg 6 ?_;(all_goals (refine vV (by exact fs_indexRowE T rfl rfl rfl rfl rfl (by omega) (zons_len _) q1) ?_;refine lV T ?_;refine vc_n (by exact fs_alloc T rfl) rfl ?_;refine vc_store T rfl rfl rfl rfl rfl rfl (by decide) rfl ?_)))|(refine rg 7 ?_;(all_goals (refine fV T ?_;refine lV T ?_));(all_goals (refine vc_pcallb rfl rfl (cN) (.cons (.v _) .nil) (by rintro _ ⟨_,rfl⟩;rfl) rfl ?_;rintro _ ⟨b1,rfl⟩;dsimp only [putd];cases b1));(all_goals (refine vV (by exact fs_not rfl) ?_;refine mV ?_));(all_goals first|(refine gK ?_)|(refine vc_split rfl rfl (fun hb=>?_) (fun hb=>?_)<;>(first|subst hb|(rw [hb];(try simp only [nm] at hb);try ((exfalso;omega);done)))));(all_goals first|(refine gT ?_;(refine fV T ?_);refine gT ?_;(refine lV T ?_);refine gT ?_;(refine vV (by exact kC (cW)) ?_);refine gT ?_;(refine vV (by exact fs_not rfl) ?_))|(iterate 4 first|refine gF ?_|refine gU ?_));(all_goals ((first|refine pV ?_|refine vV (by exact fs_pick rfl rfl rfl) ?_);refine mV ?_));(all_goals first|(refine gK ?_)|(refine vc_split rfl rfl (fun hb=>?_) (fun hb=>?_)<;>(first|subst hb|(rw [hb];(try simp only [nm] at hb);try ((exfalso;omega);done)))));(all_goals first|(refine gT ?_;(refine fV T ?_);refine gT ?_;(refine lV T ?_);refine gT ?_;(refine vV (by first|exact fs_lssT rfl rfl (by omega)|exact fs_lss rfl rfl) ?_))|(iterate 3 first|refine gF ?_|refine gU ?_));(all_goals ((first|refine pV ?_|refine vV (by exact fs_pick rfl rfl rfl) ?_);refine mV ?_));(all_goals first|(refine gK ?_)|(refine vc_split rfl rfl (fun hb=>?_) (fun hb=>?_)<;>(first|subst hb|(rw [hb];(try simp only [nm] at hb);try ((exfalso;omega);done)))));(all_goals first|(refine gT ?_;(refine fV T ?_);refine gT ?_;(refine lV T ?_);refine gT ?_;(refine vc_pcallb rfl rfl (cS) (.cons (.row _ _ _) .nil) (by rintro _ ⟨_,rfl⟩;rfl) rfl ?_;rintro _ ⟨b2,rfl⟩;dsimp only [putd];cases b2))|(iterate 3 first|refine gF ?_|refine gU ?_));(all_goals first|(refine gT ?_;(refine vV (by exact fs_not rfl) ?_))|(refine gF ?_)|(refine gU ?_));(all_goals ((first|refine pV ?_|refine vV (by exact fs_pick rfl rfl rfl) ?_);refine mV ?_));(all_goals first|(refine gK ?_)|(refine vc_split rfl rfl (fun hb=>?_) (fun hb=>?_)<;>(first|subst hb|(rw [hb];(try simp only [nm] at hb);try ((exfalso;omega);done)))));(all_goals first|(refine gT ?_;(refine mV ?_);refine gT ?_;(refine fV T ?_);refine gT ?_;(refine lV T ?_);refine gT ?_;(refine vc_pcallb rfl rfl (cC) (.cons (rg_view rfl) (.cons (.row _ _ _) .nil)) (by rintro _ ⟨_,rfl,_⟩;rfl) rfl ?_;rintro _ ⟨b3,rfl,hcf⟩;dsimp only [putd];cases b3))|(iterate 4 first|refine gF ?_|refine gU ?_));(all_goals first|(refine gT ?_;(refine vV (by exact fs_not rfl) ?_))|(refine gF ?_)|(refine gU ?_));(all_goals ((first|refine pV ?_|refine vV (by exact fs_pick rfl rfl rfl) ?_);refine mV ?_));(all_goals first|(refine gK ?_)|(refine vc_split rfl rfl (fun hb=>?_) (fun hb=>?_)<;>(first|subst hb|(rw [hb];(try simp only [nm] at hb);try ((exfalso;omega);done)))));(all_goals first|(refine gT ?_;(refine mV ?_);refine gT ?_;(refine lV T ?_);refine gT ?_;(refine vc_pcallw [1,2,3,4,5,6,7,8,9,10] rfl rfl (cZ) rfl rfl (by decide) ⟨.inr rfl,.inr (sub_map rfl rfl rfl (rng_idf _)),.inr (sub_map rfl rfl rfl (tru_idf _)),.inr (sub_map rfl rfl rfl (tru_idf _)),.inr (sub_map rfl rfl rfl (rng_idf _)),.inr rfl,.inr (sub_arr rfl rfl (zons_idf _)),.inr (sub_arr rfl rfl (aps_idf _)),.inr (sub_arr rfl rfl (shs_idf _)),.inr (sub_arr rfl rfl (stks_idf _)),trivial⟩ (by simp) rfl ?_;rintro _ _ ⟨e,rfl,ho⟩;rcases ho with ⟨he,rfl⟩|⟨rfl,hnn,zk2,hzk2,rfl⟩))|(iterate 3 first|refine gF ?_|refine gU ?_));(all_goals first|(refine gT ?_;(refine vV (by first|exact fs_neqT rfl rfl he|exact fs_neqF rfl rfl rfl|exact fs_neq rfl rfl) ?_))|(refine gF ?_)|(refine gU ?_));(all_goals (first|refine pV ?_|refine vV (by exact fs_pick rfl rfl rfl) ?_)))|(refine rg 8 ?_;(all_goals (refine aV ?_)))|(refine rg 9 ?_;(all_goals (refine vV (by first|exact fs_addr rfl rfl (by omega) (by omega)|exact fs_add rfl rfl) ?_;refine mV ?_)))|(refine vc_nilp (by (first|(dsimp only [ln1,ln2,List.append_nil,ln4,ln5,ln6,ln7,ln8,ln9,putAt,putd,allObjs,argEnv,un_v,un_ptr,un_ep,un_pr,un_sl,un_mp,un_row,un_agg,un_tup,un_clo,Nat.zero_add,lnb,Nat.reduceAdd,lnc,lnd];first|done|exact rfl)|exact rfl)) ?_))
      all_goals first | (exfalso; omega) | exact ⟨.b false, [], ⟨rfl, false, rfl, fun h => Bool.noConfusion h⟩, ret_plain (.inl rfl) rfl rfl⟩ | skip
      all_goals
        have hnm2 : (Mk.mk (zs ++ [z]) [] [] [] zk2).nm.Nodup := by
          have e : (Mk.mk (zs ++ [z]) [] [] [] zk2).nm = (Mk.mk zs [] [] [] zk).nm ++ [kS z.1] := by unfold Mk.nm; simp
          rw [e, List.nodup_append]
          exact ⟨hnm, by simp, fun a ha b hb e => hnn (by simp at hb; subst hb; subst e; exact ha)⟩
        have hzc2 : ∀ y, y ∈ zs ++ [z] → (∀ c, c ∈ y.2.1 → 0 ≤ c ∧ c < s.fl.k.length) := by
          intro y hy
          rcases List.mem_append.1 hy with hy|hy
          · exact hzc y hy
          · rw [List.mem_singleton.1 hy]; exact hcf rfl
        exact ⟨⟨(k + 1, zs ++ [z], zk2), hlt, hnx, hnm2, hzk2, hzc2⟩, by dsimp only; omega, ⟨[0, 1, 2, 3, 4, 5, 6, 12, 8, 9, 10], rfl, (by (repeat (first | exact trivial | refine ⟨rfl, ?_⟩))), ⟨.inr rfl, .inr rfl, .inr (by first|exact sub_map rfl rfl rfl (rng_idf _)|exact sub_map rfl rfl (mapL_idf _ _ (rng_idf _)) (rng_idf _)), .inr (by first|exact sub_map rfl rfl rfl (tru_idf _)|exact sub_map rfl rfl (mapL_idf _ _ (tru_idf _)) (tru_idf _)), .inr (by first|exact sub_map rfl rfl rfl (tru_idf _)|exact sub_map rfl rfl (mapL_idf _ _ (tru_idf _)) (tru_idf _)), .inr (by first|exact sub_map rfl rfl rfl (rng_idf _)|exact sub_map rfl rfl (mapL_idf _ _ (rng_idf _)) (rng_idf _)), .inr rfl, .inr (by first|exact sub_arr rfl rfl (zons_idf _)|exact sub_arr rfl (mapL_idfs _ (zons_idf _)) (zons_idf _)), .inr (by first|exact sub_arr rfl rfl (aps_idf _)|exact sub_arr rfl (mapL_idfs _ (aps_idf _)) (aps_idf _)), .inr (by first|exact sub_arr rfl rfl (shs_idf _)|exact sub_arr rfl (mapL_idfs _ (shs_idf _)) (shs_idf _)), .inr (by first|exact sub_arr rfl rfl (stks_idf _)|exact sub_arr rfl (mapL_idfs _ (stks_idf _)) (stks_idf _)), trivial⟩, by decide, lt0 _⟩⟩
    · obtain rfl : k = s.zn.length := by omega
      rw [List.take_length] at hzs
      clear hk hlt hnm
      repeat' (first|refine wS ?_|refine wB ?_|refine wK ?_|refine wR ?_|refine wE ?_|refine wT ?_|refine wU ?_|(refine wC rfl (fun hb=>?_) (fun hb=>?_)<;>(first|subst hb|((try simp only [nm] at hb);try (exfalso;omega))))|(refine rg 5 ?_;(all_goals (refine vV (by first|exact fs_lssF rfl rfl (by omega)|exact fs_lss rfl rfl) ?_)))|(refine rg 10 ?_;(all_goals (refine fV T ?_;refine lV T ?_;(first|refine qV T ?_|refine vV (by exact fs_lenNil T rfl rfl) ?_);refine mV ?_)))|(refine vc_nilp (by (first|(dsimp only [ln1,ln2,List.append_nil,ln4,ln5,ln6,ln7,ln8,ln9,putAt,putd,allObjs,argEnv,un_v,un_ptr,un_ep,un_pr,un_sl,un_mp,un_row,un_agg,un_tup,un_clo,Nat.zero_add,lnb,Nat.reduceAdd,lnc,lnd];first|done|exact rfl)|exact rfl)) ?_))
      all_goals try (exfalso; omega)
      refine aw_loop (X := {p : Nat × List (List UInt8 × List UInt8) // p.1 ≤ s.ap.length ∧ p.2 = s.ap.take p.1}) (fun p => [(1, .ptr 0 0), (3, .ptr 1 0), (62, .rowE (apsA s.ap) 2), (63, .i s.ap.length), (64, .i p.1.1)]) (fun p => rgH s ⟨zs, p.1.2, [], [], zk⟩) (fun p => s.ap.length - p.1.1) ⟨(0, []), by dsimp only; omega, rfl⟩ ⟨[0, 1, 2, 3, 4, 5, 6, 7, 8, 9, 10], rfl, ⟨rfl, rfl, rfl, congrArg (fun n : Nat => some (AV.i n)) hal, rfl, trivial⟩, ⟨.inr rfl, .inr rfl, .inr (by first|exact sub_map rfl rfl rfl (rng_idf _)|exact sub_map rfl rfl (mapL_idf _ _ (rng_idf _)) (rng_idf _)), .inr (by first|exact sub_map rfl rfl rfl (tru_idf _)|exact sub_map rfl rfl (mapL_idf _ _ (tru_idf _)) (tru_idf _)), .inr (by first|exact sub_map rfl rfl rfl (tru_idf _)|exact sub_map rfl rfl (mapL_idf _ _ (tru_idf _)) (tru_idf _)), .inr (by first|exact sub_map rfl rfl rfl (rng_idf _)|exact sub_map rfl rfl (mapL_idf _ _ (rng_idf _)) (rng_idf _)), .inr rfl, .inr (by first|exact sub_arr rfl rfl (zons_idf _)|exact sub_arr rfl (mapL_idfs _ (zons_idf _)) (zons_idf _)), .inr (by first|exact sub_arr rfl rfl (aps_idf _)|exact sub_arr rfl (mapL_idfs _ (aps_idf _)) (aps_idf _)), .inr (by first|exact sub_arr rfl rfl (shs_idf _)|exact sub_arr rfl (mapL_idfs _ (shs_idf _)) (shs_idf _)), .inr (by first|exact sub_arr rfl rfl (stks_idf _)|exact sub_arr rfl (mapL_idfs _ (stks_idf _)) (stks_idf _)), trivial⟩, by decide, lt0 _⟩ ?_
      rintro ⟨⟨k, aps⟩, hk, haps⟩
      dsimp only
      change k ≤ s.ap.length at hk
      change aps = s.ap.take k at haps
      by_cases hlt : k < s.ap.length
      · have q1 := aps_get hlt
        obtain ⟨a1, a2⟩ := h.a _ (List.getElem_mem hlt)
        have hnx : aps ++ [s.ap[k]] = s.ap.take (k + 1) := by rw [haps, List.take_succ_eq_append_getElem hlt]
        have hal3 : aps.length ≤ 1000 := by rw [haps, List.length_take]; omega
        generalize s.ap[k] = z at *
        obtain ⟨za, zb⟩ := z
        change za.length ≤ 40 at a1
        change zb.length ≤ 40 at a2
        have cZ := addApart_c s.fl ⟨zs, aps, [], [], zk⟩ za zb (by omega) (by omega) (by dsimp only; omega)
        repeat' (first|refine wS ?_|refine wB ?_|refine wK ?_|refine wR ?_|refine wE ?_|refine wT ?_|refine wU ?_|(refine wC rfl (fun hb=>?_) (fun hb=>?_)<;>(first|subst hb|((try simp only [nm] at hb);try (exfalso;omega))))|(refine rg 11 ?_;(all_goals (refine vV (by first|exact fs_lssT rfl rfl (by omega)|exact fs_lss rfl rfl) ?_)))|(refine rg 12 ?_;(all_goals (refine vV (by exact fs_indexRowE T rfl rfl rfl rfl rfl (by omega) (aps_len _) q1) ?_;refine lV T ?_;refine vc_n (by exact fs_alloc T rfl) rfl ?_;refine vc_store T rfl rfl rfl rfl rfl rfl (by decide) rfl ?_)))|(refine rg 13 ?_;(all_goals (refine mV ?_;refine lV T ?_));(all_goals (refine vc_pcallw [1,2,3,4,5,6,7,8,9,10] rfl rfl (cZ) rfl rfl (by decide) ⟨.inr rfl,.inr (sub_map rfl rfl rfl (rng_idf _)),.inr (sub_map rfl rfl rfl (tru_idf _)),.inr (sub_map rfl rfl rfl (tru_idf _)),.inr (sub_map rfl rfl rfl (rng_idf _)),.inr rfl,.inr (sub_arr rfl rfl (zons_idf _)),.inr (sub_arr rfl rfl (aps_idf _)),.inr (sub_arr rfl rfl (shs_idf _)),.inr (sub_arr rfl rfl (stks_idf _)),trivial⟩ (by simp) rfl ?_;rintro _ _ ⟨e,rfl,ho⟩;rcases ho with ⟨he,rfl⟩|⟨rfl,rfl⟩));(all_goals (refine vV (by first|exact fs_neqT rfl rfl he|exact fs_neqF rfl rfl rfl|exact fs_neq rfl rfl) ?_)))|(refine rg 14 ?_;(all_goals (refine aV ?_)))|(refine rg 15 ?_;(all_goals (refine vV (by first|exact fs_addr rfl rfl (by omega) (by omega)|exact fs_add rfl rfl) ?_;refine mV ?_)))|(refine vc_nilp (by (first|(dsimp only [ln1,ln2,List.append_nil,ln4,ln5,ln6,ln7,ln8,ln9,putAt,putd,allObjs,argEnv,un_v,un_ptr,un_ep,un_pr,un_sl,un_mp,un_row,un_agg,un_tup,un_clo,Nat.zero_add,lnb,Nat.reduceAdd,lnc,lnd];first|done|exact rfl)|exact rfl)) ?_))
        all_goals first | (exfalso; omega) | exact ⟨.b false, [], ⟨rfl, false, rfl, fun h => Bool.noConfusion h⟩, ret_plain (.inl rfl) rfl rfl⟩ | exact ⟨⟨(k + 1, aps ++ [(za, zb)]), hlt, hnx⟩, by dsimp only; omega, ⟨[0, 1, 2, 3, 4, 5, 6, 7, 12, 9, 10], rfl, (by (repeat (first | exact trivial | refine ⟨rfl, ?_⟩))), ⟨.inr rfl, .inr rfl, .inr (by first|exact sub_map rfl rfl rfl (rng_idf _)|exact sub_map rfl rfl (mapL_idf _ _ (rng_idf _)) (rng_idf _)), .inr (by first|exact sub_map rfl rfl rfl (tru_idf _)|exact sub_map rfl rfl (mapL_idf _ _ (tru_idf _)) (tru_idf _)), .inr (by first|exact sub_map rfl rfl rfl (tru_idf _)|exact sub_map rfl rfl (mapL_idf _ _ (tru_idf _)) (tru_idf _)), .inr (by first|exact sub_map rfl rfl rfl (rng_idf _)|exact sub_map rfl rfl (mapL_idf _ _ (rng_idf _)) (rng_idf _)), .inr rfl, .inr (by first|exact sub_arr rfl rfl (zons_idf _)|exact sub_arr rfl (mapL_idfs _ (zons_idf _)) (zons_idf _)), .inr (by first|exact sub_arr rfl rfl (aps_idf _)|exact sub_arr rfl (mapL_idfs _ (aps_idf _)) (aps_idf _)), .inr (by first|exact sub_arr rfl rfl (shs_idf _)|exact sub_arr rfl (mapL_idfs _ (shs_idf _)) (shs_idf _)), .inr (by first|exact sub_arr rfl rfl (stks_idf _)|exact sub_arr rfl (mapL_idfs _ (stks_idf _)) (stks_idf _)), trivial⟩, by decide, lt0 _⟩⟩
      · obtain rfl : k = s.ap.length := by omega
        clear hk hlt
        have hal3 : aps.length ≤ 1000 := by rw [haps, List.length_take]; omega
        repeat' (first|refine wS ?_|refine wB ?_|refine wK ?_|refine wR ?_|refine wE ?_|refine wT ?_|refine wU ?_|(refine wC rfl (fun hb=>?_) (fun hb=>?_)<;>(first|subst hb|((try simp only [nm] at hb);try (exfalso;omega))))|(refine rg 11 ?_;(all_goals (refine vV (by first|exact fs_lssF rfl rfl (by omega)|exact fs_lss rfl rfl) ?_)))|(refine rg 16 ?_;(all_goals (refine fV T ?_;refine lV T ?_;(first|refine qV T ?_|refine vV (by exact fs_lenNil T rfl rfl) ?_);refine mV ?_)))|(refine vc_nilp (by (first|(dsimp only [ln1,ln2,List.append_nil,ln4,ln5,ln6,ln7,ln8,ln9,putAt,putd,allObjs,argEnv,un_v,un_ptr,un_ep,un_pr,un_sl,un_mp,un_row,un_agg,un_tup,un_clo,Nat.zero_add,lnb,Nat.reduceAdd,lnc,lnd];first|done|exact rfl)|exact rfl)) ?_))
        all_goals try (exfalso; omega)
        refine aw_loop (X := {p : Nat × List (Int × List UInt8) // p.1 ≤ s.sh.length ∧ p.2 = s.sh.take p.1 ∧ (p.2.map (·.1)).Nodup ∧ ∀ x, x ∈ p.2 → inF s.fl x.1 = true ∧ standB (kndF s.fl x.1) = true}) (fun p => [(1, .ptr 0 0), (3, .ptr 1 0), (74, .rowE (shsA s.sh) 2), (75, .i s.sh.length), (76, .i p.1.1)]) (fun p => rgH s ⟨zs, aps, p.1.2, [], zk⟩) (fun p => s.sh.length - p.1.1) ⟨(0, []), by dsimp only; omega, rfl, List.nodup_nil, fun _ h => nomatch h⟩ ⟨[0, 1, 2, 3, 4, 5, 6, 7, 8, 9, 10], rfl, ⟨rfl, rfl, rfl, congrArg (fun n : Nat => some (AV.i n)) hsl, rfl, trivial⟩, ⟨.inr rfl, .inr rfl, .inr (by first|exact sub_map rfl rfl rfl (rng_idf _)|exact sub_map rfl rfl (mapL_idf _ _ (rng_idf _)) (rng_idf _)), .inr (by first|exact sub_map rfl rfl rfl (tru_idf _)|exact sub_map rfl rfl (mapL_idf _ _ (tru_idf _)) (tru_idf _)), .inr (by first|exact sub_map rfl rfl rfl (tru_idf _)|exact sub_map rfl rfl (mapL_idf _ _ (tru_idf _)) (tru_idf _)), .inr (by first|exact sub_map rfl rfl rfl (rng_idf _)|exact sub_map rfl rfl (mapL_idf _ _ (rng_idf _)) (rng_idf _)), .inr rfl, .inr (by first|exact sub_arr rfl rfl (zons_idf _)|exact sub_arr rfl (mapL_idfs _ (zons_idf _)) (zons_idf _)), .inr (by first|exact sub_arr rfl rfl (aps_idf _)|exact sub_arr rfl (mapL_idfs _ (aps_idf _)) (aps_idf _)), .inr (by first|exact sub_arr rfl rfl (shs_idf _)|exact sub_arr rfl (mapL_idfs _ (shs_idf _)) (shs_idf _)), .inr (by first|exact sub_arr rfl rfl (stks_idf _)|exact sub_arr rfl (mapL_idfs _ (stks_idf _)) (stks_idf _)), trivial⟩, by decide, lt0 _⟩ ?_
        rintro ⟨⟨k, shs⟩, hk, hshs, hnd, hst⟩
        dsimp only
        change k ≤ s.sh.length at hk
        change shs = s.sh.take k at hshs
        change (shs.map (·.1)).Nodup at hnd
        change ∀ x, x ∈ shs → inF s.fl x.1 = true ∧ standB (kndF s.fl x.1) = true at hst
        by_cases hlt : k < s.sh.length
        · have q1 := shs_gI hlt
          have a1 := h.s _ (List.getElem_mem hlt)
          have hnx : shs ++ [s.sh[k]] = s.sh.take (k + 1) := by rw [hshs, List.take_succ_eq_append_getElem hlt]
          generalize s.sh[k] = z at *
          obtain ⟨za, zb⟩ := z
          change zb.length ≤ 40 at a1
          have cZ := addShelf_c s.fl ⟨zs, aps, shs, [], zk⟩ za zb (by omega) hnd
          repeat' (first|refine wS ?_|refine wB ?_|refine wK ?_|refine wR ?_|refine wE ?_|refine wT ?_|refine wU ?_|(refine wC rfl (fun hb=>?_) (fun hb=>?_)<;>(first|subst hb|((try simp only [nm] at hb);try (exfalso;omega))))|(refine rg 17 ?_;(all_goals (refine vV (by first|exact fs_lssT rfl rfl (by omega)|exact fs_lss rfl rfl) ?_)))|(refine rg 18 ?_;(all_goals (refine vV (by exact fs_indexRowE T rfl rfl rfl rfl rfl (by omega) (shs_len _) q1) ?_;refine lV T ?_;refine vc_n (by exact fs_alloc T rfl) rfl ?_;refine vc_store T rfl rfl rfl rfl rfl rfl (by decide) rfl ?_)))|(refine rg 19 ?_;(all_goals (refine mV ?_;refine lV T ?_));(all_goals (refine vc_pcallw [1,2,3,4,5,6,7,8,9,10] rfl rfl (cZ) rfl rfl (by decide) ⟨.inr rfl,.inr (sub_map rfl rfl rfl (rng_idf _)),.inr (sub_map rfl rfl rfl (tru_idf _)),.inr (sub_map rfl rfl rfl (tru_idf _)),.inr (sub_map rfl rfl rfl (rng_idf _)),.inr rfl,.inr (sub_arr rfl rfl (zons_idf _)),.inr (sub_arr rfl rfl (aps_idf _)),.inr (sub_arr rfl rfl (shs_idf _)),.inr (sub_arr rfl rfl (stks_idf _)),trivial⟩ (by simp) rfl ?_;rintro _ _ ⟨e,rfl,ho⟩;rcases ho with ⟨he,rfl⟩|⟨rfl,hi1,hi2,hi3,rfl⟩));(all_goals (refine vV (by first|exact fs_neqT rfl rfl he|exact fs_neqF rfl rfl rfl|exact fs_neq rfl rfl) ?_)))|(refine rg 20 ?_;(all_goals (refine aV ?_)))|(refine rg 21 ?_;(all_goals (refine vV (by first|exact fs_addr rfl rfl (by omega) (by omega)|exact fs_add rfl rfl) ?_;refine mV ?_)))|(refine vc_nilp (by (first|(dsimp only [ln1,ln2,List.append_nil,ln4,ln5,ln6,ln7,ln8,ln9,putAt,putd,allObjs,argEnv,un_v,un_ptr,un_ep,un_pr,un_sl,un_mp,un_row,un_agg,un_tup,un_clo,Nat.zero_add,lnb,Nat.reduceAdd,lnc,lnd];first|done|exact rfl)|exact rfl)) ?_))
          all_goals first | (exfalso; omega) | exact ⟨.b false, [], ⟨rfl, false, rfl, fun h => Bool.noConfusion h⟩, ret_plain (.inl rfl) rfl rfl⟩ | skip
          all_goals
            have hnd2 : ((shs ++ [(za, zb)]).map (·.1)).Nodup := by
              rw [List.map_append, List.nodup_append]
              exact ⟨hnd, by simp, fun a ha b hb e => hi3 (by simp at hb; subst hb; subst e; exact ha)⟩
            have hst2 : ∀ x, x ∈ shs ++ [(za, zb)] → inF s.fl x.1 = true ∧ standB (kndF s.fl x.1) = true := by
              intro y hy
              rcases List.mem_append.1 hy with hy|hy
              · exact hst y hy
              · rw [List.mem_singleton.1 hy]; exact ⟨hi1, hi2⟩
            exact ⟨⟨(k + 1, shs ++ [(za, zb)]), hlt, hnx, hnd2, hst2⟩, by dsimp only; omega, ⟨[0, 1, 2, 3, 4, 5, 6, 7, 8, 12, 10], rfl, (by (repeat (first | exact trivial | refine ⟨rfl, ?_⟩))), ⟨.inr rfl, .inr rfl, .inr (by first|exact sub_map rfl rfl rfl (rng_idf _)|exact sub_map rfl rfl (mapL_idf _ _ (rng_idf _)) (rng_idf _)), .inr (by first|exact sub_map rfl rfl rfl (tru_idf _)|exact sub_map rfl rfl (mapL_idf _ _ (tru_idf _)) (tru_idf _)), .inr (by first|exact sub_map rfl rfl rfl (tru_idf _)|exact sub_map rfl rfl (mapL_idf _ _ (tru_idf _)) (tru_idf _)), .inr (by first|exact sub_map rfl rfl rfl (rng_idf _)|exact sub_map rfl rfl (mapL_idf _ _ (rng_idf _)) (rng_idf _)), .inr rfl, .inr (by first|exact sub_arr rfl rfl (zons_idf _)|exact sub_arr rfl (mapL_idfs _ (zons_idf _)) (zons_idf _)), .inr (by first|exact sub_arr rfl rfl (aps_idf _)|exact sub_arr rfl (mapL_idfs _ (aps_idf _)) (aps_idf _)), .inr (by first|exact sub_arr rfl rfl (shs_idf _)|exact sub_arr rfl (mapL_idfs _ (shs_idf _)) (shs_idf _)), .inr (by first|exact sub_arr rfl rfl (stks_idf _)|exact sub_arr rfl (mapL_idfs _ (stks_idf _)) (stks_idf _)), trivial⟩, by decide, lt0 _⟩⟩
        · obtain rfl : k = s.sh.length := by omega
          rw [List.take_length] at hshs
          clear hk hlt
          repeat' (first|refine wS ?_|refine wB ?_|refine wK ?_|refine wR ?_|refine wE ?_|refine wT ?_|refine wU ?_|(refine wC rfl (fun hb=>?_) (fun hb=>?_)<;>(first|subst hb|((try simp only [nm] at hb);try (exfalso;omega))))|(refine rg 17 ?_;(all_goals (refine vV (by first|exact fs_lssF rfl rfl (by omega)|exact fs_lss rfl rfl) ?_)))|(refine rg 22 ?_;(all_goals (refine fV T ?_;refine lV T ?_;(first|refine qV T ?_|refine vV (by exact fs_lenNil T rfl rfl) ?_);refine mV ?_)))|(refine vc_nilp (by (first|(dsimp only [ln1,ln2,List.append_nil,ln4,ln5,ln6,ln7,ln8,ln9,putAt,putd,allObjs,argEnv,un_v,un_ptr,un_ep,un_pr,un_sl,un_mp,un_row,un_agg,un_tup,un_clo,Nat.zero_add,lnb,Nat.reduceAdd,lnc,lnd];first|done|exact rfl)|exact rfl)) ?_))
          all_goals try (exfalso; omega)
          refine aw_loop (X := {p : Nat × List (Int × Int) // p.1 ≤ s.rb.length ∧ p.2 = s.rb.take p.1 ∧ (p.2.map (·.1)).Nodup ∧ ∀ x, x ∈ p.2 → inF s.fl x.1 = true ∧ withinB x.2 0 1000000 = true ∧ kndF s.fl x.1 ≠ 0}) (fun p => [(1, .ptr 0 0), (3, .ptr 1 0), (86, .rowE (stksA s.rb) 2), (87, .i s.rb.length), (88, .i p.1.1)]) (fun p => rgH s ⟨zs, aps, shs, p.1.2, zk⟩) (fun p => s.rb.length - p.1.1) ⟨(0, []), by dsimp only; omega, rfl, List.nodup_nil, fun _ h => nomatch h⟩ ⟨[0, 1, 2, 3, 4, 5, 6, 7, 8, 9, 10], rfl, ⟨rfl, rfl, rfl, congrArg (fun n : Nat => some (AV.i n)) hrl, rfl, trivial⟩, ⟨.inr rfl, .inr rfl, .inr (by first|exact sub_map rfl rfl rfl (rng_idf _)|exact sub_map rfl rfl (mapL_idf _ _ (rng_idf _)) (rng_idf _)), .inr (by first|exact sub_map rfl rfl rfl (tru_idf _)|exact sub_map rfl rfl (mapL_idf _ _ (tru_idf _)) (tru_idf _)), .inr (by first|exact sub_map rfl rfl rfl (tru_idf _)|exact sub_map rfl rfl (mapL_idf _ _ (tru_idf _)) (tru_idf _)), .inr (by first|exact sub_map rfl rfl rfl (rng_idf _)|exact sub_map rfl rfl (mapL_idf _ _ (rng_idf _)) (rng_idf _)), .inr rfl, .inr (by first|exact sub_arr rfl rfl (zons_idf _)|exact sub_arr rfl (mapL_idfs _ (zons_idf _)) (zons_idf _)), .inr (by first|exact sub_arr rfl rfl (aps_idf _)|exact sub_arr rfl (mapL_idfs _ (aps_idf _)) (aps_idf _)), .inr (by first|exact sub_arr rfl rfl (shs_idf _)|exact sub_arr rfl (mapL_idfs _ (shs_idf _)) (shs_idf _)), .inr (by first|exact sub_arr rfl rfl (stks_idf _)|exact sub_arr rfl (mapL_idfs _ (stks_idf _)) (stks_idf _)), trivial⟩, by decide, lt0 _⟩ ?_
          rintro ⟨⟨k, rbs⟩, hk, hrbs, hnr, hrr⟩
          dsimp only
          change k ≤ s.rb.length at hk
          change rbs = s.rb.take k at hrbs
          change (rbs.map (·.1)).Nodup at hnr
          change ∀ x, x ∈ rbs → inF s.fl x.1 = true ∧ withinB x.2 0 1000000 = true ∧ kndF s.fl x.1 ≠ 0 at hrr
          by_cases hlt : k < s.rb.length
          · have q1 := stks_get hlt
            have hnx : rbs ++ [s.rb[k]] = s.rb.take (k + 1) := by rw [hrbs, List.take_succ_eq_append_getElem hlt]
            generalize s.rb[k] = z at *
            obtain ⟨za, zb⟩ := z
            have cZ := addRobot_c s.fl ⟨zs, aps, shs, rbs, zk⟩ za zb hnr
            repeat' (first|refine wS ?_|refine wB ?_|refine wK ?_|refine wR ?_|refine wE ?_|refine wT ?_|refine wU ?_|(refine wC rfl (fun hb=>?_) (fun hb=>?_)<;>(first|subst hb|((try simp only [nm] at hb);try (exfalso;omega))))|(refine rg 23 ?_;(all_goals (refine vV (by first|exact fs_lssT rfl rfl (by omega)|exact fs_lss rfl rfl) ?_)))|(refine rg 24 ?_;(all_goals (refine vV (by exact fs_indexRowE T rfl rfl rfl rfl rfl (by omega) (stks_len _) q1) ?_;refine lV T ?_;refine vc_n (by exact fs_alloc T rfl) rfl ?_;refine vc_store T rfl rfl rfl rfl rfl rfl (by decide) rfl ?_)))|(refine rg 25 ?_;(all_goals (refine mV ?_;refine lV T ?_));(all_goals (refine vc_pcallw [1,2,3,4,5,6,7,8,9,10] rfl rfl (cZ) rfl rfl (by decide) ⟨.inr rfl,.inr (sub_map rfl rfl rfl (rng_idf _)),.inr (sub_map rfl rfl rfl (tru_idf _)),.inr (sub_map rfl rfl rfl (tru_idf _)),.inr (sub_map rfl rfl rfl (rng_idf _)),.inr rfl,.inr (sub_arr rfl rfl (zons_idf _)),.inr (sub_arr rfl rfl (aps_idf _)),.inr (sub_arr rfl rfl (shs_idf _)),.inr (sub_arr rfl rfl (stks_idf _)),trivial⟩ (by simp) rfl ?_;rintro _ _ ⟨e,rfl,ho⟩;rcases ho with ⟨he,rfl⟩|⟨rfl,hi1,hi2,hi4,hi3,rfl⟩));(all_goals (refine vV (by first|exact fs_neqT rfl rfl he|exact fs_neqF rfl rfl rfl|exact fs_neq rfl rfl) ?_)))|(refine rg 26 ?_;(all_goals (refine aV ?_)))|(refine rg 27 ?_;(all_goals (refine vV (by first|exact fs_addr rfl rfl (by omega) (by omega)|exact fs_add rfl rfl) ?_;refine mV ?_)))|(refine vc_nilp (by (first|(dsimp only [ln1,ln2,List.append_nil,ln4,ln5,ln6,ln7,ln8,ln9,putAt,putd,allObjs,argEnv,un_v,un_ptr,un_ep,un_pr,un_sl,un_mp,un_row,un_agg,un_tup,un_clo,Nat.zero_add,lnb,Nat.reduceAdd,lnc,lnd];first|done|exact rfl)|exact rfl)) ?_))
            all_goals first | (exfalso; omega) | exact ⟨.b false, [], ⟨rfl, false, rfl, fun h => Bool.noConfusion h⟩, ret_plain (.inl rfl) rfl rfl⟩ | skip
            all_goals
              have hnr2 : ((rbs ++ [(za, zb)]).map (·.1)).Nodup := by
                rw [List.map_append, List.nodup_append]
                exact ⟨hnr, by simp, fun a ha b hb e => hi3 (by simp at hb; subst hb; subst e; exact ha)⟩
              have hrr2 : ∀ x, x ∈ rbs ++ [(za, zb)] → inF s.fl x.1 = true ∧ withinB x.2 0 1000000 = true ∧ kndF s.fl x.1 ≠ 0 := by
                intro y hy
                rcases List.mem_append.1 hy with hy|hy
                · exact hrr y hy
                · rw [List.mem_singleton.1 hy]; exact ⟨hi1, hi2, hi4⟩
              exact ⟨⟨(k + 1, rbs ++ [(za, zb)]), hlt, hnx, hnr2, hrr2⟩, by dsimp only; omega, ⟨[0, 1, 2, 3, 4, 5, 6, 7, 8, 9, 12], rfl, (by (repeat (first | exact trivial | refine ⟨rfl, ?_⟩))), ⟨.inr rfl, .inr rfl, .inr (by first|exact sub_map rfl rfl rfl (rng_idf _)|exact sub_map rfl rfl (mapL_idf _ _ (rng_idf _)) (rng_idf _)), .inr (by first|exact sub_map rfl rfl rfl (tru_idf _)|exact sub_map rfl rfl (mapL_idf _ _ (tru_idf _)) (tru_idf _)), .inr (by first|exact sub_map rfl rfl rfl (tru_idf _)|exact sub_map rfl rfl (mapL_idf _ _ (tru_idf _)) (tru_idf _)), .inr (by first|exact sub_map rfl rfl rfl (rng_idf _)|exact sub_map rfl rfl (mapL_idf _ _ (rng_idf _)) (rng_idf _)), .inr rfl, .inr (by first|exact sub_arr rfl rfl (zons_idf _)|exact sub_arr rfl (mapL_idfs _ (zons_idf _)) (zons_idf _)), .inr (by first|exact sub_arr rfl rfl (aps_idf _)|exact sub_arr rfl (mapL_idfs _ (aps_idf _)) (aps_idf _)), .inr (by first|exact sub_arr rfl rfl (shs_idf _)|exact sub_arr rfl (mapL_idfs _ (shs_idf _)) (shs_idf _)), .inr (by first|exact sub_arr rfl rfl (stks_idf _)|exact sub_arr rfl (mapL_idfs _ (stks_idf _)) (stks_idf _)), trivial⟩, by decide, lt0 _⟩⟩
          · obtain rfl : k = s.rb.length := by omega
            rw [List.take_length] at hrbs
            have hOk : SvOk s := ⟨hri, hshs ▸ hnd, hshs ▸ hst, hrbs ▸ hnr, hrbs ▸ hrr⟩
            clear hk hlt
            have hsl3 : shs.length ≤ 1000 := by rw [hshs]; omega
            have hzl3 : zs.length ≤ 1000 := by rw [hzs]; omega
            have hcl : (Mk.mk zs aps shs rbs zk).cl.length = shs.length := by unfold Mk.cl; simp
            have cB := beside_c2 s.fl (right_fine hri h.kl) aps shs (by omega) (by omega) hnd (.rowE (zonsA zs) 5) (.rowE (stksA rbs) 2) [.mrow ((Mk.mk zs aps shs rbs zk).rc.map kI) (tru rbs.length), .mrow (zk.map kI) (tru zk.length), .mrow (Mk.mk zs aps shs rbs zk).nm (rngA zs.length), .mrow [] [], .nils, .nils]
            have cW := crowded_c s.fl zs (fun z hz => ⟨hzc z hz, by have := (h.z z (hzs ▸ hz)).1; omega⟩) (by omega) (.rowE (apsA aps) 2) (.rowE (shsA shs) 2) (.rowE (stksA rbs) 2) (Mk.mk zs aps shs rbs zk).cl hnd [.mrow ((Mk.mk zs aps shs rbs zk).rc.map kI) (tru rbs.length), .mrow (zk.map kI) (tru zk.length), .mrow (Mk.mk zs aps shs rbs zk).nm (rngA zs.length), .mrow [] [], .nils, .nils]
            rw [hcl] at cW
            have cG := charger_c s.fl (mkR ⟨zs, aps, shs, rbs, zk⟩) (by have := h.kl; omega)
            repeat' (first|refine wS ?_|refine wB ?_|refine wK ?_|refine wR ?_|refine wE ?_|refine wT ?_|refine wU ?_|(refine wC rfl (fun hb=>?_) (fun hb=>?_)<;>(first|subst hb|((try simp only [nm] at hb);try (exfalso;omega))))|(refine rg 23 ?_;(all_goals (refine vV (by first|exact fs_lssF rfl rfl (by omega)|exact fs_lss rfl rfl) ?_)))|(refine rg 28 ?_;(all_goals (refine mV ?_;refine vc_pcallb rfl rfl (cB) (.cons (rg_view (m := ⟨zs,aps,shs,rbs,zk⟩) rfl) .nil) (by rintro _ ⟨_,rfl⟩;rfl) rfl ?_;rintro _ ⟨n1,rfl⟩;dsimp only [putd];refine vV (by first|exact fs_lssF rfl rfl (by omega)|exact fs_lss rfl rfl) ?_;refine mV ?_));(all_goals first|(refine gK ?_)|(refine vc_split rfl rfl (fun hb=>?_) (fun hb=>?_)<;>(first|subst hb|(rw [hb];(try simp only [nm] at hb);try ((exfalso;omega);done)))));(all_goals first|(refine gT ?_;(refine mV ?_);refine gT ?_;(refine vc_pcallb rfl rfl (cW) (.cons (rg_view (m := ⟨zs,aps,shs,rbs,zk⟩) rfl) .nil) (by rintro _ ⟨_,rfl⟩;rfl) rfl ?_;rintro _ ⟨n2,rfl⟩;dsimp only [putd]))|(iterate 2 first|refine gF ?_|refine gU ?_));(all_goals first|(refine gT ?_;(refine vV (by first|exact fs_lssF rfl rfl (by omega)|exact fs_lss rfl rfl) ?_))|(refine gF ?_)|(refine gU ?_));(all_goals ((first|refine pV ?_|refine vV (by exact fs_pick rfl rfl rfl) ?_);refine mV ?_));(all_goals first|(refine gK ?_)|(refine vc_split rfl rfl (fun hb=>?_) (fun hb=>?_)<;>(first|subst hb|(rw [hb];(try simp only [nm] at hb);try ((exfalso;omega);done)))));(all_goals first|(refine gT ?_;(refine mV ?_);refine gT ?_;(refine vc_pcallb rfl rfl (cG) (.cons (rg_view (m := ⟨zs,aps,shs,rbs,zk⟩) rfl) .nil) (by rintro _ ⟨_,rfl⟩;rfl) rfl ?_;rintro _ ⟨b3,rfl⟩;dsimp only [putd];cases b3))|(iterate 2 first|refine gF ?_|refine gU ?_));(all_goals ((first|refine pV ?_|refine vV (by exact fs_pick rfl rfl rfl) ?_);refine aV ?_)))|(refine vc_nilp (by (first|(dsimp only [ln1,ln2,List.append_nil,ln4,ln5,ln6,ln7,ln8,ln9,putAt,putd,allObjs,argEnv,un_v,un_ptr,un_ep,un_pr,un_sl,un_mp,un_row,un_agg,un_tup,un_clo,Nat.zero_add,lnb,Nat.reduceAdd,lnc,lnd];first|done|exact rfl)|exact rfl)) ?_))
            all_goals first | (exfalso; omega) | exact ⟨_, _, ⟨rfl, _, rfl, fun _ => hOk⟩, ret_plain (.inl rfl) rfl rfl⟩
  · rw [rightB_f hri] at hr
    repeat' (first|refine wS ?_|refine wB ?_|refine wK ?_|refine wR ?_|refine wE ?_|refine wT ?_|refine wU ?_|(refine wC rfl (fun hb=>?_) (fun hb=>?_)<;>(first|subst hb|((try simp only [nm] at hb);try (exfalso;omega))))|(refine rg 0 ?_;(all_goals (refine vc_n (by exact fs_box rfl rfl) rfl ?_;refine aV ?_)))|(refine rg 1 ?_;(all_goals (refine fV T ?_;refine lV T ?_;refine vV (by exact kC (hr)) ?_;refine vV (by exact fs_not rfl) ?_)))|(refine rg 2 ?_;(all_goals (refine aV ?_)))|(refine vc_nilp (by (first|(dsimp only [ln1,ln2,List.append_nil,ln4,ln5,ln6,ln7,ln8,ln9,putAt,putd,allObjs,argEnv,un_v,un_ptr,un_ep,un_pr,un_sl,un_mp,un_row,un_agg,un_tup,un_clo,Nat.zero_add,lnb,Nat.reduceAdd,lnc,lnd];first|done|exact rfl)|exact rfl)) ?_))
    all_goals exact ⟨.b false, [], ⟨rfl, false, rfl, fun h => Bool.noConfusion h⟩, ret_plain (.inl rfl) rfl rfl⟩
end Go.Proofs.Ytcdgmjfmmnklnaa
