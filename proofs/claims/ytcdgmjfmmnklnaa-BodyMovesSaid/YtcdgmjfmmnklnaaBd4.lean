/-
  Layer 14: the slots of all bodies (the walk).
-/
import Derived.Test.YtcdgmjfmmnklnaaBd3
namespace Go.Proofs.Ytcdgmjfmmnklnaa
open Go Go.Ab
set_option linter.unusedVariables false
set_option linter.unusedSimpArgs false
attribute [local irreducible] VC AW FStep ACall
set_option maxHeartbeats 4000000
structure Smal (s : Stt) : Prop where
  rl : s.rb.length ≤ 1000
  sl : s.sh.length ≤ 1000
  pl : s.pp.length ≤ 1000
  rb : ∀ r, r ∈ s.rb → Sm r.1
  sh : ∀ c, c ∈ s.sh → Sm c
  pp : ∀ c, c ∈ s.pp → Sm c
theorem app_own {L q : List Int} {n : Nat} (hn : n = L.length) : ((ints L).drop 0).take n ++ ints q = ints (L ++ q) := by
  rw [List.drop_zero, List.take_of_length_le (by rw [ints_length]; omega), ← List.map_append]
theorem all_c (s : Stt) (h : Smal s) : ACall Try.prog 40 [.agg (sttA s)] [] (.sl 0 0 (allL s).length 1) [.arr (ints (allL s)) 1] := by
  have hrl : (robsA s.rb).length = s.rb.length := by simp
  have hsl : (ints s.sh).length = s.sh.length := by simp
  have hpl : (ints s.pp).length = s.pp.length := by simp
  have b1 := h.rl
  have b2 := h.sl
  have b3 := h.pl
  have l1 := robL_len s
  have l2 := shL_len s
  have l3 := ppL_len s
  refine acall T Try.func40 rfl rfl rfl rfl ?_
  repeat' (first|refine wS ?_|refine wB ?_|refine wK ?_|refine wR ?_|refine wE ?_|refine wT ?_|refine wU ?_|(refine wC rfl (fun hb=>?_) (fun hb=>?_)<;>(first|subst hb|((try simp only [nm] at hb);try (exfalso;omega))))|(refine rg 0 ?_;(all_goals (refine vc_n (by exact fs_box rfl rfl) rfl ?_;refine aV ?_)))|(refine rg 1 ?_;(all_goals (refine aV ?_)))|(refine vc_nilp (by (first|(dsimp only [ln1,ln2,List.append_nil,ln4,ln5,ln6,ln7,ln8,ln9,putAt,putd,allObjs,argEnv,un_v,un_ptr,un_ep,un_pr,un_sl,un_mp,un_row,un_agg,un_tup,un_clo,Nat.zero_add,lnb,Nat.reduceAdd,lnc,lnd];first|done|exact rfl)|exact rfl)) ?_))
  refine aw_own 3 1 rfl (by decide) ?_
  repeat' (first|refine wS ?_|refine wB ?_|refine wK ?_|refine wR ?_|refine wE ?_|refine wT ?_|refine wU ?_|(refine wC rfl (fun hb=>?_) (fun hb=>?_)<;>(first|subst hb|((try simp only [nm] at hb);try (exfalso;omega))))|(refine rg 2 ?_;(all_goals (refine fV T ?_;refine lV T ?_;(first|refine qV T ?_|refine vV (by exact fs_lenNil T rfl rfl) ?_);refine mV ?_)))|(refine vc_nilp (by (first|(dsimp only [ln1,ln2,List.append_nil,ln4,ln5,ln6,ln7,ln8,ln9,putAt,putd,allObjs,argEnv,un_v,un_ptr,un_ep,un_pr,un_sl,un_mp,un_row,un_agg,un_tup,un_clo,Nat.zero_add,lnb,Nat.reduceAdd,lnc,lnd];first|done|exact rfl)|exact rfl)) ?_))
  refine aw_loop (X := {k : Nat // k ≤ s.rb.length}) (fun k => [(1, .ptr 0 0), (3, .sl 1 0 (robL s k.1).length 1), (9, .i s.rb.length), (10, .i k.1)]) (fun k => [AB.cells (sttA s), AB.arr (ints (robL s k.1)) 1]) (fun k => s.rb.length - k.1) ⟨0, by omega⟩ ⟨[0, 1], rfl, ⟨rfl, rfl, congrArg (fun n : Nat => some (AV.i n)) hrl, rfl, trivial⟩, ⟨.inr rfl, .inr rfl, trivial⟩, by decide, lt0 _⟩ ?_
  rintro ⟨k, hk⟩
  dsimp only
  by_cases hlt : k < s.rb.length
  · have cR := robot_c s hlt (h.rb _ (List.getElem_mem hlt))
    have hnx := robL_next hlt
    have hln := l1 k hk
    have hal := atL_len (s.rb[k]).2.1 (s.rb[k]).1
    generalize atL (s.rb[k]).2.1 (s.rb[k]).1 = q at *
    have hql : (ints q).length = q.length := ints_length q
    have hnl : (robL s (k + 1)).length = (robL s k).length + (ints q).length := by rw [hnx, List.length_append, hql]
    have hLl : (ints (robL s k)).length = (robL s k).length := ints_length _
    repeat' (first|refine wS ?_|refine wB ?_|refine wK ?_|refine wR ?_|refine wE ?_|refine wT ?_|refine wU ?_|(refine wC rfl (fun hb=>?_) (fun hb=>?_)<;>(first|subst hb|((try simp only [nm] at hb);try (exfalso;omega))))|(refine rg 3 ?_;(all_goals (refine vV (by first|exact fs_lssT rfl rfl (by omega)|exact fs_lss rfl rfl) ?_)))|(refine rg 4 ?_;(all_goals (refine mV ?_;refine aV ?_)))|(refine rg 5 ?_;(all_goals (refine mV ?_;refine lV T ?_;refine mV ?_));(all_goals (refine vc_n (by exact fs_call rfl rfl cR (.inr ⟨rfl,rfl,by simp⟩)) rfl ?_;refine vc_frz (es := ints q) 16 rfl (congrArg (fun x=>some (AB.arr x 1)) (ints_map _ _)) hql.symm (ints_idfF _) ?_));(all_goals (refine vc_append T rfl rfl rfl rfl rfl rfl (by omega) (.row (ints_len q)) (ints_one q) (by simp;omega) (by simp;omega) rfl ?_;refine aV ?_)))|(refine rg 6 ?_;(all_goals (refine vV (by first|exact fs_addr rfl rfl (by omega) (by omega)|exact fs_add rfl rfl) ?_;refine mV ?_)))|(refine vc_nilp (by (first|(dsimp only [ln1,ln2,List.append_nil,ln4,ln5,ln6,ln7,ln8,ln9,putAt,putd,allObjs,argEnv,un_v,un_ptr,un_ep,un_pr,un_sl,un_mp,un_row,un_agg,un_tup,un_clo,Nat.zero_add,lnb,Nat.reduceAdd,lnc,lnd];first|done|exact rfl)|exact rfl)) ?_))
    all_goals first | (exfalso; omega) | exact ⟨⟨k + 1, hlt⟩, by dsimp only; omega, [0, 3], rfl, ⟨rfl, by dsimp only; rw [hnl]; rfl, rfl, rfl, trivial⟩, ⟨.inr rfl, .inr (sub_arr rfl ((app_own rfl).trans (congrArg _ hnx.symm)) (ints_idf _)), trivial⟩, by decide, lt0 _⟩
  · obtain rfl : k = s.rb.length := by omega
    have hA := l1 _ hk
    generalize hLA : robL s s.rb.length = A at *
    clear hk hlt
    repeat' (first|refine wS ?_|refine wB ?_|refine wK ?_|refine wR ?_|refine wE ?_|refine wT ?_|refine wU ?_|(refine wC rfl (fun hb=>?_) (fun hb=>?_)<;>(first|subst hb|((try simp only [nm] at hb);try (exfalso;omega))))|(refine rg 3 ?_;(all_goals (refine vV (by first|exact fs_lssF rfl rfl (by omega)|exact fs_lss rfl rfl) ?_)))|(refine rg 7 ?_;(all_goals (refine fV T ?_;refine lV T ?_;(first|refine qV T ?_|refine vV (by exact fs_lenNil T rfl rfl) ?_);refine mV ?_)))|(refine vc_nilp (by (first|(dsimp only [ln1,ln2,List.append_nil,ln4,ln5,ln6,ln7,ln8,ln9,putAt,putd,allObjs,argEnv,un_v,un_ptr,un_ep,un_pr,un_sl,un_mp,un_row,un_agg,un_tup,un_clo,Nat.zero_add,lnb,Nat.reduceAdd,lnc,lnd];first|done|exact rfl)|exact rfl)) ?_))
    all_goals try (exfalso; omega)
    refine aw_loop (X := {k : Nat // k ≤ s.sh.length}) (fun k => [(1, .ptr 0 0), (3, .sl 1 0 (A ++ shL s k.1).length 1), (21, .i s.sh.length), (22, .i k.1)]) (fun k => [AB.cells (sttA s), AB.arr (ints (A ++ shL s k.1)) 1]) (fun k => s.sh.length - k.1) ⟨0, by omega⟩ ⟨[0, 1], rfl, ⟨rfl, by simp [shL, AV.map, th]; rfl, congrArg (fun n : Nat => some (AV.i n)) hsl, rfl, trivial⟩, ⟨.inr rfl, .inr (sub_arr rfl (by simp [shL]) (ints_idf _)), trivial⟩, by decide, lt0 _⟩ ?_
    rintro ⟨k, hk⟩
    dsimp only
    have hln := l2 k
    have hBl : (A ++ shL s k).length = A.length + (shL s k).length := List.length_append
    have hLl : (ints (A ++ shL s k)).length = (A ++ shL s k).length := ints_length _
    by_cases hlt : k < s.sh.length
    · have hnx := shL_next s k
      have hnx2 : A ++ shL s (k + 1) = (A ++ shL s k) ++ shL1 s k := by rw [hnx, List.append_assoc]
      by_cases hcar : 0 ≤ carI s.rb k
      · have cN := shelfN_c s k (by omega) hcar
        have hq : shL1 s k = [] := if_pos hcar
        rw [hq, List.append_nil] at hnx2
        have hnl : (A ++ shL s (k + 1)).length = (A ++ shL s k).length + 0 := by rw [hnx2]; rfl
        repeat' (first|refine wS ?_|refine wB ?_|refine wK ?_|refine wR ?_|refine wE ?_|refine wT ?_|refine wU ?_|(refine wC rfl (fun hb=>?_) (fun hb=>?_)<;>(first|subst hb|((try simp only [nm] at hb);try (exfalso;omega))))|(refine rg 8 ?_;(all_goals (refine vV (by first|exact fs_lssT rfl rfl (by omega)|exact fs_lss rfl rfl) ?_)))|(refine rg 9 ?_;(all_goals (refine mV ?_;refine aV ?_)))|(refine rg 10 ?_;(all_goals (refine mV ?_;refine lV T ?_;refine mV ?_;refine vV (by exact kC (cN)) ?_;refine vc_append T rfl rfl rfl rfl rfl rfl (by omega) .nil rfl (by simp;omega) (by simp;omega) rfl ?_;refine aV ?_)))|(refine rg 11 ?_;(all_goals (refine vV (by first|exact fs_addr rfl rfl (by omega) (by omega)|exact fs_add rfl rfl) ?_;refine mV ?_)))|(refine vc_nilp (by (first|(dsimp only [ln1,ln2,List.append_nil,ln4,ln5,ln6,ln7,ln8,ln9,putAt,putd,allObjs,argEnv,un_v,un_ptr,un_ep,un_pr,un_sl,un_mp,un_row,un_agg,un_tup,un_clo,Nat.zero_add,lnb,Nat.reduceAdd,lnc,lnd];first|done|exact rfl)|exact rfl)) ?_))
        all_goals first | (exfalso; omega) | exact ⟨⟨k + 1, hlt⟩, by dsimp only; omega, [0, 2], rfl, ⟨rfl, by dsimp only; rw [hnl]; rfl, rfl, rfl, trivial⟩, ⟨.inr rfl, .inr (sub_arr rfl (by rw [hnx2, List.append_nil, List.drop_zero, List.take_of_length_le (by rw [hLl]; exact Nat.le_refl _)]) (ints_idf _)), trivial⟩, by decide, lt0 _⟩
      · have cS := shelfS_c s hlt (h.sh _ (List.getElem_mem hlt)) (by omega) (by omega)
        have hq : shL1 s k = [2 * s.sh[k] + 1] := by
          unfold shL1
          rw [if_neg hcar, List.getD_eq_getElem?_getD, List.getElem?_eq_getElem hlt]
          rfl
        rw [hq] at hnx2
        have hql : (ints [2 * s.sh[k] + 1]).length = 1 := rfl
        generalize hqq : [2 * s.sh[k] + 1] = q at *
        have hqn : q.length = 1 := by rw [← ints_length q]; exact hql
        have hnl : (A ++ shL s (k + 1)).length = (A ++ shL s k).length + (ints q).length := by rw [hnx2, List.length_append, ints_length q]
        repeat' (first|refine wS ?_|refine wB ?_|refine wK ?_|refine wR ?_|refine wE ?_|refine wT ?_|refine wU ?_|(refine wC rfl (fun hb=>?_) (fun hb=>?_)<;>(first|subst hb|((try simp only [nm] at hb);try (exfalso;omega))))|(refine rg 8 ?_;(all_goals (refine vV (by first|exact fs_lssT rfl rfl (by omega)|exact fs_lss rfl rfl) ?_)))|(refine rg 9 ?_;(all_goals (refine mV ?_;refine aV ?_)))|(refine rg 10 ?_;(all_goals (refine mV ?_;refine lV T ?_;refine mV ?_));(all_goals (refine vc_n (by exact fs_call rfl rfl cS (.inr ⟨rfl,rfl,by simp⟩)) rfl ?_;refine vc_frz (es := ints q) 28 rfl (congrArg (fun x=>some (AB.arr x 1)) (ints_map _ _)) hql.symm (ints_idfF _) ?_));(all_goals (refine vc_append T rfl rfl rfl rfl rfl rfl (by omega) (.row (ints_len q)) (ints_one q) (by simp;omega) (by simp;omega) rfl ?_;refine aV ?_)))|(refine rg 11 ?_;(all_goals (refine vV (by first|exact fs_addr rfl rfl (by omega) (by omega)|exact fs_add rfl rfl) ?_;refine mV ?_)))|(refine vc_nilp (by (first|(dsimp only [ln1,ln2,List.append_nil,ln4,ln5,ln6,ln7,ln8,ln9,putAt,putd,allObjs,argEnv,un_v,un_ptr,un_ep,un_pr,un_sl,un_mp,un_row,un_agg,un_tup,un_clo,Nat.zero_add,lnb,Nat.reduceAdd,lnc,lnd];first|done|exact rfl)|exact rfl)) ?_))
        all_goals first | (exfalso; omega) | exact ⟨⟨k + 1, hlt⟩, by dsimp only; omega, [0, 3], rfl, ⟨rfl, by dsimp only; rw [hnl]; rfl, rfl, rfl, trivial⟩, ⟨.inr rfl, .inr (sub_arr rfl ((app_own rfl).trans (congrArg _ hnx2.symm)) (ints_idf _)), trivial⟩, by decide, lt0 _⟩
    · obtain rfl : k = s.sh.length := by omega
      generalize hLB : A ++ shL s s.sh.length = B at *
      clear hk hlt
      repeat' (first|refine wS ?_|refine wB ?_|refine wK ?_|refine wR ?_|refine wE ?_|refine wT ?_|refine wU ?_|(refine wC rfl (fun hb=>?_) (fun hb=>?_)<;>(first|subst hb|((try simp only [nm] at hb);try (exfalso;omega))))|(refine rg 8 ?_;(all_goals (refine vV (by first|exact fs_lssF rfl rfl (by omega)|exact fs_lss rfl rfl) ?_)))|(refine rg 12 ?_;(all_goals (refine fV T ?_;refine lV T ?_;(first|refine qV T ?_|refine vV (by exact fs_lenNil T rfl rfl) ?_);refine mV ?_)))|(refine vc_nilp (by (first|(dsimp only [ln1,ln2,List.append_nil,ln4,ln5,ln6,ln7,ln8,ln9,putAt,putd,allObjs,argEnv,un_v,un_ptr,un_ep,un_pr,un_sl,un_mp,un_row,un_agg,un_tup,un_clo,Nat.zero_add,lnb,Nat.reduceAdd,lnc,lnd];first|done|exact rfl)|exact rfl)) ?_))
      all_goals try (exfalso; omega)
      refine aw_loop (X := {k : Nat // k ≤ s.pp.length}) (fun k => [(1, .ptr 0 0), (3, .sl 1 0 (B ++ ppL s k.1).length 1), (33, .i s.pp.length), (34, .i k.1)]) (fun k => [AB.cells (sttA s), AB.arr (ints (B ++ ppL s k.1)) 1]) (fun k => s.pp.length - k.1) ⟨0, by omega⟩ ⟨[0, 1], rfl, ⟨rfl, by simp [ppL, AV.map, th]; rfl, congrArg (fun n : Nat => some (AV.i n)) hpl, rfl, trivial⟩, ⟨.inr rfl, .inr (sub_arr rfl (by simp [ppL]) (ints_idf _)), trivial⟩, by decide, lt0 _⟩ ?_
      rintro ⟨k, hk⟩
      dsimp only
      have hln3 := l3 k hk
      have hCl : (B ++ ppL s k).length = B.length + (ppL s k).length := List.length_append
      have hLl : (ints (B ++ ppL s k)).length = (B ++ ppL s k).length := ints_length _
      by_cases hlt : k < s.pp.length
      · have hnx2 : B ++ ppL s (k + 1) = (B ++ ppL s k) ++ [2 * s.pp[k], 2 * s.pp[k] + 1] := by rw [ppL_next hlt, List.append_assoc]
        have cS := person_c s hlt (h.pp _ (List.getElem_mem hlt))
        have hql : (ints [2 * s.pp[k], 2 * s.pp[k] + 1]).length = 2 := rfl
        generalize hqq : [2 * s.pp[k], 2 * s.pp[k] + 1] = q at *
        have hqn : q.length = 2 := by rw [← ints_length q]; exact hql
        have hnl : (B ++ ppL s (k + 1)).length = (B ++ ppL s k).length + (ints q).length := by rw [hnx2, List.length_append, ints_length q]
        repeat' (first|refine wS ?_|refine wB ?_|refine wK ?_|refine wR ?_|refine wE ?_|refine wT ?_|refine wU ?_|(refine wC rfl (fun hb=>?_) (fun hb=>?_)<;>(first|subst hb|((try simp only [nm] at hb);try (exfalso;omega))))|(refine rg 13 ?_;(all_goals (refine vV (by first|exact fs_lssT rfl rfl (by omega)|exact fs_lss rfl rfl) ?_)))|(refine rg 14 ?_;(all_goals (refine mV ?_;refine aV ?_)))|(refine rg 15 ?_;(all_goals (refine mV ?_;refine lV T ?_;refine mV ?_));(all_goals (refine vc_n (by exact fs_call rfl rfl cS (.inr ⟨rfl,rfl,by simp⟩)) rfl ?_;refine vc_frz (es := ints q) 40 rfl (congrArg (fun x=>some (AB.arr x 1)) (ints_map _ _)) hql.symm (ints_idfF _) ?_));(all_goals (refine vc_append T rfl rfl rfl rfl rfl rfl (by omega) (.row (ints_len q)) (ints_one q) (by simp;omega) (by simp;omega) rfl ?_;refine aV ?_)))|(refine rg 16 ?_;(all_goals (refine vV (by first|exact fs_addr rfl rfl (by omega) (by omega)|exact fs_add rfl rfl) ?_;refine mV ?_)))|(refine vc_nilp (by (first|(dsimp only [ln1,ln2,List.append_nil,ln4,ln5,ln6,ln7,ln8,ln9,putAt,putd,allObjs,argEnv,un_v,un_ptr,un_ep,un_pr,un_sl,un_mp,un_row,un_agg,un_tup,un_clo,Nat.zero_add,lnb,Nat.reduceAdd,lnc,lnd];first|done|exact rfl)|exact rfl)) ?_))
        all_goals first | (exfalso; omega) | exact ⟨⟨k + 1, hlt⟩, by dsimp only; omega, [0, 3], rfl, ⟨rfl, by dsimp only; rw [hnl]; rfl, rfl, rfl, trivial⟩, ⟨.inr rfl, .inr (sub_arr rfl ((app_own rfl).trans (congrArg _ hnx2.symm)) (ints_idf _)), trivial⟩, by decide, lt0 _⟩
      · obtain rfl : k = s.pp.length := by omega
        have hall : allL s = B ++ ppL s s.pp.length := by unfold allL; rw [hLA, hLB]
        rw [hall]
        repeat' (first|refine wS ?_|refine wB ?_|refine wK ?_|refine wR ?_|refine wE ?_|refine wT ?_|refine wU ?_|(refine wC rfl (fun hb=>?_) (fun hb=>?_)<;>(first|subst hb|((try simp only [nm] at hb);try (exfalso;omega))))|(refine rg 13 ?_;(all_goals (refine vV (by first|exact fs_lssF rfl rfl (by omega)|exact fs_lss rfl rfl) ?_)))|(refine rg 17 ?_;(all_goals (refine mV ?_;refine aV ?_)))|(refine vc_nilp (by (first|(dsimp only [ln1,ln2,List.append_nil,ln4,ln5,ln6,ln7,ln8,ln9,putAt,putd,allObjs,argEnv,un_v,un_ptr,un_ep,un_pr,un_sl,un_mp,un_row,un_agg,un_tup,un_clo,Nat.zero_add,lnb,Nat.reduceAdd,lnc,lnd];first|done|exact rfl)|exact rfl)) ?_))
        all_goals first | (exfalso; omega) | exact ⟨.inl rfl, [1], _, rfl, rfl, rfl, ⟨.inr (sub_arr rfl rfl (ints_idf _)), trivial⟩, by decide, lt0 _⟩
end Go.Proofs.Ytcdgmjfmmnklnaa
