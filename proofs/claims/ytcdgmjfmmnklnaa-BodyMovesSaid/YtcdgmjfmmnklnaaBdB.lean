/-
  Layer 14: the state at first (the walk).
-/
import Derived.Test.YtcdgmjfmmnklnaaBdA
namespace Go.Proofs.Ytcdgmjfmmnklnaa
open Go Go.Ab Go.Fl
set_option linter.unusedVariables false
set_option linter.unusedSimpArgs false
attribute [local irreducible] VC AW FStep ACall
set_option maxHeartbeats 4000000
theorem first_c (s : Sit) (h1 : s.sh.length ≤ 1000) (h2 : s.rb.length ≤ 1000) : ACall Try.prog 10 [.agg (sitA s)] []
    (.agg [.i 0, .sl 0 0 s.sh.length 1, .sl 1 0 s.rb.length 6, .nils, .nils, .nils]) [.arr (ints (cellsF s s.sh.length)) 1, .arr (robsA (robsF s s.rb.length)) 6] := by
  have hsl : (shsA s.sh).length = s.sh.length := by simp
  have hrl : (stksA s.rb).length = s.rb.length := by simp
  refine acall T Try.func10 rfl rfl rfl rfl ?_
  repeat' (first|refine wS ?_|refine wB ?_|refine wK ?_|refine wR ?_|refine wE ?_|refine wT ?_|refine wU ?_|(refine wC rfl (fun hb=>?_) (fun hb=>?_)<;>(first|subst hb|((try simp only [nm] at hb);try (exfalso;omega))))|(refine rg 0 ?_;(all_goals (refine vc_n (by exact fs_box rfl rfl) rfl ?_;refine vc_n (by exact fs_alloc T rfl) rfl ?_)))|(refine rg 1 ?_;(all_goals (refine vc_n (by exact fs_alloc T rfl) rfl ?_)))|(refine vc_nilp (by (first|(dsimp only [ln1,ln2,List.append_nil,ln4,ln5,ln6,ln7,ln8,ln9,putAt,putd,allObjs,argEnv,un_v,un_ptr,un_ep,un_pr,un_sl,un_mp,un_row,un_agg,un_tup,un_clo,Nat.zero_add,lnb,Nat.reduceAdd,lnc,lnd];first|done|exact rfl)|exact rfl)) ?_))
  refine aw_ownC 2 1 1 rfl rfl (by decide) ?_
  refine aw_ownC 2 2 6 rfl rfl (by decide) ?_
  repeat' (first|refine wS ?_|refine wB ?_|refine wK ?_|refine wR ?_|refine wE ?_|refine wT ?_|refine wU ?_|(refine wC rfl (fun hb=>?_) (fun hb=>?_)<;>(first|subst hb|((try simp only [nm] at hb);try (exfalso;omega))))|(refine rg 2 ?_;(all_goals (refine fV T ?_;refine lV T ?_;(first|refine qV T ?_|refine vV (by exact fs_lenNil T rfl rfl) ?_);refine mV ?_)))|(refine vc_nilp (by (first|(dsimp only [ln1,ln2,List.append_nil,ln4,ln5,ln6,ln7,ln8,ln9,putAt,putd,allObjs,argEnv,un_v,un_ptr,un_ep,un_pr,un_sl,un_mp,un_row,un_agg,un_tup,un_clo,Nat.zero_add,lnb,Nat.reduceAdd,lnc,lnd];first|done|exact rfl)|exact rfl)) ?_))
  refine aw_loop (X := {k : Nat // k ≤ s.sh.length}) (fun k => [(1, .ptr 0 0), (2, .ptr 1 0), (3, .ptr 2 0), (9, .rowE (shsA s.sh) 2), (10, .i s.sh.length), (11, .i k.1)]) (fun k => [AB.cells (sitA s), AB.cells [.i 0, .nils, .nils, .nils, .nils, .nils], AB.cells [.i 0, .sl 3 0 k.1 1, .sl 4 0 0 6, .nils, .nils, .nils], AB.arr (ints (cellsF s k.1)) 1, AB.arr [] 6]) (fun k => s.sh.length - k.1) ⟨0, by omega⟩ ⟨[0, 1, 2, 3, 4], rfl, ⟨rfl, rfl, rfl, rfl, congrArg (fun n : Nat => some (AV.i n)) hsl, rfl, trivial⟩, ⟨.inr rfl, .inr rfl, .inr rfl, .inr rfl, .inr rfl, trivial⟩, by decide, lt0 _⟩ ?_
  rintro ⟨k, hk⟩
  dsimp only
  by_cases hlt : k < s.sh.length
  · have q1 := shs_get hlt
    have hnx := cellsF_next hlt
    have hcl := cellsF_len hk
    have hil : (ints (cellsF s k)).length = k := by rw [ints_length, hcl]
    repeat' (first|refine wS ?_|refine wB ?_|refine wK ?_|refine wR ?_|refine wE ?_|refine wT ?_|refine wU ?_|(refine wC rfl (fun hb=>?_) (fun hb=>?_)<;>(first|subst hb|((try simp only [nm] at hb);try (exfalso;omega))))|(refine rg 3 ?_;(all_goals (refine vV (by first|exact fs_lssT rfl rfl (by omega)|exact fs_lss rfl rfl) ?_)))|(refine rg 4 ?_;(all_goals (refine vV (by exact fs_indexRowE T rfl rfl rfl rfl rfl (by omega) (shs_len _) q1) ?_;refine lV T ?_;refine vc_n (by exact fs_alloc T rfl) rfl ?_;refine vc_store T rfl rfl rfl rfl rfl rfl (by decide) rfl ?_)))|(refine rg 5 ?_;(all_goals (refine fV T ?_;refine lV T ?_;refine fV T ?_;refine lV T ?_;refine vc_n (by exact fs_buildSlice T rfl rfl (by decide) (by decide) rfl rfl rfl) rfl ?_;refine vc_append T rfl rfl rfl rfl rfl rfl (by omega) (Elems.whole rfl rfl) rfl (by simp;omega) (by simp;omega) rfl ?_;refine fV T ?_;refine vc_store T rfl rfl rfl rfl rfl rfl (by decide) rfl ?_)))|(refine rg 6 ?_;(all_goals (refine vV (by first|exact fs_addr rfl rfl (by omega) (by omega)|exact fs_add rfl rfl) ?_;refine mV ?_)))|(refine vc_nilp (by (first|(dsimp only [ln1,ln2,List.append_nil,ln4,ln5,ln6,ln7,ln8,ln9,putAt,putd,allObjs,argEnv,un_v,un_ptr,un_ep,un_pr,un_sl,un_mp,un_row,un_agg,un_tup,un_clo,Nat.zero_add,lnb,Nat.reduceAdd,lnc,lnd];first|done|exact rfl)|exact rfl)) ?_))
    all_goals first | (exfalso; omega) | exact ⟨⟨k + 1, hlt⟩, by dsimp only; omega, [0, 1, 2, 7, 4], rfl, (by (repeat (first | exact trivial | refine ⟨rfl, ?_⟩))), ⟨.inr rfl, .inr rfl, .inr rfl, .inr (sub_arr rfl hnx (ints_idf _)), .inr rfl, trivial⟩, by decide, lt0 _⟩
  · obtain rfl : k = s.sh.length := by omega
    generalize cellsF s s.sh.length = A at *
    clear hk hlt
    repeat' (first|refine wS ?_|refine wB ?_|refine wK ?_|refine wR ?_|refine wE ?_|refine wT ?_|refine wU ?_|(refine wC rfl (fun hb=>?_) (fun hb=>?_)<;>(first|subst hb|((try simp only [nm] at hb);try (exfalso;omega))))|(refine rg 3 ?_;(all_goals (refine vV (by first|exact fs_lssF rfl rfl (by omega)|exact fs_lss rfl rfl) ?_)))|(refine rg 7 ?_;(all_goals (refine fV T ?_;refine lV T ?_;(first|refine qV T ?_|refine vV (by exact fs_lenNil T rfl rfl) ?_);refine mV ?_)))|(refine vc_nilp (by (first|(dsimp only [ln1,ln2,List.append_nil,ln4,ln5,ln6,ln7,ln8,ln9,putAt,putd,allObjs,argEnv,un_v,un_ptr,un_ep,un_pr,un_sl,un_mp,un_row,un_agg,un_tup,un_clo,Nat.zero_add,lnb,Nat.reduceAdd,lnc,lnd];first|done|exact rfl)|exact rfl)) ?_))
    all_goals try (exfalso; omega)
    refine aw_loop (X := {k : Nat // k ≤ s.rb.length}) (fun k => [(1, .ptr 0 0), (2, .ptr 1 0), (3, .ptr 2 0), (24, .rowE (stksA s.rb) 2), (25, .i s.rb.length), (26, .i k.1)]) (fun k => [AB.cells (sitA s), AB.cells [.i 0, .nils, .nils, .nils, .nils, .nils], AB.cells [.i 0, .sl 3 0 s.sh.length 1, .sl 4 0 k.1 6, .nils, .nils, .nils], AB.arr (ints A) 1, AB.arr (robsA (robsF s k.1)) 6]) (fun k => s.rb.length - k.1) ⟨0, by omega⟩ ⟨[0, 1, 2, 3, 4], rfl, ⟨rfl, rfl, rfl, rfl, congrArg (fun n : Nat => some (AV.i n)) hrl, rfl, trivial⟩, ⟨.inr rfl, .inr rfl, .inr rfl, .inr (sub_arr rfl rfl (ints_idf _)), .inr rfl, trivial⟩, by decide, lt0 _⟩ ?_
    rintro ⟨k, hk⟩
    dsimp only
    by_cases hlt : k < s.rb.length
    · have q1 := stks_get hlt
      have hnx := robsF_next hlt
      have hcl := robsF_len hk
      have hil : (robsA (robsF s k)).length = k := by rw [List.length_map, hcl]
      repeat' (first|refine wS ?_|refine wB ?_|refine wK ?_|refine wR ?_|refine wE ?_|refine wT ?_|refine wU ?_|(refine wC rfl (fun hb=>?_) (fun hb=>?_)<;>(first|subst hb|((try simp only [nm] at hb);try (exfalso;omega))))|(refine rg 8 ?_;(all_goals (refine vV (by first|exact fs_lssT rfl rfl (by omega)|exact fs_lss rfl rfl) ?_)))|(refine rg 9 ?_;(all_goals (refine vV (by exact fs_indexRowE T rfl rfl rfl rfl rfl (by omega) (stks_len _) q1) ?_;refine lV T ?_;refine vc_n (by exact fs_alloc T rfl) rfl ?_;refine vc_store T rfl rfl rfl rfl rfl rfl (by decide) rfl ?_)))|(refine rg 10 ?_;(all_goals (refine fV T ?_;refine lV T ?_;refine fV T ?_;refine lV T ?_;refine fV T ?_;refine lV T ?_;refine vV (by exact fs_build T rfl rfl rfl rfl) ?_;refine vc_n (by exact fs_buildSlice T rfl rfl (by decide) (by decide) rfl rfl rfl) rfl ?_;refine vc_append T rfl rfl rfl rfl rfl rfl (by omega) (Elems.whole rfl rfl) rfl (by simp;omega) (by simp;omega) rfl ?_;refine fV T ?_;refine vc_store T rfl rfl rfl rfl rfl rfl (by decide) rfl ?_)))|(refine rg 11 ?_;(all_goals (refine vV (by first|exact fs_addr rfl rfl (by omega) (by omega)|exact fs_add rfl rfl) ?_;refine mV ?_)))|(refine vc_nilp (by (first|(dsimp only [ln1,ln2,List.append_nil,ln4,ln5,ln6,ln7,ln8,ln9,putAt,putd,allObjs,argEnv,un_v,un_ptr,un_ep,un_pr,un_sl,un_mp,un_row,un_agg,un_tup,un_clo,Nat.zero_add,lnb,Nat.reduceAdd,lnc,lnd];first|done|exact rfl)|exact rfl)) ?_))
      all_goals first | (exfalso; omega) | exact ⟨⟨k + 1, hlt⟩, by dsimp only; omega, [0, 1, 2, 3, 7], rfl, (by (repeat (first | exact trivial | refine ⟨rfl, ?_⟩))), ⟨.inr rfl, .inr rfl, .inr rfl, .inr (sub_arr rfl rfl (ints_idf _)), .inr (sub_arr rfl hnx (robs_idf _)), trivial⟩, by decide, lt0 _⟩
    · obtain rfl : k = s.rb.length := by omega
      repeat' (first|refine wS ?_|refine wB ?_|refine wK ?_|refine wR ?_|refine wE ?_|refine wT ?_|refine wU ?_|(refine wC rfl (fun hb=>?_) (fun hb=>?_)<;>(first|subst hb|((try simp only [nm] at hb);try (exfalso;omega))))|(refine rg 8 ?_;(all_goals (refine vV (by first|exact fs_lssF rfl rfl (by omega)|exact fs_lss rfl rfl) ?_)))|(refine rg 12 ?_;(all_goals (refine lV T ?_;refine vc_store T rfl rfl rfl rfl rfl rfl (by decide) rfl ?_)))|(refine vc_nilp (by (first|(dsimp only [ln1,ln2,List.append_nil,ln4,ln5,ln6,ln7,ln8,ln9,putAt,putd,allObjs,argEnv,un_v,un_ptr,un_ep,un_pr,un_sl,un_mp,un_row,un_agg,un_tup,un_clo,Nat.zero_add,lnb,Nat.reduceAdd,lnc,lnd];first|done|exact rfl)|exact rfl)) ?_))
      all_goals first | (exfalso; omega) | exact ⟨.inl rfl, [3, 4], _, rfl, rfl, rfl, ⟨.inr (sub_arr rfl rfl (ints_idf _)), .inr (sub_arr rfl rfl (robs_idf _)), trivial⟩, by decide, lt0 _⟩
end Go.Proofs.Ytcdgmjfmmnklnaa
