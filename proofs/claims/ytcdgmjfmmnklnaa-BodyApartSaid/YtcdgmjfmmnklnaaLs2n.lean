/-
  The library on lists of integers: Clone, Values, Collect, Sorted.
-/
import Derived.Test.YtcdgmjfmmnklnaaLs1
namespace Go.Proofs.Ytcdgmjfmmnklnaa
open Go Go.Ab
set_option linter.unusedVariables false
set_option linter.unusedSimpArgs false
attribute [local irreducible] VC AW FStep ACall AY VY AIter
set_option maxHeartbeats 4000000

abbrev valC (l : List Int) : AV := .clo (.func 63) [] [.pr [.rowE (ints l) 1] 0]
theorem values_c (l : List Int) : ACall Try.prog 43 [.rowE (ints l) 1] [] (valC l) [] := by
  refine acall_frzC rfl ?_
  refine acall T Try.func43 rfl rfl rfl rfl ?_
  repeat' (first|refine wS ?_|refine wB ?_|refine wK ?_|refine wR ?_|refine wE ?_|refine wT ?_|refine wU ?_|(refine wC rfl (fun hb=>?_) (fun hb=>?_)<;>(first|subst hb|((try simp only [nm] at hb);try (exfalso;omega))))|(refine rg 0 ?_;(all_goals (refine vc_n (by exact fs_box rfl rfl) rfl ?_;refine aV ?_)))|(refine rg 1 ?_;(all_goals (refine vV (by exact fs_makeFunc rfl rfl) ?_;refine aV ?_)))|(refine vc_nilp (by (first|(dsimp only [ln1,ln2,List.append_nil,ln4,ln5,ln6,ln7,ln8,ln9,putAt,putd,allObjs,argEnv,un_v,un_ptr,un_ep,un_pr,un_sl,un_mp,un_row,un_agg,un_tup,un_clo,Nat.zero_add,lnb,Nat.reduceAdd,lnc,lnd];first|done|exact rfl)|exact rfl)) ?_))
  exact ⟨.inl rfl, [0], _, rfl, rfl, rfl, ⟨.inr rfl, trivial⟩, by decide, fun i hi => absurd hi (Nat.not_lt_zero _)⟩
def valI (l : List Int) (k : Nat) : List AV := match l[k]? with
  | some x => [.i x]
  | none => []
theorem valI_at {l : List Int} {k : Nat} (h : k < l.length) : valI l k = [.i l[k]] := by unfold valI; rw [List.getElem?_eq_getElem h]
theorem values_it (l : List Int) (hl : l.length ≤ 17592186043904) : AIter Try.prog 63 [] [.pr [.rowE (ints l) 1] 0] [] (valI l) l.length := by
  have hll : (ints l).length = l.length := by simp
  refine aiter T Try.func63 rfl rfl rfl rfl ?_
  intro J A y hJ hy
  repeat' (first|(first|(refine ay_seq ?_)|(refine ay_block ?_)|(refine ay_skip ?_)|(refine ay_ret ?_)|(refine ay_exit ?_))|(first|(refine ay_condt rfl ?_)|(refine ay_condf rfl ?_)|(refine ay_cond rfl (fun hb=>?_) (fun hb=>?_)<;>(first|subst hb|((try simp only [nm] at hb);try ((exfalso;omega);done)))))|(((refine ay_aw hJ (aw_region (id := 0) ?_)));(all_goals (refine lV T ?_;(first|refine qV T ?_|refine vV (by exact fs_lenNil T rfl rfl) ?_);refine mV ?_)))|(refine vc_nilp (by (first|(dsimp only [ln1,ln2,List.append_nil,ln4,ln5,ln6,ln7,ln8,ln9,putAt,putd,allObjs,argEnv,un_v,un_ptr,un_ep,un_pr,un_sl,un_mp,un_row,un_agg,un_tup,un_clo,Nat.zero_add,lnb,Nat.reduceAdd,lnc,lnd];first|done|exact rfl)|exact rfl)) ?_))
  refine ay_loop (X := {k : Nat // k ≤ l.length}) (fun k => [(0, .clo (.yield y) [] []), (5, .rowE (ints l) 1), (6, .i (ints l).length), (7, .i (k.1 : Int))]) (fun _ => []) (fun k => (k.1, false)) (fun k => l.length - k.1) ⟨0, Nat.zero_le _⟩ rfl (by (refine ⟨[], rfl, ?_, trivial, List.nodup_nil, fun _ h => absurd h (Nat.not_lt_zero _)⟩; (repeat (first | exact trivial | refine ⟨rfl, ?_⟩)))) ?_
  rintro ⟨k, hkl⟩
  dsimp only
  by_cases hk : k < l.length
  · have hit := valI_at hk
    have q1 : (ints l)[(k : Int).toNat]? = some [AV.i l[k]] := by rw [Int.toNat_natCast, List.getElem?_map, List.getElem?_eq_getElem hk]; rfl
    generalize l[k] = x at *
    repeat' (first|(first|(refine ay_seq ?_)|(refine ay_block ?_)|(refine ay_skip ?_)|(refine ay_ret ?_)|(refine ay_exit ?_))|(first|(refine ay_condt rfl ?_)|(refine ay_condf rfl ?_)|(refine ay_cond rfl (fun hb=>?_) (fun hb=>?_)<;>(first|subst hb|((try simp only [nm] at hb);try ((exfalso;omega);done)))))|(((refine ay_aw hJ (aw_region (id := 1) ?_)));(all_goals (refine vV (by exact fs_lss rfl rfl) ?_)))|(((refine ay_aw hJ (aw_region (id := 2) ?_)));(all_goals (refine vV (by exact fs_indexRowE T rfl rfl rfl rfl rfl (by omega) (ints_len _) q1) ?_;refine lV T ?_;refine aV ?_)))|(((refine ay_region (id := 3) ?_));((refine vy_cut 2 hJ ?_));(dsimp only [List.take,List.drop]);(all_goals (refine mV ?_;refine mV ?_;refine vc_nil ?_;refine vy_yield hJ hy rfl rfl rfl hk hit rfl ?_));(all_goals (intro yes));(all_goals (refine vy_vc hJ ?_;refine vV (by exact fs_not rfl) ?_;refine vc_nilp (by (first|(dsimp only [ln1,ln2,List.append_nil,ln4,ln5,ln6,ln7,ln8,ln9,putAt,putd,allObjs,argEnv,un_v,un_ptr,un_ep,un_pr,un_sl,un_mp,un_row,un_agg,un_tup,un_clo,Nat.zero_add,lnb,Nat.reduceAdd,lnc,lnd];first|done|exact rfl)|exact rfl)) ?_)))|(((refine ay_aw hJ (aw_region (id := 4) ?_)));(all_goals (refine vV (by first|exact fs_addr rfl rfl (by omega) (by omega)|exact fs_add rfl rfl) ?_;refine mV ?_)))|(refine vc_nilp (by (first|(dsimp only [ln1,ln2,List.append_nil,ln4,ln5,ln6,ln7,ln8,ln9,putAt,putd,allObjs,argEnv,un_v,un_ptr,un_ep,un_pr,un_sl,un_mp,un_row,un_agg,un_tup,un_clo,Nat.zero_add,lnb,Nat.reduceAdd,lnc,lnd];first|done|exact rfl)|exact rfl)) ?_))
    all_goals first | (exfalso; omega) | skip
    · exact ⟨.inl rfl, fun h => (by first | (subst hb; cases h) | (cases h; done)), [], rfl⟩
    · obtain rfl := hb
      exact ⟨⟨k + 1, hk⟩, by dsimp only; omega, rfl, by (refine ⟨[], rfl, ?_, trivial, List.nodup_nil, fun _ h => absurd h (Nat.not_lt_zero _)⟩; (repeat (first | exact trivial | refine ⟨rfl, ?_⟩)))⟩
  · repeat' (first | (first | (refine ay_seq ?_) | (refine ay_block ?_) | (refine ay_skip ?_) | (refine ay_ret ?_) | (refine ay_exit ?_)) | (first | (refine ay_condt rfl ?_) | (refine ay_condf rfl ?_) | (refine ay_cond rfl (fun hb => ?_) (fun hb => ?_) <;> (first | subst hb | ((try simp only [nm] at hb); try ((exfalso; omega); done))))) | (((refine ay_aw hJ (aw_region (id := 1) ?_))); (all_goals (refine vV (by exact fs_lss rfl rfl) ?_))) | (refine vc_nilp (by (first | (dsimp only [ln1, ln2, List.append_nil, ln4, ln5, ln6, ln7, ln8, ln9, putAt, putd, allObjs, argEnv, un_v, un_ptr, un_ep, un_pr, un_sl, un_mp, un_row, un_agg, un_tup, un_clo, Nat.zero_add, lnb, Nat.reduceAdd, lnc, lnd]; first | done | exact rfl) | exact rfl)) ?_))
    all_goals first | (exfalso; omega) | skip
    exact ⟨.inr rfl, fun _ => by show k = _; omega, [], rfl⟩
abbrev ouH (l : List Int) : Hp := [.cells [.sl 1 0 l.length 1], .arr (ints l) 1]
theorem lt1p : ∀ i : Nat, i < 1 → ([0, 3] : List Nat)[i]? = some i := by decide
theorem appendSeq_c (l : List Int) (hl : l.length ≤ 17592186043904) : ACall Try.prog 80 [.nils, valC l] [] (.sl 0 0 l.length 1) [.arr (ints l) 1] := by
  have hit := values_it l hl
  refine acall T Try.func80 rfl rfl rfl rfl ?_
  repeat' (first|refine wS ?_|refine wB ?_|refine wK ?_|refine wR ?_|refine wE ?_|refine wT ?_|refine wU ?_|(refine wC rfl (fun hb=>?_) (fun hb=>?_)<;>(first|subst hb|((try simp only [nm] at hb);try (exfalso;omega))))|(refine rg 0 ?_;(all_goals (refine vc_n (by exact fs_box rfl rfl) rfl ?_;refine aV ?_)))|(refine rg 1 ?_;(all_goals (refine mV ?_)))|(refine vc_nilp (by (first|(dsimp only [ln1,ln2,List.append_nil,ln4,ln5,ln6,ln7,ln8,ln9,putAt,putd,allObjs,argEnv,un_v,un_ptr,un_ep,un_pr,un_sl,un_mp,un_row,un_agg,un_tup,un_clo,Nat.zero_add,lnb,Nat.reduceAdd,lnc,lnd];first|done|exact rfl)|exact rfl)) ?_))
  refine aw_ownC 0 0 1 rfl rfl (by decide) ?_
  refine aw_range [] [0, 1] [(2, .ptr 0 0)] (fun k => ouH (l.take k)) 1 rfl hit rfl rfl rfl trivial List.nodup_nil rfl ⟨rfl, trivial⟩ ⟨.inr rfl, .inr rfl, trivial⟩ (by decide) (fun i hi => absurd hi (Nat.not_lt_zero _)) (by simp) (Nat.zero_le _) (Nat.le_of_ble_eq_true rfl) rfl (by decide) (fun k hk => by rw [valI_at hk]; exact ⟨rfl, rfl⟩) ?_ ?_
  · intro k hk
    rw [valI_at hk]
    have hks := List.take_succ_eq_append_getElem hk
    have hkl : (l.take k).length ≤ l.length := List.length_take_le' _ _
    generalize l.take k = K at hks hkl ⊢
    generalize l[k] = x at *
    refine aw_region (id := 2) ?_
    refine vV (by exact fs_assign rfl) ?_
    refine vc_nil ?_
    refine ⟨rfl, ?_⟩
    repeat' (first|refine wS ?_|refine wB ?_|refine wK ?_|refine wR ?_|refine wE ?_|refine wT ?_|refine wU ?_|(refine wC rfl (fun hb=>?_) (fun hb=>?_)<;>(first|subst hb|((try simp only [nm] at hb);try (exfalso;omega))))|(refine rg 3 ?_;(all_goals (refine lV T ?_;refine mV ?_;refine vc_n (by exact fs_buildSlice T rfl rfl (by decide) (by decide) rfl rfl rfl) rfl ?_;refine vc_append T rfl rfl rfl rfl rfl rfl (by simp) (Elems.whole rfl rfl) rfl (by simp;omega) (by simp;omega) rfl ?_;refine vc_store T rfl rfl rfl rfl rfl rfl (by decide) rfl ?_)))|(refine vc_nilp (by (first|(dsimp only [ln1,ln2,List.append_nil,ln4,ln5,ln6,ln7,ln8,ln9,putAt,putd,allObjs,argEnv,un_v,un_ptr,un_ep,un_pr,un_sl,un_mp,un_row,un_agg,un_tup,un_clo,Nat.zero_add,lnb,Nat.reduceAdd,lnc,lnd];first|done|exact rfl)|exact rfl)) ?_))
    show Sub _ _ _ _ (ouH (l.take (k + 1)))
    rw [hks]
    exact ⟨[0, 3], rfl, trivial, ⟨.inr (by simp; rfl), .inr (sub_arr rfl (by simp; exact List.take_of_length_le (by simp)) (ints_idf _)), trivial⟩, by decide, lt1p⟩
  · have e : l.take l.length = l := List.take_length
    rw [e]
    repeat' (first|refine wS ?_|refine wB ?_|refine wK ?_|refine wR ?_|refine wE ?_|refine wT ?_|refine wU ?_|(refine wC rfl (fun hb=>?_) (fun hb=>?_)<;>(first|subst hb|((try simp only [nm] at hb);try (exfalso;omega))))|(refine rg 4 ?_;(all_goals (refine lV T ?_;refine aV ?_)))|(refine vc_nilp (by (first|(dsimp only [ln1,ln2,List.append_nil,ln4,ln5,ln6,ln7,ln8,ln9,putAt,putd,allObjs,argEnv,un_v,un_ptr,un_ep,un_pr,un_sl,un_mp,un_row,un_agg,un_tup,un_clo,Nat.zero_add,lnb,Nat.reduceAdd,lnc,lnd];first|done|exact rfl)|exact rfl)) ?_))
    exact ⟨.inl rfl, [1], _, rfl, rfl, rfl, ⟨.inr (sub_arr rfl rfl (ints_idf _)), trivial⟩, by decide, fun i hi => absurd hi (Nat.not_lt_zero _)⟩
theorem collect_c (l : List Int) (hl : l.length ≤ 17592186043904) : ACall Try.prog 62 [valC l] [] (.sl 0 0 l.length 1) [.arr (ints l) 1] := by
  have h1 := appendSeq_c l hl
  have hrf := ints_rf l
  refine acall T Try.func62 rfl rfl rfl rfl ?_
  repeat' (first|refine wS ?_|refine wB ?_|refine wK ?_|refine wR ?_|refine wE ?_|refine wT ?_|refine wU ?_|(refine wC rfl (fun hb=>?_) (fun hb=>?_)<;>(first|subst hb|((try simp only [nm] at hb);try (exfalso;omega))))|(refine rg 0 ?_;(all_goals (refine aV ?_)))|(refine rg 1 ?_;(all_goals (refine mV ?_));(all_goals first|(refine vV (by first|exact fs_call rfl rfl h1 (.inr ⟨rfl,rfl,by simp⟩)) ?_)|(refine vc_n (by first|exact fs_call rfl rfl h1 (.inr ⟨rfl,rfl,by simp⟩)) rfl ?_));(all_goals (refine aV ?_)))|(refine vc_nilp (by (first|(dsimp only [ln1,ln2,List.append_nil,ln4,ln5,ln6,ln7,ln8,ln9,putAt,putd,allObjs,argEnv,un_v,un_ptr,un_ep,un_pr,un_sl,un_mp,un_row,un_agg,un_tup,un_clo,Nat.zero_add,lnb,Nat.reduceAdd,lnc,lnd];first|done|exact rfl)|exact rfl)) ?_))
  exact ⟨.inl rfl, [0], _, rfl, rfl, rfl, ⟨.inr (sub_arr rfl (ints_map _ _) (ints_idf _)), trivial⟩, by decide, fun i hi => absurd hi (Nat.not_lt_zero _)⟩
theorem sorted_c (l : List Int) (hl : l.length ≤ 17592186043904) : ACall Try.prog 42 [valC l] [] (.rowE (ints (sorted l)) 1) [] := by
  refine acall_frz (by simp [sorted_len] : l.length = (ints (sorted l)).length) (ints_idfF _) ?_
  have h1 := collect_c l hl
  have h2 := sort_c l hl
  have hrf := ints_rf l
  generalize sorted l = B at *
  refine acall T Try.func42 rfl rfl rfl rfl ?_
  repeat' (first|refine wS ?_|refine wB ?_|refine wK ?_|refine wR ?_|refine wE ?_|refine wT ?_|refine wU ?_|(refine wC rfl (fun hb=>?_) (fun hb=>?_)<;>(first|subst hb|((try simp only [nm] at hb);try (exfalso;omega))))|(refine rg 0 ?_;(all_goals (refine aV ?_)))|(refine rg 1 ?_;(all_goals (refine mV ?_));(all_goals first|(refine vV (by first|exact fs_call rfl rfl h1 (.inr ⟨rfl,rfl,by simp⟩)) ?_)|(refine vc_n (by first|exact fs_call rfl rfl h1 (.inr ⟨rfl,rfl,by simp⟩)) rfl ?_));(all_goals (refine aV ?_)))|(refine rg 2 ?_;(all_goals (refine mV ?_;refine vc_callw [0] rfl rfl h2 rfl rfl (by decide) ⟨.inr (sub_arr rfl (ints_map _ _) (ints_idf _)),trivial⟩ (by simp) rfl ?_)))|(refine rg 3 ?_;(all_goals (refine mV ?_;refine aV ?_)))|(refine vc_nilp (by (first|(dsimp only [ln1,ln2,List.append_nil,ln4,ln5,ln6,ln7,ln8,ln9,putAt,putd,allObjs,argEnv,un_v,un_ptr,un_ep,un_pr,un_sl,un_mp,un_row,un_agg,un_tup,un_clo,Nat.zero_add,lnb,Nat.reduceAdd,lnc,lnd];first|done|exact rfl)|exact rfl)) ?_))
  exact ⟨.inl rfl, [0], _, rfl, rfl, rfl, ⟨.inr (sub_arr rfl (ints_map _ _) (ints_idf _)), trivial⟩, by decide, fun i hi => absurd hi (Nat.not_lt_zero _)⟩
end Go.Proofs.Ytcdgmjfmmnklnaa
