/-
  Layer 14: the least number that is in a list more than once; the sorted slots.
-/
import Derived.Test.YtcdgmjfmmnklnaaBd4
import Derived.Test.YtcdgmjfmmnklnaaLs2n
namespace Go.Proofs.Ytcdgmjfmmnklnaa
open Go Go.Ab
set_option linter.unusedVariables false
set_option linter.unusedSimpArgs false
attribute [local irreducible] VC AW FStep ACall
set_option maxHeartbeats 4000000
def dupF : List Int → Int × Bool
  | x :: y :: l => if y = x then (y, true) else dupF (y :: l)
  | _ => (0, false)
def clash (l : List Int) : Int × Bool := dupF (sorted l)
theorem dupF_at {l : List Int} {k : Nat} (h : k + 1 < l.length) : dupF (l.drop k) = if l.getD (k + 1) 0 = l.getD k 0 then (l.getD (k + 1) 0, true) else dupF (l.drop (k + 1)) := by
  have e1 : l.getD k 0 = l[k]'(by omega) := by rw [List.getD_eq_getElem?_getD, List.getElem?_eq_getElem (by omega)]; rfl
  have e2 : l.getD (k + 1) 0 = l[k + 1] := by rw [List.getD_eq_getElem?_getD, List.getElem?_eq_getElem h]; rfl
  rw [e1, e2, List.drop_eq_getElem_cons (show k < l.length by omega), List.drop_eq_getElem_cons h]
  rfl
theorem dupF_end {l : List Int} {k : Nat} (h : l.length ≤ k + 1) : dupF (l.drop k) = (0, false) := by
  have : (l.drop k).length ≤ 1 := by rw [List.length_drop]; omega
  match hd : l.drop k, this with
  | [], _ => rfl
  | [x], _ => rfl
  | x :: y :: r, h2 => simp at h2
theorem dupF_nd : ∀ {l : List Int}, l.Nodup → (dupF l).2 = false
  | [], _ => rfl
  | [x], _ => rfl
  | x :: y :: r, h => by
    rw [List.nodup_cons] at h
    have hxy : y ≠ x := fun e => h.1 (e ▸ List.mem_cons_self)
    unfold dupF
    rw [if_neg hxy]
    exact dupF_nd h.2
theorem dupF_asc : ∀ {l : List Int}, l.Pairwise (· ≤ ·) → (dupF l).2 = false → l.Nodup
  | [], _, _ => List.nodup_nil
  | [x], _, _ => by simp
  | x :: y :: r, hs, h => by
    unfold dupF at h
    split at h
    · cases h
    · rename_i hxy
      rw [List.pairwise_cons] at hs
      have ih := dupF_asc hs.2 h
      rw [List.nodup_cons]
      refine ⟨fun hm => ?_, ih⟩
      have h1 := hs.1 y List.mem_cons_self
      rcases List.mem_cons.1 hm with e | hm
      · exact hxy e.symm
      · have h2 := (List.pairwise_cons.1 hs.2).1 x hm
        omega
theorem clash_c (l : List Int) (hl : l.length ≤ 1000000) : ACall Try.prog 12 [.rowE (ints l) 1] [] (.tup [.i (clash l).1, .b (clash l).2]) [] := by
  have c1 := values_c l
  have c2 := sorted_c l (by omega)
  unfold clash
  have hll : (sorted l).length ≤ 1000000 := by unfold sorted; rw [List.length_mergeSort]; exact hl
  generalize sorted l = q at *
  have hql : (ints q).length = q.length := ints_length q
  refine acall T Try.func12 rfl rfl rfl rfl ?_
  repeat' (first|refine wS ?_|refine wB ?_|refine wK ?_|refine wR ?_|refine wE ?_|refine wT ?_|refine wU ?_|(refine wC rfl (fun hb=>?_) (fun hb=>?_)<;>(first|subst hb|((try simp only [nm] at hb);try (exfalso;omega))))|(refine rg 0 ?_;(all_goals (refine aV ?_;refine aV ?_)))|(refine rg 1 ?_;(all_goals (refine mV ?_;refine vV (by exact kC (c1)) ?_;refine vV (by exact kC (c2)) ?_;refine aV ?_)))|(refine rg 2 ?_;(all_goals (refine aV ?_)))|(refine vc_nilp (by (first|(dsimp only [ln1,ln2,List.append_nil,ln4,ln5,ln6,ln7,ln8,ln9,putAt,putd,allObjs,argEnv,un_v,un_ptr,un_ep,un_pr,un_sl,un_mp,un_row,un_agg,un_tup,un_clo,Nat.zero_add,lnb,Nat.reduceAdd,lnc,lnd];first|done|exact rfl)|exact rfl)) ?_))
  refine aw_loop (X := {k : Nat // dupF q = dupF (q.drop k)}) (fun k => [(4, .rowE (ints q) 1), (5, .i (k.1 + 1 : Nat))]) (fun _ => []) (fun k => q.length - k.1) ⟨0, rfl⟩ (by (refine ⟨[], rfl, ?_, trivial, List.nodup_nil, fun _ h => absurd h (Nat.not_lt_zero _)⟩; (repeat (first | exact trivial | refine ⟨rfl, ?_⟩)))) ?_
  rintro ⟨k, hk⟩
  dsimp only
  rw [hk]
  by_cases hlt : k + 1 < q.length
  · have hd := dupF_at hlt
    have p1 := ints_gI (l := q) (j := ((k + 1 : Nat) : Int)) 0 hlt rfl
    have p2 : (ints q)[(((k + 1 : Nat) : Int) - 1).toNat]? = some [AV.i (q.getD k 0)] := ints_gI 0 (show k < q.length by omega) (by omega)
    rw [hd] at hk ⊢
    generalize q.getD (k + 1) 0 = y at *
    generalize q.getD k 0 = x at *
    by_cases e : y = x
    · rw [if_pos e]
      repeat' (first|refine wS ?_|refine wB ?_|refine wK ?_|refine wR ?_|refine wE ?_|refine wT ?_|refine wU ?_|(refine wC rfl (fun hb=>?_) (fun hb=>?_)<;>(first|subst hb|((try simp only [nm] at hb);try (exfalso;omega))))|(refine rg 3 ?_;(all_goals (refine mV ?_;refine mV ?_;(first|refine qV T ?_|refine vV (by exact fs_lenNil T rfl rfl) ?_);refine vV (by first|exact fs_lssT rfl rfl (by omega)|exact fs_lss rfl rfl) ?_)))|(((refine aw_draw2k (id := 5) 29 [[],[],[0,1],[0,1,2],[],[],[5],[4,5,6],[4,5,6,7],[0,1,2,3,4,5,6,7,8]] [15,16,17,18,19,20,21,22,23,24] [[],[15],[],[],[15,16,17,18],[15,16,17,18,19],[15,16,17,18,19],[15,16,17,18],[15,16,17,18],[]] mixedP rfl (by decide +kernel) ?_));(all_goals first|(refine dw_v rfl rfl rfl (by first|exact fs_move rfl) ?_));(all_goals first|(refine dw_v rfl rfl rfl (by first|exact fs_move rfl) ?_));(all_goals first|(refine dw_v rfl rfl rfl (by first|exact fs_indexRowE T rfl rfl rfl rfl rfl (by omega) (ints_len q) p1|exact fs_indexRowE T rfl rfl rfl rfl rfl (by omega) (ints_len q) p2) ?_));(all_goals first|(refine dw_v rfl rfl rfl (by first|exact fs_load T rfl rfl rfl rfl) ?_));(all_goals first|(refine dw_v rfl rfl rfl (by first|exact fs_move rfl) ?_));(all_goals first|(refine dw_v rfl rfl rfl (by first|exact fs_move rfl) ?_));(all_goals first|(refine dw_v rfl rfl rfl (by first|exact fs_subr rfl rfl (by omega) (by omega)|exact fs_sub rfl rfl) ?_));(all_goals first|(refine dw_v rfl rfl rfl (by first|exact fs_indexRowE T rfl rfl rfl rfl rfl (by omega) (ints_len q) p1|exact fs_indexRowE T rfl rfl rfl rfl rfl (by omega) (ints_len q) p2) ?_));(all_goals first|(refine dw_v rfl rfl rfl (by first|exact fs_load T rfl rfl rfl rfl) ?_));(all_goals first|(refine dw_v rfl rfl rfl (by first|exact fs_eqlT rfl rfl e|exact fs_eql rfl rfl) ?_));(all_goals (refine dw_fin rfl rfl (by (first|(dsimp only [ln1,ln2,List.append_nil,ln4,ln5,ln6,ln7,ln8,ln9,putAt,putd,allObjs,argEnv,un_v,un_ptr,un_ep,un_pr,un_sl,un_mp,un_row,un_agg,un_tup,un_clo,Nat.zero_add,lnb,Nat.reduceAdd,lnc,lnd];first|done|exact rfl)|exact rfl)) ?_)))|(refine rg 6 ?_;(all_goals (refine mV ?_;refine mV ?_;refine vV (by first|exact fs_indexRowE T rfl rfl rfl rfl rfl (by omega) (ints_len q) p1|exact fs_indexRowE T rfl rfl rfl rfl rfl (by omega) (ints_len q) p2) ?_;refine lV T ?_;refine aV ?_;refine aV ?_)))|(refine vc_nilp (by (first|(dsimp only [ln1,ln2,List.append_nil,ln4,ln5,ln6,ln7,ln8,ln9,putAt,putd,allObjs,argEnv,un_v,un_ptr,un_ep,un_pr,un_sl,un_mp,un_row,un_agg,un_tup,un_clo,Nat.zero_add,lnb,Nat.reduceAdd,lnc,lnd];first|done|exact rfl)|exact rfl)) ?_))
      all_goals first | (exfalso; omega) | exact ret_plain (.inl rfl) rfl rfl
    · rw [if_neg e] at hk ⊢
      repeat' (first|refine wS ?_|refine wB ?_|refine wK ?_|refine wR ?_|refine wE ?_|refine wT ?_|refine wU ?_|(refine wC rfl (fun hb=>?_) (fun hb=>?_)<;>(first|subst hb|((try simp only [nm] at hb);try (exfalso;omega))))|(refine rg 3 ?_;(all_goals (refine mV ?_;refine mV ?_;(first|refine qV T ?_|refine vV (by exact fs_lenNil T rfl rfl) ?_);refine vV (by first|exact fs_lssT rfl rfl (by omega)|exact fs_lss rfl rfl) ?_)))|(((refine aw_draw2k (id := 5) 29 [[],[],[0,1],[0,1,2],[],[],[5],[4,5,6],[4,5,6,7],[0,1,2,3,4,5,6,7,8]] [15,16,17,18,19,20,21,22,23,24] [[],[15],[],[],[15,16,17,18],[15,16,17,18,19],[15,16,17,18,19],[15,16,17,18],[15,16,17,18],[]] mixedP rfl (by decide +kernel) ?_));(all_goals first|(refine dw_v rfl rfl rfl (by first|exact fs_move rfl) ?_));(all_goals first|(refine dw_v rfl rfl rfl (by first|exact fs_move rfl) ?_));(all_goals first|(refine dw_v rfl rfl rfl (by first|exact fs_indexRowE T rfl rfl rfl rfl rfl (by omega) (ints_len q) p1|exact fs_indexRowE T rfl rfl rfl rfl rfl (by omega) (ints_len q) p2) ?_));(all_goals first|(refine dw_v rfl rfl rfl (by first|exact fs_load T rfl rfl rfl rfl) ?_));(all_goals first|(refine dw_v rfl rfl rfl (by first|exact fs_move rfl) ?_));(all_goals first|(refine dw_v rfl rfl rfl (by first|exact fs_move rfl) ?_));(all_goals first|(refine dw_v rfl rfl rfl (by first|exact fs_subr rfl rfl (by omega) (by omega)|exact fs_sub rfl rfl) ?_));(all_goals first|(refine dw_v rfl rfl rfl (by first|exact fs_indexRowE T rfl rfl rfl rfl rfl (by omega) (ints_len q) p1|exact fs_indexRowE T rfl rfl rfl rfl rfl (by omega) (ints_len q) p2) ?_));(all_goals first|(refine dw_v rfl rfl rfl (by first|exact fs_load T rfl rfl rfl rfl) ?_));(all_goals first|(refine dw_v rfl rfl rfl (by first|exact fs_eqlF rfl rfl e|exact fs_eql rfl rfl) ?_));(all_goals (refine dw_fin rfl rfl (by (first|(dsimp only [ln1,ln2,List.append_nil,ln4,ln5,ln6,ln7,ln8,ln9,putAt,putd,allObjs,argEnv,un_v,un_ptr,un_ep,un_pr,un_sl,un_mp,un_row,un_agg,un_tup,un_clo,Nat.zero_add,lnb,Nat.reduceAdd,lnc,lnd];first|done|exact rfl)|exact rfl)) ?_)))|(refine rg 4 ?_;(all_goals (refine mV ?_;refine vV (by first|exact fs_addr rfl rfl (by omega) (by omega)|exact fs_add rfl rfl) ?_;refine aV ?_)))|(refine vc_nilp (by (first|(dsimp only [ln1,ln2,List.append_nil,ln4,ln5,ln6,ln7,ln8,ln9,putAt,putd,allObjs,argEnv,un_v,un_ptr,un_ep,un_pr,un_sl,un_mp,un_row,un_agg,un_tup,un_clo,Nat.zero_add,lnb,Nat.reduceAdd,lnc,lnd];first|done|exact rfl)|exact rfl)) ?_))
      all_goals first | (exfalso; omega) | exact ⟨⟨k + 1, by first | exact hk | rfl⟩, by dsimp only; omega, by (refine ⟨[], rfl, ?_, trivial, List.nodup_nil, fun _ h => absurd h (Nat.not_lt_zero _)⟩; (repeat (first | exact trivial | refine ⟨rfl, ?_⟩)))⟩
  · rw [dupF_end (by omega)]
    repeat' (first|refine wS ?_|refine wB ?_|refine wK ?_|refine wR ?_|refine wE ?_|refine wT ?_|refine wU ?_|(refine wC rfl (fun hb=>?_) (fun hb=>?_)<;>(first|subst hb|((try simp only [nm] at hb);try (exfalso;omega))))|(refine rg 3 ?_;(all_goals (refine mV ?_;refine mV ?_;(first|refine qV T ?_|refine vV (by exact fs_lenNil T rfl rfl) ?_);refine vV (by first|exact fs_lssF rfl rfl (by omega)|exact fs_lss rfl rfl) ?_)))|(refine rg 7 ?_;(all_goals (refine aV ?_;refine aV ?_)))|(refine vc_nilp (by (first|(dsimp only [ln1,ln2,List.append_nil,ln4,ln5,ln6,ln7,ln8,ln9,putAt,putd,allObjs,argEnv,un_v,un_ptr,un_ep,un_pr,un_sl,un_mp,un_row,un_agg,un_tup,un_clo,Nat.zero_add,lnb,Nat.reduceAdd,lnc,lnd];first|done|exact rfl)|exact rfl)) ?_))
    all_goals first | (exfalso; omega) | exact ret_plain (.inl rfl) rfl rfl
end Go.Proofs.Ytcdgmjfmmnklnaa
