/-
  Layer 14: who carries a shelf; a shelf's slots.
-/
import Derived.Test.YtcdgmjfmmnklnaaBd1
namespace Go.Proofs.Ytcdgmjfmmnklnaa
open Go Go.Ab
set_option linter.unusedVariables false
set_option linter.unusedSimpArgs false
attribute [local irreducible] VC AW FStep ACall
set_option maxHeartbeats 4000000
def carF : List Rob → Int → Int → Int
  | [], _, _ => -1
  | r :: l, o, k => if r.2.1 = o then k else carF l o (k + 1)
def carI (l : List Rob) (o : Int) : Int := if o < 0 then -1 else carF l o 0
theorem carF_drop {l : List Rob} {o : Int} {k : Nat} (h : k < l.length) : carF (l.drop k) o k = if (l[k]).2.1 = o then (k : Int) else carF (l.drop (k + 1)) o ((k + 1 : Nat) : Int) := by
  rw [List.drop_eq_getElem_cons h]
  simp [carF]
theorem carF_ge : ∀ (l : List Rob) (o k : Int), 0 ≤ k → -1 ≤ carF l o k ∧ carF l o k < k + l.length ∧ (0 ≤ carF l o k ↔ ∃ r, r ∈ l ∧ r.2.1 = o)
  | [], o, k, h => by simp [carF]; omega
  | r :: l, o, k, h => by
    obtain ⟨h1, h2, h3⟩ := carF_ge l o (k + 1) (by omega)
    unfold carF
    split
    · rename_i e
      exact ⟨by omega, by simp; omega, ⟨fun _ => ⟨r, List.mem_cons_self, e⟩, fun _ => h⟩⟩
    · rename_i e
      refine ⟨h1, by simp only [List.length_cons]; omega, h3.trans ⟨fun ⟨r', hr, e'⟩ => ⟨r', List.mem_cons_of_mem _ hr, e'⟩, fun ⟨r', hr, e'⟩ => ?_⟩⟩
      rcases List.mem_cons.1 hr with rfl | hr
      · exact absurd e' e
      · exact ⟨r', hr, e'⟩
theorem car1_c (r : Rob) (o : Int) : ACall Try.prog 46 [.agg (robA r), .pr [.i o] 0] [] (.b (decide (r.2.1 = o))) [] := by
  obtain ⟨x, ld, ch, re, mu, de⟩ := r
  refine acall T Try.func46 rfl rfl rfl rfl ?_
  repeat' (first|refine wS ?_|refine wB ?_|refine wK ?_|refine wR ?_|refine wE ?_|refine wT ?_|refine wU ?_|(refine wC rfl (fun hb=>?_) (fun hb=>?_)<;>(first|subst hb|((try simp only [nm] at hb);try (exfalso;omega))))|(refine rg 0 ?_;(all_goals (refine vc_n (by exact fs_box rfl rfl) rfl ?_;refine aV ?_)))|(refine rg 1 ?_;(all_goals (refine fV T ?_;refine vV (by first|exact fs_load T rfl rfl rfl rfl|exact fs_loadPr T rfl rfl rfl|exact fs_load T rfl rfl rfl rfl) ?_;refine vV (by first|exact fs_load T rfl rfl rfl rfl|exact fs_loadPr T rfl rfl rfl|exact fs_load T rfl rfl rfl rfl) ?_;refine vV (by exact fs_eql rfl rfl) ?_;refine aV ?_)))|(refine vc_nilp (by (first|(dsimp only [ln1,ln2,List.append_nil,ln4,ln5,ln6,ln7,ln8,ln9,putAt,putd,allObjs,argEnv,un_v,un_ptr,un_ep,un_pr,un_sl,un_mp,un_row,un_agg,un_tup,un_clo,Nat.zero_add,lnb,Nat.reduceAdd,lnc,lnd];first|done|exact rfl)|exact rfl)) ?_))
  all_goals first | (exfalso; omega) | exact ret_plain (.inl rfl) rfl rfl
theorem indexR_c (l : List Rob) (o : Int) (hl : l.length ≤ 9223372036854775807) : ACall Try.prog 45 [.rowE (robsA l) 6, .clo (.func 46) [] [.pr [.i o] 0]] [] (.i (carF l o 0)) [] := by
  have hlen : (robsA l).length = l.length := by simp
  refine acall T Try.func45 rfl rfl rfl rfl ?_
  repeat' (first|refine wS ?_|refine wB ?_|refine wK ?_|refine wR ?_|refine wE ?_|refine wT ?_|refine wU ?_|(refine wC rfl (fun hb=>?_) (fun hb=>?_)<;>(first|subst hb|((try simp only [nm] at hb);try (exfalso;omega))))|(refine rg 0 ?_;(all_goals (refine aV ?_)))|(refine rg 1 ?_;(all_goals (refine mV ?_;(first|refine qV T ?_|refine vV (by exact fs_lenNil T rfl rfl) ?_);refine mV ?_)))|(refine vc_nilp (by (first|(dsimp only [ln1,ln2,List.append_nil,ln4,ln5,ln6,ln7,ln8,ln9,putAt,putd,allObjs,argEnv,un_v,un_ptr,un_ep,un_pr,un_sl,un_mp,un_row,un_agg,un_tup,un_clo,Nat.zero_add,lnb,Nat.reduceAdd,lnc,lnd];first|done|exact rfl)|exact rfl)) ?_))
  refine aw_loop (X := {k : Nat // k ≤ l.length ∧ carF l o 0 = carF (l.drop k) o k}) (fun k => [(0, .rowE (robsA l) 6), (1, .clo (.func 46) [] [.pr [.i o] 0]), (7, .i (robsA l).length), (8, .i k.1)]) (fun _ => []) (fun k => l.length - k.1) ⟨0, by simp, rfl⟩ (by (refine ⟨[], rfl, ?_, trivial, List.nodup_nil, fun _ h => absurd h (Nat.not_lt_zero _)⟩; (repeat (first | exact trivial | refine ⟨rfl, ?_⟩)))) ?_
  rintro ⟨k, hk, hf⟩
  dsimp only
  by_cases hlt : k < l.length
  · have hd := carF_drop (o := o) hlt
    have q1 : (robsA l)[(k : Int).toNat]? = some (robA l[k]) := robs_get hlt
    have hc := car1_c l[k] o
    generalize l[k] = r at *
    by_cases hb : r.2.1 = o
    · rw [decide_eq_true hb] at hc
      rw [hf, hd, if_pos hb]
      repeat' (first|refine wS ?_|refine wB ?_|refine wK ?_|refine wR ?_|refine wE ?_|refine wT ?_|refine wU ?_|(refine wC rfl (fun hb=>?_) (fun hb=>?_)<;>(first|subst hb|((try simp only [nm] at hb);try (exfalso;omega))))|(refine rg 0 ?_;(all_goals (refine aV ?_)))|(refine rg 1 ?_;(all_goals (refine mV ?_;(first|refine qV T ?_|refine vV (by exact fs_lenNil T rfl rfl) ?_);refine mV ?_)))|(refine rg 2 ?_;(all_goals (refine vV (by first|exact fs_lssT rfl rfl (by omega)|exact fs_lss rfl rfl) ?_)))|(refine rg 3 ?_;(all_goals (refine mV ?_;refine aV ?_)))|(refine rg 4 ?_;(all_goals (refine mV ?_;refine mV ?_;refine mV ?_;refine vV (by exact fs_indexRowE T rfl rfl rfl rfl rfl (by omega) (robs_len l) q1) ?_;refine lV T ?_;refine vV (by exact kC (hc)) ?_)))|(refine rg 5 ?_;(all_goals (refine mV ?_;refine aV ?_)))|(refine rg 6 ?_;(all_goals (refine vV (by first|exact fs_addr rfl rfl (by omega) (by omega)|exact fs_add rfl rfl) ?_;refine mV ?_)))|(refine rg 7 ?_;(all_goals (refine aV ?_)))|(refine vc_nilp (by (first|(dsimp only [ln1,ln2,List.append_nil,ln4,ln5,ln6,ln7,ln8,ln9,putAt,putd,allObjs,argEnv,un_v,un_ptr,un_ep,un_pr,un_sl,un_mp,un_row,un_agg,un_tup,un_clo,Nat.zero_add,lnb,Nat.reduceAdd,lnc,lnd];first|done|exact rfl)|exact rfl)) ?_))
      all_goals first | (exfalso; omega) | exact ret_plain (.inl rfl) rfl rfl
    · rw [decide_eq_false hb] at hc
      rw [if_neg hb] at hd
      repeat' (first|refine wS ?_|refine wB ?_|refine wK ?_|refine wR ?_|refine wE ?_|refine wT ?_|refine wU ?_|(refine wC rfl (fun hb=>?_) (fun hb=>?_)<;>(first|subst hb|((try simp only [nm] at hb);try (exfalso;omega))))|(refine rg 0 ?_;(all_goals (refine aV ?_)))|(refine rg 1 ?_;(all_goals (refine mV ?_;(first|refine qV T ?_|refine vV (by exact fs_lenNil T rfl rfl) ?_);refine mV ?_)))|(refine rg 2 ?_;(all_goals (refine vV (by first|exact fs_lssT rfl rfl (by omega)|exact fs_lss rfl rfl) ?_)))|(refine rg 3 ?_;(all_goals (refine mV ?_;refine aV ?_)))|(refine rg 4 ?_;(all_goals (refine mV ?_;refine mV ?_;refine mV ?_;refine vV (by exact fs_indexRowE T rfl rfl rfl rfl rfl (by omega) (robs_len l) q1) ?_;refine lV T ?_;refine vV (by exact kC (hc)) ?_)))|(refine rg 5 ?_;(all_goals (refine mV ?_;refine aV ?_)))|(refine rg 6 ?_;(all_goals (refine vV (by first|exact fs_addr rfl rfl (by omega) (by omega)|exact fs_add rfl rfl) ?_;refine mV ?_)))|(refine rg 7 ?_;(all_goals (refine aV ?_)))|(refine vc_nilp (by (first|(dsimp only [ln1,ln2,List.append_nil,ln4,ln5,ln6,ln7,ln8,ln9,putAt,putd,allObjs,argEnv,un_v,un_ptr,un_ep,un_pr,un_sl,un_mp,un_row,un_agg,un_tup,un_clo,Nat.zero_add,lnb,Nat.reduceAdd,lnc,lnd];first|done|exact rfl)|exact rfl)) ?_))
      all_goals first | (exfalso; omega) | exact ⟨⟨k + 1, by omega, by rw [hf, hd]⟩, by dsimp only; omega, by (refine ⟨[], rfl, ?_, trivial, List.nodup_nil, fun _ h => absurd h (Nat.not_lt_zero _)⟩; (repeat (first | exact trivial | refine ⟨rfl, ?_⟩)))⟩
  · rw [hf, List.drop_of_length_le (by omega)]
    repeat' (first|refine wS ?_|refine wB ?_|refine wK ?_|refine wR ?_|refine wE ?_|refine wT ?_|refine wU ?_|(refine wC rfl (fun hb=>?_) (fun hb=>?_)<;>(first|subst hb|((try simp only [nm] at hb);try (exfalso;omega))))|(refine rg 0 ?_;(all_goals (refine aV ?_)))|(refine rg 1 ?_;(all_goals (refine mV ?_;(first|refine qV T ?_|refine vV (by exact fs_lenNil T rfl rfl) ?_);refine mV ?_)))|(refine rg 2 ?_;(all_goals (refine vV (by first|exact fs_lssF rfl rfl (by omega)|exact fs_lss rfl rfl) ?_)))|(refine rg 3 ?_;(all_goals (refine mV ?_;refine aV ?_)))|(refine rg 4 ?_;(all_goals (refine mV ?_;refine mV ?_;refine mV ?_;refine vV (by fail) ?_;refine lV T ?_));(all_goals first|(refine vV (by first|fail) ?_)|(refine vc_n (by first|fail) rfl ?_)))|(refine rg 5 ?_;(all_goals (refine mV ?_;refine aV ?_)))|(refine rg 6 ?_;(all_goals (refine vV (by first|exact fs_addr rfl rfl (by omega) (by omega)|exact fs_add rfl rfl) ?_;refine mV ?_)))|(refine rg 7 ?_;(all_goals (refine aV ?_)))|(refine vc_nilp (by (first|(dsimp only [ln1,ln2,List.append_nil,ln4,ln5,ln6,ln7,ln8,ln9,putAt,putd,allObjs,argEnv,un_v,un_ptr,un_ep,un_pr,un_sl,un_mp,un_row,un_agg,un_tup,un_clo,Nat.zero_add,lnb,Nat.reduceAdd,lnc,lnd];first|done|exact rfl)|exact rfl)) ?_))
    all_goals first | (exfalso; omega) | exact ret_plain (.inl rfl) rfl rfl
theorem carrier_c (s : Stt) (o : Int) (hl : s.rb.length ≤ 9223372036854775807) : ACall Try.prog 14 [.agg (sttA s), .i o] [] (.i (carI s.rb o)) [] := by
  have hc := indexR_c s.rb o hl
  obtain ⟨tick, sh, rb, pp, dd, sk⟩ := s
  dsimp only at *
  unfold carI
  refine acall T Try.func14 rfl rfl rfl rfl ?_
  by_cases h0 : o < 0
  · rw [if_pos h0]
    repeat' (first|refine wS ?_|refine wB ?_|refine wK ?_|refine wR ?_|refine wE ?_|refine wT ?_|refine wU ?_|(refine wC rfl (fun hb=>?_) (fun hb=>?_)<;>(first|subst hb|((try simp only [nm] at hb);try (exfalso;omega))))|(refine rg 0 ?_;(all_goals (refine vc_n (by exact fs_box rfl rfl) rfl ?_;refine vc_n (by exact fs_box rfl rfl) rfl ?_;refine aV ?_)))|(refine rg 1 ?_;(all_goals (refine lV T ?_;refine vV (by first|exact fs_lssT rfl rfl h0|exact fs_lss rfl rfl) ?_)))|(refine rg 2 ?_;(all_goals (refine aV ?_)))|(refine rg 3 ?_;(all_goals (refine fV T ?_;refine lV T ?_;refine vV (by exact fs_makeFunc rfl rfl) ?_));(all_goals first|(refine vV (by first|fail) ?_)|(refine vc_n (by first|fail) rfl ?_));(all_goals (refine aV ?_)))|(refine vc_nilp (by (first|(dsimp only [ln1,ln2,List.append_nil,ln4,ln5,ln6,ln7,ln8,ln9,putAt,putd,allObjs,argEnv,un_v,un_ptr,un_ep,un_pr,un_sl,un_mp,un_row,un_agg,un_tup,un_clo,Nat.zero_add,lnb,Nat.reduceAdd,lnc,lnd];first|done|exact rfl)|exact rfl)) ?_))
    all_goals first | (exfalso; omega) | exact ret_plain (.inl rfl) rfl rfl
  · rw [if_neg h0]
    repeat' (first|refine wS ?_|refine wB ?_|refine wK ?_|refine wR ?_|refine wE ?_|refine wT ?_|refine wU ?_|(refine wC rfl (fun hb=>?_) (fun hb=>?_)<;>(first|subst hb|((try simp only [nm] at hb);try (exfalso;omega))))|(refine rg 0 ?_;(all_goals (refine vc_n (by exact fs_box rfl rfl) rfl ?_;refine vc_n (by exact fs_box rfl rfl) rfl ?_;refine aV ?_)))|(refine rg 1 ?_;(all_goals (refine lV T ?_;refine vV (by first|exact fs_lssF rfl rfl (by omega)|exact fs_lss rfl rfl) ?_)))|(refine rg 2 ?_;(all_goals (refine aV ?_)))|(refine rg 3 ?_;(all_goals (refine fV T ?_;refine lV T ?_;refine vV (by exact fs_makeFunc rfl rfl) ?_;refine vV (by exact fs_callb0 rfl rfl hc (.cons (.row _ _ _) (.cons (.clo .nil (.cons (.ptr rfl (.cons (.v _) .nil)) .nil)) .nil)) rfl rfl) ?_;refine aV ?_)))|(refine vc_nilp (by (first|(dsimp only [ln1,ln2,List.append_nil,ln4,ln5,ln6,ln7,ln8,ln9,putAt,putd,allObjs,argEnv,un_v,un_ptr,un_ep,un_pr,un_sl,un_mp,un_row,un_agg,un_tup,un_clo,Nat.zero_add,lnb,Nat.reduceAdd,lnc,lnd];first|done|exact rfl)|exact rfl)) ?_))
    all_goals first | (exfalso; omega) | exact ret_plain (.inl rfl) rfl rfl
end Go.Proofs.Ytcdgmjfmmnklnaa
