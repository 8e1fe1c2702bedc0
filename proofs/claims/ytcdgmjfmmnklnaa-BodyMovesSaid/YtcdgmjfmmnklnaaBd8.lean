/-
  Layer 14: Contains; a cell of some kinds.
-/
import Derived.Test.YtcdgmjfmmnklnaaBd7
import Derived.Test.YtcdgmjfmmnklnaaFl0
namespace Go.Proofs.Ytcdgmjfmmnklnaa
open Go Go.Ab Go.Fl
set_option linter.unusedVariables false
set_option linter.unusedSimpArgs false
attribute [local irreducible] VC AW FStep ACall
set_option maxHeartbeats 4000000
def idxF : List Int → Int → Int → Int
  | [], _, _ => -1
  | x :: r, v, k => if v = x then k else idxF r v (k + 1)
theorem idxF_mem : ∀ (l : List Int) (v k : Int), 0 ≤ k → (0 ≤ idxF l v k ↔ v ∈ l)
  | [], v, k, _ => by simp [idxF]
  | x :: r, v, k, hk => by
    simp only [idxF]
    split
    · rename_i e; subst e; simp [hk]
    · rename_i e
      rw [idxF_mem r v (k + 1) (by omega)]
      simp [e]
theorem idxF_drop {l : List Int} {v : Int} {k : Nat} (h : k < l.length) : idxF (l.drop k) v k = if v = l[k] then (k : Int) else idxF (l.drop (k + 1)) v ((k + 1 : Nat) : Int) := by
  rw [List.drop_eq_getElem_cons h]
  simp [idxF]
theorem b_ret {a b : Bool} (h : a = b) : AV.b a = AV.b b := by rw [h]
theorem index_c (l : List Int) (v : Int) (hl : l.length ≤ 9223372036854775807) : ACall Try.prog 68 [.rowE (ints l) 1, .i v] [] (.i (idxF l v 0)) [] := by
  have hlen : (ints l).length = l.length := by simp
  refine acall T Try.func68 rfl rfl rfl rfl ?_
  repeat' (first|refine wS ?_|refine wB ?_|refine wK ?_|refine wR ?_|refine wE ?_|refine wT ?_|refine wU ?_|(refine wC rfl (fun hb=>?_) (fun hb=>?_)<;>(first|subst hb|((try simp only [nm] at hb);try (exfalso;omega))))|(refine rg 0 ?_;(all_goals (refine aV ?_)))|(refine rg 1 ?_;(all_goals (refine mV ?_;(first|refine qV T ?_|refine vV (by exact fs_lenNil T rfl rfl) ?_);refine mV ?_)))|(refine rg 2 ?_;(all_goals (refine vV (by exact fs_lss rfl rfl) ?_)))|(refine rg 3 ?_;(all_goals (refine mV ?_;refine aV ?_)))|(refine rg 4 ?_;(all_goals (refine mV ?_;refine mV ?_;refine mV ?_;refine vV (by fail) ?_;refine lV T ?_;refine vV (by exact fs_eql rfl rfl) ?_)))|(refine rg 5 ?_;(all_goals (refine mV ?_;refine aV ?_)))|(refine rg 6 ?_;(all_goals (refine vV (by first|exact fs_addr rfl rfl (by omega) (by omega)|exact fs_add rfl rfl) ?_;refine mV ?_)))|(refine rg 7 ?_;(all_goals (refine aV ?_)))|(refine vc_nilp (by (first|(dsimp only [ln1,ln2,List.append_nil,ln4,ln5,ln6,ln7,ln8,ln9,putAt,putd,allObjs,argEnv,un_v,un_ptr,un_ep,un_pr,un_sl,un_mp,un_row,un_agg,un_tup,un_clo,Nat.zero_add,lnb,Nat.reduceAdd,lnc,lnd];first|done|exact rfl)|exact rfl)) ?_))
  refine aw_loop (X := {k : Nat // k ≤ l.length ∧ idxF l v 0 = idxF (l.drop k) v k}) (fun k => [(0, .rowE (ints l) 1), (1, .i v), (7, .i (ints l).length), (8, .i k.1)]) (fun _ => []) (fun k => l.length - k.1) ⟨0, by simp, rfl⟩ (by (refine ⟨[], rfl, ?_, trivial, List.nodup_nil, fun _ h => absurd h (Nat.not_lt_zero _)⟩; (repeat (first | exact trivial | refine ⟨rfl, ?_⟩)))) ?_
  rintro ⟨k, hk, hf⟩
  dsimp only
  by_cases hlt : k < l.length
  · have hd := idxF_drop (v := v) hlt
    repeat' (first|refine wS ?_|refine wB ?_|refine wK ?_|refine wR ?_|refine wE ?_|refine wT ?_|refine wU ?_|(refine wC rfl (fun hb=>?_) (fun hb=>?_)<;>(first|subst hb|((try simp only [nm] at hb);try (exfalso;omega))))|(refine rg 0 ?_;(all_goals (refine aV ?_)))|(refine rg 1 ?_;(all_goals (refine mV ?_;(first|refine qV T ?_|refine vV (by exact fs_lenNil T rfl rfl) ?_);refine mV ?_)))|(refine rg 2 ?_;(all_goals (refine vV (by exact fs_lss rfl rfl) ?_)))|(refine rg 3 ?_;(all_goals (refine mV ?_;refine aV ?_)))|(refine rg 4 ?_;(all_goals (refine mV ?_;refine mV ?_;refine mV ?_;refine vV (by exact fs_indexRowE T rfl rfl rfl rfl rfl (by omega) (ints_len l) (ints_get (k := k) (by omega))) ?_;refine lV T ?_;refine vV (by exact fs_eql rfl rfl) ?_)))|(refine rg 5 ?_;(all_goals (refine mV ?_;refine aV ?_)))|(refine rg 6 ?_;(all_goals (refine vV (by first|exact fs_addr rfl rfl (by omega) (by omega)|exact fs_add rfl rfl) ?_;refine mV ?_)))|(refine rg 7 ?_;(all_goals (refine aV ?_)))|(refine vc_nilp (by (first|(dsimp only [ln1,ln2,List.append_nil,ln4,ln5,ln6,ln7,ln8,ln9,putAt,putd,allObjs,argEnv,un_v,un_ptr,un_ep,un_pr,un_sl,un_mp,un_row,un_agg,un_tup,un_clo,Nat.zero_add,lnb,Nat.reduceAdd,lnc,lnd];first|done|exact rfl)|exact rfl)) ?_))
    · refine ret_plain (.inl rfl) rfl ?_
      rw [hf, hd, if_pos hb]; rfl
    · refine ⟨⟨k + 1, by omega, ?_⟩, by dsimp only; omega, by (refine ⟨[], rfl, ?_, trivial, List.nodup_nil, fun _ h => absurd h (Nat.not_lt_zero _)⟩; (repeat (first | exact trivial | refine ⟨rfl, ?_⟩)))⟩
      rw [hf, hd, if_neg hb]
  · repeat' (first | refine wS ?_ | refine wB ?_ | refine wK ?_ | refine wR ?_ | refine wE ?_ | refine aw_condt rfl ?_ | refine aw_condf rfl ?_ | (refine wC rfl (fun hb => ?_) (fun hb => ?_) <;> (first | subst hb | ((try simp only [nm] at hb); try (exfalso; omega)))) | (((refine rg 0 ?_)); (all_goals (refine aV ?_))) | (((refine rg 1 ?_)); (all_goals (refine mV ?_; (first|refine qV T ?_|refine vV (by exact fs_lenNil T rfl rfl) ?_); refine mV ?_))) | (((refine rg 2 ?_)); (all_goals (refine vV (by exact fs_lss rfl rfl) ?_))) | (((refine rg 3 ?_)); (all_goals (refine mV ?_; refine aV ?_))) | (((refine rg 4 ?_)); (all_goals (refine mV ?_; refine mV ?_; refine mV ?_; refine vV (by fail) ?_; refine lV T ?_; refine vV (by exact fs_eql rfl rfl) ?_))) | (((refine rg 5 ?_)); (all_goals (refine mV ?_; refine aV ?_))) | (((refine rg 6 ?_)); (all_goals (refine vV (by first | exact fs_addr rfl rfl (by omega) (by omega) | exact fs_add rfl rfl) ?_; refine mV ?_))) | (((refine rg 7 ?_)); (all_goals (refine aV ?_))) | (refine vc_nilp (by (first | (dsimp only [ln1, ln2, List.append_nil, ln4, ln5, ln6, ln7, ln8, ln9, putAt, putd, allObjs, argEnv, un_v, un_ptr, un_ep, un_pr, un_sl, un_mp, un_row, un_agg, un_tup, un_clo, Nat.zero_add, lnb, Nat.reduceAdd, lnc, lnd]; first | done | exact rfl) | exact rfl)) ?_))
    refine ret_plain (.inl rfl) rfl ?_
    rw [hf, List.drop_of_length_le (by omega)]; rfl
theorem contains_c (l : List Int) (v : Int) (hl : l.length ≤ 9223372036854775807) : ACall Try.prog 59 [.rowE (ints l) 1, .i v] [] (.b (decide (v ∈ l))) [] := by
  refine acall T Try.func59 rfl rfl rfl rfl ?_
  repeat' (first|refine wS ?_|refine wB ?_|refine wK ?_|refine wR ?_|refine wE ?_|refine wT ?_|refine wU ?_|(refine wC rfl (fun hb=>?_) (fun hb=>?_)<;>(first|subst hb|((try simp only [nm] at hb);try (exfalso;omega))))|(refine rg 0 ?_;(all_goals (refine aV ?_)))|(refine rg 1 ?_;(all_goals (refine mV ?_;refine mV ?_;refine vV (by exact kC (index_c l v hl)) ?_;refine vV (by exact fs_geq rfl rfl) ?_;refine aV ?_)))|(refine vc_nilp (by (first|(dsimp only [ln1,ln2,List.append_nil,ln4,ln5,ln6,ln7,ln8,ln9,putAt,putd,allObjs,argEnv,un_v,un_ptr,un_ep,un_pr,un_sl,un_mp,un_row,un_agg,un_tup,un_clo,Nat.zero_add,lnb,Nat.reduceAdd,lnc,lnd];first|done|exact rfl)|exact rfl)) ?_))
  refine ret_plain (.inl rfl) rfl (b_ret ?_)
  rw [Bool.eq_iff_iff]; simp only [decide_eq_true_eq]; exact idxF_mem l v 0 (by omega)
abbrev floorC (f : Flo) : List AV := [.i f.w, .i f.h, .i f.d, .rowE (ints f.k) 1, .rowE (ints f.o) 1]
def onB (f : Flo) (c : Int) (ks : List Int) : Bool := decide (0 ≤ c ∧ c < f.k.length) && decide (f.k.getD c.toNat 0 ∈ ks)
theorem on_c (f : Flo) (c : Int) (ks : List Int) (hl : ks.length ≤ 1000) : ACall Try.prog 39 [.agg (floorC f), .i c, .rowE (ints ks) 1] [] (.b (onB f c ks)) [] := by
  have hkl : (ints f.k).length = f.k.length := ints_length _
  unfold onB
  by_cases h0 : 0 ≤ c
  · by_cases h1 : c < f.k.length
    · rw [decide_eq_true (⟨h0, h1⟩ : 0 ≤ c ∧ c < (f.k.length : Int)), Bool.true_and]
      have q1 := ints_gI (l := f.k) (j := c) (i := c.toNat) 0 (by omega) (by omega)
      have hc := contains_c ks (f.k.getD c.toNat 0) (by omega)
      generalize f.k.getD c.toNat 0 = x at *
      obtain ⟨w, hh, d, k, o⟩ := f
      dsimp only at *
      refine acall T Try.func39 rfl rfl rfl rfl ?_
      repeat' (first|refine wS ?_|refine wB ?_|refine wK ?_|refine wR ?_|refine wE ?_|refine wT ?_|refine wU ?_|(refine wC rfl (fun hb=>?_) (fun hb=>?_)<;>(first|subst hb|((try simp only [nm] at hb);try (exfalso;omega))))|(refine rg 0 ?_;(all_goals (refine vc_n (by exact fs_box rfl rfl) rfl ?_;refine aV ?_)))|(refine rg 1 ?_;(all_goals (refine mV ?_;refine vV (by first|exact fs_geqT rfl rfl h0|exact fs_geq rfl rfl) ?_;refine mV ?_));(all_goals first|(refine gK ?_)|(refine vc_split rfl rfl (fun hb=>?_) (fun hb=>?_)<;>(first|subst hb|(rw [hb];(try simp only [nm] at hb);try ((exfalso;omega);done)))));(all_goals first|(refine gT ?_;(refine mV ?_);refine gT ?_;(refine fV T ?_);refine gT ?_;(refine lV T ?_);refine gT ?_;(first|refine qV T ?_|refine vV (by exact fs_lenNil T rfl rfl) ?_);refine gT ?_;(refine vV (by first|exact fs_lssT rfl rfl (by omega)|exact fs_lss rfl rfl) ?_))|(iterate 5 first|refine gF ?_|refine gU ?_));(all_goals ((first|refine pV ?_|refine vV (by exact fs_pick rfl rfl rfl) ?_);refine mV ?_));(all_goals first|(refine gK ?_)|(refine vc_split rfl rfl (fun hb=>?_) (fun hb=>?_)<;>(first|subst hb|(rw [hb];(try simp only [nm] at hb);try ((exfalso;omega);done)))));(all_goals first|(refine gT ?_;(refine mV ?_);refine gT ?_;(refine fV T ?_);refine gT ?_;(refine lV T ?_);refine gT ?_;(refine mV ?_);refine gT ?_;(refine vV (by exact fs_indexRowE T rfl rfl rfl rfl rfl (by omega) (ints_len _) q1) ?_);refine gT ?_;(refine lV T ?_);refine gT ?_;(refine vV (by exact kC (hc)) ?_))|(iterate 7 first|refine gF ?_|refine gU ?_));(all_goals ((first|refine pV ?_|refine vV (by exact fs_pick rfl rfl rfl) ?_);refine aV ?_)))|(refine vc_nilp (by (first|(dsimp only [ln1,ln2,List.append_nil,ln4,ln5,ln6,ln7,ln8,ln9,putAt,putd,allObjs,argEnv,un_v,un_ptr,un_ep,un_pr,un_sl,un_mp,un_row,un_agg,un_tup,un_clo,Nat.zero_add,lnb,Nat.reduceAdd,lnc,lnd];first|done|exact rfl)|exact rfl)) ?_))
      all_goals first | (exfalso; omega) | exact ret_plain (.inl rfl) rfl rfl
    · rw [decide_eq_false (fun h : 0 ≤ c ∧ c < (f.k.length : Int) => h1 h.2), Bool.false_and]
      obtain ⟨w, hh, d, k, o⟩ := f
      dsimp only at *
      refine acall T Try.func39 rfl rfl rfl rfl ?_
      repeat' (first|refine wS ?_|refine wB ?_|refine wK ?_|refine wR ?_|refine wE ?_|refine wT ?_|refine wU ?_|(refine wC rfl (fun hb=>?_) (fun hb=>?_)<;>(first|subst hb|((try simp only [nm] at hb);try (exfalso;omega))))|(refine rg 0 ?_;(all_goals (refine vc_n (by exact fs_box rfl rfl) rfl ?_;refine aV ?_)))|(refine rg 1 ?_;(all_goals (refine mV ?_;refine vV (by first|exact fs_geqT rfl rfl h0|exact fs_geq rfl rfl) ?_;refine mV ?_));(all_goals first|(refine gK ?_)|(refine vc_split rfl rfl (fun hb=>?_) (fun hb=>?_)<;>(first|subst hb|(rw [hb];(try simp only [nm] at hb);try ((exfalso;omega);done)))));(all_goals first|(refine gT ?_;(refine mV ?_);refine gT ?_;(refine fV T ?_);refine gT ?_;(refine lV T ?_);refine gT ?_;(first|refine qV T ?_|refine vV (by exact fs_lenNil T rfl rfl) ?_);refine gT ?_;(refine vV (by first|exact fs_lssF rfl rfl (by omega)|exact fs_lss rfl rfl) ?_))|(iterate 5 first|refine gF ?_|refine gU ?_));(all_goals ((first|refine pV ?_|refine vV (by exact fs_pick rfl rfl rfl) ?_);refine mV ?_));(all_goals first|(refine gK ?_)|(refine vc_split rfl rfl (fun hb=>?_) (fun hb=>?_)<;>(first|subst hb|(rw [hb];(try simp only [nm] at hb);try ((exfalso;omega);done)))));(all_goals first|(refine gT ?_;(refine mV ?_);refine gT ?_;(refine fV T ?_);refine gT ?_;(refine lV T ?_);refine gT ?_;(refine mV ?_);refine gT ?_;(refine vV (by fail) ?_);refine gT ?_;(refine lV T ?_);refine gT ?_;(first|(refine vV (by first|fail) ?_)|(refine vc_n (by first|fail) rfl ?_)))|(iterate 7 first|refine gF ?_|refine gU ?_));(all_goals ((first|refine pV ?_|refine vV (by exact fs_pick rfl rfl rfl) ?_);refine aV ?_)))|(refine vc_nilp (by (first|(dsimp only [ln1,ln2,List.append_nil,ln4,ln5,ln6,ln7,ln8,ln9,putAt,putd,allObjs,argEnv,un_v,un_ptr,un_ep,un_pr,un_sl,un_mp,un_row,un_agg,un_tup,un_clo,Nat.zero_add,lnb,Nat.reduceAdd,lnc,lnd];first|done|exact rfl)|exact rfl)) ?_))
      all_goals first | (exfalso; omega) | exact ret_plain (.inl rfl) rfl rfl
  · rw [decide_eq_false (fun h : 0 ≤ c ∧ c < (f.k.length : Int) => h0 h.1), Bool.false_and]
    refine acall T Try.func39 rfl rfl rfl rfl ?_
    repeat' (first|refine wS ?_|refine wB ?_|refine wK ?_|refine wR ?_|refine wE ?_|refine wT ?_|refine wU ?_|(refine wC rfl (fun hb=>?_) (fun hb=>?_)<;>(first|subst hb|((try simp only [nm] at hb);try (exfalso;omega))))|(refine rg 0 ?_;(all_goals (refine vc_n (by exact fs_box rfl rfl) rfl ?_;refine aV ?_)))|(refine rg 1 ?_;(all_goals (refine mV ?_;refine vV (by first|exact fs_geqF rfl rfl (by omega)|exact fs_geq rfl rfl) ?_;refine mV ?_));(all_goals first|(refine gK ?_)|(refine vc_split rfl rfl (fun hb=>?_) (fun hb=>?_)<;>(first|subst hb|(rw [hb];(try simp only [nm] at hb);try ((exfalso;omega);done)))));(all_goals first|(refine gT ?_;(refine mV ?_);refine gT ?_;(refine fV T ?_);refine gT ?_;(refine lV T ?_);refine gT ?_;(first|refine qV T ?_|refine vV (by exact fs_lenNil T rfl rfl) ?_);refine gT ?_;(refine vV (by exact fs_lss rfl rfl) ?_))|(iterate 5 first|refine gF ?_|refine gU ?_));(all_goals ((first|refine pV ?_|refine vV (by exact fs_pick rfl rfl rfl) ?_);refine mV ?_));(all_goals first|(refine gK ?_)|(refine vc_split rfl rfl (fun hb=>?_) (fun hb=>?_)<;>(first|subst hb|(rw [hb];(try simp only [nm] at hb);try ((exfalso;omega);done)))));(all_goals first|(refine gT ?_;(refine mV ?_);refine gT ?_;(refine fV T ?_);refine gT ?_;(refine lV T ?_);refine gT ?_;(refine mV ?_);refine gT ?_;(refine vV (by fail) ?_);refine gT ?_;(refine lV T ?_);refine gT ?_;(first|(refine vV (by first|fail) ?_)|(refine vc_n (by first|fail) rfl ?_)))|(iterate 7 first|refine gF ?_|refine gU ?_));(all_goals ((first|refine pV ?_|refine vV (by exact fs_pick rfl rfl rfl) ?_);refine aV ?_)))|(refine vc_nilp (by (first|(dsimp only [ln1,ln2,List.append_nil,ln4,ln5,ln6,ln7,ln8,ln9,putAt,putd,allObjs,argEnv,un_v,un_ptr,un_ep,un_pr,un_sl,un_mp,un_row,un_agg,un_tup,un_clo,Nat.zero_add,lnb,Nat.reduceAdd,lnc,lnd];first|done|exact rfl)|exact rfl)) ?_))
    all_goals first | (exfalso; omega) | exact ret_plain (.inl rfl) rfl rfl
end Go.Proofs.Ytcdgmjfmmnklnaa
