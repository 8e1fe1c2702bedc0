/-
  Layer 14: a shelf's slots; the slots of all bodies.
-/
import Derived.Test.YtcdgmjfmmnklnaaBd2
namespace Go.Proofs.Ytcdgmjfmmnklnaa
open Go Go.Ab
set_option linter.unusedVariables false
set_option linter.unusedSimpArgs false
attribute [local irreducible] VC AW FStep ACall
set_option maxHeartbeats 4000000
theorem shelfN_c (s : Stt) (i : Nat) (hl : s.rb.length ≤ 9223372036854775807) (h0 : 0 ≤ carI s.rb i) : ACall Try.prog 15 [.agg (sttA s), .i i] [] .nils [] := by
  have hc := carrier_c s i hl
  have hrl : (ints s.sh).length = s.sh.length := by simp
  generalize carI s.rb i = o at *
  obtain ⟨tick, sh, rb, pp, dd, sk⟩ := s
  dsimp only at *
  refine acall T Try.func15 rfl rfl rfl rfl ?_
  by_cases hlt : i < sh.length
  · repeat' (first | refine wS ?_ | refine wB ?_ | refine wK ?_ | refine wR ?_ | refine wE ?_ | refine aw_condt rfl ?_ | refine aw_condf rfl ?_ | (refine wC rfl (fun hb => ?_) (fun hb => ?_) <;> (first | subst hb | ((try simp only [nm] at hb); try (exfalso; omega)))) | (((refine rg 0 ?_)); (all_goals (refine vc_n (by exact fs_box rfl rfl) rfl ?_; refine aV ?_))) | (((refine rg 1 ?_)); (all_goals (refine mV ?_; refine vV (by first | exact fs_lssF rfl rfl (by omega) | exact fs_lss rfl rfl) ?_; refine mV ?_)); (all_goals first | (refine gK ?_) | (refine vc_split rfl rfl (fun hb => ?_) (fun hb => ?_) <;> (first | subst hb | (rw [hb]; (try simp only [nm] at hb); try ((exfalso; omega); done))))); (all_goals first | (refine gT ?_; (refine mV ?_); refine gT ?_; (refine fV T ?_); refine gT ?_; (refine lV T ?_); refine gT ?_; (first|refine qV T ?_|refine vV (by exact fs_lenNil T rfl rfl) ?_); refine gT ?_; (refine vV (by first | exact fs_geqF rfl rfl (by omega) | exact fs_geqT rfl rfl h0 | exact fs_geq rfl rfl) ?_)) | (iterate 5 first | refine gF ?_ | refine gU ?_)); (all_goals ((first|refine pV ?_|refine vV (by exact fs_pick rfl rfl rfl) ?_); refine mV ?_)); (all_goals first | (refine gK ?_) | (refine vc_split rfl rfl (fun hb => ?_) (fun hb => ?_) <;> (first | subst hb | (rw [hb]; (try simp only [nm] at hb); try ((exfalso; omega); done))))); (all_goals first | (refine gT ?_; (refine lV T ?_); refine gT ?_; (refine mV ?_); refine gT ?_; (refine vV (by exact kC (hc)) ?_); refine gT ?_; (refine vV (by first | exact fs_geqF rfl rfl (by omega) | exact fs_geqT rfl rfl h0 | exact fs_geq rfl rfl) ?_)) | (iterate 4 first | refine gF ?_ | refine gU ?_)); (all_goals (first|refine pV ?_|refine vV (by exact fs_pick rfl rfl rfl) ?_))) | (((refine rg 2 ?_)); (all_goals (refine aV ?_))) | (((refine rg 3 ?_)); (all_goals (refine fV T ?_; refine lV T ?_; refine mV ?_; refine vV (by fail) ?_; refine lV T ?_)); (all_goals first | (refine vV (by first | fail) ?_) | (refine vc_n (by first | fail) rfl ?_)); (all_goals (refine vc_n (by exact fs_buildSlice T rfl rfl (by decide) (by decide) rfl rfl rfl) rfl ?_; refine aV ?_))) | (refine vc_nilp (by (first | (dsimp only [ln1, ln2, List.append_nil, ln4, ln5, ln6, ln7, ln8, ln9, putAt, putd, allObjs, argEnv, un_v, un_ptr, un_ep, un_pr, un_sl, un_mp, un_row, un_agg, un_tup, un_clo, Nat.zero_add, lnb, Nat.reduceAdd, lnc, lnd]; first | done | exact rfl) | exact rfl)) ?_))
    all_goals first | (exfalso; omega) | exact ret_plain (.inl rfl) rfl rfl
  · repeat' (first | refine wS ?_ | refine wB ?_ | refine wK ?_ | refine wR ?_ | refine wE ?_ | refine aw_condt rfl ?_ | refine aw_condf rfl ?_ | (refine wC rfl (fun hb => ?_) (fun hb => ?_) <;> (first | subst hb | ((try simp only [nm] at hb); try (exfalso; omega)))) | (((refine rg 0 ?_)); (all_goals (refine vc_n (by exact fs_box rfl rfl) rfl ?_; refine aV ?_))) | (((refine rg 1 ?_)); (all_goals (refine mV ?_; refine vV (by first | exact fs_lssF rfl rfl (by omega) | exact fs_lss rfl rfl) ?_; refine mV ?_)); (all_goals first | (refine gK ?_) | (refine vc_split rfl rfl (fun hb => ?_) (fun hb => ?_) <;> (first | subst hb | (rw [hb]; (try simp only [nm] at hb); try ((exfalso; omega); done))))); (all_goals first | (refine gT ?_; (refine mV ?_); refine gT ?_; (refine fV T ?_); refine gT ?_; (refine lV T ?_); refine gT ?_; (first|refine qV T ?_|refine vV (by exact fs_lenNil T rfl rfl) ?_); refine gT ?_; (refine vV (by first | exact fs_geqT rfl rfl (by omega) | exact fs_geq rfl rfl) ?_)) | (iterate 5 first | refine gF ?_ | refine gU ?_)); (all_goals ((first|refine pV ?_|refine vV (by exact fs_pick rfl rfl rfl) ?_); refine mV ?_)); (all_goals first | (refine gK ?_) | (refine vc_split rfl rfl (fun hb => ?_) (fun hb => ?_) <;> (first | subst hb | (rw [hb]; (try simp only [nm] at hb); try ((exfalso; omega); done))))); (all_goals first | (refine gT ?_; (refine lV T ?_); refine gT ?_; (refine mV ?_); refine gT ?_; (refine vV (by exact kC (hc)) ?_); refine gT ?_; (refine vV (by first | exact fs_geqT rfl rfl (by omega) | exact fs_geq rfl rfl) ?_)) | (iterate 4 first | refine gF ?_ | refine gU ?_)); (all_goals (first|refine pV ?_|refine vV (by exact fs_pick rfl rfl rfl) ?_))) | (((refine rg 2 ?_)); (all_goals (refine aV ?_))) | (((refine rg 3 ?_)); (all_goals (refine fV T ?_; refine lV T ?_; refine mV ?_; refine vV (by fail) ?_; refine lV T ?_)); (all_goals first | (refine vV (by first | fail) ?_) | (refine vc_n (by first | fail) rfl ?_)); (all_goals (refine vc_n (by exact fs_buildSlice T rfl rfl (by decide) (by decide) rfl rfl rfl) rfl ?_; refine aV ?_))) | (refine vc_nilp (by (first | (dsimp only [ln1, ln2, List.append_nil, ln4, ln5, ln6, ln7, ln8, ln9, putAt, putd, allObjs, argEnv, un_v, un_ptr, un_ep, un_pr, un_sl, un_mp, un_row, un_agg, un_tup, un_clo, Nat.zero_add, lnb, Nat.reduceAdd, lnc, lnd]; first | done | exact rfl) | exact rfl)) ?_))
    all_goals first | (exfalso; omega) | exact ret_plain (.inl rfl) rfl rfl
theorem shelfS_c (s : Stt) {i : Nat} (h : i < s.sh.length) (hs : Sm s.sh[i]) (hl : s.rb.length ≤ 9223372036854775807) (h0 : carI s.rb i < 0) : ACall Try.prog 15 [.agg (sttA s), .i i] [] (.sl 0 0 1 1) [.arr (ints [2 * s.sh[i] + 1]) 1] := by
  have hc := carrier_c s i hl
  have hrl : (ints s.sh).length = s.sh.length := by simp
  have q1 : (ints s.sh)[(i : Int).toNat]? = some [AV.i s.sh[i]] := ints_get h
  have c2 := high_c hs
  generalize carI s.rb i = o at *
  generalize s.sh[i] = x at *
  obtain ⟨tick, sh, rb, pp, dd, sk⟩ := s
  dsimp only at *
  refine acall T Try.func15 rfl rfl rfl rfl ?_
  repeat' (first|refine wS ?_|refine wB ?_|refine wK ?_|refine wR ?_|refine wE ?_|refine wT ?_|refine wU ?_|(refine wC rfl (fun hb=>?_) (fun hb=>?_)<;>(first|subst hb|((try simp only [nm] at hb);try (exfalso;omega))))|(refine rg 0 ?_;(all_goals (refine vc_n (by exact fs_box rfl rfl) rfl ?_;refine aV ?_)))|(refine rg 1 ?_;(all_goals (refine mV ?_;refine vV (by first|exact fs_lssF rfl rfl (by omega)|exact fs_lss rfl rfl) ?_;refine mV ?_));(all_goals first|(refine gK ?_)|(refine vc_split rfl rfl (fun hb=>?_) (fun hb=>?_)<;>(first|subst hb|(rw [hb];(try simp only [nm] at hb);try ((exfalso;omega);done)))));(all_goals first|(refine gT ?_;(refine mV ?_);refine gT ?_;(refine fV T ?_);refine gT ?_;(refine lV T ?_);refine gT ?_;(first|refine qV T ?_|refine vV (by exact fs_lenNil T rfl rfl) ?_);refine gT ?_;(refine vV (by first|exact fs_geqF rfl rfl (by omega)|exact fs_geq rfl rfl) ?_))|(iterate 5 first|refine gF ?_|refine gU ?_));(all_goals ((first|refine pV ?_|refine vV (by exact fs_pick rfl rfl rfl) ?_);refine mV ?_));(all_goals first|(refine gK ?_)|(refine vc_split rfl rfl (fun hb=>?_) (fun hb=>?_)<;>(first|subst hb|(rw [hb];(try simp only [nm] at hb);try ((exfalso;omega);done)))));(all_goals first|(refine gT ?_;(refine lV T ?_);refine gT ?_;(refine mV ?_);refine gT ?_;(refine vV (by exact kC (hc)) ?_);refine gT ?_;(refine vV (by first|exact fs_geqF rfl rfl (by omega)|exact fs_geq rfl rfl) ?_))|(iterate 4 first|refine gF ?_|refine gU ?_));(all_goals (first|refine pV ?_|refine vV (by exact fs_pick rfl rfl rfl) ?_)))|(refine rg 2 ?_;(all_goals (refine aV ?_)))|(refine rg 3 ?_;(all_goals (refine fV T ?_;refine lV T ?_;refine mV ?_;refine vV (by exact fs_indexRowE T rfl rfl rfl rfl rfl (by omega) (ints_len _) q1) ?_;refine lV T ?_;refine vV (by exact kC (c2)) ?_;refine vc_n (by exact fs_buildSlice T rfl rfl (by decide) (by decide) rfl rfl rfl) rfl ?_;refine aV ?_)))|(refine vc_nilp (by (first|(dsimp only [ln1,ln2,List.append_nil,ln4,ln5,ln6,ln7,ln8,ln9,putAt,putd,allObjs,argEnv,un_v,un_ptr,un_ep,un_pr,un_sl,un_mp,un_row,un_agg,un_tup,un_clo,Nat.zero_add,lnb,Nat.reduceAdd,lnc,lnd];first|done|exact rfl)|exact rfl)) ?_))
  all_goals first | (exfalso; omega) | exact ⟨.inl rfl, [1], _, rfl, rfl, rfl, ⟨.inr rfl, trivial⟩, by decide, lt0 _⟩
def robL (s : Stt) (k : Nat) : List Int := ((s.rb.take k).map fun r => atL r.2.1 r.1).flatten
def shL1 (s : Stt) (i : Nat) : List Int := if 0 ≤ carI s.rb i then [] else [2 * s.sh.getD i 0 + 1]
def shL (s : Stt) (k : Nat) : List Int := ((List.range k).map (shL1 s)).flatten
def ppL (s : Stt) (k : Nat) : List Int := ((s.pp.take k).map fun c => [2 * c, 2 * c + 1]).flatten
def allL (s : Stt) : List Int := robL s s.rb.length ++ shL s s.sh.length ++ ppL s s.pp.length
theorem robL_next {s : Stt} {k : Nat} (h : k < s.rb.length) : robL s (k + 1) = robL s k ++ atL (s.rb[k]).2.1 (s.rb[k]).1 := by
  unfold robL
  rw [List.take_succ_eq_append_getElem h, List.map_append, List.flatten_append, List.map_cons, List.map_nil, List.flatten_cons, List.flatten_nil, List.append_nil]
theorem shL_next (s : Stt) (k : Nat) : shL s (k + 1) = shL s k ++ shL1 s k := by
  unfold shL
  rw [List.range_succ]
  simp
theorem ppL_next {s : Stt} {k : Nat} (h : k < s.pp.length) : ppL s (k + 1) = ppL s k ++ [2 * s.pp[k], 2 * s.pp[k] + 1] := by
  unfold ppL
  rw [List.take_succ_eq_append_getElem h, List.map_append, List.flatten_append, List.map_cons, List.map_nil, List.flatten_cons, List.flatten_nil, List.append_nil]
theorem atL_len (a c : Int) : (atL a c).length ≤ 2 ∧ 1 ≤ (atL a c).length := by unfold atL; split <;> simp
theorem robL_len (s : Stt) : ∀ k, k ≤ s.rb.length → (robL s k).length ≤ 2 * k
  | 0, _ => by simp [robL]
  | k + 1, h => by
    have := robL_len s k (by omega)
    have := atL_len (s.rb[k]).2.1 (s.rb[k]).1
    rw [robL_next (by omega), List.length_append]
    omega
theorem shL_len (s : Stt) : ∀ k, (shL s k).length ≤ k
  | 0 => by simp [shL]
  | k + 1 => by
    have := shL_len s k
    have h1 : (shL1 s k).length ≤ 1 := by unfold shL1; split <;> simp
    rw [shL_next, List.length_append]
    omega
theorem ppL_len (s : Stt) : ∀ k, k ≤ s.pp.length → (ppL s k).length = 2 * k
  | 0, _ => by simp [ppL]
  | k + 1, h => by
    have := ppL_len s k (by omega)
    rw [ppL_next (by omega), List.length_append, this]
    simp
    omega
end Go.Proofs.Ytcdgmjfmmnklnaa
