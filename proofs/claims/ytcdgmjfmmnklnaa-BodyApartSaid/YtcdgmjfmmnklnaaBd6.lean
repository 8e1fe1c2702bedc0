/-
  Layer 14: the sorted slots of all bodies.
-/
import Derived.Test.YtcdgmjfmmnklnaaBd5
namespace Go.Proofs.Ytcdgmjfmmnklnaa
open Go Go.Ab
set_option linter.unusedVariables false
set_option linter.unusedSimpArgs false
attribute [local irreducible] VC AW FStep ACall
set_option maxHeartbeats 4000000
theorem allL_len {s : Stt} (h : Smal s) : (allL s).length ≤ 5000 := by
  have l1 := robL_len s s.rb.length (Nat.le_refl _)
  have l2 := shL_len s s.sh.length
  have l3 := ppL_len s s.pp.length (Nat.le_refl _)
  have b1 := h.rl
  have b2 := h.sl
  have b3 := h.pl
  unfold allL
  simp only [List.length_append]
  omega
theorem allS_c (s : Stt) (h : Smal s) : ACall Try.prog 11 [.agg (sttA s)] [] (.sl 0 0 (sorted (allL s)).length 1) [.arr (ints (sorted (allL s))) 1] := by
  have cA := all_c s h
  have hl := allL_len h
  have cS := sort_c (allL s) (by omega)
  have hsl := sorted_len (allL s)
  rw [hsl]
  generalize sorted (allL s) = q at *
  generalize allL s = l at *
  refine acall T Try.func11 rfl rfl rfl rfl ?_
  repeat' (first|refine wS ?_|refine wB ?_|refine wK ?_|refine wR ?_|refine wE ?_|refine wT ?_|refine wU ?_|(refine wC rfl (fun hb=>?_) (fun hb=>?_)<;>(first|subst hb|((try simp only [nm] at hb);try (exfalso;omega))))|(refine rg 0 ?_;(all_goals (refine vc_n (by exact fs_box rfl rfl) rfl ?_;refine aV ?_)))|(refine rg 1 ?_;(all_goals (refine lV T ?_));(all_goals first|(refine vV (by first|exact fs_call rfl rfl cA (.inr ⟨rfl,rfl,by simp⟩)) ?_)|(refine vc_n (by first|exact fs_call rfl rfl cA (.inr ⟨rfl,rfl,by simp⟩)) rfl ?_));(all_goals (refine aV ?_)))|(refine rg 2 ?_;(all_goals (refine mV ?_;refine vc_callw [1] rfl rfl cS rfl rfl (by decide) ⟨.inr (sub_arr rfl (mapL_idfs _ (ints_idf _)) (ints_idf _)),trivial⟩ (by simp) rfl ?_)))|(refine rg 3 ?_;(all_goals (refine mV ?_;refine aV ?_)))|(refine vc_nilp (by (first|(dsimp only [ln1,ln2,List.append_nil,ln4,ln5,ln6,ln7,ln8,ln9,putAt,putd,allObjs,argEnv,un_v,un_ptr,un_ep,un_pr,un_sl,un_mp,un_row,un_agg,un_tup,un_clo,Nat.zero_add,lnb,Nat.reduceAdd,lnc,lnd];first|done|exact rfl)|exact rfl)) ?_))
  all_goals first | (exfalso; omega) | exact ⟨.inl rfl, [1], _, rfl, rfl, rfl, ⟨.inr (sub_arr rfl (mapL_idfs _ (ints_idf _)) (ints_idf _)), trivial⟩, by decide, lt0 _⟩
end Go.Proofs.Ytcdgmjfmmnklnaa
