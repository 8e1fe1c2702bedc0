/-
  Texts of the logic and of the layer,in one module (part 7).
-/
import Derived.Test.YtojgimibalokkaaGreatK6
set_option linter.unusedVariables false
set_option linter.unusedSimpArgs false
set_option linter.unnecessarySimpa false
namespace Go.Ld
open Go.Ab Go.Proofs.YtojgimibalokkaaGreat
theorem zP5 (l:List Int) (n:Int):zA4 l n=S6 l n:=by
  by_cases h:∀ i,i<l.length→yW l n i
  · rw [J8 h];unfold zA4;exact bA.2 fun i hi=>decide_eq_true (h i (eJ.1 hi))
  · obtain ⟨i,hi⟩:=Classical.not_forall.1 h;obtain ⟨hi,ho⟩:=Classical.not_forall.1 hi;rw [U5 hi ho];unfold zA4;unfold yW at ho;exact vT.2 ⟨i,eJ.2 hi,fun q=>ho (of_decide_eq_true q)⟩
theorem zO2 {p q:Prop} [Decidable p] [Decidable q]:decide (p∧q)=(decide p&&decide q):=by simp
theorem kD (n k a b m:Int) (ids:List Int):gH n ⟨k,a,b,m,ids⟩=(eF a 0 (n-1)&&decide (k=0∨ids.length=0)&&decide (k=4∨b=0)&&(if k=0 then decide (m=0)&&S6 ids n else if k=1∨k=2∨k=3 then eF m 0 1099511627776 else if k=4 then decide (m=0)&&eF b (a+1) (n-1) else if k=5 then eF m 0 (n-1) else false)):=by
  unfold gH eF;simp only [zO2,zP5]
end Go.Ld
namespace Go.Proofs.YtojgimibalokkaaGreat
open Go Go.Ab Go.Ld
attribute [local irreducible] VC AW cF aP
set_option maxHeartbeats 4000000
theorem WF (n k a b m:Int) (ids:List Int) (hl:ids.length≤9223372036854775807) (hn:0≤n∧n≤1000) :
    aP Tryz.prog 23 [.i n,yH k a b m ids] [] (.b (gH n ⟨k,a,b,m,ids⟩)) []:=by
  have hil:(ints ids).length=ids.length:=by simp
  have ca:=kJ a 0 (n-1);have cs:=B8 ids n hl hn;cases hA:eF a 0 (n-1)
  · rw [hA] at ca;have e:gH n ⟨k,a,b,m,ids⟩=(false):=by rw [kD];first | (rw [hA];rfl) | (rw [hAb];rcases h1 with h | h;(rw [decide_eq_false (by omega:¬ (k=0∨ids.length=0))];simp);(rw [decide_eq_false (by omega:¬ (k=4∨b=0))];simp)) | (rw [hAb,decide_eq_true hid,decide_eq_true hbz];simp only [gL];first | rw [if_pos k0] | rw [if_neg k0,if_pos k1] | rw [if_neg k0,if_neg k1,if_pos k4] | rw [if_neg k0,if_neg k1,if_neg k4,if_pos k5] | rw [if_neg k0,if_neg k1,if_neg k4,if_neg k5])
    rw [e];refine bL T Tryz.func23 rfl rfl rfl rfl ?_
    (repeat' (first|refine wS ?_|refine wR ?_|refine wT ?_|(refine rg 0 (bS (bZ rfl rfl) rfl (aV ?_)))|(refine rg 1 (fR T rfl (mW rfl (vV (cH rfl rfl (by omega) (by omega)) (vV (kC (ca)) (vV (cT rfl) (mV ?_))))));(iterate 4 refine gF ?_);(iterate 4 refine gU ?_);refine gF (pW rfl (mV ?_));(iterate 4 refine gF ?_);(iterate 3 refine gU ?_);refine gF (pV ?_))|(refine rg 2 (aV ?_))|refine nZ ?_));exact rQ
  · rw [hA] at ca;have hAb:=hA;simp only [eF,aJ,decide_eq_true_eq] at hA;by_cases h1:k≠0∧0<ids.length∨k≠4∧b≠0
    · have e:gH n ⟨k,a,b,m,ids⟩=(false):=by rw [kD];first | (rw [hA];rfl) | (rw [hAb];rcases h1 with h | h;(rw [decide_eq_false (by omega:¬ (k=0∨ids.length=0))];simp);(rw [decide_eq_false (by omega:¬ (k=4∨b=0))];simp)) | (rw [hAb,decide_eq_true hid,decide_eq_true hbz];simp only [gL];first | rw [if_pos k0] | rw [if_neg k0,if_pos k1] | rw [if_neg k0,if_neg k1,if_pos k4] | rw [if_neg k0,if_neg k1,if_neg k4,if_pos k5] | rw [if_neg k0,if_neg k1,if_neg k4,if_neg k5])
      rw [e];refine bL T Tryz.func23 rfl rfl rfl rfl ?_
      (repeat' (first|refine wS ?_|refine wR ?_|refine wT ?_|(refine wC rfl ?_ ?_<;>(intro hb;(try simp only [nm] at hb);try (exfalso;omega)))|(refine rg 0 (bS (bZ rfl rfl) rfl (aV ?_)))|(refine rg 1 (fR T rfl (mW rfl (vV (cH rfl rfl (by omega) (by omega)) (vV (kC (ca)) (vV (cT rfl) (mW rfl (yP T rfl (yO T rfl (yV (dI rfl rfl) ?_)))))))));refine yM ?_;refine aY rfl rfl ?_ ?_<;>(intro hb;rw [hb];(try simp only [nm] at hb);try (exfalso;omega));(all_goals first|(refine gT (fW T rfl (gT (lW T rfl (gT (qW T rfl (gT (vV (dX rfl rfl) ?_))))))))|(iterate 4 refine gF ?_));(all_goals (refine gT (pW rfl (pW rfl (mV ?_)))));(all_goals first|(refine gK ?_)|(refine aY rfl rfl ?_ ?_<;>(intro hb;rw [hb];(try simp only [nm] at hb);try (exfalso;omega))));(all_goals first|(refine gT (fW T rfl (gT (lW T rfl (gT (vV (dI rfl rfl) (gT (mV ?_))))))))|(iterate 4 refine gF ?_));(all_goals first|(refine gK ?_)|(refine aY rfl rfl ?_ ?_<;>(intro hb;rw [hb];(try simp only [nm] at hb);try (exfalso;omega))));(all_goals first|(refine gT (fW T rfl (gT (lW T rfl (gT (vV (dI rfl rfl) ?_))))))|(iterate 3 refine gU ?_));(all_goals first|(refine gT (pV ?_))|(refine gF ?_));(all_goals (refine pV ?_)))|(refine rg 2 (aV ?_))|refine nZ ?_));all_goals exact rQ
    · have hid:k=0∨ids.length=0:=by omega
      have hbz:k=4∨b=0:=by omega
      by_cases k0:k=0
      · have e:gH n ⟨k,a,b,m,ids⟩=(decide (m=0)&&S6 ids n):=by rw [kD];first | (rw [hA];rfl) | (rw [hAb];rcases h1 with h | h;(rw [decide_eq_false (by omega:¬ (k=0∨ids.length=0))];simp);(rw [decide_eq_false (by omega:¬ (k=4∨b=0))];simp)) | (rw [hAb,decide_eq_true hid,decide_eq_true hbz];simp only [gL];first | rw [if_pos k0] | rw [if_neg k0,if_pos k1] | rw [if_neg k0,if_neg k1,if_pos k4] | rw [if_neg k0,if_neg k1,if_neg k4,if_pos k5] | rw [if_neg k0,if_neg k1,if_neg k4,if_neg k5])
        rw [e];refine bL T Tryz.func23 rfl rfl rfl rfl ?_
        (repeat' (first|refine wS ?_|refine wB ?_|refine wK ?_|refine wR ?_|(refine wC rfl ?_ ?_<;>(intro hb;(try simp only [nm] at hb);try (exfalso;omega)))|(refine rg 0 (bS (bZ rfl rfl) rfl (aV ?_)))|(refine rg 1 (fR T rfl (mW rfl (vV (cH rfl rfl (by omega) (by omega)) (vV (kC (ca)) (vV (cT rfl) (mW rfl (yP T rfl (yO T rfl (yV (dI rfl rfl) ?_)))))))));refine yM ?_;refine aY rfl rfl ?_ ?_<;>(intro hb;rw [hb];(try simp only [nm] at hb);try (exfalso;omega));(all_goals ((iterate 4 refine gF ?_);refine gT (pW rfl (pW rfl (mW rfl (yP T rfl (yO T rfl (yV (dI rfl rfl) (yM ?_)))))));refine aY rfl rfl ?_ ?_<;>(intro hb;rw [hb];(try simp only [nm] at hb);try (exfalso;omega))));(all_goals (refine yP T rfl (yO T rfl (yV (dI rfl rfl) (gT (pW rfl (pV ?_))))))))|(refine rg 3 (AC T ?_))|(refine rg 4 (vV (bW rfl rfl) (aV ?_)))|(refine rg 5 (fR T rfl (vV (bW rfl rfl) (mV ?_)));refine aY rfl rfl ?_ ?_<;>(intro hb;rw [hb];(try simp only [nm] at hb);try (exfalso;omega));(all_goals first|(refine gT (fW T rfl (gT (lW T rfl (gT (mW rfl (gT (vV (kC (cs)) ?_))))))))|(iterate 4 refine gF ?_));(all_goals (refine pW rfl (aV ?_))))|refine nZ ?_));all_goals first | (exfalso;omega) | (refine cM (.inl rfl) rfl (lX ?_);simp [*])
      · by_cases k1:k=1∨k=2∨k=3
        · have e:gH n ⟨k,a,b,m,ids⟩=(eF m 0 1099511627776):=by rw [kD];first | (rw [hA];rfl) | (rw [hAb];rcases h1 with h | h;(rw [decide_eq_false (by omega:¬ (k=0∨ids.length=0))];simp);(rw [decide_eq_false (by omega:¬ (k=4∨b=0))];simp)) | (rw [hAb,decide_eq_true hid,decide_eq_true hbz];simp only [gL];first | rw [if_pos k0] | rw [if_neg k0,if_pos k1] | rw [if_neg k0,if_neg k1,if_pos k4] | rw [if_neg k0,if_neg k1,if_neg k4,if_pos k5] | rw [if_neg k0,if_neg k1,if_neg k4,if_neg k5])
          rw [e];refine bL T Tryz.func23 rfl rfl rfl rfl ?_
          (repeat' (first|refine wS ?_|refine wB ?_|refine wK ?_|refine wR ?_|(refine wC rfl ?_ ?_<;>(intro hb;(try simp only [nm] at hb);try (exfalso;omega)))|(refine rg 0 (bS (bZ rfl rfl) rfl (aV ?_)))|(refine rg 1 (fR T rfl (mW rfl (vV (cH rfl rfl (by omega) (by omega)) (vV (kC (ca)) (vV (cT rfl) (mW rfl (yP T rfl (yO T rfl (yV (dI rfl rfl) ?_)))))))));refine yM ?_;refine aY rfl rfl ?_ ?_<;>(intro hb;rw [hb];(try simp only [nm] at hb);try (exfalso;omega));(all_goals (refine yP T rfl (yO T rfl (gT (qW T rfl (yV (dX rfl rfl) (gT (pW rfl (pW rfl (mV ?_))))))));refine aY rfl rfl ?_ ?_<;>(intro hb;rw [hb];(try simp only [nm] at hb);try (exfalso;omega))));(all_goals (refine yP T rfl (yO T rfl (yV (dI rfl rfl) (yM ?_)));refine aY rfl rfl ?_ ?_<;>(intro hb;rw [hb];(try simp only [nm] at hb);try (exfalso;omega))));(all_goals (refine yP T rfl (yO T rfl (yV (dI rfl rfl) (gT (pW rfl (pV ?_))))))))|(refine rg 3 (AC T ?_))|(refine rg 4 (vV (bW rfl rfl) (aV ?_)))|(refine rg 6 (vV (bW rfl rfl) (aV ?_)))|(refine rg 7 (vV (bW rfl rfl) (aV ?_)))|(refine rg 8 (vV (bW rfl rfl) (aV ?_)))|(refine rg 9 (fR T rfl (vV (by exact eL rfl rfl (kJ _ _ _) rfl rfl rfl) ?_));refine aV ?_)|refine nZ ?_));all_goals first | (exfalso;omega) | exact rQ
        · by_cases k4:k=4
          · have e:gH n ⟨k,a,b,m,ids⟩=(decide (m=0)&&eF b (a+1) (n-1)):=by rw [kD];first | (rw [hA];rfl) | (rw [hAb];rcases h1 with h | h;(rw [decide_eq_false (by omega:¬ (k=0∨ids.length=0))];simp);(rw [decide_eq_false (by omega:¬ (k=4∨b=0))];simp)) | (rw [hAb,decide_eq_true hid,decide_eq_true hbz];simp only [gL];first | rw [if_pos k0] | rw [if_neg k0,if_pos k1] | rw [if_neg k0,if_neg k1,if_pos k4] | rw [if_neg k0,if_neg k1,if_neg k4,if_pos k5] | rw [if_neg k0,if_neg k1,if_neg k4,if_neg k5])
            rw [e];refine bL T Tryz.func23 rfl rfl rfl rfl ?_
            (repeat' (first|refine wS ?_|refine wB ?_|refine wK ?_|refine wR ?_|refine wU ?_|(refine wC rfl ?_ ?_<;>(intro hb;(try simp only [nm] at hb);try (exfalso;omega)))|(refine rg 0 (bS (bZ rfl rfl) rfl (aV ?_)))|(refine rg 1 (fR T rfl (mW rfl (vV (cH rfl rfl (by omega) (by omega)) (vV (kC (ca)) (vV (cT rfl) (mW rfl (yP T rfl (yO T rfl (yV (dI rfl rfl) ?_)))))))));refine yM ?_;refine aY rfl rfl ?_ ?_<;>(intro hb;rw [hb];(try simp only [nm] at hb);try (exfalso;omega));(all_goals (refine yP T rfl (yO T rfl (gT (qW T rfl (yV (dX rfl rfl) (gT (pW rfl (pW rfl (mV ?_))))))));refine aY rfl rfl ?_ ?_<;>(intro hb;rw [hb];(try simp only [nm] at hb);try (exfalso;omega))));(all_goals (refine yP T rfl (yO T rfl (yV (dI rfl rfl) (yM ?_)));refine aY rfl rfl ?_ ?_<;>(intro hb;rw [hb];(try simp only [nm] at hb);try (exfalso;omega))));(all_goals ((iterate 3 refine gF ?_);refine gT (pW rfl (pV ?_)))))|(refine rg 3 (AC T ?_))|(refine rg 4 (vV (bW rfl rfl) (aV ?_)))|(refine rg 6 (vV (bW rfl rfl) (aV ?_)))|(refine rg 7 (vV (bW rfl rfl) (aV ?_)))|(refine rg 8 (vV (bW rfl rfl) (aV ?_)))|(refine rg 10 (vV (bW rfl rfl) (aV ?_)))|(refine rg 11 (fR T rfl (vV (bW rfl rfl) (mV ?_)));refine aY rfl rfl ?_ ?_<;>(intro hb;rw [hb];(try simp only [nm] at hb);try (exfalso;omega));(all_goals first|(refine gT (fW T rfl (gT (lW T rfl (gT (fW T rfl (gT (lW T rfl (gT (vV (bP rfl rfl (by omega) (by omega)) ?_)))))))));refine gT (mW rfl (gT (vV (cH rfl rfl (by omega) (by omega)) (gT (vV (by exact eL rfl rfl (kJ _ _ _) rfl rfl rfl) ?_))))))|(iterate 8 refine gF ?_));(all_goals (refine pW rfl (aV ?_))))|refine nZ ?_));all_goals first | (exfalso;omega) | (refine cM (.inl rfl) rfl (lX ?_);simp [*])
          · by_cases k5:k=5
            · have e:gH n ⟨k,a,b,m,ids⟩=(eF m 0 (n-1)):=by rw [kD];first | (rw [hA];rfl) | (rw [hAb];rcases h1 with h | h;(rw [decide_eq_false (by omega:¬ (k=0∨ids.length=0))];simp);(rw [decide_eq_false (by omega:¬ (k=4∨b=0))];simp)) | (rw [hAb,decide_eq_true hid,decide_eq_true hbz];simp only [gL];first | rw [if_pos k0] | rw [if_neg k0,if_pos k1] | rw [if_neg k0,if_neg k1,if_pos k4] | rw [if_neg k0,if_neg k1,if_neg k4,if_pos k5] | rw [if_neg k0,if_neg k1,if_neg k4,if_neg k5])
              rw [e];refine bL T Tryz.func23 rfl rfl rfl rfl ?_
              (repeat' (first|refine wS ?_|refine wB ?_|refine wK ?_|refine wR ?_|(refine wC rfl ?_ ?_<;>(intro hb;(try simp only [nm] at hb);try (exfalso;omega)))|(refine rg 0 (bS (bZ rfl rfl) rfl (aV ?_)))|(refine rg 1 (fR T rfl (mW rfl (vV (cH rfl rfl (by omega) (by omega)) (vV (kC (ca)) (vV (cT rfl) (mW rfl (yP T rfl (yO T rfl (yV (dI rfl rfl) ?_)))))))));refine yM ?_;refine aY rfl rfl ?_ ?_<;>(intro hb;rw [hb];(try simp only [nm] at hb);try (exfalso;omega));(all_goals (refine yP T rfl (yO T rfl (gT (qW T rfl (yV (dX rfl rfl) (gT (pW rfl (pW rfl (mV ?_))))))));refine aY rfl rfl ?_ ?_<;>(intro hb;rw [hb];(try simp only [nm] at hb);try (exfalso;omega))));(all_goals (refine yP T rfl (yO T rfl (yV (dI rfl rfl) (yM ?_)));refine aY rfl rfl ?_ ?_<;>(intro hb;rw [hb];(try simp only [nm] at hb);try (exfalso;omega))));(all_goals (refine yP T rfl (yO T rfl (yV (dI rfl rfl) (gT (pW rfl (pV ?_))))))))|(refine rg 3 (AC T ?_))|(refine rg 4 (vV (bW rfl rfl) (aV ?_)))|(refine rg 6 (vV (bW rfl rfl) (aV ?_)))|(refine rg 7 (vV (bW rfl rfl) (aV ?_)))|(refine rg 8 (vV (bW rfl rfl) (aV ?_)))|(refine rg 10 (vV (bW rfl rfl) (aV ?_)))|(refine rg 12 (vV (bW rfl rfl) (aV ?_)))|(refine rg 13 (fR T rfl (mW rfl (vV (cH rfl rfl (by omega) (by omega)) (vV (by exact eL rfl rfl (kJ _ _ _) rfl rfl rfl) ?_))));refine aV ?_)|refine nZ ?_));all_goals first | (exfalso;omega) | exact rQ
            · have e:gH n ⟨k,a,b,m,ids⟩=(false):=by rw [kD];first | (rw [hA];rfl) | (rw [hAb];rcases h1 with h | h;(rw [decide_eq_false (by omega:¬ (k=0∨ids.length=0))];simp);(rw [decide_eq_false (by omega:¬ (k=4∨b=0))];simp)) | (rw [hAb,decide_eq_true hid,decide_eq_true hbz];simp only [gL];first | rw [if_pos k0] | rw [if_neg k0,if_pos k1] | rw [if_neg k0,if_neg k1,if_pos k4] | rw [if_neg k0,if_neg k1,if_neg k4,if_pos k5] | rw [if_neg k0,if_neg k1,if_neg k4,if_neg k5])
              rw [e];refine bL T Tryz.func23 rfl rfl rfl rfl ?_
              (repeat' (first|refine wS ?_|refine wB ?_|refine wK ?_|refine wR ?_|(refine wC rfl ?_ ?_<;>(intro hb;(try simp only [nm] at hb);try (exfalso;omega)))|(refine rg 0 (bS (bZ rfl rfl) rfl (aV ?_)))|(refine rg 1 (fR T rfl (mW rfl (vV (cH rfl rfl (by omega) (by omega)) (vV (kC (ca)) (vV (cT rfl) (mW rfl (yP T rfl (yO T rfl (yV (dI rfl rfl) ?_)))))))));refine yM ?_;refine aY rfl rfl ?_ ?_<;>(intro hb;rw [hb];(try simp only [nm] at hb);try (exfalso;omega));(all_goals (refine yP T rfl (yO T rfl (gT (qW T rfl (yV (dX rfl rfl) (gT (pW rfl (pW rfl (mV ?_))))))));refine aY rfl rfl ?_ ?_<;>(intro hb;rw [hb];(try simp only [nm] at hb);try (exfalso;omega))));(all_goals (refine yP T rfl (yO T rfl (yV (dI rfl rfl) (yM ?_)));refine aY rfl rfl ?_ ?_<;>(intro hb;rw [hb];(try simp only [nm] at hb);try (exfalso;omega))));(all_goals (refine yP T rfl (yO T rfl (yV (dI rfl rfl) (gT (pW rfl (pV ?_))))))))|(refine rg 3 (AC T ?_))|(refine rg 4 (vV (bW rfl rfl) (aV ?_)))|(refine rg 6 (vV (bW rfl rfl) (aV ?_)))|(refine rg 7 (vV (bW rfl rfl) (aV ?_)))|(refine rg 8 (vV (bW rfl rfl) (aV ?_)))|(refine rg 10 (vV (bW rfl rfl) (aV ?_)))|(refine rg 12 (vV (bW rfl rfl) (aV ?_)))|(refine rg 14 (aV ?_))|refine nZ ?_));all_goals first | (exfalso;omega) | exact rQ
end Go.Proofs.YtojgimibalokkaaGreat
namespace Go.Ld
open Go.Ab Go.Proofs.YtojgimibalokkaaGreat
theorem hd_mem {l:List Int}(h:l≠[]):l.headD 0∈l:=by
  cases l with
  | nil=>exact absurd rfl h
  | cons x l=>exact aR
theorem YJ {l:List Int}(h:l.Pairwise (· < ·)){z:Int}(hz:z∈l):l.headD 0≤z:=by
  cases l with
  | nil=>cases hz
  | cons x l=>
    rcases bT.1 hz with rfl | hz
    · exact fK _
    · have:=(fA.1 h).1 z hz;show x≤z;omega
theorem zR8 {a b:Int}:cI a b≤0↔a≤b:=by unfold cI;split <;> (try split) <;> omega
theorem zV {l:List G}:KT l↔(l.map fun g=>g.1.headD 0).Pairwise (fun a b=>a≤b):=by
  rw [zC7];exact ⟨fun h=>h.imp fun {a b} h=>zR8.1 h,fun h=>h.imp fun {a b} h=>zR8.2 h⟩
theorem OC {c:Cx}{M:Int}{gs P Q R:List G}{u v J:G}(h:nY c M gs) (e:gs=P++u::(Q++v::R)) (hM:0≤M){M':Int}(hMM:M≤M')
    (hp:J.1.Perm (u.1++v.1)) (hJ:uB c.bs.length J) (hne:J.2≠[]) (hf:(iI J).1.Perm ((iI u).1++(iI v).1)) (hm:∀ w,w∈J.2→w.2.1≤M') (hl:J.2.length≤1000):nY c M' (P++J::(Q++R)):=by
  have hmem:∀ g,g∈P++J::(Q++R)→g=J∨g∈gs:=fun g hg=>by
    subst e;simp only [bG,bT] at hg ⊢;rcases hg with hg | hg | hg | hg
    · exact .inr (.inl hg)
    · exact .inl hg
    · exact .inr (.inr (.inr (.inl hg)))
    · exact .inr (.inr (.inr (.inr (.inr hg))))
  have fl:∀ F:G→List Int,(F J).Perm (F u++F v)→((P++J::(Q++R)).flatMap F).Perm (gs.flatMap F):=fun F hF=>by
    subst e;simp only [fT,bJ,bU];refine List.Perm.append_left _ ?_;refine (hF.append_right _).trans ?_;rw [bU];refine List.Perm.append_left _ ?_;rw [← bU,← bU];exact List.perm_append_comm.append_right _
  have cov:=(fl (·.1) hp).trans h.cov;have hlen:(gs.flatMap (·.1)).length=((P++J::(Q++R)).flatMap (·.1)).length:=(fl (·.1) hp).length_eq.symm;refine ⟨⟨fun g hg=>?_,(fl (·.1) hp).nodup_iff.2 h.out.nd,by rw [← hlen];exact h.out.ln,fun g hg=>?_⟩,?_,fun g hg=>?_,fun g hg=>?_,cov,(fl _ hf).trans h.idn,fun g hg=>?_⟩
  · rcases hmem g hg with rfl | hg
    · exact hJ
    · exact h.out.ok g hg
  · rcases hmem g hg with rfl | hg
    · omega
    · exact h.out.ws g hg
  · have hu:u∈gs:=by subst e;simp
    have hv:v∈gs:=by subst e;simp
    have hup:=zV.1 h.up;have ou:=h.out.ok u hu;have ov:=h.out.ok v hv;have huv:u.1.headD 0≤v.1.headD 0:=by
      subst e;simp only [dJ,List.map_cons] at hup;exact (fA.1 (eW.1 hup).2.1).1 _ (by simp)
    have hh:J.1.headD 0=u.1.headD 0:=by
      have h1:J.1.headD 0≤u.1.headD 0:=YJ hJ.up (hp.mem_iff.2 (bG.2 (.inl (hd_mem ou.ne))));have h2:u.1.headD 0≤J.1.headD 0:=by
        rcases bG.1 (hp.mem_iff.1 (hd_mem hJ.ne)) with hq | hq
        · exact YJ ou.up hq
        · have:=YJ ov.up hq;omega
      omega
    refine zV.2 (hup.sublist ?_);subst e;simp only [dJ,List.map_cons,hh];refine List.Sublist.append_left (List.Sublist.cons_cons _ (List.Sublist.append_left (List.sublist_cons_self _ _) _)) _
  · rcases hmem g hg with rfl | hg
    · exact hne
    · exact h.ne g hg
  · rcases hmem g hg with rfl | hg
    · exact hm
    · exact fun w hw=>F6 (h.ml g hg w hw) hMM
  · rcases hmem g hg with rfl | hg
    · exact hl
    · exact h.wl g hg
theorem XV {c:Cx}{gs all:List G}{a b:Int}(h:nY c c.m gs) (hm0:0≤c.m) (hm1:c.m≤1048576) (ha:0≤a∧a<c.bs.length) (hb:0≤b∧b<c.bs.length) (e:join gs a b=some all) :
    nY c (2*c.m) all∧∃ g,g∈all∧a∈g.1∧b∈g.1:=by
  obtain ⟨i,x,hi,hix,hax⟩:=jG (h.find ha);obtain ⟨k,y,hk,hky,hby⟩:=jG (h.find hb);have hx:=aH hix;have hy:=aH hky;unfold join at e;dsimp only at e;rw [hi,hk] at e;split at e
  · rename_i hik;obtain rfl:i=k:=by omega
    cases e;have:x=y:=by rw [hix] at hky;exact Option.some.inj hky
    subst this;exact ⟨⟨h.out,h.up,h.ne,fun g hg w hw=>by have:=h.ml g hg w hw;omega,h.cov,h.idn,h.wl⟩,x,hx,hax,hby⟩
  · rename_i hik;have hxy:x≠y:=fun q=>by
      subst q;have h1:=(aB.1 hix).2;have h2:=(aB.1 hky).2;have l1:=(aB.1 hix).1;have l2:=(aB.1 hky).1;have nd:(gs.map fun g=>g.1.headD 0).Nodup:=by
        have:=h.out.nd;have aux:∀ o:List G,(∀ g,g∈o→g.1≠[])→(o.flatMap (·.1)).Nodup→(o.map fun g=>g.1.headD 0).Nodup:=by
          intro o
          induction o with
          | nil=>intro _ _;exact bK
          | cons g o ih=>
            intro hg hn;rw [bJ] at hn;obtain ⟨n1,n2,n3⟩:=cO.1 hn;rw [List.map_cons,eY];refine ⟨fun hc=>?_,ih (fun g h=>hg g (aL _ h)) n2⟩;obtain ⟨g',hg',e'⟩:=bB.1 hc;exact n3 _ (hd_mem (hg g aR)) _ (nD hg' (e'▸hd_mem (hg g' (aL _ hg')))) rfl
        exact aux gs (fun g hg=>(h.out.ok g hg).ne) this
      have e1:(gs.map fun g=>g.1.headD 0)[i]'(by simpa using l1)=(gs.map fun g=>g.1.headD 0)[k]'(by simpa using l2):=by rw [mR,mR,h1,h2]
      have:=(BK nd).1 e1;omega
    have gi:pM gs ((i:Int)).toNat=x:=by unfold pM;rw [aC];show (gs[i]?).getD _=x;rw [hix];rfl
    have gk:pM gs ((k:Int)).toNat=y:=by unfold pM;rw [aC];show (gs[k]?).getD _=y;rw [hky];rfl
    rw [gi,gk] at e;split at e
    · cases e
    · rename_i hsz;have hln:x.1.length+y.1.length≤6:=by omega
      have hwl:x.2.length*y.2.length≤1000:=by omega
      cases e;have dj:∀ (u v:G),u∈gs→v∈gs→u≠v→∀ b,b∈u.1→b∉v.1:=fun u v hu hv huv b h1 h2=>huv (H3 h.out.nd hu hv h1 h2);have ndi:(gs.flatMap fun g=>(iI g).1).Nodup:=h.idn.nodup_iff.2 (A0 _);have ndi':((gs.map fun g=>((iI g).1,g.2)).flatMap (·.1)).Nodup:=by rw [BL];exact ndi
      have jo:uQ c.bs.length x y:=by
        refine ⟨h.out.ok x hx,h.out.ok y hy,h.ne x hx,h.ne y hy,dj x y hx hy hxy,fun b h1 h2=>?_,hln⟩
        have l1:=(aB.1 hix).1;have l2:=(aB.1 hky).1;rcases kV (show i≠k by omega) with hlt | hlt
        · obtain ⟨P,Q,R,e1,-⟩:=pH x hlt hix hky;rw [e1] at ndi;simp only [fT,bJ] at ndi;exact (cO.1 (cO.1 ndi).2.1).2.2 b h1 b (by simp [h2]) rfl
        · obtain ⟨P,Q,R,e1,-⟩:=pH y hlt hky hix;rw [e1] at ndi;simp only [fT,bJ] at ndi;exact (cO.1 (cO.1 ndi).2.1).2.2 b h2 b (by simp [h1]) rfl
      have hJ:=jo.ok (h.ml x hx) (h.ml y hy) (by omega)
      have hJn:=XW (h.ne x hx) (h.ne y hy);have hJf:=jo.same (jB hJn);have hJm:∀ w,w∈(nB x y).2→w.2.1≤2*c.m:=fun w hw=>by
        obtain ⟨u,v,hu,hv,rfl⟩:=A6 hw;have:=h.ml x hx u hu;have:=h.ml y hy v hv;show u.2.1+v.2.1≤_;omega
      have hJp:=mM x y;have hJl:(nB x y).2.length≤1000:=by rw [TC];exact hwl
      have hJa:a∈(nB x y).1:=hJp.mem_iff.2 (bG.2 (.inl hax));have hJb:b∈(nB x y).1:=hJp.mem_iff.2 (bG.2 (.inr hby));generalize nB x y=J at *;rcases kV (show i≠k by omega) with hlt | hlt
      · obtain ⟨P,Q,R,e1,e2⟩:=pH J hlt hix hky;rw [show (min (i:Int) (k:Int)).toNat=i by omega,show (max (i:Int) (k:Int)).toNat=k by omega,e2]
        exact ⟨OC h e1 hm0 (by omega) hJp hJ hJn hJf hJm hJl,J,by simp,hJa,hJb⟩
      · obtain ⟨P,Q,R,e1,e2⟩:=pH J hlt hky hix;rw [show (min (i:Int) (k:Int)).toNat=k by omega,show (max (i:Int) (k:Int)).toNat=i by omega,e2]
        exact ⟨OC h e1 hm0 (by omega) (hJp.trans xY) hJ hJn (hJf.trans xY) hJm hJl,J,by simp,hJa,hJb⟩
theorem QC {f t:Int}(h:(J1 f t).2=true):LH (J1 f t).1:=by
  have:=AM f t;unfold J1 at h ⊢;unfold LH;dsimp only at h ⊢;rcases this with ⟨h1,h2,h3,h4⟩ | ⟨h1,_⟩
  · rw [h2,h3];omega
  · rw [h1] at h;cases h
theorem RA {t u w e:Int}{r:SP}(h:(uC t u w e r).2=true):LH (uC t u w e r).1:=by
  unfold uC at h ⊢;dsimp only at h ⊢;split at h
  · rename_i hq;rw [if_pos hq];exact QC h
  · rename_i hq;exact absurd h hq
theorem WR {n s:Int}{r:SP}(h:(yS r n s).2=true):LH (yS r n s).1:=by
  unfold yS at h ⊢;split at h
  · rename_i hq;rw [if_pos hq];exact QC h
  · cases h
theorem EK.sC {n q:Nat}{w:W}(h:EK n q w){i:Nat}{r:SP}(hr:LH r):EK n q (sC w i r) where
  pl:=h.pl
  cl:=by show (w.2.2.set i r).length=q;rw [gW];exact h.cl
  pr:=h.pr
  nd:=h.nd
  m0:=h.m0
  m1:=h.m1
  sp x hx:=by
    rcases fQ hx with hx | rfl
    · exact h.sp x hx
    · exact hr
theorem UJ {c:Cx}{n q:Nat}{w:W}{i:Nat}{s:Ev}(h:EK n q w) (hi:i<q) (hs:0≤s.n) (hm:w.2.1≤3000000) (hb:(jK c w i s).2=true):EK n q (jK c w i s).1∧(jK c w i s).1.1=w.1∧(jK c w i s).1.2.1≤w.2.1+1:=by
  obtain ⟨g1,g2,g3⟩:=h.at hi;unfold jK at hb ⊢;by_cases k0:s.k=0
  · rw [if_pos k0] at hb ⊢;split
    · exact ⟨h,rfl,by dsimp only;omega⟩
    · exact ⟨⟨h.pl,h.cl,h.pr,h.nd,by have:=h.m0;dsimp only;omega,by dsimp only;omega,h.sp⟩,rfl,by dsimp only;omega⟩
  rw [if_neg k0] at hb ⊢;by_cases k1:s.k=1
  · rw [if_pos k1] at hb ⊢;dsimp only at hb ⊢;exact ⟨h.sC (RA hb),rfl,by show w.2.1≤_;omega⟩
  rw [if_neg k1] at hb ⊢;by_cases k2:s.k=2
  · rw [if_pos k2] at hb ⊢;dsimp only at hb ⊢;exact ⟨h.sC (WR hb),rfl,by show w.2.1≤_;omega⟩
  rw [if_neg k2] at hb ⊢;by_cases k3:s.k=3
  · rw [if_pos k3] at hb ⊢;dsimp only at hb ⊢;unfold vH at hb;simp only [aJ,decide_eq_true_eq] at hb;unfold LH at g3;exact ⟨h.sC (show LH (s.n,s.n+1) from ⟨by dsimp only;omega,by dsimp only;omega,by dsimp only;omega⟩),rfl,by show w.2.1≤_;omega⟩
  rw [if_neg k3] at hb ⊢;split
  · exact ⟨h,rfl,by dsimp only;omega⟩
  · exact ⟨h,rfl,by dsimp only;omega⟩
theorem CL {α:Type}{l:List α}{i k:Nat}{d:α}(hi:i<l.length) (hk:k<l.length):((l.set i (l.getD k d)).set k (l.getD i d)).Perm l:=by
  have e1:l.getD k d=l[k]:=by rw [aC,aA hk];rfl
  have e2:l.getD i d=l[i]:=by rw [aC,aA hi];rfl
  rw [e1,e2];exact List.set_set_perm hi hk
theorem zN4 {n q:Nat}{w:W}{i k:Nat}(h:EK n q w) (hi:i<q) (hk:k<q):EK n q (oV w i k)∧(oV w i k).1.Perm w.1:=by
  have p1:(oV w i k).1.Perm w.1:=CL (by rw [h.pl];exact hi) (by rw [h.pl];exact hk)
  have p2:(oV w i k).2.2.Perm w.2.2:=CL (by rw [h.cl];exact hi) (by rw [h.cl];exact hk)
  exact ⟨⟨p1.length_eq.trans h.pl,p2.length_eq.trans h.cl,fun x hx=>h.pr x (p1.mem_iff.1 hx),p1.nodup_iff.2 h.nd,h.m0,h.m1,fun r hr=>h.sp r (p2.mem_iff.1 hr)⟩,p1⟩
theorem IN {c:Cx}{M:Int}{gs:List G}(h:nY c M gs) (hM:M≤2200000){g:G}(hg:g∈gs){s:Ev}(hs:0≤s.n) (ha:s.a∈g.1) (hb:s.k=4→s.b∈g.1){w:W}(hw:w∈jU c s g):EK c.bs.length g.1.length w∧w.1.Perm (iI g).1∧w.2.1≤M+1:=by
  have og:=h.out.ok g hg;obtain ⟨v,hv,hw⟩:=fZ.1 hw;have ov:=og.ws v hv;have hvm:=h.ml g hg v hv;have hp:=og.same v _ hv (jB (h.ne g hg));obtain ⟨hi,_⟩:=wV ha;rcases bG.1 hw with hw | hw
  · split at hw
    · rename_i hbt;obtain rfl:=bH.1 hw;obtain ⟨h1,h2,h3⟩:=UJ ov hi hs (by omega) hbt
      exact ⟨h1,h2▸hp,by omega⟩
    · cases hw
  · split at hw
    · rename_i hk;obtain rfl:=bH.1 hw;obtain ⟨hj,_⟩:=wV (hb hk);obtain ⟨h1,h2⟩:=zN4 ov hi hj;exact ⟨h1,h2.trans hp,by show v.2.1≤_;omega⟩
    · cases hw
theorem SQ {c:Cx}{s:Ev}{g:G}:(jU c s g).length≤2*g.2.length:=by
  unfold jU;dsimp only
  induction g.2 with
  | nil=>simp
  | cons w l ih=>
    rw [bJ,aF,List.length_cons,aF];have h1:∀ {p:Prop} [Decidable p] {x:W},(if p then [x] else []).length≤1:=by
      intro p _ x;split <;> simp
    have:=@h1 ((jK c w (g.1.idxOf s.a) s).2=true) _ (jK c w (g.1.idxOf s.a) s).1;have:=@h1 (s.k=4) _ (oV w (g.1.idxOf s.a) (g.1.idxOf s.b));omega
theorem zH3 {c:Cx}{M M':Int}{gs:List G}(h:nY c M gs){i:Nat}{g:G}(hi:gs[i]? = some g){ws:List W}(hne:ws≠[]) (hl:ws.length≤1000) (hM:M≤M')
    (hw:∀ w,w∈ws→EK c.bs.length g.1.length w∧w.1.Perm (iI g).1∧w.2.1≤M'):nY c M' (gs.set i (g.1,ws)):=by
  have hg:=aH hi;have og:=h.out.ok g hg;obtain ⟨A,B,e1,e2⟩:=pG (y:=(g.1,ws)) hi;rw [e2];subst e1;have hmem:∀ x,x∈A++(g.1,ws)::B→x=(g.1,ws)∨x∈A++g::B:=fun x hx=>by
    simp only [bG,bT] at hx ⊢;rcases hx with hx | hx | hx
    · exact .inr (.inl hx)
    · exact .inl hx
    · exact .inr (.inr (.inr hx))
  have hbod:((A++(g.1,ws)::B).flatMap (·.1))=((A++g::B).flatMap (·.1)):=by simp only [fT,bJ]
  have hf:=(hw _ (jB (g:=(g.1,ws)) hne)).2.1;have ok:uB c.bs.length (g.1,ws):=⟨og.ne,og.up,og.rg,og.ln,fun w h=>(hw w h).1,fun w v h1 h2=>(hw w h1).2.1.trans (hw v h2).2.1.symm⟩;refine ⟨⟨fun x hx=>?_,by rw [hbod];exact h.out.nd,by rw [hbod];exact h.out.ln,fun x hx=>?_⟩,?_,fun x hx=>?_,fun x hx=>?_,by rw [hbod];exact h.cov,?_,fun x hx=>?_⟩
  · rcases hmem x hx with rfl | hx
    · exact ok
    · exact h.out.ok x hx
  · rcases hmem x hx with rfl | hx
    · show ws.length≤2000;omega
    · exact h.out.ws x hx
  · have:=zV.1 h.up;refine zV.2 ?_;simp only [dJ,List.map_cons] at this ⊢;exact this
  · rcases hmem x hx with rfl | hx
    · exact hne
    · exact h.ne x hx
  · rcases hmem x hx with rfl | hx
    · exact fun w hw'=>(hw w hw').2.2
    · exact fun w hw'=>F6 (h.ml x hx w hw') hM
  · refine List.Perm.trans ?_ h.idn;simp only [fT,bJ];exact List.Perm.append_left _ (hf.append_right _)
  · rcases hmem x hx with rfl | hx
    · exact hl
    · exact h.wl x hx
theorem X4 {g:G}{k:Nat}{w:W}(h:w∈(jY g k).2):∃ v,v∈g.2∧w=zN7 k v:=by
  obtain ⟨v,hv,e⟩:=bB.1 (qX h);exact ⟨v,hv,e.symm⟩
theorem OP {g:G}{k:Nat}(h:g.2≠[]):(jY g k).2≠[]:=fun e=>h (by
  have:=P5.1 e
  exact kM.1 this)
theorem zH5 {m:Nat}{M:Int}(hM:0≤M):∀ {g:G},(∀ w,w∈g.2→w.2.1≤M)→∀ x,x∈mL m g→∀ w,w∈x.2→w.2.1≤M:=by
  induction m with
  | zero=>intro g h x hx;simp [mL] at hx;subst hx;exact h
  | succ m ih=>
    intro g h x hx;unfold mL at hx;split at hx
    · simp at hx;subst hx;exact h
    · rename_i k hk;rcases bT.1 hx with rfl | hx
      · intro w hw;obtain rfl:=bH.1 hw;exact hM
      · refine ih (fun w hw=>?_) x hx;obtain ⟨v,hv,rfl⟩:=X4 hw;exact h v hv
theorem WS {m:Nat}:∀ {g:G},g.2.Pairwise (fun a b=>oR a b<0)→∀ x,x∈mL m g→x.2.Pairwise (fun a b=>oR a b<0):=by
  induction m with
  | zero=>intro g h x hx;simp [mL] at hx;subst hx;exact h
  | succ m ih=>
    intro g h x hx;unfold mL at hx;split at hx
    · simp at hx;subst hx;exact h
    · rcases bT.1 hx with rfl | hx
      · exact kA _ _
      · exact ih (Y5 _) x hx
theorem II {n:Nat}:∀ (m:Nat){g:G},uB n g→g.2≠[]→((mL m g).flatMap fun x=>(iI x).1).Perm (iI g).1
  | 0,g,h,hne=>by simp [mL]
  | m+1,g,h,hne=>by
    unfold mL;split
    · simp
    · rename_i k hk;have hr:=OP (k:=k) hne;obtain ⟨v,hv,e⟩:=X4 (jB hr);have ih:=II m (h.rest hk) hr;rw [bJ];have ofw:=h.ws _ (jB hne);have ov:=h.ws v hv;obtain ⟨_,_,hkl,hs⟩:=jE hk;have hgv:=(hs v hv).1;refine (List.Perm.append_left _ ih).trans ?_;rw [e];show (gP (iI g) k::(v.1.eraseIdx k)).Perm _;rw [← hgv];exact (jQ v.1 k 0 (by rw [ov.pl];exact hkl)).trans (h.same _ _ hv (jB hne))
theorem rL {α β γ:Type}{F:β→List γ}{F':α→List γ}{P:α→List β}:∀ {l:List α},(∀ g,g∈l→((P g).flatMap F).Perm (F' g))→((l.flatMap P).flatMap F).Perm (l.flatMap F')
  | [],_=>.refl _
  | g::l,h=>by
    rw [bJ,fT,bJ];exact (h g aR).append (rL fun x hx=>h x (aL _ hx))
theorem P9 {α β γ:Type}{F:β→List γ}{F':α→List γ}{f:α→β}:∀ {l:List α},(∀ g,g∈l→(F (f g)).Perm (F' g))→((l.map f).flatMap F).Perm (l.flatMap F')
  | [],_=>.refl _
  | g::l,h=>by
    rw [List.map_cons,bJ,bJ];exact (h g aR).append (P9 fun x hx=>h x (aL _ hx))
theorem VN:∀ {l:List G},(∀ g,g∈l→0≤iX g)→0≤nN l
  | [],_=>fK _
  | g::l,h=>by
    have:=VN fun x hx=>h x (aL _ hx);have:=h g aR;show 0≤iX g+nN l;omega
theorem VO:∀ {l:List G},(∀ g,g∈l→0≤iX g)→∀ {g:G},g∈l→iX g≤nN l
  | x::l,h,g,hg=>by
    have h0:=VN fun x hx=>h x (aL _ hx);have h1:=h x aR;show iX g≤iX x+nN l;rcases bT.1 hg with rfl | hg
    · omega
    · have:=VO (fun x hx=>h x (aL _ hx)) hg;omega
theorem WT {c:Cx}{L:List G}(h:nY c c.m L) (hm0:0≤c.m) (hasc:∀ g,g∈L→g.2.Pairwise fun a b=>oR a b<0):kQ c (sI L):=by
  have hp:=dZ cG (L.flatMap fun g=>mL g.1.length g);have hmem:∀ x,x∈sI L→∃ g,g∈L∧x∈mL g.1.length g:=fun x hx=>fZ.1 (hp.mem_iff.1 hx);have bod:((sI L).flatMap (·.1)).Perm (L.flatMap (·.1)):=(hp.flatMap_right _).trans (rL fun g hg=>yT _ (h.out.ok g hg));have idn:((sI L).flatMap fun g=>(iI g).1).Perm (L.flatMap fun g=>(iI g).1):=(hp.flatMap_right _).trans (rL fun g hg=>II _ (h.out.ok g hg) (h.ne g hg));have wl:∀ x,x∈sI L→x.2.length≤1000:=fun x hx=>by
    obtain ⟨g,hg,hx⟩:=hmem x hx;exact IH (by omega) (h.wl g hg) x hx
  refine ⟨⟨⟨fun x hx=>?_,bod.nodup_iff.2 h.out.nd,by rw [bod.length_eq];exact h.out.ln,fun x hx=>by have:=wl x hx;omega⟩,rT _,fun x hx=>?_,fun x hx=>?_,bod.trans h.cov,idn.trans h.idn,wl⟩,fun x hx=>?_,fun x hx=>?_⟩
  all_goals obtain ⟨g,hg,hx⟩:=hmem x hx
  · exact EZ _ (h.out.ok g hg) x hx
  · exact zH4 (h.ne g hg) x hx
  · exact zH5 hm0 (h.ml g hg) x hx
  · exact CZ _ (h.out.ok g hg) (aT _) x hx
  · exact WS (hasc g hg) x hx
theorem IJ {c:Cx}{M:Int}{gs:List G}(h:nY c M gs) (hne:∀ g,g∈paid c gs→g.2≠[]):nY c c.m (paid c gs):=by
  have h0:∀ g,g∈gs→0≤iX g:=fun g hg=>(DN (h.out.ok g hg) (h.ne g hg)).1;refine ⟨h.out.paid c,NX h.up,hne,fun g hg w hw=>?_,by rw [L8];exact h.cov,?_,fun g hg=>?_⟩
  · obtain ⟨x,hx,rfl⟩:=bB.1 hg;have:=of_decide_eq_true (nL.1 hw).2;have:=VO h0 hx;omega
  · refine List.Perm.trans (P9 (F':=fun g=>(iI g).1) fun g hg=>?_) h.idn;have h1:=hne _ (bB.2 ⟨g,hg,rfl⟩);have h2:=jB h1;exact (h.out.ok g hg).same _ _ (nL.1 h2).1 (jB (h.ne g hg))
  · obtain ⟨x,hx,rfl⟩:=bB.1 hg;exact bY (nF _ _) (h.wl x hx)
theorem zE3 {c:Cx}{M:Int}{gs:List G}(h:nY c M gs) (hm0:0≤c.m) (hasc:∀ g,g∈gs→g.2.Pairwise fun a b=>oR a b<0) (hne:∀ g,g∈uD c gs→g.2≠[]):kQ c (uD c gs):=by
  refine WT (IJ h fun g hg e=>?_) hm0 fun g hg=>?_
  · refine hne g ?_ e;refine (dZ cG _).mem_iff.2 (fZ.2 ⟨g,hg,?_⟩);rw [IG e];exact bH.2 rfl
  · obtain ⟨x,hx,rfl⟩:=bB.1 hg;exact (hasc x hx).sublist List.filter_sublist
theorem pI {n:Int}{s:Ev}(h:gH n s=true) (hn:n≤1000000):(0≤s.a∧s.a<n)∧(s.k=4→s.a<s.b∧s.b<n)∧0≤s.n∧s.n≤1099511627776:=by
  obtain ⟨k,a,b,m,ids⟩:=s;unfold gH at h;simp only [aJ,decide_eq_true_eq] at h;obtain ⟨⟨⟨h1,h2⟩,h3⟩,h4⟩:=h;dsimp only;refine ⟨by omega,fun hk=>?_,?_⟩
  · subst hk;simp at h4;omega
  · by_cases k0:k=0
    · subst k0;simp at h4;omega
    · rw [if_neg k0] at h4;split at h4
      · simp at h4;omega
      · split at h4
        · simp at h4;omega
        · split at h4
          · simp at h4;omega
          · cases h4
theorem TB {gs all:List G}{a b:Int}(e:join gs a b=some all) (ha:∃ g,g∈gs∧a∈g.1):∀ g,g∈all→g∈gs∨a∈g.1:=by
  intro g hg;obtain ⟨i,x,hi,hix,hax⟩:=jG ha;unfold join at e;dsimp only at e;split at e
  · cases e;exact .inl hg
  · split at e
    · cases e
    · cases e;rcases fQ (List.mem_of_mem_eraseIdx hg) with hg | rfl
      · exact .inl hg
      · refine .inr ((mM _ _).mem_iff.2 (bG.2 (.inl ?_)));rw [hi];unfold pM;rw [aC,show ((i:Int)).toNat=i from rfl,hix]
        exact hax
structure D7 (c:Cx) (M:Int) (all:List G) (s:Ev):Prop where
  mid:nY c M all
  asc:∀ g,g∈all→(g.2.Pairwise fun a b=>oR a b<0)∨s.a∈g.1
  a:0≤s.a∧s.a<c.bs.length
  b:s.k=4→∃ g,g∈all∧s.a∈g.1∧s.b∈g.1
  n0:0≤s.n
  n1:s.n≤1099511627776
theorem D7.at {c:Cx}{M:Int}{all:List G}{s:Ev}(h:D7 c M all s):∃ (i:Nat) (g:G),nS all s.a=(i:Int)∧all[i]? = some g∧g∈all∧pM all (nS all s.a).toNat=g∧s.a∈g.1∧(s.k=4→s.b∈g.1):=by
  obtain ⟨i,g,hi,hg,ha⟩:=jG (h.mid.find h.a);have hm:=aH hg;refine ⟨i,g,hi,hg,hm,?_,ha,fun hk=>?_⟩
  · rw [hi];unfold pM;rw [aC,show ((i:Int)).toNat=i from rfl,hg];rfl
  · obtain ⟨x,hx,h1,h2⟩:=h.b hk;rw [H3 h.mid.out.nd hm hx ha h1];exact h2
theorem D7.next {c:Cx}{M:Int}{all:List G}{s:Ev}(h:D7 c M all s) (hM:M≤2200000){i:Nat}{g:G}(hi:all[i]? = some g) (ha:s.a∈g.1) (hb:s.k=4→s.b∈g.1) (hne:fN (jU c s g)≠[]) (hl:(fN (jU c s g)).length≤1000) :
    nY c (M+1) (all.set i (g.1,fN (jU c s g)))∧∀ x,x∈all.set i (g.1,fN (jU c s g))→x.2.Pairwise fun a b=>oR a b<0:=by
  have hg:=aH hi;refine ⟨zH3 h.mid hi hne hl (by omega) fun w hw=>IN h.mid hM hg h.n0 ha hb (qX hw),fun x hx=>?_⟩
  obtain ⟨A,B,e1,e2⟩:=pG (y:=(g.1,fN (jU c s g))) hi;rw [e2] at hx;have nd:=h.mid.out.nd;have hall:x=(g.1,fN (jU c s g))∨x∈all∧s.a∉x.1:=by
    subst e1;simp only [fT,bJ] at nd;obtain ⟨_,n1,n2⟩:=cO.1 nd;obtain ⟨_,_,n3⟩:=cO.1 n1;simp only [bG,bT] at hx ⊢;rcases hx with hx | hx | hx
    · exact .inr ⟨.inl hx,fun q=>n2 _ (nD hx q) _ (bG.2 (.inl ha)) rfl⟩
    · exact .inl hx
    · exact .inr ⟨.inr (.inr hx),fun q=>n3 _ ha _ (nD hx q) rfl⟩
  rcases hall with rfl | ⟨h1,h2⟩
  · exact Y5 _
  · exact (h.asc x h1).resolve_right h2
theorem OM {c:Cx}{M:Int}{l all:List G}{s:Ev}(h:D7 c M all s) (hM:M≤2200000) (hm0:0≤c.m) (hl:kQ c l):kQ c (wJ c l all s).2:=by
  obtain ⟨i,g,hi,hg,hgm,hat,ha,hb⟩:=h.at;unfold wJ;dsimp only;rw [hat];split
  · exact hl
  · rename_i hne;split
    · exact hl
    · rename_i hwl;split
      · exact hl
      · rename_i hany;obtain ⟨hm,hasc⟩:=h.next hM hg ha hb hne (by omega)
        rw [hi] at hany ⊢;refine zE3 hm hm0 hasc fun x hx e=>hany (iZ.2 ⟨x,hx,by rw [e];rfl⟩)
theorem uV {c:Cx}{gs:List G}{s:Ev}(h:kQ c gs) (hn:c.bs.length≤1000) (hm0:0≤c.m) (hr:gH c.bs.length s=true) (hk:s.k≠4):D7 c c.m gs s:=by
  obtain ⟨h1,h2,h3,h4⟩:=pI hr (by omega)
  exact ⟨h.mid,fun g hg=>.inl (h.asc g hg),h1,fun q=>absurd q hk,h3,h4⟩
theorem E7 {c:Cx}{gs all:List G}{s:Ev}(h:kQ c gs) (hn:c.bs.length≤1000) (hm0:0≤c.m) (hm1:c.m≤1048576) (hr:gH c.bs.length s=true) (hk:s.k=4) (e:join gs s.a s.b=some all):D7 c (2*c.m) all s:=by
  obtain ⟨h1,h2,h3,h4⟩:=pI hr (by omega)
  have h2:=h2 hk;obtain ⟨j1,j2⟩:=XV h.mid hm0 hm1 h1 ⟨by omega,by omega⟩ e
  exact ⟨j1,fun g hg=>(TB e (h.mid.find h1) g hg).imp_left fun hg=>h.asc g hg,h1,fun _=>j2,h3,h4⟩
theorem nY.n12 {c:Cx}{M:Int}{gs:List G}(h:nY c M gs):c.bs.length≤12:=by
  have:=h.cov.length_eq;have:=h.out.ln;simp at *;omega
theorem zU5 {c:Cx}{gs:List G}{s:Ev}(h:kQ c gs) (hm0:0≤c.m) (hm1:c.m≤1048576):kQ c (lR c gs s).2:=by
  have hn:=h.mid.n12;unfold lR;split
  · rename_i hr;split
    · rename_i hk;split
      · exact h
      · rename_i all e;exact OM (E7 h (by omega) hm0 hm1 hr hk e) (by omega) hm0 h
    · rename_i hk;exact OM (uV h (by omega) hm0 hr hk) (by omega) hm0 h
  · exact h
def HO (c:Cx) (s:Ev) (g:G) (w:W):List W:=
  (if (jK c w (g.1.idxOf s.a) s).2 then [(jK c w (g.1.idxOf s.a) s).1] else [])++(if s.k=4 then [oV w (g.1.idxOf s.a) (g.1.idxOf s.b)] else [])
def uZ (c:Cx) (s:Ev) (g:G) (k:Nat):List W:=(g.2.take k).flatMap (HO c s g)
theorem SR (c:Cx) (s:Ev) (g:G):uZ c s g g.2.length=jU c s g:=by unfold uZ;rw [cQ];rfl
theorem Y8 {c:Cx}{s:Ev}{g:G}{k:Nat}(h:k<g.2.length):uZ c s g (k+1)=uZ c s g k++HO c s g g.2[k]:=by
  unfold uZ;rw [aM h,fT,bJ,zQ1,List.append_nil]
theorem RO {c:Cx}{s:Ev}{g:G}{w:W}:(HO c s g w).length≤2:=by
  unfold HO;rw [aF];split <;> split <;> simp
theorem DH {c:Cx}{s:Ev}{g:G}:∀ {k:Nat},k≤g.2.length→(uZ c s g k).length≤2*k
  | 0,_=>by simp [uZ]
  | k+1,h=>by
    rw [Y8 (by omega),aF]
    have:=DH (c:=c) (s:=s) (g:=g) (k:=k) (by omega)
    have:=RO (c:=c) (s:=s) (g:=g) (w:=g.2[k]'(by omega))
    omega
theorem zG8 (l:List Int):AB.rf (.arr (Go.Ab.ints l) 1)=true:=by
  show (Go.Ab.ints l).all AV.rfL=true;rw [bA];intro e he;obtain ⟨x,_,rfl⟩:=bB.1 he;rfl
theorem WH (l:List SP):AB.rf (.arr (fI l) 2)=true:=by
  show (fI l).all AV.rfL=true;rw [bA];intro e he;obtain ⟨x,_,rfl⟩:=bB.1 he;rfl
theorem zG7 (a:List Int) (b:List SP):[AB.arr (Go.Ab.ints a) 1,.arr (fI b) 2].all AB.rf=true:=by
  simp only [S8,zG8,WH,List.all_nil,Bool.and_self]
theorem HJ {c:Cx}{n:Nat}{gs:List G}(h:nX n gs):nX n (uD c gs):=by
  have h:=h.paid c;unfold uD;generalize paid c gs=L at *;have hp:=dZ cG (L.flatMap fun g=>mL g.1.length g);have hmem:∀ x,x∈sI L→∃ g,g∈L∧x∈mL g.1.length g:=fun x hx=>fZ.1 (hp.mem_iff.1 hx);have bod:((sI L).flatMap (·.1)).Perm (L.flatMap (·.1)):=(hp.flatMap_right _).trans (rL fun g hg=>yT _ (h.ok g hg));refine ⟨fun x hx=>?_,bod.nodup_iff.2 h.nd,by rw [bod.length_eq];exact h.ln,fun x hx=>?_⟩
  all_goals obtain ⟨g,hg,hx⟩:=hmem x hx
  · exact EZ _ (h.ok g hg) x hx
  · exact IH (by omega) (h.ws g hg) x hx
abbrev C4 (s:Ev):List AV:=[.i s.k,.i s.a,.i s.b,.i s.n,.rowE (Go.Ab.ints s.ids) 1]
end Go.Ld
namespace Go.Proofs.YtojgimibalokkaaGreat
open Go Go.Ab Go.Ld
attribute [local irreducible] VC AW cF aP kG
set_option maxHeartbeats 4000000
theorem zU7 (g:G):aP Tryz.prog 33 [UQ g] [] (.b g.2.isEmpty) []:=by
  obtain ⟨bs,ws⟩:=g;cases ws with
  | nil=>
    refine bL T Tryz.func33 rfl rfl rfl rfl ?_
    (repeat' (first|refine wS ?_|refine wR ?_|(refine rg 0 (bS (bZ rfl rfl) rfl (aV ?_)))|(refine rg 1 (fR T rfl (qW T rfl (vV (bW rfl rfl) (aV ?_)))))|refine nZ ?_));all_goals first | (exfalso;omega) | exact rQ
  | cons w ws=>
    have hl:(wsA (w::ws)).length≠0:=by rw [eZ];simp
    refine bL T Tryz.func33 rfl rfl rfl rfl ?_
    (repeat' (first|refine wS ?_|refine wR ?_|(refine rg 0 (bS (bZ rfl rfl) rfl (aV ?_)))|(refine rg 1 (fR T rfl (qW T rfl (vV (bW rfl rfl) (aV ?_)))))|refine nZ ?_));all_goals first | (exfalso;omega) | exact rQ
noncomputable def yD1:Code:=match Tryz.f8.body with
  | some (.seq _ (.seq _ (.seq _ (.seq _ c))))=>c
  | _=>.skip
noncomputable def yH4:Code:=match yD1 with
  | .seq a _=>a
  | _=>.skip
noncomputable def yH5:Code:=match yD1 with
  | .seq _ b=>b
  | _=>.skip
theorem LS (c:Cx) (l all:List G) (s:Ev){M:Int}(hc:qP c) (h:D7 c M all s) (hM:M≤2200000) (hids:s.ids.length≤9223372036854775807) :
    AW Tryz.prog (Tryz.f8.ntmps,1) yH4 [(0,.ptr 0 0),(3,.pr (C4 s) 0),(5,.sl 1 0 all.length 2)] [.cells (kN c l),.arr (kB all) 2] (IR (fun v h=>AW Tryz.prog (Tryz.f8.ntmps,1) yH5 v h (RZ T Tryz.f8.results.toList 1 (.i (wJ c l all s).1) [.cells (kN c (wJ c l all s).2)])) (RZ T Tryz.f8.results.toList 1 (.i (wJ c l all s).1) [.cells (kN c (wJ c l all s).2)])):=by
  obtain ⟨i,g,hi,hg,hgm,hat,ha,hb⟩:=h.at;have hn12:=h.mid.n12;have hal:(kB all).length=all.length:=kE _;have hl12:all.length≤12:=bY h.mid.out.len h.mid.out.ln;have og:=h.mid.out.ok g hgm;have hwl:=h.mid.wl g hgm;have hln:=og.ln;have hil:=(aB.1 hg).1;have f1:=sV all s.a (by omega) (fun g hg=>by have:=(h.mid.out.ok g hg).ln;omega)
  have hvw:∀ {x:AB} {r:Hp},oK (x :: .arr (kB all) 2::r) (.sl 1 0 all.length 2) (.rowE (kB all) 2):=fun {x r}=>qG rfl hal.symm (sH (fun _=>rfl) _);have hix:=pR g.1 s.a (by omega)
  have hxi:wW g.1 s.a 0=((g.1.idxOf s.a:Nat):Int):=by have:=B0 g.1 s.a 0 ha;simpa using this
  rw [hxi] at hix;rw [hi] at f1;have q1:=zB (L:=all) (j:=(i:Int)) (i:=i) hg rfl;unfold wJ;dsimp only;rw [hat,hi,bR];obtain ⟨bs,ws⟩:=g;dsimp only at *;have hwsl:(wsA ws).length=ws.length:=eZ _
  (repeat' (first|refine wS ?_|(refine rg 9 (mW rfl (fW T rfl (vV (bD T rfl rfl rfl rfl) (vV (by exact eC rfl rfl f1 (.cons hvw (.cons (.v _) .nil)) rfl rfl) ?_))));refine aV ?_)|(refine rg 10 (dR rfl (vV (by exact aQ T rfl rfl rfl rfl rfl (by omega) (by omega)) ?_));refine fW T rfl (vV (by exact bD T rfl rfl (bV rfl q1) rfl) ?_);refine vV (by exact gG T rfl rfl rfl rfl) ?_;refine bS (bM T rfl) rfl (aU T rfl rfl rfl rfl rfl rfl (by decide) rfl ?_))|refine nZ ?_));all_goals try (exfalso;omega)
  refine xI 2 1 3 rfl rfl (by decide) ?_
  (repeat' (first|refine wS ?_|refine wB ?_|(refine rg 11 (fW T rfl (vV (bD T rfl rfl rfl rfl) (fW T rfl (vV (bD T rfl rfl rfl rfl) (vV (kC (hix)) (aV ?_)))))))|(refine rg 12 (dR rfl (vV (by exact aQ T rfl rfl rfl rfl rfl (by omega) (by omega)) ?_));refine fW T rfl (vV (by exact bD T rfl rfl (bV rfl q1) rfl) ?_);refine qW T rfl (mV ?_))|refine nZ ?_));all_goals try (exfalso;omega)
  refine cX (X:={k:Nat // k≤ws.length}) (fun k=>[(0,.ptr 0 0),(3,.pr (C4 s) 0),(5,.sl 1 0 all.length 2),(8,.i i),(9,.ptr 2 0),(10,.i (bs.idxOf s.a:Nat)),(63,.rowE (wsA ws) 3),(64,.i (wsA ws).length),(65,.i k.1)]) (fun k=>[.cells (kN c l),.arr (kB all) 2,.cells [.rowE (ints bs) 1,.sl 3 0 (uZ c s (bs,ws) k.1).length 3],.arr (wsA (uZ c s (bs,ws) k.1)) 3]) (fun k=>ws.length-k.1) ⟨0,cC _⟩ ⟨[0,1,2,3],rfl,(by repeat first|exact trivial|refine ⟨rfl,?_⟩),⟨.inr rfl,.inr (aE rfl rfl (eO _)),.inr rfl,.inr rfl,trivial⟩,by decide,H7 _⟩ ?_
  rintro ⟨k,hk⟩;dsimp only;by_cases hlt:k<ws.length
  · have hgk:=tJ hlt;have hst:=Y8 (c:=c) (s:=s) (g:=(bs,ws)) (k:=k) hlt;have hal2:=DH (c:=c) (s:=s) (g:=(bs,ws)) (k:=k) hk;have ow:=og.ws ws[k] (aI hlt);obtain ⟨hidx,_⟩:=wV ha;have hbw:=ZT c l ws[k] s hc ow rfl hidx (by show bs.length≤1000;omega) hids ⟨h.n0,h.n1⟩
    obtain ⟨e1,e2⟩:=GF c ws[k] (bs.idxOf s.a) s;have hk4:s.k=4→(jK c ws[k] (bs.idxOf s.a) s).2=true:=fun q=>by unfold jK;rw [q];rfl
    have hex:s.k=4→∃ j:Nat,wW bs s.b 0=(j:Int)∧j=bs.idxOf s.b∧j<bs.length:=fun q=>by
      obtain ⟨hj,_⟩:=wV (hb q);exact ⟨bs.idxOf s.b,by have:=B0 bs s.b 0 (hb q);simpa using this,rfl,hj⟩
    have hiy:=pR bs s.b (by omega)
    unfold HO at hst;dsimp only at hst;have hpl:=ow.pl;have hcl:=ow.cl;have hal3:(wsA (uZ c s (bs,ws) k)).length=(uZ c s (bs,ws) k).length:=eZ _;generalize uZ c s (bs,ws) k=acc at *;generalize hN:uZ c s (bs,ws) (k+1)=acc' at *;generalize bs.idxOf s.a=ia at *;generalize hw:ws[k]=w at *;generalize jK c w ia s=z at *;obtain ⟨⟨zp,zm,zc⟩,zb⟩:=z;dsimp only at e1 e2 hst hk4 hbw;subst e1;obtain ⟨wp,wm,wc⟩:=w;dsimp only at *;have hz1:(ints wp).length=wp.length:=dH _;have hz2:(fI zc).length=zc.length:=iE _
    (repeat' (first|refine wS ?_|refine wB ?_|refine wK ?_|(refine wC rfl ?_ ?_<;>(intro hb;(try simp only [nm] at hb);try (exfalso;omega)))|(refine rg 13 (vV (aK rfl rfl) ?_))|(refine rg 14 (vV (ix T rfl (by omega) (nH _) hgk) (lW T rfl (bS (bM T rfl) rfl (aU T rfl rfl rfl rfl rfl rfl (by decide) rfl ?_)))))|refine nZ ?_));all_goals try (exfalso;omega)
    refine eI 12 (cs:=wA (wp,wm,wc)) rfl rfl rfl ?_
    (repeat' (first|refine wS ?_|(refine rg 15 (mW rfl (lW T rfl (mW rfl (lW T rfl (bS (by exact hO rfl rfl hbw (.inl ⟨.cons (.ptr rfl (lP _ rfl)) (.cons (EO _) (.cons (.v _) (.cons (.agg (lP _ rfl)) .nil))),zG7 _ _⟩)) rfl ?_)))));refine mW rfl (xW rfl (xW rfl (bS (bM T rfl) rfl (aU T rfl rfl rfl rfl rfl rfl (by decide) rfl (aV ?_))))))|refine nZ ?_));all_goals try (exfalso;omega)
    refine gM [(0,.ptr 0 0),(3,.pr (C4 s) 0),(5,.sl 1 0 all.length 2),(8,.i i),(9,.ptr 2 0),(10,.i ia),(63,.rowE (wsA ws) 3),(64,.i (wsA ws).length),(65,.i k),(12,.pr (wA (wp,wm,wc)) 0),(13,.ptr 6 0),(14,.b zb)] [.cells (kN c l),.arr (kB all) 2,.cells [.rowE (ints bs) 1,.sl 3 0 acc.length 3],.arr (wsA acc) 3,.arr (ints wp) 1,.arr (fI zc) 2,.cells [.sl 4 0 wp.length 1,.i zm,.sl 5 0 wc.length 2]]
      ⟨[0,1,2,3,5,6,7],rfl,(by repeat first|exact trivial|refine ⟨rfl,?_⟩),⟨.inr rfl,.inr (aE rfl rfl (eO _)),.inr rfl,.inr (aE rfl rfl (bQ _)),.inr (aE rfl (dA _ (cJ _)) (cJ _)),.inr (aE rfl (dA _ (fD _)) (fD _)),.inr rfl,trivial⟩,by decide,H7 _⟩ ?_
    refine nT 6 0 (es:=ints wp) rfl rfl rfl hz1.symm (iG (cJ _)) ?_;refine nT 6 2 (es:=fI zc) rfl rfl rfl (by omega) (iG (fD _)) ?_
    refine eI 13 (cs:=wA (wp,zm,zc)) rfl rfl rfl ?_;refine gM [(0,.ptr 0 0),(3,.pr (C4 s) 0),(5,.sl 1 0 all.length 2),(8,.i i),(9,.ptr 2 0),(10,.i ia),(63,.rowE (wsA ws) 3),(64,.i (wsA ws).length),(65,.i k),(12,.pr (wA (wp,wm,wc)) 0),(13,.pr (wA (wp,zm,zc)) 0),(14,.b zb)] [.cells (kN c l),.arr (kB all) 2,.cells [.rowE (ints bs) 1,.sl 3 0 acc.length 3],.arr (wsA acc) 3]
      ⟨[0,1,2,3],rfl,(by repeat first|exact trivial|refine ⟨rfl,?_⟩),⟨.inr rfl,.inr (aE rfl rfl (eO _)),.inr rfl,.inr (aE rfl rfl (bQ _)),trivial⟩,by decide,H7 _⟩ ?_
    have hA1:∀ (l:List W) (w:W),wsA (l++[w])=wsA l++[wA w]:=fun l w=>by rw [wsA,dJ];rfl
    by_cases k4:s.k=4
    · obtain rfl:=hk4 k4;rw [if_pos rfl,if_pos k4] at hst;obtain ⟨j,hj1,hj2,hj3⟩:=hex k4;rw [hj1] at hiy;rw [← hj2] at hst;have hxc:=zY6 (wp,wm,wc) (i:=ia) (k:=j) ⟨by dsimp only;omega,by dsimp only;omega⟩ (by dsimp only;omega) (by dsimp only;omega) (by dsimp only;omega)
      generalize oV (wp,wm,wc) ia j=u at *;obtain ⟨up,um,uc⟩:=u;have hW:=hA1 acc (wp,zm,zc);have hW2:=hA1 (acc++[(wp,zm,zc)]) (up,um,uc);rw [bU,← hst] at hW2;have hacl:acc'.length=acc.length+2:=by rw [hst];simp
      have hWl:(wsA (acc++[(wp,zm,zc)])).length=acc.length+1:=by rw [eZ];simp
      have hidA:=bQ (acc++[(wp,zm,zc)]);generalize wsA (acc++[(wp,zm,zc)])=B at *;generalize wsA acc=A at *
      (repeat' (first|refine wS ?_|refine wT ?_|(refine rg 16 (mV ?_))|(refine rg 17 (fR T rfl (lW T rfl (bS (by exact bF T rfl rfl (by decide) (by decide) rfl rfl rfl) rfl ?_)));refine gD T rfl rfl rfl rfl rfl rfl (by omega) (kZ.whole rfl rfl) rfl (by simp;omega) (by simp;omega) rfl ?_;refine fW T rfl (aU T rfl rfl rfl rfl rfl rfl (by decide) rfl ?_))|refine nZ ?_));all_goals try (exfalso;omega)
      refine gM [(0,.ptr 0 0),(3,.pr (C4 s) 0),(5,.sl 1 0 all.length 2),(8,.i i),(9,.ptr 2 0),(10,.i ia),(63,.rowE (wsA ws) 3),(64,.i (wsA ws).length),(65,.i k),(12,.pr (wA (wp,wm,wc)) 0)] [.cells (kN c l),.arr (kB all) 2,.cells [.rowE (ints bs) 1,.sl 3 0 (acc.length+1) 3],.arr B 3]
        ⟨[0,1,2,5],rfl,(by repeat first|exact trivial|refine ⟨rfl,?_⟩),⟨.inr rfl,.inr (aE rfl rfl (eO _)),.inr rfl,.inr (aE rfl (by rw [hW];exact mN hal3.symm) hidA),trivial⟩,by decide,H7 _⟩ ?_
      (repeat' (first|refine wT ?_|(refine rg 18 (fR T rfl (vV (jL rfl rfl k4) ?_)))|(refine vO (id:=19) 128 [[],[0],[],[],[],[4],[],[6],rM 4 4,rM 2 7,rM 2 8,rN 11] (rM 87 12) [[],[],[87,88],[87,88,89],rM 87 4,rM 87 4,rM 87 6,rM 87 6,rM 87 4,[87,88],[87,88],[]] [(11,3)] cK rfl (by decide +kernel) (fS rfl rfl rfl rfl (by exact cY T rfl rfl rfl) ?_);refine fS rfl rfl rfl rfl (by exact bD T rfl rfl rfl rfl) ?_;refine fS rfl rfl rfl rfl (by exact bD T rfl rfl rfl rfl) ?_;refine fS rfl rfl rfl rfl (by exact cP rfl) ?_;refine fS rfl rfl rfl rfl (by exact cY T rfl rfl rfl) ?_;refine fS rfl rfl rfl rfl (by exact bD T rfl rfl rfl rfl) ?_;refine fS rfl rfl rfl rfl (by exact cY T rfl rfl rfl) ?_;refine fS rfl rfl rfl rfl (by exact bD T rfl rfl rfl rfl) ?_;refine fS rfl rfl rfl rfl (by exact kC (hiy)) ?_;refine fS rfl rfl rfl rfl (by exact kC (hxc)) ?_;refine Q6 rfl rfl rfl rfl (by exact bF T rfl rfl (by decide) (by decide) rfl rfl rfl) rfl ?_;refine zE rfl rfl rfl rfl (aS rfl) (by exact rX T rfl rfl rfl rfl rfl rfl (by omega) (kZ.whole rfl rfl) rfl (by simp;omega) (by simp;omega)) ?_;refine I9 rfl rfl rfl (by exact rfl) ?_;refine fW T rfl (aU T rfl rfl rfl rfl rfl rfl (by decide) rfl ?_))|(refine rg 20 (vV (bP rfl rfl (by omega) (by omega)) (mV ?_)))|refine nZ ?_));all_goals try (exfalso;omega)
      exact ⟨⟨k+1,hlt⟩,by dsimp only;omega,⟨[0,1,2,5],rfl,(by repeat first|exact trivial|refine ⟨rfl,?_⟩),⟨.inr rfl,.inr (aE rfl rfl (eO _)),.inr (by dsimp only;rw [hN,hacl];rfl),.inr (aE rfl (by dsimp only;rw [hN,hW2];exact mN hWl.symm) (bQ _)),trivial⟩,by decide,H7 _⟩⟩
    · rw [if_neg k4,List.append_nil] at hst;cases zb with
      | true=>
        rw [if_pos rfl] at hst;have hW:=hA1 acc (wp,zm,zc);rw [← hst] at hW;have hacl:acc'.length=acc.length+1:=by rw [hst];simp
        generalize wsA acc=A at *
        (repeat' (first|refine wS ?_|refine wK ?_|refine wT ?_|refine wU ?_|(refine rg 16 (mV ?_))|(refine rg 17 (fR T rfl (lW T rfl (bS (by exact bF T rfl rfl (by decide) (by decide) rfl rfl rfl) rfl ?_)));refine gD T rfl rfl rfl rfl rfl rfl (by omega) (kZ.whole rfl rfl) rfl (by simp;omega) (by simp;omega) rfl ?_;refine fW T rfl (aU T rfl rfl rfl rfl rfl rfl (by decide) rfl ?_))|(refine rg 18 (fR T rfl (vV (fB rfl rfl (by omega)) ?_)))|(refine rg 20 (vV (bP rfl rfl (by omega) (by omega)) (mV ?_)))|refine nZ ?_));all_goals try (exfalso;omega)
        exact ⟨⟨k+1,hlt⟩,by dsimp only;omega,⟨[0,1,2,5],rfl,(by repeat first|exact trivial|refine ⟨rfl,?_⟩),⟨.inr rfl,.inr (aE rfl rfl (eO _)),.inr (by dsimp only;rw [hN,hacl];rfl),.inr (aE rfl (by dsimp only;rw [hN,hW];exact mN hal3.symm) (bQ _)),trivial⟩,by decide,H7 _⟩⟩
      | false=>
        rw [if_neg (by simp),List.append_nil] at hst
        subst hst
        (repeat' (first|refine wS ?_|refine wK ?_|refine wU ?_|(refine rg 16 (mV ?_))|(refine rg 18 (fR T rfl (vV (fB rfl rfl (by omega)) ?_)))|(refine rg 20 (vV (bP rfl rfl (by omega) (by omega)) (mV ?_)))|refine nZ ?_));all_goals try (exfalso;omega)
        exact ⟨⟨k+1,hlt⟩,by dsimp only;omega,⟨[0,1,2,3],rfl,(by repeat first|exact trivial|refine ⟨rfl,?_⟩),⟨.inr rfl,.inr (aE rfl rfl (eO _)),.inr (by dsimp only;rw [hN];rfl),.inr (aE rfl (by dsimp only;rw [hN]) (bQ _)),trivial⟩,by decide,H7 _⟩⟩
  · obtain rfl:k=ws.length:=by omega
    have hNA:=SR c s (bs,ws);dsimp only at hNA;rw [hNA];have hnl:=SQ (c:=c) (s:=s) (g:=(bs,ws));dsimp only at hnl;have hno:∀ w,w∈jU c s (bs,ws)→EK c.bs.length bs.length w:=fun w hw=>(IN h.mid hM hgm h.n0 ha hb hw).1;have hoc:=DD (jU c s (bs,ws)) (by omega) (fun w hw=>⟨by have:=(hno w hw).pl;omega,by have:=(hno w hw).cl;omega⟩)
    have hnx:=h.next hM hg ha hb
    dsimp only at hnx;have hol:=tR (jU c s (bs,ws));have hNl:(wsA (jU c s (bs,ws))).length=(jU c s (bs,ws)).length:=eZ _;generalize jU c s (bs,ws)=nw at *
    (repeat' (first|refine wS ?_|refine wE ?_|(refine wC rfl ?_ ?_<;>(intro hb;(try simp only [nm] at hb);try (exfalso;omega)))|(refine rg 13 (vV (aK rfl rfl) ?_))|refine nZ ?_));all_goals try (exfalso;omega)
    refine nT 2 1 (es:=wsA nw) rfl rfl rfl hNl.symm (iG (bQ _)) ?_;generalize fN nw=ow at *;have how:(wsA ow).length=ow.length:=eZ _
    (repeat' (first|refine wS ?_|refine wB ?_|(refine rg 21 (fR T rfl (vV (kC (hoc)) (fW T rfl (aU T rfl rfl rfl rfl rfl rfl (by decide) rfl ?_)))))|refine nZ ?_));all_goals try (exfalso;omega)
    refine gM [(0,.ptr 0 0),(3,.pr (C4 s) 0),(5,.sl 1 0 all.length 2),(8,.i i),(9,.ptr 2 0)] [.cells (kN c l),.arr (kB all) 2,.cells (gA (bs,ow))] ⟨[0,1,2],rfl,(by repeat first|exact trivial|refine ⟨rfl,?_⟩),⟨.inr rfl,.inr (aE rfl rfl (eO _)),.inr rfl,trivial⟩,by decide,H7 _⟩ ?_
    by_cases h0:ow=[]
    · subst h0;rw [if_pos rfl]
      (repeat' (first|refine wS ?_|refine wR ?_|refine wT ?_|(refine rg 22 (fR T rfl (qW T rfl (vV (bW rfl rfl) (aV ?_)))))|(refine rg 23 (aV ?_))|refine nZ ?_));all_goals try (exfalso;omega)
      exact ⟨.inl rfl,[0],_,rfl,rfl,rfl,⟨.inr rfl,trivial⟩,by decide,H7 _⟩
    · rw [if_neg h0];have hop:=eV.2 h0;by_cases h1:1000<ow.length
      · rw [if_pos h1]
        (repeat' (first|refine wS ?_|refine wR ?_|(refine wC rfl ?_ ?_<;>(intro hb;(try simp only [nm] at hb);try (exfalso;omega)))|(refine rg 22 (fR T rfl (qW T rfl (vV (bW rfl rfl) (aV ?_)))))|(refine rg 24 (fR T rfl (qW T rfl (vV (dX rfl rfl) (aV ?_)))))|(refine rg 25 (aV ?_))|refine nZ ?_));all_goals try (exfalso;omega)
        exact ⟨.inl rfl,[0],_,rfl,rfl,rfl,⟨.inr rfl,trivial⟩,by decide,H7 _⟩
      · rw [if_neg h1];obtain ⟨hm1,hasc⟩:=hnx h0 (by omega)
        have hty:=zE5 c l (all.set i (bs,ow)) hm1.out hm1.up hm1.ne;have hset:=I0 (L:=all) (j:=(i:Int)) (i:=i) (x:=(bs,ow)) rfl;have hto:=(HJ hm1.out (c:=c)).len;have hto2:=(HJ hm1.out (c:=c)).ln;have hcf:=zX7 (l:=uD c (all.set i (bs,ow))) (F:=33) (caps:=[]) (p:=fun g=>g.2.isEmpty) (by omega) rfl (fun x hx=>zU7 x)
        have hNl2:all.length=(kB (all.set i (bs,ow))).length:=by rw [kE,gW]
        (repeat' (first|refine wS ?_|refine wK ?_|(refine wC rfl ?_ ?_<;>(intro hb;(try simp only [nm] at hb);try (exfalso;omega)))|(refine rg 22 (fR T rfl (qW T rfl (vV (bW rfl rfl) (aV ?_)))))|(refine rg 24 (fR T rfl (qW T rfl (vV (dX rfl rfl) (aV ?_)))))|(refine rg 26 (dR rfl (lW T rfl (vV (by exact aQ T rfl rfl rfl rfl rfl (by omega) (by omega)) ?_)));refine aU T rfl rfl rfl rfl rfl rfl (by decide) (lQ rfl q1 rfl) ?_)|refine nZ ?_));all_goals try (exfalso;omega)
        generalize all.set i (bs,ow)=N at *;refine gM [(0,.ptr 0 0),(5,.sl 1 0 all.length 2)] [.cells (kN c l),.arr (kB N) 2] ⟨[0,1],rfl,(by repeat first|exact trivial|refine ⟨rfl,?_⟩),⟨.inr rfl,.inr (aE rfl hset (eO _)),trivial⟩,by decide,H7 _⟩ ?_
        refine NK 5 (es:=kB N) rfl rfl hNl2 (iG (eO _)) ?_;generalize uD c N=out at *
        (repeat' (first|refine wS ?_|(refine rg 27 (dR rfl (fO [0] rfl rfl (hty) rfl rfl (by decide) ⟨.inr rfl,trivial⟩ (by simp) rfl ?_));refine aV ?_)|refine nZ ?_));all_goals try (exfalso;omega)
        cases hany:out.any fun g=>g.2.isEmpty with
        | true=>
          rw [hany] at hcf;rw [if_pos rfl]
          (repeat' (first|refine wS ?_|refine wR ?_|refine wT ?_|(refine rg 28 (mW rfl (vV (kC (hcf)) ?_)))|(refine rg 29 (aV ?_))|refine nZ ?_));all_goals try (exfalso;omega)
          exact ⟨.inl rfl,[0],_,rfl,rfl,rfl,⟨.inr rfl,trivial⟩,by decide,H7 _⟩
        | false=>
          rw [hany] at hcf;rw [if_neg (by simp)]
          (repeat' (first|refine wS ?_|refine wK ?_|refine wR ?_|refine wU ?_|(refine rg 28 (mW rfl (vV (kC (hcf)) ?_)))|(refine rg 30 (dR rfl (nV ?_));refine fW T rfl (aU T rfl rfl rfl rfl rfl rfl (by decide) rfl ?_))|(refine rg 31 (aV ?_))|refine nZ ?_));all_goals try (exfalso;omega)
          exact ⟨.inl rfl,[0],_,rfl,rfl,rfl,⟨.inr rfl,trivial⟩,by decide,H7 _⟩
theorem zQ8 (c:Cx) (gs:List G) (s:Ev) (hc:qP c) (h:kQ c gs) (hids:s.ids.length≤9223372036854775807) :
    aP Tryz.prog 8 [.ptr 0 0,yF2 s] [.cells (kN c gs)] (.i (lR c gs s).1) [.cells (kN c (lR c gs s).2)]:=by
  have hn12:=h.mid.n12;obtain ⟨hm0,hm1,_⟩:=hc.s;have hgl:(kB gs).length=gs.length:=kE _;have hgl12:gs.length≤12:=bY h.mid.out.len h.mid.out.ln;have hbl:(dY c.bs).length=c.bs.length:=aX _;have hright:=WF c.bs.length s.k s.a s.b s.n s.ids hids ⟨by omega,by omega⟩
  have hcl:=KE gs (by omega)
  have hst:=uV (s:=s) h (by omega) hm0
  have hjo:=fun (hr:gH c.bs.length s=true) (hk:s.k=4) (all:List G)=>E7 (s:=s) (all:=all) h (by omega) hm0 hm1 hr hk
  unfold lR;generalize hv:gH c.bs.length s=v at *;rw [← hbl] at hright;cases v with
  | false=>
    rw [if_neg (by simp)]
    refine bL T Tryz.func8 rfl rfl rfl rfl ?_
    (repeat' (first|refine wS ?_|(refine rg 0 (bS (bZ rfl rfl) rfl (aV ?_)))|refine nZ ?_));refine eI 3 (cs:=C4 s) rfl rfl rfl ?_
    (repeat' (first|refine wS ?_|refine wR ?_|refine wT ?_|(refine bO (id:=1) 128 yO3 (rM 15 8) yO4 cK rfl (by decide +kernel) (dN rfl (dV rfl (by exact eU rfl rfl) ?_));refine dP T rfl (dO T rfl (dV rfl (lD T rfl rfl) (dO T rfl (dV rfl (kC (hright)) (dV rfl (cT rfl) (dE ?_)))))))|(refine rg 2 (aV ?_))|refine nZ ?_));all_goals try (exfalso;omega)
    exact ⟨.inl rfl,[0],_,rfl,rfl,rfl,⟨.inr rfl,trivial⟩,by decide,H7 _⟩
  | true=>
    rw [if_pos rfl];by_cases k4:s.k=4
    · rw [if_pos k4];obtain ⟨r1,r2,_⟩:=pI hv (by omega)
      have r2:=r2 k4;have fa:=h.mid.find r1;have fb:=h.mid.find (b:=s.b) ⟨by omega,by omega⟩
      cases hj:join gs s.a s.b with
      | none=>
        dsimp only;have hjc:=zK6 gs s.a s.b h.mid.out fa fb hj;refine bL T Tryz.func8 rfl rfl rfl rfl ?_
        (repeat' (first|refine wS ?_|(refine rg 0 (bS (bZ rfl rfl) rfl (aV ?_)))|refine nZ ?_));refine eI 3 (cs:=C4 s) rfl rfl rfl ?_
        (repeat' (first|refine wS ?_|refine wK ?_|refine wU ?_|(refine bO (id:=1) 128 yO3 (rM 15 8) yO4 cK rfl (by decide +kernel) (dN rfl (dV rfl (by exact eU rfl rfl) ?_));refine dP T rfl (dO T rfl (dV rfl (lD T rfl rfl) (dO T rfl (dV rfl (kC (hright)) (dV rfl (cT rfl) (dE ?_)))))))|(refine rg 3 (mW rfl (nV ?_));refine fR T rfl (bS (by exact hO rfl rfl hcl (.inr ⟨rfl,rfl,by simp⟩)) rfl ?_);refine aV ?_)|refine nZ ?_));all_goals try (exfalso;omega)
        refine gM [(0,.ptr 0 0),(3,.pr (C4 s) 0),(5,.sl 1 0 gs.length 2)] [.cells (kN c gs),.arr (kB gs) 2] ⟨[0,2],rfl,(by repeat first|exact trivial|refine ⟨rfl,?_⟩),⟨.inr rfl,.inr (aE rfl (dA _ (eO _)) (eO _)),trivial⟩,by decide,H7 _⟩ ?_
        refine NK 5 (es:=kB gs) rfl rfl hgl.symm (iG (eO _)) ?_
        (repeat' (first|refine wS ?_|refine wR ?_|refine wT ?_|(refine rg 4 (fR T rfl (vV (jL rfl rfl k4) ?_)))|(refine rg 5 (mW rfl (fR T rfl (fR T rfl (vV (kC (hjc)) (mW rfl (xW rfl (xW rfl (lO ?_)))))))))|(refine rg 6 (mW rfl (vV (dI rfl rfl) ?_)))|(refine rg 7 (mW rfl (aV ?_)))|refine nZ ?_));all_goals try (exfalso;omega)
        exact ⟨.inl rfl,[0],_,rfl,rfl,rfl,⟨.inr rfl,trivial⟩,by decide,H7 _⟩
      | some all=>
        dsimp only;have hso:=hjo rfl k4 all hj;refine bL T Tryz.func8 rfl rfl rfl rfl ?_
        (repeat' (first|refine wS ?_|(refine rg 0 (bS (bZ rfl rfl) rfl (aV ?_)))|refine nZ ?_));refine eI 3 (cs:=C4 s) rfl rfl rfl ?_
        (repeat' (first|refine wS ?_|refine wK ?_|refine wU ?_|(refine bO (id:=1) 128 yO3 (rM 15 8) yO4 cK rfl (by decide +kernel) (dN rfl (dV rfl (by exact eU rfl rfl) ?_));refine dP T rfl (dO T rfl (dV rfl (lD T rfl rfl) (dO T rfl (dV rfl (kC (hright)) (dV rfl (cT rfl) (dE ?_)))))))|(refine rg 3 (mW rfl (nV ?_));refine fR T rfl (bS (by exact hO rfl rfl hcl (.inr ⟨rfl,rfl,by simp⟩)) rfl ?_);refine aV ?_)|refine nZ ?_));all_goals try (exfalso;omega)
        refine gM [(0,.ptr 0 0),(3,.pr (C4 s) 0),(5,.sl 1 0 gs.length 2)] [.cells (kN c gs),.arr (kB gs) 2] ⟨[0,2],rfl,(by repeat first|exact trivial|refine ⟨rfl,?_⟩),⟨.inr rfl,.inr (aE rfl (dA _ (eO _)) (eO _)),trivial⟩,by decide,H7 _⟩ ?_
        by_cases hs:nS gs s.a=nS gs s.b
        · have hjc:=zK4 gs s.a s.b h.mid.out fa fb hs;have:all=gs:=by unfold join at hj;dsimp only at hj;rw [if_pos hs] at hj;exact (Option.some.inj hj).symm
          subst this
          (repeat' (first|refine wS ?_|refine wK ?_|refine wT ?_|refine wU ?_|(refine rg 4 (fR T rfl (vV (jL rfl rfl k4) ?_)))|(refine rg 5 (mW rfl (fR T rfl (fR T rfl (fO [1] rfl rfl (hjc) rfl rfl (by decide) ⟨.inr (aE rfl rfl (eO _)),trivial⟩ (by simp) rfl ?_))));refine mW rfl (xW rfl (xW rfl (lO ?_))))|(refine rg 6 (mW rfl (vV (dI rfl rfl) ?_)))|(refine rg 8 (mW rfl (aV ?_)))|refine nZ ?_));all_goals try (exfalso;omega)
          refine gM [(0,.ptr 0 0),(3,.pr (C4 s) 0),(5,.sl 1 0 all.length 2)] [.cells (kN c all),.arr (kB all) 2] ⟨[0,1],rfl,(by repeat first|exact trivial|refine ⟨rfl,?_⟩),⟨.inr rfl,.inr (aE rfl (dA _ (eO _)) (eO _)),trivial⟩,by decide,H7 _⟩ ?_
          exact LS c all all s hc hso (by omega) hids
        · have hjc:=zK5 gs s.a s.b h.mid.out fa fb hj hs;refine NK 5 (es:=kB gs) rfl rfl hgl.symm (iG (eO _)) ?_
          (repeat' (first|refine wS ?_|refine wK ?_|refine wT ?_|refine wU ?_|(refine rg 4 (fR T rfl (vV (jL rfl rfl k4) ?_)))|(refine rg 5 (mW rfl (fR T rfl (fR T rfl (bS (by exact hO rfl rfl hjc (.inr ⟨rfl,rfl,by simp⟩)) rfl ?_))));refine mW rfl (xW rfl (xW rfl (lO ?_))))|(refine rg 6 (mW rfl (vV (dI rfl rfl) ?_)))|(refine rg 8 (mW rfl (aV ?_)))|refine nZ ?_));all_goals try (exfalso;omega)
          refine gM [(0,.ptr 0 0),(3,.pr (C4 s) 0),(5,.sl 1 0 all.length 2)] [.cells (kN c gs),.arr (kB all) 2] ⟨[0,2],rfl,(by repeat first|exact trivial|refine ⟨rfl,?_⟩),⟨.inr rfl,.inr (aE rfl (dA _ (eO _)) (eO _)),trivial⟩,by decide,H7 _⟩ ?_
          exact LS c gs all s hc hso (by omega) hids
    · rw [if_neg k4];refine bL T Tryz.func8 rfl rfl rfl rfl ?_
      (repeat' (first|refine wS ?_|(refine rg 0 (bS (bZ rfl rfl) rfl (aV ?_)))|refine nZ ?_));refine eI 3 (cs:=C4 s) rfl rfl rfl ?_
      (repeat' (first|refine wS ?_|refine wK ?_|refine wU ?_|(refine bO (id:=1) 128 yO3 (rM 15 8) yO4 cK rfl (by decide +kernel) (dN rfl (dV rfl (by exact eU rfl rfl) ?_));refine dP T rfl (dO T rfl (dV rfl (lD T rfl rfl) (dO T rfl (dV rfl (kC (hright)) (dV rfl (cT rfl) (dE ?_)))))))|(refine rg 3 (mW rfl (nV ?_));refine fR T rfl (bS (by exact hO rfl rfl hcl (.inr ⟨rfl,rfl,by simp⟩)) rfl ?_);refine aV ?_)|(refine rg 4 (fR T rfl (vV (fB rfl rfl (by omega)) ?_)))|refine nZ ?_));all_goals try (exfalso;omega)
      refine gM [(0,.ptr 0 0),(3,.pr (C4 s) 0),(5,.sl 1 0 gs.length 2)] [.cells (kN c gs),.arr (kB gs) 2] ⟨[0,2],rfl,(by repeat first|exact trivial|refine ⟨rfl,?_⟩),⟨.inr rfl,.inr (aE rfl (dA _ (eO _)) (eO _)),trivial⟩,by decide,H7 _⟩ ?_
      exact LS c gs gs s hc (hst rfl k4) (by omega) hids
end Go.Proofs.YtojgimibalokkaaGreat
namespace Go.Ld
open Go.Ab Go.Proofs.YtojgimibalokkaaGreat
def Y9 (c:Cx) (i:Nat):G:=([(i:Int)],[([(i:Int)],0,[((c.bs.getD i (0,0,0)).2.1,(c.bs.getD i (0,0,0)).2.1+1)])])
theorem T6 (c:Cx):uG c=(List.range c.bs.length).map (Y9 c):=rfl
theorem AA {α β:Type}(f:α→β):∀ l:List α,(l.flatMap fun x=>[f x])=l.map f
  | []=>rfl
  | x::l=>by rw [bJ,AA f l];rfl
theorem zV5 {c:Cx}(hc:qP c) (hn:c.bs.length≤12) (hm:0≤c.m):kQ c (uG c):=by
  rw [T6];have hmem:∀ g,g∈(List.range c.bs.length).map (Y9 c)→∃ i,i<c.bs.length∧g=Y9 c i:=fun g hg=>by
    obtain ⟨i,hi,e⟩:=bB.1 hg;exact ⟨i,eJ.1 hi,e.symm⟩
  have fl:(((List.range c.bs.length).map (Y9 c)).flatMap (·.1))=nats (List.range c.bs.length):=by
    rw [BL];exact AA _ _
  have fw:(((List.range c.bs.length).map (Y9 c)).flatMap fun g=>(iI g).1)=nats (List.range c.bs.length):=by
    rw [BL];exact AA _ _
  refine ⟨⟨⟨fun g hg=>?_,by rw [fl];exact A0 _,by rw [fl];simpa using hn,fun g hg=>?_⟩,?_,fun g hg=>?_,fun g hg w hw=>?_,by rw [fl],by rw [fw],fun g hg=>?_⟩,fun g hg=>?_,fun g hg=>?_⟩
  · obtain ⟨i,hi,rfl⟩:=hmem g hg;have hb:=hc.f.b i hi;have e:c.bs.getD i (0,0,0)=c.bs[i]:=by rw [aC,aA hi];rfl
    unfold Y9;rw [e];generalize c.bs[i]=x at *;refine ⟨by simp,kA _ _,fun b hb=>by obtain rfl:=bH.1 hb;omega,by simp,fun w hw=>?_,fun w v hw hv=>by obtain rfl:=bH.1 hw;obtain rfl:=bH.1 hv;exact .refl _⟩
    obtain rfl:=bH.1 hw;refine ⟨rfl,rfl,fun b hb=>by obtain rfl:=bH.1 hb;omega,kA _ _,fK _,by dsimp only;omega,fun r hr=>?_⟩
    obtain rfl:=bH.1 hr;unfold LH;dsimp only;omega
  · obtain ⟨i,hi,rfl⟩:=hmem g hg;show 1≤2000;omega
  · refine zV.2 ?_;rw [zD0];show ((List.range c.bs.length).map fun i:Nat=>((i:Int))).Pairwise _;refine zC7.2 ((BZ).imp fun {a b} h=>by omega)
  · obtain ⟨i,hi,rfl⟩:=hmem g hg;unfold Y9;simp
  · obtain ⟨i,hi,rfl⟩:=hmem g hg;obtain rfl:=bH.1 hw;exact hm
  · obtain ⟨i,hi,rfl⟩:=hmem g hg;show 1≤1000;omega
  · obtain ⟨i,hi,rfl⟩:=hmem g hg;unfold gX;rw [if_pos (.inl (by show 1<2;omega))]
  · obtain ⟨i,hi,rfl⟩:=hmem g hg;exact kA _ _
def tD (gs:List G) (b:Int):Option (G × Nat):=match gs.findIdx? fun g=>decide (b∈g.1) with
  | some i=>some (pM gs i,(pM gs i).1.idxOf b)
  | none=>none
theorem nC {gs:List G}{b:Int}{g:G}{i:Nat}(h:tD gs b=some (g,i)):∃ k:Nat,nS gs b=(k:Int)∧gs[k]? = some g∧b∈g.1∧i=g.1.idxOf b:=by
  unfold tD at h;cases hq:gs.findIdx? fun g=>decide (b∈g.1) with
  | none=>rw [hq] at h;cases h
  | some k=>
    rw [hq] at h;dsimp only at h;cases h;obtain ⟨hk,hb,_⟩:=List.findIdx?_eq_some_iff_getElem.1 hq;have e:pM gs k=gs[k]:=by unfold pM;rw [aC,aA hk];rfl
    refine ⟨k,by unfold nS;rw [hq],by rw [e];exact aA hk,by rw [e];simpa using hb,rfl⟩
theorem JI {gs:List G}{b:Int}(h:tD gs b=none):nS gs b = -1:=by
  unfold tD at h;cases hq:gs.findIdx? fun g=>decide (b∈g.1) with
  | none=>unfold nS;rw [hq]
  | some k=>rw [hq] at h;cases h
theorem YL {gs:List G}{b:Int}(h:∃ g,g∈gs∧b∈g.1):∃ g,tD gs b=some (g,g.1.idxOf b)∧g∈gs∧b∈g.1:=by
  cases hq:tD gs b with
  | none=>
    obtain ⟨i,g,h1,_⟩:=jG h;have:=JI hq;omega
  | some x=>
    obtain ⟨g,i⟩:=x;obtain ⟨k,_,h2,h3,rfl⟩:=nC hq;exact ⟨g,rfl,aH h2,h3⟩
end Go.Ld
namespace Go.Proofs.YtojgimibalokkaaGreat
open Go Go.Ab Go.Ld
attribute [local irreducible] VC AW cF aP kG
set_option maxHeartbeats 4000000
theorem FN (c:Cx) (gs:List G) (b:Int) (hl:gs.length≤1000000) (hg:∀ g,g∈gs→g.1.length≤1000000){g:G}{i:Nat}(h:tD gs b=some (g,i)) :
    aP Tryz.prog 49 [.pr (kN c gs) 0,.i b] [] (.tup [UQ g,.i i,.b true]) []:=by
  obtain ⟨k,h1,h2,h3,rfl⟩:=nC h;have hf:=sV gs b hl hg;rw [h1] at hf;have hgl:(kB gs).length=gs.length:=kE _;have hkl:=(aB.1 h2).1;have q:(kB gs)[((k:Int)).toNat]? = some (gA g):=by rw [bR,bN,h2];rfl
  have hix:=pR g.1 b (by have:=hg g (aH h2);omega)
  have hxi:wW g.1 b 0=((g.1.idxOf b:Nat):Int):=by have:=B0 g.1 b 0 h3;simpa using this
  rw [hxi] at hix;generalize g.1.idxOf b=ia at *;obtain ⟨bs,ws⟩:=g;dsimp only at *;refine bL T Tryz.func49 rfl rfl rfl rfl ?_
  (repeat' (first|refine wS ?_|refine wK ?_|refine wR ?_|refine wU ?_|(refine rg 0 (bS (bM T rfl) rfl (lO ?_)))|(refine rg 1 (mW rfl (nV ?_));refine fR T rfl (mW rfl (vV (kC (hf)) (aV ?_))))|(refine rg 2 (mW rfl (vV (aK rfl rfl) ?_)))|(refine sX (id:=4) 17 34 [[],[0],[0,1],[0,1,2],[],rN 5,rN 6,[],[7],[7,8],[7,8,9],[],rM 7 5,rM 7 6,rM 7 7,[],rM 7 9,rN 17,rN 18,rN 19] [[],[0],[0,1],[0,1,2],[],rN 5,rN 6,[],[7],[7,8],[7,8,9],[],rM 7 5,rM 7 6,rM 7 7,[],rM 7 9] (rM 17 17) [[],[],[],[],rM 17 4,[],[],rM 17 7,rM 17 7,rM 17 7,rM 17 7,rM 17 11,rM 17 7,rM 17 7,rM 17 7,rM 17 15,rM 17 7] cK rfl (by decide +kernel) (by decide +kernel) ?_;(dsimp only [List.take,List.drop]);refine dN rfl (dV rfl (by exact eU rfl rfl) ?_);refine dP T rfl (dO T rfl (dN rfl (dV rfl (ix T rfl (by omega) (qJ _) q) (dO T rfl (dN rfl (dV rfl (by exact eU rfl rfl) ?_))))));refine dP T rfl (dO T rfl (dN rfl (dV rfl (ix T rfl (by omega) (qJ _) q) (dP T rfl (dO T rfl (dN rfl (dV rfl (kC (hix)) (dE ?_))))))));refine iD ?_;refine aU T rfl rfl rfl rfl rfl rfl (by decide) rfl (lO ?_))|refine nZ ?_));all_goals try (exfalso;omega)
  all_goals exact ⟨.inl rfl,[],_,rfl,rfl,rfl,trivial,by decide,kP _⟩
theorem YN (c:Cx) (gs:List G) (b:Int) (hl:gs.length≤1000000) (hg:∀ g,g∈gs→g.1.length≤1000000) (h:tD gs b=none) :
    aP Tryz.prog 49 [.pr (kN c gs) 0,.i b] [] (.tup [.agg [.nils,.nils],.i 0,.b false]) []:=by
  have h1:=JI h;have hf:=sV gs b hl hg;rw [h1] at hf;refine bL T Tryz.func49 rfl rfl rfl rfl ?_
  (repeat' (first|refine wS ?_|refine wR ?_|refine wT ?_|(refine rg 0 (bS (bM T rfl) rfl (lO ?_)))|(refine rg 1 (mW rfl (nV ?_));refine fR T rfl (mW rfl (vV (kC (hf)) (aV ?_))))|(refine rg 2 (mW rfl (vV (aK rfl rfl) ?_)))|(refine rg 3 (vV (by exact gG T rfl rfl rfl rfl) ?_);refine aU T rfl rfl rfl rfl rfl rfl (by decide) rfl (lO ?_))|refine nZ ?_));all_goals try (exfalso;omega)
  all_goals exact ⟨.inl rfl,[],_,rfl,rfl,rfl,trivial,by decide,kP _⟩
end Go.Proofs.YtojgimibalokkaaGreat
namespace Go.Ld
open Go.Ab Go.Proofs.YtojgimibalokkaaGreat
def H9 (g:G) (i:Nat):List Int:=g.2.map fun w=>gP w i
theorem TK {g:G}{i k:Nat}(h:k<g.2.length):(H9 g i).take (k+1)=(H9 g i).take k++[gP g.2[k] i]:=by
  unfold H9;rw [← jO,← jO,aM h,dJ];rfl
end Go.Ld
namespace Go.Proofs.YtojgimibalokkaaGreat
open Go Go.Ab Go.Ld
attribute [local irreducible] VC AW cF aP kG
set_option maxHeartbeats 4000000
abbrev yK2 (l:List Int):Prop:=l.Pairwise (· < ·)
theorem zA1 {G l:List Int}{m:Nat}(hg:G.length≤m) (hm:m<l.length):(ints (G++l.drop G.length))[0+(m:Int).toNat]? = some [AV.i l[m]]:=by
  rw [Nat.zero_add,bR,bN,aD hg,eE,show G.length+(m-G.length)=m by omega,aA hm];rfl
theorem zF9 {G l:List Int}{x:Int}(hg:G.length<l.length):(ints (G++l.drop G.length)).set (0+(G.length:Int).toNat) [AV.i x]=ints ((G++[x])++l.drop (G++[x]).length):=by
  rw [Nat.zero_add,bR,← rH,kS _ _ (aT _),fC,bC hg,List.set_cons_zero];simp
theorem OT {G l:List Int}(hg:G.length≤l.length):(ints (G++l.drop G.length)).length=l.length:=by simp;omega
theorem VJ {G l:List Int}:(ints (G++l.drop G.length)).take (0+(G.length:Int).toNat)=ints G:=by
  rw [Nat.zero_add,bR,← jO,List.take_append_of_le_length (aT _),cD (aT _)]
def jI (l:List Int):Nat→List Int
  | 0=>[]
  | m+1=>if 0<m∧l.getD m 0=l.getD (m-1) 0 then jI l m else jI l m++[l.getD m 0]
def AP (l:List Int):List Int:=jI l l.length
theorem J2 {l:List Int}{m:Nat}(h:0<m) (e:l.getD m 0=l.getD (m-1) 0):jI l (m+1)=jI l m:=by
  unfold jI;rw [if_pos ⟨h,e⟩];cases m <;> rfl
theorem JY {l:List Int}{m:Nat}(e:l.getD m 0≠l.getD (m-1) 0):jI l (m+1)=jI l m++[l.getD m 0]:=by
  unfold jI;rw [if_neg (fun q=>e q.2)];cases m <;> rfl
theorem JX (l:List Int):jI l 1=[l.getD 0 0]:=by
  unfold jI;rw [if_neg (fun q=>yJ1 _ q.1)];rfl
theorem qQ {l:List Int}{m:Nat}(h:m<l.length):l.getD m 0=l[m]:=by rw [aC,aA h];rfl
theorem QK {G l:List Int}{m:Nat}{i:Nat}(hg:G.length≤m) (hm:m<l.length) (hi:i=m):(ints (G++l.drop G.length))[i]? = some [AV.i (l.getD m 0)]:=by
  have:=zA1 hg hm;rw [Nat.zero_add,bR] at this;rw [hi,this,qQ hm]
theorem QL {l:List Int}{m i:Nat}(hm:m<l.length) (hi:i=m):(ints l)[i]? = some [AV.i (l.getD m 0)]:=by
  rw [hi,iQ hm,qQ hm]
theorem UD (l:List Int) (hl:l.length≤1000000):aP Tryz.prog 84 [.sl 0 0 l.length 1] [.arr (ints l) 1] (.sl 0 0 (AP l).length 1) [.arr (ints (AP l)) 1]:=by
  have hll:(ints l).length=l.length:=by simp
  refine bL T Tryz.func84 rfl rfl rfl rfl ?_;by_cases h2:l.length<2
  · have hk:AP l=l:=by
      match l,h2 with
      | [],_=>rfl
      | [a],_=>exact JX _
      | _::_::_,h=>exact absurd h (by simp)
    rw [hk]
    (repeat' (first|refine wS ?_|refine wR ?_|(refine wC rfl ?_ ?_<;>(intro hb;(try simp only [nm] at hb);try (exfalso;omega)))|(refine rg 0 (aV ?_))|(refine rg 1 (mW rfl (qW T rfl (vV (aK rfl rfl) ?_))))|(refine rg 2 (mW rfl (aV ?_)))|refine nZ ?_));all_goals first | (exfalso;omega) | exact ⟨.inl rfl,[0],_,rfl,rfl,rfl,⟨.inr (aE rfl rfl (cJ _)),trivial⟩,by decide,FJ⟩
  · (repeat' (first|refine wS ?_|refine wB ?_|refine wK ?_|(refine wC rfl (fun hb=>?_) (fun hb=>?_) <;> (((try simp only [nm] at hb);try (exfalso;omega))))|(refine rg 0 (aV ?_))|(refine rg 1 (mW rfl (qW T rfl (vV (aK rfl rfl) ?_))))|(refine rg 3 (aV ?_))|(refine nZ ?_)));all_goals try (exfalso;omega)
    refine cX (X:={k:Nat // 1≤k∧k≤l.length∧jI l k=l.take k}) (fun k=>[(0,.sl 0 0 l.length 1),(3,.i k.1)]) (fun _=>[.arr (ints l) 1]) (fun k=>l.length-k.1) ⟨1,by omega,by omega,by rw [JX,qQ (by omega),aM (by omega)];rfl⟩ ⟨[0],rfl,by (repeat (first | exact trivial | refine ⟨rfl,?_⟩)),⟨.inr (aE rfl rfl (cJ _)),trivial⟩,by decide,FJ⟩ ?_
    rintro ⟨k,hk1,hk,hkc⟩;dsimp only;by_cases hlt:k<l.length
    · have e1:=QL (i:=0+(k:Int).toNat) hlt (by omega)
      have e2:=QL (l:=l) (m:=k-1) (i:=0+((k:Int)-1).toNat) (by omega) (by omega)
      by_cases hd:l.getD k 0=l.getD (k-1) 0
      · have hc1:=J2 (l:=l) hk1 hd;rw [hkc] at hc1;generalize l.getD k 0=a at *;generalize l.getD (k-1) 0=b at *
        (repeat' (first|refine wS ?_|refine wB ?_|refine wK ?_|refine wT ?_|(refine wC rfl ?_ ?_<;>(intro hb;(try simp only [nm] at hb);try (exfalso;omega)))|(refine rg 4 (dR rfl (qW T rfl (vV (aK rfl rfl) ?_))))|(refine bO (id:=6) 61 yO5 (rM 16 10) yO6 cK rfl (by decide +kernel) (dN rfl (dN rfl (dV rfl (by exact aQ T rfl rfl rfl rfl rfl (by omega) (by omega)) ?_)));refine dV rfl (by exact bD T rfl rfl (bV rfl e1) rfl) ?_;refine dN rfl (dN rfl (dV rfl (cH rfl rfl (by omega) (by omega)) (dV rfl (by exact aQ T rfl rfl rfl rfl rfl (by omega) (by omega)) ?_)));refine dV rfl (by exact bD T rfl rfl (bV rfl e2) rfl) ?_;refine dV rfl (jL rfl rfl (by omega)) (dE ?_))|(refine rg 7 (dR rfl (vV (by exact kO T rfl rfl rfl rfl rfl rfl (by omega) (by omega) (by omega)) ?_));refine aV ?_)|(refine rg 8 (aV ?_))|refine nZ ?_));all_goals try (exfalso;omega)
        have hl1:(jI l (k+1)).length=k:=by rw [hc1];simp;omega
        refine cX (X:={j:Nat // 1≤j∧k+j≤l.length∧(jI l (k+j)).length+1≤k+j}) (fun j=>[(0,.sl 0 0 l.length 1),(3,.i (jI l (k+j.1)).length),(4,.sl 0 (0+(k:Int).toNat) ((l.length:Int)-(k:Int)).toNat 1),(5,.i j.1)]) (fun j=>[.arr (ints (jI l (k+j.1)++l.drop (jI l (k+j.1)).length)) 1]) (fun j=>l.length-(k+j.1)) ⟨1,by omega,by omega,by omega⟩ ⟨[0],rfl,⟨rfl,by dsimp only;rw [hl1];rfl,rfl,rfl,trivial⟩,⟨.inr (aE rfl (by dsimp only;rw [hl1,hc1,bX]) (cJ _)),trivial⟩,by decide,FJ⟩ ?_
        clear e1 e2 hd hl1 hc1;rintro ⟨j,hj1,hj,hjc⟩;dsimp only;by_cases hjl:k+j<l.length
        · have e1:=QK (G:=jI l (k+j)) (l:=l) (m:=k+j) (i:=0+(k:Int).toNat+(j:Int).toNat) (by omega) hjl (by omega)
          have e2:=QK (G:=jI l (k+j)) (l:=l) (m:=k+j-1) (i:=0+(k:Int).toNat+((j:Int)-1).toNat) (by omega) (by omega) (by omega)
          have e3:=zA1 (G:=jI l (k+j)) (l:=l) (aT _) (by omega)
          have hset:=zF9 (G:=jI l (k+j)) (l:=l) (x:=l.getD (k+j) 0) (by omega)
          have hal:=OT (G:=jI l (k+j)) (l:=l) (by omega)
          have hdup:=J2 (l:=l) (m:=k+j) (by omega)
          have hnew:=JY (l:=l) (m:=k+j);have hnl:∀ G:List Int,(G++[l.getD (k+j) 0]).length=G.length+1:=fun G=>by simp
          rw [show k+j+1=k+(j+1) by omega] at hdup hnew
          generalize l.getD (k+j) 0=a at *;generalize l.getD (k+j-1) 0=b at *;generalize l[(jI l (k+j)).length]=y at *;generalize jI l (k+j)=G at *;by_cases hd:a=b
          · have hdup:=hdup hd;generalize hA:ints (G++l.drop G.length)=A at *
            (repeat' (first|refine wS ?_|refine wB ?_|refine wK ?_|refine wU ?_|(refine wC rfl ?_ ?_<;>(intro hb;(try simp only [nm] at hb);try (exfalso;omega)))|(refine rg 9 (dR rfl (qW T rfl (vV (aK rfl rfl) ?_))))|(refine bO (id:=11) 61 yO5 (rM 35 10) yO7 cK rfl (by decide +kernel) (dN rfl (dN rfl (dV rfl (by exact aQ T rfl rfl rfl rfl rfl (by omega) (by omega)) ?_)));refine dV rfl (by exact bD T rfl rfl (bV rfl e1) rfl) ?_;refine dN rfl (dN rfl (dV rfl (cH rfl rfl (by omega) (by omega)) (dV rfl (by exact aQ T rfl rfl rfl rfl rfl (by omega) (by omega)) ?_)));refine dV rfl (by exact bD T rfl rfl (bV rfl e2) rfl) ?_;refine dV rfl (I3 rfl rfl (by omega)) (dE ?_))|(refine iA 10 rfl rfl rfl (by omega) (by omega) ?_)|refine nZ ?_));all_goals try (exfalso;omega)
            all_goals exact ⟨⟨j+1,by omega,by omega,by rw [hdup];omega⟩,by dsimp only;omega,[0],rfl,⟨rfl,by dsimp only;rw [hdup];rfl,rfl,rfl,trivial⟩,⟨.inr (aE rfl (by dsimp only;rw [hdup];exact hA.symm) (cJ _)),trivial⟩,by decide,FJ⟩
          · have hnew:=hnew hd;have hgl:=hnl G;generalize hA:ints (G++l.drop G.length)=A at *
            (repeat' (first|refine wS ?_|refine wB ?_|refine wK ?_|refine wT ?_|(refine wC rfl ?_ ?_<;>(intro hb;(try simp only [nm] at hb);try (exfalso;omega)))|(refine rg 9 (dR rfl (qW T rfl (vV (aK rfl rfl) ?_))))|(refine bO (id:=11) 61 yO5 (rM 35 10) yO7 cK rfl (by decide +kernel) (dN rfl (dN rfl (dV rfl (by exact aQ T rfl rfl rfl rfl rfl (by omega) (by omega)) ?_)));refine dV rfl (by exact bD T rfl rfl (bV rfl e1) rfl) ?_;refine dN rfl (dN rfl (dV rfl (cH rfl rfl (by omega) (by omega)) (dV rfl (by exact aQ T rfl rfl rfl rfl rfl (by omega) (by omega)) ?_)));refine dV rfl (by exact bD T rfl rfl (bV rfl e2) rfl) ?_;refine dV rfl (T8 rfl rfl (by omega)) (dE ?_))|(refine rg 12 (dR rfl (dR rfl (vV (by exact aQ T rfl rfl rfl rfl rfl (by omega) (by omega)) ?_)));refine vV (by exact bD T rfl rfl (bV rfl e1) rfl) ?_;refine vV (by exact aQ T rfl rfl rfl rfl rfl (by omega) (by omega)) ?_;refine aU T rfl rfl rfl rfl rfl rfl (by decide) (lQ rfl e3 rfl) ?_)|(refine iA 13 rfl rfl rfl (by omega) (by omega) ?_)|(refine iA 10 rfl rfl rfl (by omega) (by omega) ?_)|refine nZ ?_));all_goals try (exfalso;omega)
            all_goals exact ⟨⟨j+1,by omega,by omega,by rw [hnew];omega⟩,by dsimp only;omega,[0],rfl,⟨rfl,by dsimp only;rw [hnew,hgl];rfl,rfl,rfl,trivial⟩,⟨.inr (aE rfl (by dsimp only;rw [hnew];exact hset) (cJ _)),trivial⟩,by decide,FJ⟩
        · have hkj:k+j=l.length:=by omega
          have hcm:AP l=jI l (k+j):=by rw [hkj];rfl
          have hal:=OT (G:=jI l (k+j)) (l:=l) (by omega)
          have htk:=VJ (G:=jI l (k+j)) (l:=l);rw [hcm];generalize jI l (k+j)=G at *
          (repeat' (first|refine wS ?_|refine wR ?_|refine wE ?_|(refine wC rfl ?_ ?_<;>(intro hb;(try simp only [nm] at hb);try (exfalso;omega)))|(refine rg 9 (dR rfl (qW T rfl (vV (aK rfl rfl) ?_))))|(refine rg 14 (dR rfl (vV (by exact kO T rfl rfl rfl rfl rfl rfl (by omega) (by omega) (by omega)) ?_));refine VA T rfl rfl rfl rfl rfl (by rw [hal];omega) ?_)|(refine rg 15 (dR rfl (vV (by exact kO T rfl rfl rfl rfl rfl rfl (by omega) (by omega) (by omega)) ?_));refine aV ?_)|refine nZ ?_));all_goals try (exfalso;omega)
          all_goals exact ⟨.inl rfl,[0],_,rfl,(by show AV.sl 0 0 ((G.length:Int)-0).toNat 1=AV.sl 0 0 G.length 1;rw [show ((G.length:Int)-0).toNat=G.length by omega]),rfl,⟨.inr (aE rfl htk (cJ _)),trivial⟩,by decide,FJ⟩
      · have hnew:=JY (l:=l) hd;rw [hkc,qQ hlt,← aM hlt] at hnew;generalize l.getD k 0=a at *;generalize l.getD (k-1) 0=b at *
        (repeat' (first|refine wS ?_|refine wB ?_|refine wK ?_|refine wU ?_|(refine wC rfl ?_ ?_<;>(intro hb;(try simp only [nm] at hb);try (exfalso;omega)))|(refine rg 4 (dR rfl (qW T rfl (vV (aK rfl rfl) ?_))))|(refine bO (id:=6) 61 yO5 (rM 16 10) yO6 cK rfl (by decide +kernel) (dN rfl (dN rfl (dV rfl (by exact aQ T rfl rfl rfl rfl rfl (by omega) (by omega)) ?_)));refine dV rfl (by exact bD T rfl rfl (bV rfl e1) rfl) ?_;refine dN rfl (dN rfl (dV rfl (cH rfl rfl (by omega) (by omega)) (dV rfl (by exact aQ T rfl rfl rfl rfl rfl (by omega) (by omega)) ?_)));refine dV rfl (by exact bD T rfl rfl (bV rfl e2) rfl) ?_;refine dV rfl (fB rfl rfl (by omega)) (dE ?_))|(refine iA 5 rfl rfl rfl (by omega) (by omega) ?_)|refine nZ ?_));all_goals try (exfalso;omega)
        all_goals exact ⟨⟨k+1,by omega,hlt,hnew⟩,by dsimp only;omega,[0],rfl,by (repeat (first | exact trivial | refine ⟨rfl,?_⟩)),⟨.inr (aE rfl rfl (cJ _)),trivial⟩,by decide,FJ⟩
    · obtain rfl:k=l.length:=by omega
      have hcm:AP l=l:=by
        show jI l l.length=l;rw [hkc,cQ]
      rw [hcm]
      (repeat' (first|refine wS ?_|refine wR ?_|refine wE ?_|(refine wC rfl ?_ ?_<;>(intro hb;(try simp only [nm] at hb);try (exfalso;omega)))|(refine rg 4 (dR rfl (qW T rfl (vV (aK rfl rfl) ?_))))|(refine rg 16 (mW rfl (aV ?_)))|refine nZ ?_));all_goals first | (exfalso;omega) | exact ⟨.inl rfl,[0],_,rfl,rfl,rfl,⟨.inr (aE rfl rfl (cJ _)),trivial⟩,by decide,FJ⟩
theorem AO (l:List Int) (x:Int):∀ m,m≤l.length→(x∈jI l m↔x∈l.take m)
  | 0,_=>by simp [jI]
  | m+1,hm=>by
    have ih:=AO l x m (by omega)
    rw [aM (by omega)]
    by_cases e:0<m∧l.getD m 0=l.getD (m-1) 0
    · rw [J2 e.1 e.2,ih,bG,bH];refine ⟨.inl,fun h=>h.elim id fun h=>?_⟩
      have e2:=e.2;rw [qQ (by omega),qQ (by omega)] at e2
      rw [h,e2];exact O6.2 ⟨m-1,by omega,rfl⟩
    · have:jI l (m+1)=jI l m++[l.getD m 0]:=by
        unfold jI;rw [if_neg e];cases m <;> rfl
      rw [this,bG,bG,ih,qQ (by omega)]
theorem JZ {l:List Int}(hs:l.Pairwise (·≤·)):∀ m,m≤l.length→yK2 (jI l m)
  | 0,_=>List.Pairwise.nil
  | m+1,hm=>by
    have ih:=JZ hs m (by omega)
    by_cases e:0<m∧l.getD m 0=l.getD (m-1) 0
    · rw [J2 e.1 e.2];exact ih
    · have:jI l (m+1)=jI l m++[l.getD m 0]:=by
        unfold jI;rw [if_neg e];cases m <;> rfl
      rw [this];refine eW.2 ⟨ih,kA _ _,fun x hx y hy=>?_⟩
      rw [bH] at hy;rw [AO l x m (by omega)] at hx
      obtain ⟨i,hi,rfl⟩:=O6.1 hx;have him:i<m:=by omega
      rw [hy,qQ (by omega)]
      have h1:l[m-1]≤l[m]:=jF.1 hs (m-1) m _ _ (by omega)
      have h2:l[i]≤l[m-1]:=by
        by_cases ei:i=m-1
        · subst ei;exact fK _
        · exact jF.1 hs i (m-1) _ _ (by omega)
      have h3:l[m]≠l[m-1]:=fun q=>e ⟨by omega,by rw [qQ (by omega),qQ (by omega)];exact q⟩
      omega
abbrev qC (g:G) (i:Nat):List Int:=AP (jJ (H9 g i))
theorem zU9 (c:Cx) (gs:List G) (b:Int) (h:kQ c gs){g:G}{i:Nat}(hg:tD gs b=some (g,i)) :
    aP Tryz.prog 40 [.pr (kN c gs) 0,.i b] [] (.sl 0 0 (qC g i).length 1) [.arr (ints (qC g i)) 1]:=by
  unfold qC;obtain ⟨k0,h1,h2,h3,h4⟩:=nC hg;have hgm:=aH h2;have og:=h.mid.out.ok g hgm;have hwl:=h.mid.wl g hgm;have hl12:gs.length≤12:=bY h.mid.out.len h.mid.out.ln;have hgr:=FN c gs b (by omega) (fun x hx=>by have:=(h.mid.out.ok x hx).ln;omega) hg
  have hi:i<g.1.length:=by rw [h4];exact gR h3
  have hln:=og.ln;have hil:(H9 g i).length=g.2.length:=aX _;have htk:∀ k (h:k<g.2.length),_:=fun k h=>TK (g:=g) (i:=i) h;have hwg:∀ k (h:k<g.2.length),(ints g.2[k].1)[((i:Int)).toNat]? = some [.i (gP g.2[k] i)]∧(ints g.2[k].1).length=g.1.length:=fun k h=>by
    have:=(og.ws _ (aI h)).pl;exact ⟨nK 0 (by omega) rfl,by rw [dH];exact this⟩
  have hs1:=VU (H9 g i) (by omega)
  have hsl:=wI (H9 g i);have hs2:=UD (jJ (H9 g i)) (by omega)
  rw [hsl] at hs2;obtain ⟨bs,ws⟩:=g;dsimp only at *;generalize H9 (bs,ws) i=P at *;have hwsl:(wsA ws).length=ws.length:=eZ _;refine bL T Tryz.func40 rfl rfl rfl rfl ?_
  (repeat' (first|refine wS ?_|(refine rg 0 (aV ?_))|(refine rg 1 (dR rfl (vV (kC (hgr)) (mW rfl (xW rfl (xW rfl (xW rfl (bS (bM T rfl) rfl (aU T rfl rfl rfl rfl rfl rfl (by decide) rfl (lO ?_))))))))))|refine nZ ?_));all_goals try (exfalso;omega)
  refine eI 5 (cs:=gA (bs,ws)) rfl rfl rfl ?_
  (repeat' (first|refine wS ?_|(refine rg 2 (vV (dS rfl) (rY 8 1 rfl (by decide) ?_)))|refine nZ ?_));all_goals try (exfalso;omega)
  (repeat' (first|refine wB ?_|(refine rg 3 (fR T rfl (qW T rfl (mV ?_))))|refine nZ ?_));all_goals try (exfalso;omega)
  refine cX (X:={k:Nat // k≤ws.length}) (fun k=>[(6,.i i),(8,.sl 0 0 k.1 1),(19,.rowE (wsA ws) 3),(20,.i (wsA ws).length),(21,.i k.1)]) (fun k=>[.arr (ints (P.take k.1)) 1]) (fun k=>ws.length-k.1) ⟨0,cC _⟩ ⟨[1],rfl,(by repeat first|exact trivial|refine ⟨rfl,?_⟩),⟨.inr rfl,trivial⟩,by decide,kP _⟩ ?_
  rintro ⟨k,hk⟩;dsimp only;by_cases hlt:k<ws.length
  · have hgk:=tJ hlt;obtain ⟨q1,q2⟩:=hwg k hlt;have q3:=htk k hlt;have q4:(ints (P.take k)).length=k:=by rw [dH,bE];omega
    have q5:ints (P.take (k+1))=ints (P.take k)++[[.i (gP ws[k] i)]]:=by rw [q3,M9]
    generalize ints (P.take k)=A at *;generalize gP ws[k] i=v at *;generalize ws[k]=w at *;obtain ⟨wp,wm,wc⟩:=w;dsimp only at *
    (repeat' (first|refine wS ?_|refine wB ?_|refine wK ?_|(refine wC rfl ?_ ?_<;>(intro hb;(try simp only [nm] at hb);try (exfalso;omega)))|(refine rg 4 (vV (aK rfl rfl) ?_))|(refine rg 5 (vV (ix T rfl (by omega) (nH _) hgk) (lW T rfl (bS (bM T rfl) rfl (aU T rfl rfl rfl rfl rfl rfl (by decide) rfl ?_)))))|(refine rg 6 (mW rfl (fR T rfl (mW rfl (vV (ix T rfl (by omega) (ints_len _) q1) (lW T rfl (bS (by exact bF T rfl rfl (by decide) (by decide) rfl rfl rfl) rfl ?_))))));refine gD T rfl rfl rfl rfl rfl rfl (by omega) (kZ.whole rfl rfl) rfl (by simp;omega) (by simp;omega) rfl ?_;refine aV ?_)|(refine rg 7 (vV (bP rfl rfl (by omega) (by omega)) (mV ?_)))|refine nZ ?_));all_goals try (exfalso;omega)
    exact ⟨⟨k+1,hlt⟩,by dsimp only;omega,⟨[3],rfl,(by repeat first|exact trivial|refine ⟨rfl,?_⟩),⟨.inr (aE rfl (by dsimp only;rw [q5];exact mN q4.symm) (cJ _)),trivial⟩,by decide,kP _⟩⟩
  · obtain rfl:k=ws.length:=by omega
    rw [show P.take ws.length=P by rw [← hil,cQ]]
    rw [← hil] at *
    (repeat' (first|refine wS ?_|refine wR ?_|refine wE ?_|(refine wC rfl ?_ ?_<;>(intro hb;(try simp only [nm] at hb);try (exfalso;omega)))|(refine rg 4 (vV (aK rfl rfl) ?_))|(refine rg 8 (mW rfl (fO [0] rfl rfl (hs1) rfl rfl (by decide) ⟨.inr (aE rfl rfl (cJ _)),trivial⟩ (by simp) rfl ?_)))|(refine rg 9 (mW rfl (fO [0] rfl rfl (hs2) rfl rfl (by decide) ⟨.inr (aE rfl (dA _ (cJ _)) (cJ _)),trivial⟩ (by simp) rfl ?_));refine aV ?_)|refine nZ ?_));all_goals try (exfalso;omega)
    exact ⟨.inl rfl,[0],_,rfl,rfl,rfl,⟨.inr (aE rfl (dA _ (cJ _)) (cJ _)),trivial⟩,by decide,kP _⟩
end Go.Proofs.YtojgimibalokkaaGreat
namespace Go.Ld
open Go.Ab Go.Proofs.YtojgimibalokkaaGreat
def YH (a b:SP):SP:=(min a.1 b.1,max a.2 b.2)
def RY (g:G) (i k:Nat):SP:=(g.2.take k).foldl (fun r w=>YH r (gC w i)) (gC (iI g) i)
def zG4 (g:G) (i:Nat):SP:=RY g i g.2.length
theorem RX {g:G}{i k:Nat}(h:k<g.2.length):RY g i (k+1)=YH (RY g i k) (gC g.2[k] i):=by
  unfold RY;rw [aM h,vR];rfl
def YG (l:List Int):Int × Bool:=if l.length=1 then (l.getD 0 0,true) else (0,false)
end Go.Ld
namespace Go.Proofs.YtojgimibalokkaaGreat
open Go Go.Ab Go.Ld
attribute [local irreducible] VC AW cF aP kG
set_option maxHeartbeats 4000000
theorem YO (c:Cx) (gs:List G) (b:Int) (h:kQ c gs){g:G}{i:Nat}(hg:tD gs b=some (g,i)) :
    aP Tryz.prog 21 [.pr (kN c gs) 0,.i b] [] (.sl 0 0 g.1.length 1) [.arr (ints g.1) 1]:=by
  obtain ⟨k0,h1,h2,h3,h4⟩:=nC hg;have hl12:gs.length≤12:=bY h.mid.out.len h.mid.out.ln;have hln:=(h.mid.out.ok g (aH h2)).ln;have hgr:=FN c gs b (by omega) (fun x hx=>by have:=(h.mid.out.ok x hx).ln;omega) hg
  have hcl:=J4 g.1 (by omega)
  obtain ⟨bs,ws⟩:=g;dsimp only at *;refine bL T Tryz.func21 rfl rfl rfl rfl ?_
  (repeat' (first|refine wS ?_|refine wR ?_|(refine rg 0 (aV ?_))|(refine rg 1 (dR rfl (vV (kC (hgr)) (mW rfl (xW rfl (xW rfl (xW rfl (bS (bM T rfl) rfl (aU T rfl rfl rfl rfl rfl rfl (by decide) rfl (lO ?_))))))))))|(refine rg 2 (fR T rfl (bS (by exact hO rfl rfl hcl (.inr ⟨rfl,rfl,by simp⟩)) rfl ?_));refine aV ?_)|refine nZ ?_));all_goals try (exfalso;omega)
  exact ⟨.inl rfl,[1],_,rfl,rfl,rfl,⟨.inr (aE rfl (dA _ (cJ _)) (cJ _)),trivial⟩,by decide,kP _⟩
theorem MO (c:Cx) (gs:List G) (b:Int) (h:kQ c gs){g:G}{i:Nat}(hg:tD gs b=some (g,i)) :
    aP Tryz.prog 11 [.pr (kN c gs) 0,.i b] [] (.tup [.i (YG (qC g i)).1,.b (YG (qC g i)).2]) []:=by
  have hp:=zU9 c gs b h hg;generalize qC g i=P at *;have hl:(ints P).length=P.length:=dH _;unfold YG;by_cases h1:P.length=1
  · rw [if_pos h1];have q:=H8 (l:=P) (j:=(0:Int)) (i:=0) 0 (by omega) rfl
    refine bL T Tryz.func11 rfl rfl rfl rfl ?_
    (repeat' (first|refine wS ?_|refine wK ?_|(refine wC rfl ?_ ?_<;>(intro hb;(try simp only [nm] at hb);try (exfalso;omega)))|(refine rg 0 (lO ?_))|(refine rg 1 (dR rfl (bS (by exact hO rfl rfl hp (.inr ⟨rfl,rfl,by simp⟩)) rfl ?_));refine aV ?_)|(refine rg 2 (mW rfl (qW T rfl (vV (dI rfl rfl) ?_))))|refine nZ ?_));all_goals try (exfalso;omega)
    refine gM [(6,.sl 0 0 P.length 1)] [.arr (ints P) 1] ⟨[0],rfl,(by repeat first|exact trivial|refine ⟨rfl,?_⟩),⟨.inr (aE rfl (dA _ (cJ _)) (cJ _)),trivial⟩,by decide,kP _⟩ ?_
    (repeat' (first|refine wR ?_|(refine rg 4 (mW rfl (vV (by exact aQ T rfl rfl rfl rfl rfl (by omega) (by omega)) ?_));refine vV (by exact bD T rfl rfl (bV rfl q) rfl) ?_;refine lO ?_)|refine nZ ?_));all_goals try (exfalso;omega)
    all_goals exact ⟨.inl rfl,[],_,rfl,rfl,rfl,trivial,by decide,kP _⟩
  · rw [if_neg h1];refine bL T Tryz.func11 rfl rfl rfl rfl ?_
    (repeat' (first|refine wS ?_|refine wR ?_|(refine wC rfl ?_ ?_<;>(intro hb;(try simp only [nm] at hb);try (exfalso;omega)))|(refine rg 0 (lO ?_))|(refine rg 1 (dR rfl (bS (by exact hO rfl rfl hp (.inr ⟨rfl,rfl,by simp⟩)) rfl ?_));refine aV ?_)|(refine rg 2 (mW rfl (qW T rfl (vV (dI rfl rfl) ?_))))|(refine rg 3 (lO ?_))|refine nZ ?_));all_goals try (exfalso;omega)
    all_goals exact rQ
end Go.Proofs.YtojgimibalokkaaGreat
namespace Go.Ld
open Go.Ab Go.Proofs.YtojgimibalokkaaGreat
def M1 (g:G) (p q:List Int) (w:W) (i:Nat):Bool:=decide (gP w i=p.getD (g.1.getD i 0).toNat 0)&&vH (gC w i).1 (gC w i).2 (q.getD (p.getD (g.1.getD i 0).toNat 0).toNat 0)
def AE (g:G) (p q:List Int) (w:W):Bool:=(List.range g.1.length).all (M1 g p q w)
end Go.Ld
namespace Go.Proofs.YtojgimibalokkaaGreat
open Go Go.Ab Go.Ld
attribute [local irreducible] VC AW cF aP kG
set_option maxHeartbeats 4000000
end Go.Proofs.YtojgimibalokkaaGreat
namespace Go.Ld
open Go.Ab Go.Proofs.YtojgimibalokkaaGreat
def ZS (g:G) (p q:List Int) (m:Int) (w:W):Int:=if AE g p q w&&(decide (m<0)||decide (w.2.1<m)) then w.2.1 else m
def R0 (g:G) (p q:List Int) (k:Nat):Int:=(g.2.take k).foldl (ZS g p q) (-1)
def D5 (g:G) (p q:List Int):Int:=R0 g p q g.2.length
theorem NI {g:G}{p q:List Int}{k:Nat}(h:k<g.2.length):R0 g p q (k+1)=ZS g p q (R0 g p q k) g.2[k]:=by
  unfold R0;rw [aM h,vR];rfl
def zU1 (gs:List G) (p q:List Int) (k:Nat):Int:=((gs.take k).map fun g=>D5 g p q).sum
def zS2 (c:Cx) (gs:List G) (p q:List Int):Bool:=
  decide (p.length=c.bs.length)&&decide (q.length=p.length)&&Go.Pm.permB p&&gs.all (fun g=>decide (0≤D5 g p q))&&decide (zU1 gs p q gs.length≤c.m)
end Go.Ld
namespace Go.Proofs.YtojgimibalokkaaGreat
open Go Go.Ab Go.Ld Go.Pm
attribute [local irreducible] VC AW cF aP kG
set_option maxHeartbeats 4000000
theorem zL0 (n:Int) (h:n≤17592186043904):aP Tryz.prog 17 [.i n] [] (.sl 0 0 n.toNat 1) [.arr (ints (nats (List.range n.toNat))) 1]:=by
  refine bL T Tryz.func17 rfl rfl rfl rfl ?_
  (repeat' (first|refine wS ?_|refine wB ?_|(refine rg 0 (aV ?_))|(refine rg 1 (aV ?_))|(refine rg 2 (mW rfl (vV (uJ rfl rfl) (mV ?_))))|refine nZ ?_));refine ZV 3 1 rfl (by decide) ?_
  refine cX (X:={i:Nat // i≤n.toNat}) (fun i=>[(3,.sl 0 0 i.1 1),(6,.i (max n 0)),(7,.i (i.1:Int))]) (fun i=>[.arr (ints (nats (List.range i.1))) 1]) (fun i=>n.toNat-i.1) ⟨0,cC _⟩ ⟨[0],rfl,⟨rfl,rfl,rfl,trivial⟩,⟨.inr rfl,trivial⟩,by decide,K8⟩ ?_
  rintro ⟨i,hi⟩;dsimp only;have hl:(ints (nats (List.range i))).length=i:=by simp
  by_cases hlt:i<n.toNat
  · have hs:ints (nats (List.range i))++[[AV.i (i:Int)]]=ints (nats (List.range (i+1))):=by rw [yA9,Zq]
    (repeat' (first|refine wS ?_|refine wB ?_|refine wK ?_|(refine wC rfl ?_ ?_<;>(intro hb;(try simp only [nm] at hb);try (exfalso;omega)))|(refine rg 3 (vV (aK rfl rfl) ?_))|(refine rg 4 (mW rfl (aV ?_)))|(refine rg 5 (dR rfl (bS (by exact bF T rfl rfl (by decide) (by decide) rfl rfl rfl) rfl ?_));refine gD T rfl rfl rfl rfl rfl rfl (by simp) (kZ.whole rfl rfl) rfl (by simp;omega) (by simp;omega) rfl ?_;refine aV ?_)|(refine rg 6 (vV (bP rfl rfl (by omega) (by omega)) (mV ?_)))|refine nZ ?_));all_goals first | (exfalso;omega) | skip
    exact ⟨⟨i+1,hlt⟩,by dsimp only;omega,[2],rfl,⟨rfl,rfl,rfl,trivial⟩,⟨.inr (aE rfl ((mN hl.symm).trans hs) (cJ _)),trivial⟩,by decide,K8⟩
  · obtain rfl:i=n.toNat:=by omega
    (repeat' (first|refine wS ?_|refine wR ?_|refine wE ?_|(refine wC rfl ?_ ?_<;>(intro hb;(try simp only [nm] at hb);try (exfalso;omega)))|(refine rg 3 (vV (aK rfl rfl) ?_))|(refine rg 7 (mW rfl (aV ?_)))|refine nZ ?_));all_goals first | (exfalso;omega) | exact ⟨.inl rfl,[0],_,rfl,rfl,rfl,⟨.inr (aE rfl rfl (cJ _)),trivial⟩,by decide,K8⟩
end Go.Proofs.YtojgimibalokkaaGreat
namespace Go.Ab
open Go
theorem pN.freezeEl {n:Nat × Nat}{c:oO}{ρ:Pl}{S:Nat→Prop}{env:eG}{h:Hp}{a:Act}{w:World}{j f k len sz sz2:Nat}{es es' es2:List (List AV)}(s:pN n c ρ S env h a w) (hj:h[j]? = some (.arr es sz)) (hne:j≠k) (h0:es≠[]) (hf:es.flatten[f]? = some (.sl k 0 len sz2)) (hk:h[k]? = some (.arr es2 sz2)) (hn:len=es2.length) (hi:AV.idfL es2.flatten=true)
    (hl:∀ e,e∈es'→e.length=sz) (he:es'.flatten=es.flatten.set f (.rowE es2 sz2)) :
    pN n c ρ (fun b=>S b∨∃ o,ρ k=some (b,o)) env ((h.set k .gone).set j (.arr es' sz)) a w:=by
  have h1:=s.hs.freeze hk;have hj':(h.set k .gone)[j]? = some (.arr es sz):=by rw [iV (Ne.symm hne)];exact hj
  refine ⟨s.size,s.defers.st (fun _ h=>.inl h),fun t' x hx=>KU (fun _ h=>.inl h) (s.env t' x hx),h1.alter hj' (fun _=>?_) (by simp),s.cm⟩
  have hb:=s.hs.blk j _ hj;simp only [RB] at hb ⊢;obtain ⟨b1,b2,b3⟩:=hb;refine ⟨hl,b2,?_⟩;rcases b3 with ⟨e,_⟩ | ⟨b,o,ys,e1,e2,e3⟩
  · exact absurd e h0
  · refine .inr ⟨b,o,ys,e1,e2,?_⟩;rw [he];refine GN (fun _ h=>.inl h) (fun y hy=>?_) hf e3;rw [hn] at hy;exact wY hi (s.hs.blk k _ hk) hy
section
variable {P:Program}{n:Nat × Nat}{ops:Array Oper}{env:eG}{h:Hp}{K:eG→Hp→Prop}{rest:List Oper}{Q:Exit→eG→Hp→Prop}{code:Code}
theorem KO (j f:Nat){k len sz sz2:Nat}{es:List (List AV)}(es':List (List AV)){es2:List (List AV)}(hj:h[j]? = some (.arr es sz)) (hne:j≠k) (h0:es≠[]) (hf:es.flatten[f]? = some (.sl k 0 len sz2)) (hk:h[k]? = some (.arr es2 sz2)) (hn:len=es2.length) (hi:AV.idfL es2.flatten=true)
    (hl:∀ e,e∈es'→e.length=sz) (he:es'.flatten=es.flatten.set f (.rowE es2 sz2)) (hv:AW P n code env ((h.set k .gone).set j (.arr es' sz)) Q):AW P n code env h Q:=
  fun c ρ S a w QQ s hQ=>hv c ρ _ a w QQ (s.freezeEl hj hne h0 hf hk hn hi hl he) hQ
end
end Go.Ab
namespace Go.Ld
open Go.Ab Go.Proofs.YtojgimibalokkaaGreat
theorem zB4 {es:List (List AV)}(h:∀ e,e∈es→e.all AV.one=true):es.flatten.all AV.one=true:=by
  rw [bA];intro x hx;obtain ⟨e,he,hx⟩:=BJ.1 hx;exact bA.1 (h e he) x hx
theorem FE {α:Type}{f:α→List AV}(hf:∀ x,(f x).all AV.one=true) (l:List α):(l.map f).flatten.all AV.one=true:=zB4 fun e he=>by
  obtain ⟨x,_,rfl⟩:=bB.1 he;exact hf x
theorem FL {α:Type}{f:α→List AV}(hf:∀ x,AV.idfL (f x)=true) (l:List α):∀ e,e∈l.map f→AV.idfL e=true:=fun e he=>by
  obtain ⟨x,_,rfl⟩:=bB.1 he;exact hf x
def HU (n:Int):Bool:=decide (n<0∨1048576<n)
def sE (c:Cx):Bool:=[c.m,c.st,c.er,c.sl].any HU
theorem CR {c:Cx}:sE c=false↔mH c.m c.st c.er c.sl:=by
  unfold sE mH HU;simp;omega
end Go.Ld
namespace Go.Proofs.YtojgimibalokkaaGreat
open Go Go.Ab Go.Ld
attribute [local irreducible] VC AW cF aP kG
set_option maxHeartbeats 4000000
theorem KC (l:List KD) (hl:l.length≤1000000):aP Tryz.prog 45 [.rowE (fF l) 2] [] (.rowE (fF l) 2) []:=by
  have hll:(fF l).length=l.length:=aX _;have hid:=FL (f:=fun b:KD=>[AV.v (.string b.1),AV.i b.2]) (fun _=>rfl) l;have hon:=FE (f:=fun b:KD=>[AV.v (.string b.1),AV.i b.2]) (fun _=>rfl) l;refine jS (len:=l.length) hll.symm (iG hid) ?_;refine bL T Tryz.func45 rfl rfl rfl rfl ?_
  repeat' (first|refine wS ?_|refine wK ?_|refine wT ?_|refine wU ?_|(refine rg 0 (aV ?_))|(refine rg 1 (mV ?_);refine sA T rfl rfl rfl rfl fun b hb=>?_;cases b)|refine nZ ?_)
  · (repeat' (first|refine wR ?_|(refine rg 3 (bS (by exact bF T rfl rfl (by decide) (by decide) rfl rfl rfl) rfl ?_);refine mW rfl (gD T rfl rfl rfl rfl rfl rfl (by decide) (.row (rV l)) hon (by simp;omega) (by simp;omega) rfl ?_);refine aV ?_)|(refine nZ ?_)));exact ⟨.inl rfl,[1],_,rfl,(by show AV.sl 1 0 (0+(fF l).length) 2=AV.sl 1 0 l.length 2;simp),rfl,⟨.inr (aE rfl rfl hid),trivial⟩,by decide,K8⟩
  · have hl0:l=[]:=fP.1 (Classical.byContradiction fun h=>by have:=hb (by omega);cases this)
    subst hl0
    (repeat' (first|refine wR ?_|(refine rg 2 (vV (dS rfl) (rY 2 2 rfl (by decide) ?_)))|refine nZ ?_));exact ⟨.inl rfl,[0],_,rfl,rfl,rfl,⟨.inr (aE rfl rfl hid),trivial⟩,by decide,K8⟩
theorem KB (l:List LT) (hl:l.length≤1000000):aP Tryz.prog 46 [.rowE (iF l) 3] [] (.rowE (iF l) 3) []:=by
  have hll:(iF l).length=l.length:=aX _;have hid:=FL (f:=fun b:LT=>[AV.i b.1,AV.i b.2.1,AV.b b.2.2]) (fun _=>rfl) l;have hon:=FE (f:=fun b:LT=>[AV.i b.1,AV.i b.2.1,AV.b b.2.2]) (fun _=>rfl) l;refine jS (len:=l.length) hll.symm (iG hid) ?_;refine bL T Tryz.func46 rfl rfl rfl rfl ?_
  repeat' (first|refine wS ?_|refine wK ?_|refine wT ?_|refine wU ?_|(refine rg 0 (aV ?_))|(refine rg 1 (mV ?_);refine sA T rfl rfl rfl rfl fun b hb=>?_;cases b)|refine nZ ?_)
  · (repeat' (first|refine wR ?_|(refine rg 3 (bS (by exact bF T rfl rfl (by decide) (by decide) rfl rfl rfl) rfl ?_);refine mW rfl (gD T rfl rfl rfl rfl rfl rfl (by decide) (.row (vC l)) hon (by simp;omega) (by simp;omega) rfl ?_);refine aV ?_)|(refine nZ ?_)));exact ⟨.inl rfl,[1],_,rfl,(by show AV.sl 1 0 (0+(iF l).length) 3=AV.sl 1 0 l.length 3;simp),rfl,⟨.inr (aE rfl rfl hid),trivial⟩,by decide,K8⟩
  · have hl0:l=[]:=fP.1 (Classical.byContradiction fun h=>by have:=hb (by omega);cases this)
    subst hl0
    (repeat' (first|refine wR ?_|(refine rg 2 (vV (dS rfl) (rY 2 3 rfl (by decide) ?_)))|refine nZ ?_));exact ⟨.inl rfl,[0],_,rfl,rfl,rfl,⟨.inr (aE rfl rfl hid),trivial⟩,by decide,K8⟩
theorem KF (l:List BX) (hl:l.length≤1000000):aP Tryz.prog 47 [.rowE (dY l) 3] [] (.rowE (dY l) 3) []:=by
  have hll:(dY l).length=l.length:=aX _;have hid:=FL (f:=fun b:BX=>[AV.i b.1,AV.i b.2.1,AV.i b.2.2]) (fun _=>rfl) l;have hon:=FE (f:=fun b:BX=>[AV.i b.1,AV.i b.2.1,AV.i b.2.2]) (fun _=>rfl) l;refine jS (len:=l.length) hll.symm (iG hid) ?_;refine bL T Tryz.func47 rfl rfl rfl rfl ?_
  repeat' (first|refine wS ?_|refine wK ?_|refine wT ?_|refine wU ?_|(refine rg 0 (aV ?_))|(refine rg 1 (mV ?_);refine sA T rfl rfl rfl rfl fun b hb=>?_;cases b)|refine nZ ?_)
  · (repeat' (first|refine wR ?_|(refine rg 3 (bS (by exact bF T rfl rfl (by decide) (by decide) rfl rfl rfl) rfl ?_);refine mW rfl (gD T rfl rfl rfl rfl rfl rfl (by decide) (.row (lE l)) hon (by simp;omega) (by simp;omega) rfl ?_);refine aV ?_)|(refine nZ ?_)));exact ⟨.inl rfl,[1],_,rfl,(by show AV.sl 1 0 (0+(dY l).length) 3=AV.sl 1 0 l.length 3;simp),rfl,⟨.inr (aE rfl rfl hid),trivial⟩,by decide,K8⟩
  · have hl0:l=[]:=fP.1 (Classical.byContradiction fun h=>by have:=hb (by omega);cases this)
    subst hl0
    (repeat' (first|refine wR ?_|(refine rg 2 (vV (dS rfl) (rY 2 3 rfl (by decide) ?_)))|refine nZ ?_));exact ⟨.inl rfl,[0],_,rfl,rfl,rfl,⟨.inr (aE rfl rfl hid),trivial⟩,by decide,K8⟩
theorem zG0 (n:Int):aP Tryz.prog 86 [.i n] [] (.b (HU n)) []:=by
  unfold HU;by_cases h:n<0
  · rw [decide_eq_true (.inl h)];refine bL T Tryz.func86 rfl rfl rfl rfl ?_
    (repeat' (first|refine wS ?_|refine wR ?_|(refine rg 0 (aV ?_))|(refine rg 1 (mW rfl (vV (zL9 rfl rfl (by omega)) (mV ?_)));(iterate 2 refine gF ?_);refine pW rfl (aV ?_))|refine nZ ?_));all_goals first | (exfalso;omega) | exact rQ
  · refine bL T Tryz.func86 rfl rfl rfl rfl ?_
    (repeat' (first|refine wS ?_|refine wR ?_|(refine rg 0 (aV ?_))|(refine rg 1 (mW rfl (vV (zM0 rfl rfl (by omega)) (mW rfl (yN rfl (yV (dX rfl rfl) (pW rfl (aV ?_))))))))|refine nZ ?_));all_goals first | (exfalso;omega) | (refine cM (.inl rfl) rfl (lX ?_);simp;omega)
theorem uE (c:Cx):aP Tryz.prog 43 [.agg [.i c.m,.i c.st,.i c.er,.i c.sl]] [] (.b (!sE c)) []:=by
  have hh:=zX6 (l:=[c.m,c.st,c.er,c.sl]) (F:=86) (caps:=[]) (p:=HU) (by simp) rfl (fun x hx=>zG0 x)
  change aP _ _ _ _ (.b (sE c)) _ at hh;generalize sE c=v at *;refine bL T Tryz.func43 rfl rfl rfl rfl ?_
  (repeat' (first|refine wS ?_|refine wR ?_|(refine rg 0 (bS (bZ rfl rfl) rfl (aV ?_)))|(refine rg 1 (fR T rfl (fR T rfl (fR T rfl (fR T rfl (bS (by exact bF T rfl rfl (by decide) (by decide) rfl rfl rfl) rfl ?_)))));refine wF 11 rfl rfl rfl rfl ?_;refine vV (kC (hh)) (vV (cT rfl) (aV ?_)))|refine nZ ?_));all_goals first | (exfalso;omega) | exact rQ
end Go.Proofs.YtojgimibalokkaaGreat
namespace Go.Ld
open Go.Ab Go.Proofs.YtojgimibalokkaaGreat
abbrev zK1 (c:Cx) (x:AV):List AV:=[.i c.m,.i c.st,.i c.er,.i c.sl,.rowE (fF c.ks) 2,.rowE (iF c.ls) 3,.rowE (dY c.bs) 3,x]
theorem zZ0 {h:Hp}{i sz:Nat}{θ:Nat→Nat}{A A':List (List AV)}{E E':List AV}(hk:h[i]? = some (.arr (A'++[E']) sz)) (hA:A'=A) (hE:E'=AV.mapL θ E) (hi:∀ e,e∈A→AV.idfL e=true):h[i]? = some ((AB.arr (A++[E]) sz).map θ):=by
  subst hA hE;rw [hk];simp only [AB.map,dJ,dA θ hi];rfl
theorem zM8 {A:List (List AV)}{x y:AV}:(A++[[x,y]]).flatten[A.flatten.length]? = some x:=by simp
theorem zM7 {A:List (List AV)}{x y:AV}:(A++[[x,y]]).flatten[A.flatten.length+1]? = some y:=by
  rw [gS,aD (by omega)];simp
theorem zM6 {A:List (List AV)}{x y z:AV}:(A++[[z,y]]).flatten=(A++[[x,y]]).flatten.set A.flatten.length z:=by
  rw [gS,gS,kS _ _ (by omega)];simp
theorem zM5 {A:List (List AV)}{x y z:AV}:(A++[[x,z]]).flatten=(A++[[x,y]]).flatten.set (A.flatten.length+1) z:=by
  rw [gS,gS,kS _ _ (by omega)];simp
theorem XL (c:Cx):(uG c).length=c.bs.length:=by rw [T6];simp
theorem SS {c:Cx}{k:Nat}(h:k<c.bs.length):(uG c).take (k+1)=(uG c).take k++[Y9 c k]:=by
  rw [T6,← jO,← jO,aM (by simpa using h),dJ]
  simp
end Go.Ld
namespace Go.Proofs.YtojgimibalokkaaGreat
open Go Go.Ab Go.Ld
attribute [local irreducible] VC AW cF aP kG
set_option maxHeartbeats 4000000
theorem yE1 (c:Cx) (hc:qP c) (hid:aP Tryz.prog 17 [.i (dY c.bs).length] [] (.rowE (ints (nats (List.range c.bs.length))) 1) []) (htr:aP Tryz.prog 44 [.rowE (fF c.ks) 2,.rowE (iF c.ls) 3,.rowE (ints (nats (List.range c.bs.length))) 1,.rowE (dY c.bs) 3] [] (.b true) []) :
    aP Tryz.prog 16 [.agg [.i c.m,.i c.st,.i c.er,.i c.sl],.rowE (fF c.ks) 2,.rowE (iF c.ls) 3,.rowE (dY c.bs) 3] [] (.tup [.ptr 0 0,.i 0]) [.cells (kN c (uG c))]:=by
  have hn1:=hc.f.n1;have hn8:=hc.f.n8;have hk10:=hc.f.k10;have hl10:=hc.f.l10;have hnl:(nats (List.range c.bs.length)).length=c.bs.length:=by simp
  have hsn:=uE c;rw [CR.2 hc.s] at hsn;have h1:=KC c.ks (by omega)
  have h2:=KB c.ls (by omega)
  have h3:=KF c.bs (by omega)
  have hbl:(dY c.bs).length=c.bs.length:=aX _;have hNl:=XL c;refine bL T Tryz.func16 rfl rfl rfl rfl ?_
  (repeat' (first|refine wS ?_|(refine rg 0 (bS (bZ rfl rfl) rfl (lO ?_)))|refine nZ ?_));refine eI 4 rfl rfl rfl ?_
  (repeat' (first|refine wS ?_|refine wK ?_|refine wU ?_|(refine rg 1 (lW T rfl (vV (kC (hsn)) (vV (cT rfl) (mW rfl (yN rfl (yN rfl (yN rfl (gT (qV T ?_)))))))));refine yV (kC (hid)) (yN rfl (yV (kC (htr)) (yV (cT rfl) (pV ?_)))))|(refine bO (id:=3) 69 [[],[],[1],[],[1,2,3],[],rM 1 5,rN 7,rN 8] (rM 27 9) yO8 cK rfl (by decide +kernel) (dO T rfl (dN rfl (dV rfl (kC (h1)) (dN rfl (dV rfl (kC (h2)) (dN rfl (dV rfl (kC (h3)) (dV rfl (by exact gG T rfl rfl rfl rfl) ?_))))))));refine uL rfl rfl rfl (by exact bZ rfl rfl) rfl ?_;refine dE ?_;refine aV ?_)|refine nZ ?_));all_goals try (exfalso;omega)
  refine gM [(3,.rowE (dY c.bs) 3),(10,.ptr 0 0)] [.cells (zK1 c .nils)] ⟨[1],rfl,(by repeat first|exact trivial|refine ⟨rfl,?_⟩),⟨.inr rfl,trivial⟩,by decide,kP _⟩ ?_
  refine xI 0 7 2 rfl rfl (by decide) ?_
  (repeat' (first|refine wB ?_|(refine rg 4 (mW rfl (qW T rfl (mV ?_))))|refine nZ ?_));all_goals try (exfalso;omega)
  refine cX (X:={k:Nat // k≤c.bs.length}) (fun k=>[(10,.ptr 0 0),(36,.rowE (dY c.bs) 3),(37,.i (dY c.bs).length),(38,.i k.1)]) (fun k=>[.cells (zK1 c (.sl 1 0 k.1 2)),.arr (kB ((uG c).take k.1)) 2]) (fun k=>c.bs.length-k.1) ⟨0,cC _⟩ ⟨[0,1],rfl,(by repeat first|exact trivial|refine ⟨rfl,?_⟩),⟨.inr rfl,.inr rfl,trivial⟩,by decide,kP _⟩ ?_
  rintro ⟨k,hk⟩;dsimp only;by_cases hlt:k<c.bs.length
  · have hb:=hc.f.b k hlt;have hbx:c.bs[k]? = some (c.bs.getD k (0,0,0)):=by rw [aC,aA hlt];rfl
    have hge:c.bs[k]=c.bs.getD k (0,0,0):=by rw [aC,aA hlt];rfl
    rw [hge] at hb;have qb:(dY c.bs)[((k:Int)).toNat]? = some [.i (c.bs.getD k (0,0,0)).1,.i (c.bs.getD k (0,0,0)).2.1,.i (c.bs.getD k (0,0,0)).2.2]:=by rw [bR,bN,hbx];rfl
    have hsu:=SS hlt;have hA:kB ((uG c).take (k+1))=kB ((uG c).take k)++[gA (Y9 c k)]:=by rw [hsu,kB,dJ];rfl
    have hAl:(kB ((uG c).take k)).length=k:=by rw [kE,bE];omega
    have hAi:=eO ((uG c).take k);have hA3:=qJ ((uG c).take k);have hAi2:=eO ((uG c).take (k+1));unfold Y9 at hA;generalize c.bs.getD k (0,0,0)=bx at *;obtain ⟨lot,cnt,ta⟩:=bx;dsimp only at *;generalize hG:kB ((uG c).take k)=A at *
    (repeat' (first|refine wS ?_|refine wB ?_|refine wK ?_|(refine wC rfl ?_ ?_<;>(intro hb;(try simp only [nm] at hb);try (exfalso;omega)))|(refine rg 5 (vV (aK rfl rfl) ?_))|(refine rg 6 (mW rfl (vV (ix T rfl (by omega) (lE _) qb) (lW T rfl (bS (bM T rfl) rfl (aW rfl (aU T rfl rfl rfl rfl rfl rfl (by decide) rfl ?_)))))))|refine nZ ?_));all_goals try (exfalso;omega)
    refine eI 12 (cs:=[.i lot,.i cnt,.i ta]) rfl rfl rfl ?_
    (repeat' (first|(refine rg 7 (mW rfl (bS (by exact bF T rfl rfl (by decide) (by decide) rfl rfl rfl) rfl ?_));refine wF 44 rfl rfl rfl rfl ?_;refine fR T rfl (fR T rfl (vV (bP rfl rfl (by omega) (by omega)) (vV (by exact gG T rfl rfl rfl rfl) ?_)));refine bS (by exact bF T rfl rfl (by decide) (by decide) rfl rfl rfl) rfl ?_;refine wF 51 rfl rfl rfl rfl ?_;refine vV (by exact gG T rfl rfl rfl rfl) ?_;refine bS (bM T rfl) rfl (aU T rfl rfl rfl rfl rfl rfl (by decide) rfl ?_))|refine nZ ?_));all_goals try (exfalso;omega)
    refine eI 13 (cs:=wA ([(k:Int)],0,[(cnt,cnt+1)])) rfl rfl rfl ?_;refine gM [(10,.ptr 0 0),(36,.rowE (dY c.bs) 3),(37,.i (dY c.bs).length),(38,.i k),(11,.i k),(13,.pr (wA ([(k:Int)],0,[(cnt,cnt+1)])) 0)] [.cells (zK1 c (.sl 1 0 k 2)),.arr A 2] ⟨[0,1],rfl,(by repeat first|exact trivial|refine ⟨rfl,?_⟩),⟨.inr rfl,.inr (aE rfl rfl hAi),trivial⟩,by decide,kP _⟩ ?_
    (repeat' (first|(refine vO (id:=8) 69 [[],[],[1],[1,2],[1,2,3],[],[5],[],[7],rM 5 4,rM 5 5,rM 1 10,rN 12,rN 13,rN 14] (rM 53 14) [[],[53],[53],[53],[53],rM 53 5,rM 53 5,rM 53 7,rM 53 7,rM 53 5,rM 53 5,[53],[],[],[]] [(11,1),(14,0)] cK rfl (by decide +kernel) (fS rfl rfl rfl rfl (by exact cP rfl) ?_);refine fS rfl rfl rfl rfl (by exact cP rfl) ?_;refine fS rfl rfl rfl rfl (by exact eU rfl rfl) ?_;refine fS rfl rfl rfl rfl (by exact cY T rfl rfl rfl) ?_;refine fS rfl rfl rfl rfl (by exact bD T rfl rfl rfl rfl) ?_;refine fS rfl rfl rfl rfl (by exact cP rfl) ?_;refine Q6 rfl rfl rfl rfl (by exact bF T rfl rfl (by decide) (by decide) rfl rfl rfl) rfl ?_;refine fS rfl rfl rfl rfl (by exact bD T rfl rfl rfl rfl) ?_;refine Q6 rfl rfl rfl rfl (by exact bF T rfl rfl (by decide) (by decide) rfl rfl rfl) rfl ?_;refine fS rfl rfl rfl rfl (by exact gG T rfl rfl rfl rfl) ?_;refine Q6 rfl rfl rfl rfl (by exact bF T rfl rfl (by decide) (by decide) rfl rfl rfl) rfl ?_;refine zE rfl rfl rfl rfl (aS rfl) (by exact rX T rfl rfl rfl rfl rfl rfl (by omega) (kZ.whole rfl rfl) rfl (by simp;omega) (by simp;omega)) ?_;refine fS rfl rfl rfl rfl (by exact eU rfl rfl) ?_;refine fS rfl rfl rfl rfl (by exact cY T rfl rfl rfl) ?_;refine FX rfl rfl rfl rfl (aS rfl) T rfl rfl rfl rfl rfl rfl (by decide) rfl ?_;refine I9 rfl rfl rfl (by exact rfl) ?_)|refine nZ ?_));all_goals try (exfalso;omega)
    show AW _ _ _ _ _ _;refine gM [(10,.ptr 0 0),(36,.rowE (dY c.bs) 3),(37,.i (dY c.bs).length),(38,.i k)] [.cells (zK1 c (.sl 3 0 (k+1) 2)),.arr (ints [(k:Int)]) 1,.arr (wsA [([(k:Int)],0,[(cnt,cnt+1)])]) 3,.arr (A++[[.sl 1 0 1 1,.sl 2 0 1 3]]) 2]
      ⟨[0,2,3,5],rfl,(by repeat first|exact trivial|refine ⟨rfl,?_⟩),⟨.inr rfl,.inr rfl,.inr rfl,.inr (zZ0 rfl (by rw [lN];exact cD (by omega)) rfl hAi),trivial⟩,by decide,kP _⟩ ?_
    have hE:∀ (x y:AV) (e:List AV),e∈A++[[x,y]]→e.length=2:=fun x y e he=>by
      rcases bG.1 he with he | he
      · exact hA3 e he
      · rw [bH.1 he];rfl
    refine KO 3 A.flatten.length (A++[[.rowE (ints [(k:Int)]) 1,.sl 2 0 1 3]]) rfl (by decide) (by simp) zM8 rfl rfl rfl (hE _ _) zM6 ?_
    refine KO 3 (A.flatten.length+1) (A++[[.rowE (ints [(k:Int)]) 1,.rowE (wsA [([(k:Int)],0,[(cnt,cnt+1)])]) 3]]) rfl (by decide) (by simp) zM7 rfl rfl rfl (hE _ _) zM5 ?_
    (repeat' (first|(refine rg 9 (vV (bP rfl rfl (by omega) (by omega)) (mV ?_)))|refine nZ ?_));all_goals try (exfalso;omega)
    exact ⟨⟨k+1,hlt⟩,by dsimp only;omega,⟨[0,3],rfl,(by repeat first|exact trivial|refine ⟨rfl,?_⟩),⟨.inr rfl,.inr (aE rfl (by dsimp only;rw [hA]) hAi2),trivial⟩,by decide,kP _⟩⟩
  · obtain rfl:k=c.bs.length:=by omega
    rw [← hNl,cQ,hNl];refine nT 0 7 (es:=kB (uG c)) rfl rfl rfl (by rw [kE,hNl]) (iG (eO _)) ?_
    (repeat' (first|refine wS ?_|refine wR ?_|refine wE ?_|(refine wC rfl ?_ ?_<;>(intro hb;(try simp only [nm] at hb);try (exfalso;omega)))|(refine rg 5 (vV (aK rfl rfl) ?_))|(refine rg 10 (mW rfl (lO ?_)))|refine nZ ?_));all_goals try (exfalso;omega)
    all_goals exact ⟨.inl rfl,[0],_,rfl,rfl,rfl,⟨.inr rfl,trivial⟩,by decide,kP _⟩
end Go.Proofs.YtojgimibalokkaaGreat
namespace Go.Ld
open Go.Ab Go.Proofs.YtojgimibalokkaaGreat
def QU (p q:List Int) (x:Int × SP) (b:Int):Prop:=x.1=p.getD b.toNat 0∧vH x.2.1 x.2.2 (q.getD (p.getD b.toNat 0).toNat 0)=true
theorem zN2 {g:G}{p q:List Int}{w:W}:AE g p q w=true↔∀ i,i<g.1.length→QU p q (gP w i,gC w i) (g.1.getD i 0):=by
  unfold AE M1 QU;rw [bA];constructor
  · intro h i hi;have:=h i (eJ.2 hi);simp only [aJ,decide_eq_true_eq] at this;exact this
  · intro h i hi;have:=h i (eJ.1 hi);simp only [aJ,decide_eq_true_eq];exact this
theorem AU {g:G}{p q:List Int}(h0:∀ w,w∈g.2→0≤w.2.1):∀ k,k≤g.2.length→(R0 g p q k = -1∧∀ w,w∈g.2.take k→AE g p q w=false)∨(∃ w,w∈g.2.take k∧AE g p q w=true∧w.2.1=R0 g p q k∧∀ v,v∈g.2.take k→AE g p q v=true→R0 g p q k≤v.2.1)
  | 0,_=>.inl ⟨rfl,fun w hw=>by simp at hw⟩
  | k+1,hk=>by
    have ih:=AU (p:=p) (q:=q) h0 k (by omega)
    have hx:=h0 g.2[k] (aI _);rw [NI (by omega)]
    have ht:∀ w,w∈g.2.take (k+1)↔w∈g.2.take k∨w=g.2[k]:=fun w=>by
      rw [aM (by omega),bG,bH]
    simp only [ht];unfold ZS;generalize g.2[k]=x at *;generalize R0 g p q k=m at *;cases hf:AE g p q x with
    | false=>
      rw [Bool.false_and,if_neg (by simp)]
      rcases ih with ⟨h1,h2⟩ | ⟨w,h1,h2,h3,h4⟩
      · refine .inl ⟨h1,fun w hw=>?_⟩
        rcases hw with hw | rfl
        · exact h2 w hw
        · exact hf
      · refine .inr ⟨w,.inl h1,h2,h3,fun v hv hvf=>?_⟩
        rcases hv with hv | rfl
        · exact h4 v hv hvf
        · rw [hf] at hvf;cases hvf
    | true=>
      rw [gL];rcases ih with ⟨h1,h2⟩ | ⟨w,h1,h2,h3,h4⟩
      · rw [decide_eq_true (show m<0 by omega),Bool.true_or,if_pos rfl]
        refine .inr ⟨x,.inr rfl,hf,rfl,fun v hv hvf=>?_⟩
        rcases hv with hv | rfl
        · rw [h2 v hv] at hvf;cases hvf
        · exact fK _
      · have hm0:0≤m:=by rw [← h3];exact h0 w (eK h1)
        rw [decide_eq_false (show ¬ m<0 by omega),Bool.false_or]
        by_cases hlt:x.2.1<m
        · rw [if_pos (decide_eq_true hlt)];refine .inr ⟨x,.inr rfl,hf,rfl,fun v hv hvf=>?_⟩
          rcases hv with hv | rfl
          · have:=h4 v hv hvf;omega
          · exact fK _
        · rw [if_neg (by simpa using hlt)]
          refine .inr ⟨w,.inl h1,h2,h3,fun v hv hvf=>?_⟩
          rcases hv with hv | rfl
          · exact h4 v hv hvf
          · omega
theorem rW {g:G}{p q:List Int}(h0:∀ w,w∈g.2→0≤w.2.1):(D5 g p q = -1∧∀ w,w∈g.2→AE g p q w=false)∨(∃ w,w∈g.2∧AE g p q w=true∧w.2.1=D5 g p q∧∀ v,v∈g.2→AE g p q v=true→D5 g p q≤v.2.1):=by
  have:=AU (p:=p) (q:=q) h0 g.2.length (aT _);rw [cQ] at this;exact this
def EI (g:G) (w:W):As:=fun b=>(gP w (g.1.idxOf b),gC w (g.1.idxOf b))
theorem J9 {n:Nat}{g:G}{w:W}(ok:uB n g) (hw:EK n g.1.length w):oJ g.1 w (EI g w):=by
  unfold oJ EI gP gC;constructor
  · refine kX (by rw [aX];exact hw.pl) fun i h1 h2=>?_
    rw [mR,ok.nd.idxOf_getElem];dsimp only;rw [aC,aA h1];rfl
  · refine kX (by rw [aX];exact hw.cl) fun i h1 h2=>?_
    rw [mR,ok.nd.idxOf_getElem];dsimp only;rw [aC,aA h1];rfl
theorem YV {n:Nat}{g:G}{p q:List Int}{w:W}{f:As}(ok:uB n g) (hf:oJ g.1 w f):AE g p q w=true↔∀ b,b∈g.1→QU p q (f b) b:=by
  rw [zN2];have key:∀ i (hi:i<g.1.length),(gP w i,gC w i)=f g.1[i]∧g.1.getD i 0=g.1[i]:=fun i hi=>by
    rw [N6 hf hi,Z7 hf hi];exact ⟨rfl,by rw [aC,aA hi];rfl⟩
  constructor
  · intro h b hb;obtain ⟨i,hi,rfl⟩:=List.getElem_of_mem hb;have:=h i hi;rw [(key i hi).1,(key i hi).2] at this;exact this
  · intro h i hi;rw [(key i hi).1,(key i hi).2];exact h _ (aI hi)
theorem zB5 {n:Nat}{p q:List Int}:∀ {gs:List G},(gs.flatMap (·.1)).Nodup→(∀ g,g∈gs→uB n g)→∀ {M:Int},
    ((∀ g,g∈gs→0≤D5 g p q)∧(gs.map fun g=>D5 g p q).sum≤M)↔∃ f:As,(∀ g,g∈gs→∀ b,b∈g.1→QU p q (f b) b)∧Sem gs f M
  | [],_,_,M=>by
    constructor
    · rintro ⟨_,h⟩;exact ⟨fun _=>(0,(0,0)),by simp,by simpa [Sem] using h⟩
    · rintro ⟨f,_,h⟩;exact ⟨by simp,by simpa [Sem] using h⟩
  | g::gs,hnd,hok,M=>by
    rw [bJ] at hnd;obtain ⟨_,n2,n3⟩:=cO.1 hnd;have og:=hok g aR;have h0:∀ w,w∈g.2→0≤w.2.1:=fun w hw=>(og.ws w hw).m0;have ih:=fun M=>zB5 (p:=p) (q:=q) (gs:=gs) n2 (fun x hx=>hok x (aL _ hx)) (M:=M);rw [List.map_cons,yJ2];constructor
    · rintro ⟨h1,h2⟩;rcases rW (p:=p) (q:=q) h0 with ⟨b1,_⟩ | ⟨w,b1,b2,b3,b4⟩
      · have:=h1 g aR;omega
      obtain ⟨f,f1,f2⟩:=(ih (M-D5 g p q)).1 ⟨fun x hx=>h1 x (aL _ hx),by omega⟩
      have ow:=og.ws w b1;have hfi:=J9 og ow
      let f':As:=fun b=>if b∈g.1 then EI g w b else f b
      have e1:∀ b,b∈g.1→f' b=EI g w b:=fun b hb=>if_pos hb
      have e2:∀ x,x∈gs→∀ b,b∈x.1→f' b=f b:=fun x hx b hb=>if_neg fun q=>n3 b q b (nD hx hb) rfl;have hfi':oJ g.1 w f':=⟨hfi.1.trans (jH fun b hb=>by rw [e1 b hb]),hfi.2.trans (jH fun b hb=>by rw [e1 b hb])⟩
      refine ⟨f',fun x hx b hb=>?_,D5 g p q,⟨w,b1,hfi',by omega⟩,(rU e2).2 f2⟩
      rcases bT.1 hx with rfl | hx
      · exact (YV og hfi').1 b2 b hb
      · rw [e2 x hx b hb];exact f1 x hx b hb
    · rintro ⟨f,f1,m,⟨w,w1,w2,w3⟩,f2⟩;have hfw:=(YV (p:=p) (q:=q) og w2).2 (f1 g aR);obtain ⟨i1,i2⟩:=(ih (M-m)).2 ⟨f,fun x hx=>f1 x (aL _ hx),f2⟩;rcases rW (p:=p) (q:=q) h0 with ⟨_,b2⟩ | ⟨v,b1,b2,b3,b4⟩
      · rw [b2 w w1] at hfw;cases hfw
      · have:=b4 w w1 hfw;have:=h0 v b1;refine ⟨fun x hx=>?_,by omega⟩
        rcases bT.1 hx with rfl | hx
        · omega
        · exact i1 x hx
theorem U6 {c:Cx}{gs:List G}{p q:List Int}(h:kQ c gs):zS2 c gs p q=true↔p.length=c.bs.length∧q.length=p.length∧Go.Pm.permB p=true∧∃ f:As,(∀ b:Int,0≤b→b<c.bs.length→QU p q (f b) b)∧Sem gs f c.m:=by
  have hs:=zB5 (p:=p) (q:=q) h.mid.out.nd h.mid.out.ok (M:=c.m);have e:zU1 gs p q gs.length=(gs.map fun g=>D5 g p q).sum:=by unfold zU1;rw [cQ]
  unfold zS2;simp only [aJ,decide_eq_true_eq,bA,e,and_assoc];rw [hs];have hb:∀ f:As,(∀ g,g∈gs→∀ b,b∈g.1→QU p q (f b) b)↔∀ b:Int,0≤b→b<c.bs.length→QU p q (f b) b:=fun f=>by
    constructor
    · intro h1 b b0 b1;obtain ⟨g,hg,hbg⟩:=h.mid.find ⟨b0,b1⟩;exact h1 g hg b hbg
    · intro h1 g hg b hbg;have:=(h.mid.out.ok g hg).rg b hbg;exact h1 b this.1 this.2
  simp only [hb]
theorem PX {n:Nat}{g:G}{w:W}{f:As}(ok:uB n g) (ow:EK n g.1.length w):oJ g.1 w f↔∀ b,b∈g.1→EI g w b=f b:=by
  have h:=J9 ok ow;constructor
  · intro hf b hb;have e1:=h.1.symm.trans hf.1;have e2:=h.2.symm.trans hf.2;exact Prod.ext (R4.1 e1 b hb) (R4.1 e2 b hb)
  · intro hp;exact ⟨h.1.trans (jH fun b hb=>by rw [hp b hb]),h.2.trans (jH fun b hb=>by rw [hp b hb])⟩
theorem DC {n:Nat}{x y:G}(jo:uQ n x y){u v:W}(hu:u∈x.2) (hv:v∈y.2){f:As}:oJ (nB x y).1 (D1 x y u v (nB x y).1) f↔oJ x.1 u f∧oJ y.1 v f:=by
  rw [PX jo.gx (jo.gx.ws u hu),PX jo.gy (jo.gy.ws v hv)];have hm:∀ b,b∈(nB x y).1↔b∈x.1∨b∈y.1:=fun b=>(mM x y).mem_iff.trans bG;generalize (nB x y).1=l at *;have e1:∀ b,(if b∈x.1 then gP u (x.1.idxOf b) else gP v (y.1.idxOf b))=(if b∈x.1 then EI x u b else EI y v b).1:=fun b=>by split <;> rfl
  have e2:∀ b,(if b∈x.1 then gC u (x.1.idxOf b) else gC v (y.1.idxOf b))=(if b∈x.1 then EI x u b else EI y v b).2:=fun b=>by split <;> rfl
  unfold oJ D1;simp only [e1,e2];rw [R4,R4];constructor
  · rintro ⟨h1,h2⟩;have h:∀ b,b∈l→(if b∈x.1 then EI x u b else EI y v b)=f b:=fun b hb=>Prod.ext (h1 b hb) (h2 b hb)
    refine ⟨fun b hb=>?_,fun b hb=>?_⟩
    · have:=h b ((hm b).2 (.inl hb));rwa [if_pos hb] at this
    · have:=h b ((hm b).2 (.inr hb));rwa [if_neg (fun q=>jo.dj b q hb)] at this
  · rintro ⟨h1,h2⟩;have h:∀ b,b∈l→(if b∈x.1 then EI x u b else EI y v b)=f b:=fun b hb=>by
      by_cases hx:b∈x.1
      · rw [if_pos hx];exact h1 b hx
      · rw [if_neg hx];exact h2 b (((hm b).1 hb).resolve_left hx)
    exact ⟨fun b hb=>by rw [h b hb],fun b hb=>by rw [h b hb]⟩
theorem XF {n:Nat}{x y:G}(jo:uQ n x y){f:As}{M:Int}:F5 (nB x y) f M↔∃ m,F5 x f m∧F5 y f (M-m):=by
  constructor
  · rintro ⟨w,hw,hf,hm⟩;obtain ⟨u,v,hu,hv,rfl⟩:=A6 hw;obtain ⟨h1,h2⟩:=(DC jo hu hv).1 hf;change u.2.1+v.2.1≤M at hm;exact ⟨u.2.1,⟨u,hu,h1,fK _⟩,v,hv,h2,by omega⟩
  · rintro ⟨m,⟨u,hu,h1,h3⟩,v,hv,h2,h4⟩;refine ⟨D1 x y u v (nB x y).1,fZ.2 ⟨u,hu,bB.2 ⟨v,hv,rfl⟩⟩,(DC jo hu hv).2 ⟨h1,h2⟩,?_⟩;show u.2.1+v.2.1≤M;omega
theorem OI {u v J:G}{L:List G}{f:As}(h:∀ M,F5 J f M↔∃ m,F5 u f m∧F5 v f (M-m)){M:Int}:Sem (J::L) f M↔Sem (u::v::L) f M:=by
  simp only [Sem,h];constructor
  · rintro ⟨m,⟨m',h1,h2⟩,h3⟩;exact ⟨m',h1,m-m',h2,h3.mono (by omega)⟩
  · rintro ⟨m,h1,m',h2,h3⟩;exact ⟨m+m',⟨m,h1,by rw [show m+m'-m=m' by omega];exact h2⟩,h3.mono (by omega)⟩
theorem IF {P Q R:List G}{u v:G}:(P++u::(Q++v::R)).Perm (u::v::(P++(Q++R))):=by
  refine List.perm_middle.trans (List.Perm.cons _ ?_);rw [← bU,← bU];exact mQ
theorem XU {c:Cx}{gs all:List G}{a b:Int}(h:nY c c.m gs) (ha:0≤a∧a<c.bs.length) (hb:0≤b∧b<c.bs.length) (e:join gs a b=some all){f:As}{M:Int}:Sem all f M↔Sem gs f M:=by
  obtain ⟨i,x,hi,hix,hax⟩:=jG (h.find ha);obtain ⟨k,y,hk,hky,hby⟩:=jG (h.find hb);have hx:=aH hix;have hy:=aH hky;unfold join at e;dsimp only at e;rw [hi,hk] at e;split at e
  · cases e;exact Iff.rfl
  · rename_i hik;have gi:pM gs ((i:Int)).toNat=x:=by unfold pM;rw [aC];show (gs[i]?).getD _=x;rw [hix];rfl
    have gk:pM gs ((k:Int)).toNat=y:=by unfold pM;rw [aC];show (gs[k]?).getD _=y;rw [hky];rfl
    rw [gi,gk] at e;split at e
    · cases e
    · rename_i hsz;cases e;have nd:=h.out.nd;have ndi:(gs.flatMap fun g=>(iI g).1).Nodup:=h.idn.nodup_iff.2 (A0 _)
      have jo:uQ c.bs.length x y:=by
        rcases kV (show i≠k by omega) with hlt | hlt
        · obtain ⟨P,Q,R,e1,-⟩:=pH x hlt hix hky;rw [e1] at ndi nd;simp only [fT,bJ] at ndi nd;exact ⟨h.out.ok x hx,h.out.ok y hy,h.ne x hx,h.ne y hy,fun b h1 h2=>(cO.1 (cO.1 nd).2.1).2.2 b h1 b (by simp [h2]) rfl,fun b h1 h2=>(cO.1 (cO.1 ndi).2.1).2.2 b h1 b (by simp [h2]) rfl,by omega⟩
        · obtain ⟨P,Q,R,e1,-⟩:=pH y hlt hky hix;rw [e1] at ndi nd;simp only [fT,bJ] at ndi nd;exact ⟨h.out.ok x hx,h.out.ok y hy,h.ne x hx,h.ne y hy,fun b h1 h2=>(cO.1 (cO.1 nd).2.1).2.2 b h2 b (by simp [h1]) rfl,fun b h1 h2=>(cO.1 (cO.1 ndi).2.1).2.2 b h2 b (by simp [h1]) rfl,by omega⟩
      have h1:=fun M=>XF jo (f:=f) (M:=M);have h2:∀ M,F5 (nB x y) f M↔∃ m,F5 y f m∧F5 x f (M-m):=fun M=>by
        rw [h1];constructor
        · rintro ⟨m,a,b⟩;exact ⟨M-m,b,by rw [show M-(M-m)=m by omega];exact a⟩
        · rintro ⟨m,a,b⟩;exact ⟨M-m,b,by rw [show M-(M-m)=m by omega];exact a⟩
      generalize nB x y=J at *;rcases kV (show i≠k by omega) with hlt | hlt
      · obtain ⟨P,Q,R,e1,e2⟩:=pH J hlt hix hky;rw [show (min (i:Int) (k:Int)).toNat=i by omega,show (max (i:Int) (k:Int)).toNat=k by omega,e2,e1,oP IF,oP mQ]
        exact OI h1
      · obtain ⟨P,Q,R,e1,e2⟩:=pH J hlt hky hix;rw [show (min (i:Int) (k:Int)).toNat=k by omega,show (max (i:Int) (k:Int)).toNat=i by omega,e2,e1,oP IF,oP mQ]
        exact OI h2
theorem zH2 {c:Cx}{M0:Int}{all:List G}{s:Ev}(h:D7 c M0 all s){i:Nat}{g:G}(hi:all[i]? = some g) (ha:s.a∈g.1) (hb:s.k=4→s.b∈g.1∧s.a≠s.b){f':As}{M:Int} :
    Sem (all.set i (g.1,fN (jU c s g))) f' M↔∃ f d,BV c s f f' d∧Sem all f (M-d):=by
  have hg:=aH hi;have og:=h.mid.out.ok g hg;have nd:=h.mid.out.nd;obtain ⟨A,B,e1,e2⟩:=pG (y:=(g.1,fN (jU c s g))) hi;have hon:=fun M=>XE (c:=c) og ha hb (f':=f') (M:=M);have hoff:∀ f d,BV c s f f' d→∀ x,x∈A++B→∀ b,b∈x.1→f' b=f b:=fun f d st x hx b hbx=>by
    have hbg:b∉g.1:=fun q=>by
      rw [e1] at nd;simp only [fT,bJ] at nd;obtain ⟨_,n1,n2⟩:=cO.1 nd;obtain ⟨_,_,n3⟩:=cO.1 n1;rcases bG.1 hx with hx | hx
      · exact n2 b (nD hx hbx) b (bG.2 (.inl q)) rfl
      · exact n3 b q b (nD hx hbx) rfl
    rcases st with ⟨_,rfl,_⟩ | ⟨hk,rfl,_⟩
    · unfold upd;rw [if_neg (fun q:b=s.a=>hbg (q▸ha))]
    · unfold OE;rw [if_neg (fun q:b=s.a=>hbg (q▸ha)),if_neg (fun q:b=s.b=>hbg (q▸(hb hk).1))]
  rw [e2,oP mQ];have e1':∀ f M,Sem all f M↔Sem (g::(A++B)) f M:=fun f M=>by rw [e1];exact oP mQ
  simp only [e1',Sem,hon];constructor
  · rintro ⟨m,⟨f,d,st,h1⟩,h2⟩;exact ⟨f,d,st,m-d,h1,((rU (hoff f d st)).1 h2).mono (by omega)⟩
  · rintro ⟨f,d,st,m,h1,h2⟩;exact ⟨m+d,⟨f,d,st,h1.mono (by omega)⟩,((rU (hoff f d st)).2 h2).mono (by omega)⟩
theorem HY {c:Cx}{M0:Int}{l all:List G}{s:Ev}(h:D7 c M0 all s) (hM:M0≤2200000) (hab:s.k=4→s.a≠s.b){f':As}{M:Int}(hm:M≤c.m) :
    ((wJ c l all s).1=0→(Sem (wJ c l all s).2 f' M↔∃ f d,BV c s f f' d∧Sem all f (M-d)))∧((wJ c l all s).1=26→¬ ∃ f d,BV c s f f' d∧Sem all f (M-d)):=by
  obtain ⟨i,g,hi,hg,hgm,hat,ha,hb⟩:=h.at;have hp:=zH2 (c:=c) h hg ha (fun hk=>⟨hb hk,hab hk⟩) (f':=f') (M:=M);have hnx:=h.next hM hg ha hb
  unfold wJ;dsimp only;rw [hat,hi,bR];by_cases h0:fN (jU c s g)=[]
  · rw [if_pos h0];refine ⟨fun q=>(by cases q),fun _ q=>?_⟩
    have hs:=hp.2 q;obtain ⟨A,B,e1,e2⟩:=pG (y:=(g.1,fN (jU c s g))) hg;rw [e2,oP mQ] at hs;obtain ⟨m,⟨w,hw,_⟩,_⟩:=hs;rw [h0] at hw;cases hw
  · rw [if_neg h0];by_cases h1:1000<(fN (jU c s g)).length
    · rw [if_pos h1];exact ⟨fun q=>(by cases q),fun q=>(by cases q)⟩
    · rw [if_neg h1];obtain ⟨hm1,hasc⟩:=hnx h0 (by omega)
      generalize all.set i (g.1,fN (jU c s g))=N at *;have ht:Sem (uD c N) f' M↔Sem N f' M:=by
        unfold uD;rw [RT (hm1.out.paid c).ok,VW hm]
      by_cases hany:(uD c N).any (fun g=>g.2.isEmpty)=true
      · rw [if_pos hany];refine ⟨fun q=>(by cases q),fun _ q=>?_⟩
        have hs:=ht.2 (hp.2 q);obtain ⟨x,hx,hxe⟩:=iZ.1 hany;obtain ⟨A,B,e⟩:=UM hx;rw [e,oP mQ] at hs;obtain ⟨m,⟨w,hw,_⟩,_⟩:=hs;rw [List.isEmpty_iff.1 hxe] at hw;cases hw
      · rw [if_neg hany];exact ⟨fun _=>ht.trans hp,fun q=>(by cases q)⟩
theorem OL {c:Cx}{gs:List G}{s:Ev}(h:kQ c gs) (hm0:0≤c.m) (hm1:c.m≤1048576) (hr:gH c.bs.length s=true){f':As}{M:Int}(hm:M≤c.m) :
    ((lR c gs s).1=0→(Sem (lR c gs s).2 f' M↔∃ f d,BV c s f f' d∧Sem gs f (M-d)))∧((lR c gs s).1=26→¬ ∃ f d,BV c s f f' d∧Sem gs f (M-d)):=by
  have hn:=h.mid.n12;obtain ⟨r1,r2,_⟩:=pI hr (by omega)
  have hab:s.k=4→s.a≠s.b:=fun hk=>by have:=r2 hk;omega
  unfold lR;rw [if_pos hr];by_cases hk:s.k=4
  · rw [if_pos hk];cases hj:join gs s.a s.b with
    | none=>exact ⟨fun q=>(by cases q),fun q=>(by cases q)⟩
    | some all=>
      dsimp only;have:=HY (l:=gs) (E7 h (by omega) hm0 hm1 hr hk hj) (by omega) hab (f':=f') hm
      have hb:=r2 hk;have js:∀ f M,Sem all f M↔Sem gs f M:=fun f M=>XU h.mid r1 ⟨by omega,by omega⟩ hj
      simp only [js] at this;exact this
  · rw [if_neg hk];exact HY (l:=gs) (uV h (by omega) hm0 hr hk) (by omega) hab hm
def c0:Cx:=⟨1,1,0,0,[(⟨#[110,117,116]⟩,10)],[(0,0,false),(0,0,false),(0,0,false)],[(0,5,0),(1,3,0),(2,2,0)]⟩
theorem HI {c:Cx}(hc:qP c):U7 c.ks c.ls (nats (List.range c.bs.length)) c.bs:=
  ⟨hc.f.len,fun i hi=>vA.2 ⟨by omega,by simp at hi;omega⟩,hc.f.k,hc.f.l,hc.f.b⟩
end Go.Ld
namespace Go.Proofs.YtojgimibalokkaaGreat
open Go Go.Ab Go.Ld
attribute [local irreducible] VC AW cF aP kG
set_option maxHeartbeats 4000000
theorem ident_c (n:Nat) (h:n≤17592186043904):aP Tryz.prog 17 [.i (n:Int)] [] (.rowE (ints (nats (List.range n))) 1) []:=by
  have h1:=zL0 (n:Int) (by omega)
  rw [bR] at h1;exact jS (by simp) (iG (cJ _)) h1
theorem zV7 (c:Cx) (hc:qP c):aP Tryz.prog 16 [.agg [.i c.m,.i c.st,.i c.er,.i c.sl],.rowE (fF c.ks) 2,.rowE (iF c.ls) 3,.rowE (dY c.bs) 3] [] (.tup [.ptr 0 0,.i 0]) [.cells (kN c (uG c))]:=by
  have hbl:(dY c.bs).length=c.bs.length:=aX _;have h8:=hc.f.n8;have h9:=hc.f.k10;have h10:=hc.f.l10;have hnl:(nats (List.range c.bs.length)).length=c.bs.length:=by simp
  refine yE1 c hc ?_ (ES (HI hc) (by omega) (by omega) (by omega))
  rw [hbl];exact ident_c _ (by omega)
end Go.Proofs.YtojgimibalokkaaGreat
namespace Go.Ld
open Go.Ab Go.Proofs.YtojgimibalokkaaGreat
def e1:Ev:=⟨4,0,1,0,[]⟩
def e2:Ev:=⟨0,0,0,0,[1]⟩
def yJ9:List G:=uG c0
def yJ8:List G:=(lR c0 yJ9 e1).2
def yB5:List G:=(lR c0 yJ8 e2).2
def yK4:List G:=(lR c0 yB5 e2).2
theorem x0:(lR c0 yJ9 e1).1=0:=by decide +kernel
theorem x1:(lR c0 yJ8 e2).1=0:=by decide +kernel
theorem a3:zS2 c0 yK4 [1,0,2] [5,3,2]=true:=by unfold zS2 Go.Pm.permB;rw [W4];decide +kernel
end Go.Ld
namespace Go.Proofs.YtojgimibalokkaaGreat
open Go Go.Ab Go.Ld
attribute [local irreducible] VC AW cF aP kG
set_option maxHeartbeats 4000000
theorem zB9 {S:Nat→Prop}{w:World}{ρ:Pl}{a b d e:AV}{y:Value}(h:R S w (.agg [a,b,d,e,.nils]) ρ y):R S w (.agg [a,b,d,e,.rowE [] 1]) ρ y:=by
  simp only [R] at h ⊢;obtain ⟨ys,e1,h1⟩:=h;exact ⟨ys,e1,lL (fun _ h=>h) (fun _=>lL (fun _ h=>h) fun _=>lL (fun _ h=>h) fun _=>lL (fun _ h=>h) fun _=>lL (fun _ h=>BF h) fun _ h=>h) h1⟩
theorem BQ:Tryz.prog.underlying 33=some (.pointer 64):=by kernel_rfl
end Go.Proofs.YtojgimibalokkaaGreat
namespace Go.Ld
open Go.Ab Go.Proofs.YtojgimibalokkaaGreat Go.Pm
theorem X7 {g:G}{i:Nat}{x:Int}:x∈qC g i↔∃ w,w∈g.2∧gP w i=x:=by
  unfold qC AP;rw [AO _ _ _ (aT _),cQ];have:x∈jJ (H9 g i)↔x∈H9 g i:=(sorted_perm _).mem_iff;rw [this];unfold H9;rw [bB]
theorem IA {g:G}{i:Nat}:∀ k,k≤g.2.length→∀ w,w∈g.2.take k→(RY g i k).1≤(gC w i).1∧(gC w i).2≤(RY g i k).2
  | 0,_,w,hw=>by simp at hw
  | k+1,hk,w,hw=>by
    rw [RX (by omega)]
    rw [aM (by omega)] at hw
    unfold YH;dsimp only;rcases bG.1 hw with hw | hw
    · have:=IA (i:=i) k (by omega) w hw
      omega
    · obtain rfl:=bH.1 hw;omega
theorem zG3 {g:G}{i:Nat}{w:W}(hw:w∈g.2):(zG4 g i).1≤(gC w i).1∧(gC w i).2≤(zG4 g i).2:=
  IA _ (aT _) w (by rw [cQ];exact hw)
theorem uT:∀ {gs:List G}{f:As}{M:Int},Sem gs f M→∀ {g:G},g∈gs→∃ w,w∈g.2∧oJ g.1 w f
  | [],_,_,_,_,hg=>by cases hg
  | x::gs,f,M,⟨m,⟨w,h1,h2,_⟩,h3⟩,g,hg=>by
    rcases bT.1 hg with rfl | hg
    · exact ⟨w,h1,h2⟩
    · exact uT h3 hg
theorem zF1 {c:Cx}{gs:List G}{p q:List Int}(h:kQ c gs) (ha:zS2 c gs p q=true){b:Int}(hb:0≤b∧b<c.bs.length){g:G}{i:Nat}(hg:tD gs b=some (g,i)) :
    p.getD b.toNat 0∈qC g i∧(zG4 g i).1≤q.getD (p.getD b.toNat 0).toNat 0∧q.getD (p.getD b.toNat 0).toNat 0<(zG4 g i).2:=by
  obtain ⟨_,_,_,f,hf,hs⟩:=(U6 h).1 ha;obtain ⟨k,h1,h2,h3,h4⟩:=nC hg;obtain ⟨w,hw,hfw⟩:=uT hs (aH h2);have hi:i<g.1.length:=by rw [h4];exact gR h3
  have hib:g.1[i]=b:=by
    obtain ⟨hx,e⟩:=wV h3;subst h4;exact e
  have e1:=N6 hfw hi;have e2:=Z7 hfw hi;rw [hib] at e1 e2;obtain ⟨o1,o2⟩:=hf b hb.1 hb.2;have hc:=zG3 (i:=i) hw;rw [e2] at hc;unfold vH at o2;simp only [aJ,decide_eq_true_eq] at o2;exact ⟨X7.2 ⟨w,hw,by rw [e1,o1]⟩,by omega,by omega⟩
end Go.Ld
namespace Go.Ld
open Go.Ab Go.Proofs.YtojgimibalokkaaGreat
abbrev vJ (l:List Ev):List (List AV):=l.map C4
def zD4 (l:List Ev):Nat:=l.countP fun s=>decide (s.k=4)
def C3 (l:List Ev) (m:Nat):Bool:=(l.take (m+1)).all (fun s=>decide (s.ids.length≤12))&&decide (l.length≤m)&&decide (zD4 (l.take (m+1))≤5)
theorem jV (l:List Ev):∀ e,e∈vJ l→e.length=5:=by intro e he;obtain ⟨n,_,rfl⟩:=bB.1 he;rfl
theorem AL {l:List Ev}{k:Nat}(h:k<l.length):(vJ l)[(k:Int).toNat]? = some (C4 l[k]):=by simp [h]
end Go.Ld
namespace Go.Proofs.YtojgimibalokkaaGreat
open Go Go.Ab Go.Ld
attribute [local irreducible] VC AW cF aP kG
set_option maxHeartbeats 4000000
theorem FU (l:List Ev) (m:Nat) (hm:m≤1000) (hids:∀ s,s∈l→s.ids.length≤9223372036854775807):aP Tryz.prog 5 [.rowE (vJ l) 5,.i m] [] (.b (C3 l m)) []:=by
  have hll:(vJ l).length=l.length:=aX _;have hbad:∀ k (hk:k<l.length),k≤m→¬ l[k].ids.length≤12→C3 l m=false:=fun k hk hkm hb=>by
    unfold C3;rw [show (l.take (m+1)).all (fun s=>decide (s.ids.length≤12))=false from vT.2 ⟨l[k],O6.2 ⟨k,by omega,rfl⟩,by simpa using hb⟩];rfl
  have hgood:(∀ s,s∈l.take (m+1)→s.ids.length≤12)→C3 l m=(decide (l.length≤m)&&decide (zD4 (l.take (m+1))≤5)):=fun h=>by
    unfold C3;rw [bA.2 fun s hs=>decide_eq_true (h s hs),gL]
  generalize C3 l m=R at *;refine bL T Tryz.func5 rfl rfl rfl rfl ?_
  (repeat' (first|refine wS ?_|refine wB ?_|(refine rg 0 (aV ?_))|(refine rg 1 (aV ?_))|(refine rg 2 (aV ?_))|refine nZ ?_));refine cX (X:={k:Nat // k≤l.length∧k≤m+1∧∀ s,s∈l.take k→s.ids.length≤12}) (fun k=>[(0,.rowE (vJ l) 5),(1,.i m),(5,.i (zD4 (l.take k.1))),(6,.i k.1)]) (fun _=>[]) (fun k=>l.length-k.1) ⟨0,cC _,cC _,fun s hs=>by simp at hs⟩ (fU []) ?_
  rintro ⟨k,hk,hkm,hall⟩;dsimp only;have hsw:zD4 (l.take k)≤k:=bY GS (by rw [bE];omega)
  by_cases hlt:k<l.length∧k≤m
  · obtain ⟨h1,h2⟩:=hlt;have hg:=AL h1;have hts:l.take (k+1)=l.take k++[l[k]]:=aM h1;have hs1:zD4 (l.take (k+1))=zD4 (l.take k)+(if l[k].k=4 then 1 else 0):=by rw [hts];unfold zD4;rw [List.countP_append];simp [BM]
    have hbk:=hbad k h1 h2;have hx:=hids l[k] (aI h1);have hil:(Go.Ab.ints l[k].ids).length=l[k].ids.length:=aX _;have hall2:l[k].ids.length≤12→∀ s,s∈l.take (k+1)→s.ids.length≤12:=fun hq s hs=>by
      rw [hts] at hs;rcases bG.1 hs with hs | hs
      · exact hall s hs
      · rw [bH.1 hs];exact hq
    generalize l[k]=s at *;generalize hS1:zD4 (l.take (k+1))=S1 at *;generalize zD4 (l.take k)=S at *;by_cases hi:s.ids.length≤12
    · by_cases h4:s.k=4
      · rw [if_pos h4] at hs1
        (repeat' (first|refine wS ?_|refine wB ?_|refine wK ?_|refine wT ?_|(refine wC rfl ?_ ?_<;>(intro hb;(try simp only [nm] at hb);try (exfalso;omega)))|(refine rg 3 (dR rfl (qW T rfl (vV (aK rfl rfl) (mV ?_))));refine aY rfl rfl ?_ ?_<;>(intro hb;rw [hb];(try simp only [nm] at hb);try (exfalso;omega));(all_goals (refine yN rfl (yN rfl (yV (jP rfl rfl) (pV ?_))))))|(refine rg 5 (dR rfl (vV (ix T rfl (by omega) (jV _) hg) (fR T rfl (qW T rfl (vV (dX rfl rfl) ?_))))))|(refine rg 7 (dR rfl (vV (ix T rfl (by omega) (jV _) hg) (fR T rfl (vV (jL rfl rfl (by omega)) ?_)))))|(refine iA 8 rfl rfl rfl (by omega) (by omega) ?_)|(refine iA 4 rfl rfl rfl (by omega) (by omega) ?_)|refine nZ ?_));all_goals try (exfalso;omega)
        exact ⟨⟨k+1,h1,by omega,hall2 hi⟩,by dsimp only;omega,[],rfl,⟨rfl,rfl,by dsimp only;rw [hS1,hs1];rfl,rfl,trivial⟩,trivial,bK,kP _⟩
      · rw [if_neg h4] at hs1
        (repeat' (first|refine wS ?_|refine wB ?_|refine wK ?_|refine wU ?_|(refine wC rfl ?_ ?_<;>(intro hb;(try simp only [nm] at hb);try (exfalso;omega)))|(refine rg 3 (dR rfl (qW T rfl (vV (aK rfl rfl) (mV ?_))));refine aY rfl rfl ?_ ?_<;>(intro hb;rw [hb];(try simp only [nm] at hb);try (exfalso;omega));(all_goals (refine yN rfl (yN rfl (yV (jP rfl rfl) (pV ?_))))))|(refine rg 5 (dR rfl (vV (ix T rfl (by omega) (jV _) hg) (fR T rfl (qW T rfl (vV (dX rfl rfl) ?_))))))|(refine rg 7 (dR rfl (vV (ix T rfl (by omega) (jV _) hg) (fR T rfl (vV (fB rfl rfl (by omega)) ?_)))))|(refine iA 4 rfl rfl rfl (by omega) (by omega) ?_)|refine nZ ?_));all_goals try (exfalso;omega)
        exact ⟨⟨k+1,h1,by omega,hall2 hi⟩,by dsimp only;omega,[],rfl,⟨rfl,rfl,by dsimp only;rw [hS1,hs1];rfl,rfl,trivial⟩,trivial,bK,kP _⟩
    · have hR:=hbk hi;subst hR
      (repeat' (first|refine wS ?_|refine wB ?_|refine wK ?_|refine wR ?_|(refine wC rfl ?_ ?_<;>(intro hb;(try simp only [nm] at hb);try (exfalso;omega)))|(refine rg 3 (dR rfl (qW T rfl (vV (aK rfl rfl) (mV ?_))));refine aY rfl rfl ?_ ?_<;>(intro hb;rw [hb];(try simp only [nm] at hb);try (exfalso;omega));(all_goals (refine yN rfl (yN rfl (yV (jP rfl rfl) (pV ?_))))))|(refine rg 5 (dR rfl (vV (ix T rfl (by omega) (jV _) hg) (fR T rfl (qW T rfl (vV (dX rfl rfl) ?_))))))|(refine rg 6 (aV ?_))|refine nZ ?_));all_goals try (exfalso;omega)
      all_goals exact rQ
  · have hke:l.take k=l.take (m+1):=by
      rcases iR k l.length with h | h
      · rw [show k=m+1 by omega]
      · rw [cD h,cD (by omega)]
    rw [hke] at hall hsw ⊢;have hR:=hgood hall;subst hR;generalize zD4 (l.take (m+1))=S at *
    (repeat' (first|refine wS ?_|refine wR ?_|refine wE ?_|refine wU ?_|(refine wC rfl ?_ ?_<;>(intro hb;(try simp only [nm] at hb);try (exfalso;omega)))|(refine rg 3 (dR rfl (qW T rfl (vV (aK rfl rfl) (mV ?_))));refine aY rfl rfl ?_ ?_<;>(intro hb;rw [hb];(try simp only [nm] at hb);try (exfalso;omega));(all_goals first|(refine gT (mW rfl (gT (mW rfl (gT (vV (jP rfl rfl) ?_))))))|(iterate 3 refine gF ?_));(all_goals (refine pV ?_)))|(refine rg 9 (mW rfl (qW T rfl (mW rfl (vV (jP rfl rfl) (mV ?_)))));refine aY rfl rfl ?_ ?_<;>(intro hb;rw [hb];(try simp only [nm] at hb);try (exfalso;omega));(all_goals first|(refine gT (mW rfl (gT (vV (jP rfl rfl) ?_))))|(iterate 2 refine gF ?_));(all_goals (refine pW rfl (aV ?_))))|refine nZ ?_));all_goals try (exfalso;omega)
    all_goals (refine cM (.inl rfl) rfl (lX ?_);first | rfl | (rw [iK];simp;omega) | (simp [*];omega) | skip)
end Go.Proofs.YtojgimibalokkaaGreat
namespace Go.Proofs.YtojgimibalokkaaGreat
open Go Go.Ab
attribute [local irreducible] VC AW cF aP
set_option maxHeartbeats 4000000
end Go.Proofs.YtojgimibalokkaaGreat
namespace Go.Ld
open Go.Ab Go.Proofs.YtojgimibalokkaaGreat
theorem OF {l:List Int}{x:Int}(hx:x∈l) (h:(YG l).2=true):(YG l).1=x:=by
  unfold YG at h ⊢;split at h
  · rename_i h1;rw [if_pos h1];obtain ⟨y,rfl⟩:=CA.1 h1;rw [bH.1 hx];rfl
  · cases h
theorem zT2 {l u n:Int}(hu:0<u):(l+u-1) / u≤n↔l≤n*u:=by
  have h:(l+u-1) / u<n+1↔l+u-1<(n+1)*u:=Int.ediv_lt_iff_lt_mul hu;rw [Int.add_mul] at h;omega
theorem zT1 {l u n:Int}(hu:0<u):n<l / u+1↔n*u≤l:=by
  have h:n≤l / u↔n*u≤l:=Int.le_ediv_iff_mul_le hu;omega
theorem nQ {f t n:Int}:vH f t n=true↔f≤n∧n<t:=by unfold vH;simp
theorem AN {f t v:Int}(h0:0≤v) (h1:v≤20000):((J1 f t).2=true∧vH (J1 f t).1.1 (J1 f t).1.2 v=true)↔f≤v∧v<t:=by
  unfold J1;dsimp only;rw [nQ];rcases AM f t with ⟨a,b,d,e⟩ | ⟨a,b,d,e⟩
  · rw [a,b,d];constructor
    · rintro ⟨_,_⟩;omega
    · intro _;exact ⟨rfl,by omega⟩
  · rw [a];constructor
    · rintro ⟨h,_⟩;cases h
    · intro _;omega
theorem zD9 {t u w e v:Int}(hf:0≤t∧t≤1099511627776∧0≤u∧u≤1099511627776∧0≤w∧w≤1099511627776∧0≤e∧e≤1099511627776) (h0:0≤v) (h1:v≤20000) :
    ((UX t u w e).2=true∧vH (UX t u w e).1.1 (UX t u w e).1.2 v=true)↔w-e≤t+v*u∧t+v*u≤w+e:=by
  have b1:0≤v*u:=Int.mul_nonneg h0 hf.2.2.1;unfold UX;rw [if_pos (show DX t u w e=true by unfold DX;rw [decide_eq_true_eq];exact hf)]
  by_cases c1:w+e-t<0∨u=0∧0<w-e-t
  · rw [if_pos c1];constructor
    · rintro ⟨h,_⟩;cases h
    · rintro ⟨a,b⟩;rcases c1 with c1 | ⟨rfl,c1⟩ <;> omega
  · rw [if_neg c1];by_cases c2:u=0
    · rw [if_pos c2];dsimp only;rw [nQ];subst c2;constructor
      · rintro ⟨_,_⟩;omega
      · rintro _;exact ⟨rfl,by omega⟩
    · rw [if_neg c2,AN h0 h1];have hu:0<u:=by omega
      have g1:yC1 t u w e≤v↔max (w-e-t) 0≤v*u:=zT2 hu;have g2:v<yC0 t u w e↔v*u≤w+e-t:=zT1 hu;omega
theorem QZ {t u w e v:Int}{r:SP}(hf:0≤t∧t≤1099511627776∧0≤u∧u≤1099511627776∧0≤w∧w≤1099511627776∧0≤e∧e≤1099511627776) (h0:0≤v) (h1:v≤20000) :
    ((uC t u w e r).2=true∧vH (uC t u w e r).1.1 (uC t u w e r).1.2 v=true)↔vH r.1 r.2 v=true∧w-e≤t+v*u∧t+v*u≤w+e:=by
  have hw:=zD9 hf h0 h1;unfold uC;generalize UX t u w e=q at *;dsimp only;by_cases hq:q.2=true
  · rw [if_pos hq,AN h0 h1,← hw,nQ,nQ];constructor
    · intro h;exact ⟨by omega,hq,by omega⟩
    · rintro ⟨a,_,b⟩;omega
  · rw [if_neg hq,← hw];constructor
    · rintro ⟨a,_⟩;exact absurd a hq
    · rintro ⟨_,a,_⟩;exact absurd a hq
theorem QI {c:Cx}{s:Ev}{x:Int × SP}{v:Int}(hb:0≤(c.bs.getD x.1.toNat (0,0,0)).2.2∧(c.bs.getD x.1.toNat (0,0,0)).2.2≤1073741824)
    (hu:0≤mT c.ks c.ls (c.bs.getD x.1.toNat (0,0,0)).1∧mT c.ks c.ls (c.bs.getD x.1.toNat (0,0,0)).1≤1048576) (hs:mH c.m c.st c.er c.sl) (hn:s.k=1→0≤s.n∧s.n≤1099511627776) (h0:0≤v) (h1:v≤20000) (h2:s.k≠2) :
    ((J6 c s x).2.2=true∧vH (J6 c s x).1.2.1 (J6 c s x).1.2.2 v=true)↔vH x.2.1 x.2.2 v=true∧BB c.st c.er c.sl x.1 v ((c.bs.getD x.1.toNat (0,0,0)).2.2+v*mT c.ks c.ls (c.bs.getD x.1.toNat (0,0,0)).1) s.k s.n s.ids=true:=by
  unfold mH at hs;unfold J6 BB;by_cases k0:s.k=0
  · rw [if_pos k0,if_pos k0];by_cases hm:x.1∈s.ids
    · rw [if_pos hm,if_pos hm];dsimp only;exact And.comm
    · rw [if_neg hm,if_neg hm];dsimp only;rw [Int.sub_zero];exact And.comm
  rw [if_neg k0,if_neg k0];by_cases k1:s.k=1
  · rw [if_pos k1,if_pos k1];dsimp only;have hn:=hn k1;rw [QZ (by omega) h0 h1]
    unfold eF;simp
  rw [if_neg k1,if_neg k1,if_neg h2,if_neg h2];by_cases k3:s.k=3
  · rw [if_pos k3,if_pos k3];dsimp only;rw [nQ,nQ,nQ,decide_eq_true_eq];omega
  rw [if_neg k3,if_neg k3];by_cases k5:s.k=5
  · rw [if_pos k5,if_pos k5];dsimp only;rw [decide_eq_true_eq,decide_eq_true_eq];constructor
    · rintro ⟨a,b⟩;exact ⟨b,a.symm⟩
    · rintro ⟨a,b⟩;exact ⟨b.symm,a⟩
  · rw [if_neg k5,if_neg k5];exact And.comm
theorem KL {c:Cx}{s:Ev}{x:Int × SP}{v:Int}(hx:0≤x.2.1∧x.2.1<x.2.2∧x.2.2≤20001) (hs:mH c.m c.st c.er c.sl) (hn:0≤s.n∧s.n≤1099511627776) (h0:0≤v) (h1:v≤20000) (h2:s.k=2) :
    ((J6 c s x).2.2=true∧vH (J6 c s x).1.2.1 (J6 c s x).1.2.2 v=true)↔∃ u d:Int,vH x.2.1 x.2.2 u=true∧s.n-c.sl≤u∧0≤d∧d≤u∧s.n-c.sl≤d∧d≤s.n+c.sl∧v=u-d:=by
  unfold mH at hs;unfold J6;rw [if_neg (by omega),if_neg (by omega),if_pos h2]
  dsimp only;unfold yS;rw [if_pos (by omega),AN h0 h1]
  simp only [nQ];constructor
  · intro h;by_cases hc:v+max (s.n-c.sl) 0≤x.2.1
    · exact ⟨x.2.1,x.2.1-v,by omega,by omega,by omega,by omega,by omega,by omega,by omega⟩
    · exact ⟨v+max (s.n-c.sl) 0,max (s.n-c.sl) 0,by omega,by omega,by omega,by omega,by omega,by omega,by omega⟩
  · rintro ⟨u,d,a1,a2,a3,a4,a5,a6,rfl⟩;omega
theorem KM {c:Cx}{s:Ev}{x:Int × SP}(h:(J6 c s x).2.2=true):(J6 c s x).2.1=UR c.st x.1 s.k s.ids:=by
  unfold J6 UR at *;by_cases k0:s.k=0
  · rw [if_pos k0] at h ⊢;rw [if_pos k0];by_cases hm:x.1∈s.ids
    · rw [if_pos hm] at h ⊢;simp only [if_pos hm];simp only [decide_eq_true_eq] at h;rw [if_neg (by omega)]
    · rw [if_neg hm] at h ⊢;simp only [if_neg hm];simp only [decide_eq_true_eq] at h;rw [if_neg (by omega)]
  · rw [if_neg k0,if_neg k0]
    repeat' split
    all_goals rfl
def rS (p:List Int) (s:Ev) (done:Int):List Int:=if s.k=4∧done=1 then (p.set s.a.toNat (p.getD s.b.toNat 0)).set s.b.toNat (p.getD s.a.toNat 0) else p
def tE (p q:List Int) (s:Ev) (done:Int):List Int:=if s.k=2 then q.set (p.getD s.a.toNat 0).toNat (q.getD (p.getD s.a.toNat 0).toNat 0-done) else q
def GL (c:Cx) (p q:List Int) (s:Ev):Bool:=
  BB c.st c.er c.sl (p.getD s.a.toNat 0) (q.getD (p.getD s.a.toNat 0).toNat 0) ((c.bs.getD (p.getD s.a.toNat 0).toNat (0,0,0)).2.2+q.getD (p.getD s.a.toNat 0).toNat 0*mT c.ks c.ls (c.bs.getD (p.getD s.a.toNat 0).toNat (0,0,0)).1) s.k s.n s.ids
def rR (c:Cx) (p q:List Int) (s:Ev) (done:Int):Bool:=C5 c.sl (q.getD (p.getD s.a.toNat 0).toNat 0) s.k s.n done
def rD (c:Cx) (p:List Int) (s:Ev):Int:=UR c.st (p.getD s.a.toNat 0) s.k s.ids
def xX (c:Cx) (p q:List Int) (f:As):Prop:=∀ b:Int,0≤b→b<c.bs.length→QU p q (f b) b
structure PQ (c:Cx) (p q:List Int):Prop where
  pl:p.length=c.bs.length
  ql:q.length=c.bs.length
  pp:p.Perm (nats (List.range c.bs.length))
  q0:∀ x,x∈q→0≤x∧x≤20000
theorem Y0 {p:List Int}{n:Nat}(hl:p.length=n):Go.Pm.permB p=true↔p.Perm (nats (List.range n)):=by
  unfold Go.Pm.permB;rw [decide_eq_true_eq,hl];constructor
  · intro h;rw [← h];exact (Go.Pm.sorted_perm p).symm
  · intro h;refine List.Perm.eq_of_pairwise (le:=fun a b=>a≤b) (fun a b _ _ h1 h2=>Int.le_antisymm h1 h2) ?_ ?_ ((Go.Pm.sorted_perm p).trans h)
    · have:=BI (le:=fun x y:Int=>decide (x≤y)) (fun a b d h1 h2=>decide_eq_true (F6 (of_decide_eq_true h1) (of_decide_eq_true h2))) (fun a b=>by rw [C7,decide_eq_true_eq,decide_eq_true_eq];omega) p
      exact this.imp (fun h=>of_decide_eq_true h)
    · exact (BZ (n:=n)).imp (fun h=>h) |>.map _ (fun a b h=>by omega)
theorem PQ.at {c:Cx}{p q:List Int}(h:PQ c p q){b:Int}(h0:0≤b) (h1:b<c.bs.length):0≤p.getD b.toNat 0∧p.getD b.toNat 0<c.bs.length:=by
  have hl:=h.pl;have hm:p.getD b.toNat 0∈p:=by rw [aC,aA (by omega)];exact aI _
  exact vA.1 (h.pp.mem_iff.1 hm)
theorem PQ.inj {c:Cx}{p q:List Int}(h:PQ c p q){a b:Int}(h0:0≤a) (h1:a<c.bs.length) (h2:0≤b) (h3:b<c.bs.length) (e:p.getD a.toNat 0=p.getD b.toNat 0):a=b:=by
  have hl:=h.pl;have nd:p.Nodup:=h.pp.nodup_iff.2 (A0 _);rw [aC,aA (by omega),aC,aA (by omega)] at e
  have:=(BK nd).1 e;omega
theorem PQ.ct {c:Cx}{p q:List Int}(h:PQ c p q){x:Int}(h0:0≤x) (h1:x<c.bs.length):0≤q.getD x.toNat 0∧q.getD x.toNat 0≤20000:=by
  have hl:=h.ql;refine h.q0 _ ?_;rw [aC,aA (by omega)];exact aI _
theorem zK {c:Cx}{p q:List Int}{s:Ev}{done:Int}(hk:s.k=2) (h:rR c p q s done=true):0≤done∧done≤q.getD (p.getD s.a.toNat 0).toNat 0∧s.n-c.sl≤done∧done≤s.n+c.sl:=by
  unfold rR C5 eF at h;rw [if_pos hk] at h;simp only [aJ,decide_eq_true_eq] at h;omega
theorem zM {p:List Int}{s:Ev}{done:Int}:(rS p s done).length=p.length:=by unfold rS;split <;> simp
theorem zB6 {p q:List Int}{s:Ev}{done:Int}:(tE p q s done).length=q.length:=by unfold tE;split <;> simp
theorem CQ {l:List Int}{i j:Nat}(hi:i<l.length) (hj:j<l.length) (hne:i≠j):((l.set i (l.getD j 0)).set j (l.getD i 0)).Perm l:=by
  have h:((l.set i (l.getD j 0)).set j (l.getD i 0)).Perm l:=List.perm_iff_count.2 fun x=>by
    have e1:l.getD i 0=l[i]:=by simp [List.getD,hi]
    have e2:l.getD j 0=l[j]:=by simp [List.getD,hj]
    rw [e1,e2,List.count_set (by simpa using hj),List.count_set hi,List.getElem_set_ne hne]
    have c1:l[i]∈l:=aI _;have c2:l[j]∈l:=aI _;have p1:=List.count_pos_iff.2 c1;have p2:=List.count_pos_iff.2 c2;by_cases a1:l[i]=x
    · by_cases a2:l[j]=x
      · rw [a1] at p1;simp [a1,a2];omega
      · rw [a1] at p1;simp [a1,a2];omega
    · by_cases a2:l[j]=x
      · simp [a1,a2]
      · simp [a1,a2]
  exact h
theorem PQ.aft {c:Cx}{p q:List Int}{s:Ev}{done:Int}(h:PQ c p q) (ha:0≤s.a∧s.a<c.bs.length) (hb:s.k=4→s.a<s.b∧s.b<c.bs.length) (hc:rR c p q s done=true):PQ c (rS p s done) (tE p q s done) where
  pl:=by rw [zM];exact h.pl
  ql:=by rw [zB6];exact h.ql
  pp:=by
    refine List.Perm.trans ?_ h.pp;have hl:=h.pl;unfold rS;split
    · rename_i hk;have:=hb hk.1;exact CQ (by omega) (by omega) (by omega)
    · exact .refl _
  q0:=fun x hx=>by
    unfold tE at hx;split at hx
    · rename_i hk;rcases fQ hx with hx | rfl
      · exact h.q0 x hx
      · have:=zK hk hc;obtain ⟨i0,i1⟩:=h.at ha.1 ha.2;have:=h.ct i0 i1;omega
    · exact h.q0 x hx
theorem zC {l:List Int}{i j:Nat}{x:Int}(hj:i<l.length):(l.set i x).getD j 0=if j=i then x else l.getD j 0:=fL hj
theorem qP.box {c:Cx}(h:qP c){x:Int}(h0:0≤x) (h1:x<c.bs.length):(0≤(c.bs.getD x.toNat (0,0,0)).2.2∧(c.bs.getD x.toNat (0,0,0)).2.2≤1073741824)∧(0≤mT c.ks c.ls (c.bs.getD x.toNat (0,0,0)).1∧mT c.ks c.ls (c.bs.getD x.toNat (0,0,0)).1≤1048576):=by
  have hx:x.toNat<c.bs.length:=by omega
  have hb:=h.f.b _ hx;have e:c.bs.getD x.toNat (0,0,0)=c.bs[x.toNat]:=by rw [aC,aA hx];rfl
  rw [e];exact ⟨by omega,OB h.f hb.2.1⟩
theorem SA {c:Cx}{p q:List Int}{f:As}{s:Ev}{done:Int}(hc:qP c) (h:PQ c p q) (hf:xX c p q f) (hS:∀ b:Int,0≤b→b<c.bs.length→LH (f b).2)
    (ha:0≤s.a∧s.a<c.bs.length) (hb:s.k=4→s.a<s.b∧s.b<c.bs.length) (hn:s.k=1∨s.k=2→0≤s.n∧s.n≤1099511627776) (hag:GL c p q s=true) (hcan:rR c p q s done=true) :
    ∃ f',BV c s f f' (rD c p s)∧xX c (rS p s done) (tE p q s done) f':=by
  have hpl:=h.pl;have hql:=h.ql;by_cases hsw:s.k=4∧done=1
  · refine ⟨OE f s.a s.b,.inr ⟨hsw.1,rfl,by unfold rD UR;rw [if_neg (by omega)]⟩,fun b b0 b1=>?_⟩
    have hb:=hb hsw.1;have eq:tE p q s done=q:=by unfold tE;rw [if_neg (by omega)]
    rw [eq];have ep:(rS p s done).getD b.toNat 0=if b=s.a then p.getD s.b.toNat 0 else if b=s.b then p.getD s.a.toNat 0 else p.getD b.toNat 0:=by
      unfold rS;rw [if_pos hsw,zC (by simp;omega),zC (by omega)]
      by_cases e1:b=s.a
      · rw [if_pos e1,if_neg (by omega),if_pos (by omega)]
      · rw [if_neg e1];by_cases e2:b=s.b
        · rw [if_pos e2,if_pos (by omega)]
        · rw [if_neg e2,if_neg (by omega),if_neg (by omega)]
    have h1:=hf s.a ha.1 ha.2;have h2:=hf s.b (by omega) hb.2
    have h3:=hf b b0 b1;unfold QU OE at *;rw [ep];by_cases e1:b=s.a
    · rw [if_pos e1,if_pos e1];exact h2
    · rw [if_neg e1,if_neg e1];by_cases e2:b=s.b
      · rw [if_pos e2,if_pos e2];exact h1
      · rw [if_neg e2,if_neg e2];exact h3
  · have ep:rS p s done=p:=by unfold rS;rw [if_neg hsw]
    rw [ep];obtain ⟨i0,i1⟩:=h.at ha.1 ha.2;obtain ⟨q0,q1⟩:=h.ct i0 i1;obtain ⟨o1,o2⟩:=hf s.a ha.1 ha.2;obtain ⟨hbx,hu⟩:=hc.box i0 i1;have hsa:=hS s.a ha.1 ha.2;have key:(J6 c s (f s.a)).2.2=true∧vH (J6 c s (f s.a)).1.2.1 (J6 c s (f s.a)).1.2.2 ((tE p q s done).getD (p.getD s.a.toNat 0).toNat 0)=true:=by
      by_cases k2:s.k=2
      · have hr:=zK k2 hcan;have e:(tE p q s done).getD (p.getD s.a.toNat 0).toNat 0=q.getD (p.getD s.a.toNat 0).toNat 0-done:=by
          unfold tE;rw [if_pos k2,zC (by omega),if_pos rfl]
        rw [e];refine (KL ⟨hsa.1,hsa.2.1,hsa.2.2⟩ hc.s (hn (.inr k2)) (by omega) (by omega) k2).2 ⟨_,done,o2,?_,by omega,by omega,by omega,by omega,rfl⟩
        unfold GL BB at hag;rw [if_neg (by omega),if_neg (by omega),if_pos k2,decide_eq_true_eq] at hag
        exact hag
      · have e:tE p q s done=q:=by unfold tE;rw [if_neg k2]
        rw [e];have o1':(f s.a).1=p.getD s.a.toNat 0:=o1;refine (QI (by rw [o1'];exact hbx) (by rw [o1'];exact hu) hc.s (fun k=>hn (.inl k)) q0 q1 k2).2 ⟨o2,?_⟩
        rw [o1'];exact hag
    refine ⟨upd f s.a (J6 c s (f s.a)).1,.inl ⟨key.1,rfl,?_⟩,fun b b0 b1=>?_⟩
    · rw [KM key.1,show (f s.a).1=p.getD s.a.toNat 0 from o1];rfl
    · have h3:=hf b b0 b1;unfold QU upd at *;by_cases e1:b=s.a
      · rw [if_pos e1,GG,e1];exact ⟨o1,key.2⟩
      · rw [if_neg e1];refine ⟨h3.1,?_⟩;have hne:(p.getD b.toNat 0).toNat≠(p.getD s.a.toNat 0).toNat:=fun e=>by
          obtain ⟨j0,j1⟩:=h.at b0 b1;exact e1 (h.inj b0 b1 ha.1 ha.2 (by omega))
        have e:(tE p q s done).getD (p.getD b.toNat 0).toNat 0=q.getD (p.getD b.toNat 0).toNat 0:=by
          unfold tE;split
          · rw [zC (by omega),if_neg hne]
          · rfl
        rw [e];exact h3.2
theorem SB {c:Cx}{p' q':List Int}{f f':As}{s:Ev}{d:Int}(hc:qP c) (h:PQ c p' q') (hst:BV c s f f' d) (hf:xX c p' q' f') (hS:∀ b:Int,0≤b→b<c.bs.length→LH (f b).2)
    (ha:0≤s.a∧s.a<c.bs.length) (hb:s.k=4→s.a<s.b∧s.b<c.bs.length) (hn:s.k=1∨s.k=2→0≤s.n∧s.n≤1099511627776) :
    ∃ p q done,PQ c p q∧xX c p q f∧GL c p q s=true∧rR c p q s done=true∧d=rD c p s∧p'=rS p s done∧q'=tE p q s done:=by
  have hpl:=h.pl;have hql:=h.ql;rcases hst with ⟨hok,rfl,rfl⟩ | ⟨hk,rfl,rfl⟩
  · obtain ⟨i0,i1⟩:=h.at ha.1 ha.2;obtain ⟨q0,q1⟩:=h.ct i0 i1;obtain ⟨hbx,hu⟩:=hc.box i0 i1;obtain ⟨o1,o2⟩:=hf s.a ha.1 ha.2;have hsa:=hS s.a ha.1 ha.2;unfold upd at o1 o2;rw [if_pos rfl] at o1 o2;rw [GG] at o1;have hm:(J6 c s (f s.a)).2.1=rD c p' s:=by rw [KM hok,o1];rfl
    by_cases k2:s.k=2
    · obtain ⟨u,dn,a1,a2,a3,a4,a5,a6,a7⟩:=(KL ⟨hsa.1,hsa.2.1,hsa.2.2⟩ hc.s (hn (.inr k2)) q0 q1 k2).1 ⟨hok,o2⟩;have hu2:=nQ.1 a1;have hgx:(q'.set (p'.getD s.a.toNat 0).toNat u).getD (p'.getD s.a.toNat 0).toNat 0=u:=by rw [zC (by omega),if_pos rfl]
      refine ⟨p',q'.set (p'.getD s.a.toNat 0).toNat u,dn,⟨hpl,by simpa using hql,h.pp,fun x hx=>?_⟩,fun b b0 b1=>?_,?_,?_,hm,?_,?_⟩
      · rcases fQ hx with hx | rfl
        · exact h.q0 x hx
        · have:=hsa.2.2;have:=hsa.1;omega
      · have h3:=hf b b0 b1;unfold QU upd at *;by_cases e1:b=s.a
        · subst e1;rw [hgx];exact ⟨o1,a1⟩
        · rw [if_neg e1] at h3;refine ⟨h3.1,?_⟩;rw [zC (by omega),if_neg]
          · exact h3.2
          · intro e;obtain ⟨j0,j1⟩:=h.at b0 b1;exact e1 (h.inj b0 b1 ha.1 ha.2 (by omega))
      · unfold GL BB;rw [if_neg (by omega),if_neg (by omega),if_pos k2,hgx,decide_eq_true_eq];exact a2
      · unfold rR C5 eF;rw [if_pos k2,hgx];simp only [aJ,decide_eq_true_eq];omega
      · unfold rS;rw [if_neg (by omega)]
      · unfold tE;rw [if_pos k2,hgx,List.set_set,← a7];exact (HT _ (by omega)).symm
    · have hx:=(QI (c:=c) (s:=s) (x:=f s.a) (by rw [o1];exact hbx) (by rw [o1];exact hu) hc.s (fun k=>hn (.inl k)) q0 q1 k2).1 ⟨hok,o2⟩
      refine ⟨p',q',0,h,fun b b0 b1=>?_,?_,?_,hm,?_,?_⟩
      · have h3:=hf b b0 b1;unfold QU upd at *;by_cases e1:b=s.a
        · subst e1;exact ⟨o1,hx.1⟩
        · rw [if_neg e1] at h3;exact h3
      · have:=hx.2;rw [o1] at this;exact this
      · unfold rR C5;rw [if_neg k2];split <;> rfl
      · unfold rS;rw [if_neg (by omega)]
      · unfold tE;rw [if_neg k2]
  · have hb:=hb hk;have hag:∀ p q,GL c p q s=true:=fun p q=>by unfold GL BB;rw [if_neg (by omega),if_neg (by omega),if_neg (by omega),if_neg (by omega),if_neg (by omega)]
    have hp1:((p'.set s.a.toNat (p'.getD s.b.toNat 0)).set s.b.toNat (p'.getD s.a.toNat 0)).Perm p':=CQ (by omega) (by omega) (by omega)
    have g:∀ b:Int,0≤b→b<c.bs.length→((p'.set s.a.toNat (p'.getD s.b.toNat 0)).set s.b.toNat (p'.getD s.a.toNat 0)).getD b.toNat 0=if b=s.a then p'.getD s.b.toNat 0 else if b=s.b then p'.getD s.a.toNat 0 else p'.getD b.toNat 0:=fun b b0 b1=>by
      rw [zC (by simp;omega),zC (by omega)]
      by_cases e1:b=s.a
      · rw [if_pos e1,if_neg (by omega),if_pos (by omega)]
      · rw [if_neg e1];by_cases e2:b=s.b
        · rw [if_pos e2,if_pos (by omega)]
        · rw [if_neg e2,if_neg (by omega),if_neg (by omega)]
    refine ⟨(p'.set s.a.toNat (p'.getD s.b.toNat 0)).set s.b.toNat (p'.getD s.a.toNat 0),q',1,⟨by simpa using hpl,hql,hp1.trans h.pp,h.q0⟩,fun b b0 b1=>?_,hag _ _,?_,?_,?_,?_⟩
    · have h1:=hf s.a ha.1 ha.2;have h2:=hf s.b (by omega) hb.2
      have h3:=hf b b0 b1;unfold QU OE at *;rw [g b b0 b1];rw [if_pos rfl] at h1;rw [if_neg (by omega),if_pos rfl] at h2
      by_cases e1:b=s.a
      · subst e1;rw [if_pos rfl];exact h2
      · rw [if_neg e1] at h3 ⊢;by_cases e2:b=s.b
        · subst e2;rw [if_pos rfl];exact h1
        · rw [if_neg e2] at h3 ⊢;exact h3
    · unfold rR C5;rw [if_neg (by omega),if_pos hk];rfl
    · unfold rD UR;rw [if_neg (by omega)]
    · unfold rS;rw [if_pos ⟨hk,rfl⟩,g s.a ha.1 ha.2,g s.b (by omega) hb.2,if_pos rfl,if_neg (by omega),if_pos rfl]
      refine kX (by simp) fun i h1 h2=>?_
      simp only [List.getElem_set];have ea:p'.getD s.a.toNat 0=p'[s.a.toNat]'(by omega):=by simp [List.getD,show s.a.toNat<p'.length by omega]
      have eb:p'.getD s.b.toNat 0=p'[s.b.toNat]'(by omega):=by simp [List.getD,show s.b.toNat<p'.length by omega]
      split
      · rename_i h;subst h;exact eb.symm▸rfl
      · split
        · rename_i h;subst h;exact ea.symm▸rfl
        · rfl
    · unfold tE;rw [if_neg (by omega)]
theorem YQ {bs:List Int}{w:W}{f:As}(h:oJ bs w f){b:Int}(hb:b∈bs):gP w (bs.idxOf b)=(f b).1∧gC w (bs.idxOf b)=(f b).2:=by
  obtain ⟨hx,e⟩:=wV hb;have e1:=N6 h hx;have e2:=Z7 h hx;rw [e] at e1 e2;exact ⟨e1,e2⟩
theorem ET {c:Cx}{M0:Int}{gs:List G}(h:nY c M0 gs){f:As}{M:Int}(hs:Sem gs f M){b:Int}(h0:0≤b) (h1:b<c.bs.length):LH (f b).2∧0≤(f b).1∧(f b).1<c.bs.length:=by
  obtain ⟨g,hg,hb⟩:=h.find ⟨h0,h1⟩;obtain ⟨w,hw,hf⟩:=uT hs hg;obtain ⟨e1,e2⟩:=YQ hf hb;have hi:=gR hb;obtain ⟨a,d,e⟩:=((h.out.ok g hg).ws w hw).at hi;rw [e1] at a d;rw [e2] at e;exact ⟨e,a,d⟩
theorem PA {c:Cx}{f:As}{M:Int}:∀ {l:List Nat},Sem (l.map (Y9 c)) f M↔0≤M∧∀ i,i∈l→f (i:Int)=((i:Int),((c.bs.getD i (0,0,0)).2.1,(c.bs.getD i (0,0,0)).2.1+1))
  | []=>by simp [Sem]
  | i::l=>by
    have ih:=fun M=>PA (c:=c) (f:=f) (M:=M) (l:=l);simp only [List.map_cons,Sem,ih];constructor
    · rintro ⟨m,⟨w,hw,hf,hm⟩,h0,h1⟩;obtain rfl:=bH.1 hw;obtain ⟨f1,f2⟩:=hf;have f1:[(i:Int)]=[(f i).1]:=f1;have f2:[((c.bs.getD i (0,0,0)).2.1,(c.bs.getD i (0,0,0)).2.1+1)]=[(f i).2]:=f2;have hm:(0:Int)≤m:=hm;refine ⟨by omega,fun k hk=>?_⟩
      rcases bT.1 hk with rfl | hk
      · exact Prod.ext (List.cons.inj f1).1.symm (List.cons.inj f2).1.symm
      · exact h1 k hk
    · rintro ⟨h0,h1⟩;have hi:=h1 i aR;refine ⟨0,⟨_,bH.2 rfl,⟨?_,?_⟩,fK _⟩,by omega,fun k hk=>h1 k (aL _ hk)⟩
      · show [(i:Int)]=[(f i).1];rw [hi]
      · show [_]=[(f i).2];rw [hi]
theorem zI5 {c:Cx}{f:As}{M:Int}:Sem (uG c) f M↔0≤M∧∀ b:Int,0≤b→b<c.bs.length→f b=(b,((c.bs.getD b.toNat (0,0,0)).2.1,(c.bs.getD b.toNat (0,0,0)).2.1+1)):=by
  rw [T6,PA];constructor
  · rintro ⟨h0,h⟩;refine ⟨h0,fun b b0 b1=>?_⟩
    have:=h b.toNat (eJ.2 (by omega))
    rwa [show ((b.toNat:Nat):Int)=b by omega] at this
  · rintro ⟨h0,h⟩;refine ⟨h0,fun i hi=>?_⟩
    have:=h i (by omega) (by have:=eJ.1 hi;omega)
    rwa [bR] at this
theorem YX {n:Nat}:∀ {gs:List G},(gs.flatMap (·.1)).Nodup→(∀ g,g∈gs→uB n g)→(∀ g,g∈gs→g.2≠[])→∃ f,Sem gs f (nN gs)
  | [],_,_,_=>⟨fun _=>(0,(0,0)),by simp [Sem,nN]⟩
  | g::gs,nd,ok,ne=>by
    obtain ⟨f0,h0⟩:=YX (gs:=gs) (by rw [bJ] at nd;exact (cO.1 nd).2.1) (fun x hx=>ok x (aL _ hx)) (fun x hx=>ne x (aL _ hx))
    obtain ⟨w,hw,hm⟩:=DM (ne g aR);have og:=ok g aR;refine ⟨fun b=>if b∈g.1 then EI g w b else f0 b,iX g,?_,?_⟩
    · refine (L9 (f:=EI g w) (fun b hb=>(if_pos hb).symm)).1 ⟨w,hw,J9 og (og.ws w hw),by omega⟩
    · refine (rU (f:=f0) (fun x hx b hb=>?_)).1 (h0.mono (by simp [nN];omega))
      rw [bJ] at nd;rw [if_neg (fun q=>(cO.1 nd).2.2 b q b (nD hx hb) rfl)]
theorem zN5 {n:Nat}{gs:List G}(nd:(gs.flatMap (·.1)).Nodup) (ok:∀ g,g∈gs→uB n g) (ne:∀ g,g∈gs→g.2≠[]){g:G}(hg:g∈gs){w:W}(hw:w∈g.2):∃ f,oJ g.1 w f∧Sem gs f (w.2.1+(nN gs-iX g)):=by
  obtain ⟨A,B,rfl⟩:=UM hg;have hp:(A++g::B).Perm (g::(A++B)):=mQ;have nd':((g::(A++B)).flatMap (·.1)).Nodup:=(hp.flatMap_right _).nodup_iff.1 nd;have hs:nN (A++g::B)=iX g+nN (A++B):=by simp [nN];omega
  rw [bJ] at nd';obtain ⟨f0,h0⟩:=YX (gs:=A++B) (cO.1 nd').2.1 (fun x hx=>ok x (hp.mem_iff.2 (aL _ hx))) (fun x hx=>ne x (hp.mem_iff.2 (aL _ hx)));have og:=ok g hg;have hF:=J9 og (og.ws w hw);have hc:∀ b,b∈g.1→EI g w b=(fun b=>if b∈g.1 then EI g w b else f0 b) b:=fun b hb=>(if_pos hb).symm
  refine ⟨fun b=>if b∈g.1 then EI g w b else f0 b,?_,(oP hp).2 ⟨w.2.1,?_,?_⟩⟩
  · unfold oJ at hF ⊢;rw [← jH (f:=fun b=>(EI g w b).1) (fun b hb=>by rw [hc b hb]),← jH (f:=fun b=>(EI g w b).2) (fun b hb=>by rw [hc b hb])]
    exact hF
  · exact (L9 hc).1 ⟨w,hw,hF,fK _⟩
  · refine (rU (f:=f0) (fun x hx b hb=>?_)).1 (h0.mono (by omega))
    rw [if_neg (fun q=>(cO.1 nd').2.2 b q b (nD hx hb) rfl)]
theorem D3 {α β:Type}(f g:α→List β):∀ l:List α,(∀ x,x∈l→(f x).Perm (g x))→(l.flatMap f).Perm (l.flatMap g)
  | [],_=>.refl _
  | x::l,h=>by
    rw [bJ,bJ];exact (h x aR).append (D3 f g l (fun y hy=>h y (aL _ hy)))
theorem IV {α β γ:Type}(f:β→γ) (g:α→List β):∀ l:List α,(l.flatMap g).map f=l.flatMap fun x=>(g x).map f
  | []=>rfl
  | x::l=>by rw [bJ,bJ,dJ,IV f g l]
theorem zG1 {c:Cx}{M0:Int}{gs:List G}(h:nY c M0 gs){f:As}{M:Int}(hs:Sem gs f M):((nats (List.range c.bs.length)).map fun b=>(f b).1).Perm (nats (List.range c.bs.length)):=by
  refine ((h.cov.symm.map _).trans ?_).trans h.idn;rw [IV];refine D3 _ _ _ fun g hg=>?_
  obtain ⟨w,hw,hf⟩:=uT hs hg;rw [← hf.1];exact (h.out.ok g hg).same w (iI g) hw (jB (h.ne g hg))
theorem FH {n:Nat}{α:Type}(F:Int→α) (d:α){b:Int}(h0:0≤b) (h1:b<n):((nats (List.range n)).map F).getD b.toNat d=F b:=by
  rw [aC,aA (by simp;omega)]
  simp only [mR,List.getElem_range,iL];rw [show ((b.toNat:Nat):Int)=b by omega]
theorem IB {c:Cx}{M0:Int}{gs:List G}(h:nY c M0 gs){f:As}{M:Int}(hs:Sem gs f M):∃ p q,PQ c p q∧xX c p q f:=by
  have hi:=zG1 h hs;have hnl:(nats (List.range c.bs.length)).length=c.bs.length:=by simp
  generalize hp:((nats (List.range c.bs.length)).map fun b=>(f b).1)=p at *;have hpl:p.length=c.bs.length:=by rw [hi.length_eq,hnl]
  have nd:p.Nodup:=hi.nodup_iff.2 (A0 _);have hpg:∀ b:Int,0≤b→b<c.bs.length→p.getD b.toNat 0=(f b).1:=fun b h0 h1=>by rw [← hp];exact FH _ _ h0 h1
  refine ⟨p,(nats (List.range c.bs.length)).map fun x=>if x∈p then (f (p.idxOf x)).2.1 else 0,⟨hpl,by simp,hi,fun y hy=>?_⟩,fun b h0 h1=>⟨(hpg b h0 h1).symm,?_⟩⟩
  · obtain ⟨x,hx,rfl⟩:=bB.1 hy;have hxm:=hi.mem_iff.2 hx;rw [if_pos hxm];have hlt:=gR hxm;have:=(ET h hs (b:=(p.idxOf x:Nat)) (by omega) (by omega)).1
    unfold LH at this;omega
  · have hr:=ET h hs h0 h1;rw [hpg b h0 h1,FH _ _ hr.2.1 hr.2.2];have hb:b.toNat<p.length:=by omega
    have e:(f b).1=p[b.toNat]:=by rw [← hpg b h0 h1,aC,aA hb];rfl
    rw [if_pos (by rw [e];exact aI _),e,nd.idxOf_getElem,show ((b.toNat:Nat):Int)=b by omega,nQ]
    have:=hr.1;unfold LH at this;omega
def NU (c:Cx) (gs:List G):Prop:=∀ g,g∈gs→∀ w,w∈g.2→w.2.1+(nN gs-iX g)≤c.m
theorem SK {c:Cx}{gs:List G}(h:kQ c gs) (hp:NU c gs){g:G}(hg:g∈gs){w:W}(hw:w∈g.2):∃ f,oJ g.1 w f∧Sem gs f c.m:=by
  obtain ⟨f,h1,h2⟩:=zN5 h.mid.out.nd h.mid.out.ok h.mid.ne hg hw;exact ⟨f,h1,h2.mono (hp g hg w hw)⟩
theorem RV {c:Cx}{gs:List G}(h:kQ c gs) (hp:NU c gs) (hn:0<c.bs.length):∃ f,Sem gs f c.m:=by
  obtain ⟨g,hg,_⟩:=h.mid.find (b:=0) ⟨by omega,by omega⟩
  obtain ⟨w,hw⟩:=List.exists_mem_of_ne_nil _ (h.mid.ne g hg);obtain ⟨f,_,h2⟩:=SK h hp hg hw;exact ⟨f,h2⟩
def yC8 (s:Ev):Nat:=if s.k=4 then 2 else 1
theorem PW {α β:Type}(F:α→List β) (n:Nat):∀ l:List α,(∀ x,x∈l→(F x).length≤n)→(l.flatMap F).length≤l.length*n
  | [],_=>by simp
  | x::l,h=>by
    have a:=PW F n l fun y hy=>h y (aL _ hy);have b:=h x aR;rw [bJ,aF,List.length_cons,eM];omega
theorem IP (c:Cx) (s:Ev) (g:G):(fN (jU c s g)).length≤g.2.length*yC8 s:=by
  refine bY (tR _) ?_;unfold jU;refine PW _ _ _ fun w _=>?_
  unfold yC8;rw [aF];split <;> split <;> simp
theorem WA (c:Cx) (gs:List G) (s:Ev):(lR c gs s).1=0∨(lR c gs s).1=1∧gH c.bs.length s=false∨(lR c gs s).1=6∨(lR c gs s).1=26:=by
  have h2:∀ all,(wJ c gs all s).1=0∨(wJ c gs all s).1=6∨(wJ c gs all s).1=26:=fun all=>by
    unfold wJ;dsimp only;split
    · simp
    · split
      · simp
      · split <;> simp
  unfold lR;split
  · split
    · split
      · simp
      · rename_i all _;have:=h2 all;omega
    · have:=h2 gs;omega
  · rename_i h;exact .inr (.inl ⟨rfl,Bool.eq_false_iff.2 h⟩)
abbrev TR:=List Int × List BX × Int
def lS (bs:List BX):List Int:=bs.map (·.2.1)
theorem ZI (bs:List BX):(lS bs).length=bs.length:=aX _
theorem J3 (bs:List BX) (i:Nat):(lS bs).getD i 0=(bs.getD i (0,0,0)).2.1:=by
  unfold lS;rw [aC,aC,bN];cases bs[i]? <;> rfl
structure qO (c:Cx) (ps:List Int) (bs:List BX):Prop where
  t:U7 c.ks c.ls ps bs
  len:ps.length=c.bs.length
  same:∀ i,(bs.getD i (0,0,0)).1=(c.bs.getD i (0,0,0)).1∧(bs.getD i (0,0,0)).2.2=(c.bs.getD i (0,0,0)).2.2
theorem qO.pq {c:Cx}{ps:List Int}{bs:List BX}(h:qO c ps bs):PQ c ps (lS bs) where
  pl:=h.len
  ql:=by rw [ZI,← h.t.len,h.len]
  pp:=by
    refine (X9 (nats (List.range c.bs.length)) ps (A0 _) (fun x hx=>?_) (by simp [h.len])).symm
    obtain ⟨h0,h1⟩:=vA.1 hx;have:=h.t.p x.toNat (by rw [h.len];omega)
    rwa [show ((x.toNat:Nat):Int)=x by omega] at this
  q0:=fun x hx=>by
    obtain ⟨b,hb,rfl⟩:=bB.1 hx;obtain ⟨i,hi,rfl⟩:=List.getElem_of_mem hb;have:=h.t.b i hi;omega
theorem qO.fit {c:Cx}{ps:List Int}{bs:List BX}(hc:qP c) (h:qO c ps bs):Fit c.ks c.ls ps bs where
  n1:=by have:=hc.f.n1;simp at this;rw [h.len];omega
  n8:=by have:=hc.f.n8;simp at this;rw [h.len];omega
  len:=h.t.len
  k10:=hc.f.k10
  l10:=hc.f.l10
  k:=hc.f.k
  l:=hc.f.l
  p := fun i hi=>by
    have:=h.pq.pp.mem_iff.1 (aI hi);rw [h.len];exact vA.1 this
  b:=h.t.b
def yC (ps:List Int) (bs:List BX) (s:Ev) (done:Int):List BX:=
  if s.k=2 then bs.set (ps.getD s.a.toNat 0).toNat ((bs.getD (ps.getD s.a.toNat 0).toNat (0,0,0)).1,(bs.getD (ps.getD s.a.toNat 0).toNat (0,0,0)).2.1-done,(bs.getD (ps.getD s.a.toNat 0).toNat (0,0,0)).2.2) else bs
theorem C2 (ps:List Int) (bs:List BX) (s:Ev) (done:Int):lS (yC ps bs s done)=tE ps (lS bs) s done:=by
  unfold yC tE;split
  · rw [J3];unfold lS;rw [rH]
  · rfl
theorem BC (ps:List Int) (bs:List BX) (s:Ev) (done:Int):(yC ps bs s done).length=bs.length:=by
  unfold yC;split <;> simp
theorem qO.aft {c:Cx}{ps:List Int}{bs:List BX}{s:Ev}{done:Int}(h:qO c ps bs) (ha:0≤s.a∧s.a<c.bs.length) (hb:s.k=4→s.a<s.b∧s.b<c.bs.length) (hc:rR c ps (lS bs) s done=true):qO c (rS ps s done) (yC ps bs s done) where
  len:=by rw [zM];exact h.len
  same:=fun i=>by
    unfold yC;split
    · by_cases e:i=(ps.getD s.a.toNat 0).toNat
      · by_cases hl:(ps.getD s.a.toNat 0).toNat<bs.length
        · rw [fL hl,if_pos e,e];exact h.same _
        · rw [List.set_eq_of_length_le (by omega)];exact h.same i
      · by_cases hl:(ps.getD s.a.toNat 0).toNat<bs.length
        · rw [fL hl,if_neg e];exact h.same _
        · rw [List.set_eq_of_length_le (by omega)];exact h.same i
    · exact h.same i
  t := by
    have hp:=(h.pq.aft ha hb hc).pp;refine ⟨by rw [zM,BC];exact h.t.len,fun i hi=>?_,h.t.k,h.t.l,fun i hi=>?_⟩
    · rw [zM,h.len] at hi;exact hp.mem_iff.2 (vA.2 ⟨by omega,by omega⟩)
    · rw [BC] at hi;have h0:=h.t.b i hi;by_cases hk:s.k=2
      · have hr:=zK hk hc;rw [J3] at hr;have e:yC ps bs s done=bs.set (ps.getD s.a.toNat 0).toNat ((bs.getD (ps.getD s.a.toNat 0).toNat (0,0,0)).1,(bs.getD (ps.getD s.a.toNat 0).toNat (0,0,0)).2.1-done,(bs.getD (ps.getD s.a.toNat 0).toNat (0,0,0)).2.2):=if_pos hk;simp only [e];rw [List.getElem_set];split
        · rename_i hx;rw [hx] at hr ⊢;have eb:bs.getD i (0,0,0)=bs[i]:=by rw [aC,aA hi];rfl
          rw [eb] at hr ⊢;dsimp only;refine ⟨h0.1,h0.2.1,by omega,by omega,fun q=>?_,h0.2.2.2.2.2⟩
          have:=h0.2.2.2.2.1 q;omega
        · exact h0
      · have e:yC ps bs s done=bs:=if_neg hk;simp only [e];exact h0
def G0:List TR→TR→List TR
  | [],x=>[x]
  | t::l,x=>if t.1=x.1∧t.2.1=x.2.1 then (if x.2.2<t.2.2 then x::l else t::l) else t::G0 l x
theorem CE:∀ {l:List TR}{x t:TR},t∈G0 l x→t∈l∨t=x
  | [],x,t,h=>.inr (bH.1 h)
  | y::l,x,t,h=>by
    unfold G0 at h;split at h
    · split at h
      · rcases bT.1 h with rfl | h
        · exact .inr rfl
        · exact .inl (aL _ h)
      · exact .inl h
    · rcases bT.1 h with rfl | h
      · exact .inl aR
      · rcases CE h with h | h
        · exact .inl (aL _ h)
        · exact .inr h
def QV (l:List TR) (p:List Int) (bs:List BX) (M:Int):Prop:=∃ t,t∈l∧t.1=p∧t.2.1=bs∧t.2.2≤M
theorem CF:∀ {l:List TR}{x:TR}{p:List Int}{bs:List BX}{M:Int},QV (G0 l x) p bs M↔QV l p bs M∨(x.1=p∧x.2.1=bs∧x.2.2≤M)
  | [],x,p,bs,M=>by simp [G0,QV]
  | y::l,x,p,bs,M=>by
    have hc:∀ (z:TR) (l:List TR),QV (z::l) p bs M↔(z.1=p∧z.2.1=bs∧z.2.2≤M)∨QV l p bs M:=fun z l=>by unfold QV;simp
    unfold G0;split
    · rename_i he;split
      · rename_i hlt;rw [hc,hc];constructor
        · rintro (h | h)
          · exact .inr h
          · exact .inl (.inr h)
        · rintro ((⟨a,b,d⟩ | h) | h)
          · exact .inl ⟨he.1.symm.trans a,he.2.symm.trans b,by omega⟩
          · exact .inr h
          · exact .inl h
      · rename_i hlt;rw [hc];constructor
        · exact .inl
        · rintro (h | ⟨a,b,d⟩)
          · exact h
          · exact .inl ⟨he.1.trans a,he.2.trans b,by omega⟩
    · rw [hc,hc,CF];constructor
      · rintro (h | h | h)
        · exact .inl (.inl h)
        · exact .inl (.inr h)
        · exact .inr h
      · rintro ((h | h) | h)
        · exact .inl h
        · exact .inr (.inl h)
        · exact .inr (.inr h)
theorem DR:∀ {L l:List TR}{t:TR},t∈L.foldl G0 l→t∈l∨t∈L
  | [],l,t,h=>.inl h
  | x::L,l,t,h=>by
    rcases DR (L:=L) h with h | h
    · rcases CE h with h | h
      · exact .inl h
      · exact .inr (by rw [h];exact aR)
    · exact .inr (aL _ h)
theorem DS:∀ {L l:List TR}{p:List Int}{bs:List BX}{M:Int},QV (L.foldl G0 l) p bs M↔QV l p bs M∨QV L p bs M
  | [],l,p,bs,M=>by simp [QV]
  | x::L,l,p,bs,M=>by
    rw [jT,DS,CF];have hc:QV (x::L) p bs M↔(x.1=p∧x.2.1=bs∧x.2.2≤M)∨QV L p bs M:=by unfold QV;simp
    rw [hc,or_assoc]
def zP7 (c:Cx) (s:Ev) (t:TR) (done:Int):TR:=(rS t.1 s done,yC t.1 t.2.1 s done,t.2.2+rD c t.1 s)
def DP (c:Cx) (s:Ev) (t:TR):Bool:=GL c t.1 (lS t.2.1) s&&decide (t.2.2+rD c t.1 s≤c.m)
def YP (c:Cx) (s:Ev) (t:TR) (k:Nat):List TR:=if DP c s t then ((List.range k).filter fun d=>rR c t.1 (lS t.2.1) s (d:Nat)).map fun d=>zP7 c s t (d:Nat) else []
def O4 (c:Cx) (s:Ev) (all:List TR):List TR:=(all.flatMap fun t=>YP c s t 4).foldl G0 []
structure NV (c:Cx) (gs:List G) (all:List TR):Prop where
  ok:∀ t,t∈all→qO c t.1 t.2.1∧0≤t.2.2∧t.2.2≤c.m∧∀ x,x∈lS t.2.1→x≤3
  iff:∀ p q,PQ c p q→∀ M,M≤c.m→((∃ f,xX c p q f∧Sem gs f M)↔∃ t,t∈all∧t.1=p∧lS t.2.1=q∧t.2.2≤M)
theorem QN (st id k:Int) (ids:List Int):0≤UR st id k ids∧UR st id k ids≤1:=by
  unfold UR;repeat' split
  all_goals omega
theorem YY {c:Cx}{gs:List G}(h:kQ c gs){f:As}{M:Int}(hs:Sem gs f M):∀ b:Int,0≤b→b<c.bs.length→LH (f b).2:=fun b h0 h1=>(ET h.mid hs h0 h1).1
theorem X0 {c:Cx}{gs:List G}(h:kQ c gs){s:Ev}(hr:gH c.bs.length s=true):(0≤s.a∧s.a<c.bs.length)∧(s.k=4→s.a<s.b∧s.b<c.bs.length)∧(s.k=1∨s.k=2∨s.k=3→0≤s.n∧s.n≤1099511627776):=by
  have hn:=h.mid.n12;obtain ⟨r1,r2,r3⟩:=pI hr (by omega)
  refine ⟨r1,fun k=>?_,fun k=>?_⟩
  · have:=r2 k;omega
  · unfold gH at hr;rw [aJ] at hr;have hr:=hr.2;rw [if_neg (by omega),if_pos k,decide_eq_true_eq] at hr
    exact hr
theorem L1 {c:Cx}{gs:List G}{p q:List Int}{f:As}{s:Ev}{M done:Int}(hc:qP c) (h:kQ c gs) (hr:gH c.bs.length s=true) (hp:PQ c p q) (hf:xX c p q f) (hs:Sem gs f M)
    (hag:GL c p q s=true) (hcan:rR c p q s done=true) (hM:M+rD c p s≤c.m) :
    (lR c gs s).1≠26∧((lR c gs s).1=0→∃ f',xX c (rS p s done) (tE p q s done) f'∧Sem (lR c gs s).2 f' (M+rD c p s)):=by
  obtain ⟨r1,r2,r3⟩:=X0 h hr;obtain ⟨m0,m1,_⟩:=hc.s;obtain ⟨f',st,ok⟩:=SA hc hp hf (YY h hs) r1 r2 (fun k=>r3 (by omega)) hag hcan
  have hse:=OL h m0 m1 hr (f':=f') hM;have hex:∃ f d,BV c s f f' d∧Sem gs f (M+rD c p s-d):=⟨f,_,st,hs.mono (by omega)⟩
  exact ⟨fun q=>hse.2 q hex,fun q=>⟨f',ok,(hse.1 q).2 hex⟩⟩
theorem DQ {c:Cx}{s:Ev}{t x:TR}{k:Nat}:x∈YP c s t k↔DP c s t=true∧∃ d:Nat,d<k∧rR c t.1 (lS t.2.1) s d=true∧x=zP7 c s t d:=by
  unfold YP;split
  · rename_i h;rw [bB];constructor
    · rintro ⟨d,hd,rfl⟩;obtain ⟨h1,h2⟩:=nL.1 hd;exact ⟨h,d,eJ.1 h1,h2,rfl⟩
    · rintro ⟨_,d,h1,h2,rfl⟩;exact ⟨d,nL.2 ⟨eJ.2 h1,h2⟩,rfl⟩
  · rename_i h;constructor
    · intro q;cases q
    · rintro ⟨q,_⟩;exact absurd q h
theorem O3 {c:Cx}{s:Ev}{all:List TR}{x:TR}(h:x∈O4 c s all):∃ t,t∈all∧DP c s t=true∧∃ d:Nat,d<4∧rR c t.1 (lS t.2.1) s d=true∧x=zP7 c s t d:=by
  rcases DR h with h | h
  · cases h
  · obtain ⟨t,ht,hx⟩:=fZ.1 h;exact ⟨t,ht,DQ.1 hx⟩
theorem I2 {c:Cx}{s:Ev}{t:TR}:DP c s t=true↔GL c t.1 (lS t.2.1) s=true∧t.2.2+rD c t.1 s≤c.m:=by
  unfold DP;rw [aJ,decide_eq_true_eq]
theorem NV.step {c:Cx}{gs:List G}{all:List TR}{s:Ev}(hc:qP c) (h:kQ c gs) (hr:gH c.bs.length s=true) (e:NV c gs all) :
    ((lR c gs s).1=0→NV c (lR c gs s).2 (O4 c s all))∧((lR c gs s).1=26→O4 c s all=[]):=by
  obtain ⟨r1,r2,r3⟩:=X0 h hr;obtain ⟨m0,m1,_⟩:=hc.s;have key:∀ t,t∈all→DP c s t=true→∀ d:Nat,rR c t.1 (lS t.2.1) s d=true→∃ f,xX c t.1 (lS t.2.1) f∧Sem gs f t.2.2:=fun t ht hg d hd=>by
    obtain ⟨a,b,b',_⟩:=e.ok t ht;exact (e.iff t.1 (lS t.2.1) a.pq t.2.2 b').2 ⟨t,ht,rfl,rfl,fK _⟩
  constructor
  · intro h0;refine ⟨fun x hx=>?_,fun p q hpq M hM=>⟨?_,?_⟩⟩
    · obtain ⟨t,ht,hg,d,hd,hcan,rfl⟩:=O3 hx;obtain ⟨a,b,b',b3⟩:=e.ok t ht;obtain ⟨g1,g2⟩:=I2.1 hg;have:=(QN c.st (t.1.getD s.a.toNat 0) s.k s.ids).1;refine ⟨a.aft r1 r2 hcan,?_,g2,fun y hy=>?_⟩
      · show 0≤t.2.2+rD c t.1 s;unfold rD;omega
      · change y∈lS (yC t.1 t.2.1 s d) at hy;rw [C2] at hy;unfold tE at hy;split at hy
        · rename_i hk;have hrg:=zK hk hcan;rcases fQ hy with hy | rfl
          · exact b3 y hy
          · obtain ⟨i0,i1⟩:=a.pq.at r1.1 r1.2;have:(lS t.2.1).getD (t.1.getD s.a.toNat 0).toNat 0∈lS t.2.1:=by
              have:=a.pq.ql;rw [aC,aA (by omega)];exact aI _
            have:=b3 _ this;omega
        · exact b3 y hy
    · rintro ⟨f',hf',hs'⟩;obtain ⟨f,d,st,hs⟩:=((OL h m0 m1 hr (f':=f') hM).1 h0).1 hs';obtain ⟨p0,q0,done,hpq0,hf0,hag,hcan,rfl,e1,e2⟩:=SB hc hpq st hf' (YY h hs) r1 r2 (fun k=>r3 (by omega))
      have hm:=(QN c.st (p0.getD s.a.toNat 0) s.k s.ids).1;obtain ⟨t,ht,rfl,rfl,htm⟩:=(e.iff p0 q0 hpq0 (M-rD c p0 s) (by unfold rD;omega)).1 ⟨f,hf0,hs⟩
      obtain ⟨a,b,b',b3⟩:=e.ok t ht;have hd:0≤done∧done<4:=by
        by_cases hk:s.k=2
        · have hrg:=zK hk hcan;obtain ⟨i0,i1⟩:=a.pq.at r1.1 r1.2;have:(lS t.2.1).getD (t.1.getD s.a.toNat 0).toNat 0∈lS t.2.1:=by
            have:=a.pq.ql;rw [aC,aA (by omega)];exact aI _
          have:=b3 _ this;omega
        · unfold rR C5 at hcan;rw [if_neg hk] at hcan;split at hcan
          · rw [C7,decide_eq_true_eq,decide_eq_true_eq] at hcan;omega
          · rw [decide_eq_true_eq] at hcan;omega
      have hdn:((done.toNat:Nat):Int)=done:=by omega
      have hx:QV (O4 c s all) (rS t.1 s done) (yC t.1 t.2.1 s done) M:=by
        refine DS.2 (.inr ⟨zP7 c s t (done.toNat:Nat),fZ.2 ⟨t,ht,DQ.2 ⟨I2.2 ⟨hag,by omega⟩,done.toNat,by omega,by rw [hdn];exact hcan,rfl⟩⟩,?_,?_,?_⟩)
        · rw [hdn];rfl
        · rw [hdn];rfl
        · show t.2.2+rD c t.1 s≤M;omega
      obtain ⟨x,hx1,hx2,hx3,hx4⟩:=hx;exact ⟨x,hx1,hx2.trans e1.symm,by rw [hx3,C2];exact e2.symm,hx4⟩
    · rintro ⟨x,hx,rfl,rfl,hxm⟩;obtain ⟨t,ht,hg,d,hd,hcan,rfl⟩:=O3 hx;obtain ⟨f,hf,hs⟩:=key t ht hg d hcan;obtain ⟨a,b,b',b3⟩:=e.ok t ht;obtain ⟨g1,g2⟩:=I2.1 hg;obtain ⟨f',ok,hs'⟩:=(L1 hc h hr a.pq hf hs g1 hcan g2).2 h0;refine ⟨f',?_,hs'.mono hxm⟩;show xX c (rS t.1 s d) (lS (yC t.1 t.2.1 s d)) f';rw [C2];exact ok
  · intro h26;cases hn:O4 c s all with
    | nil=>rfl
    | cons x l=>
      exfalso;have hx:x∈O4 c s all:=by rw [hn];exact aR
      obtain ⟨t,ht,hg,d,hd,hcan,rfl⟩:=O3 hx;obtain ⟨f,hf,hs⟩:=key t ht hg d hcan;obtain ⟨a,b,b',b3⟩:=e.ok t ht;obtain ⟨g1,g2⟩:=I2.1 hg;exact (L1 hc h hr a.pq hf hs g1 hcan g2).1 h26
theorem NV.some {c:Cx}{gs:List G}{all:List TR}(hc:qP c) (h:kQ c gs) (hp:NU c gs) (e:NV c gs all):all≠[]:=by
  have hn:=hc.f.n1;simp at hn;obtain ⟨f,hs⟩:=RV h hp (by omega)
  obtain ⟨p,q,hpq,hf⟩:=IB h.mid hs;obtain ⟨t,ht,_⟩:=(e.iff p q hpq c.m (fK _)).1 ⟨f,hf,hs⟩;exact fun q=>by rw [q] at ht;cases ht
def zB3 (all:List TR) (p q:List Int):Bool:=all.any fun t=>decide (t.1=p)&&decide (lS t.2.1=q)
theorem NV.among {c:Cx}{gs:List G}{all:List TR}{p q:List Int}(h:kQ c gs) (e:NV c gs all) (hp:PQ c p q):zS2 c gs p q=zB3 all p q:=by
  rw [iK,U6 h];unfold zB3;rw [iZ];have hi:=e.iff p q hp c.m (fK _);constructor
  · rintro ⟨_,_,_,f,hf,hs⟩;obtain ⟨t,ht,e1,e2,_⟩:=hi.1 ⟨f,hf,hs⟩;exact ⟨t,ht,by rw [e1,e2];simp⟩
  · rintro ⟨t,ht,hx⟩;rw [aJ,decide_eq_true_eq,decide_eq_true_eq] at hx;obtain ⟨f,hf,hs⟩:=hi.2 ⟨t,ht,hx.1,hx.2,(e.ok t ht).2.2.1⟩;exact ⟨hp.pl,by rw [hp.ql,hp.pl],(Y0 hp.pl).2 hp.pp,f,hf,hs⟩
theorem XK {c:Cx}(hc:qP c):qO c (nats (List.range c.bs.length)) c.bs:=⟨HI hc,by simp,fun i=>⟨rfl,rfl⟩⟩
theorem zI7 {n:Nat}{b:Int}(h0:0≤b) (h1:b<n):(nats (List.range n)).getD b.toNat 0=b:=by
  have:=FH (n:=n) (fun x=>x) 0 h0 h1
  rwa [List.map_id'] at this
theorem zI6 {c:Cx}:∃ f,xX c (nats (List.range c.bs.length)) (lS c.bs) f∧Sem (uG c) f 0:=by
  refine ⟨fun b=>(b,((c.bs.getD b.toNat (0,0,0)).2.1,(c.bs.getD b.toNat (0,0,0)).2.1+1)),fun b h0 h1=>?_,zI5.2 ⟨fK _,fun b h0 h1=>rfl⟩⟩
  unfold QU;rw [zI7 h0 h1,J3];exact ⟨rfl,nQ.2 ⟨fK _,by dsimp only;omega⟩⟩
end Go.Ld
