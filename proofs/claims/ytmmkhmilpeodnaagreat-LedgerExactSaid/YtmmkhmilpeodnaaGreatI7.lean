/-
  Texts of the logic and of the layer,in one module (part 7).
-/
import Derived.Test.YtmmkhmilpeodnaaGreatI6
set_option linter.unusedVariables false
set_option linter.unusedSimpArgs false
set_option linter.unnecessarySimpa false
namespace Go.Ld
open Go.Ab Go.Proofs.YtmmkhmilpeodnaaGreat
structure nQ (c : Cx) (M : Int) (gs : List G) : Prop where
  out : nP c.bs.length gs
  up : KX gs
  ne : ∀ g,g ∈ gs → g.2 ≠ []
  ml : ∀ g,g ∈ gs → ∀ w,w ∈ g.2 → w.2.1 ≤ M
  cov : (gs.flatMap (·.1)).Perm (nats (List.range c.bs.length))
  idn : (gs.flatMap fun g => (iG g).1).Perm (nats (List.range c.bs.length))
  wl : ∀ g,g ∈ gs → g.2.length ≤ 1000
structure nS (c : Cx) (gs : List G) : Prop where
  mid : nQ c c.m gs
  cer : ∀ g,g ∈ gs → iD g = none
  asc : ∀ g,g ∈ gs → g.2.Pairwise fun a b => oR a b < 0
theorem B7 (n : Nat) : (nats (List.range n)).Nodup := List.Pairwise.map (R := fun a b => a ≠ b) _ (fun a b h e => h (Int.ofNat.inj e)) zN1
theorem tA {n : Nat} {b : Int} : b ∈ nats (List.range n) ↔ 0 ≤ b ∧ b < n := by
  constructor
  · intro h;obtain ⟨i,hi,rfl⟩ := bE.1 h;have := eF.1 hi;exact ⟨by omega,by omega⟩
  · intro h;exact bE.2 ⟨b.toNat,eF.2 (by omega),by omega⟩
theorem nQ.find {c : Cx} {M : Int} {gs : List G} (h : nQ c M gs) {b : Int} (hb : 0 ≤ b ∧ b < c.bs.length) : ∃ g,g ∈ gs ∧ b ∈ g.1 := by
  have := h.cov.mem_iff.2 (tA.2 hb);obtain ⟨g,hg,hbg⟩ := fN.1 this;exact ⟨g,hg,hbg⟩
theorem DI {α : Type} {A B l : List Int} {x y : List α} {d : α} (hA : A.Nodup) (hB : B.Nodup) (dj : ∀ b,b ∈ A → b ∉ B) (hl : l.Perm (A ++ B)) (hx : x.length = A.length) (hy : y.length = B.length) :
    (l.map fun k => if k ∈ A then x.getD (A.idxOf k) d else y.getD (B.idxOf k) d).Perm (x ++ y) := by
  refine (hl.map _).trans ?_;rw [dB];have e1 : A.map (fun k => if k ∈ A then x.getD (A.idxOf k) d else y.getD (B.idxOf k) d) = x := by
    refine kI (by simp [hx]) fun i h1 h2 => ?_
    rw [mT,if_pos (aI _),hA.idxOf_getElem,aC,aA h2];rfl
  have e2 : B.map (fun k => if k ∈ A then x.getD (A.idxOf k) d else y.getD (B.idxOf k) d) = y := by
    refine kI (by simp [hy]) fun i h1 h2 => ?_
    have hb : B[i]'(by simpa using h1) ∈ B := aI _
    rw [mT,if_neg (fun q => dj _ q hb),hB.idxOf_getElem,aC,aA h2];rfl
  rw [e1,e2]
structure vE (n : Nat) (x y : G) : Prop where
  gx : yW n x
  gy : yW n y
  nx : x.2 ≠ []
  ny : y.2 ≠ []
  dj : ∀ b,b ∈ x.1 → b ∉ y.1
  di : ∀ b,b ∈ (iG x).1 → b ∉ (iG y).1
  ln : x.1.length + y.1.length ≤ 6
theorem B9 {x y : G} {w : W} (h : w ∈ (mP x y).2) : ∃ u v,u ∈ x.2 ∧ v ∈ y.2 ∧ w = E9 x y u v (mP x y).1 := by
  obtain ⟨u,hu,h⟩ := fN.1 h;obtain ⟨v,hv,h⟩ := bE.1 h;exact ⟨u,v,hu,hv,h.symm⟩
theorem mQ (x y : G) : (mP x y).1.Perm (x.1 ++ y.1) := dD _ _
theorem vE.pair {n : Nat} {x y : G} (h : vE n x y) {u v : W} (hu : u ∈ x.2) (hv : v ∈ y.2) : (E9 x y u v (mP x y).1).1.Perm (u.1 ++ v.1) ∧ (E9 x y u v (mP x y).1).2.2.Perm (u.2.2 ++ v.2.2) :=
  ⟨DI h.gx.nd h.gy.nd h.dj (mQ x y) (h.gx.ws u hu).pl (h.gy.ws v hv).pl,DI h.gx.nd h.gy.nd h.dj (mQ x y) (h.gx.ws u hu).cl (h.gy.ws v hv).cl⟩
theorem vE.same {n : Nat} {x y : G} (h : vE n x y) {w : W} (hw : w ∈ (mP x y).2) : w.1.Perm ((iG x).1 ++ (iG y).1) := by
  obtain ⟨u,v,hu,hv,rfl⟩ := B9 hw;exact (h.pair hu hv).1.trans ((h.gx.same _ _ hu (jF h.nx)).append (h.gy.same _ _ hv (jF h.ny)))
theorem vE.ok {n : Nat} {x y : G} (h : vE n x y) {M : Int} (h1 : ∀ w, w ∈ x.2 → w.2.1 ≤ M) (h2 : ∀ w, w ∈ y.2 → w.2.1 ≤ M) (hM : M ≤ 2000000) : yW n (mP x y) where
  ne e := by
    have := (mQ x y).length_eq;rw [e] at this;have := dZ.2 h.gx.ne;simp at *;omega
  up := by
    have h1 := lM qA (x.1 ++ y.1);have hnd : (mP x y).1.Nodup := (mQ x y).nodup_iff.2 (cO.2 ⟨h.gx.nd,h.gy.nd,fun a ha b hb e => h.dj a ha (e ▸ hb)⟩);refine (h1.and hnd).imp fun {a b} h => ?_
    have := h.1;have := h.2;unfold cI at *;by_cases e : a < b
    · exact e
    · rw [if_neg e] at *;by_cases e' : b < a
      · rw [if_pos e'] at *;omega
      · omega
  rg b hb := by
    rcases bI.1 ((mQ x y).mem_iff.1 hb) with hb | hb
    · exact h.gx.rg b hb
    · exact h.gy.rg b hb
  ln := by rw [(mQ x y).length_eq,aF];exact h.ln
  ws w hw := by
    have hs := h.same hw;obtain ⟨u,v,hu,hv,rfl⟩ := B9 hw;obtain ⟨p1,p2⟩ := h.pair hu hv;have ou := h.gx.ws u hu;have ov := h.gy.ws v hv;refine ⟨bB _,bB _,fun b hb => ?_,hs.nodup_iff.2 (cO.2 ⟨(h.gx.ws _ (jF h.nx)).nd,(h.gy.ws _ (jF h.ny)).nd,fun a ha b hb e => h.di a ha (e ▸ hb)⟩),?_,?_,fun r hr => ?_⟩
    · rcases bI.1 (p1.mem_iff.1 hb) with hb | hb
      · exact ou.pr b hb
      · exact ov.pr b hb
    · have := ou.m0;have := ov.m0;show 0 ≤ u.2.1 + v.2.1;omega
    · have := h1 u hu;have := h2 v hv;show u.2.1 + v.2.1 ≤ 4000000;omega
    · rcases bI.1 (p2.mem_iff.1 hr) with hr | hr
      · exact ou.sp r hr
      · exact ov.sp r hr
  same w v hw hv := (h.same hw).trans (h.same hv).symm
theorem XT {x y : G} (hx : x.2 ≠ []) (hy : y.2 ≠ []) : (mP x y).2 ≠ [] := by
  show pA x y _ ≠ [];unfold pA;cases hu : x.2 with
  | nil => exact absurd hu hx
  | cons u l =>
    cases hv : y.2 with
    | nil => exact absurd hv hy
    | cons v m => simp
theorem DU (x y : G) : (mP x y).2.length = x.2.length * y.2.length := by
  show (pA x y _).length = _;unfold pA;generalize dY cI (x.1 ++ y.1) = l
  induction x.2 with
  | nil => simp
  | cons u m ih => rw [bF,aF,ih,bB,List.length_cons,yF0,rU]
theorem mD {α : Type} {l : List α} {i k : Nat} {u v : α} (J : α) (hik : i < k) (hi : l[i]? = some u) (hk : l[k]? = some v) : ∃ P Q R,l = P ++ u :: (Q ++ v :: R) ∧ (l.set i J).eraseIdx k = P ++ J :: (Q ++ R) := by
  obtain ⟨hl,e2⟩ := aB.1 hk;have hil : i < l.length := by omega
  have e1 : l[i] = u := (aB.1 hi).2;have d1 : l.drop i = u :: l.drop (i + 1) := by rw [aX hil,e1]
  have d2 : l.drop k = v :: l.drop (k + 1) := by rw [aX hl,e2]
  have d3 : l.drop (i + 1) = (l.drop (i + 1)).take (k - (i + 1)) ++ v :: l.drop (k + 1) := by
    have : l.drop (i + 1) = (l.drop (i + 1)).take (k - (i + 1)) ++ (l.drop (i + 1)).drop (k - (i + 1)) := (bL _ _).symm;rw [LF,show i + 1 + (k - (i + 1)) = k by omega,d2] at this
    exact this
  have e : l = l.take i ++ u :: ((l.drop (i + 1)).take (k - (i + 1)) ++ v :: l.drop (k + 1)) := by
    rw [← d3,← d1,bL]
  refine ⟨_,_,_,e,?_⟩;have ht : (l.take i).length = i := by rw [bD];omega
  have hq : ((l.drop (i + 1)).take (k - (i + 1))).length = k - (i + 1) := by rw [bD,dJ];omega
  generalize l.take i = P at *;generalize (l.drop (i + 1)).take (k - (i + 1)) = Q at *;generalize l.drop (k + 1) = R at *;clear d1 d2 d3;subst e;rw [kX _ _ (by omega),show i - P.length = 0 by omega,List.set_cons_zero,List.eraseIdx_append_of_length_le (by omega),show k - P.length = (k - (i + 1)) + 1 by omega,List.eraseIdx_cons_succ,List.eraseIdx_append_of_length_le (by omega),hq,eY,List.eraseIdx_cons_zero]
theorem zM5 (l : List Int) (n : Int) : zM6 l n = GQ l n := by
  by_cases h : ∀ i,i < l.length → U0 l n i
  · rw [BJ h];unfold zM6;exact bG.2 fun i hi => decide_eq_true (h i (eF.1 hi))
  · obtain ⟨i,hi⟩ := Classical.not_forall.1 h;obtain ⟨hi,ho⟩ := Classical.not_forall.1 hi;rw [GP hi ho];unfold zM6;unfold U0 at ho;exact T5.2 ⟨i,eF.2 hi,fun q => ho (of_decide_eq_true q)⟩
theorem zL5 {p q : Prop} [Decidable p] [Decidable q] : decide (p ∧ q) = (decide p && decide q) := by simp
theorem qS (n k a b m : Int) (ids : List Int) : iV n ⟨k,a,b,m,ids⟩ = (iU a 0 (n - 1) && decide (k = 0 ∨ ids.length = 0) && decide (k = 4 ∨ b = 0) && (if k = 0 then decide (m = 0) && GQ ids n else if k = 1 ∨ k = 2 ∨ k = 3 then iU m 0 1099511627776 else if k = 4 then decide (m = 0) && iU b (a + 1) (n - 1) else if k = 5 then iU m 0 (n - 1) else false)) := by
  unfold iV iU;simp only [zL5,zM5]
end Go.Ld
namespace Go.Proofs.YtmmkhmilpeodnaaGreat
open Go Go.Ab Go.Ld
attribute [local irreducible] VC AW bX aR
set_option maxHeartbeats 4000000
theorem IH (n k a b m : Int) (ids : List Int) (hl : ids.length ≤ 9223372036854775807) (hn : 0 ≤ n ∧ n ≤ 1000) :
    aR Tryz.prog 28 [.i n,oI k a b m ids] [] (.b (iV n ⟨k,a,b,m,ids⟩)) [] := by
  have hil : (ints ids).length = ids.length := by simp
  have ca := oN a 0 (n - 1);have cs := EI ids n hl hn;cases hA : iU a 0 (n - 1)
  · rw [hA] at ca;have e : iV n ⟨k,a,b,m,ids⟩ = (false) := by rw [qS];first | (rw [hA];rfl) | (rw [hAb];rcases h1 with h | h;(rw [decide_eq_false (by omega : ¬ (k = 0 ∨ ids.length = 0))];simp);(rw [decide_eq_false (by omega : ¬ (k = 4 ∨ b = 0))];simp)) | (rw [hAb,decide_eq_true hid,decide_eq_true hbz];simp only [iI];first | rw [if_pos k0] | rw [if_neg k0,if_pos k1] | rw [if_neg k0,if_neg k1,if_pos k4] | rw [if_neg k0,if_neg k1,if_neg k4,if_pos k5] | rw [if_neg k0,if_neg k1,if_neg k4,if_neg k5])
    rw [e];refine bO T Tryz.func28 rfl rfl rfl rfl ?_
    (repeat' (first|refine wS ?_|refine wR ?_|refine wT ?_|(refine rg 0 (bQ (cD rfl rfl) rfl (aV ?_)))|(refine rg 1 (gH T rfl (mW rfl (vV (cP rfl rfl (by omega) (by omega)) (vV (kC (ca)) (vV (dX rfl) (mV ?_))))));(iterate 4 refine gF ?_);(iterate 4 refine gU ?_);refine gF (pW rfl (mV ?_));(iterate 4 refine gF ?_);(iterate 3 refine gU ?_);refine gF (pV ?_))|(refine rg 2 (aV ?_))|refine nZ ?_));exact rQ
  · rw [hA] at ca;have hAb := hA;simp only [iU,aM,decide_eq_true_eq] at hA;by_cases h1 : k ≠ 0 ∧ 0 < ids.length ∨ k ≠ 4 ∧ b ≠ 0
    · have e : iV n ⟨k,a,b,m,ids⟩ = (false) := by rw [qS];first | (rw [hA];rfl) | (rw [hAb];rcases h1 with h | h;(rw [decide_eq_false (by omega : ¬ (k = 0 ∨ ids.length = 0))];simp);(rw [decide_eq_false (by omega : ¬ (k = 4 ∨ b = 0))];simp)) | (rw [hAb,decide_eq_true hid,decide_eq_true hbz];simp only [iI];first | rw [if_pos k0] | rw [if_neg k0,if_pos k1] | rw [if_neg k0,if_neg k1,if_pos k4] | rw [if_neg k0,if_neg k1,if_neg k4,if_pos k5] | rw [if_neg k0,if_neg k1,if_neg k4,if_neg k5])
      rw [e];refine bO T Tryz.func28 rfl rfl rfl rfl ?_
      (repeat' (first|refine wS ?_|refine wR ?_|refine wT ?_|(refine wC rfl ?_ ?_<;>(intro hb;(try simp only [nm] at hb);try (exfalso;omega)))|(refine rg 0 (bQ (cD rfl rfl) rfl (aV ?_)))|(refine rg 1 (gH T rfl (mW rfl (vV (cP rfl rfl (by omega) (by omega)) (vV (kC (ca)) (vV (dX rfl) (mW rfl (yP T rfl (yO T rfl (yV (fG rfl rfl) ?_)))))))));refine yM ?_;refine cH rfl rfl ?_ ?_<;>(intro hb;rw [hb];(try simp only [nm] at hb);try (exfalso;omega));(all_goals first|(refine gT (fW T rfl (gT (lW T rfl (gT (qW T rfl (gT (vV (fM rfl rfl) ?_))))))))|(iterate 4 refine gF ?_));(all_goals (refine gT (pW rfl (pW rfl (mV ?_)))));(all_goals first|(refine gK ?_)|(refine cH rfl rfl ?_ ?_<;>(intro hb;rw [hb];(try simp only [nm] at hb);try (exfalso;omega))));(all_goals first|(refine gT (fW T rfl (gT (lW T rfl (gT (vV (fG rfl rfl) (gT (mV ?_))))))))|(iterate 4 refine gF ?_));(all_goals first|(refine gK ?_)|(refine cH rfl rfl ?_ ?_<;>(intro hb;rw [hb];(try simp only [nm] at hb);try (exfalso;omega))));(all_goals first|(refine gT (fW T rfl (gT (lW T rfl (gT (vV (fG rfl rfl) ?_))))))|(iterate 3 refine gU ?_));(all_goals first|(refine gT (pV ?_))|(refine gF ?_));(all_goals (refine pV ?_)))|(refine rg 2 (aV ?_))|refine nZ ?_));all_goals exact rQ
    · have hid : k = 0 ∨ ids.length = 0 := by omega
      have hbz : k = 4 ∨ b = 0 := by omega
      by_cases k0 : k = 0
      · have e : iV n ⟨k,a,b,m,ids⟩ = (decide (m = 0) && GQ ids n) := by rw [qS];first | (rw [hA];rfl) | (rw [hAb];rcases h1 with h | h;(rw [decide_eq_false (by omega : ¬ (k = 0 ∨ ids.length = 0))];simp);(rw [decide_eq_false (by omega : ¬ (k = 4 ∨ b = 0))];simp)) | (rw [hAb,decide_eq_true hid,decide_eq_true hbz];simp only [iI];first | rw [if_pos k0] | rw [if_neg k0,if_pos k1] | rw [if_neg k0,if_neg k1,if_pos k4] | rw [if_neg k0,if_neg k1,if_neg k4,if_pos k5] | rw [if_neg k0,if_neg k1,if_neg k4,if_neg k5])
        rw [e];refine bO T Tryz.func28 rfl rfl rfl rfl ?_
        (repeat' (first|refine wS ?_|refine wB ?_|refine wK ?_|refine wR ?_|(refine wC rfl ?_ ?_<;>(intro hb;(try simp only [nm] at hb);try (exfalso;omega)))|(refine rg 0 (bQ (cD rfl rfl) rfl (aV ?_)))|(refine rg 1 (gH T rfl (mW rfl (vV (cP rfl rfl (by omega) (by omega)) (vV (kC (ca)) (vV (dX rfl) (mW rfl (yP T rfl (yO T rfl (yV (fG rfl rfl) ?_)))))))));refine yM ?_;refine cH rfl rfl ?_ ?_<;>(intro hb;rw [hb];(try simp only [nm] at hb);try (exfalso;omega));(all_goals ((iterate 4 refine gF ?_);refine gT (pW rfl (pW rfl (mW rfl (yP T rfl (yO T rfl (yV (fG rfl rfl) (yM ?_)))))));refine cH rfl rfl ?_ ?_<;>(intro hb;rw [hb];(try simp only [nm] at hb);try (exfalso;omega))));(all_goals (refine yP T rfl (yO T rfl (yV (fG rfl rfl) (gT (pW rfl (pV ?_))))))))|(refine rg 3 (TG T ?_))|(refine rg 4 (vV (dR rfl rfl) (aV ?_)))|(refine rg 5 (gH T rfl (vV (dR rfl rfl) (mV ?_)));refine cH rfl rfl ?_ ?_<;>(intro hb;rw [hb];(try simp only [nm] at hb);try (exfalso;omega));(all_goals first|(refine gT (fW T rfl (gT (lW T rfl (gT (mW rfl (gT (vV (kC (cs)) ?_))))))))|(iterate 4 refine gF ?_));(all_goals (refine pW rfl (aV ?_))))|refine nZ ?_));all_goals first | (exfalso;omega) | (refine cX (.inl rfl) rfl (nC ?_);simp [*])
      · by_cases k1 : k = 1 ∨ k = 2 ∨ k = 3
        · have e : iV n ⟨k,a,b,m,ids⟩ = (iU m 0 1099511627776) := by rw [qS];first | (rw [hA];rfl) | (rw [hAb];rcases h1 with h | h;(rw [decide_eq_false (by omega : ¬ (k = 0 ∨ ids.length = 0))];simp);(rw [decide_eq_false (by omega : ¬ (k = 4 ∨ b = 0))];simp)) | (rw [hAb,decide_eq_true hid,decide_eq_true hbz];simp only [iI];first | rw [if_pos k0] | rw [if_neg k0,if_pos k1] | rw [if_neg k0,if_neg k1,if_pos k4] | rw [if_neg k0,if_neg k1,if_neg k4,if_pos k5] | rw [if_neg k0,if_neg k1,if_neg k4,if_neg k5])
          rw [e];refine bO T Tryz.func28 rfl rfl rfl rfl ?_
          (repeat' (first|refine wS ?_|refine wB ?_|refine wK ?_|refine wR ?_|(refine wC rfl ?_ ?_<;>(intro hb;(try simp only [nm] at hb);try (exfalso;omega)))|(refine rg 0 (bQ (cD rfl rfl) rfl (aV ?_)))|(refine rg 1 (gH T rfl (mW rfl (vV (cP rfl rfl (by omega) (by omega)) (vV (kC (ca)) (vV (dX rfl) (mW rfl (yP T rfl (yO T rfl (yV (fG rfl rfl) ?_)))))))));refine yM ?_;refine cH rfl rfl ?_ ?_<;>(intro hb;rw [hb];(try simp only [nm] at hb);try (exfalso;omega));(all_goals (refine yP T rfl (yO T rfl (gT (qW T rfl (yV (fM rfl rfl) (gT (pW rfl (pW rfl (mV ?_))))))));refine cH rfl rfl ?_ ?_<;>(intro hb;rw [hb];(try simp only [nm] at hb);try (exfalso;omega))));(all_goals (refine yP T rfl (yO T rfl (yV (fG rfl rfl) (yM ?_)));refine cH rfl rfl ?_ ?_<;>(intro hb;rw [hb];(try simp only [nm] at hb);try (exfalso;omega))));(all_goals (refine yP T rfl (yO T rfl (yV (fG rfl rfl) (gT (pW rfl (pV ?_))))))))|(refine rg 3 (TG T ?_))|(refine rg 4 (vV (dR rfl rfl) (aV ?_)))|(refine rg 6 (vV (dR rfl rfl) (aV ?_)))|(refine rg 7 (vV (dR rfl rfl) (aV ?_)))|(refine rg 8 (vV (dR rfl rfl) (aV ?_)))|(refine rg 9 (gH T rfl (vV (by exact eQ rfl rfl (oN _ _ _) rfl rfl rfl) ?_));refine aV ?_)|refine nZ ?_));all_goals first | (exfalso;omega) | exact rQ
        · by_cases k4 : k = 4
          · have e : iV n ⟨k,a,b,m,ids⟩ = (decide (m = 0) && iU b (a + 1) (n - 1)) := by rw [qS];first | (rw [hA];rfl) | (rw [hAb];rcases h1 with h | h;(rw [decide_eq_false (by omega : ¬ (k = 0 ∨ ids.length = 0))];simp);(rw [decide_eq_false (by omega : ¬ (k = 4 ∨ b = 0))];simp)) | (rw [hAb,decide_eq_true hid,decide_eq_true hbz];simp only [iI];first | rw [if_pos k0] | rw [if_neg k0,if_pos k1] | rw [if_neg k0,if_neg k1,if_pos k4] | rw [if_neg k0,if_neg k1,if_neg k4,if_pos k5] | rw [if_neg k0,if_neg k1,if_neg k4,if_neg k5])
            rw [e];refine bO T Tryz.func28 rfl rfl rfl rfl ?_
            (repeat' (first|refine wS ?_|refine wB ?_|refine wK ?_|refine wR ?_|refine wU ?_|(refine wC rfl ?_ ?_<;>(intro hb;(try simp only [nm] at hb);try (exfalso;omega)))|(refine rg 0 (bQ (cD rfl rfl) rfl (aV ?_)))|(refine rg 1 (gH T rfl (mW rfl (vV (cP rfl rfl (by omega) (by omega)) (vV (kC (ca)) (vV (dX rfl) (mW rfl (yP T rfl (yO T rfl (yV (fG rfl rfl) ?_)))))))));refine yM ?_;refine cH rfl rfl ?_ ?_<;>(intro hb;rw [hb];(try simp only [nm] at hb);try (exfalso;omega));(all_goals (refine yP T rfl (yO T rfl (gT (qW T rfl (yV (fM rfl rfl) (gT (pW rfl (pW rfl (mV ?_))))))));refine cH rfl rfl ?_ ?_<;>(intro hb;rw [hb];(try simp only [nm] at hb);try (exfalso;omega))));(all_goals (refine yP T rfl (yO T rfl (yV (fG rfl rfl) (yM ?_)));refine cH rfl rfl ?_ ?_<;>(intro hb;rw [hb];(try simp only [nm] at hb);try (exfalso;omega))));(all_goals ((iterate 3 refine gF ?_);refine gT (pW rfl (pV ?_)))))|(refine rg 3 (TG T ?_))|(refine rg 4 (vV (dR rfl rfl) (aV ?_)))|(refine rg 6 (vV (dR rfl rfl) (aV ?_)))|(refine rg 7 (vV (dR rfl rfl) (aV ?_)))|(refine rg 8 (vV (dR rfl rfl) (aV ?_)))|(refine rg 10 (vV (dR rfl rfl) (aV ?_)))|(refine rg 11 (gH T rfl (vV (dR rfl rfl) (mV ?_)));refine cH rfl rfl ?_ ?_<;>(intro hb;rw [hb];(try simp only [nm] at hb);try (exfalso;omega));(all_goals first|(refine gT (fW T rfl (gT (lW T rfl (gT (fW T rfl (gT (lW T rfl (gT (vV (bV rfl rfl (by omega) (by omega)) ?_)))))))));refine gT (mW rfl (gT (vV (cP rfl rfl (by omega) (by omega)) (gT (vV (by exact eQ rfl rfl (oN _ _ _) rfl rfl rfl) ?_))))))|(iterate 8 refine gF ?_));(all_goals (refine pW rfl (aV ?_))))|refine nZ ?_));all_goals first | (exfalso;omega) | (refine cX (.inl rfl) rfl (nC ?_);simp [*])
          · by_cases k5 : k = 5
            · have e : iV n ⟨k,a,b,m,ids⟩ = (iU m 0 (n - 1)) := by rw [qS];first | (rw [hA];rfl) | (rw [hAb];rcases h1 with h | h;(rw [decide_eq_false (by omega : ¬ (k = 0 ∨ ids.length = 0))];simp);(rw [decide_eq_false (by omega : ¬ (k = 4 ∨ b = 0))];simp)) | (rw [hAb,decide_eq_true hid,decide_eq_true hbz];simp only [iI];first | rw [if_pos k0] | rw [if_neg k0,if_pos k1] | rw [if_neg k0,if_neg k1,if_pos k4] | rw [if_neg k0,if_neg k1,if_neg k4,if_pos k5] | rw [if_neg k0,if_neg k1,if_neg k4,if_neg k5])
              rw [e];refine bO T Tryz.func28 rfl rfl rfl rfl ?_
              (repeat' (first|refine wS ?_|refine wB ?_|refine wK ?_|refine wR ?_|(refine wC rfl ?_ ?_<;>(intro hb;(try simp only [nm] at hb);try (exfalso;omega)))|(refine rg 0 (bQ (cD rfl rfl) rfl (aV ?_)))|(refine rg 1 (gH T rfl (mW rfl (vV (cP rfl rfl (by omega) (by omega)) (vV (kC (ca)) (vV (dX rfl) (mW rfl (yP T rfl (yO T rfl (yV (fG rfl rfl) ?_)))))))));refine yM ?_;refine cH rfl rfl ?_ ?_<;>(intro hb;rw [hb];(try simp only [nm] at hb);try (exfalso;omega));(all_goals (refine yP T rfl (yO T rfl (gT (qW T rfl (yV (fM rfl rfl) (gT (pW rfl (pW rfl (mV ?_))))))));refine cH rfl rfl ?_ ?_<;>(intro hb;rw [hb];(try simp only [nm] at hb);try (exfalso;omega))));(all_goals (refine yP T rfl (yO T rfl (yV (fG rfl rfl) (yM ?_)));refine cH rfl rfl ?_ ?_<;>(intro hb;rw [hb];(try simp only [nm] at hb);try (exfalso;omega))));(all_goals (refine yP T rfl (yO T rfl (yV (fG rfl rfl) (gT (pW rfl (pV ?_))))))))|(refine rg 3 (TG T ?_))|(refine rg 4 (vV (dR rfl rfl) (aV ?_)))|(refine rg 6 (vV (dR rfl rfl) (aV ?_)))|(refine rg 7 (vV (dR rfl rfl) (aV ?_)))|(refine rg 8 (vV (dR rfl rfl) (aV ?_)))|(refine rg 10 (vV (dR rfl rfl) (aV ?_)))|(refine rg 12 (vV (dR rfl rfl) (aV ?_)))|(refine rg 13 (gH T rfl (mW rfl (vV (cP rfl rfl (by omega) (by omega)) (vV (by exact eQ rfl rfl (oN _ _ _) rfl rfl rfl) ?_))));refine aV ?_)|refine nZ ?_));all_goals first | (exfalso;omega) | exact rQ
            · have e : iV n ⟨k,a,b,m,ids⟩ = (false) := by rw [qS];first | (rw [hA];rfl) | (rw [hAb];rcases h1 with h | h;(rw [decide_eq_false (by omega : ¬ (k = 0 ∨ ids.length = 0))];simp);(rw [decide_eq_false (by omega : ¬ (k = 4 ∨ b = 0))];simp)) | (rw [hAb,decide_eq_true hid,decide_eq_true hbz];simp only [iI];first | rw [if_pos k0] | rw [if_neg k0,if_pos k1] | rw [if_neg k0,if_neg k1,if_pos k4] | rw [if_neg k0,if_neg k1,if_neg k4,if_pos k5] | rw [if_neg k0,if_neg k1,if_neg k4,if_neg k5])
              rw [e];refine bO T Tryz.func28 rfl rfl rfl rfl ?_
              (repeat' (first|refine wS ?_|refine wB ?_|refine wK ?_|refine wR ?_|(refine wC rfl ?_ ?_<;>(intro hb;(try simp only [nm] at hb);try (exfalso;omega)))|(refine rg 0 (bQ (cD rfl rfl) rfl (aV ?_)))|(refine rg 1 (gH T rfl (mW rfl (vV (cP rfl rfl (by omega) (by omega)) (vV (kC (ca)) (vV (dX rfl) (mW rfl (yP T rfl (yO T rfl (yV (fG rfl rfl) ?_)))))))));refine yM ?_;refine cH rfl rfl ?_ ?_<;>(intro hb;rw [hb];(try simp only [nm] at hb);try (exfalso;omega));(all_goals (refine yP T rfl (yO T rfl (gT (qW T rfl (yV (fM rfl rfl) (gT (pW rfl (pW rfl (mV ?_))))))));refine cH rfl rfl ?_ ?_<;>(intro hb;rw [hb];(try simp only [nm] at hb);try (exfalso;omega))));(all_goals (refine yP T rfl (yO T rfl (yV (fG rfl rfl) (yM ?_)));refine cH rfl rfl ?_ ?_<;>(intro hb;rw [hb];(try simp only [nm] at hb);try (exfalso;omega))));(all_goals (refine yP T rfl (yO T rfl (yV (fG rfl rfl) (gT (pW rfl (pV ?_))))))))|(refine rg 3 (TG T ?_))|(refine rg 4 (vV (dR rfl rfl) (aV ?_)))|(refine rg 6 (vV (dR rfl rfl) (aV ?_)))|(refine rg 7 (vV (dR rfl rfl) (aV ?_)))|(refine rg 8 (vV (dR rfl rfl) (aV ?_)))|(refine rg 10 (vV (dR rfl rfl) (aV ?_)))|(refine rg 12 (vV (dR rfl rfl) (aV ?_)))|(refine rg 14 (aV ?_))|refine nZ ?_));all_goals first | (exfalso;omega) | exact rQ
end Go.Proofs.YtmmkhmilpeodnaaGreat
namespace Go.Ld
open Go.Ab Go.Proofs.YtmmkhmilpeodnaaGreat
theorem FR {l : List Int} (h : l ≠ []) : l.headD 0 ∈ l := by
  cases l with
  | nil => exact absurd rfl h
  | cons x l => exact aS
theorem YF {l : List Int} (h : l.Pairwise (· < ·)) {z : Int} (hz : z ∈ l) : l.headD 0 ≤ z := by
  cases l with
  | nil => cases hz
  | cons x l =>
    rcases bR.1 hz with rfl | hz
    · exact eP _
    · have := (eR.1 h).1 z hz;show x ≤ z;omega
theorem zO4 {a b : Int} : cI a b ≤ 0 ↔ a ≤ b := by unfold cI;split <;> (try split) <;> omega
theorem I4 {l : List G} : KX l ↔ (l.map fun g => g.1.headD 0).Pairwise (fun a b => a ≤ b) := by
  rw [zC1];exact ⟨fun h => h.imp fun {a b} h => zO4.1 h,fun h => h.imp fun {a b} h => zO4.2 h⟩
theorem OA {c : Cx} {M : Int} {gs P Q R : List G} {u v J : G} (h : nQ c M gs) (e : gs = P ++ u :: (Q ++ v :: R)) (hM : 0 ≤ M) {M' : Int} (hMM : M ≤ M')
    (hp : J.1.Perm (u.1 ++ v.1)) (hJ : yW c.bs.length J) (hne : J.2 ≠ []) (hf : (iG J).1.Perm ((iG u).1 ++ (iG v).1)) (hm : ∀ w,w ∈ J.2 → w.2.1 ≤ M') (hl : J.2.length ≤ 1000) : nQ c M' (P ++ J :: (Q ++ R)) := by
  have hmem : ∀ g,g ∈ P ++ J :: (Q ++ R) → g = J ∨ g ∈ gs := fun g hg => by
    subst e;simp only [bI,bR] at hg ⊢;rcases hg with hg | hg | hg | hg
    · exact .inr (.inl hg)
    · exact .inl hg
    · exact .inr (.inr (.inr (.inl hg)))
    · exact .inr (.inr (.inr (.inr (.inr hg))))
  have fl : ∀ F : G → List Int,(F J).Perm (F u ++ F v) → ((P ++ J :: (Q ++ R)).flatMap F).Perm (gs.flatMap F) := fun F hF => by
    subst e;simp only [fI,bF,bP];refine List.Perm.append_left _ ?_;refine (hF.append_right _).trans ?_;rw [bP];refine List.Perm.append_left _ ?_;rw [← bP,← bP];exact List.perm_append_comm.append_right _
  have cov := (fl (·.1) hp).trans h.cov;have hlen : (gs.flatMap (·.1)).length = ((P ++ J :: (Q ++ R)).flatMap (·.1)).length := (fl (·.1) hp).length_eq.symm;refine ⟨⟨fun g hg => ?_,(fl (·.1) hp).nodup_iff.2 h.out.nd,by rw [← hlen];exact h.out.ln,fun g hg => ?_⟩,?_,fun g hg => ?_,fun g hg => ?_,cov,(fl _ hf).trans h.idn,fun g hg => ?_⟩
  · rcases hmem g hg with rfl | hg
    · exact hJ
    · exact h.out.ok g hg
  · rcases hmem g hg with rfl | hg
    · omega
    · exact h.out.ws g hg
  · have hu : u ∈ gs := by subst e;simp
    have hv : v ∈ gs := by subst e;simp
    have hup := I4.1 h.up;have ou := h.out.ok u hu;have ov := h.out.ok v hv;have huv : u.1.headD 0 ≤ v.1.headD 0 := by
      subst e;simp only [dB,List.map_cons] at hup;exact (eR.1 (eX.1 hup).2.1).1 _ (by simp)
    have hh : J.1.headD 0 = u.1.headD 0 := by
      have h1 : J.1.headD 0 ≤ u.1.headD 0 := YF hJ.up (hp.mem_iff.2 (bI.2 (.inl (FR ou.ne))));have h2 : u.1.headD 0 ≤ J.1.headD 0 := by
        rcases bI.1 (hp.mem_iff.1 (FR hJ.ne)) with hq | hq
        · exact YF ou.up hq
        · have := YF ov.up hq;omega
      omega
    refine I4.2 (hup.sublist ?_);subst e;simp only [dB,List.map_cons,hh];refine List.Sublist.append_left (List.Sublist.cons_cons _ (List.Sublist.append_left (List.sublist_cons_self _ _) _)) _
  · rcases hmem g hg with rfl | hg
    · exact hne
    · exact h.ne g hg
  · rcases hmem g hg with rfl | hg
    · exact hm
    · exact fun w hw => H8 (h.ml g hg w hw) hMM
  · rcases hmem g hg with rfl | hg
    · exact hl
    · exact h.wl g hg
theorem XS {c : Cx} {gs all : List G} {a b : Int} (h : nQ c c.m gs) (hm0 : 0 ≤ c.m) (hm1 : c.m ≤ 1048576) (ha : 0 ≤ a ∧ a < c.bs.length) (hb : 0 ≤ b ∧ b < c.bs.length) (e : join gs a b = some all) :
    nQ c (2 * c.m) all ∧ ∃ g,g ∈ all ∧ a ∈ g.1 ∧ b ∈ g.1 := by
  obtain ⟨i,x,hi,hix,hax⟩ := iR (h.find ha);obtain ⟨k,y,hk,hky,hby⟩ := iR (h.find hb);have hx := aQ hix;have hy := aQ hky;unfold join at e;dsimp only at e;rw [hi,hk] at e;split at e
  · rename_i hik;obtain rfl : i = k := by omega
    cases e;have : x = y := by rw [hix] at hky;exact Option.some.inj hky
    subst this;exact ⟨⟨h.out,h.up,h.ne,fun g hg w hw => by have := h.ml g hg w hw;omega,h.cov,h.idn,h.wl⟩,x,hx,hax,hby⟩
  · rename_i hik;have hxy : x ≠ y := fun q => by
      subst q;have h1 := (aB.1 hix).2;have h2 := (aB.1 hky).2;have l1 := (aB.1 hix).1;have l2 := (aB.1 hky).1;have nd : (gs.map fun g => g.1.headD 0).Nodup := by
        have := h.out.nd;have aux : ∀ o : List G,(∀ g,g ∈ o → g.1 ≠ []) → (o.flatMap (·.1)).Nodup → (o.map fun g => g.1.headD 0).Nodup := by
          intro o
          induction o with
          | nil => intro _ _;exact cQ
          | cons g o ih =>
            intro hg hn;rw [bF] at hn;obtain ⟨n1,n2,n3⟩ := cO.1 hn;rw [List.map_cons,fH];refine ⟨fun hc => ?_,ih (fun g h => hg g (aK _ h)) n2⟩;obtain ⟨g',hg',e'⟩ := bE.1 hc;exact n3 _ (FR (hg g aS)) _ (oU hg' (e' ▸ FR (hg g' (aK _ hg')))) rfl
        exact aux gs (fun g hg => (h.out.ok g hg).ne) this
      have e1 : (gs.map fun g => g.1.headD 0)[i]'(by simpa using l1) = (gs.map fun g => g.1.headD 0)[k]'(by simpa using l2) := by rw [mT,mT,h1,h2]
      have := (zN3 nd).1 e1;omega
    have gi : lB gs ((i : Int)).toNat = x := by unfold lB;rw [aC];show (gs[i]?).getD _ = x;rw [hix];rfl
    have gk : lB gs ((k : Int)).toNat = y := by unfold lB;rw [aC];show (gs[k]?).getD _ = y;rw [hky];rfl
    rw [gi,gk] at e;split at e
    · cases e
    · rename_i hsz;have hln : x.1.length + y.1.length ≤ 6 := by omega
      have hwl : x.2.length * y.2.length ≤ 1000 := by omega
      cases e;have dj : ∀ (u v : G),u ∈ gs → v ∈ gs → u ≠ v → ∀ b,b ∈ u.1 → b ∉ v.1 := fun u v hu hv huv b h1 h2 => huv (V4 h.out.nd hu hv h1 h2);have ndi : (gs.flatMap fun g => (iG g).1).Nodup := h.idn.nodup_iff.2 (B7 _);have ndi' : ((gs.map fun g => ((iG g).1,g.2)).flatMap (·.1)).Nodup := by rw [BV];exact ndi
      have jo : vE c.bs.length x y := by
        refine ⟨h.out.ok x hx,h.out.ok y hy,h.ne x hx,h.ne y hy,dj x y hx hy hxy,fun b h1 h2 => ?_,hln⟩
        have l1 := (aB.1 hix).1;have l2 := (aB.1 hky).1;rcases iS (show i ≠ k by omega) with hlt | hlt
        · obtain ⟨P,Q,R,e1,-⟩ := mD x hlt hix hky;rw [e1] at ndi;simp only [fI,bF] at ndi;exact (cO.1 (cO.1 ndi).2.1).2.2 b h1 b (by simp [h2]) rfl
        · obtain ⟨P,Q,R,e1,-⟩ := mD y hlt hky hix;rw [e1] at ndi;simp only [fI,bF] at ndi;exact (cO.1 (cO.1 ndi).2.1).2.2 b h2 b (by simp [h1]) rfl
      have hJ := jo.ok (h.ml x hx) (h.ml y hy) (by omega)
      have hJn := XT (h.ne x hx) (h.ne y hy);have hJf := jo.same (jF hJn);have hJm : ∀ w,w ∈ (mP x y).2 → w.2.1 ≤ 2 * c.m := fun w hw => by
        obtain ⟨u,v,hu,hv,rfl⟩ := B9 hw;have := h.ml x hx u hu;have := h.ml y hy v hv;show u.2.1 + v.2.1 ≤ _;omega
      have hJp := mQ x y;have hJl : (mP x y).2.length ≤ 1000 := by rw [DU];exact hwl
      have hJa : a ∈ (mP x y).1 := hJp.mem_iff.2 (bI.2 (.inl hax));have hJb : b ∈ (mP x y).1 := hJp.mem_iff.2 (bI.2 (.inr hby));generalize mP x y = J at *;rcases iS (show i ≠ k by omega) with hlt | hlt
      · obtain ⟨P,Q,R,e1,e2⟩ := mD J hlt hix hky;rw [show (min (i : Int) (k : Int)).toNat = i by omega,show (max (i : Int) (k : Int)).toNat = k by omega,e2]
        exact ⟨OA h e1 hm0 (by omega) hJp hJ hJn hJf hJm hJl,J,by simp,hJa,hJb⟩
      · obtain ⟨P,Q,R,e1,e2⟩ := mD J hlt hky hix;rw [show (min (i : Int) (k : Int)).toNat = k by omega,show (max (i : Int) (k : Int)).toNat = i by omega,e2]
        exact ⟨OA h e1 hm0 (by omega) (hJp.trans yI) hJ hJn (hJf.trans yI) hJm hJl,J,by simp,hJa,hJb⟩
theorem PU {f t : Int} (h : (L0 f t).2 = true) : LL (L0 f t).1 := by
  have := AZ f t;unfold L0 at h ⊢;unfold LL;dsimp only at h ⊢;rcases this with ⟨h1,h2,h3,h4⟩ | ⟨h1,_⟩
  · rw [h2,h3];omega
  · rw [h1] at h;cases h
theorem QS {t u w e : Int} {r : SP} (h : (uP t u w e r).2 = true) : LL (uP t u w e r).1 := by
  unfold uP at h ⊢;dsimp only at h ⊢;split at h
  · rename_i hq;rw [if_pos hq];exact PU h
  · rename_i hq;exact absurd h hq
theorem WP {n s : Int} {r : SP} (h : (zD r n s).2 = true) : LL (zD r n s).1 := by
  unfold zD at h ⊢;split at h
  · rename_i hq;rw [if_pos hq];exact PU h
  · cases h
theorem CE.sC {n q : Nat} {w : W} (h : CE n q w) {i : Nat} {r : SP} (hr : LL r) : CE n q (sC w i r) where
  pl := h.pl
  cl := by show (w.2.2.set i r).length = q;rw [gG];exact h.cl
  pr := h.pr
  nd := h.nd
  m0 := h.m0
  m1 := h.m1
  sp x hx := by
    rcases fO hx with hx | rfl
    · exact h.sp x hx
    · exact hr
theorem TV {c : Cx} {n q : Nat} {w : W} {i : Nat} {s : Ev} (h : CE n q w) (hi : i < q) (hs : 0 ≤ s.n) (hm : w.2.1 ≤ 3000000) (hb : (kG c w i s).2 = true) : CE n q (kG c w i s).1 ∧ (kG c w i s).1.1 = w.1 ∧ (kG c w i s).1.2.1 ≤ w.2.1 + 1 := by
  obtain ⟨g1,g2,g3⟩ := h.at hi;unfold kG at hb ⊢;by_cases k0 : s.k = 0
  · rw [if_pos k0] at hb ⊢;split
    · exact ⟨h,rfl,by dsimp only;omega⟩
    · exact ⟨⟨h.pl,h.cl,h.pr,h.nd,by have := h.m0;dsimp only;omega,by dsimp only;omega,h.sp⟩,rfl,by dsimp only;omega⟩
  rw [if_neg k0] at hb ⊢;by_cases k1 : s.k = 1
  · rw [if_pos k1] at hb ⊢;dsimp only at hb ⊢;exact ⟨h.sC (QS hb),rfl,by show w.2.1 ≤ _;omega⟩
  rw [if_neg k1] at hb ⊢;by_cases k2 : s.k = 2
  · rw [if_pos k2] at hb ⊢;dsimp only at hb ⊢;exact ⟨h.sC (WP hb),rfl,by show w.2.1 ≤ _;omega⟩
  rw [if_neg k2] at hb ⊢;by_cases k3 : s.k = 3
  · rw [if_pos k3] at hb ⊢;dsimp only at hb ⊢;unfold uZ at hb;simp only [aM,decide_eq_true_eq] at hb;unfold LL at g3;exact ⟨h.sC (show LL (s.n,s.n + 1) from ⟨by dsimp only;omega,by dsimp only;omega,by dsimp only;omega⟩),rfl,by show w.2.1 ≤ _;omega⟩
  rw [if_neg k3] at hb ⊢;split
  · exact ⟨h,rfl,by dsimp only;omega⟩
  · exact ⟨h,rfl,by dsimp only;omega⟩
theorem CR {α : Type} {l : List α} {i k : Nat} {d : α} (hi : i < l.length) (hk : k < l.length) : ((l.set i (l.getD k d)).set k (l.getD i d)).Perm l := by
  have e1 : l.getD k d = l[k] := by rw [aC,aA hk];rfl
  have e2 : l.getD i d = l[i] := by rw [aC,aA hi];rfl
  rw [e1,e2];exact List.set_set_perm hi hk
theorem zK7 {n q : Nat} {w : W} {i k : Nat} (h : CE n q w) (hi : i < q) (hk : k < q) : CE n q (oV w i k) ∧ (oV w i k).1.Perm w.1 := by
  have p1 : (oV w i k).1.Perm w.1 := CR (by rw [h.pl];exact hi) (by rw [h.pl];exact hk)
  have p2 : (oV w i k).2.2.Perm w.2.2 := CR (by rw [h.cl];exact hi) (by rw [h.cl];exact hk)
  exact ⟨⟨p1.length_eq.trans h.pl,p2.length_eq.trans h.cl,fun x hx => h.pr x (p1.mem_iff.1 hx),p1.nodup_iff.2 h.nd,h.m0,h.m1,fun r hr => h.sp r (p2.mem_iff.1 hr)⟩,p1⟩
theorem IW {c : Cx} {M : Int} {gs : List G} (h : nQ c M gs) (hM : M ≤ 2200000) {g : G} (hg : g ∈ gs) {s : Ev} (hs : 0 ≤ s.n) (ha : s.a ∈ g.1) (hb : s.k = 4 → s.b ∈ g.1) {w : W} (hw : w ∈ mF c s g) : CE c.bs.length g.1.length w ∧ w.1.Perm (iG g).1 ∧ w.2.1 ≤ M + 1 := by
  have og := h.out.ok g hg;obtain ⟨v,hv,hw⟩ := fN.1 hw;have ov := og.ws v hv;have hvm := h.ml g hg v hv;have hp := og.same v _ hv (jF (h.ne g hg));obtain ⟨hi,_⟩ := zK ha;rcases bI.1 hw with hw | hw
  · split at hw
    · rename_i hbt;obtain rfl := bK.1 hw;obtain ⟨h1,h2,h3⟩ := TV ov hi hs (by omega) hbt
      exact ⟨h1,h2 ▸ hp,by omega⟩
    · cases hw
  · split at hw
    · rename_i hk;obtain rfl := bK.1 hw;obtain ⟨hj,_⟩ := zK (hb hk);obtain ⟨h1,h2⟩ := zK7 ov hi hj;exact ⟨h1,h2.trans hp,by show v.2.1 ≤ _;omega⟩
    · cases hw
theorem SG {c : Cx} {s : Ev} {g : G} : (mF c s g).length ≤ 2 * g.2.length := by
  unfold mF;dsimp only
  induction g.2 with
  | nil => simp
  | cons w l ih =>
    rw [bF,aF,List.length_cons,aF];have h1 : ∀ {p : Prop} [Decidable p] {x : W},(if p then [x] else []).length ≤ 1 := by
      intro p _ x;split <;> simp
    have := @h1 ((kG c w (g.1.idxOf s.a) s).2 = true) _ (kG c w (g.1.idxOf s.a) s).1;have := @h1 (s.k = 4) _ (oV w (g.1.idxOf s.a) (g.1.idxOf s.b));omega
theorem zG2 {c : Cx} {M M' : Int} {gs : List G} (h : nQ c M gs) {i : Nat} {g : G} (hi : gs[i]? = some g) {ws : List W} (hne : ws ≠ []) (hl : ws.length ≤ 1000) (hM : M ≤ M')
    (hw : ∀ w,w ∈ ws → CE c.bs.length g.1.length w ∧ w.1.Perm (iG g).1 ∧ w.2.1 ≤ M') : nQ c M' (gs.set i (g.1,ws)) := by
  have hg := aQ hi;have og := h.out.ok g hg;obtain ⟨A,B,e1,e2⟩ := pH (y := (g.1,ws)) hi;rw [e2];subst e1;have hmem : ∀ x,x ∈ A ++ (g.1,ws) :: B → x = (g.1,ws) ∨ x ∈ A ++ g :: B := fun x hx => by
    simp only [bI,bR] at hx ⊢;rcases hx with hx | hx | hx
    · exact .inr (.inl hx)
    · exact .inl hx
    · exact .inr (.inr (.inr hx))
  have hbod : ((A ++ (g.1,ws) :: B).flatMap (·.1)) = ((A ++ g :: B).flatMap (·.1)) := by simp only [fI,bF]
  have hf := (hw _ (jF (g := (g.1,ws)) hne)).2.1;have ok : yW c.bs.length (g.1,ws) := ⟨og.ne,og.up,og.rg,og.ln,fun w h => (hw w h).1,fun w v h1 h2 => (hw w h1).2.1.trans (hw v h2).2.1.symm⟩;refine ⟨⟨fun x hx => ?_,by rw [hbod];exact h.out.nd,by rw [hbod];exact h.out.ln,fun x hx => ?_⟩,?_,fun x hx => ?_,fun x hx => ?_,by rw [hbod];exact h.cov,?_,fun x hx => ?_⟩
  · rcases hmem x hx with rfl | hx
    · exact ok
    · exact h.out.ok x hx
  · rcases hmem x hx with rfl | hx
    · show ws.length ≤ 2000;omega
    · exact h.out.ws x hx
  · have := I4.1 h.up;refine I4.2 ?_;simp only [dB,List.map_cons] at this ⊢;exact this
  · rcases hmem x hx with rfl | hx
    · exact hne
    · exact h.ne x hx
  · rcases hmem x hx with rfl | hx
    · exact fun w hw' => (hw w hw').2.2
    · exact fun w hw' => H8 (h.ml x hx w hw') hM
  · refine List.Perm.trans ?_ h.idn;simp only [fI,bF];exact List.Perm.append_left _ (hf.append_right _)
  · rcases hmem x hx with rfl | hx
    · exact hl
    · exact h.wl x hx
theorem II {g : G} {k : Nat} {w : W} (h : w ∈ (jN g k).2) : ∃ v,v ∈ g.2 ∧ w = zL1 k v := by
  obtain ⟨v,hv,e⟩ := bE.1 (pI h);exact ⟨v,hv,e.symm⟩
theorem OK {g : G} {k : Nat} (h : g.2 ≠ []) : (jN g k).2 ≠ [] := fun e => h (by
  have := Q8.1 e
  exact mJ.1 this)
theorem zG4 {m : Nat} {M : Int} (hM : 0 ≤ M) : ∀ {g : G},(∀ w,w ∈ g.2 → w.2.1 ≤ M) → ∀ x,x ∈ lN m g → ∀ w,w ∈ x.2 → w.2.1 ≤ M := by
  induction m with
  | zero => intro g h x hx;simp [lN] at hx;subst hx;exact h
  | succ m ih =>
    intro g h x hx;unfold lN at hx;split at hx
    · simp at hx;subst hx;exact h
    · rename_i k hk;rcases bR.1 hx with rfl | hx
      · intro w hw;obtain rfl := bK.1 hw;exact hM
      · refine ih (fun w hw => ?_) x hx;obtain ⟨v,hv,rfl⟩ := II hw;exact h v hv
theorem WR {m : Nat} : ∀ {g : G},g.2.Pairwise (fun a b => oR a b < 0) → ∀ x,x ∈ lN m g → x.2.Pairwise (fun a b => oR a b < 0) := by
  induction m with
  | zero => intro g h x hx;simp [lN] at hx;subst hx;exact h
  | succ m ih =>
    intro g h x hx;unfold lN at hx;split at hx
    · simp at hx;subst hx;exact h
    · rcases bR.1 hx with rfl | hx
      · exact lZ _ _
      · exact ih (Z9 _) x hx
theorem IR {n : Nat} : ∀ (m : Nat) {g : G}, yW n g → g.2 ≠ [] → ((lN m g).flatMap fun x => (iG x).1).Perm (iG g).1
  | 0,g,h,hne => by simp [lN]
  | m + 1,g,h,hne => by
    unfold lN;split
    · simp
    · rename_i k hk;have hr := OK (k := k) hne;obtain ⟨v,hv,e⟩ := II (jF hr);have ih := IR m (h.rest hk) hr;rw [bF];have ofw := h.ws _ (jF hne);have ov := h.ws v hv;obtain ⟨_,_,hkl,hs⟩ := kB hk;have hgv := (hs v hv).1;refine (List.Perm.append_left _ ih).trans ?_;rw [e];show (gP (iG g) k :: (v.1.eraseIdx k)).Perm _;rw [← hgv];exact (jZ v.1 k 0 (by rw [ov.pl];exact hkl)).trans (h.same _ _ hv (jF hne))
theorem sG {α β γ : Type} {F : β → List γ} {F' : α → List γ} {P : α → List β} : ∀ {l : List α}, (∀ g, g ∈ l → ((P g).flatMap F).Perm (F' g)) → ((l.flatMap P).flatMap F).Perm (l.flatMap F')
  | [],_ => .refl _
  | g :: l,h => by
    rw [bF,fI,bF];exact (h g aS).append (sG fun x hx => h x (aK _ hx))
theorem R3 {α β γ : Type} {F : β → List γ} {F' : α → List γ} {f : α → β} : ∀ {l : List α}, (∀ g, g ∈ l → (F (f g)).Perm (F' g)) → ((l.map f).flatMap F).Perm (l.flatMap F')
  | [],_ => .refl _
  | g :: l,h => by
    rw [List.map_cons,bF,bF];exact (h g aS).append (R3 fun x hx => h x (aK _ hx))
theorem VF : ∀ {l : List G}, (∀ g, g ∈ l → 0 ≤ fX g) → 0 ≤ jT l
  | [],_ => eP _
  | g :: l,h => by
    have := VF fun x hx => h x (aK _ hx);have := h g aS;show 0 ≤ fX g + jT l;omega
theorem VG : ∀ {l : List G}, (∀ g, g ∈ l → 0 ≤ fX g) → ∀ {g : G}, g ∈ l → fX g ≤ jT l
  | x :: l,h,g,hg => by
    have h0 := VF fun x hx => h x (aK _ hx);have h1 := h x aS;show fX g ≤ fX x + jT l;rcases bR.1 hg with rfl | hg
    · omega
    · have := VG (fun x hx => h x (aK _ hx)) hg;omega
theorem WS {c : Cx} {L : List G} (h : nQ c c.m L) (hm0 : 0 ≤ c.m) (hasc : ∀ g,g ∈ L → g.2.Pairwise fun a b => oR a b < 0) : nS c (qM L) := by
  have hp := dD cG (L.flatMap fun g => lN g.1.length g);have hmem : ∀ x,x ∈ qM L → ∃ g,g ∈ L ∧ x ∈ lN g.1.length g := fun x hx => fN.1 (hp.mem_iff.1 hx);have bod : ((qM L).flatMap (·.1)).Perm (L.flatMap (·.1)) := (hp.flatMap_right _).trans (sG fun g hg => zF _ (h.out.ok g hg));have idn : ((qM L).flatMap fun g => (iG g).1).Perm (L.flatMap fun g => (iG g).1) := (hp.flatMap_right _).trans (sG fun g hg => IR _ (h.out.ok g hg) (h.ne g hg));have wl : ∀ x,x ∈ qM L → x.2.length ≤ 1000 := fun x hx => by
    obtain ⟨g,hg,hx⟩ := hmem x hx;exact IQ (by omega) (h.wl g hg) x hx
  refine ⟨⟨⟨fun x hx => ?_,bod.nodup_iff.2 h.out.nd,by rw [bod.length_eq];exact h.out.ln,fun x hx => by have := wl x hx;omega⟩,sJ _,fun x hx => ?_,fun x hx => ?_,bod.trans h.cov,idn.trans h.idn,wl⟩,fun x hx => ?_,fun x hx => ?_⟩
  all_goals obtain ⟨g,hg,hx⟩ := hmem x hx
  · exact FF _ (h.out.ok g hg) x hx
  · exact zG3 (h.ne g hg) x hx
  · exact zG4 hm0 (h.ml g hg) x hx
  · exact DG _ (h.out.ok g hg) (aY _) x hx
  · exact WR (hasc g hg) x hx
theorem WV {c : Cx} {M : Int} {gs : List G} (h : nQ c M gs) (hne : ∀ g,g ∈ paid c gs → g.2 ≠ []) : nQ c c.m (paid c gs) := by
  have h0 : ∀ g,g ∈ gs → 0 ≤ fX g := fun g hg => (DS (h.out.ok g hg) (h.ne g hg)).1;refine ⟨h.out.paid c,NT h.up,hne,fun g hg w hw => ?_,by rw [O2];exact h.cov,?_,fun g hg => ?_⟩
  · obtain ⟨x,hx,rfl⟩ := bE.1 hg;have := of_decide_eq_true (kA.1 hw).2;have := VG h0 hx;omega
  · refine List.Perm.trans (R3 (F' := fun g => (iG g).1) fun g hg => ?_) h.idn;have h1 := hne _ (bE.2 ⟨g,hg,rfl⟩);have h2 := jF h1;exact (h.out.ok g hg).same _ _ (kA.1 h2).1 (jF (h.ne g hg))
  · obtain ⟨x,hx,rfl⟩ := bE.1 hg;exact bA (qK _ _) (h.wl x hx)
theorem zE1 {c : Cx} {M : Int} {gs : List G} (h : nQ c M gs) (hm0 : 0 ≤ c.m) (hasc : ∀ g,g ∈ gs → g.2.Pairwise fun a b => oR a b < 0) (hne : ∀ g,g ∈ uV c gs → g.2 ≠ []) : nS c (uV c gs) := by
  refine WS (WV h fun g hg e => ?_) hm0 fun g hg => ?_
  · refine hne g ?_ e;refine (dD cG _).mem_iff.2 (fN.2 ⟨g,hg,?_⟩);rw [IP e];exact bK.2 rfl
  · obtain ⟨x,hx,rfl⟩ := bE.1 hg;exact (hasc x hx).sublist List.filter_sublist
theorem mN {n : Int} {s : Ev} (h : iV n s = true) (hn : n ≤ 1000000) : (0 ≤ s.a ∧ s.a < n) ∧ (s.k = 4 → s.a < s.b ∧ s.b < n) ∧ 0 ≤ s.n ∧ s.n ≤ 1099511627776 := by
  obtain ⟨k,a,b,m,ids⟩ := s;unfold iV at h;simp only [aM,decide_eq_true_eq] at h;obtain ⟨⟨⟨h1,h2⟩,h3⟩,h4⟩ := h;dsimp only;refine ⟨by omega,fun hk => ?_,?_⟩
  · subst hk;simp at h4;omega
  · by_cases k0 : k = 0
    · subst k0;simp at h4;omega
    · rw [if_neg k0] at h4;split at h4
      · simp at h4;omega
      · split at h4
        · simp at h4;omega
        · split at h4
          · simp at h4;omega
          · cases h4
theorem SO {gs all : List G} {a b : Int} (e : join gs a b = some all) (ha : ∃ g,g ∈ gs ∧ a ∈ g.1) : ∀ g,g ∈ all → g ∈ gs ∨ a ∈ g.1 := by
  intro g hg;obtain ⟨i,x,hi,hix,hax⟩ := iR ha;unfold join at e;dsimp only at e;split at e
  · cases e;exact .inl hg
  · split at e
    · cases e
    · cases e;rcases fO (List.mem_of_mem_eraseIdx hg) with hg | rfl
      · exact .inl hg
      · refine .inr ((mQ _ _).mem_iff.2 (bI.2 (.inl ?_)));rw [hi];unfold lB;rw [aC,show ((i : Int)).toNat = i from rfl,hix]
        exact hax
structure yG (c : Cx) (M : Int) (all : List G) (s : Ev) : Prop where
  mid : nQ c M all
  asc : ∀ g,g ∈ all → (g.2.Pairwise fun a b => oR a b < 0) ∨ s.a ∈ g.1
  a : 0 ≤ s.a ∧ s.a < c.bs.length
  b : s.k = 4 → ∃ g,g ∈ all ∧ s.a ∈ g.1 ∧ s.b ∈ g.1
  n0 : 0 ≤ s.n
  n1 : s.n ≤ 1099511627776
theorem yG.at {c : Cx} {M : Int} {all : List G} {s : Ev} (h : yG c M all s) : ∃ (i : Nat) (g : G),pZ all s.a = (i : Int) ∧ all[i]? = some g ∧ g ∈ all ∧ lB all (pZ all s.a).toNat = g ∧ s.a ∈ g.1 ∧ (s.k = 4 → s.b ∈ g.1) := by
  obtain ⟨i,g,hi,hg,ha⟩ := iR (h.mid.find h.a);have hm := aQ hg;refine ⟨i,g,hi,hg,hm,?_,ha,fun hk => ?_⟩
  · rw [hi];unfold lB;rw [aC,show ((i : Int)).toNat = i from rfl,hg];rfl
  · obtain ⟨x,hx,h1,h2⟩ := h.b hk;rw [V4 h.mid.out.nd hm hx ha h1];exact h2
theorem yG.next {c : Cx} {M : Int} {all : List G} {s : Ev} (h : yG c M all s) (hM : M ≤ 2200000) {i : Nat} {g : G} (hi : all[i]? = some g) (ha : s.a ∈ g.1) (hb : s.k = 4 → s.b ∈ g.1) (hne : fY (mF c s g) ≠ []) (hl : (fY (mF c s g)).length ≤ 1000) :
    nQ c (M + 1) (all.set i (g.1,fY (mF c s g))) ∧ ∀ x,x ∈ all.set i (g.1,fY (mF c s g)) → x.2.Pairwise fun a b => oR a b < 0 := by
  have hg := aQ hi;refine ⟨zG2 h.mid hi hne hl (by omega) fun w hw => IW h.mid hM hg h.n0 ha hb (pI hw),fun x hx => ?_⟩
  obtain ⟨A,B,e1,e2⟩ := pH (y := (g.1,fY (mF c s g))) hi;rw [e2] at hx;have nd := h.mid.out.nd;have hall : x = (g.1,fY (mF c s g)) ∨ x ∈ all ∧ s.a ∉ x.1 := by
    subst e1;simp only [fI,bF] at nd;obtain ⟨_,n1,n2⟩ := cO.1 nd;obtain ⟨_,_,n3⟩ := cO.1 n1;simp only [bI,bR] at hx ⊢;rcases hx with hx | hx | hx
    · exact .inr ⟨.inl hx,fun q => n2 _ (oU hx q) _ (bI.2 (.inl ha)) rfl⟩
    · exact .inl hx
    · exact .inr ⟨.inr (.inr hx),fun q => n3 _ ha _ (oU hx q) rfl⟩
  rcases hall with rfl | ⟨h1,h2⟩
  · exact Z9 _
  · exact (h.asc x h1).resolve_right h2
theorem OH {c : Cx} {M : Int} {l all : List G} {s : Ev} (h : yG c M all s) (hM : M ≤ 2200000) (hm0 : 0 ≤ c.m) (hl : nS c l) : nS c (rF c l all s).2 := by
  obtain ⟨i,g,hi,hg,hgm,hat,ha,hb⟩ := h.at;unfold rF;dsimp only;rw [hat];split
  · exact hl
  · rename_i hne;split
    · exact hl
    · rename_i hwl;split
      · exact hl
      · rename_i hany;obtain ⟨hm,hasc⟩ := h.next hM hg ha hb hne (by omega)
        rw [hi] at hany ⊢;refine zE1 hm hm0 hasc fun x hx e => hany (iZ.2 ⟨x,hx,by rw [e];rfl⟩)
theorem vJ {c : Cx} {gs : List G} {s : Ev} (h : nS c gs) (hn : c.bs.length ≤ 1000) (hm0 : 0 ≤ c.m) (hr : iV c.bs.length s = true) (hk : s.k ≠ 4) : yG c c.m gs s := by
  obtain ⟨h1,h2,h3,h4⟩ := mN hr (by omega)
  exact ⟨h.mid,fun g hg => .inl (h.asc g hg),h1,fun q => absurd q hk,h3,h4⟩
theorem sV {c : Cx} {gs all : List G} {s : Ev} (h : nS c gs) (hn : c.bs.length ≤ 1000) (hm0 : 0 ≤ c.m) (hm1 : c.m ≤ 1048576) (hr : iV c.bs.length s = true) (hk : s.k = 4) (e : join gs s.a s.b = some all) : yG c (2 * c.m) all s := by
  obtain ⟨h1,h2,h3,h4⟩ := mN hr (by omega)
  have h2 := h2 hk;obtain ⟨j1,j2⟩ := XS h.mid hm0 hm1 h1 ⟨by omega,by omega⟩ e
  exact ⟨j1,fun g hg => (SO e (h.mid.find h1) g hg).imp_left fun hg => h.asc g hg,h1,fun _ => j2,h3,h4⟩
theorem nQ.n12 {c : Cx} {M : Int} {gs : List G} (h : nQ c M gs) : c.bs.length ≤ 12 := by
  have := h.cov.length_eq;have := h.out.ln;simp at *;omega
theorem Y0 {c : Cx} {gs : List G} {s : Ev} (h : nS c gs) (hm0 : 0 ≤ c.m) (hm1 : c.m ≤ 1048576) : nS c (kU c gs s).2 := by
  have hn := h.mid.n12;unfold kU;split
  · rename_i hr;split
    · rename_i hk;split
      · exact h
      · rename_i all e;exact OH (sV h (by omega) hm0 hm1 hr hk e) (by omega) hm0 h
    · rename_i hk;exact OH (vJ h (by omega) hm0 hr hk) (by omega) hm0 h
  · exact h
def HU (c : Cx) (s : Ev) (g : G) (w : W) : List W :=
  (if (kG c w (g.1.idxOf s.a) s).2 then [(kG c w (g.1.idxOf s.a) s).1] else []) ++ (if s.k = 4 then [oV w (g.1.idxOf s.a) (g.1.idxOf s.b)] else [])
def vR (c : Cx) (s : Ev) (g : G) (k : Nat) : List W := (g.2.take k).flatMap (HU c s g)
theorem SH (c : Cx) (s : Ev) (g : G) : vR c s g g.2.length = mF c s g := by unfold vR;rw [dS];rfl
theorem AE {c : Cx} {s : Ev} {g : G} {k : Nat} (h : k < g.2.length) : vR c s g (k + 1) = vR c s g k ++ HU c s g g.2[k] := by
  unfold vR;rw [aT h,fI,bF,BU,List.append_nil]
theorem RF {c : Cx} {s : Ev} {g : G} {w : W} : (HU c s g w).length ≤ 2 := by
  unfold HU;rw [aF];split <;> split <;> simp
theorem DM {c : Cx} {s : Ev} {g : G} : ∀ {k : Nat}, k ≤ g.2.length → (vR c s g k).length ≤ 2 * k
  | 0,_ => by simp [vR]
  | k + 1,h => by
    rw [AE (by omega),aF]
    have := DM (c := c) (s := s) (g := g) (k := k) (by omega)
    have := RF (c := c) (s := s) (g := g) (w := g.2[k]'(by omega))
    omega
theorem zF7 (l : List Int) : AB.rf (.arr (Go.Ab.ints l) 1) = true := by
  show (Go.Ab.ints l).all AV.rfL = true;rw [bG];intro e he;obtain ⟨x,_,rfl⟩ := bE.1 he;rfl
theorem VX (l : List SP) : AB.rf (.arr (fA l) 2) = true := by
  show (fA l).all AV.rfL = true;rw [bG];intro e he;obtain ⟨x,_,rfl⟩ := bE.1 he;rfl
theorem zF6 (a : List Int) (b : List SP) : [AB.arr (Go.Ab.ints a) 1,.arr (fA b) 2].all AB.rf = true := by
  simp only [U5,zF7,VX,List.all_nil,Bool.and_self]
theorem HP {c : Cx} {n : Nat} {gs : List G} (h : nP n gs) : nP n (uV c gs) := by
  have h := h.paid c;unfold uV;generalize paid c gs = L at *;have hp := dD cG (L.flatMap fun g => lN g.1.length g);have hmem : ∀ x,x ∈ qM L → ∃ g,g ∈ L ∧ x ∈ lN g.1.length g := fun x hx => fN.1 (hp.mem_iff.1 hx);have bod : ((qM L).flatMap (·.1)).Perm (L.flatMap (·.1)) := (hp.flatMap_right _).trans (sG fun g hg => zF _ (h.ok g hg));refine ⟨fun x hx => ?_,bod.nodup_iff.2 h.nd,by rw [bod.length_eq];exact h.ln,fun x hx => ?_⟩
  all_goals obtain ⟨g,hg,hx⟩ := hmem x hx
  · exact FF _ (h.ok g hg) x hx
  · exact IQ (by omega) (h.ws g hg) x hx
abbrev yD (s : Ev) : List AV := [.i s.k,.i s.a,.i s.b,.i s.n,.rowE (Go.Ab.ints s.ids) 1]
end Go.Ld
namespace Go.Proofs.YtmmkhmilpeodnaaGreat
open Go Go.Ab Go.Ld
attribute [local irreducible] VC AW bX aR kY
set_option maxHeartbeats 4000000
theorem zQ4 (g : G) : aR Tryz.prog 52 [UI g] [] (.b g.2.isEmpty) [] := by
  obtain ⟨bs,ws⟩ := g;cases ws with
  | nil =>
    refine bO T Tryz.func52 rfl rfl rfl rfl ?_
    (repeat' (first|refine wS ?_|refine wR ?_|(refine rg 0 (bQ (cD rfl rfl) rfl (aV ?_)))|(refine rg 1 (gH T rfl (qW T rfl (vV (dR rfl rfl) (aV ?_)))))|refine nZ ?_));all_goals first | (exfalso;omega) | exact rQ
  | cons w ws =>
    have hl : (fQ (w :: ws)).length ≠ 0 := by rw [eV];simp
    refine bO T Tryz.func52 rfl rfl rfl rfl ?_
    (repeat' (first|refine wS ?_|refine wR ?_|(refine rg 0 (bQ (cD rfl rfl) rfl (aV ?_)))|(refine rg 1 (gH T rfl (qW T rfl (vV (dR rfl rfl) (aV ?_)))))|refine nZ ?_));all_goals first | (exfalso;omega) | exact rQ
noncomputable def zW6 : Code := match Tryz.f11.body with
  | some (.seq _ (.seq _ (.seq _ (.seq _ c)))) => c
  | _ => .skip
noncomputable def yB3 : Code := match zW6 with
  | .seq a _ => a
  | _ => .skip
noncomputable def yB4 : Code := match zW6 with
  | .seq _ b => b
  | _ => .skip
theorem LV (c : Cx) (l all : List G) (s : Ev) {M : Int} (hc : qI c) (h : yG c M all s) (hM : M ≤ 2200000) (hids : s.ids.length ≤ 9223372036854775807) :
    AW Tryz.prog (Tryz.f11.ntmps,1) yB3 [(0,.ptr 0 0),(3,.pr (yD s) 0),(5,.sl 1 0 all.length 2)] [.cells (gN c l),.arr (jW all) 2] (IZ (fun v h => AW Tryz.prog (Tryz.f11.ntmps,1) yB4 v h (VZ T Tryz.f11.results.toList 1 (.i (rF c l all s).1) [.cells (gN c (rF c l all s).2)])) (VZ T Tryz.f11.results.toList 1 (.i (rF c l all s).1) [.cells (gN c (rF c l all s).2)])) := by
  obtain ⟨i,g,hi,hg,hgm,hat,ha,hb⟩ := h.at;have hn12 := h.mid.n12;have hal : (jW all).length = all.length := jV _;have hl12 : all.length ≤ 12 := bA h.mid.out.len h.mid.out.ln;have og := h.mid.out.ok g hgm;have hwl := h.mid.wl g hgm;have hln := og.ln;have hil := (aB.1 hg).1;have f1 := zQ all s.a (by omega) (fun g hg => by have := (h.mid.out.ok g hg).ln;omega)
  have hvw : ∀ {x : AB} {r : Hp},oK (x :: .arr (jW all) 2 :: r) (.sl 1 0 all.length 2) (.rowE (jW all) 2) := fun {x r} => vH rfl hal.symm (vP (fun _ => rfl) _);have hix := xB g.1 s.a (by omega)
  have hxi : xC g.1 s.a 0 = ((g.1.idxOf s.a : Nat) : Int) := by have := C4 g.1 s.a 0 ha;simpa using this
  rw [hxi] at hix;rw [hi] at f1;have q1 := zL (L := all) (j := (i : Int)) (i := i) hg rfl;unfold rF;dsimp only;rw [hat,hi,bJ];obtain ⟨bs,ws⟩ := g;dsimp only at *;have hwsl : (fQ ws).length = ws.length := eV _
  (repeat' (first|refine wS ?_|(refine rg 9 (mW rfl (fW T rfl (vV (aP T rfl rfl rfl rfl) (vV (by exact fB rfl rfl f1 (.cons hvw (.cons (.v _) .nil)) rfl rfl) ?_))));refine aV ?_)|(refine rg 10 (dK rfl (vV (by exact aJ T rfl rfl rfl rfl rfl (by omega) (by omega)) ?_));refine fW T rfl (vV (by exact aP T rfl rfl (bH rfl q1) rfl) ?_);refine vV (by exact eU T rfl rfl rfl rfl) ?_;refine bQ (bT T rfl) rfl (aU T rfl rfl rfl rfl rfl rfl (by decide) rfl ?_))|refine nZ ?_));all_goals try (exfalso;omega)
  refine uK 2 1 3 rfl rfl (by decide) ?_
  (repeat' (first|refine wS ?_|refine wB ?_|(refine rg 11 (fW T rfl (vV (aP T rfl rfl rfl rfl) (fW T rfl (vV (aP T rfl rfl rfl rfl) (vV (kC (hix)) (aV ?_)))))))|(refine rg 12 (dK rfl (vV (by exact aJ T rfl rfl rfl rfl rfl (by omega) (by omega)) ?_));refine fW T rfl (vV (by exact aP T rfl rfl (bH rfl q1) rfl) ?_);refine qW T rfl (mV ?_))|refine nZ ?_));all_goals try (exfalso;omega)
  refine cN (X := {k : Nat // k ≤ ws.length}) (fun k => [(0,.ptr 0 0),(3,.pr (yD s) 0),(5,.sl 1 0 all.length 2),(8,.i i),(9,.ptr 2 0),(10,.i (bs.idxOf s.a : Nat)),(63,.rowE (fQ ws) 3),(64,.i (fQ ws).length),(65,.i k.1)]) (fun k => [.cells (gN c l),.arr (jW all) 2,.cells [.rowE (ints bs) 1,.sl 3 0 (vR c s (bs,ws) k.1).length 3],.arr (fQ (vR c s (bs,ws) k.1)) 3]) (fun k => ws.length - k.1) ⟨0,bU _⟩ ⟨[0,1,2,3],rfl,(by repeat first|exact trivial|refine ⟨rfl,?_⟩),⟨.inr rfl,.inr (aD rfl rfl (eG _)),.inr rfl,.inr rfl,trivial⟩,by decide,yA _⟩ ?_
  rintro ⟨k,hk⟩;dsimp only;by_cases hlt : k < ws.length
  · have hgk := rW hlt;have hst := AE (c := c) (s := s) (g := (bs,ws)) (k := k) hlt;have hal2 := DM (c := c) (s := s) (g := (bs,ws)) (k := k) hk;have ow := og.ws ws[k] (aI hlt);obtain ⟨hidx,_⟩ := zK ha;have hbw := ZK c l ws[k] s hc ow rfl hidx (by show bs.length ≤ 1000;omega) hids ⟨h.n0,h.n1⟩
    obtain ⟨e1,e2⟩ := GM c ws[k] (bs.idxOf s.a) s;have hk4 : s.k = 4 → (kG c ws[k] (bs.idxOf s.a) s).2 = true := fun q => by unfold kG;rw [q];rfl
    have hex : s.k = 4 → ∃ j : Nat,xC bs s.b 0 = (j : Int) ∧ j = bs.idxOf s.b ∧ j < bs.length := fun q => by
      obtain ⟨hj,_⟩ := zK (hb q);exact ⟨bs.idxOf s.b,by have := C4 bs s.b 0 (hb q);simpa using this,rfl,hj⟩
    have hiy := xB bs s.b (by omega)
    unfold HU at hst;dsimp only at hst;have hpl := ow.pl;have hcl := ow.cl;have hal3 : (fQ (vR c s (bs,ws) k)).length = (vR c s (bs,ws) k).length := eV _;generalize vR c s (bs,ws) k = acc at *;generalize hN : vR c s (bs,ws) (k + 1) = acc' at *;generalize bs.idxOf s.a = ia at *;generalize hw : ws[k] = w at *;generalize kG c w ia s = z at *;obtain ⟨⟨zp,zm,zc⟩,zb⟩ := z;dsimp only at e1 e2 hst hk4 hbw;subst e1;obtain ⟨wp,wm,wc⟩ := w;dsimp only at *;have hz1 : (ints wp).length = wp.length := dC _;have hz2 : (fA zc).length = zc.length := gJ _
    (repeat' (first|refine wS ?_|refine wB ?_|refine wK ?_|(refine wC rfl ?_ ?_<;>(intro hb;(try simp only [nm] at hb);try (exfalso;omega)))|(refine rg 13 (vV (aL rfl rfl) ?_))|(refine rg 14 (vV (ix T rfl (by omega) (lU _) hgk) (lW T rfl (bQ (bT T rfl) rfl (aU T rfl rfl rfl rfl rfl rfl (by decide) rfl ?_)))))|refine nZ ?_));all_goals try (exfalso;omega)
    refine fC 12 (cs := wA (wp,wm,wc)) rfl rfl rfl ?_
    (repeat' (first|refine wS ?_|(refine rg 15 (mW rfl (lW T rfl (mW rfl (lW T rfl (bQ (by exact fL rfl rfl hbw (.inl ⟨.cons (.ptr rfl (gM _ rfl)) (.cons (ES _) (.cons (.v _) (.cons (.agg (gM _ rfl)) .nil))),zF6 _ _⟩)) rfl ?_)))));refine mW rfl (xW rfl (xW rfl (bQ (bT T rfl) rfl (aU T rfl rfl rfl rfl rfl rfl (by decide) rfl (aV ?_))))))|refine nZ ?_));all_goals try (exfalso;omega)
    refine fE [(0, .ptr 0 0), (3, .pr (yD s) 0), (5, .sl 1 0 all.length 2), (8, .i i), (9, .ptr 2 0), (10, .i ia), (63, .rowE (fQ ws) 3), (64, .i (fQ ws).length), (65, .i k), (12, .pr (wA (wp, wm, wc)) 0), (13, .ptr 6 0), (14, .b zb)] [.cells (gN c l), .arr (jW all) 2, .cells [.rowE (ints bs) 1, .sl 3 0 acc.length 3], .arr (fQ acc) 3, .arr (ints wp) 1, .arr (fA zc) 2, .cells [.sl 4 0 wp.length 1, .i zm, .sl 5 0 wc.length 2]]
      ⟨[0,1,2,3,5,6,7],rfl,(by repeat first|exact trivial|refine ⟨rfl,?_⟩),⟨.inr rfl,.inr (aD rfl rfl (eG _)),.inr rfl,.inr (aD rfl rfl (bM _)),.inr (aD rfl (bY _ (ints_idf _)) (ints_idf _)),.inr (aD rfl (bY _ (eZ _)) (eZ _)),.inr rfl,trivial⟩,by decide,yA _⟩ ?_
    refine nL 6 0 (es := ints wp) rfl rfl rfl hz1.symm (iJ (ints_idf _)) ?_;refine nL 6 2 (es := fA zc) rfl rfl rfl (by omega) (iJ (eZ _)) ?_
    refine fC 13 (cs := wA (wp,zm,zc)) rfl rfl rfl ?_;refine fE [(0, .ptr 0 0), (3, .pr (yD s) 0), (5, .sl 1 0 all.length 2), (8, .i i), (9, .ptr 2 0), (10, .i ia), (63, .rowE (fQ ws) 3), (64, .i (fQ ws).length), (65, .i k), (12, .pr (wA (wp, wm, wc)) 0), (13, .pr (wA (wp, zm, zc)) 0), (14, .b zb)] [.cells (gN c l), .arr (jW all) 2, .cells [.rowE (ints bs) 1, .sl 3 0 acc.length 3], .arr (fQ acc) 3]
      ⟨[0,1,2,3],rfl,(by repeat first|exact trivial|refine ⟨rfl,?_⟩),⟨.inr rfl,.inr (aD rfl rfl (eG _)),.inr rfl,.inr (aD rfl rfl (bM _)),trivial⟩,by decide,yA _⟩ ?_
    have hA1 : ∀ (l : List W) (w : W),fQ (l ++ [w]) = fQ l ++ [wA w] := fun l w => by rw [fQ,dB];rfl
    by_cases k4 : s.k = 4
    · obtain rfl := hk4 k4;rw [if_pos rfl,if_pos k4] at hst;obtain ⟨j,hj1,hj2,hj3⟩ := hex k4;rw [hj1] at hiy;rw [← hj2] at hst;have hxc := zT4 (wp,wm,wc) (i := ia) (k := j) ⟨by dsimp only;omega,by dsimp only;omega⟩ (by dsimp only;omega) (by dsimp only;omega) (by dsimp only;omega)
      generalize oV (wp,wm,wc) ia j = u at *;obtain ⟨up,um,uc⟩ := u;have hW := hA1 acc (wp,zm,zc);have hW2 := hA1 (acc ++ [(wp,zm,zc)]) (up,um,uc);rw [bP,← hst] at hW2;have hacl : acc'.length = acc.length + 2 := by rw [hst];simp
      have hWl : (fQ (acc ++ [(wp,zm,zc)])).length = acc.length + 1 := by rw [eV];simp
      have hidA := bM (acc ++ [(wp,zm,zc)]);generalize fQ (acc ++ [(wp,zm,zc)]) = B at *;generalize fQ acc = A at *
      (repeat' (first|refine wS ?_|refine wT ?_|(refine rg 16 (mV ?_))|(refine rg 17 (gH T rfl (lW T rfl (bQ (by exact bC T rfl rfl (by decide) (by decide) rfl rfl rfl) rfl ?_)));refine fR T rfl rfl rfl rfl rfl rfl (by omega) (kJ.whole rfl rfl) rfl (by simp;omega) (by simp;omega) rfl ?_;refine fW T rfl (aU T rfl rfl rfl rfl rfl rfl (by decide) rfl ?_))|refine nZ ?_));all_goals try (exfalso;omega)
      refine fE [(0, .ptr 0 0), (3, .pr (yD s) 0), (5, .sl 1 0 all.length 2), (8, .i i), (9, .ptr 2 0), (10, .i ia), (63, .rowE (fQ ws) 3), (64, .i (fQ ws).length), (65, .i k), (12, .pr (wA (wp, wm, wc)) 0)] [.cells (gN c l), .arr (jW all) 2, .cells [.rowE (ints bs) 1, .sl 3 0 (acc.length + 1) 3], .arr B 3]
        ⟨[0,1,2,5],rfl,(by repeat first|exact trivial|refine ⟨rfl,?_⟩),⟨.inr rfl,.inr (aD rfl rfl (eG _)),.inr rfl,.inr (aD rfl (by rw [hW];exact lQ hal3.symm) hidA),trivial⟩,by decide,yA _⟩ ?_
      (repeat' (first|refine wT ?_|(refine rg 18 (gH T rfl (vV (lO rfl rfl k4) ?_)))|(refine wG (id := 19) 128 [[],[0],[],[],[],[4],[],[6],rM 4 4,rM 2 7,rM 2 8,rN 11] (rM 87 12) [[],[],[87,88],[87,88,89],rM 87 4,rM 87 4,rM 87 6,rM 87 6,rM 87 4,[87,88],[87,88],[]] [(11,3)] cJ rfl (by decide +kernel) (fP rfl rfl rfl rfl (by exact cE T rfl rfl rfl) ?_);refine fP rfl rfl rfl rfl (by exact aP T rfl rfl rfl rfl) ?_;refine fP rfl rfl rfl rfl (by exact aP T rfl rfl rfl rfl) ?_;refine fP rfl rfl rfl rfl (by exact cC rfl) ?_;refine fP rfl rfl rfl rfl (by exact cE T rfl rfl rfl) ?_;refine fP rfl rfl rfl rfl (by exact aP T rfl rfl rfl rfl) ?_;refine fP rfl rfl rfl rfl (by exact cE T rfl rfl rfl) ?_;refine fP rfl rfl rfl rfl (by exact aP T rfl rfl rfl rfl) ?_;refine fP rfl rfl rfl rfl (by exact kC (hiy)) ?_;refine fP rfl rfl rfl rfl (by exact kC (hxc)) ?_;refine R9 rfl rfl rfl rfl (by exact bC T rfl rfl (by decide) (by decide) rfl rfl rfl) rfl ?_;refine zS rfl rfl rfl rfl (aN rfl) (by exact sQ T rfl rfl rfl rfl rfl rfl (by omega) (kJ.whole rfl rfl) rfl (by simp;omega) (by simp;omega)) ?_;refine K9 rfl rfl rfl (by exact rfl) ?_;refine fW T rfl (aU T rfl rfl rfl rfl rfl rfl (by decide) rfl ?_))|(refine rg 20 (vV (bV rfl rfl (by omega) (by omega)) (mV ?_)))|refine nZ ?_));all_goals try (exfalso;omega)
      exact ⟨⟨k + 1,hlt⟩,by dsimp only;omega,⟨[0,1,2,5],rfl,(by repeat first|exact trivial|refine ⟨rfl,?_⟩),⟨.inr rfl,.inr (aD rfl rfl (eG _)),.inr (by dsimp only;rw [hN,hacl];rfl),.inr (aD rfl (by dsimp only;rw [hN,hW2];exact lQ hWl.symm) (bM _)),trivial⟩,by decide,yA _⟩⟩
    · rw [if_neg k4,List.append_nil] at hst;cases zb with
      | true =>
        rw [if_pos rfl] at hst;have hW := hA1 acc (wp,zm,zc);rw [← hst] at hW;have hacl : acc'.length = acc.length + 1 := by rw [hst];simp
        generalize fQ acc = A at *
        (repeat' (first|refine wS ?_|refine wK ?_|refine wT ?_|refine wU ?_|(refine rg 16 (mV ?_))|(refine rg 17 (gH T rfl (lW T rfl (bQ (by exact bC T rfl rfl (by decide) (by decide) rfl rfl rfl) rfl ?_)));refine fR T rfl rfl rfl rfl rfl rfl (by omega) (kJ.whole rfl rfl) rfl (by simp;omega) (by simp;omega) rfl ?_;refine fW T rfl (aU T rfl rfl rfl rfl rfl rfl (by decide) rfl ?_))|(refine rg 18 (gH T rfl (vV (gL rfl rfl (by omega)) ?_)))|(refine rg 20 (vV (bV rfl rfl (by omega) (by omega)) (mV ?_)))|refine nZ ?_));all_goals try (exfalso;omega)
        exact ⟨⟨k + 1,hlt⟩,by dsimp only;omega,⟨[0,1,2,5],rfl,(by repeat first|exact trivial|refine ⟨rfl,?_⟩),⟨.inr rfl,.inr (aD rfl rfl (eG _)),.inr (by dsimp only;rw [hN,hacl];rfl),.inr (aD rfl (by dsimp only;rw [hN,hW];exact lQ hal3.symm) (bM _)),trivial⟩,by decide,yA _⟩⟩
      | false =>
        rw [if_neg (by simp),List.append_nil] at hst
        subst hst
        (repeat' (first|refine wS ?_|refine wK ?_|refine wU ?_|(refine rg 16 (mV ?_))|(refine rg 18 (gH T rfl (vV (gL rfl rfl (by omega)) ?_)))|(refine rg 20 (vV (bV rfl rfl (by omega) (by omega)) (mV ?_)))|refine nZ ?_));all_goals try (exfalso;omega)
        exact ⟨⟨k + 1,hlt⟩,by dsimp only;omega,⟨[0,1,2,3],rfl,(by repeat first|exact trivial|refine ⟨rfl,?_⟩),⟨.inr rfl,.inr (aD rfl rfl (eG _)),.inr (by dsimp only;rw [hN];rfl),.inr (aD rfl (by dsimp only;rw [hN]) (bM _)),trivial⟩,by decide,yA _⟩⟩
  · obtain rfl : k = ws.length := by omega
    have hNA := SH c s (bs,ws);dsimp only at hNA;rw [hNA];have hnl := SG (c := c) (s := s) (g := (bs,ws));dsimp only at hnl;have hno : ∀ w,w ∈ mF c s (bs,ws) → CE c.bs.length bs.length w := fun w hw => (IW h.mid hM hgm h.n0 ha hb hw).1;have hoc := DK (mF c s (bs,ws)) (by omega) (fun w hw => ⟨by have := (hno w hw).pl;omega,by have := (hno w hw).cl;omega⟩)
    have hnx := h.next hM hg ha hb
    dsimp only at hnx;have hol := rG (mF c s (bs,ws));have hNl : (fQ (mF c s (bs,ws))).length = (mF c s (bs,ws)).length := eV _;generalize mF c s (bs,ws) = nw at *
    (repeat' (first|refine wS ?_|refine wE ?_|(refine wC rfl ?_ ?_<;>(intro hb;(try simp only [nm] at hb);try (exfalso;omega)))|(refine rg 13 (vV (aL rfl rfl) ?_))|refine nZ ?_));all_goals try (exfalso;omega)
    refine nL 2 1 (es := fQ nw) rfl rfl rfl hNl.symm (iJ (bM _)) ?_;generalize fY nw = ow at *;have how : (fQ ow).length = ow.length := eV _
    (repeat' (first|refine wS ?_|refine wB ?_|(refine rg 21 (gH T rfl (vV (kC (hoc)) (fW T rfl (aU T rfl rfl rfl rfl rfl rfl (by decide) rfl ?_)))))|refine nZ ?_));all_goals try (exfalso;omega)
    refine fE [(0,.ptr 0 0),(3,.pr (yD s) 0),(5,.sl 1 0 all.length 2),(8,.i i),(9,.ptr 2 0)] [.cells (gN c l),.arr (jW all) 2,.cells (gA (bs,ow))] ⟨[0,1,2],rfl,(by repeat first|exact trivial|refine ⟨rfl,?_⟩),⟨.inr rfl,.inr (aD rfl rfl (eG _)),.inr rfl,trivial⟩,by decide,yA _⟩ ?_
    by_cases h0 : ow = []
    · subst h0;rw [if_pos rfl]
      (repeat' (first|refine wS ?_|refine wR ?_|refine wT ?_|(refine rg 22 (gH T rfl (qW T rfl (vV (dR rfl rfl) (aV ?_)))))|(refine rg 23 (aV ?_))|refine nZ ?_));all_goals try (exfalso;omega)
      exact ⟨.inl rfl,[0],_,rfl,rfl,rfl,⟨.inr rfl,trivial⟩,by decide,yA _⟩
    · rw [if_neg h0];have hop := dZ.2 h0;by_cases h1 : 1000 < ow.length
      · rw [if_pos h1]
        (repeat' (first|refine wS ?_|refine wR ?_|(refine wC rfl ?_ ?_<;>(intro hb;(try simp only [nm] at hb);try (exfalso;omega)))|(refine rg 22 (gH T rfl (qW T rfl (vV (dR rfl rfl) (aV ?_)))))|(refine rg 24 (gH T rfl (qW T rfl (vV (fM rfl rfl) (aV ?_)))))|(refine rg 25 (aV ?_))|refine nZ ?_));all_goals try (exfalso;omega)
        exact ⟨.inl rfl,[0],_,rfl,rfl,rfl,⟨.inr rfl,trivial⟩,by decide,yA _⟩
      · rw [if_neg h1];obtain ⟨hm1,hasc⟩ := hnx h0 (by omega)
        have hty := zE2 c l (all.set i (bs,ow)) hm1.out hm1.up hm1.ne;have hset := J8 (L := all) (j := (i : Int)) (i := i) (x := (bs,ow)) rfl;have hto := (HP hm1.out (c := c)).len;have hto2 := (HP hm1.out (c := c)).ln;have hcf := zS4 (l := uV c (all.set i (bs,ow))) (F := 52) (caps := []) (p := fun g => g.2.isEmpty) (by omega) rfl (fun x hx => zQ4 x)
        have hNl2 : all.length = (jW (all.set i (bs,ow))).length := by rw [jV,gG]
        (repeat' (first|refine wS ?_|refine wK ?_|(refine wC rfl ?_ ?_<;>(intro hb;(try simp only [nm] at hb);try (exfalso;omega)))|(refine rg 22 (gH T rfl (qW T rfl (vV (dR rfl rfl) (aV ?_)))))|(refine rg 24 (gH T rfl (qW T rfl (vV (fM rfl rfl) (aV ?_)))))|(refine rg 26 (dK rfl (lW T rfl (vV (by exact aJ T rfl rfl rfl rfl rfl (by omega) (by omega)) ?_)));refine aU T rfl rfl rfl rfl rfl rfl (by decide) (lX rfl q1 rfl) ?_)|refine nZ ?_));all_goals try (exfalso;omega)
        generalize all.set i (bs,ow) = N at *;refine fE [(0,.ptr 0 0),(5,.sl 1 0 all.length 2)] [.cells (gN c l),.arr (jW N) 2] ⟨[0,1],rfl,(by repeat first|exact trivial|refine ⟨rfl,?_⟩),⟨.inr rfl,.inr (aD rfl hset (eG _)),trivial⟩,by decide,yA _⟩ ?_
        refine Q0 5 (es := jW N) rfl rfl hNl2 (iJ (eG _)) ?_;generalize uV c N = out at *
        (repeat' (first|refine wS ?_|(refine rg 27 (dK rfl (fF [0] rfl rfl (hty) rfl rfl (by decide) ⟨.inr rfl,trivial⟩ (by simp) rfl ?_));refine aV ?_)|refine nZ ?_));all_goals try (exfalso;omega)
        cases hany : out.any fun g => g.2.isEmpty with
        | true =>
          rw [hany] at hcf;rw [if_pos rfl]
          (repeat' (first|refine wS ?_|refine wR ?_|refine wT ?_|(refine rg 28 (mW rfl (vV (kC (hcf)) ?_)))|(refine rg 29 (aV ?_))|refine nZ ?_));all_goals try (exfalso;omega)
          exact ⟨.inl rfl,[0],_,rfl,rfl,rfl,⟨.inr rfl,trivial⟩,by decide,yA _⟩
        | false =>
          rw [hany] at hcf;rw [if_neg (by simp)]
          (repeat' (first|refine wS ?_|refine wK ?_|refine wR ?_|refine wU ?_|(refine rg 28 (mW rfl (vV (kC (hcf)) ?_)))|(refine rg 30 (dK rfl (nV ?_));refine fW T rfl (aU T rfl rfl rfl rfl rfl rfl (by decide) rfl ?_))|(refine rg 31 (aV ?_))|refine nZ ?_));all_goals try (exfalso;omega)
          exact ⟨.inl rfl,[0],_,rfl,rfl,rfl,⟨.inr rfl,trivial⟩,by decide,yA _⟩
theorem OG (c : Cx) (gs : List G) (s : Ev) (hc : qI c) (h : nS c gs) (hids : s.ids.length ≤ 9223372036854775807) :
    aR Tryz.prog 11 [.ptr 0 0,zV4 s] [.cells (gN c gs)] (.i (kU c gs s).1) [.cells (gN c (kU c gs s).2)] := by
  have hn12 := h.mid.n12;obtain ⟨hm0,hm1,_⟩ := hc.s;have hgl : (jW gs).length = gs.length := jV _;have hgl12 : gs.length ≤ 12 := bA h.mid.out.len h.mid.out.ln;have hbl : (cW c.bs).length = c.bs.length := bB _;have hright := IH c.bs.length s.k s.a s.b s.n s.ids hids ⟨by omega,by omega⟩
  have hcl := KG gs (by omega)
  have hst := vJ (s := s) h (by omega) hm0
  have hjo := fun (hr : iV c.bs.length s = true) (hk : s.k = 4) (all : List G) => sV (s := s) (all := all) h (by omega) hm0 hm1 hr hk
  unfold kU;generalize hv : iV c.bs.length s = v at *;rw [← hbl] at hright;cases v with
  | false =>
    rw [if_neg (by simp)]
    refine bO T Tryz.func11 rfl rfl rfl rfl ?_
    (repeat' (first|refine wS ?_|(refine rg 0 (bQ (cD rfl rfl) rfl (aV ?_)))|refine nZ ?_));refine fC 3 (cs := yD s) rfl rfl rfl ?_
    (repeat' (first|refine wS ?_|refine wR ?_|refine wT ?_|(refine bN (id := 1) 128 yJ1 (rM 15 8) yJ2 cJ rfl (by decide +kernel) (dN rfl (dV rfl (by exact eS rfl rfl) ?_));refine dP T rfl (dO T rfl (dV rfl (gD T rfl rfl) (dO T rfl (dV rfl (kC (hright)) (dV rfl (dX rfl) (dE ?_)))))))|(refine rg 2 (aV ?_))|refine nZ ?_));all_goals try (exfalso;omega)
    exact ⟨.inl rfl,[0],_,rfl,rfl,rfl,⟨.inr rfl,trivial⟩,by decide,yA _⟩
  | true =>
    rw [if_pos rfl];by_cases k4 : s.k = 4
    · rw [if_pos k4];obtain ⟨r1,r2,_⟩ := mN hv (by omega)
      have r2 := r2 k4;have fa := h.mid.find r1;have fb := h.mid.find (b := s.b) ⟨by omega,by omega⟩
      cases hj : join gs s.a s.b with
      | none =>
        dsimp only;have hjc := zI2 gs s.a s.b h.mid.out fa fb hj;refine bO T Tryz.func11 rfl rfl rfl rfl ?_
        (repeat' (first|refine wS ?_|(refine rg 0 (bQ (cD rfl rfl) rfl (aV ?_)))|refine nZ ?_));refine fC 3 (cs := yD s) rfl rfl rfl ?_
        (repeat' (first|refine wS ?_|refine wK ?_|refine wU ?_|(refine bN (id := 1) 128 yJ1 (rM 15 8) yJ2 cJ rfl (by decide +kernel) (dN rfl (dV rfl (by exact eS rfl rfl) ?_));refine dP T rfl (dO T rfl (dV rfl (gD T rfl rfl) (dO T rfl (dV rfl (kC (hright)) (dV rfl (dX rfl) (dE ?_)))))))|(refine rg 3 (mW rfl (nV ?_));refine gH T rfl (bQ (by exact fL rfl rfl hcl (.inr ⟨rfl,rfl,by simp⟩)) rfl ?_);refine aV ?_)|refine nZ ?_));all_goals try (exfalso;omega)
        refine fE [(0,.ptr 0 0),(3,.pr (yD s) 0),(5,.sl 1 0 gs.length 2)] [.cells (gN c gs),.arr (jW gs) 2] ⟨[0,2],rfl,(by repeat first|exact trivial|refine ⟨rfl,?_⟩),⟨.inr rfl,.inr (aD rfl (bY _ (eG _)) (eG _)),trivial⟩,by decide,yA _⟩ ?_
        refine Q0 5 (es := jW gs) rfl rfl hgl.symm (iJ (eG _)) ?_
        (repeat' (first|refine wS ?_|refine wR ?_|refine wT ?_|(refine rg 4 (gH T rfl (vV (lO rfl rfl k4) ?_)))|(refine rg 5 (mW rfl (gH T rfl (gH T rfl (vV (kC (hjc)) (mW rfl (xW rfl (xW rfl (qJ ?_)))))))))|(refine rg 6 (mW rfl (vV (fG rfl rfl) ?_)))|(refine rg 7 (mW rfl (aV ?_)))|refine nZ ?_));all_goals try (exfalso;omega)
        exact ⟨.inl rfl,[0],_,rfl,rfl,rfl,⟨.inr rfl,trivial⟩,by decide,yA _⟩
      | some all =>
        dsimp only;have hso := hjo rfl k4 all hj;refine bO T Tryz.func11 rfl rfl rfl rfl ?_
        (repeat' (first|refine wS ?_|(refine rg 0 (bQ (cD rfl rfl) rfl (aV ?_)))|refine nZ ?_));refine fC 3 (cs := yD s) rfl rfl rfl ?_
        (repeat' (first|refine wS ?_|refine wK ?_|refine wU ?_|(refine bN (id := 1) 128 yJ1 (rM 15 8) yJ2 cJ rfl (by decide +kernel) (dN rfl (dV rfl (by exact eS rfl rfl) ?_));refine dP T rfl (dO T rfl (dV rfl (gD T rfl rfl) (dO T rfl (dV rfl (kC (hright)) (dV rfl (dX rfl) (dE ?_)))))))|(refine rg 3 (mW rfl (nV ?_));refine gH T rfl (bQ (by exact fL rfl rfl hcl (.inr ⟨rfl,rfl,by simp⟩)) rfl ?_);refine aV ?_)|refine nZ ?_));all_goals try (exfalso;omega)
        refine fE [(0,.ptr 0 0),(3,.pr (yD s) 0),(5,.sl 1 0 gs.length 2)] [.cells (gN c gs),.arr (jW gs) 2] ⟨[0,2],rfl,(by repeat first|exact trivial|refine ⟨rfl,?_⟩),⟨.inr rfl,.inr (aD rfl (bY _ (eG _)) (eG _)),trivial⟩,by decide,yA _⟩ ?_
        by_cases hs : pZ gs s.a = pZ gs s.b
        · have hjc := zI0 gs s.a s.b h.mid.out fa fb hs;have : all = gs := by unfold join at hj;dsimp only at hj;rw [if_pos hs] at hj;exact (Option.some.inj hj).symm
          subst this
          (repeat' (first|refine wS ?_|refine wK ?_|refine wT ?_|refine wU ?_|(refine rg 4 (gH T rfl (vV (lO rfl rfl k4) ?_)))|(refine rg 5 (mW rfl (gH T rfl (gH T rfl (fF [1] rfl rfl (hjc) rfl rfl (by decide) ⟨.inr (aD rfl rfl (eG _)),trivial⟩ (by simp) rfl ?_))));refine mW rfl (xW rfl (xW rfl (qJ ?_))))|(refine rg 6 (mW rfl (vV (fG rfl rfl) ?_)))|(refine rg 8 (mW rfl (aV ?_)))|refine nZ ?_));all_goals try (exfalso;omega)
          refine fE [(0,.ptr 0 0),(3,.pr (yD s) 0),(5,.sl 1 0 all.length 2)] [.cells (gN c all),.arr (jW all) 2] ⟨[0,1],rfl,(by repeat first|exact trivial|refine ⟨rfl,?_⟩),⟨.inr rfl,.inr (aD rfl (bY _ (eG _)) (eG _)),trivial⟩,by decide,yA _⟩ ?_
          exact LV c all all s hc hso (by omega) hids
        · have hjc := zI1 gs s.a s.b h.mid.out fa fb hj hs;refine Q0 5 (es := jW gs) rfl rfl hgl.symm (iJ (eG _)) ?_
          (repeat' (first|refine wS ?_|refine wK ?_|refine wT ?_|refine wU ?_|(refine rg 4 (gH T rfl (vV (lO rfl rfl k4) ?_)))|(refine rg 5 (mW rfl (gH T rfl (gH T rfl (bQ (by exact fL rfl rfl hjc (.inr ⟨rfl,rfl,by simp⟩)) rfl ?_))));refine mW rfl (xW rfl (xW rfl (qJ ?_))))|(refine rg 6 (mW rfl (vV (fG rfl rfl) ?_)))|(refine rg 8 (mW rfl (aV ?_)))|refine nZ ?_));all_goals try (exfalso;omega)
          refine fE [(0,.ptr 0 0),(3,.pr (yD s) 0),(5,.sl 1 0 all.length 2)] [.cells (gN c gs),.arr (jW all) 2] ⟨[0,2],rfl,(by repeat first|exact trivial|refine ⟨rfl,?_⟩),⟨.inr rfl,.inr (aD rfl (bY _ (eG _)) (eG _)),trivial⟩,by decide,yA _⟩ ?_
          exact LV c gs all s hc hso (by omega) hids
    · rw [if_neg k4];refine bO T Tryz.func11 rfl rfl rfl rfl ?_
      (repeat' (first|refine wS ?_|(refine rg 0 (bQ (cD rfl rfl) rfl (aV ?_)))|refine nZ ?_));refine fC 3 (cs := yD s) rfl rfl rfl ?_
      (repeat' (first|refine wS ?_|refine wK ?_|refine wU ?_|(refine bN (id := 1) 128 yJ1 (rM 15 8) yJ2 cJ rfl (by decide +kernel) (dN rfl (dV rfl (by exact eS rfl rfl) ?_));refine dP T rfl (dO T rfl (dV rfl (gD T rfl rfl) (dO T rfl (dV rfl (kC (hright)) (dV rfl (dX rfl) (dE ?_)))))))|(refine rg 3 (mW rfl (nV ?_));refine gH T rfl (bQ (by exact fL rfl rfl hcl (.inr ⟨rfl,rfl,by simp⟩)) rfl ?_);refine aV ?_)|(refine rg 4 (gH T rfl (vV (gL rfl rfl (by omega)) ?_)))|refine nZ ?_));all_goals try (exfalso;omega)
      refine fE [(0,.ptr 0 0),(3,.pr (yD s) 0),(5,.sl 1 0 gs.length 2)] [.cells (gN c gs),.arr (jW gs) 2] ⟨[0,2],rfl,(by repeat first|exact trivial|refine ⟨rfl,?_⟩),⟨.inr rfl,.inr (aD rfl (bY _ (eG _)) (eG _)),trivial⟩,by decide,yA _⟩ ?_
      exact LV c gs gs s hc (hst rfl k4) (by omega) hids
end Go.Proofs.YtmmkhmilpeodnaaGreat
namespace Go.Ld
open Go.Ab Go.Proofs.YtmmkhmilpeodnaaGreat
def U1 (c : Cx) (i : Nat) : G := ([(i : Int)],[([(i : Int)],0,[((c.bs.getD i (0,0,0)).2.1,(c.bs.getD i (0,0,0)).2.1 + 1)])])
theorem wY (c : Cx) : qT c = (List.range c.bs.length).map (U1 c) := rfl
theorem AQ {α β : Type} (f : α → β) : ∀ l : List α, (l.flatMap fun x => [f x]) = l.map f
  | [] => rfl
  | x :: l => by rw [bF,AQ f l];rfl
theorem MH {c : Cx} (hc : qI c) (hn : c.bs.length ≤ 12) (hm : 0 ≤ c.m) : nS c (qT c) := by
  rw [wY];have hmem : ∀ g,g ∈ (List.range c.bs.length).map (U1 c) → ∃ i,i < c.bs.length ∧ g = U1 c i := fun g hg => by
    obtain ⟨i,hi,e⟩ := bE.1 hg;exact ⟨i,eF.1 hi,e.symm⟩
  have fl : (((List.range c.bs.length).map (U1 c)).flatMap (·.1)) = nats (List.range c.bs.length) := by
    rw [BV];exact AQ _ _
  have fw : (((List.range c.bs.length).map (U1 c)).flatMap fun g => (iG g).1) = nats (List.range c.bs.length) := by
    rw [BV];exact AQ _ _
  refine ⟨⟨⟨fun g hg => ?_,by rw [fl];exact B7 _,by rw [fl];simpa using hn,fun g hg => ?_⟩,?_,fun g hg => ?_,fun g hg w hw => ?_,by rw [fl],by rw [fw],fun g hg => ?_⟩,fun g hg => ?_,fun g hg => ?_⟩
  · obtain ⟨i,hi,rfl⟩ := hmem g hg;have hb := hc.f.b i hi;have e : c.bs.getD i (0,0,0) = c.bs[i] := by rw [aC,aA hi];rfl
    unfold U1;rw [e];generalize c.bs[i] = x at *;refine ⟨by simp,lZ _ _,fun b hb => by obtain rfl := bK.1 hb;omega,by simp,fun w hw => ?_,fun w v hw hv => by obtain rfl := bK.1 hw;obtain rfl := bK.1 hv;exact .refl _⟩
    obtain rfl := bK.1 hw;refine ⟨rfl,rfl,fun b hb => by obtain rfl := bK.1 hb;omega,lZ _ _,eP _,by dsimp only;omega,fun r hr => ?_⟩
    obtain rfl := bK.1 hr;unfold LL;dsimp only;omega
  · obtain ⟨i,hi,rfl⟩ := hmem g hg;show 1 ≤ 2000;omega
  · refine I4.2 ?_;rw [CG];show ((List.range c.bs.length).map fun i : Nat => ((i : Int))).Pairwise _;refine zC1.2 ((wJ).imp fun {a b} h => by omega)
  · obtain ⟨i,hi,rfl⟩ := hmem g hg;unfold U1;simp
  · obtain ⟨i,hi,rfl⟩ := hmem g hg;obtain rfl := bK.1 hw;exact hm
  · obtain ⟨i,hi,rfl⟩ := hmem g hg;show 1 ≤ 1000;omega
  · obtain ⟨i,hi,rfl⟩ := hmem g hg;unfold iD;rw [if_pos (.inl (by show 1 < 2;omega))]
  · obtain ⟨i,hi,rfl⟩ := hmem g hg;exact lZ _ _
def U2 (gs : List G) (b : Int) : Option (G × Nat) := match gs.findIdx? fun g => decide (b ∈ g.1) with
  | some i => some (lB gs i,(lB gs i).1.idxOf b)
  | none => none
theorem J9 {gs : List G} {b : Int} {g : G} {i : Nat} (h : U2 gs b = some (g,i)) : ∃ k : Nat,pZ gs b = (k : Int) ∧ gs[k]? = some g ∧ b ∈ g.1 ∧ i = g.1.idxOf b := by
  unfold U2 at h;cases hq : gs.findIdx? fun g => decide (b ∈ g.1) with
  | none => rw [hq] at h;cases h
  | some k =>
    rw [hq] at h;dsimp only at h;cases h;obtain ⟨hk,hb,_⟩ := List.findIdx?_eq_some_iff_getElem.1 hq;have e : lB gs k = gs[k] := by unfold lB;rw [aC,aA hk];rfl
    refine ⟨k,by unfold pZ;rw [hq],by rw [e];exact aA hk,by rw [e];simpa using hb,rfl⟩
end Go.Ld
namespace Go.Proofs.YtmmkhmilpeodnaaGreat
open Go Go.Ab Go.Ld
attribute [local irreducible] VC AW bX aR kY
set_option maxHeartbeats 4000000
theorem FS (c : Cx) (gs : List G) (b : Int) (hl : gs.length ≤ 1000000) (hg : ∀ g,g ∈ gs → g.1.length ≤ 1000000) {g : G} {i : Nat} (h : U2 gs b = some (g,i)) :
    aR Tryz.prog 56 [.pr (gN c gs) 0,.i b] [] (.tup [UI g,.i i,.b true]) [] := by
  obtain ⟨k,h1,h2,h3,rfl⟩ := J9 h;have hf := zQ gs b hl hg;rw [h1] at hf;have hgl : (jW gs).length = gs.length := jV _;have hkl := (aB.1 h2).1;have q : (jW gs)[((k : Int)).toNat]? = some (gA g) := by rw [bJ,bS,h2];rfl
  have hix := xB g.1 b (by have := hg g (aQ h2);omega)
  have hxi : xC g.1 b 0 = ((g.1.idxOf b : Nat) : Int) := by have := C4 g.1 b 0 h3;simpa using this
  rw [hxi] at hix;generalize g.1.idxOf b = ia at *;obtain ⟨bs,ws⟩ := g;dsimp only at *;refine bO T Tryz.func56 rfl rfl rfl rfl ?_
  (repeat' (first|refine wS ?_|refine wK ?_|refine wR ?_|refine wU ?_|(refine rg 0 (bQ (bT T rfl) rfl (qJ ?_)))|(refine rg 1 (mW rfl (nV ?_));refine gH T rfl (mW rfl (vV (kC (hf)) (aV ?_))))|(refine rg 2 (mW rfl (vV (aL rfl rfl) ?_)))|(refine tS (id := 4) 17 34 [[],[0],[0,1],[0,1,2],[],rN 5,rN 6,[],[7],[7,8],[7,8,9],[],rM 7 5,rM 7 6,rM 7 7,[],rM 7 9,rN 17,rN 18,rN 19] [[],[0],[0,1],[0,1,2],[],rN 5,rN 6,[],[7],[7,8],[7,8,9],[],rM 7 5,rM 7 6,rM 7 7,[],rM 7 9] (rM 17 17) [[],[],[],[],rM 17 4,[],[],rM 17 7,rM 17 7,rM 17 7,rM 17 7,rM 17 11,rM 17 7,rM 17 7,rM 17 7,rM 17 15,rM 17 7] cJ rfl (by decide +kernel) (by decide +kernel) ?_;(dsimp only [List.take,List.drop]);refine dN rfl (dV rfl (by exact eS rfl rfl) ?_);refine dP T rfl (dO T rfl (dN rfl (dV rfl (ix T rfl (by omega) (pT _) q) (dO T rfl (dN rfl (dV rfl (by exact eS rfl rfl) ?_))))));refine dP T rfl (dO T rfl (dN rfl (dV rfl (ix T rfl (by omega) (pT _) q) (dP T rfl (dO T rfl (dN rfl (dV rfl (kC (hix)) (dE ?_))))))));refine fU ?_;refine aU T rfl rfl rfl rfl rfl rfl (by decide) rfl (qJ ?_))|refine nZ ?_));all_goals try (exfalso;omega)
  all_goals exact ⟨.inl rfl,[],_,rfl,rfl,rfl,trivial,by decide,kV _⟩
end Go.Proofs.YtmmkhmilpeodnaaGreat
namespace Go.Ld
open Go.Ab Go.Proofs.YtmmkhmilpeodnaaGreat
def FO (g : G) (i : Nat) : List Int := g.2.map fun w => gP w i
theorem SV {g : G} {i k : Nat} (h : k < g.2.length) : (FO g i).take (k + 1) = (FO g i).take k ++ [gP g.2[k] i] := by
  unfold FO;rw [← lH,← lH,aT h,dB];rfl
end Go.Ld
namespace Go.Proofs.YtmmkhmilpeodnaaGreat
open Go Go.Ab Go.Ld
attribute [local irreducible] VC AW bX aR kY
set_option maxHeartbeats 4000000
theorem ZT {G l : List Int} {m : Nat} (hg : G.length ≤ m) (hm : m < l.length) : (ints (G ++ l.drop G.length))[0 + (m : Int).toNat]? = some [AV.i l[m]] := by
  rw [Nat.zero_add,bJ,bS,aE hg,eD,show G.length + (m - G.length) = m by omega,aA hm];rfl
theorem zF2 {G l : List Int} {x : Int} (hg : G.length < l.length) : (ints (G ++ l.drop G.length)).set (0 + (G.length : Int).toNat) [AV.i x] = ints ((G ++ [x]) ++ l.drop (G ++ [x]).length) := by
  rw [Nat.zero_add,bJ,← pP,kX _ _ (aY _),eY,aX hg,List.set_cons_zero];simp
theorem OO {G l : List Int} (hg : G.length ≤ l.length) : (ints (G ++ l.drop G.length)).length = l.length := by simp;omega
theorem UZ {G l : List Int} : (ints (G ++ l.drop G.length)).take (0 + (G.length : Int).toNat) = ints G := by
  rw [Nat.zero_add,bJ,← lH,List.take_append_of_le_length (aY _),cF (aY _)]
def lP (l : List Int) : Nat → List Int
  | 0 => []
  | m + 1 => if 0 < m ∧ l.getD m 0 = l.getD (m - 1) 0 then lP l m else lP l m ++ [l.getD m 0]
def ED (l : List Int) : List Int := lP l l.length
theorem KE {l : List Int} {m : Nat} (h : 0 < m) (e : l.getD m 0 = l.getD (m - 1) 0) : lP l (m + 1) = lP l m := by
  unfold lP;rw [if_pos ⟨h,e⟩];cases m <;> rfl
theorem KC {l : List Int} {m : Nat} (e : l.getD m 0 ≠ l.getD (m - 1) 0) : lP l (m + 1) = lP l m ++ [l.getD m 0] := by
  unfold lP;rw [if_neg (fun q => e q.2)];cases m <;> rfl
theorem KB (l : List Int) : lP l 1 = [l.getD 0 0] := by
  unfold lP;rw [if_neg (fun q => QM _ q.1)];rfl
theorem V7 {l : List Int} {m : Nat} (h : m < l.length) : l.getD m 0 = l[m] := by rw [aC,aA h];rfl
theorem QA {G l : List Int} {m : Nat} {i : Nat} (hg : G.length ≤ m) (hm : m < l.length) (hi : i = m) : (ints (G ++ l.drop G.length))[i]? = some [AV.i (l.getD m 0)] := by
  have := ZT hg hm;rw [Nat.zero_add,bJ] at this;rw [hi,this,V7 hm]
theorem QB {l : List Int} {m i : Nat} (hm : m < l.length) (hi : i = m) : (ints l)[i]? = some [AV.i (l.getD m 0)] := by
  rw [hi,nA hm,V7 hm]
theorem TO (l : List Int) (hl : l.length ≤ 1000000) : aR Tryz.prog 58 [.sl 0 0 l.length 1] [.arr (ints l) 1] (.sl 0 0 (ED l).length 1) [.arr (ints (ED l)) 1] := by
  have hll : (ints l).length = l.length := by simp
  refine bO T Tryz.func58 rfl rfl rfl rfl ?_;by_cases h2 : l.length < 2
  · have hk : ED l = l := by
      match l,h2 with
      | [],_ => rfl
      | [a],_ => exact KB _
      | _ :: _ :: _,h => exact absurd h (by simp)
    rw [hk]
    (repeat' (first|refine wS ?_|refine wR ?_|(refine wC rfl ?_ ?_<;>(intro hb;(try simp only [nm] at hb);try (exfalso;omega)))|(refine rg 0 (aV ?_))|(refine rg 1 (mW rfl (qW T rfl (vV (aL rfl rfl) ?_))))|(refine rg 2 (mW rfl (aV ?_)))|refine nZ ?_));all_goals first | (exfalso;omega) | exact ⟨.inl rfl,[0],_,rfl,rfl,rfl,⟨.inr (aD rfl rfl (ints_idf _)),trivial⟩,by decide,FL⟩
  · (repeat' (first|refine wS ?_|refine wB ?_|refine wK ?_|(refine wC rfl (fun hb => ?_) (fun hb => ?_) <;> (((try simp only [nm] at hb);try (exfalso;omega))))|(refine rg 0 (aV ?_))|(refine rg 1 (mW rfl (qW T rfl (vV (aL rfl rfl) ?_))))|(refine rg 3 (aV ?_))|(refine nZ ?_)));all_goals try (exfalso;omega)
    refine cN (X := {k : Nat // 1 ≤ k ∧ k ≤ l.length ∧ lP l k = l.take k}) (fun k => [(0,.sl 0 0 l.length 1),(3,.i k.1)]) (fun _ => [.arr (ints l) 1]) (fun k => l.length - k.1) ⟨1,by omega,by omega,by rw [KB,V7 (by omega),aT (by omega)];rfl⟩ ⟨[0],rfl,by (repeat (first | exact trivial | refine ⟨rfl,?_⟩)),⟨.inr (aD rfl rfl (ints_idf _)),trivial⟩,by decide,FL⟩ ?_
    rintro ⟨k,hk1,hk,hkc⟩;dsimp only;by_cases hlt : k < l.length
    · have e1 := QB (i := 0 + (k : Int).toNat) hlt (by omega)
      have e2 := QB (l := l) (m := k - 1) (i := 0 + ((k : Int) - 1).toNat) (by omega) (by omega)
      by_cases hd : l.getD k 0 = l.getD (k - 1) 0
      · have hc1 := KE (l := l) hk1 hd;rw [hkc] at hc1;generalize l.getD k 0 = a at *;generalize l.getD (k - 1) 0 = b at *
        (repeat' (first|refine wS ?_|refine wB ?_|refine wK ?_|refine wT ?_|(refine wC rfl ?_ ?_<;>(intro hb;(try simp only [nm] at hb);try (exfalso;omega)))|(refine rg 4 (dK rfl (qW T rfl (vV (aL rfl rfl) ?_))))|(refine bN (id := 6) 61 yJ3 (rM 16 10) yJ4 cJ rfl (by decide +kernel) (dN rfl (dN rfl (dV rfl (by exact aJ T rfl rfl rfl rfl rfl (by omega) (by omega)) ?_)));refine dV rfl (by exact aP T rfl rfl (bH rfl e1) rfl) ?_;refine dN rfl (dN rfl (dV rfl (cP rfl rfl (by omega) (by omega)) (dV rfl (by exact aJ T rfl rfl rfl rfl rfl (by omega) (by omega)) ?_)));refine dV rfl (by exact aP T rfl rfl (bH rfl e2) rfl) ?_;refine dV rfl (lO rfl rfl (by omega)) (dE ?_))|(refine rg 7 (dK rfl (vV (by exact kT T rfl rfl rfl rfl rfl rfl (by omega) (by omega) (by omega)) ?_));refine aV ?_)|(refine rg 8 (aV ?_))|refine nZ ?_));all_goals try (exfalso;omega)
        have hl1 : (lP l (k + 1)).length = k := by rw [hc1];simp;omega
        refine cN (X := {j : Nat // 1 ≤ j ∧ k + j ≤ l.length ∧ (lP l (k + j)).length + 1 ≤ k + j}) (fun j => [(0,.sl 0 0 l.length 1),(3,.i (lP l (k + j.1)).length),(4,.sl 0 (0 + (k : Int).toNat) ((l.length : Int) - (k : Int)).toNat 1),(5,.i j.1)]) (fun j => [.arr (ints (lP l (k + j.1) ++ l.drop (lP l (k + j.1)).length)) 1]) (fun j => l.length - (k + j.1)) ⟨1,by omega,by omega,by omega⟩ ⟨[0],rfl,⟨rfl,by dsimp only;rw [hl1];rfl,rfl,rfl,trivial⟩,⟨.inr (aD rfl (by dsimp only;rw [hl1,hc1,bL]) (ints_idf _)),trivial⟩,by decide,FL⟩ ?_
        clear e1 e2 hd hl1 hc1;rintro ⟨j,hj1,hj,hjc⟩;dsimp only;by_cases hjl : k + j < l.length
        · have e1 := QA (G := lP l (k + j)) (l := l) (m := k + j) (i := 0 + (k : Int).toNat + (j : Int).toNat) (by omega) hjl (by omega)
          have e2 := QA (G := lP l (k + j)) (l := l) (m := k + j - 1) (i := 0 + (k : Int).toNat + ((j : Int) - 1).toNat) (by omega) (by omega) (by omega)
          have e3 := ZT (G := lP l (k + j)) (l := l) (aY _) (by omega)
          have hset := zF2 (G := lP l (k + j)) (l := l) (x := l.getD (k + j) 0) (by omega)
          have hal := OO (G := lP l (k + j)) (l := l) (by omega)
          have hdup := KE (l := l) (m := k + j) (by omega)
          have hnew := KC (l := l) (m := k + j);have hnl : ∀ G : List Int,(G ++ [l.getD (k + j) 0]).length = G.length + 1 := fun G => by simp
          rw [show k + j + 1 = k + (j + 1) by omega] at hdup hnew
          generalize l.getD (k + j) 0 = a at *;generalize l.getD (k + j - 1) 0 = b at *;generalize l[(lP l (k + j)).length] = y at *;generalize lP l (k + j) = G at *;by_cases hd : a = b
          · have hdup := hdup hd;generalize hA : ints (G ++ l.drop G.length) = A at *
            (repeat' (first|refine wS ?_|refine wB ?_|refine wK ?_|refine wU ?_|(refine wC rfl ?_ ?_<;>(intro hb;(try simp only [nm] at hb);try (exfalso;omega)))|(refine rg 9 (dK rfl (qW T rfl (vV (aL rfl rfl) ?_))))|(refine bN (id := 11) 61 yJ3 (rM 35 10) yJ5 cJ rfl (by decide +kernel) (dN rfl (dN rfl (dV rfl (by exact aJ T rfl rfl rfl rfl rfl (by omega) (by omega)) ?_)));refine dV rfl (by exact aP T rfl rfl (bH rfl e1) rfl) ?_;refine dN rfl (dN rfl (dV rfl (cP rfl rfl (by omega) (by omega)) (dV rfl (by exact aJ T rfl rfl rfl rfl rfl (by omega) (by omega)) ?_)));refine dV rfl (by exact aP T rfl rfl (bH rfl e2) rfl) ?_;refine dV rfl (rA rfl rfl (by omega)) (dE ?_))|(refine iA 10 rfl rfl rfl (by omega) (by omega) ?_)|refine nZ ?_));all_goals try (exfalso;omega)
            all_goals exact ⟨⟨j + 1,by omega,by omega,by rw [hdup];omega⟩,by dsimp only;omega,[0],rfl,⟨rfl,by dsimp only;rw [hdup];rfl,rfl,rfl,trivial⟩,⟨.inr (aD rfl (by dsimp only;rw [hdup];exact hA.symm) (ints_idf _)),trivial⟩,by decide,FL⟩
          · have hnew := hnew hd;have hgl := hnl G;generalize hA : ints (G ++ l.drop G.length) = A at *
            (repeat' (first|refine wS ?_|refine wB ?_|refine wK ?_|refine wT ?_|(refine wC rfl ?_ ?_<;>(intro hb;(try simp only [nm] at hb);try (exfalso;omega)))|(refine rg 9 (dK rfl (qW T rfl (vV (aL rfl rfl) ?_))))|(refine bN (id := 11) 61 yJ3 (rM 35 10) yJ5 cJ rfl (by decide +kernel) (dN rfl (dN rfl (dV rfl (by exact aJ T rfl rfl rfl rfl rfl (by omega) (by omega)) ?_)));refine dV rfl (by exact aP T rfl rfl (bH rfl e1) rfl) ?_;refine dN rfl (dN rfl (dV rfl (cP rfl rfl (by omega) (by omega)) (dV rfl (by exact aJ T rfl rfl rfl rfl rfl (by omega) (by omega)) ?_)));refine dV rfl (by exact aP T rfl rfl (bH rfl e2) rfl) ?_;refine dV rfl (xD rfl rfl (by omega)) (dE ?_))|(refine rg 12 (dK rfl (dK rfl (vV (by exact aJ T rfl rfl rfl rfl rfl (by omega) (by omega)) ?_)));refine vV (by exact aP T rfl rfl (bH rfl e1) rfl) ?_;refine vV (by exact aJ T rfl rfl rfl rfl rfl (by omega) (by omega)) ?_;refine aU T rfl rfl rfl rfl rfl rfl (by decide) (lX rfl e3 rfl) ?_)|(refine iA 13 rfl rfl rfl (by omega) (by omega) ?_)|(refine iA 10 rfl rfl rfl (by omega) (by omega) ?_)|refine nZ ?_));all_goals try (exfalso;omega)
            all_goals exact ⟨⟨j + 1,by omega,by omega,by rw [hnew];omega⟩,by dsimp only;omega,[0],rfl,⟨rfl,by dsimp only;rw [hnew,hgl];rfl,rfl,rfl,trivial⟩,⟨.inr (aD rfl (by dsimp only;rw [hnew];exact hset) (ints_idf _)),trivial⟩,by decide,FL⟩
        · have hkj : k + j = l.length := by omega
          have hcm : ED l = lP l (k + j) := by rw [hkj];rfl
          have hal := OO (G := lP l (k + j)) (l := l) (by omega)
          have htk := UZ (G := lP l (k + j)) (l := l);rw [hcm];generalize lP l (k + j) = G at *
          (repeat' (first|refine wS ?_|refine wR ?_|refine wE ?_|(refine wC rfl ?_ ?_<;>(intro hb;(try simp only [nm] at hb);try (exfalso;omega)))|(refine rg 9 (dK rfl (qW T rfl (vV (aL rfl rfl) ?_))))|(refine rg 14 (dK rfl (vV (by exact kT T rfl rfl rfl rfl rfl rfl (by omega) (by omega) (by omega)) ?_));refine UO T rfl rfl rfl rfl rfl (by rw [hal];omega) ?_)|(refine rg 15 (dK rfl (vV (by exact kT T rfl rfl rfl rfl rfl rfl (by omega) (by omega) (by omega)) ?_));refine aV ?_)|refine nZ ?_));all_goals try (exfalso;omega)
          all_goals exact ⟨.inl rfl,[0],_,rfl,(by show AV.sl 0 0 ((G.length : Int) - 0).toNat 1 = AV.sl 0 0 G.length 1;rw [show ((G.length : Int) - 0).toNat = G.length by omega]),rfl,⟨.inr (aD rfl htk (ints_idf _)),trivial⟩,by decide,FL⟩
      · have hnew := KC (l := l) hd;rw [hkc,V7 hlt,← aT hlt] at hnew;generalize l.getD k 0 = a at *;generalize l.getD (k - 1) 0 = b at *
        (repeat' (first|refine wS ?_|refine wB ?_|refine wK ?_|refine wU ?_|(refine wC rfl ?_ ?_<;>(intro hb;(try simp only [nm] at hb);try (exfalso;omega)))|(refine rg 4 (dK rfl (qW T rfl (vV (aL rfl rfl) ?_))))|(refine bN (id := 6) 61 yJ3 (rM 16 10) yJ4 cJ rfl (by decide +kernel) (dN rfl (dN rfl (dV rfl (by exact aJ T rfl rfl rfl rfl rfl (by omega) (by omega)) ?_)));refine dV rfl (by exact aP T rfl rfl (bH rfl e1) rfl) ?_;refine dN rfl (dN rfl (dV rfl (cP rfl rfl (by omega) (by omega)) (dV rfl (by exact aJ T rfl rfl rfl rfl rfl (by omega) (by omega)) ?_)));refine dV rfl (by exact aP T rfl rfl (bH rfl e2) rfl) ?_;refine dV rfl (gL rfl rfl (by omega)) (dE ?_))|(refine iA 5 rfl rfl rfl (by omega) (by omega) ?_)|refine nZ ?_));all_goals try (exfalso;omega)
        all_goals exact ⟨⟨k + 1,by omega,hlt,hnew⟩,by dsimp only;omega,[0],rfl,by (repeat (first | exact trivial | refine ⟨rfl,?_⟩)),⟨.inr (aD rfl rfl (ints_idf _)),trivial⟩,by decide,FL⟩
    · obtain rfl : k = l.length := by omega
      have hcm : ED l = l := by
        show lP l l.length = l;rw [hkc,dS]
      rw [hcm]
      (repeat' (first|refine wS ?_|refine wR ?_|refine wE ?_|(refine wC rfl ?_ ?_<;>(intro hb;(try simp only [nm] at hb);try (exfalso;omega)))|(refine rg 4 (dK rfl (qW T rfl (vV (aL rfl rfl) ?_))))|(refine rg 16 (mW rfl (aV ?_)))|refine nZ ?_));all_goals first | (exfalso;omega) | exact ⟨.inl rfl,[0],_,rfl,rfl,rfl,⟨.inr (aD rfl rfl (ints_idf _)),trivial⟩,by decide,FL⟩
abbrev qL (g : G) (i : Nat) : List Int := ED (jE (FO g i))
theorem LY (c : Cx) (gs : List G) (b : Int) (h : nS c gs) {g : G} {i : Nat} (hg : U2 gs b = some (g,i)) :
    aR Tryz.prog 16 [.pr (gN c gs) 0,.i b] [] (.sl 0 0 (qL g i).length 1) [.arr (ints (qL g i)) 1] := by
  unfold qL;obtain ⟨k0,h1,h2,h3,h4⟩ := J9 hg;have hgm := aQ h2;have og := h.mid.out.ok g hgm;have hwl := h.mid.wl g hgm;have hl12 : gs.length ≤ 12 := bA h.mid.out.len h.mid.out.ln;have hgr := FS c gs b (by omega) (fun x hx => by have := (h.mid.out.ok x hx).ln;omega) hg
  have hi : i < g.1.length := by rw [h4];exact iN h3
  have hln := og.ln;have hil : (FO g i).length = g.2.length := bB _;have htk : ∀ k (h : k < g.2.length),_ := fun k h => SV (g := g) (i := i) h;have hwg : ∀ k (h : k < g.2.length),(ints g.2[k].1)[((i : Int)).toNat]? = some [.i (gP g.2[k] i)] ∧ (ints g.2[k].1).length = g.1.length := fun k h => by
    have := (og.ws _ (aI h)).pl;exact ⟨nY 0 (by omega) rfl,by rw [dC];exact this⟩
  have hs1 := VL (FO g i) (by omega)
  have hsl := qP (FO g i);have hs2 := TO (jE (FO g i)) (by omega)
  rw [hsl] at hs2;obtain ⟨bs,ws⟩ := g;dsimp only at *;generalize FO (bs,ws) i = P at *;have hwsl : (fQ ws).length = ws.length := eV _;refine bO T Tryz.func16 rfl rfl rfl rfl ?_
  (repeat' (first|refine wS ?_|(refine rg 0 (aV ?_))|(refine rg 1 (dK rfl (vV (kC (hgr)) (mW rfl (xW rfl (xW rfl (xW rfl (bQ (bT T rfl) rfl (aU T rfl rfl rfl rfl rfl rfl (by decide) rfl (qJ ?_))))))))))|refine nZ ?_));all_goals try (exfalso;omega)
  refine fC 5 (cs := gA (bs,ws)) rfl rfl rfl ?_
  (repeat' (first|refine wS ?_|(refine rg 2 (vV (eI rfl) (rP 8 1 rfl (by decide) ?_)))|refine nZ ?_));all_goals try (exfalso;omega)
  (repeat' (first|refine wB ?_|(refine rg 3 (gH T rfl (qW T rfl (mV ?_))))|refine nZ ?_));all_goals try (exfalso;omega)
  refine cN (X := {k : Nat // k ≤ ws.length}) (fun k => [(6,.i i),(8,.sl 0 0 k.1 1),(19,.rowE (fQ ws) 3),(20,.i (fQ ws).length),(21,.i k.1)]) (fun k => [.arr (ints (P.take k.1)) 1]) (fun k => ws.length - k.1) ⟨0,bU _⟩ ⟨[1],rfl,(by repeat first|exact trivial|refine ⟨rfl,?_⟩),⟨.inr rfl,trivial⟩,by decide,kV _⟩ ?_
  rintro ⟨k,hk⟩;dsimp only;by_cases hlt : k < ws.length
  · have hgk := rW hlt;obtain ⟨q1,q2⟩ := hwg k hlt;have q3 := htk k hlt;have q4 : (ints (P.take k)).length = k := by rw [dC,bD];omega
    have q5 : ints (P.take (k + 1)) = ints (P.take k) ++ [[.i (gP ws[k] i)]] := by rw [q3,C1]
    generalize ints (P.take k) = A at *;generalize gP ws[k] i = v at *;generalize ws[k] = w at *;obtain ⟨wp,wm,wc⟩ := w;dsimp only at *
    (repeat' (first|refine wS ?_|refine wB ?_|refine wK ?_|(refine wC rfl ?_ ?_<;>(intro hb;(try simp only [nm] at hb);try (exfalso;omega)))|(refine rg 4 (vV (aL rfl rfl) ?_))|(refine rg 5 (vV (ix T rfl (by omega) (lU _) hgk) (lW T rfl (bQ (bT T rfl) rfl (aU T rfl rfl rfl rfl rfl rfl (by decide) rfl ?_)))))|(refine rg 6 (mW rfl (gH T rfl (mW rfl (vV (ix T rfl (by omega) (ints_len _) q1) (lW T rfl (bQ (by exact bC T rfl rfl (by decide) (by decide) rfl rfl rfl) rfl ?_))))));refine fR T rfl rfl rfl rfl rfl rfl (by omega) (kJ.whole rfl rfl) rfl (by simp;omega) (by simp;omega) rfl ?_;refine aV ?_)|(refine rg 7 (vV (bV rfl rfl (by omega) (by omega)) (mV ?_)))|refine nZ ?_));all_goals try (exfalso;omega)
    exact ⟨⟨k + 1,hlt⟩,by dsimp only;omega,⟨[3],rfl,(by repeat first|exact trivial|refine ⟨rfl,?_⟩),⟨.inr (aD rfl (by dsimp only;rw [q5];exact lQ q4.symm) (ints_idf _)),trivial⟩,by decide,kV _⟩⟩
  · obtain rfl : k = ws.length := by omega
    rw [show P.take ws.length = P by rw [← hil,dS]]
    rw [← hil] at *
    (repeat' (first|refine wS ?_|refine wR ?_|refine wE ?_|(refine wC rfl ?_ ?_<;>(intro hb;(try simp only [nm] at hb);try (exfalso;omega)))|(refine rg 4 (vV (aL rfl rfl) ?_))|(refine rg 8 (mW rfl (fF [0] rfl rfl (hs1) rfl rfl (by decide) ⟨.inr (aD rfl rfl (ints_idf _)),trivial⟩ (by simp) rfl ?_)))|(refine rg 9 (mW rfl (fF [0] rfl rfl (hs2) rfl rfl (by decide) ⟨.inr (aD rfl (bY _ (ints_idf _)) (ints_idf _)),trivial⟩ (by simp) rfl ?_));refine aV ?_)|refine nZ ?_));all_goals try (exfalso;omega)
    exact ⟨.inl rfl,[0],_,rfl,rfl,rfl,⟨.inr (aD rfl (bY _ (ints_idf _)) (ints_idf _)),trivial⟩,by decide,kV _⟩
end Go.Proofs.YtmmkhmilpeodnaaGreat
namespace Go.Ld
open Go.Ab Go.Proofs.YtmmkhmilpeodnaaGreat
def zO1 (a b : SP) : SP := (min a.1 b.1,max a.2 b.2)
def RP (g : G) (i k : Nat) : SP := (g.2.take k).foldl (fun r w => zO1 r (gC w i)) (gC (iG g) i)
def IG (g : G) (i : Nat) : SP := RP g i g.2.length
theorem RO {g : G} {i k : Nat} (h : k < g.2.length) : RP g i (k + 1) = zO1 (RP g i k) (gC g.2[k] i) := by
  unfold RP;rw [aT h,wL];rfl
def yA2 (l : List Int) : Int × Bool := if l.length = 1 then (l.getD 0 0,true) else (0,false)
def XO (c : Cx) (l : List Int) (r : SP) (lot : Int) : Int := if l.length = 0 ∨ l.any (fun id => decide ((c.bs.getD id.toNat (0,0,0)).1 ≠ lot)) = true then 0 else r.1
end Go.Ld
namespace Go.Proofs.YtmmkhmilpeodnaaGreat
open Go Go.Ab Go.Ld
attribute [local irreducible] VC AW bX aR kY
set_option maxHeartbeats 4000000
theorem JM (c : Cx) (gs : List G) (b : Int) (h : nS c gs) {g : G} {i : Nat} (hg : U2 gs b = some (g,i)) :
    aR Tryz.prog 27 [.pr (gN c gs) 0,.i b] [] (.sl 0 0 g.1.length 1) [.arr (ints g.1) 1] := by
  obtain ⟨k0,h1,h2,h3,h4⟩ := J9 hg;have hl12 : gs.length ≤ 12 := bA h.mid.out.len h.mid.out.ln;have hln := (h.mid.out.ok g (aQ h2)).ln;have hgr := FS c gs b (by omega) (fun x hx => by have := (h.mid.out.ok x hx).ln;omega) hg
  have hcl := L1 g.1 (by omega)
  obtain ⟨bs,ws⟩ := g;dsimp only at *;refine bO T Tryz.func27 rfl rfl rfl rfl ?_
  (repeat' (first|refine wS ?_|refine wR ?_|(refine rg 0 (aV ?_))|(refine rg 1 (dK rfl (vV (kC (hgr)) (mW rfl (xW rfl (xW rfl (xW rfl (bQ (bT T rfl) rfl (aU T rfl rfl rfl rfl rfl rfl (by decide) rfl (qJ ?_))))))))))|(refine rg 2 (gH T rfl (bQ (by exact fL rfl rfl hcl (.inr ⟨rfl,rfl,by simp⟩)) rfl ?_));refine aV ?_)|refine nZ ?_));all_goals try (exfalso;omega)
  exact ⟨.inl rfl,[1],_,rfl,rfl,rfl,⟨.inr (aD rfl (bY _ (ints_idf _)) (ints_idf _)),trivial⟩,by decide,kV _⟩
theorem AK (c : Cx) (gs : List G) (b : Int) (h : nS c gs) {g : G} {i : Nat} (hg : U2 gs b = some (g,i)) :
    aR Tryz.prog 13 [.pr (gN c gs) 0,.i b] [] (.tup [.i (yA2 (qL g i)).1,.b (yA2 (qL g i)).2]) [] := by
  have hp := LY c gs b h hg;generalize qL g i = P at *;have hl : (ints P).length = P.length := dC _;unfold yA2;by_cases h1 : P.length = 1
  · rw [if_pos h1];have q := J5 (l := P) (j := (0 : Int)) (i := 0) 0 (by omega) rfl
    refine bO T Tryz.func13 rfl rfl rfl rfl ?_
    (repeat' (first|refine wS ?_|refine wK ?_|(refine wC rfl ?_ ?_<;>(intro hb;(try simp only [nm] at hb);try (exfalso;omega)))|(refine rg 0 (qJ ?_))|(refine rg 1 (dK rfl (bQ (by exact fL rfl rfl hp (.inr ⟨rfl,rfl,by simp⟩)) rfl ?_));refine aV ?_)|(refine rg 2 (mW rfl (qW T rfl (vV (fG rfl rfl) ?_))))|refine nZ ?_));all_goals try (exfalso;omega)
    refine fE [(6,.sl 0 0 P.length 1)] [.arr (ints P) 1] ⟨[0],rfl,(by repeat first|exact trivial|refine ⟨rfl,?_⟩),⟨.inr (aD rfl (bY _ (ints_idf _)) (ints_idf _)),trivial⟩,by decide,kV _⟩ ?_
    (repeat' (first|refine wR ?_|(refine rg 4 (mW rfl (vV (by exact aJ T rfl rfl rfl rfl rfl (by omega) (by omega)) ?_));refine vV (by exact aP T rfl rfl (bH rfl q) rfl) ?_;refine qJ ?_)|refine nZ ?_));all_goals try (exfalso;omega)
    all_goals exact ⟨.inl rfl,[],_,rfl,rfl,rfl,trivial,by decide,kV _⟩
  · rw [if_neg h1];refine bO T Tryz.func13 rfl rfl rfl rfl ?_
    (repeat' (first|refine wS ?_|refine wR ?_|(refine wC rfl ?_ ?_<;>(intro hb;(try simp only [nm] at hb);try (exfalso;omega)))|(refine rg 0 (qJ ?_))|(refine rg 1 (dK rfl (bQ (by exact fL rfl rfl hp (.inr ⟨rfl,rfl,by simp⟩)) rfl ?_));refine aV ?_)|(refine rg 2 (mW rfl (qW T rfl (vV (fG rfl rfl) ?_))))|(refine rg 3 (qJ ?_))|refine nZ ?_));all_goals try (exfalso;omega)
    all_goals exact rQ
theorem OL (c : Cx) (gs : List G) (b : Int) (h : nS c gs) {g : G} {i : Nat} (hg : U2 gs b = some (g,i)) :
    aR Tryz.prog 18 [.pr (gN c gs) 0,.i b] [] (lF (IG g i).1 (IG g i).2) [] := by
  obtain ⟨k0,h1,h2,h3,h4⟩ := J9 hg;have hgm := aQ h2;have og := h.mid.out.ok g hgm;have hwl := h.mid.wl g hgm;have hne := h.mid.ne g hgm;have hl12 : gs.length ≤ 12 := bA h.mid.out.len h.mid.out.ln;have hgr := FS c gs b (by omega) (fun x hx => by have := (h.mid.out.ok x hx).ln;omega) hg
  have hi : i < g.1.length := by rw [h4];exact iN h3
  have hln := og.ln;have hwg : ∀ k (h : k < g.2.length),(fA g.2[k].2.2)[((i : Int)).toNat]? = some [.i (gC g.2[k] i).1,.i (gC g.2[k] i).2] ∧ (fA g.2[k].2.2).length = g.1.length := fun k h => by
    have := (og.ws _ (aI h)).cl;exact ⟨rE (by omega) rfl,by rw [gJ];exact this⟩
  have hst : ∀ k (h : k < g.2.length),_ := fun k h => RO (g := g) (i := i) h;have h0 : 0 < g.2.length := dZ.2 hne;have hf0 : RP g i 0 = gC g.2[0] i := by
    obtain ⟨bs,ws⟩ := g;cases ws with
    | nil => exact absurd rfl hne
    | cons w l => rfl
  unfold IG;obtain ⟨bs,ws⟩ := g;dsimp only at *;generalize RP (bs,ws) i = F at *;have hwsl : (fQ ws).length = ws.length := eV _;have hg0 := rW h0;obtain ⟨q1,q2⟩ := hwg 0 h0;rw [← hf0] at q1;refine bO T Tryz.func18 rfl rfl rfl rfl ?_
  (repeat' (first|refine wS ?_|(refine rg 0 (bQ (bT T rfl) rfl ?_))|(refine rg 1 (dK rfl (vV (kC (hgr)) (mW rfl (xW rfl (xW rfl (xW rfl (bQ (bT T rfl) rfl (aU T rfl rfl rfl rfl rfl rfl (by decide) rfl (qJ ?_))))))))))|refine nZ ?_));all_goals try (exfalso;omega)
  refine fC 5 (cs := gA (bs,ws)) rfl rfl rfl ?_;generalize hw0 : ws[0] = w0 at *;obtain ⟨wp0,wm0,wc0⟩ := w0;dsimp only at *
  (repeat' (first|refine wS ?_|refine wB ?_|refine wK ?_|refine wU ?_|(refine rg 2 (mW rfl (vV (dX rfl) ?_)))|(refine rg 4 (gH T rfl (vV (ix T rfl (by omega) (lU _) hg0) (gH T rfl (mW rfl (vV (ix T rfl (by omega) (jI _) q1) (lW T rfl (bQ (bT T rfl) rfl (aU T rfl rfl rfl rfl rfl rfl (by decide) rfl ?_)))))))))|(refine rg 5 (gH T rfl (qW T rfl (mV ?_))))|refine nZ ?_));all_goals try (exfalso;omega)
  refine cN (X := {k : Nat // k ≤ ws.length}) (fun k => [(4,.ptr 0 0),(6,.i i),(8,.ptr 1 0),(30,.rowE (fQ ws) 3),(31,.i (fQ ws).length),(32,.i k.1)]) (fun k => [.cells [.i 0,.i 0],.cells [.i (F k.1).1,.i (F k.1).2]]) (fun k => ws.length - k.1) ⟨0,bU _⟩ ⟨[0,2],rfl,(by repeat first|exact trivial|refine ⟨rfl,?_⟩),⟨.inr rfl,.inr rfl,trivial⟩,by decide,kV _⟩ ?_
  rintro ⟨k,hk⟩;dsimp only;by_cases hlt : k < ws.length
  · have hgk := rW hlt;obtain ⟨q1,q2⟩ := hwg k hlt;have q3 := hst k hlt;have hh := zR9 (F k).1 (F k).2 (gC ws[k] i).1 (gC ws[k] i).2;generalize hF1 : F (k + 1) = f1 at *;generalize F k = f at *;generalize gC ws[k] i = r at *;generalize ws[k] = w at *;obtain ⟨wp,wm,wc⟩ := w;dsimp only at *
    (repeat' (first|refine wS ?_|refine wB ?_|refine wK ?_|(refine wC rfl ?_ ?_<;>(intro hb;(try simp only [nm] at hb);try (exfalso;omega)))|(refine rg 6 (vV (aL rfl rfl) ?_))|(refine rg 7 (vV (ix T rfl (by omega) (lU _) hgk) (lW T rfl (bQ (bT T rfl) rfl (aU T rfl rfl rfl rfl rfl rfl (by decide) rfl ?_)))))|(refine bN (id := 8) 45 [[],[],[1],[],[1,2,3],rM 1 4,rN 6] (rM 36 7) [[],[36],[36],[36,37,38],[36],[36],[]] cJ rfl (by decide +kernel) (dO T rfl (dP T rfl (dO T rfl (dN rfl (dV rfl (ix T rfl (by omega) (jI _) q1) (dO T rfl (dV rfl (kC (hh)) (dE ?_))))))));refine aU T rfl rfl rfl rfl rfl rfl (by decide) rfl ?_)|(refine rg 9 (vV (bV rfl rfl (by omega) (by omega)) (mV ?_)))|refine nZ ?_));all_goals try (exfalso;omega)
    exact ⟨⟨k + 1,hlt⟩,by dsimp only;omega,⟨[0,1],rfl,(by repeat first|exact trivial|refine ⟨rfl,?_⟩),⟨.inr rfl,.inr (by dsimp only;rw [hF1,q3];rfl),trivial⟩,by decide,kV _⟩⟩
  · obtain rfl : k = ws.length := by omega
    (repeat' (first|refine wS ?_|refine wR ?_|refine wE ?_|(refine wC rfl ?_ ?_<;>(intro hb;(try simp only [nm] at hb);try (exfalso;omega)))|(refine rg 6 (vV (aL rfl rfl) ?_))|(refine rg 10 (lW T rfl (aU T rfl rfl rfl rfl rfl rfl (by decide) rfl ?_)))|refine nZ ?_));all_goals try (exfalso;omega)
    all_goals exact ⟨.inl rfl,[],_,rfl,rfl,rfl,trivial,by decide,kV _⟩
theorem yB2 : GB Tryz.prog 48 0 = some (3,0) := by kernel_rfl
theorem XP (c : Cx) (gs : List G) (lot id : Int) (h : 0 ≤ id ∧ id < c.bs.length) : aR Tryz.prog 62 [.i id,.pr [.pr (gN c gs) 0] 0,.pr [.i lot] 0] [] (.b (decide ((c.bs.getD id.toNat (0,0,0)).1 ≠ lot))) [] := by
  have hbx : c.bs[id.toNat]? = some (c.bs.getD id.toNat (0,0,0)) := by
    rw [aC,aA (by omega)];rfl
  have hbxl : (cW c.bs).length = c.bs.length := bB _;have qb : (cW c.bs)[id.toNat]? = some [.i (c.bs.getD id.toNat (0,0,0)).1,.i (c.bs.getD id.toNat (0,0,0)).2.1,.i (c.bs.getD id.toNat (0,0,0)).2.2] := by rw [bS,hbx];rfl
  generalize c.bs.getD id.toNat (0,0,0) = bx at *;obtain ⟨x1,x2,x3⟩ := bx;dsimp only at *;refine bO T Tryz.func62 rfl rfl rfl rfl ?_
  (repeat' (first|refine wS ?_|refine wR ?_|(refine rg 0 (aV ?_))|(refine bN (id := 1) 15 [[],[0],[0,1],[0,1,2],[],rN 5,rN 6,rN 7,[],rN 9] (rM 5 10) [[],[],[],[],rM 5 4,[],[],[],rM 5 8,[]] cJ rfl (by decide +kernel) (dO T rfl (dV rfl (by exact eS rfl rfl) ?_));refine dP T rfl (dO T rfl (dN rfl (dV rfl (ix T rfl (by omega) (gV _) qb) (dP T rfl (dO T rfl (dO T rfl (dV rfl (fG rfl rfl) (dE ?_))))))));refine aV ?_)|refine nZ ?_));all_goals try (exfalso;omega)
  all_goals refine cX (.inl rfl) rfl (nC ?_)
  all_goals simp
theorem AI (c : Cx) (gs : List G) (b lot : Int) (h : nS c gs) {g : G} {i : Nat} (hg : U2 gs b = some (g,i)) (hr : ∀ x,x ∈ qL g i → 0 ≤ x ∧ x < c.bs.length) (hpl : (qL g i).length ≤ 1000000) :
    aR Tryz.prog 20 [.pr (gN c gs) 0,.i b,.i lot] [] (.i (XO c (qL g i) (IG g i) lot)) [] := by
  have hp := LY c gs b h hg;have hrg := OL c gs b h hg;generalize qL g i = P at *;generalize IG g i = r at *;obtain ⟨r1,r2⟩ := r;dsimp only at *;have hl : (ints P).length = P.length := dC _;have hc := YG (l := P) (F := 62) (caps := [.pr [.pr (gN c gs) 0] 0,.pr [.i lot] 0]) (p := fun id => decide ((c.bs.getD id.toNat (0,0,0)).1 ≠ lot)) hpl rfl (fun x hx => XP c gs lot x (hr x hx));unfold XO;by_cases h0 : P.length = 0
  · rw [if_pos (.inl h0)];refine bO T Tryz.func20 rfl rfl rfl rfl ?_
    (repeat' (first|refine wS ?_|(refine rg 0 (bQ (cD rfl rfl) rfl (bQ (cD rfl rfl) rfl (aV ?_))))|refine nZ ?_));refine fC 3 rfl rfl rfl ?_
    refine fC 5 rfl rfl rfl ?_
    (repeat' (first|refine wS ?_|(refine rg 1 (lW T rfl (mW rfl (bQ (by exact fL rfl rfl hp (.inr ⟨rfl,rfl,by simp⟩)) rfl ?_)));refine aV ?_)|refine nZ ?_));refine fE [(1,.i b),(3,.pr [.pr (gN c gs) 0] 0),(5,.pr [.i lot] 0),(7,.sl 0 0 P.length 1)] [.arr (ints P) 1] ⟨[2],rfl,(by repeat first|exact trivial|refine ⟨rfl,?_⟩),⟨.inr (aD rfl (bY _ (ints_idf _)) (ints_idf _)),trivial⟩,by decide,kV _⟩ ?_
    refine Q0 7 (es := ints P) rfl rfl hl.symm (iJ (ints_idf _)) ?_
    (repeat' (first|refine wS ?_|refine wR ?_|refine wT ?_|(refine rg 2 (mW rfl (qW T rfl (vV (lO rfl rfl (by omega)) (mV ?_))));(iterate 3 refine gF ?_);refine pV ?_)|(refine rg 3 (aV ?_))|refine nZ ?_));all_goals try (exfalso;omega)
    all_goals exact rQ
  · cases ha : P.any fun id => decide ((c.bs.getD id.toNat (0,0,0)).1 ≠ lot) with
    | true =>
      rw [ha] at hc;rw [if_pos (.inr rfl)];refine bO T Tryz.func20 rfl rfl rfl rfl ?_
      (repeat' (first|refine wS ?_|(refine rg 0 (bQ (cD rfl rfl) rfl (bQ (cD rfl rfl) rfl (aV ?_))))|refine nZ ?_));refine fC 3 rfl rfl rfl ?_
      refine fC 5 rfl rfl rfl ?_
      (repeat' (first|refine wS ?_|(refine rg 1 (lW T rfl (mW rfl (bQ (by exact fL rfl rfl hp (.inr ⟨rfl,rfl,by simp⟩)) rfl ?_)));refine aV ?_)|refine nZ ?_));refine fE [(1,.i b),(3,.pr [.pr (gN c gs) 0] 0),(5,.pr [.i lot] 0),(7,.sl 0 0 P.length 1)] [.arr (ints P) 1] ⟨[2],rfl,(by repeat first|exact trivial|refine ⟨rfl,?_⟩),⟨.inr (aD rfl (bY _ (ints_idf _)) (ints_idf _)),trivial⟩,by decide,kV _⟩ ?_
      refine Q0 7 (es := ints P) rfl rfl hl.symm (iJ (ints_idf _)) ?_
      (repeat' (first|refine wS ?_|refine wR ?_|refine wT ?_|(refine rg 2 (mW rfl (qW T rfl (vV (gL rfl rfl (by omega)) (mW rfl (yN rfl (yV (by exact jK rfl rfl) ?_))))));refine yV (kC (hc)) (pV ?_))|(refine rg 3 (aV ?_))|refine nZ ?_));all_goals try (exfalso;omega)
      all_goals exact rQ
    | false =>
      rw [ha] at hc;rw [if_neg (by rintro (q | q);exact h0 q;cases q)]
      refine bO T Tryz.func20 rfl rfl rfl rfl ?_
      (repeat' (first|refine wS ?_|(refine rg 0 (bQ (cD rfl rfl) rfl (bQ (cD rfl rfl) rfl (aV ?_))))|refine nZ ?_));refine fC 3 rfl rfl rfl ?_
      refine fC 5 rfl rfl rfl ?_
      (repeat' (first|refine wS ?_|(refine rg 1 (lW T rfl (mW rfl (bQ (by exact fL rfl rfl hp (.inr ⟨rfl,rfl,by simp⟩)) rfl ?_)));refine aV ?_)|refine nZ ?_));refine fE [(1,.i b),(3,.pr [.pr (gN c gs) 0] 0),(5,.pr [.i lot] 0),(7,.sl 0 0 P.length 1)] [.arr (ints P) 1] ⟨[2],rfl,(by repeat first|exact trivial|refine ⟨rfl,?_⟩),⟨.inr (aD rfl (bY _ (ints_idf _)) (ints_idf _)),trivial⟩,by decide,kV _⟩ ?_
      refine Q0 7 (es := ints P) rfl rfl hl.symm (iJ (ints_idf _)) ?_
      (repeat' (first|refine wS ?_|refine wK ?_|refine wR ?_|refine wU ?_|(refine rg 2 (mW rfl (qW T rfl (vV (gL rfl rfl (by omega)) (mW rfl (yN rfl (yV (by exact jK rfl rfl) ?_))))));refine yV (kC (hc)) (pV ?_))|(refine rg 4 (lW T rfl (mW rfl (vV (kC (hrg)) (vV (by exact DY T rfl yB2 rfl rfl) ?_))));refine aV ?_)|refine nZ ?_));all_goals try (exfalso;omega)
      all_goals exact rQ
end Go.Proofs.YtmmkhmilpeodnaaGreat
namespace Go.Ld
open Go.Ab Go.Proofs.YtmmkhmilpeodnaaGreat
def J1 (g : G) (p q : List Int) (w : W) (i : Nat) : Bool := decide (gP w i = p.getD (g.1.getD i 0).toNat 0) && uZ (gC w i).1 (gC w i).2 (q.getD (p.getD (g.1.getD i 0).toNat 0).toNat 0)
def D8 (g : G) (p q : List Int) (w : W) : Bool := (List.range g.1.length).all (J1 g p q w)
theorem zK3 {g : G} {p q : List Int} {w : W} (h : ∀ i,i < g.1.length → J1 g p q w i = true) : D8 g p q w = true := bG.2 fun i hi => h i (eF.1 hi)
theorem zT2 {g : G} {p q : List Int} {w : W} {i : Nat} (hi : i < g.1.length) (h : J1 g p q w i = false) : D8 g p q w = false := T5.2 ⟨i,eF.2 hi,by rw [h];simp⟩
structure zZ7 (n : Nat) (p q : List Int) : Prop where
  pl : p.length = n
  ql : q.length = n
  pr : ∀ i,i < n → 0 ≤ p.getD i 0 ∧ p.getD i 0 < n
end Go.Ld
namespace Go.Proofs.YtmmkhmilpeodnaaGreat
open Go Go.Ab Go.Ld
attribute [local irreducible] VC AW bX aR kY
set_option maxHeartbeats 4000000
theorem zA4 {n : Nat} (g : G) (p q : List Int) (w : W) (hg : yW n g) (hw : CE n g.1.length w) (hp : zZ7 n p q) (hn : n ≤ 1000) :
    aR Tryz.prog 64 [.agg (wA w),.pr (gA g) 0,.pr [.rowE (ints p) 1] 0,.pr [.rowE (ints q) 1] 0] [] (.b (D8 g p q w)) [] := by
  have hln := hg.ln;have hyes := zK3 (g := g) (p := p) (q := q) (w := w);have hno := fun (i : Nat) (hi : i < g.1.length) => zT2 (g := g) (p := p) (q := q) (w := w) hi;have hpp := hw.pl;have hcc := hw.cl;have hgi : ∀ i,i < g.1.length → 0 ≤ g.1.getD i 0 ∧ g.1.getD i 0 < n := fun i hi => by
    rw [aC,aA hi];exact hg.rg _ (aI hi)
  have hlp : (ints p).length = n := by rw [dC];exact hp.pl
  have hlq : (ints q).length = n := by rw [dC];exact hp.ql
  obtain ⟨bs,ws⟩ := g;obtain ⟨wp,wm,wc⟩ := w;dsimp only at *;have hlb : (ints bs).length = bs.length := dC _;have hl1 : (ints wp).length = bs.length := by rw [dC];exact hpp
  have hl2 : (fA wc).length = bs.length := by rw [gJ];exact hcc
  generalize D8 (bs,ws) p q (wp,wm,wc) = R at *;refine bO T Tryz.func64 rfl rfl rfl rfl ?_
  (repeat' (first|refine wS ?_|refine wB ?_|(refine rg 0 (bQ (cD rfl rfl) rfl (aV ?_)))|(refine rg 1 (gH T rfl (qW T rfl (mV ?_))))|refine nZ ?_));all_goals try (exfalso;omega)
  refine fC 4 (cs := wA (wp,wm,wc)) rfl rfl rfl ?_;refine cN (X := {k : Nat // k ≤ bs.length ∧ ∀ i,i < k → J1 (bs,ws) p q (wp,wm,wc) i = true}) (fun k => [(2,.pr [.rowE (ints p) 1] 0),(3,.pr [.rowE (ints q) 1] 0),(4,.pr (wA (wp,wm,wc)) 0),(9,.rowE (ints bs) 1),(10,.i (ints bs).length),(11,.i k.1)]) (fun _ => []) (fun k => bs.length - k.1) ⟨0,bU _,wX⟩ (eA []) ?_;rintro ⟨k,hk,hall⟩;dsimp only;by_cases hlt : k < bs.length
  · obtain ⟨g1,g2⟩ := hgi k hlt;have qb := nY (l := bs) (j := (k : Int)) (i := k) 0 (by omega) rfl
    have qp := nY (l := wp) (j := (k : Int)) (i := k) 0 (by omega) rfl
    have qc := rE (l := wc) (j := (k : Int)) (i := k) (by omega) rfl
    have hok : J1 (bs,ws) p q (wp,wm,wc) k = (decide (wp.getD k 0 = p.getD (bs.getD k 0).toNat 0) && uZ (wc.getD k (0,0)).1 (wc.getD k (0,0)).2 (q.getD (p.getD (bs.getD k 0).toNat 0).toNat 0)) := rfl;have hn2 := hno k hlt;generalize bs.getD k 0 = b at *;obtain ⟨p1,p2⟩ := hp.pr b.toNat (by omega)
    have qp2 := nY (l := p) (j := b) (i := b.toNat) 0 (by have := hp.pl;omega) (by omega)
    generalize p.getD b.toNat 0 = x at *;have qq := nY (l := q) (j := x) (i := x.toNat) 0 (by have := hp.ql;omega) (by omega)
    generalize q.getD x.toNat 0 = y at *;generalize wp.getD k 0 = v at *;generalize wc.getD k (0,0) = r at *;obtain ⟨r1,r2⟩ := r;dsimp only at *;have hh := OJ r1 r2 y;by_cases hv : v = x
    · rw [decide_eq_true hv,iI] at hok;generalize uZ r1 r2 y = hb' at *;cases hb' with
      | true =>
        (repeat' (first|refine wS ?_|refine wB ?_|refine wK ?_|refine wU ?_|(refine wC rfl ?_ ?_<;>(intro hb;(try simp only [nm] at hb);try (exfalso;omega)))|(refine rg 2 (vV (aL rfl rfl) ?_))|(refine rg 3 (mW rfl (vV (ix T rfl (by omega) (ints_len _) qb) (lW T rfl (qJ ?_)))))|(refine bN (id := 4) 43 yJ6 (rM 16 26) yJ7 cJ rfl (by decide +kernel) (dP T rfl (dO T rfl (dN rfl (dV rfl (ix T rfl (by omega) (ints_len _) qp) (dO T rfl (dO T rfl (dN rfl (dV rfl (ix T rfl (by omega) (ints_len _) qp2) (dL T ?_)))))))));refine dV rfl (fG rfl rfl) (dM ?_);refine tQ rfl rfl rfl rfl ?_ ?_<;>(intro hb;rw [hb];(try simp only [nm] at hb);try (exfalso;omega))<;>(refine tF T ?_);(all_goals (refine tO T rfl (tN rfl (dT rfl (ix T rfl (by omega) (jI _) qc) (tO T rfl (tO T rfl (tO T rfl (tN rfl (dT rfl (ix T rfl (by omega) (ints_len _) qp2) (tO T rfl (dT rfl (ix T rfl (by omega) (ints_len _) qq) ?_)))))))));refine tO T rfl (dT rfl (kC (hh)) (dT rfl (dX rfl) (dV rfl (iE rfl rfl) (dE ?_)))))))|(refine rg 6 (vV (bV rfl rfl (by omega) (by omega)) (mV ?_)))|refine nZ ?_));all_goals try (exfalso;omega)
        exact ⟨⟨k + 1,hlt,fun i hi => by
          rcases hC i k with h | h
          · exact hall i h
          · obtain rfl : i = k := by omega
            exact hok⟩,by dsimp only;omega,[],rfl,⟨rfl,rfl,rfl,rfl,rfl,rfl,trivial⟩,trivial,cQ,kV _⟩
      | false =>
        have hR := hn2 hok;subst hR
        (repeat' (first|refine wS ?_|refine wB ?_|refine wK ?_|refine wR ?_|refine wT ?_|(refine wC rfl ?_ ?_<;>(intro hb;(try simp only [nm] at hb);try (exfalso;omega)))|(refine rg 2 (vV (aL rfl rfl) ?_))|(refine rg 3 (mW rfl (vV (ix T rfl (by omega) (ints_len _) qb) (lW T rfl (qJ ?_)))))|(refine bN (id := 4) 43 yJ6 (rM 16 26) yJ7 cJ rfl (by decide +kernel) (dP T rfl (dO T rfl (dN rfl (dV rfl (ix T rfl (by omega) (ints_len _) qp) (dO T rfl (dO T rfl (dN rfl (dV rfl (ix T rfl (by omega) (ints_len _) qp2) (dL T ?_)))))))));refine dV rfl (fG rfl rfl) (dM ?_);refine tQ rfl rfl rfl rfl ?_ ?_<;>(intro hb;rw [hb];(try simp only [nm] at hb);try (exfalso;omega))<;>(refine tF T ?_);(all_goals (refine tO T rfl (tN rfl (dT rfl (ix T rfl (by omega) (jI _) qc) (tO T rfl (tO T rfl (tO T rfl (tN rfl (dT rfl (ix T rfl (by omega) (ints_len _) qp2) (tO T rfl (dT rfl (ix T rfl (by omega) (ints_len _) qq) ?_)))))))));refine tO T rfl (dT rfl (kC (hh)) (dT rfl (dX rfl) (dV rfl (iE rfl rfl) (dE ?_)))))))|(refine rg 5 (aV ?_))|refine nZ ?_));all_goals try (exfalso;omega)
        all_goals exact rQ
    · rw [decide_eq_false hv,jS] at hok;have hR := hn2 hok;subst hR
      (repeat' (first|refine wS ?_|refine wB ?_|refine wK ?_|refine wR ?_|refine wT ?_|(refine wC rfl ?_ ?_<;>(intro hb;(try simp only [nm] at hb);try (exfalso;omega)))|(refine rg 2 (vV (aL rfl rfl) ?_))|(refine rg 3 (mW rfl (vV (ix T rfl (by omega) (ints_len _) qb) (lW T rfl (qJ ?_)))))|(refine bN (id := 4) 43 yJ6 (rM 16 26) yJ7 cJ rfl (by decide +kernel) (dP T rfl (dO T rfl (dN rfl (dV rfl (ix T rfl (by omega) (ints_len _) qp) (dO T rfl (dO T rfl (dN rfl (dV rfl (ix T rfl (by omega) (ints_len _) qp2) (dL T ?_)))))))));refine dV rfl (fG rfl rfl) (dM ?_);refine tQ rfl rfl rfl rfl ?_ ?_<;>(intro hb;rw [hb];(try simp only [nm] at hb);try (exfalso;omega))<;>(refine dG ?_);(all_goals (refine tG rfl (tG rfl (tG rfl (tG rfl (tG rfl (tG rfl (tG rfl (tG rfl (tG rfl (dG ?_)))))))));refine tG rfl (tG rfl (tG rfl (dV rfl (iQ rfl rfl) (dE ?_)))))))|(refine rg 5 (aV ?_))|refine nZ ?_));all_goals try (exfalso;omega)
      all_goals exact rQ
  · obtain rfl : k = bs.length := by omega
    have hR := hyes hall;subst hR
    (repeat' (first|refine wS ?_|refine wR ?_|refine wE ?_|(refine wC rfl ?_ ?_<;>(intro hb;(try simp only [nm] at hb);try (exfalso;omega)))|(refine rg 2 (vV (aL rfl rfl) ?_))|(refine rg 7 (aV ?_))|refine nZ ?_));all_goals try (exfalso;omega)
    all_goals exact rQ
end Go.Proofs.YtmmkhmilpeodnaaGreat
namespace Go.Ld
open Go.Ab Go.Proofs.YtmmkhmilpeodnaaGreat
def KL (g : G) (p q : List Int) (m : Int) (w : W) : Int := if D8 g p q w && (decide (m < 0) || decide (w.2.1 < m)) then w.2.1 else m
def wF (g : G) (p q : List Int) (k : Nat) : Int := (g.2.take k).foldl (KL g p q) (-1)
def nH (g : G) (p q : List Int) : Int := wF g p q g.2.length
theorem H0 {g : G} {p q : List Int} {k : Nat} (h : k < g.2.length) : wF g p q (k + 1) = KL g p q (wF g p q k) g.2[k] := by
  unfold wF;rw [aT h,wL];rfl
theorem P8 {g : G} {p q : List Int} (h : ∀ w, w ∈ g.2 → 0 ≤ w.2.1 ∧ w.2.1 ≤ 4000000) : ∀ k, k ≤ g.2.length → -1 ≤ wF g p q k ∧ wF g p q k ≤ 4000000
  | 0,_ => by unfold wF;simp
  | k + 1,hk => by
    have ih := P8 (p := p) (q := q) h k (by omega)
    have := h g.2[k] (aI _);rw [H0 (by omega)]
    unfold KL;split <;> omega
def F7 (gs : List G) (p q : List Int) (k : Nat) : Int := ((gs.take k).map fun g => nH g p q).sum
theorem RE {gs : List G} {p q : List Int} {k : Nat} (h : k < gs.length) : F7 gs p q (k + 1) = F7 gs p q k + nH gs[k] p q := by
  unfold F7;rw [aT h,dB,zU9];simp
def zO5 (c : Cx) (gs : List G) (p q : List Int) : Bool :=
  decide (p.length = c.bs.length) && decide (q.length = p.length) && Go.Pm.permB p && gs.all (fun g => decide (0 ≤ nH g p q)) && decide (F7 gs p q gs.length ≤ c.m)
theorem WQ {n : Nat} {p q : List Int} (h : Go.Pm.permB p = true) (hp : p.length = n) (hq : q.length = p.length) : zZ7 n p q := by
  refine ⟨hp,by omega,fun i hi => ?_⟩
  have e : jE p = nats (List.range p.length) := of_decide_eq_true h;have hm : p.getD i 0 ∈ p := by rw [aC,aA (by omega)];exact aI _
  have := (Go.Pm.sorted_perm p).mem_iff.2 hm;rw [e,hp] at this;exact tA.1 this
end Go.Ld
namespace Go.Proofs.YtmmkhmilpeodnaaGreat
open Go Go.Ab Go.Ld Go.Pm
attribute [local irreducible] VC AW bX aR kY
set_option maxHeartbeats 4000000
theorem IM (p : List Int) (hl : p.length ≤ 17592186043904) : aR Tryz.prog 63 [.rowE (ints p) 1] [] (.b (permB p)) [] := by
  have h1 := I3 p;have h2 := X6 p hl;have hlen : (ints (jE p)).length = p.length := by simp [qP]
  have hsl := qP p;have hB : permB p = decide (jE p = nats (List.range p.length)) := rfl;rw [hB];generalize jE p = B at *;have hrl : (nats (List.range p.length)).length = p.length := by simp
  refine bO T Tryz.func63 rfl rfl rfl rfl ?_
  (repeat' (first|refine wS ?_|refine wB ?_|(refine rg 0 (aV ?_))|(refine rg 1 (mW rfl (vV (by exact eQ rfl rfl h1 rfl rfl rfl) ?_));refine vV (by exact eQ rfl rfl h2 rfl rfl rfl) ?_;refine qW T rfl (mV ?_))|refine nZ ?_));refine cN (X := {i : Nat // i ≤ p.length ∧ B.take i = (nats (List.range p.length)).take i}) (fun i => [(7,.rowE (ints B) 1),(8,.i (ints B).length),(9,.i (i.1 : Int))]) (fun _ => []) (fun i => p.length - i.1) ⟨0,bU _,rfl⟩ (eA []) ?_
  rintro ⟨i,hi,hg⟩;dsimp only;by_cases hlt : i < p.length
  · have q1 := nY (l := B) (j := (i : Int)) (i := i) 0 (by omega) rfl
    have hx : B.getD i 0 = B[i]'(by omega) := by rw [aC,aA (by omega)];rfl
    by_cases e : (i : Int) = B.getD i 0
    · have hg2 : B.take (i + 1) = (nats (List.range p.length)).take (i + 1) := by
        rw [aT (by omega),aT (by omega),hg,← hx,← e]
        simp
      generalize B.getD i 0 = x at *
      (repeat' (first|refine wS ?_|refine wB ?_|refine wK ?_|refine wU ?_|(refine wC rfl ?_ ?_<;>(intro hb;(try simp only [nm] at hb);try (exfalso;omega)))|(refine rg 2 (vV (aL rfl rfl) ?_))|(refine rg 3 (mW rfl (vV (ix T rfl (by omega) (ints_len B) q1) (lW T rfl (qJ ?_)))))|(refine rg 4 (dK rfl (vV (rA rfl rfl (by omega)) ?_)))|(refine rg 6 (vV (bV rfl rfl (by omega) (by omega)) (mV ?_)))|refine nZ ?_));all_goals first | (exfalso;omega) | exact ⟨⟨i + 1,hlt,hg2⟩,by dsimp only;omega,eA []⟩
    · rw [show decide (B = nats (List.range p.length)) = false from decide_eq_false (fun h => e (by rw [hx];simp [h]))]
      generalize B.getD i 0 = x at *
      (repeat' (first|refine wS ?_|refine wB ?_|refine wK ?_|refine wR ?_|refine wT ?_|(refine wC rfl ?_ ?_<;>(intro hb;(try simp only [nm] at hb);try (exfalso;omega)))|(refine rg 2 (vV (aL rfl rfl) ?_))|(refine rg 3 (mW rfl (vV (ix T rfl (by omega) (ints_len B) q1) (lW T rfl (qJ ?_)))))|(refine rg 4 (dK rfl (vV (xD rfl rfl (by omega)) ?_)))|(refine rg 5 (aV ?_))|refine nZ ?_));all_goals first | (exfalso;omega) | exact rQ
  · rw [cF (by omega),cF (by omega)] at hg
    rw [show decide (B = nats (List.range p.length)) = true from decide_eq_true hg]
    (repeat' (first|refine wS ?_|refine wR ?_|refine wE ?_|(refine wC rfl ?_ ?_<;>(intro hb;(try simp only [nm] at hb);try (exfalso;omega)))|(refine rg 2 (vV (aL rfl rfl) ?_))|(refine rg 7 (aV ?_))|refine nZ ?_));all_goals first | (exfalso;omega) | exact rQ
theorem FQ (n : Int) (h : n ≤ 17592186043904) : aR Tryz.prog 24 [.i n] [] (.sl 0 0 n.toNat 1) [.arr (ints (nats (List.range n.toNat))) 1] := by
  refine bO T Tryz.func24 rfl rfl rfl rfl ?_
  (repeat' (first|refine wS ?_|refine wB ?_|(refine rg 0 (aV ?_))|(refine rg 1 (aV ?_))|(refine rg 2 (mW rfl (vV (xF rfl rfl) (mV ?_))))|refine nZ ?_));refine ZN 3 1 rfl (by decide) ?_
  refine cN (X := {i : Nat // i ≤ n.toNat}) (fun i => [(3,.sl 0 0 i.1 1),(6,.i (max n 0)),(7,.i (i.1 : Int))]) (fun i => [.arr (ints (nats (List.range i.1))) 1]) (fun i => n.toNat - i.1) ⟨0,bU _⟩ ⟨[0],rfl,⟨rfl,rfl,rfl,trivial⟩,⟨.inr rfl,trivial⟩,by decide,wX⟩ ?_
  rintro ⟨i,hi⟩;dsimp only;have hl : (ints (nats (List.range i))).length = i := by simp
  by_cases hlt : i < n.toNat
  · have hs : ints (nats (List.range i)) ++ [[AV.i (i : Int)]] = ints (nats (List.range (i + 1))) := by rw [E0,DN]
    (repeat' (first|refine wS ?_|refine wB ?_|refine wK ?_|(refine wC rfl ?_ ?_<;>(intro hb;(try simp only [nm] at hb);try (exfalso;omega)))|(refine rg 3 (vV (aL rfl rfl) ?_))|(refine rg 4 (mW rfl (aV ?_)))|(refine rg 5 (dK rfl (bQ (by exact bC T rfl rfl (by decide) (by decide) rfl rfl rfl) rfl ?_));refine fR T rfl rfl rfl rfl rfl rfl (by simp) (kJ.whole rfl rfl) rfl (by simp;omega) (by simp;omega) rfl ?_;refine aV ?_)|(refine rg 6 (vV (bV rfl rfl (by omega) (by omega)) (mV ?_)))|refine nZ ?_));all_goals first | (exfalso;omega) | skip
    exact ⟨⟨i + 1,hlt⟩,by dsimp only;omega,[2],rfl,⟨rfl,rfl,rfl,trivial⟩,⟨.inr (aD rfl ((lQ hl.symm).trans hs) (ints_idf _)),trivial⟩,by decide,wX⟩
  · obtain rfl : i = n.toNat := by omega
    (repeat' (first|refine wS ?_|refine wR ?_|refine wE ?_|(refine wC rfl ?_ ?_<;>(intro hb;(try simp only [nm] at hb);try (exfalso;omega)))|(refine rg 3 (vV (aL rfl rfl) ?_))|(refine rg 7 (mW rfl (aV ?_)))|refine nZ ?_));all_goals first | (exfalso;omega) | exact ⟨.inl rfl,[0],_,rfl,rfl,rfl,⟨.inr (aD rfl rfl (ints_idf _)),trivial⟩,by decide,wX⟩
theorem EK (c : Cx) (gs : List G) (p q : List Int) (h : nS c gs) (hm : c.m ≤ 1048576) (hpl : p.length ≤ 17592186043904) (hql : q.length ≤ 17592186043904) :
    aR Tryz.prog 22 [.pr (gN c gs) 0,.rowE (ints p) 1,.rowE (ints q) 1] [] (.b (zO5 c gs p q)) [] := by
  have hn12 := h.mid.n12;have hl12 : gs.length ≤ 12 := bA h.mid.out.len h.mid.out.ln;have hbl : (cW c.bs).length = c.bs.length := bB _;have hlp : (ints p).length = p.length := dC _;have hlq : (ints q).length = q.length := dC _;have hgl : (jW gs).length = gs.length := jV _;have hpr := IM p hpl;have hpq := fun hB h1 h2 => WQ (n := c.bs.length) (p := p) (q := q) hB h1 h2;have hbst : ∀ g,g ∈ gs → -1 ≤ nH g p q ∧ nH g p q ≤ 4000000 := fun g hg => P8 (fun w hw => ⟨((h.mid.out.ok g hg).ws w hw).m0,((h.mid.out.ok g hg).ws w hw).m1⟩) _ (aY _);unfold zO5;generalize hB : permB p = pb at *;by_cases h1 : p.length = c.bs.length
  · rw [decide_eq_true h1,iI];by_cases h2 : q.length = p.length
    · rw [decide_eq_true h2,iI];cases pb with
      | false =>
        rw [jS,jS];refine bO T Tryz.func22 rfl rfl rfl rfl ?_
        (repeat' (first|refine wS ?_|(refine rg 0 (bQ (cD rfl rfl) rfl (bQ (cD rfl rfl) rfl (aV ?_))))|refine nZ ?_));refine fC 4 rfl rfl rfl ?_
        refine fC 5 rfl rfl rfl ?_
        (repeat' (first|refine wS ?_|refine wR ?_|refine wT ?_|(refine bN (id := 1) 80 yJ8 (rM 14 20) yJ9 cJ rfl (by decide +kernel) (dO T rfl (dV rfl (gD T rfl rfl) (dN rfl (dV rfl (by exact eS rfl rfl) ?_))));refine dP T rfl (dO T rfl (dV rfl (gD T rfl rfl) (dV rfl (rA rfl rfl (by omega)) (dN rfl (tO T rfl (dT rfl (gD T rfl rfl) (tO T rfl (dT rfl (gD T rfl rfl) (dT rfl (rA rfl rfl (by omega)) ?_)))))))));refine dV rfl (iE rfl rfl) (dN rfl (tO T rfl (dT rfl (kC (hpr)) (dT rfl (dX rfl) (dV rfl (iE rfl rfl) (dE ?_)))))))|(refine rg 2 (aV ?_))|refine nZ ?_));all_goals try (exfalso;omega)
        all_goals exact rQ
      | true =>
        rw [iI];have hpq := hpq rfl h1 h2;have hno : ∀ k (hk : k < gs.length),nH gs[k] p q < 0 → (gs.all (fun g => decide (0 ≤ nH g p q)) && decide (F7 gs p q gs.length ≤ c.m)) = false := fun k hk hb => by
          rw [show gs.all (fun g => decide (0 ≤ nH g p q)) = false from T5.2 ⟨gs[k],aI hk,by simp;omega⟩];rfl
        have hyes : (∀ k (hk : k < gs.length),0 ≤ nH gs[k] p q) → (gs.all (fun g => decide (0 ≤ nH g p q)) && decide (F7 gs p q gs.length ≤ c.m)) = decide (F7 gs p q gs.length ≤ c.m) := fun hb => by
          rw [show gs.all (fun g => decide (0 ≤ nH g p q)) = true from bG.2 fun x hx => by
            obtain ⟨k,hk,rfl⟩ := oM hx
            exact decide_eq_true (hb k hk)];rfl
        generalize (gs.all (fun g => decide (0 ≤ nH g p q)) && decide (F7 gs p q gs.length ≤ c.m)) = R at *;refine bO T Tryz.func22 rfl rfl rfl rfl ?_
        (repeat' (first|refine wS ?_|(refine rg 0 (bQ (cD rfl rfl) rfl (bQ (cD rfl rfl) rfl (aV ?_))))|refine nZ ?_));refine fC 4 rfl rfl rfl ?_
        refine fC 5 rfl rfl rfl ?_
        (repeat' (first|refine wS ?_|refine wB ?_|refine wK ?_|refine wU ?_|(refine bN (id := 1) 80 yJ8 (rM 14 20) yJ9 cJ rfl (by decide +kernel) (dO T rfl (dV rfl (gD T rfl rfl) (dN rfl (dV rfl (by exact eS rfl rfl) ?_))));refine dP T rfl (dO T rfl (dV rfl (gD T rfl rfl) (dV rfl (rA rfl rfl (by omega)) (dN rfl (tO T rfl (dT rfl (gD T rfl rfl) (tO T rfl (dT rfl (gD T rfl rfl) (dT rfl (rA rfl rfl (by omega)) ?_)))))))));refine dV rfl (iE rfl rfl) (dN rfl (tO T rfl (dT rfl (kC (hpr)) (dT rfl (dX rfl) (dV rfl (iE rfl rfl) (dE ?_)))))))|(refine rg 3 (aV ?_))|(refine rg 4 (mW rfl (nV ?_));refine gH T rfl (qW T rfl (mV ?_)))|refine nZ ?_));all_goals try (exfalso;omega)
        refine cN (X := {k : Nat // k ≤ gs.length ∧ (∀ j (hj : j < gs.length),j < k → 0 ≤ nH gs[j] p q) ∧ 0 ≤ F7 gs p q k ∧ F7 gs p q k ≤ 4000000 * k}) (fun k => [(0,.pr (gN c gs) 0),(4,.pr [.rowE (ints p) 1] 0),(5,.pr [.rowE (ints q) 1] 0),(7,.i (F7 gs p q k.1)),(37,.rowE (jW gs) 2),(38,.i (jW gs).length),(39,.i k.1)]) (fun _ => []) (fun k => gs.length - k.1) ⟨0,bU _,fun j hj h => absurd h (dH _),eP _,eP _⟩ (eA []) ?_;rintro ⟨k,hk,hall,hs0,hs1⟩;dsimp only;by_cases hlt : k < gs.length
        · have hgk := V6 hlt;have hgm := aI hlt;have og := h.mid.out.ok _ hgm;have hwl := h.mid.wl _ hgm;have hno := hno k hlt;have hsk := RE (p := p) (q := q) hlt;have hbk := hbst _ hgm;have hall2 : 0 ≤ nH gs[k] p q → ∀ j (hj : j < gs.length),j < k + 1 → 0 ≤ nH gs[j] p q := fun hb j hj hjk => by
            rcases hC j k with h' | h'
            · exact hall j hj h'
            · obtain rfl : j = k := by omega
              exact hb
          clear hyes hall;generalize hg : gs[k] = g at *;have hcl : ∀ w,w ∈ g.2 → _ := fun w hw => zA4 g p q w og (og.ws w hw) hpq (by omega)
          have hbs : ∀ j (hj : j < g.2.length),_ := fun j hj => H0 (g := g) (p := p) (q := q) hj;have hbb : ∀ j,j ≤ g.2.length → _ := fun j hj => P8 (g := g) (p := p) (q := q) (fun w hw => ⟨(og.ws w hw).m0,(og.ws w hw).m1⟩) j hj;have hmw : ∀ w,w ∈ g.2 → 0 ≤ w.2.1 ∧ w.2.1 ≤ 4000000 := fun w hw => ⟨(og.ws w hw).m0,(og.ws w hw).m1⟩;unfold nH at hbk hsk hno hall2;generalize hS : F7 gs p q (k + 1) = S1 at *;generalize F7 gs p q k = S at *;have hbs0 : wF g p q 0 = -1 := rfl;unfold KL at hbs;obtain ⟨bs,ws⟩ := g;dsimp only at *;generalize wF (bs,ws) p q = B at *;generalize D8 (bs,ws) p q = FB at *;have hwsl : (fQ ws).length = ws.length := eV _
          (repeat' (first|refine wS ?_|refine wB ?_|refine wK ?_|(refine wC rfl ?_ ?_<;>(intro hb;(try simp only [nm] at hb);try (exfalso;omega)))|(refine rg 5 (vV (aL rfl rfl) ?_))|(refine rg 6 (vV (ix T rfl (by omega) (pT _) hgk) (lW T rfl (bQ (bT T rfl) rfl (aU T rfl rfl rfl rfl rfl rfl (by decide) rfl ?_)))))|refine nZ ?_));all_goals try (exfalso;omega)
          refine fC 9 (cs := gA (bs,ws)) rfl rfl rfl ?_
          (repeat' (first|refine wS ?_|refine wB ?_|(refine rg 7 (vV (by exact jK rfl rfl) ?_);refine aV ?_)|(refine rg 8 (aV ?_))|(refine rg 9 (gH T rfl (qW T rfl (mV ?_))))|refine nZ ?_));all_goals try (exfalso;omega)
          refine cN (X := {j : Nat // j ≤ ws.length}) (fun j => [(0,.pr (gN c gs) 0),(4,.pr [.rowE (ints p) 1] 0),(5,.pr [.rowE (ints q) 1] 0),(7,.i S),(37,.rowE (jW gs) 2),(38,.i (jW gs).length),(39,.i k),(10,.clo (.func 64) [] [.pr (gA (bs,ws)) 0,.pr [.rowE (ints p) 1] 0,.pr [.rowE (ints q) 1] 0]),(11,.i (B j.1)),(45,.rowE (fQ ws) 3),(46,.i (fQ ws).length),(47,.i j.1)]) (fun _ => []) (fun j => ws.length - j.1) ⟨0,bU _⟩ ⟨[],rfl,⟨rfl,rfl,rfl,rfl,rfl,rfl,rfl,rfl,by dsimp only;rw [hbs0];rfl,rfl,rfl,rfl,trivial⟩,trivial,cQ,kV _⟩ ?_
          rintro ⟨j,hj⟩;dsimp only;by_cases hjl : j < ws.length
          · have hgj := rW hjl;have hwm := aI hjl;have hc1 := hcl _ hwm;have hb1 := hbs j hjl;have hb2 := hbb j hj;have hm1 := hmw _ hwm;generalize ws[j] = w at *;generalize FB w = fb at *;generalize hB1 : B (j + 1) = B1 at *;generalize B j = B0 at *;obtain ⟨wp,wm,wc⟩ := w;dsimp only at *;have hnx : B1 = B (j + 1) := hB1.symm;cases fb with
            | false =>
              rw [jS,if_neg (by simp)] at hb1
              (repeat' (first|refine wS ?_|refine wB ?_|refine wK ?_|refine wU ?_|(refine wC rfl ?_ ?_<;>(intro hb;(try simp only [nm] at hb);try (exfalso;omega)))|(refine rg 10 (vV (aL rfl rfl) ?_))|(refine rg 11 (vV (ix T rfl (by omega) (lU _) hgj) (lW T rfl (bQ (bT T rfl) rfl (aU T rfl rfl rfl rfl rfl rfl (by decide) rfl ?_)))))|(refine rg 12 (mW rfl (lW T rfl (vV (by exact eQ rfl rfl hc1 rfl rfl rfl) ?_)));refine mV ?_;(iterate 3 refine gF ?_);(iterate 4 refine gU ?_);refine gF (pV ?_))|(refine rg 14 (vV (bV rfl rfl (by omega) (by omega)) (mV ?_)))|refine nZ ?_));all_goals try (exfalso;omega)
              exact ⟨⟨j + 1,hjl⟩,by dsimp only;omega,[],rfl,⟨rfl,rfl,rfl,rfl,rfl,rfl,rfl,rfl,by dsimp only;rw [hB1,hb1];rfl,rfl,rfl,rfl,trivial⟩,trivial,cQ,kV _⟩
            | true =>
              rw [iI] at hb1;by_cases hb0 : B0 < 0
              · rw [decide_eq_true hb0,Bool.true_or,if_pos rfl] at hb1
                (repeat' (first|refine wS ?_|refine wB ?_|refine wK ?_|refine wT ?_|(refine rg 10 (vV (sF rfl rfl (by omega)) ?_))|(refine rg 11 (vV (ix T rfl (by omega) (lU _) hgj) (lW T rfl (bQ (bT T rfl) rfl (aU T rfl rfl rfl rfl rfl rfl (by decide) rfl ?_)))))|(refine rg 12 (mW rfl (lW T rfl (vV (by exact eQ rfl rfl hc1 rfl rfl rfl) ?_)));refine mW rfl (yN rfl (yV (sF rfl rfl (by omega)) (yM ?_)));(iterate 4 refine gF ?_);refine gT (pW rfl (pV ?_)))|(refine rg 13 (gH T rfl (aV ?_)))|(refine rg 14 (vV (bV rfl rfl (by omega) (by omega)) (mV ?_)))|refine nZ ?_));all_goals try (exfalso;omega)
                exact ⟨⟨j + 1,hjl⟩,by dsimp only;omega,[],rfl,⟨rfl,rfl,rfl,rfl,rfl,rfl,rfl,rfl,by dsimp only;rw [hB1,hb1];rfl,rfl,rfl,rfl,trivial⟩,trivial,cQ,kV _⟩
              · rw [decide_eq_false hb0,yD1] at hb1;by_cases hwb : wm < B0
                · rw [if_pos (decide_eq_true hwb)] at hb1
                  (repeat' (first|refine wS ?_|refine wB ?_|refine wK ?_|refine wT ?_|(refine rg 10 (vV (sF rfl rfl (by omega)) ?_))|(refine rg 11 (vV (ix T rfl (by omega) (lU _) hgj) (lW T rfl (bQ (bT T rfl) rfl (aU T rfl rfl rfl rfl rfl rfl (by decide) rfl ?_)))))|(refine rg 12 (mW rfl (lW T rfl (vV (by exact eQ rfl rfl hc1 rfl rfl rfl) ?_)));refine mW rfl (yN rfl (yV (K2 rfl rfl (by omega)) (yN rfl (yP T rfl (yO T rfl (yN rfl (yV (sF rfl rfl (by omega)) (gT (pV ?_)))))))));refine pV ?_)|(refine rg 13 (gH T rfl (aV ?_)))|(refine rg 14 (vV (bV rfl rfl (by omega) (by omega)) (mV ?_)))|refine nZ ?_));all_goals try (exfalso;omega)
                  exact ⟨⟨j + 1,hjl⟩,by dsimp only;omega,[],rfl,⟨rfl,rfl,rfl,rfl,rfl,rfl,rfl,rfl,by dsimp only;rw [hB1,hb1];rfl,rfl,rfl,rfl,trivial⟩,trivial,cQ,kV _⟩
                · rw [if_neg (by simpa using hwb)] at hb1
                  (repeat' (first|refine wS ?_|refine wB ?_|refine wK ?_|refine wT ?_|refine wU ?_|(refine rg 10 (vV (sF rfl rfl (by omega)) ?_))|(refine rg 11 (vV (ix T rfl (by omega) (lU _) hgj) (lW T rfl (bQ (bT T rfl) rfl (aU T rfl rfl rfl rfl rfl rfl (by decide) rfl ?_)))))|(refine rg 12 (mW rfl (lW T rfl (vV (by exact eQ rfl rfl hc1 rfl rfl rfl) ?_)));refine mW rfl (yN rfl (yV (K2 rfl rfl (by omega)) (yN rfl (yP T rfl (yO T rfl (yN rfl (yV (K2 rfl rfl (by omega)) (gT (pV ?_)))))))));refine pV ?_)|(refine rg 14 (vV (bV rfl rfl (by omega) (by omega)) (mV ?_)))|refine nZ ?_));all_goals try (exfalso;omega)
                  exact ⟨⟨j + 1,hjl⟩,by dsimp only;omega,[],rfl,⟨rfl,rfl,rfl,rfl,rfl,rfl,rfl,rfl,by dsimp only;rw [hB1,hb1];rfl,rfl,rfl,rfl,trivial⟩,trivial,cQ,kV _⟩
          · obtain rfl : j = ws.length := by omega
            by_cases hbn : B ws.length < 0
            · have hR := hno hbn;subst hR
              (repeat' (first|refine wS ?_|refine wR ?_|refine wE ?_|(refine wC rfl ?_ ?_<;>(intro hb;(try simp only [nm] at hb);try (exfalso;omega)))|(refine rg 10 (vV (aL rfl rfl) ?_))|(refine rg 15 (mW rfl (vV (aL rfl rfl) ?_)))|(refine rg 16 (aV ?_))|refine nZ ?_));all_goals try (exfalso;omega)
              all_goals exact rQ
            · (repeat' (first|refine wS ?_|refine wK ?_|refine wE ?_|(refine wC rfl (fun hb => ?_) (fun hb => ?_) <;> (((try simp only [nm] at hb);try (exfalso;omega))))|(refine rg 10 (vV (aL rfl rfl) ?_))|(refine rg 15 (mW rfl (vV (aL rfl rfl) ?_)))|(refine rg 17 (dK rfl (vV (bV rfl rfl (by omega) (by omega)) (aV ?_))))|(refine rg 18 (vV (bV rfl rfl (by omega) (by omega)) (mV ?_)))|(refine nZ ?_)));all_goals try (exfalso;omega)
              exact ⟨⟨k + 1,hlt,hall2 (by omega),by rw [hS];omega,by rw [hS];omega⟩,by dsimp only;omega,[],rfl,⟨rfl,rfl,rfl,by dsimp only;rw [hS,hsk];rfl,rfl,rfl,rfl,trivial⟩,trivial,cQ,kV _⟩
        · obtain rfl : k = gs.length := by omega
          have hR := hyes fun j hj => hall j hj hj
          subst hR
          (repeat' (first|refine wS ?_|refine wR ?_|refine wE ?_|(refine wC rfl ?_ ?_<;>(intro hb;(try simp only [nm] at hb);try (exfalso;omega)))|(refine rg 5 (vV (aL rfl rfl) ?_))|(refine rg 19 (dK rfl (nV ?_));refine fW T rfl (gH T rfl (vV (iO rfl rfl) (aV ?_))))|refine nZ ?_));all_goals try (exfalso;omega)
          all_goals exact rQ
    · rw [decide_eq_false h2,jS,jS,jS];refine bO T Tryz.func22 rfl rfl rfl rfl ?_
      (repeat' (first|refine wS ?_|(refine rg 0 (bQ (cD rfl rfl) rfl (bQ (cD rfl rfl) rfl (aV ?_))))|refine nZ ?_));refine fC 4 rfl rfl rfl ?_
      refine fC 5 rfl rfl rfl ?_
      (repeat' (first|refine wS ?_|refine wR ?_|refine wT ?_|(refine bN (id := 1) 80 yJ8 (rM 14 20) yJ9 cJ rfl (by decide +kernel) (dO T rfl (dV rfl (gD T rfl rfl) (dN rfl (dV rfl (by exact eS rfl rfl) ?_))));refine dP T rfl (dO T rfl (dV rfl (gD T rfl rfl) (dV rfl (rA rfl rfl (by omega)) (dN rfl (tO T rfl (dT rfl (gD T rfl rfl) (tO T rfl (dT rfl (gD T rfl rfl) (dT rfl (xD rfl rfl (by omega)) ?_)))))))));refine dV rfl (iE rfl rfl) (dN rfl (tG rfl (tG rfl (tG rfl (dV rfl (iQ rfl rfl) (dE ?_)))))))|(refine rg 2 (aV ?_))|refine nZ ?_));all_goals try (exfalso;omega)
      all_goals exact rQ
  · rw [decide_eq_false h1,jS,jS,jS,jS];refine bO T Tryz.func22 rfl rfl rfl rfl ?_
    (repeat' (first|refine wS ?_|(refine rg 0 (bQ (cD rfl rfl) rfl (bQ (cD rfl rfl) rfl (aV ?_))))|refine nZ ?_));refine fC 4 rfl rfl rfl ?_
    refine fC 5 rfl rfl rfl ?_
    (repeat' (first|refine wS ?_|refine wR ?_|refine wT ?_|(refine bN (id := 1) 80 yJ8 (rM 14 20) yJ9 cJ rfl (by decide +kernel) (dO T rfl (dV rfl (gD T rfl rfl) (dN rfl (dV rfl (by exact eS rfl rfl) ?_))));refine dP T rfl (dO T rfl (dV rfl (gD T rfl rfl) (dV rfl (xD rfl rfl (by omega)) (dN rfl (tG rfl (tG rfl (tG rfl (tG rfl (dG ?_)))))))));refine dV rfl (iQ rfl rfl) (dN rfl (tG rfl (tG rfl (tG rfl (dV rfl (iQ rfl rfl) (dE ?_)))))))|(refine rg 2 (aV ?_))|refine nZ ?_));all_goals try (exfalso;omega)
    all_goals exact rQ
end Go.Proofs.YtmmkhmilpeodnaaGreat
namespace Go.Ab
open Go
theorem pN.freezeEl {n : Nat × Nat} {c : nT} {ρ : Pl} {S : Nat → Prop} {env : dW} {h : Hp} {a : Act} {w : World} {j f k len sz sz2 : Nat} {es es' es2 : List (List AV)} (s : pN n c ρ S env h a w) (hj : h[j]? = some (.arr es sz)) (hne : j ≠ k) (h0 : es ≠ []) (hf : es.flatten[f]? = some (.sl k 0 len sz2)) (hk : h[k]? = some (.arr es2 sz2)) (hn : len = es2.length) (hi : AV.idfL es2.flatten = true)
    (hl : ∀ e,e ∈ es' → e.length = sz) (he : es'.flatten = es.flatten.set f (.rowE es2 sz2)) :
    pN n c ρ (fun b => S b ∨ ∃ o,ρ k = some (b,o)) env ((h.set k .gone).set j (.arr es' sz)) a w := by
  have h1 := s.hs.freeze hk;have hj' : (h.set k .gone)[j]? = some (.arr es sz) := by rw [iT (Ne.symm hne)];exact hj
  refine ⟨s.size,s.defers.st (fun _ h => .inl h),fun t' x hx => KZ (fun _ h => .inl h) (s.env t' x hx),h1.alter hj' (fun _ => ?_) (by simp),s.cm⟩
  have hb := s.hs.blk j _ hj;simp only [RB] at hb ⊢;obtain ⟨b1,b2,b3⟩ := hb;refine ⟨hl,b2,?_⟩;rcases b3 with ⟨e,_⟩ | ⟨b,o,ys,e1,e2,e3⟩
  · exact absurd e h0
  · refine .inr ⟨b,o,ys,e1,e2,?_⟩;rw [he];refine GV (fun _ h => .inl h) (fun y hy => ?_) hf e3;rw [hn] at hy;exact xH hi (s.hs.blk k _ hk) hy
section
variable {P : Program} {n : Nat × Nat} {ops : Array Oper} {env : dW} {h : Hp} {K : dW → Hp → Prop} {rest : List Oper} {Q : Exit → dW → Hp → Prop} {code : Code}
theorem KO (j f : Nat) {k len sz sz2 : Nat} {es : List (List AV)} (es' : List (List AV)) {es2 : List (List AV)} (hj : h[j]? = some (.arr es sz)) (hne : j ≠ k) (h0 : es ≠ []) (hf : es.flatten[f]? = some (.sl k 0 len sz2)) (hk : h[k]? = some (.arr es2 sz2)) (hn : len = es2.length) (hi : AV.idfL es2.flatten = true)
    (hl : ∀ e,e ∈ es' → e.length = sz) (he : es'.flatten = es.flatten.set f (.rowE es2 sz2)) (hv : AW P n code env ((h.set k .gone).set j (.arr es' sz)) Q) : AW P n code env h Q :=
  fun c ρ S a w QQ s hQ => hv c ρ _ a w QQ (s.freezeEl hj hne h0 hf hk hn hi hl he) hQ
end
end Go.Ab
namespace Go.Ld
open Go.Ab Go.Proofs.YtmmkhmilpeodnaaGreat
theorem zA3 {es : List (List AV)} (h : ∀ e,e ∈ es → e.all AV.one = true) : es.flatten.all AV.one = true := by
  rw [bG];intro x hx;obtain ⟨e,he,hx⟩ := zN2.1 hx;exact bG.1 (h e he) x hx
theorem FJ {α : Type} {f : α → List AV} (hf : ∀ x,(f x).all AV.one = true) (l : List α) : (l.map f).flatten.all AV.one = true := zA3 fun e he => by
  obtain ⟨x,_,rfl⟩ := bE.1 he;exact hf x
theorem FP {α : Type} {f : α → List AV} (hf : ∀ x,AV.idfL (f x) = true) (l : List α) : ∀ e,e ∈ l.map f → AV.idfL e = true := fun e he => by
  obtain ⟨x,_,rfl⟩ := bE.1 he;exact hf x
def HZ (n : Int) : Bool := decide (n < 0 ∨ 1048576 < n)
def OC (c : Cx) : Bool := [c.m,c.st,c.er,c.sl].any HZ
theorem RK {c : Cx} : OC c = false ↔ lR c.m c.st c.er c.sl := by
  unfold OC lR HZ;simp;omega
end Go.Ld
namespace Go.Proofs.YtmmkhmilpeodnaaGreat
open Go Go.Ab Go.Ld
attribute [local irreducible] VC AW bX aR kY
set_option maxHeartbeats 4000000
theorem ZE (l : List KD) (hl : l.length ≤ 1000000) : aR Tryz.prog 37 [.rowE (gB l) 2] [] (.rowE (gB l) 2) [] := by
  have hll : (gB l).length = l.length := bB _;have hid := FP (f := fun b : KD => [AV.v (.string b.1),AV.i b.2]) (fun _ => rfl) l;have hon := FJ (f := fun b : KD => [AV.v (.string b.1),AV.i b.2]) (fun _ => rfl) l;refine mH (len := l.length) hll.symm (iJ hid) ?_;refine bO T Tryz.func37 rfl rfl rfl rfl ?_
  repeat' (first|refine wS ?_|refine wK ?_|refine wT ?_|refine wU ?_|(refine rg 0 (aV ?_))|(refine rg 1 (mV ?_);refine rC T rfl rfl rfl rfl fun b hb=>?_;cases b)|refine nZ ?_)
  · (repeat' (first|refine wR ?_|(refine rg 3 (bQ (by exact bC T rfl rfl (by decide) (by decide) rfl rfl rfl) rfl ?_);refine mW rfl (fR T rfl rfl rfl rfl rfl rfl (by decide) (.row (vU l)) hon (by simp;omega) (by simp;omega) rfl ?_);refine aV ?_)|(refine nZ ?_)));exact ⟨.inl rfl,[1],_,rfl,(by show AV.sl 1 0 (0 + (gB l).length) 2 = AV.sl 1 0 l.length 2;simp),rfl,⟨.inr (aD rfl rfl hid),trivial⟩,by decide,wX⟩
  · have hl0 : l = [] := eT.1 (Classical.byContradiction fun h => by have := hb (by omega);cases this)
    subst hl0
    (repeat' (first|refine wR ?_|(refine rg 2 (vV (eI rfl) (rP 2 2 rfl (by decide) ?_)))|refine nZ ?_));exact ⟨.inl rfl,[0],_,rfl,rfl,rfl,⟨.inr (aD rfl rfl hid),trivial⟩,by decide,wX⟩
theorem ZD (l : List LT) (hl : l.length ≤ 1000000) : aR Tryz.prog 38 [.rowE (jU l) 3] [] (.rowE (jU l) 3) [] := by
  have hll : (jU l).length = l.length := bB _;have hid := FP (f := fun b : LT => [AV.i b.1,AV.i b.2.1,AV.b b.2.2]) (fun _ => rfl) l;have hon := FJ (f := fun b : LT => [AV.i b.1,AV.i b.2.1,AV.b b.2.2]) (fun _ => rfl) l;refine mH (len := l.length) hll.symm (iJ hid) ?_;refine bO T Tryz.func38 rfl rfl rfl rfl ?_
  repeat' (first|refine wS ?_|refine wK ?_|refine wT ?_|refine wU ?_|(refine rg 0 (aV ?_))|(refine rg 1 (mV ?_);refine rC T rfl rfl rfl rfl fun b hb=>?_;cases b)|refine nZ ?_)
  · (repeat' (first|refine wR ?_|(refine rg 3 (bQ (by exact bC T rfl rfl (by decide) (by decide) rfl rfl rfl) rfl ?_);refine mW rfl (fR T rfl rfl rfl rfl rfl rfl (by decide) (.row (zH l)) hon (by simp;omega) (by simp;omega) rfl ?_);refine aV ?_)|(refine nZ ?_)));exact ⟨.inl rfl,[1],_,rfl,(by show AV.sl 1 0 (0 + (jU l).length) 3 = AV.sl 1 0 l.length 3;simp),rfl,⟨.inr (aD rfl rfl hid),trivial⟩,by decide,wX⟩
  · have hl0 : l = [] := eT.1 (Classical.byContradiction fun h => by have := hb (by omega);cases this)
    subst hl0
    (repeat' (first|refine wR ?_|(refine rg 2 (vV (eI rfl) (rP 2 3 rfl (by decide) ?_)))|refine nZ ?_));exact ⟨.inl rfl,[0],_,rfl,rfl,rfl,⟨.inr (aD rfl rfl hid),trivial⟩,by decide,wX⟩
theorem ZF (l : List BX) (hl : l.length ≤ 1000000) : aR Tryz.prog 39 [.rowE (cW l) 3] [] (.rowE (cW l) 3) [] := by
  have hll : (cW l).length = l.length := bB _;have hid := FP (f := fun b : BX => [AV.i b.1,AV.i b.2.1,AV.i b.2.2]) (fun _ => rfl) l;have hon := FJ (f := fun b : BX => [AV.i b.1,AV.i b.2.1,AV.i b.2.2]) (fun _ => rfl) l;refine mH (len := l.length) hll.symm (iJ hid) ?_;refine bO T Tryz.func39 rfl rfl rfl rfl ?_
  repeat' (first|refine wS ?_|refine wK ?_|refine wT ?_|refine wU ?_|(refine rg 0 (aV ?_))|(refine rg 1 (mV ?_);refine rC T rfl rfl rfl rfl fun b hb=>?_;cases b)|refine nZ ?_)
  · (repeat' (first|refine wR ?_|(refine rg 3 (bQ (by exact bC T rfl rfl (by decide) (by decide) rfl rfl rfl) rfl ?_);refine mW rfl (fR T rfl rfl rfl rfl rfl rfl (by decide) (.row (gV l)) hon (by simp;omega) (by simp;omega) rfl ?_);refine aV ?_)|(refine nZ ?_)));exact ⟨.inl rfl,[1],_,rfl,(by show AV.sl 1 0 (0 + (cW l).length) 3 = AV.sl 1 0 l.length 3;simp),rfl,⟨.inr (aD rfl rfl hid),trivial⟩,by decide,wX⟩
  · have hl0 : l = [] := eT.1 (Classical.byContradiction fun h => by have := hb (by omega);cases this)
    subst hl0
    (repeat' (first|refine wR ?_|(refine rg 2 (vV (eI rfl) (rP 2 3 rfl (by decide) ?_)))|refine nZ ?_));exact ⟨.inl rfl,[0],_,rfl,rfl,rfl,⟨.inr (aD rfl rfl hid),trivial⟩,by decide,wX⟩
theorem zF3 (n : Int) : aR Tryz.prog 77 [.i n] [] (.b (HZ n)) [] := by
  unfold HZ;by_cases h : n < 0
  · rw [decide_eq_true (.inl h)];refine bO T Tryz.func77 rfl rfl rfl rfl ?_
    (repeat' (first|refine wS ?_|refine wR ?_|(refine rg 0 (aV ?_))|(refine rg 1 (mW rfl (vV (sF rfl rfl (by omega)) (mV ?_)));(iterate 2 refine gF ?_);refine pW rfl (aV ?_))|refine nZ ?_));all_goals first | (exfalso;omega) | exact rQ
  · refine bO T Tryz.func77 rfl rfl rfl rfl ?_
    (repeat' (first|refine wS ?_|refine wR ?_|(refine rg 0 (aV ?_))|(refine rg 1 (mW rfl (vV (K2 rfl rfl (by omega)) (mW rfl (yN rfl (yV (fM rfl rfl) (pW rfl (aV ?_))))))))|refine nZ ?_));all_goals first | (exfalso;omega) | (refine cX (.inl rfl) rfl (nC ?_);simp;omega)
theorem BZ (c : Cx) : aR Tryz.prog 35 [.agg [.i c.m,.i c.st,.i c.er,.i c.sl]] [] (.b (!OC c)) [] := by
  have hh := YG (l := [c.m,c.st,c.er,c.sl]) (F := 77) (caps := []) (p := HZ) (by simp) rfl (fun x hx => zF3 x)
  change aR _ _ _ _ (.b (OC c)) _ at hh;generalize OC c = v at *;refine bO T Tryz.func35 rfl rfl rfl rfl ?_
  (repeat' (first|refine wS ?_|refine wR ?_|(refine rg 0 (bQ (cD rfl rfl) rfl (aV ?_)))|(refine rg 1 (gH T rfl (gH T rfl (gH T rfl (gH T rfl (bQ (by exact bC T rfl rfl (by decide) (by decide) rfl rfl rfl) rfl ?_)))));refine kR 11 rfl rfl rfl rfl ?_;refine vV (kC (hh)) (vV (dX rfl) (aV ?_)))|refine nZ ?_));all_goals first | (exfalso;omega) | exact rQ
end Go.Proofs.YtmmkhmilpeodnaaGreat
namespace Go.Ld
open Go.Ab Go.Proofs.YtmmkhmilpeodnaaGreat
abbrev zH9 (c : Cx) (x : AV) : List AV := [.i c.m,.i c.st,.i c.er,.i c.sl,.rowE (gB c.ks) 2,.rowE (jU c.ls) 3,.rowE (cW c.bs) 3,x]
theorem zT6 {h : Hp} {i sz : Nat} {θ : Nat → Nat} {A A' : List (List AV)} {E E' : List AV} (hk : h[i]? = some (.arr (A' ++ [E']) sz)) (hA : A' = A) (hE : E' = AV.mapL θ E) (hi : ∀ e,e ∈ A → AV.idfL e = true) : h[i]? = some ((AB.arr (A ++ [E]) sz).map θ) := by
  subst hA hE;rw [hk];simp only [AB.map,dB,bY θ hi];rfl
theorem zJ8 {A : List (List AV)} {x y : AV} : (A ++ [[x,y]]).flatten[A.flatten.length]? = some x := by simp
theorem zJ7 {A : List (List AV)} {x y : AV} : (A ++ [[x,y]]).flatten[A.flatten.length + 1]? = some y := by
  rw [fZ,aE (by omega)];simp
theorem zJ6 {A : List (List AV)} {x y z : AV} : (A ++ [[z,y]]).flatten = (A ++ [[x,y]]).flatten.set A.flatten.length z := by
  rw [fZ,fZ,kX _ _ (by omega)];simp
theorem zJ5 {A : List (List AV)} {x y z : AV} : (A ++ [[x,z]]).flatten = (A ++ [[x,y]]).flatten.set (A.flatten.length + 1) z := by
  rw [fZ,fZ,kX _ _ (by omega)];simp
theorem XK (c : Cx) : (qT c).length = c.bs.length := by rw [wY];simp
theorem SI {c : Cx} {k : Nat} (h : k < c.bs.length) : (qT c).take (k + 1) = (qT c).take k ++ [U1 c k] := by
  rw [wY,← lH,← lH,aT (by simpa using h),dB]
  simp
end Go.Ld
namespace Go.Proofs.YtmmkhmilpeodnaaGreat
open Go Go.Ab Go.Ld
attribute [local irreducible] VC AW bX aR kY
set_option maxHeartbeats 4000000
theorem zX7 (c : Cx) (hc : qI c) (hid : aR Tryz.prog 24 [.i (cW c.bs).length] [] (.rowE (ints (nats (List.range c.bs.length))) 1) []) (htr : aR Tryz.prog 36 [.rowE (gB c.ks) 2,.rowE (jU c.ls) 3,.rowE (ints (nats (List.range c.bs.length))) 1,.rowE (cW c.bs) 3] [] (.b true) []) :
    aR Tryz.prog 9 [.agg [.i c.m,.i c.st,.i c.er,.i c.sl],.rowE (gB c.ks) 2,.rowE (jU c.ls) 3,.rowE (cW c.bs) 3] [] (.tup [.ptr 0 0,.i 0]) [.cells (gN c (qT c))] := by
  have hn1 := hc.f.n1;have hn8 := hc.f.n8;have hk10 := hc.f.k10;have hl10 := hc.f.l10;have hnl : (nats (List.range c.bs.length)).length = c.bs.length := by simp
  have hsn := BZ c;rw [RK.2 hc.s] at hsn;have h1 := ZE c.ks (by omega)
  have h2 := ZD c.ls (by omega)
  have h3 := ZF c.bs (by omega)
  have hbl : (cW c.bs).length = c.bs.length := bB _;have hNl := XK c;refine bO T Tryz.func9 rfl rfl rfl rfl ?_
  (repeat' (first|refine wS ?_|(refine rg 0 (bQ (cD rfl rfl) rfl (qJ ?_)))|refine nZ ?_));refine fC 4 rfl rfl rfl ?_
  (repeat' (first|refine wS ?_|refine wK ?_|refine wU ?_|(refine rg 1 (lW T rfl (vV (kC (hsn)) (vV (dX rfl) (mW rfl (yN rfl (yN rfl (yN rfl (gT (qV T ?_)))))))));refine yV (kC (hid)) (yN rfl (yV (kC (htr)) (yV (dX rfl) (pV ?_)))))|(refine bN (id := 3) 69 [[],[],[1],[],[1,2,3],[],rM 1 5,rN 7,rN 8] (rM 27 9) [[],[27],[27],[27,28,29],[27],rM 27 5,[27],[],[]] cJ rfl (by decide +kernel) (dO T rfl (dN rfl (dV rfl (kC (h1)) (dN rfl (dV rfl (kC (h2)) (dN rfl (dV rfl (kC (h3)) (dV rfl (by exact eU T rfl rfl rfl rfl) ?_))))))));refine zT rfl rfl rfl (by exact cD rfl rfl) rfl ?_;refine dE ?_;refine aV ?_)|refine nZ ?_));all_goals try (exfalso;omega)
  refine fE [(3,.rowE (cW c.bs) 3),(10,.ptr 0 0)] [.cells (zH9 c .nils)] ⟨[1],rfl,(by repeat first|exact trivial|refine ⟨rfl,?_⟩),⟨.inr rfl,trivial⟩,by decide,kV _⟩ ?_
  refine uK 0 7 2 rfl rfl (by decide) ?_
  (repeat' (first|refine wB ?_|(refine rg 4 (mW rfl (qW T rfl (mV ?_))))|refine nZ ?_));all_goals try (exfalso;omega)
  refine cN (X := {k : Nat // k ≤ c.bs.length}) (fun k => [(10,.ptr 0 0),(36,.rowE (cW c.bs) 3),(37,.i (cW c.bs).length),(38,.i k.1)]) (fun k => [.cells (zH9 c (.sl 1 0 k.1 2)),.arr (jW ((qT c).take k.1)) 2]) (fun k => c.bs.length - k.1) ⟨0,bU _⟩ ⟨[0,1],rfl,(by repeat first|exact trivial|refine ⟨rfl,?_⟩),⟨.inr rfl,.inr rfl,trivial⟩,by decide,kV _⟩ ?_
  rintro ⟨k,hk⟩;dsimp only;by_cases hlt : k < c.bs.length
  · have hb := hc.f.b k hlt;have hbx : c.bs[k]? = some (c.bs.getD k (0,0,0)) := by rw [aC,aA hlt];rfl
    have hge : c.bs[k] = c.bs.getD k (0,0,0) := by rw [aC,aA hlt];rfl
    rw [hge] at hb;have qb : (cW c.bs)[((k : Int)).toNat]? = some [.i (c.bs.getD k (0,0,0)).1,.i (c.bs.getD k (0,0,0)).2.1,.i (c.bs.getD k (0,0,0)).2.2] := by rw [bJ,bS,hbx];rfl
    have hsu := SI hlt;have hA : jW ((qT c).take (k + 1)) = jW ((qT c).take k) ++ [gA (U1 c k)] := by rw [hsu,jW,dB];rfl
    have hAl : (jW ((qT c).take k)).length = k := by rw [jV,bD];omega
    have hAi := eG ((qT c).take k);have hA3 := pT ((qT c).take k);have hAi2 := eG ((qT c).take (k + 1));unfold U1 at hA;generalize c.bs.getD k (0,0,0) = bx at *;obtain ⟨lot,cnt,ta⟩ := bx;dsimp only at *;generalize hG : jW ((qT c).take k) = A at *
    (repeat' (first|refine wS ?_|refine wB ?_|refine wK ?_|(refine wC rfl ?_ ?_<;>(intro hb;(try simp only [nm] at hb);try (exfalso;omega)))|(refine rg 5 (vV (aL rfl rfl) ?_))|(refine rg 6 (mW rfl (vV (ix T rfl (by omega) (gV _) qb) (lW T rfl (bQ (bT T rfl) rfl (aW rfl (aU T rfl rfl rfl rfl rfl rfl (by decide) rfl ?_)))))))|refine nZ ?_));all_goals try (exfalso;omega)
    refine fC 12 (cs := [.i lot,.i cnt,.i ta]) rfl rfl rfl ?_
    (repeat' (first|(refine rg 7 (mW rfl (bQ (by exact bC T rfl rfl (by decide) (by decide) rfl rfl rfl) rfl ?_));refine kR 44 rfl rfl rfl rfl ?_;refine gH T rfl (gH T rfl (vV (bV rfl rfl (by omega) (by omega)) (vV (by exact eU T rfl rfl rfl rfl) ?_)));refine bQ (by exact bC T rfl rfl (by decide) (by decide) rfl rfl rfl) rfl ?_;refine kR 51 rfl rfl rfl rfl ?_;refine vV (by exact eU T rfl rfl rfl rfl) ?_;refine bQ (bT T rfl) rfl (aU T rfl rfl rfl rfl rfl rfl (by decide) rfl ?_))|refine nZ ?_));all_goals try (exfalso;omega)
    refine fC 13 (cs := wA ([(k : Int)],0,[(cnt,cnt + 1)])) rfl rfl rfl ?_;refine fE [(10,.ptr 0 0),(36,.rowE (cW c.bs) 3),(37,.i (cW c.bs).length),(38,.i k),(11,.i k),(13,.pr (wA ([(k : Int)],0,[(cnt,cnt + 1)])) 0)] [.cells (zH9 c (.sl 1 0 k 2)),.arr A 2] ⟨[0,1],rfl,(by repeat first|exact trivial|refine ⟨rfl,?_⟩),⟨.inr rfl,.inr (aD rfl rfl hAi),trivial⟩,by decide,kV _⟩ ?_
    (repeat' (first|(refine wG (id := 8) 69 [[],[],[1],[1,2],[1,2,3],[],[5],[],[7],rM 5 4,rM 5 5,rM 1 10,rN 12,rN 13,rN 14] (rM 53 14) [[],[53],[53],[53],[53],rM 53 5,rM 53 5,rM 53 7,rM 53 7,rM 53 5,rM 53 5,[53],[],[],[]] [(11,1),(14,0)] cJ rfl (by decide +kernel) (fP rfl rfl rfl rfl (by exact cC rfl) ?_);refine fP rfl rfl rfl rfl (by exact cC rfl) ?_;refine fP rfl rfl rfl rfl (by exact eS rfl rfl) ?_;refine fP rfl rfl rfl rfl (by exact cE T rfl rfl rfl) ?_;refine fP rfl rfl rfl rfl (by exact aP T rfl rfl rfl rfl) ?_;refine fP rfl rfl rfl rfl (by exact cC rfl) ?_;refine R9 rfl rfl rfl rfl (by exact bC T rfl rfl (by decide) (by decide) rfl rfl rfl) rfl ?_;refine fP rfl rfl rfl rfl (by exact aP T rfl rfl rfl rfl) ?_;refine R9 rfl rfl rfl rfl (by exact bC T rfl rfl (by decide) (by decide) rfl rfl rfl) rfl ?_;refine fP rfl rfl rfl rfl (by exact eU T rfl rfl rfl rfl) ?_;refine R9 rfl rfl rfl rfl (by exact bC T rfl rfl (by decide) (by decide) rfl rfl rfl) rfl ?_;refine zS rfl rfl rfl rfl (aN rfl) (by exact sQ T rfl rfl rfl rfl rfl rfl (by omega) (kJ.whole rfl rfl) rfl (by simp;omega) (by simp;omega)) ?_;refine fP rfl rfl rfl rfl (by exact eS rfl rfl) ?_;refine fP rfl rfl rfl rfl (by exact cE T rfl rfl rfl) ?_;refine GF rfl rfl rfl rfl (aN rfl) T rfl rfl rfl rfl rfl rfl (by decide) rfl ?_;refine K9 rfl rfl rfl (by exact rfl) ?_)|refine nZ ?_));all_goals try (exfalso;omega)
    show AW _ _ _ _ _ _;refine fE [(10, .ptr 0 0), (36, .rowE (cW c.bs) 3), (37, .i (cW c.bs).length), (38, .i k)] [.cells (zH9 c (.sl 3 0 (k + 1) 2)), .arr (ints [(k : Int)]) 1, .arr (fQ [([(k : Int)], 0, [(cnt, cnt + 1)])]) 3, .arr (A ++ [[.sl 1 0 1 1, .sl 2 0 1 3]]) 2]
      ⟨[0,2,3,5],rfl,(by repeat first|exact trivial|refine ⟨rfl,?_⟩),⟨.inr rfl,.inr rfl,.inr rfl,.inr (zT6 rfl (by rw [lT];exact cF (by omega)) rfl hAi),trivial⟩,by decide,kV _⟩ ?_
    have hE : ∀ (x y : AV) (e : List AV),e ∈ A ++ [[x,y]] → e.length = 2 := fun x y e he => by
      rcases bI.1 he with he | he
      · exact hA3 e he
      · rw [bK.1 he];rfl
    refine KO 3 A.flatten.length (A ++ [[.rowE (ints [(k : Int)]) 1,.sl 2 0 1 3]]) rfl (by decide) (by simp) zJ8 rfl rfl rfl (hE _ _) zJ6 ?_
    refine KO 3 (A.flatten.length + 1) (A ++ [[.rowE (ints [(k : Int)]) 1,.rowE (fQ [([(k : Int)],0,[(cnt,cnt + 1)])]) 3]]) rfl (by decide) (by simp) zJ7 rfl rfl rfl (hE _ _) zJ5 ?_
    (repeat' (first|(refine rg 9 (vV (bV rfl rfl (by omega) (by omega)) (mV ?_)))|refine nZ ?_));all_goals try (exfalso;omega)
    exact ⟨⟨k + 1,hlt⟩,by dsimp only;omega,⟨[0,3],rfl,(by repeat first|exact trivial|refine ⟨rfl,?_⟩),⟨.inr rfl,.inr (aD rfl (by dsimp only;rw [hA]) hAi2),trivial⟩,by decide,kV _⟩⟩
  · obtain rfl : k = c.bs.length := by omega
    rw [← hNl,dS,hNl];refine nL 0 7 (es := jW (qT c)) rfl rfl rfl (by rw [jV,hNl]) (iJ (eG _)) ?_
    (repeat' (first|refine wS ?_|refine wR ?_|refine wE ?_|(refine wC rfl ?_ ?_<;>(intro hb;(try simp only [nm] at hb);try (exfalso;omega)))|(refine rg 5 (vV (aL rfl rfl) ?_))|(refine rg 10 (mW rfl (qJ ?_)))|refine nZ ?_));all_goals try (exfalso;omega)
    all_goals exact ⟨.inl rfl,[0],_,rfl,rfl,rfl,⟨.inr rfl,trivial⟩,by decide,kV _⟩
end Go.Proofs.YtmmkhmilpeodnaaGreat
