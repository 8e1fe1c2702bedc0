/-
  Texts of the logic and of the layer,in one module (part 4).
-/
import Derived.Test.YtdmajnjoeidgeaaGreatI3
import Derived.Shelf.Small.Strs
import Derived.Shelf.Small.Wraps
set_option linter.unusedVariables false
set_option linter.unusedSimpArgs false
namespace Go.Proofs.YtdmajnjoeidgeaaGreat
open Go Go.Ab Go.Fl
attribute [local irreducible] VC AW bR bQ
set_option maxHeartbeats 4000000
theorem PR {l : List Int} {j : Int} (h0 : 0 ≤ j) (h : j < l.length) : (aI l)[j.toNat]? = some [AV.i (l[j.toNat]'(by omega))] := iF (by omega)
theorem qM {l : List Int} {j : Int} (h0 : 0 ≤ j) (h : j < l.length) : (aI l)[j.toNat]? = some [AV.i (l.getD j.toNat 0)] := by
  rw [PR h0 h];simp [aH,aB (show j.toNat < l.length by omega)]
abbrev lU (f : jD) : AV := .agg [.i f.w,.i f.h,.i f.d,.rowE (aI f.k) 1,.rowE (aI f.o) 1]
abbrev PA (x : Option Int) : AV := .tup [.i (x.getD 0),.b x.isSome]
theorem RT (f : jD) (h1 : 0 ≤ f.w * f.h ∧ f.w * f.h ≤ 1152921504606846976) (h2 : 0 ≤ f.w * f.h * f.d ∧ f.w * f.h * f.d ≤ 1152921504606846976) : bQ Tryz.prog 96 [lU f] [] (.i f.size) [] := by
  refine dD T Tryz.func96 rfl rfl rfl rfl ?_
  (repeat' (first|refine wS ?_|refine wR ?_|(refine rg 0 (bH (bN rfl rfl) rfl (aV ?_)))|(refine rg 1 (eK T rfl (eK T rfl (vV (rK rfl rfl (by omega) (by omega)) (eK T rfl (vV (rK rfl rfl (by omega) (by omega)) (aV ?_)))))))|refine nZ ?_));exact rQ
section
variable {f : jD}
theorem zD9 (g : iL f) : bQ Tryz.prog 96 [lU f] [] (.i f.size) [] := by
  have := g.bounds;exact RT f (by omega) (by omega)
theorem zM6 (g : iL f) (c : Int) : bQ Tryz.prog 128 [lU f,.i c] [] (.b (decide (0 ≤ c) && decide (c < f.size))) [] := by
  have hs := zD9 g;refine dD T Tryz.func128 rfl rfl rfl rfl ?_
  (repeat' (first|refine wS ?_|refine wR ?_|(refine rg 0 (bH (bN rfl rfl) rfl (aV ?_)))|(refine rg 1 (mW rfl (vV (gS rfl rfl) (mV ?_)));refine aO rfl rfl ?_ ?_<;>(intro hb;rw [hb];(try simp only [nm] at hb);try (exfalso;omega));(all_goals first|(refine gT (mW rfl (gT (lW T rfl (gT (vV (kC (hs)) (gT (vV (bX rfl rfl) ?_))))))))|(iterate 4 refine gF ?_));(all_goals (refine pW rfl (aV ?_))))|refine nZ ?_));all_goals
    refine gV (.inl rfl) rfl (xF ?_);simp [*]
theorem AO (g : iL f) (x y z : Int) : bQ Tryz.prog 103 [lU f,.i x,.i y,.i z] [] (.i (rP f x y z)) [] := by
  have hb := g.bounds;have hw := g.w1;have hh := g.h1;have hd1 := g.d1;by_cases hr : x < 0 ∨ y < 0 ∨ z < 0 ∨ f.w ≤ x ∨ f.h ≤ y ∨ f.d ≤ z
  · have e : rP f x y z = -1 := by unfold rP;rw [if_pos hr]
    rw [e];refine dD T Tryz.func103 rfl rfl rfl rfl ?_
    (repeat' (first|refine wS ?_|refine wR ?_|refine wT ?_|(refine wC rfl ?_ ?_<;>(intro hb;(try simp only [nm] at hb);try (exfalso;omega)))|(refine rg 0 (bH (bN rfl rfl) rfl (aV ?_)))|(refine rg 1 (eX rfl (mW rfl (vV (J8 rfl rfl rfl) (vV (bX rfl rfl) (mV ?_)))));refine aO rfl rfl ?_ ?_<;>(intro hb;rw [hb];(try simp only [nm] at hb);try (exfalso;omega));(all_goals first|(refine gT (mW rfl (gT (fW T rfl (gT (lW T rfl (gT (vV (gS rfl rfl) ?_))))))))|(iterate 4 refine gF ?_));(all_goals (refine pW rfl (mV ?_)));(all_goals first|(refine gK ?_)|(refine aO rfl rfl ?_ ?_<;>(intro hb;rw [hb];(try simp only [nm] at hb);try (exfalso;omega))));(all_goals first|(refine gT (mW rfl (gT (fW T rfl (gT (lW T rfl (gT (vV (gS rfl rfl) ?_))))))))|(iterate 4 refine gF ?_));(all_goals (refine pW rfl (mV ?_)));(all_goals first|(refine gK ?_)|(refine aO rfl rfl ?_ ?_<;>(intro hb;rw [hb];(try simp only [nm] at hb);try (exfalso;omega))));(all_goals first|(refine gT (mW rfl (gT (fW T rfl (gT (lW T rfl (gT (vV (gS rfl rfl) ?_))))))))|(iterate 4 refine gF ?_));(all_goals (refine pV ?_)))|(refine rg 2 (aV ?_))|refine nZ ?_));all_goals first | (exfalso;omega) | exact rQ
  · have e : rP f x y z = (z * f.h + y) * f.w + x := by unfold rP;rw [if_neg hr]
    rw [e];obtain ⟨c1,_⟩ := P7 g (x := x) (y := y) (z := z) (by omega) (by omega) (by omega)
    have n1 : 0 ≤ z * f.h := xI (by omega) (by omega)
    have n3 : z * f.h + y ≤ (z * f.h + y) * f.w := rY (by omega) (by omega)
    have hsz : f.size = f.w * f.h * f.d := rfl;refine dD T Tryz.func103 rfl rfl rfl rfl ?_
    (repeat' (first|refine wS ?_|refine wK ?_|refine wR ?_|(refine wC rfl ?_ ?_<;>(intro hb;(try simp only [nm] at hb);try (exfalso;omega)))|(refine rg 0 (bH (bN rfl rfl) rfl (aV ?_)))|(refine rg 1 (eX rfl (mW rfl (vV (J8 rfl rfl rfl) (vV (bX rfl rfl) (mV ?_)))));refine aO rfl rfl ?_ ?_<;>(intro hb;rw [hb];(try simp only [nm] at hb);try (exfalso;omega));(all_goals (refine yN rfl (yP T rfl (yO T rfl (yV (gS rfl rfl) (pW rfl (mV ?_)))));refine aO rfl rfl ?_ ?_<;>(intro hb;rw [hb];(try simp only [nm] at hb);try (exfalso;omega))));(all_goals (refine yN rfl (yP T rfl (yO T rfl (yV (gS rfl rfl) (pW rfl (mV ?_)))));refine aO rfl rfl ?_ ?_<;>(intro hb;rw [hb];(try simp only [nm] at hb);try (exfalso;omega))));(all_goals (refine yN rfl (yP T rfl (yO T rfl (yV (gS rfl rfl) (pV ?_)))))))|(refine rg 3 (mW rfl (eK T rfl (vV (rK rfl rfl (by omega) (by omega)) (mW rfl (vV (bP rfl rfl (by omega) (by omega)) (eK T rfl (vV (rK rfl rfl (by omega) (by omega)) (mW rfl (vV (bP rfl rfl (by omega) (by omega)) ?_)))))))));refine aV ?_)|refine nZ ?_));all_goals first | (exfalso;omega) | exact rQ
def M6 (f : jD) (c : Int) : Int × Int × Int := if 0 ≤ c ∧ c < f.size then (c % f.w,c / f.w % f.h,c / (f.w * f.h)) else (0,0,0)
theorem zB8 (g : iL f) (c : Int) : bQ Tryz.prog 102 [lU f,.i c] [] (.tup [.i (M6 f c).1,.i (M6 f c).2.1,.i (M6 f c).2.2]) [] := by
  have hb := g.bounds;have hw := g.w1;have hh := g.h1;have hd1 := g.d1;have hi := zM6 g c;have hsz : f.size = f.w * f.h * f.d := rfl;by_cases hr : 0 ≤ c ∧ c < f.size
  · rw [show (decide (0 ≤ c) && decide (c < f.size)) = true by simp [hr]] at hi
    have e : M6 f c = (c % f.w,c / f.w % f.h,c / (f.w * f.h)) := by unfold M6;rw [if_pos hr]
    rw [e];have hq : 0 ≤ c / f.w := vH hr.1 (by omega)
    refine dD T Tryz.func102 rfl rfl rfl rfl ?_
    (repeat' (first|refine wS ?_|refine wK ?_|refine wR ?_|refine wU ?_|(refine rg 0 (bH (bN rfl rfl) rfl (D2 rfl (aV ?_))))|(refine rg 1 (lW T rfl (mW rfl (vV (kC (hi)) (vV (bB rfl) ?_)))))|(refine aN (id := 3) 29 [[],[],[1],[0,1,2],[],[],[5],[4,5,6],[],[8],rM 4 6,[],[],[12],[],[14],rM 12 4,rM 11 6,rN 4,[0,1,2,3,4,5,6,7,8,9,10,18]] [11,12,13,14,15,16,17,18,19,20,21,22,23,24,25,26,27,28,4,5] [[],[11],[11],[],rM 11 4,rM 11 5,rM 11 5,rM 11 4,rM 11 8,rM 11 8,rM 11 4,rM 11 11,rM 11 12,rM 11 12,rM 11 14,rM 11 14,rM 11 12,rM 11 11,rM 15 14,rM 22 7] bM rfl (by decide +kernel) (dN rfl (dP T rfl (dO T rfl (dV rfl (V1 rfl rfl (by omega) (by omega)) (dN rfl (dP T rfl (dO T rfl (dV rfl (J7 rfl rfl (by omega) (by omega) (by omega)) (dF T ?_)))))))));refine dO T rfl (dV rfl (V1 rfl rfl (by omega) (by omega)) (dN rfl (dP T rfl (dO T rfl (dP T rfl (dO T rfl (dV rfl (rK rfl rfl (by omega) (by omega)) (dV rfl (J7 rfl rfl (by omega) (by omega) (by omega)) (dV rfl (eM rfl) ?_)))))))));refine dV rfl (eM rfl) (dE ?_);refine aV ?_)|refine nZ ?_));all_goals first | (exfalso;omega) | exact rQ
  · rw [show (decide (0 ≤ c) && decide (c < f.size)) = false by rw [← fE];simp;omega] at hi
    have e : M6 f c = (0,0,0) := by unfold M6;rw [if_neg hr]
    rw [e];refine dD T Tryz.func102 rfl rfl rfl rfl ?_
    (repeat' (first|refine wS ?_|refine wR ?_|refine wT ?_|(refine rg 0 (bH (bN rfl rfl) rfl (D2 rfl (aV ?_))))|(refine rg 1 (lW T rfl (mW rfl (vV (kC (hi)) (vV (bB rfl) ?_)))))|(refine rg 2 (D2 rfl (aV ?_)))|refine nZ ?_));all_goals exact rQ
theorem WU : bQ Tryz.prog 140 [] [] (.agg [.i 1,.i 0,.i 0,.i 0,.i 1,.i 0,.i (-1),.i 0,.i 0,.i 0,.i (-1),.i 0,.i 0,.i 0,.i 1,.i 0,.i 0,.i (-1)]) [] := by
  refine dD T Tryz.func140 rfl rfl rfl rfl ?_
  (repeat' (first|refine wS ?_|refine wR ?_|(refine rg 0 (bH (cX T rfl) rfl ?_))|(refine rg 1 (vV (by exact gG T rfl rfl rfl rfl) ?_);refine vV (by exact gG T rfl rfl rfl rfl) ?_;refine vV (by exact gG T rfl rfl rfl rfl) ?_;refine vV (by exact gG T rfl rfl rfl rfl) ?_;refine vV (by exact gG T rfl rfl rfl rfl) ?_;refine vV (by exact gG T rfl rfl rfl rfl) ?_;refine vV (by exact oQ T rfl rfl rfl rfl rfl) ?_;refine bJ T rfl rfl rfl rfl rfl rfl (by decide) rfl ?_)|refine nZ ?_));exact rQ
theorem IR (g : iL f) (c d : Int) : bQ Tryz.prog 114 [lU f,.i c,.i d] [] (.i (dS f c d)) [] := by
  have hb := g.bounds;have hw := g.w1;have hh := g.h1;have hd1 := g.d1;have hi := zM6 g c;have hsz : f.size = f.w * f.h * f.d := rfl;by_cases hr : c < 0 ∨ f.size ≤ c ∨ d < 0 ∨ 6 ≤ d
  · have e : dS f c d = -1 := by unfold dS;rw [if_pos hr]
    rw [e];refine dD T Tryz.func114 rfl rfl rfl rfl ?_;by_cases hc : 0 ≤ c ∧ c < f.size
    · rw [show (decide (0 ≤ c) && decide (c < f.size)) = true by simp [hc]] at hi
      (repeat' (first|refine wS ?_|refine wR ?_|refine wT ?_|(refine wC rfl ?_ ?_<;>(intro hb;(try simp only [nm] at hb);try (exfalso;omega)))|(refine rg 0 (bH (bN rfl rfl) rfl (aV ?_)))|(refine rg 1 (lW T rfl (mW rfl (vV (kC (hi)) (vV (bB rfl) (mW rfl (yN rfl (yV (bX rfl rfl) (pW rfl (mV ?_)))))))));refine aO rfl rfl ?_ ?_<;>(intro hb;rw [hb];(try simp only [nm] at hb);try (exfalso;omega));(all_goals first|(refine gT (mW rfl (gT (vV (gS rfl rfl) ?_))))|(iterate 2 refine gF ?_));(all_goals (refine pV ?_)))|(refine rg 2 (aV ?_))|refine nZ ?_));all_goals first | (exfalso;omega) | exact rQ
    · rw [show (decide (0 ≤ c) && decide (c < f.size)) = false by rw [← fE];simp;omega] at hi
      (repeat' (first|refine wS ?_|refine wR ?_|refine wT ?_|(refine rg 0 (bH (bN rfl rfl) rfl (aV ?_)))|(refine rg 1 (lW T rfl (mW rfl (vV (kC (hi)) (vV (bB rfl) (mV ?_)))));(iterate 2 refine gF ?_);refine pW rfl (mV ?_);(iterate 2 refine gF ?_);refine pV ?_)|(refine rg 2 (aV ?_))|refine nZ ?_));all_goals first | (exfalso;omega) | exact rQ
  · rw [show (decide (0 ≤ c) && decide (c < f.size)) = true by simp;omega] at hi
    have e : dS f c d = rP f (c % f.w + US d) (c / f.w % f.h + UR d) (c / (f.w * f.h) + UQ d) := by unfold dS;rw [if_neg hr]
    rw [e];have ha := zB8 g c;have e : M6 f c = (c % f.w,c / f.w % f.h,c / (f.w * f.h)) := by unfold M6;rw [if_pos (by omega)]
    rw [e] at ha;have hrg := L1 g (c := c) (by omega) (by omega)
    have hc := fun x y z => AO g x y z
    have h : d = 0 ∨ d = 1 ∨ d = 2 ∨ d = 3 ∨ d = 4 ∨ d = 5 := by omega
    refine dD T Tryz.func114 rfl rfl rfl rfl ?_;generalize hX : c % f.w = X at *;generalize hY : c / f.w % f.h = Y at *;generalize hZ : c / (f.w * f.h) = Z at *;rcases h with rfl | rfl | rfl | rfl | rfl | rfl
    all_goals
      repeat' (first|refine wS ?_|refine wK ?_|refine wR ?_|refine wU ?_|(refine rg 0 (bH (bN rfl rfl) rfl (aV ?_)))|(refine rg 1 (lW T rfl (mW rfl (vV (kC (hi)) (vV (bB rfl) (mW rfl (yN rfl (yV (bX rfl rfl) (pW rfl (mV ?_)))))))));refine yN rfl (yV (gS rfl rfl) (pV ?_)))|(refine rg 3 (lW T rfl (mW rfl (vV (kC (ha)) (mW rfl (xW rfl (xW rfl (xW rfl (D2 rfl (aV ?_))))))))))|(refine rg 4 (vV (kC (WU)) (mW rfl (vV (by exact DK T rfl rfl rfl rfl (by decide) (by decide) rfl) ?_)));refine bH (cX T rfl) rfl (bJ T rfl rfl rfl rfl rfl rfl (by decide) rfl ?_))|(refine rg 5 (lW T rfl (mW rfl (eK T rfl (vV (bP rfl rfl (by omega) (by omega)) (mW rfl (eK T rfl (vV (bP rfl rfl (by omega) (by omega)) (mW rfl (zP8 T ?_)))))))));refine vV (bP rfl rfl (by omega) (by omega)) (vV (by exact yB9 rfl rfl (hc _ _ _) rfl rfl rfl) ?_);refine aV ?_)|refine nZ ?_)
    all_goals first | (exfalso;omega) | exact gV (.inl rfl) rfl (by simp [US,UR,UQ];rfl)
theorem KC (g : iL f) (c d : Int) : bQ Tryz.prog 116 [lU f,.i c,.i d] [] (PA (kK f c d)) [] := by
  have hbs := IR g c d;by_cases hn : dS f c d < 0
  · have e : kK f c d = none := by unfold kK;rw [if_neg (by omega)]
    rw [e];generalize dS f c d = n at *;refine dD T Tryz.func116 rfl rfl rfl rfl ?_
    (repeat' (first|refine wS ?_|refine wR ?_|refine wT ?_|(refine rg 0 (bH (bN rfl rfl) rfl (iZ ?_)))|(refine rg 1 (lW T rfl (eX rfl (vV (kC (hbs)) (aV ?_)))))|(refine rg 2 (mW rfl (vV (bX rfl rfl) (mV ?_)));refine aO rfl rfl ?_ ?_<;>(intro hb;rw [hb];(try simp only [nm] at hb);try (exfalso;omega));(all_goals ((iterate 6 refine gF ?_);refine pW rfl (mV ?_);(iterate 6 refine gF ?_);refine pW rfl (mV ?_);(iterate 9 refine gF ?_);refine pV ?_)))|(refine rg 3 (iZ ?_))|refine nZ ?_));all_goals first | (exfalso;omega) | exact rQ
  · obtain ⟨h1,h2,h3,_⟩ := C5 g (c := c) (d := d) (by omega)
    have hk : f.size = f.k.length := by have := g.kl;unfold jD.size;omega
    have hol := g.ol;have key : kK f c d = if mC f c ≠ 0 ∧ mC f (dS f c d) ≠ 0 ∧ FQ f c d ≠ 0 ∧ (d = 4 ∨ d = 5 → mC f c = 6 ∧ mC f (dS f c d) = 6) then some (dS f c d) else none := by
      unfold kK CT;by_cases hp : mC f c ≠ 0 ∧ mC f (dS f c d) ≠ 0 ∧ FQ f c d ≠ 0 ∧ (d = 4 ∨ d = 5 → mC f c = 6 ∧ mC f (dS f c d) = 6)
      · rw [if_pos hp,if_pos ⟨by omega,hp⟩]
      · rw [if_neg hp,if_neg (fun q => hp q.2)]
    have q1 : (aI f.k)[c.toNat]? = some [AV.i (mC f c)] := qM h1.1 (by omega)
    have q2 : (aI f.k)[(dS f c d).toNat]? = some [AV.i (mC f (dS f c d))] := qM (by omega) (by omega)
    have q3 : (aI f.o)[c.toNat]? = some [AV.i (f.o.getD c.toNat 0)] := qM h1.1 (by omega)
    have hob : 0 ≤ f.o.getD c.toNat 0 ∧ f.o.getD c.toNat 0 ≤ 63 := by
      have := g.o c.toNat (by omega)
      rwa [aH,aB (by omega)]
    have hpw : 0 < (2 : Int) ^ d.toNat := Int.pow_pos (by omega)
    have hob2 : 0 ≤ f.o.getD c.toNat 0 / 2 ^ d.toNat ∧ f.o.getD c.toNat 0 / 2 ^ d.toNat ≤ 63 := ⟨vH hob.1 (by omega),CE (BM _ hob.1) hob.2⟩
    have hbit : FQ f c d = f.o.getD c.toNat 0 / 2 ^ d.toNat % 2 := rfl;rw [key];clear key;generalize dS f c d = n at *;generalize f.o.getD c.toNat 0 = O at *;generalize hP : (2 : Int) ^ d.toNat = P2 at *;generalize mC f c = kc at *;generalize mC f n = kn at *;generalize FQ f c d = B at *;subst hbit;have hdl : d.toNat ≤ IntKind.i64.bits := by have : IntKind.i64.bits = 64 := rfl;omega
    refine dD T Tryz.func116 rfl rfl rfl rfl ?_
    (repeat' (first|refine wS ?_|refine wK ?_|refine wR ?_|refine wT ?_|refine wU ?_|(refine wC rfl ?_ ?_<;>(intro hb;(try simp only [nm] at hb);try (exfalso;omega)))|(refine rg 0 (bH (bN rfl rfl) rfl (iZ ?_)))|(refine rg 1 (lW T rfl (eX rfl (vV (kC (hbs)) (aV ?_)))))|(refine rg 2 (mW rfl (vV (bX rfl rfl) (mV ?_)));refine aO rfl rfl ?_ ?_<;>(intro hb;rw [hb];(try simp only [nm] at hb);try (exfalso;omega));(all_goals (refine yP T rfl (yO T rfl (yN rfl (yV (ix T rfl (by omega) (aE f.k) q1) (yO T rfl (yV (gD rfl rfl) (pW rfl (mV ?_)))))));refine aO rfl rfl ?_ ?_<;>(intro hb;rw [hb];(try simp only [nm] at hb);try (exfalso;omega))));(all_goals first|(refine gT (fW T rfl (gT (lW T rfl (gT (mW rfl (gT (vV (ix T rfl (by omega) (aE f.k) q2) (gT (lV T ?_)))))))));refine gT (vV (gD rfl rfl) ?_))|(iterate 6 refine gF ?_));(all_goals (refine pW rfl (mV ?_)));(all_goals first|(refine gK ?_)|(refine aO rfl rfl ?_ ?_<;>(intro hb;rw [hb];(try simp only [nm] at hb);try (exfalso;omega))));(all_goals first|(refine gT (fW T rfl (gT (lW T rfl (gT (mW rfl (gT (vV (ix T rfl (by omega) (aE f.o) q3) (gT (lV T ?_)))))))));refine gT (mW rfl (gT (vV (by exact hP ▸ V0 rfl rfl (by omega) hdl) ?_)));refine gT (vV (NJ rfl rfl (by omega) (by omega)) (gT (vV (gD rfl rfl) ?_))))|(iterate 9 refine gF ?_));(all_goals (refine pV ?_)))|(refine rg 3 (iZ ?_))|(refine rg 4 (mW rfl (vV (gD rfl rfl) (mV ?_)));refine aO rfl rfl ?_ ?_<;>(intro hb;rw [hb];(try simp only [nm] at hb);try (exfalso;omega));(all_goals first|(refine gT (mW rfl (gT (vV (gD rfl rfl) ?_))))|(iterate 2 refine gF ?_));(all_goals (refine pW rfl (mV ?_)));(all_goals first|(refine gK ?_)|(refine aO rfl rfl ?_ ?_<;>(intro hb;rw [hb];(try simp only [nm] at hb);try (exfalso;omega))));(all_goals first|(refine gT (fW T rfl (gT (lW T rfl (gT (mW rfl (gT (vV (ix T rfl (by omega) (aE f.k) q1) (gT (lV T ?_)))))))));refine gT (vV (gW rfl rfl) (gT (mV ?_))))|(iterate 7 refine gF ?_));(all_goals first|(refine gK ?_)|(refine aO rfl rfl ?_ ?_<;>(intro hb;rw [hb];(try simp only [nm] at hb);try (exfalso;omega))));(all_goals first|(refine gT (fW T rfl (gT (lW T rfl (gT (mW rfl (gT (vV (ix T rfl (by omega) (aE f.k) q2) (gT (lV T ?_)))))))));refine gT (vV (gW rfl rfl) ?_))|((iterate 6 first|refine gF ?_|refine gU ?_)));(all_goals first|(refine gT (pV ?_))|(refine gF ?_));(all_goals (refine pV ?_)))|(refine rg 5 (iZ ?_))|(refine rg 6 (mW rfl (iZ ?_)))|refine nZ ?_));all_goals first
      | (exfalso;omega)
      | (rw [if_neg (by omega)];exact rQ)
      | (rw [if_pos (by omega)];exact rQ)
end
def JE (f : jD) : Prop := 1 ≤ f.w ∧ 1 ≤ f.h ∧ 1 ≤ f.d ∧ f.d ≤ 4 ∧ f.w ≤ 4096 ∧ f.h ≤ 4096
def AA (f : jD) (i : Nat) : Prop := 0 ≤ f.k.getD i 0 ∧ f.k.getD i 0 ≤ 6 ∧ 0 ≤ f.o.getD i 0 ∧ f.o.getD i 0 ≤ 63
def OF (f : jD) : Prop := f.w * f.h * f.d ≤ 4096 ∧ (f.k.length : Int) = f.w * f.h * f.d ∧ (f.o.length : Int) = f.w * f.h * f.d
def Q3 (f : jD) : Prop := JE f ∧ OF f ∧ ∀ i,i < f.k.length → AA f i
open Classical in
noncomputable def X8 (f : jD) : Bool := decide (Q3 f)
theorem HB {f : jD} (h : Q3 f) : X8 f = true := by simp [X8,h]
theorem H8 {f : jD} (h : ¬ Q3 f) : X8 f = false := by simp [X8,h]
theorem HY {f : jD} (h : JE f) : (0 ≤ f.w * f.h ∧ f.w * f.h ≤ 16777216) ∧ (0 ≤ f.w * f.h * f.d ∧ f.w * f.h * f.d ≤ 67108864) := by
  obtain ⟨h1,h2,h3,h4,h5,h6⟩ := h;have a1 : 0 ≤ f.w * f.h := xI (by omega) (by omega)
  have a2 : f.w * f.h ≤ 4096 * 4096 := CE (pU h5 (by omega)) (A9 h6 (by omega))
  have a3 : 0 ≤ f.w * f.h * f.d := xI a1 (by omega)
  have a4 : f.w * f.h * f.d ≤ (4096 * 4096) * 4 := CE (pU a2 (by omega)) (A9 h4 (by omega))
  omega
theorem X7 {f : jD} (h : Q3 f) (hk : f.k.length ≤ 300) : iL f := by
  obtain ⟨⟨h1,h2,h3,_⟩,⟨_,h5,h6⟩,h7⟩ := h;refine ⟨h1,h2,h3,h5,by omega,hk,fun i hi => ?_,fun i hi => ?_⟩
  · have := h7 i hi;unfold AA at this;rw [aH,aB hi] at this;exact ⟨this.1,this.2.1⟩
  · have := h7 i (by omega)
    unfold AA at this;rw [aH (l := f.o),aB hi] at this;exact ⟨this.2.2.1,this.2.2.2⟩
theorem XD (f : jD) : bQ Tryz.prog 53 [lU f] [] (.b (X8 f)) [] := by
  by_cases p1 : JE f
  · have hb := HY p1;have hs := RT f (by omega) (by omega)
    have hsz : f.size = f.w * f.h * f.d := rfl;have hp := p1;unfold JE at hp;have hkl : (aI f.k).length = f.k.length := by simp
    have holl : (aI f.o).length = f.o.length := by simp
    by_cases p2 : OF f
    · have hp2 := p2;unfold OF at hp2;refine dD T Tryz.func53 rfl rfl rfl rfl ?_
      (repeat' (first|refine wS ?_|refine wB ?_|refine wK ?_|(refine wC rfl ?_ ?_<;>(intro hb;(try simp only [nm] at hb);try (exfalso;omega)))|(refine rg 0 (bH (bN rfl rfl) rfl (aV ?_)))|(refine rg 1 (eK T rfl (eK T rfl (eK T rfl (vV (J8 rfl rfl rfl) (vV (bX rfl rfl) (mV ?_))))));refine aO rfl rfl ?_ ?_<;>(intro hb;rw [hb];(try simp only [nm] at hb);try (exfalso;omega));(all_goals (refine yP T rfl (yO T rfl (yV (eS rfl rfl) (pW rfl (mV ?_))));refine aO rfl rfl ?_ ?_<;>(intro hb;rw [hb];(try simp only [nm] at hb);try (exfalso;omega))));(all_goals (refine yP T rfl (yO T rfl (yP T rfl (yO T rfl (yV (sC rfl rfl) (yV (eS rfl rfl) (pV ?_)))))))))|(refine rg 3 (lW T rfl (vV (kC (hs)) (aV ?_))))|(refine rg 4 (mW rfl (vV (eS rfl rfl) (mV ?_)));refine aO rfl rfl ?_ ?_<;>(intro hb;rw [hb];(try simp only [nm] at hb);try (exfalso;omega));(all_goals (refine yP T rfl (yO T rfl (gT (qW T rfl (yN rfl (yV (gW rfl rfl) (pW rfl (mV ?_)))))));refine aO rfl rfl ?_ ?_<;>(intro hb;rw [hb];(try simp only [nm] at hb);try (exfalso;omega))));(all_goals (refine yP T rfl (yO T rfl (gT (qW T rfl (yN rfl (yV (gW rfl rfl) (pV ?_)))))))))|(refine rg 6 (eK T rfl (qW T rfl (mV ?_))))|refine nZ ?_));all_goals try (exfalso;omega)
      refine bV (X := {i : Nat // i ≤ f.k.length ∧ ∀ j,j < i → AA f j}) (fun i => [(1,.ptr 0 0),(46,.rowE (aI f.k) 1),(47,.i ((aI f.k).length : Int)),(48,.i i.1)]) (fun _ => [.cells [.i f.w,.i f.h,.i f.d,.rowE (aI f.k) 1,.rowE (aI f.o) 1]]) (fun i => f.k.length - i.1) ⟨0,by omega,fun j hj => by omega⟩ (eI [0]) ?_
      rintro ⟨i,hi,hg⟩;dsimp only;by_cases hlt : i < f.k.length
      · have q1 := qM (l := f.k) (j := (i : Int)) (by omega) (by omega)
        have q2 := qM (l := f.o) (j := (i : Int)) (by omega) (by omega)
        have ei : (i : Int).toNat = i := aX i;by_cases hgi : AA f i
        · have hgi' := hgi;unfold AA at hgi';rw [ei] at q1 q2
          (repeat' (first|refine wS ?_|refine wB ?_|refine wK ?_|(refine wC rfl ?_ ?_<;>(intro hb;(try simp only [nm] at hb);try (exfalso;omega)))|(refine rg 7 (vV (bX rfl rfl) ?_))|(refine rg 8 (mW rfl (vV (ix T rfl (by omega) (aE f.k) q1) (lW T rfl (iZ ?_)))))|(refine rg 9 (mW rfl (vV (bX rfl rfl) (mV ?_)));refine aO rfl rfl ?_ ?_<;>(intro hb;rw [hb];(try simp only [nm] at hb);try (exfalso;omega));(all_goals (refine yN rfl (yV (gS rfl rfl) (pW rfl (mV ?_)));refine aO rfl rfl ?_ ?_<;>(intro hb;rw [hb];(try simp only [nm] at hb);try (exfalso;omega))));(all_goals (refine yP T rfl (yO T rfl (yN rfl (yV (ix T rfl (by omega) (aE f.o) q2) (yO T rfl (yV (bX rfl rfl) (pW rfl (mV ?_)))))));refine aO rfl rfl ?_ ?_<;>(intro hb;rw [hb];(try simp only [nm] at hb);try (exfalso;omega))));(all_goals (refine yP T rfl (yO T rfl (yN rfl (yV (ix T rfl (by omega) (aE f.o) q2) (yO T rfl (yV (eS rfl rfl) (pV ?_)))))))))|(refine rg 11 (vV (bP rfl rfl (by omega) (by omega)) (mV ?_)))|refine nZ ?_));all_goals try (exfalso;omega)
          refine ⟨⟨i + 1,hlt,fun j hj => ?_⟩,by dsimp only;omega,eI [0]⟩
          by_cases e : j = i
          · subst e;exact hgi
          · exact hg j (by omega)
        · rw [H8 (fun h => hgi (h.2.2 i hlt))];unfold AA at hgi;rw [ei] at q1 q2
          (repeat' (first|refine wS ?_|refine wB ?_|refine wK ?_|refine wR ?_|refine wT ?_|(refine wC rfl ?_ ?_<;>(intro hb;(try simp only [nm] at hb);try (exfalso;omega)))|(refine rg 7 (vV (bX rfl rfl) ?_))|(refine rg 8 (mW rfl (vV (ix T rfl (by omega) (aE f.k) q1) (lW T rfl (iZ ?_)))))|(refine rg 9 (mW rfl (vV (bX rfl rfl) (mV ?_)));refine aO rfl rfl ?_ ?_<;>(intro hb;rw [hb];(try simp only [nm] at hb);try (exfalso;omega));(all_goals first|(refine gT (mW rfl (gT (vV (gS rfl rfl) ?_))))|(iterate 2 refine gF ?_));(all_goals (refine pW rfl (mV ?_)));(all_goals first|(refine gK ?_)|(refine aO rfl rfl ?_ ?_<;>(intro hb;rw [hb];(try simp only [nm] at hb);try (exfalso;omega))));(all_goals first|(refine gT (fW T rfl (gT (lW T rfl (gT (mW rfl (gT (vV (ix T rfl (by omega) (aE f.o) q2) (gT (lV T ?_)))))))));refine gT (vV (bX rfl rfl) ?_))|(iterate 6 refine gF ?_));(all_goals (refine pW rfl (mV ?_)));(all_goals first|(refine gK ?_)|(refine aO rfl rfl ?_ ?_<;>(intro hb;rw [hb];(try simp only [nm] at hb);try (exfalso;omega))));(all_goals first|(refine gT (fW T rfl (gT (lW T rfl (gT (mW rfl (gT (vV (ix T rfl (by omega) (aE f.o) q2) (gT (lV T ?_)))))))));refine gT (vV (eS rfl rfl) ?_))|(iterate 6 refine gF ?_));(all_goals (refine pV ?_)))|(refine rg 10 (aV ?_))|refine nZ ?_));all_goals first | (exfalso;omega) | exact rQ
      · rw [HB ⟨p1,p2,fun j hj => hg j (by omega)⟩]
        (repeat' (first|refine wS ?_|refine wR ?_|refine wE ?_|(refine wC rfl ?_ ?_<;>(intro hb;(try simp only [nm] at hb);try (exfalso;omega)))|(refine rg 7 (vV (bX rfl rfl) ?_))|(refine rg 12 (aV ?_))|refine nZ ?_));all_goals first | (exfalso;omega) | exact rQ
    · rw [H8 (fun h => p2 h.2.1)];unfold OF at p2;refine dD T Tryz.func53 rfl rfl rfl rfl ?_
      (repeat' (first|refine wS ?_|refine wK ?_|refine wR ?_|refine wT ?_|(refine wC rfl ?_ ?_<;>(intro hb;(try simp only [nm] at hb);try (exfalso;omega)))|(refine rg 0 (bH (bN rfl rfl) rfl (aV ?_)))|(refine rg 1 (eK T rfl (eK T rfl (eK T rfl (vV (J8 rfl rfl rfl) (vV (bX rfl rfl) (mV ?_))))));refine aO rfl rfl ?_ ?_<;>(intro hb;rw [hb];(try simp only [nm] at hb);try (exfalso;omega));(all_goals (refine yP T rfl (yO T rfl (yV (eS rfl rfl) (pW rfl (mV ?_))));refine aO rfl rfl ?_ ?_<;>(intro hb;rw [hb];(try simp only [nm] at hb);try (exfalso;omega))));(all_goals (refine yP T rfl (yO T rfl (yP T rfl (yO T rfl (yV (sC rfl rfl) (yV (eS rfl rfl) (pV ?_)))))))))|(refine rg 3 (lW T rfl (vV (kC (hs)) (aV ?_))))|(refine rg 4 (mW rfl (vV (eS rfl rfl) (mV ?_)));refine aO rfl rfl ?_ ?_<;>(intro hb;rw [hb];(try simp only [nm] at hb);try (exfalso;omega));(all_goals first|(refine gT (fW T rfl (gT (lW T rfl (gT (qW T rfl (gT (mW rfl (gT (vV (gW rfl rfl) ?_))))))))))|(iterate 5 refine gF ?_));(all_goals (refine pW rfl (mV ?_)));(all_goals first|(refine gK ?_)|(refine aO rfl rfl ?_ ?_<;>(intro hb;rw [hb];(try simp only [nm] at hb);try (exfalso;omega))));(all_goals first|(refine gT (fW T rfl (gT (lW T rfl (gT (qW T rfl (gT (mW rfl (gT (vV (gW rfl rfl) ?_))))))))))|(iterate 5 refine gF ?_));(all_goals (refine pV ?_)))|(refine rg 5 (aV ?_))|refine nZ ?_));all_goals first | (exfalso;omega) | exact rQ
  · rw [H8 (fun h => p1 h.1)];unfold JE at p1;refine dD T Tryz.func53 rfl rfl rfl rfl ?_
    (repeat' (first|refine wS ?_|refine wR ?_|refine wT ?_|(refine wC rfl ?_ ?_<;>(intro hb;(try simp only [nm] at hb);try (exfalso;omega)))|(refine rg 0 (bH (bN rfl rfl) rfl (aV ?_)))|(refine rg 1 (eK T rfl (eK T rfl (eK T rfl (vV (J8 rfl rfl rfl) (vV (bX rfl rfl) (mV ?_))))));refine aO rfl rfl ?_ ?_<;>(intro hb;rw [hb];(try simp only [nm] at hb);try (exfalso;omega));(all_goals first|(refine gT (fW T rfl (gT (lW T rfl (gT (vV (eS rfl rfl) ?_))))))|(iterate 3 refine gF ?_));(all_goals (refine pW rfl (mV ?_)));(all_goals first|(refine gK ?_)|(refine aO rfl rfl ?_ ?_<;>(intro hb;rw [hb];(try simp only [nm] at hb);try (exfalso;omega))));(all_goals first|(refine gT (fW T rfl (gT (lW T rfl (gT (fW T rfl (gT (lW T rfl (gT (vV (sC rfl rfl) ?_)))))))));refine gT (vV (eS rfl rfl) ?_))|(iterate 6 refine gF ?_));(all_goals (refine pV ?_)))|(refine rg 2 (aV ?_))|refine nZ ?_));all_goals first | (exfalso;omega) | exact rQ
theorem zM9 (f : jD) (n : Int) : bQ Tryz.prog 52 [lU f,.i n] [] (.b (decide ((f.k.length : Int) ≤ n) && decide ((f.o.length : Int) ≤ n))) [] := by
  have hkl : (aI f.k).length = f.k.length := by simp
  have holl : (aI f.o).length = f.o.length := by simp
  refine dD T Tryz.func52 rfl rfl rfl rfl ?_
  (repeat' (first|refine wS ?_|refine wR ?_|(refine rg 0 (bH (bN rfl rfl) rfl (aV ?_)))|(refine rg 1 (eK T rfl (qW T rfl (mW rfl (vV (lF rfl rfl) (mV ?_)))));refine aO rfl rfl ?_ ?_<;>(intro hb;rw [hb];(try simp only [nm] at hb);try (exfalso;omega));(all_goals first|(refine gT (fW T rfl (gT (lW T rfl (gT (qW T rfl (gT (mW rfl (gT (vV (lF rfl rfl) ?_))))))))))|(iterate 5 refine gF ?_));(all_goals (refine pW rfl (aV ?_))))|refine nZ ?_));all_goals
    refine gV (.inl rfl) rfl (xF ?_);rw [EF];simp only [aT,decide_eq_true_eq,mA,false_iff,not_and];omega
end Go.Proofs.YtdmajnjoeidgeaaGreat
namespace Go.Proofs.YtdmajnjoeidgeaaGreat
open Go Go.Ab Go.Fl
abbrev IY := List UInt8 × List Int × Int × Int × List (Int × Int)
abbrev BR (z : IY) : List AV := [.s z.1,.rowE (aI z.2.1) 1,.i z.2.2.1,.i z.2.2.2.1,.rowE (kD z.2.2.2.2) 2]
abbrev nC (l : List IY) : List (List AV) := l.map BR
abbrev pR (l : List (List UInt8 × List UInt8)) : List (List AV) := l.map fun x => [AV.s x.1,AV.s x.2]
abbrev pH (l : List (Int × List UInt8)) : List (List AV) := l.map fun x => [AV.i x.1,AV.s x.2]
structure lN where
  fl : jD
  zn : List IY
  ap : List (List UInt8 × List UInt8)
  sh : List (Int × List UInt8)
  rb : List (Int × Int)
abbrev fS (s : lN) : List AV := jM s.fl ++ [.rowE (nC s.zn) 5,.rowE (pR s.ap) 2,.rowE (pH s.sh) 2,.rowE (kD s.rb) 2]
theorem U3 (l : List (Int × List UInt8)) : ∀ e,e ∈ pH l → e.length = 2 := by intro e he;obtain ⟨n,_,rfl⟩ := aQ.1 he;rfl
theorem GH {l : List (Int × Int)} {k : Nat} (h : k < l.length) : (kD l)[k]? = some [AV.i l[k].1,AV.i l[k].2] := by simp [h]
end Go.Proofs.YtdmajnjoeidgeaaGreat
namespace Go.Proofs.YtdmajnjoeidgeaaGreat
open Go Go.Ab Go.Fl
attribute [local irreducible] VC AW bR bQ
set_option maxHeartbeats 4000000
end Go.Proofs.YtdmajnjoeidgeaaGreat
namespace Go.Proofs.YtdmajnjoeidgeaaGreat
open Go Go.Ab Go.Fl
section
variable {P : Program} {env : eG} {h : Hp} {d : Option Nat} {ty : TypeId} {pos : String} {af : Array Edge} {g : Option (Nat × Bool)}
theorem oC {t t2 : TypeId} {x y : Operand} {a b : Int} (hx : evu env x = some (.i a)) (hy : evu env y = some (.i b)) (e : b < a) : bR P ⟨d,.binOp .gtr t x y t2,ty,pos,af,g⟩ env h 0 (fun _ => .b true) (fun _ => []) := by
  have := eS (P := P) (d := d) (ty := ty) (pos := pos) (af := af) (g := g) (h := h) (t := t) (t2 := t2) hx hy;simpa [show decide (a > b) = true from decide_eq_true (by omega)] using this
theorem rL {t t2 : TypeId} {x y : Operand} {a b : Int} (hx : evu env x = some (.i a)) (hy : evu env y = some (.i b)) (e : a ≤ b) : bR P ⟨d,.binOp .gtr t x y t2,ty,pos,af,g⟩ env h 0 (fun _ => .b false) (fun _ => []) := by
  have := eS (P := P) (d := d) (ty := ty) (pos := pos) (af := af) (g := g) (h := h) (t := t) (t2 := t2) hx hy;simpa [show decide (a > b) = false from decide_eq_false (by omega)] using this
theorem C1 {t t2 : TypeId} {x y : Operand} {a b : Int} (hx : evu env x = some (.i a)) (hy : evu env y = some (.i b)) (e : a ≤ b) : bR P ⟨d,.binOp .leq t x y t2,ty,pos,af,g⟩ env h 0 (fun _ => .b true) (fun _ => []) := by
  have := lF (P := P) (d := d) (ty := ty) (pos := pos) (af := af) (g := g) (h := h) (t := t) (t2 := t2) hx hy;simpa [e] using this
theorem NE {t t2 : TypeId} {x y : Operand} {a b : Int} (hx : evu env x = some (.i a)) (hy : evu env y = some (.i b)) (e : b < a) : bR P ⟨d,.binOp .leq t x y t2,ty,pos,af,g⟩ env h 0 (fun _ => .b false) (fun _ => []) := by
  have := lF (P := P) (d := d) (ty := ty) (pos := pos) (af := af) (g := g) (h := h) (t := t) (t2 := t2) hx hy;simpa [show decide (a ≤ b) = false from decide_eq_false (by omega)] using this
end
attribute [local irreducible] VC AW bR bQ
set_option maxHeartbeats 4000000
def CC (p : Nat → Bool) (n : Nat) : Bool := (List.range n).all p
theorem OB {p : Nat → Bool} {n k : Nat} (h : k < n) (hp : p k = false) : CC p n = false := by
  unfold CC;rw [List.all_eq_false];exact ⟨k,fC.2 h,by rw [hp];decide⟩
theorem IX {p : Nat → Bool} {n : Nat} : CC p n = true ↔ ∀ k,k < n → p k = true := by
  unfold CC;rw [dR];exact ⟨fun h k hk => h k (fC.2 hk),fun h k hk => h k (fC.1 hk)⟩
def K4 (f : jD) (l : List Int) (i : Nat) : Bool := decide (0 ≤ l.getD i 0 ∧ l.getD i 0 < f.k.length ∧ (0 < i → l.getD (i - 1) 0 < l.getD i 0))
def GI (f : jD) (l : List (Int × Int)) (i : Nat) : Bool := EU f (l.getD i (0,0)).1 [6] && jS (l.getD i (0,0)).2 1 20000 && decide (0 < i → (l.getD (i - 1) (0,0)).1 < (l.getD i (0,0)).1)
theorem EL {l : List (Int × Int)} {j : Int} {i : Nat} (h : i < l.length) (e : j.toNat = i) : (kD l)[j.toNat]? = some [AV.i (l.getD i (0,0)).1,AV.i (l.getD i (0,0)).2] := by
  rw [e,GH h,aH,aB h];rfl
theorem zE3 (f : jD) (s : E4) (h1 : s.dd.length ≤ 1000) (h2 : s.sk.length ≤ 1000) : bQ Tryz.prog 27 [.agg (jM f), .agg (oW s)] []
    (.b (CC (K4 f s.dd) s.dd.length && CC (GI f s.sk) s.sk.length)) [] := by
  have hdl : (aI s.dd).length = s.dd.length := aR _;have hkl : (aI f.k).length = f.k.length := aR _;have hsl : (kD s.sk).length = s.sk.length := by simp
  refine dD T Tryz.func27 rfl rfl rfl rfl ?_
  (repeat' (first|refine wS ?_|refine wB ?_|(refine rg 0 (bH (bN rfl rfl) rfl (bH (bN rfl rfl) rfl (aV ?_))))|(refine rg 1 (eK T rfl (qW T rfl (mV ?_))))|refine nZ ?_));refine bV (X := {k : Nat // k ≤ s.dd.length ∧ ∀ j,j < k → K4 f s.dd j = true}) (fun k => [(2,.ptr 0 0),(3,.ptr 1 0),(10,.rowE (aI s.dd) 1),(11,.i s.dd.length),(12,.i k.1)]) (fun _ => [AB.cells (jM f),AB.cells (oW s)]) (fun k => s.dd.length - k.1) ⟨0,by omega,fun j hj => absurd hj (dJ _)⟩ ⟨[0,1],rfl,⟨rfl,rfl,rfl,congrArg (fun n : Nat => some (AV.i n)) hdl,rfl,trivial⟩,⟨.inr rfl,.inr rfl,trivial⟩,by decide,zD _⟩ ?_
  rintro ⟨k,hk,hp⟩;dsimp only;by_cases hlt : k < s.dd.length
  · have q1 := eY (l := s.dd) (j := (k : Int)) 0 hlt rfl;have q0 : 0 < k → (aI s.dd)[((k : Int) - 1).toNat]? = some [AV.i (s.dd.getD (k - 1) 0)] := fun h0 => eY 0 (by omega) (by omega)
    by_cases hd : K4 f s.dd k = true
    · have hnx : ∀ j,j < k + 1 → K4 f s.dd j = true := fun j hj => by
        by_cases e : j = k
        · rw [e];exact hd
        · exact hp j (by omega)
      unfold K4 at hd;rw [decide_eq_true_eq] at hd;obtain ⟨d1,d2,d3⟩ := hd;generalize s.dd.getD k 0 = c at *;generalize s.dd.getD (k - 1) 0 = c' at *;by_cases h0 : 0 < k
      · have q0 := q0 h0;have d3 := d3 h0
        (repeat' (first|refine wS ?_|refine wB ?_|refine wK ?_|refine wT ?_|refine wU ?_|(refine rg 2 (vV (aL rfl rfl (by omega)) ?_))|(refine rg 3 (mW rfl (vV (ix T rfl (by omega) (aE s.dd) q1) (lW T rfl (iZ ?_)))))|(refine rg 4 (mW rfl (vV (bG rfl rfl (by omega)) (mW rfl (yN rfl (yP T rfl (yO T rfl (gT (qW T rfl (yV (kG rfl rfl (by omega)) ?_)))))))));refine pW rfl (mW rfl (yN rfl (yV (oC rfl rfl (by omega)) (yN rfl (yN rfl (yP T rfl (yO T rfl (yN rfl (yV (fN rfl rfl (by omega) (by omega)) ?_)))))))));refine yV (ix T rfl (by omega) (aE s.dd) q0) (yO T rfl (yV (NE rfl rfl (by omega)) (gT (pW rfl (pV ?_))))))|(refine rg 6 (vV (bP rfl rfl (by omega) (by omega)) (mV ?_)))|refine nZ ?_));all_goals first | (exfalso;omega) | exact ⟨⟨k + 1,hlt,hnx⟩,by dsimp only;omega,[0,1],rfl,(by repeat first|exact trivial|refine ⟨rfl,?_⟩),⟨.inr rfl,.inr rfl,trivial⟩,by decide,zD _⟩
      · (repeat' (first|refine wS ?_|refine wB ?_|refine wK ?_|refine iY rfl ?_|refine iB rfl ?_|(refine rg 2 (vV (aL rfl rfl (by omega)) ?_))|(refine rg 3 (mW rfl (vV (ix T rfl (by omega) (aE s.dd) q1) (lW T rfl (iZ ?_)))))|(refine rg 4 (mW rfl (vV (bG rfl rfl (by omega)) (mW rfl (yN rfl (yP T rfl (yO T rfl (gT (qW T rfl (yV (kG rfl rfl (by omega)) ?_)))))))));refine pW rfl (mW rfl (yN rfl (yV (rL rfl rfl (by omega)) (yM ?_))));(iterate 8 refine gF ?_);refine gT (pW rfl (pV ?_)))|(refine rg 6 (vV (bP rfl rfl (by omega) (by omega)) (mV ?_)))|(refine nZ ?_)));all_goals first | (exfalso;omega) | exact ⟨⟨k + 1,hlt,hnx⟩,by dsimp only;omega,[0,1],rfl,(by repeat first|exact trivial|refine ⟨rfl,?_⟩),⟨.inr rfl,.inr rfl,trivial⟩,by decide,zD _⟩
    · have hf : K4 f s.dd k = false := by simpa using hd
      rw [OB hlt hf,tB];unfold K4 at hd;rw [decide_eq_true_eq] at hd;generalize s.dd.getD k 0 = c at *;generalize s.dd.getD (k - 1) 0 = c' at *;by_cases d1 : 0 ≤ c
      · by_cases d2 : c < f.k.length
        · obtain ⟨h0,d3⟩ : 0 < k ∧ c ≤ c' := by
            by_cases h0 : 0 < k
            · refine ⟨h0,?_⟩;by_cases h3 : c' < c
              · exact absurd ⟨d1,d2,fun _ => h3⟩ hd
              · omega
            · exact absurd ⟨d1,d2,fun h => absurd h h0⟩ hd
          have q0 := q0 h0
          (repeat' (first|refine wS ?_|refine wB ?_|refine wK ?_|refine wR ?_|refine wT ?_|(refine rg 2 (vV (aL rfl rfl (by omega)) ?_))|(refine rg 3 (mW rfl (vV (ix T rfl (by omega) (aE s.dd) q1) (lW T rfl (iZ ?_)))))|(refine rg 4 (mW rfl (vV (bG rfl rfl (by omega)) (mW rfl (yN rfl (yP T rfl (yO T rfl (gT (qW T rfl (yV (kG rfl rfl (by omega)) ?_)))))))));refine pW rfl (mW rfl (yN rfl (yV (oC rfl rfl (by omega)) (yN rfl (yN rfl (yP T rfl (yO T rfl (yN rfl (yV (fN rfl rfl (by omega) (by omega)) ?_)))))))));refine yV (ix T rfl (by omega) (aE s.dd) q0) (yO T rfl (yV (C1 rfl rfl (by omega)) (gT (pW rfl (pV ?_))))))|(refine rg 5 (aV ?_))|refine nZ ?_));all_goals first | (exfalso;omega) | exact rQ
        · (repeat' (first|refine wS ?_|refine wB ?_|refine wK ?_|refine wR ?_|refine iY rfl ?_|(refine rg 2 (vV (aL rfl rfl (by omega)) ?_))|(refine rg 3 (mW rfl (vV (ix T rfl (by omega) (aE s.dd) q1) (lW T rfl (iZ ?_)))))|(refine rg 4 (mW rfl (vV (bG rfl rfl (by omega)) (mW rfl (yN rfl (yP T rfl (yO T rfl (gT (qW T rfl (yV (mO rfl rfl (by omega)) ?_)))))))));refine pW rfl (mV ?_);(iterate 3 refine gF ?_);(iterate 8 refine gU ?_);refine gF (pV ?_))|(refine rg 5 (aV ?_))|(refine nZ ?_)));all_goals first | (exfalso;omega) | exact rQ
      · (repeat' (first|refine wS ?_|refine wB ?_|refine wK ?_|refine wR ?_|refine iY rfl ?_|(refine rg 2 (vV (aL rfl rfl (by omega)) ?_))|(refine rg 3 (mW rfl (vV (ix T rfl (by omega) (aE s.dd) q1) (lW T rfl (iZ ?_)))))|(refine rg 4 (mW rfl (vV (aL rfl rfl (by omega)) (mV ?_)));(iterate 5 refine gF ?_);refine pW rfl (mV ?_);(iterate 3 refine gF ?_);(iterate 8 refine gU ?_);refine gF (pV ?_))|(refine rg 5 (aV ?_))|(refine nZ ?_)));all_goals first | (exfalso;omega) | exact rQ
  · obtain rfl : k = s.dd.length := by omega
    rw [IX.2 hp,vE];clear hk hp hlt
    (repeat' (first|refine wS ?_|refine wB ?_|refine wE ?_|refine wU ?_|(refine rg 2 (vV (bG rfl rfl (by omega)) ?_))|(refine rg 7 (eK T rfl (qW T rfl (mV ?_))))|refine nZ ?_));all_goals try (exfalso;omega)
    refine bV (X := {k : Nat // k ≤ s.sk.length ∧ ∀ j,j < k → GI f s.sk j = true}) (fun k => [(2,.ptr 0 0),(3,.ptr 1 0),(42,.rowE (kD s.sk) 2),(43,.i s.sk.length),(44,.i k.1)]) (fun _ => [AB.cells (jM f),AB.cells (oW s)]) (fun k => s.sk.length - k.1) ⟨0,by omega,fun j hj => absurd hj (dJ _)⟩ ⟨[0,1],rfl,⟨rfl,rfl,rfl,congrArg (fun n : Nat => some (AV.i n)) hsl,rfl,trivial⟩,⟨.inr rfl,.inr rfl,trivial⟩,by decide,zD _⟩ ?_
    rintro ⟨k,hk,hp⟩;dsimp only;by_cases hlt : k < s.sk.length
    · have q1 := EL (l := s.sk) (j := (k : Int)) hlt rfl;have q0 : 0 < k → (kD s.sk)[((k : Int) - 1).toNat]? = some [AV.i (s.sk.getD (k - 1) (0,0)).1,AV.i (s.sk.getD (k - 1) (0,0)).2] := fun h0 => EL (by omega) (by omega)
      have cO := zF3 f (s.sk.getD k (0,0)).1 [6] (by simp)
      have cW := wY (s.sk.getD k (0,0)).2 1 20000;have hd0 : GI f s.sk k = (EU f (s.sk.getD k (0,0)).1 [6] && jS (s.sk.getD k (0,0)).2 1 20000 && decide (0 < k → (s.sk.getD (k - 1) (0,0)).1 < (s.sk.getD k (0,0)).1)) := rfl;generalize EU f (s.sk.getD k (0,0)).1 [6] = o at *;generalize jS (s.sk.getD k (0,0)).2 1 20000 = v at *;generalize (s.sk.getD k (0,0)).1 = c at *;generalize (s.sk.getD k (0,0)).2 = c2 at *;generalize (s.sk.getD (k - 1) (0,0)).1 = p at *;generalize (s.sk.getD (k - 1) (0,0)).2 = p2 at *;by_cases hd : GI f s.sk k = true
      · have hnx : ∀ j,j < k + 1 → GI f s.sk j = true := fun j hj => by
          by_cases e : j = k
          · rw [e];exact hd
          · exact hp j (by omega)
        rw [hd0] at hd;simp only [aT,decide_eq_true_eq] at hd;obtain ⟨⟨rfl,rfl⟩,d3⟩ := hd;by_cases h0 : 0 < k
        · have q0 := q0 h0;have d3 := d3 h0
          (repeat' (first|refine wS ?_|refine wB ?_|refine wK ?_|refine wT ?_|refine wU ?_|(refine rg 8 (vV (aL rfl rfl (by omega)) ?_))|(refine rg 9 (mW rfl (vV (ix T rfl (by omega) (rC s.sk) q1) (lW T rfl (bH (cX T rfl) rfl (aW rfl (bJ T rfl rfl rfl rfl rfl rfl (by decide) rfl ?_)))))))|(refine aN (id := 10) 78 zU6 (rM 49 28) zU7 bM rfl (by decide +kernel) (dO T rfl (dP T rfl (dO T rfl (FM rfl rfl rfl (by exact aS T rfl rfl (by decide) (by decide) rfl rfl rfl) rfl ?_))));refine dV rfl (by exact gB rfl rfl cO (.cons (.agg (.cons (.v _) (.cons (.v _) (.cons (.v _) (.cons (.row _ _ _) (.cons (.row _ _ _) .nil)))))) (.cons (.v _) (.cons (lA rfl rfl) .nil))) rfl rfl) ?_;refine dV rfl (bB rfl) (dN rfl (tP T rfl (tO T rfl (dT rfl (kC (cW)) (dT rfl (bB rfl) (dV rfl (cY rfl rfl) (dN rfl (tN rfl (dT rfl (oC rfl rfl (by omega)) ?_)))))))));refine tN rfl (tP T rfl (tO T rfl (tP T rfl (tO T rfl (tN rfl (dT rfl (fN rfl rfl (by omega) (by omega)) (dT rfl (ix T rfl (by omega) (rC s.sk) q0) (tP T rfl (tL T ?_)))))))));refine dT rfl (NE rfl rfl (by omega)) (dT rfl (eP rfl rfl) (dV rfl (cY rfl rfl) (dE ?_))))|(refine rg 12 (vV (bP rfl rfl (by omega) (by omega)) (mV ?_)))|refine nZ ?_));all_goals first | (exfalso;omega) | exact ⟨⟨k + 1,hlt,hnx⟩,by dsimp only;omega,[0,1],rfl,(by repeat first|exact trivial|refine ⟨rfl,?_⟩),⟨.inr rfl,.inr rfl,trivial⟩,by decide,zD _⟩
        · (repeat' (first|refine wS ?_|refine wB ?_|refine wK ?_|refine iY rfl ?_|refine iB rfl ?_|(refine rg 8 (vV (aL rfl rfl (by omega)) ?_))|(refine rg 9 (mW rfl (vV (ix T rfl (by omega) (rC s.sk) q1) (lW T rfl (bH (cX T rfl) rfl (aW rfl (bJ T rfl rfl rfl rfl rfl rfl (by decide) rfl ?_)))))))|(refine aN (id := 10) 78 zU6 (rM 49 28) zU7 bM rfl (by decide +kernel) (dO T rfl (dP T rfl (dO T rfl (FM rfl rfl rfl (by exact aS T rfl rfl (by decide) (by decide) rfl rfl rfl) rfl ?_))));refine dV rfl (by exact gB rfl rfl cO (.cons (.agg (.cons (.v _) (.cons (.v _) (.cons (.v _) (.cons (.row _ _ _) (.cons (.row _ _ _) .nil)))))) (.cons (.v _) (.cons (lA rfl rfl) .nil))) rfl rfl) ?_;refine dV rfl (bB rfl) (dN rfl (tP T rfl (tO T rfl (dT rfl (kC (cW)) (dT rfl (bB rfl) (dV rfl (cY rfl rfl) (dN rfl (tN rfl (dT rfl (rL rfl rfl (by omega)) ?_)))))))));refine tN rfl (tG rfl (tG rfl (tG rfl (tG rfl (tG rfl (tG rfl (tG rfl (tG rfl (dG ?_)))))))));refine tG rfl (dT rfl (cY rfl rfl) (dV rfl (cY rfl rfl) (dE ?_))))|(refine rg 12 (vV (bP rfl rfl (by omega) (by omega)) (mV ?_)))|(refine nZ ?_)));all_goals first | (exfalso;omega) | exact ⟨⟨k + 1,hlt,hnx⟩,by dsimp only;omega,[0,1],rfl,(by repeat first|exact trivial|refine ⟨rfl,?_⟩),⟨.inr rfl,.inr rfl,trivial⟩,by decide,zD _⟩
      · have hf : GI f s.sk k = false := by simpa using hd
        rw [OB hlt hf];rw [hd0] at hd;simp only [aT,decide_eq_true_eq] at hd;cases o with
        | false =>
          (repeat' (first|refine wS ?_|refine wB ?_|refine wK ?_|refine wR ?_|refine wT ?_|(refine rg 8 (vV (aL rfl rfl (by omega)) ?_))|(refine rg 9 (mW rfl (vV (ix T rfl (by omega) (rC s.sk) q1) (lW T rfl (bH (cX T rfl) rfl (aW rfl (bJ T rfl rfl rfl rfl rfl rfl (by decide) rfl ?_)))))))|(refine aN (id := 10) 78 zU6 (rM 49 28) zU7 bM rfl (by decide +kernel) (dO T rfl (dP T rfl (dO T rfl (FM rfl rfl rfl (by exact aS T rfl rfl (by decide) (by decide) rfl rfl rfl) rfl ?_))));refine dV rfl (by exact gB rfl rfl cO (.cons (.agg (.cons (.v _) (.cons (.v _) (.cons (.v _) (.cons (.row _ _ _) (.cons (.row _ _ _) .nil)))))) (.cons (.v _) (.cons (lA rfl rfl) .nil))) rfl rfl) ?_;refine dV rfl (bB rfl) (dN rfl (tG rfl (tG rfl (tG rfl (tG rfl (dV rfl (eP rfl rfl) (dN rfl (tG rfl (dG ?_)))))))));refine tG rfl (tH rfl (tH rfl (tH rfl (tH rfl (tH rfl (tH rfl (tH rfl (tH rfl (dH ?_)))))))));refine tH rfl (tG rfl (dV rfl (eP rfl rfl) (dE ?_))))|(refine rg 11 (aV ?_))|refine nZ ?_));all_goals first | (exfalso;omega) | exact rQ
        | true =>
          cases v with
          | false =>
            (repeat' (first|refine wS ?_|refine wB ?_|refine wK ?_|refine wR ?_|refine wT ?_|(refine rg 8 (vV (aL rfl rfl (by omega)) ?_))|(refine rg 9 (mW rfl (vV (ix T rfl (by omega) (rC s.sk) q1) (lW T rfl (bH (cX T rfl) rfl (aW rfl (bJ T rfl rfl rfl rfl rfl rfl (by decide) rfl ?_)))))))|(refine aN (id := 10) 78 zU6 (rM 49 28) zU7 bM rfl (by decide +kernel) (dO T rfl (dP T rfl (dO T rfl (FM rfl rfl rfl (by exact aS T rfl rfl (by decide) (by decide) rfl rfl rfl) rfl ?_))));refine dV rfl (by exact gB rfl rfl cO (.cons (.agg (.cons (.v _) (.cons (.v _) (.cons (.v _) (.cons (.row _ _ _) (.cons (.row _ _ _) .nil)))))) (.cons (.v _) (.cons (lA rfl rfl) .nil))) rfl rfl) ?_;refine dV rfl (bB rfl) (dN rfl (tP T rfl (tO T rfl (dT rfl (kC (cW)) (dT rfl (bB rfl) (dV rfl (cY rfl rfl) (dN rfl (tG rfl (dG ?_)))))))));refine tG rfl (tH rfl (tH rfl (tH rfl (tH rfl (tH rfl (tH rfl (tH rfl (tH rfl (dH ?_)))))))));refine tH rfl (tG rfl (dV rfl (eP rfl rfl) (dE ?_))))|(refine rg 11 (aV ?_))|refine nZ ?_));all_goals first | (exfalso;omega) | exact rQ
          | true =>
            obtain ⟨h0,d3⟩ : 0 < k ∧ c ≤ p := by
              by_cases h0 : 0 < k
              · refine ⟨h0,?_⟩;by_cases h3 : p < c
                · exact absurd ⟨⟨rfl,rfl⟩,fun _ => h3⟩ hd
                · omega
              · exact absurd ⟨⟨rfl,rfl⟩,fun h => absurd h h0⟩ hd
            have q0 := q0 h0
            (repeat' (first|refine wS ?_|refine wB ?_|refine wK ?_|refine wR ?_|refine wT ?_|(refine rg 8 (vV (aL rfl rfl (by omega)) ?_))|(refine rg 9 (mW rfl (vV (ix T rfl (by omega) (rC s.sk) q1) (lW T rfl (bH (cX T rfl) rfl (aW rfl (bJ T rfl rfl rfl rfl rfl rfl (by decide) rfl ?_)))))))|(refine aN (id := 10) 78 zU6 (rM 49 28) zU7 bM rfl (by decide +kernel) (dO T rfl (dP T rfl (dO T rfl (FM rfl rfl rfl (by exact aS T rfl rfl (by decide) (by decide) rfl rfl rfl) rfl ?_))));refine dV rfl (by exact gB rfl rfl cO (.cons (.agg (.cons (.v _) (.cons (.v _) (.cons (.v _) (.cons (.row _ _ _) (.cons (.row _ _ _) .nil)))))) (.cons (.v _) (.cons (lA rfl rfl) .nil))) rfl rfl) ?_;refine dV rfl (bB rfl) (dN rfl (tP T rfl (tO T rfl (dT rfl (kC (cW)) (dT rfl (bB rfl) (dV rfl (cY rfl rfl) (dN rfl (tN rfl (dT rfl (oC rfl rfl (by omega)) ?_)))))))));refine tN rfl (tP T rfl (tO T rfl (tP T rfl (tO T rfl (tN rfl (dT rfl (fN rfl rfl (by omega) (by omega)) (dT rfl (ix T rfl (by omega) (rC s.sk) q0) (tP T rfl (tL T ?_)))))))));refine dT rfl (C1 rfl rfl (by omega)) (dT rfl (eP rfl rfl) (dV rfl (cY rfl rfl) (dE ?_))))|(refine rg 11 (aV ?_))|refine nZ ?_));all_goals first | (exfalso;omega) | exact rQ
    · obtain rfl : k = s.sk.length := by omega
      rw [IX.2 hp]
      (repeat' (first|refine wS ?_|refine wR ?_|refine wE ?_|refine wU ?_|(refine rg 8 (vV (bG rfl rfl (by omega)) ?_))|(refine rg 13 (aV ?_))|refine nZ ?_));all_goals first | (exfalso;omega) | exact rQ
end Go.Proofs.YtdmajnjoeidgeaaGreat
namespace Go.Ab
open Go
mutual
def AV.pln : AV → Bool
  | .v _ => true
  | .any => true
  | .row .. => true
  | .mrow .. => true
  | .pr .. => true
  | .agg cs => AV.plnL cs
  | _ => false
def AV.plnL : List AV → Bool
  | [] => true
  | x :: l => AV.pln x && AV.plnL l
end
mutual
theorem lP {h : Hp} : ∀ (x : AV), x.pln = true → qD h x x
  | .v x,_ => .v x
  | .any,_ => .any
  | .row cs l s,_ => .row cs l s
  | .mrow ks vs,_ => .mrow ks vs
  | .pr cs o,_ => .pr cs o
  | .agg cs,e => .agg (lE cs (by simpa [AV.pln] using e))
  | .ptr ..,e | .ep ..,e | .sl ..,e | .mp ..,e | .tup ..,e | .clo ..,e | .cond ..,e | .ifc ..,e => by simp [AV.pln] at e
theorem lE {h : Hp} : ∀ (xs : List AV), AV.plnL xs = true → mQ h xs xs
  | [],_ => .nil
  | x :: l,e => by
    simp only [AV.plnL,aT] at e;exact .cons (lP x e.1) (lE l e.2)
end
theorem Q9 : ∀ (a b : List AV), AV.plnL (a ++ b) = (AV.plnL a && AV.plnL b)
  | [],b => by simp [AV.plnL]
  | x :: a,b => by simp [AV.plnL,Q9 a b,Bool.and_assoc]
theorem pN {α : Type} {g : α → List AV} (hg : ∀ a, AV.plnL (g a) = true) : ∀ l : List α, AV.plnL (l.map g).flatten = true
  | [] => rfl
  | a :: l => by rw [List.map_cons,fA,Q9,hg a,pN hg l];rfl
theorem oV {h : Hp} {k n sz : Nat} {es : List (List AV)} (hk : h[k]? = some (.arr es sz)) (hn : n = es.length) (hp : AV.plnL es.flatten = true) : qD h (.sl k 0 n sz) (.rowE es sz) := by
  subst hn;refine qD.sl hk (by omega) ?_
  rw [fJ,dU];exact lE _ hp
def B2 (P : Program) : Nat → List Field → Bool
  | _,[] => true
  | i, f :: r => decide (f.name ≠ "_") && Nat.beq f.offset i && (match P.underlying f.type with | some .string => P.plainKey f.type | _ => false) && B2 P (i + 1) r
def mH (P : Program) (t : TypeId) (n : Nat) : Prop := (match P.underlying t with
  | some (.struct fs) => Nat.beq fs.size n && B2 P 0 fs.toList && !P.stoodInHeld t && !P.eqGuardType P.depth t
  | _ => false) = true
theorem FN (l : List UInt8) : (ByteArray.mk l.toArray).toList = l := by simp
section
variable {P : Program} {env : eG} {h : Hp}
variable {d : Option Nat} {ty : TypeId} {pos : String} {af : Array Edge} {g : Option (Nat × Bool)}
theorem AJ (w : World) (dd : Nat) : ∀ (fs : List Field) (i : Nat) (xs ys : Array Value) (us bs : List (List UInt8)),B2 P i fs = true → fs.length = us.length → us.length = bs.length → (∀ (j : Nat) a,us[j]? = some a → xs[i + j]? = some (.string ⟨a.toArray⟩)) → (∀ (j : Nat) b,bs[j]? = some b → ys[i + j]? = some (.string ⟨b.toArray⟩)) →
    (Op.eqFields (dd + 1) xs ys fs).run P w = .ok (decide (us = bs)) w
  | [],i,xs,ys,us,bs,_,h1,h2,_,_ => by
    have : us = [] := bW (by simpa using h1.symm)
    subst this;have : bs = [] := bW (by simpa using h2.symm)
    subst this;simp [Op.eqFields]
  | f :: r,i,xs,ys,a :: us,b :: bs,hf,h1,h2,hx,hy => by
    simp only [B2,aT,decide_eq_true_eq] at hf;obtain ⟨⟨⟨h3,h4⟩,h5⟩,h6⟩ := hf;have h4 := aP h4;split at h5
    case h_2 => cases h5
    rename_i hu;have x0 := hx 0 a rfl;have y0 := hy 0 b rfl;rw [Nat.add_zero,← h4] at x0 y0;have ih := AJ w dd r (i + 1) xs ys us bs h6 (by simpa using h1) (by simpa using h2) (fun j u hj => by rw [fB,qY 1 j];exact hx (j + 1) u (by simpa using hj)) (fun j u hj => by rw [fB,qY 1 j];exact hy (j + 1) u (by simpa using hj))
    simp only [Op.eqFields,h3,ne_eq,not_false_eq_true,if_true,Sem.run_bind,run_part_plain w h5 x0,run_part_plain w h5 y0,Result.andThen_ok,run_equalIn_string w dd f.type _ _ hu,FN];by_cases hab : a = b
    · subst hab;simp [ih]
    · have : (a == b) = false := by simpa using hab
      simp [this,hab]
  | f :: r,_,_,_,[],_,_,h1,_,_,_ => by simp at h1
  | f :: r,_,_,_,a :: us,[],_,_,h2,_,_ => by simp at h2
theorem JI {S : Nat → Prop} {w : World} {ρ : Pl} : ∀ {us : List (List UInt8)} {ys : List Value}, RL S w (us.map fun a => AV.s a) ρ ys → ys = us.map fun a => .string ⟨a.toArray⟩
  | [],_,h => by simpa [RL] using h
  | a :: us,_,h => by
    simp only [List.map_cons,RL] at h;obtain ⟨y,zs,rfl,h1,h2⟩ := h;rw [rU h1,JI h2];rfl
theorem KN {t t2 : TypeId} {n : Nat} {x y : Operand} {us bs : List (List UInt8)} (ht : mH P t n) (hx : evu env x = some (.agg (us.map fun a => AV.s a))) (hy : evu env y = some (.agg (bs.map fun a => AV.s a))) (h1 : Nat.beq us.length n = true) (h2 : Nat.beq bs.length n = true) :
    bR P ⟨d,.binOp .eql t x y t2,ty,pos,af,g⟩ env h 0 (fun _ => .b (decide (us = bs))) (fun _ => []) := by
  refine gN fun ρ S a w p => ⟨.bool (decide (us = bs)),?_,iI _⟩;have h3 := p.evu hx;have h4 := p.evu hy;simp only [R] at h3 h4;obtain ⟨xs,e1,h3⟩ := h3;obtain ⟨ys,e2,h4⟩ := h4;have h3 := JI h3;have h4 := JI h4;have h1 := aP h1;have h2 := aP h2;unfold mH at ht;split at ht
  case h_2 => cases ht
  rename_i fs hu;simp only [aT,S8] at ht;obtain ⟨⟨⟨h5,h6⟩,h7⟩,h8⟩ := ht;have h5 := aP h5;have hfo : P.fieldsOf t = fs := by simp [Program.fieldsOf,hu]
  have hx2 : ∀ (j : Nat) a,us[j]? = some a → xs[0 + j]? = some (.string ⟨a.toArray⟩) := fun j a ha => by rw [Nat.zero_add,← iM,h3];simp [ha]
  have hy2 : ∀ (j : Nat) a,bs[j]? = some a → ys[0 + j]? = some (.string ⟨a.toArray⟩) := fun j a ha => by rw [Nat.zero_add,← iM,h4];simp [ha]
  have key := AJ w 9998 fs.toList 0 xs ys us bs h6 (by simp;omega) (by omega) hx2 hy2
  have he : (Op.equalIn 10000 t (.agg xs) (.agg ys)).run P w = .ok (decide (us = bs)) w := by
    rw [run_equalIn_struct w 9999 t xs ys (by rw [hfo];exact hu) h7,hfo];exact key
  simp [execOp,e1,e2,run_eqGuard_agg w .eql t x y xs ys h8,run_eql_struct,he]
theorem UD {t t2 : TypeId} {x y : Operand} {a b a' b' : List UInt8} (ht : mH P t 2) (hx : evu env x = some (.agg [AV.s a,AV.s b])) (hy : evu env y = some (.agg [AV.s a',AV.s b'])) :
    bR P ⟨d,.binOp .eql t x y t2,ty,pos,af,g⟩ env h 0 (fun _ => .b (decide ((a,b) = (a',b')))) (fun _ => []) := by
  have e : decide ((a,b) = (a',b')) = decide ([a,b] = [a',b']) := by simp
  rw [e];exact KN (us := [a,b]) (bs := [a',b']) ht hx hy rfl rfl
end
end Go.Ab
namespace Go.Proofs.YtdmajnjoeidgeaaGreat
open Go Go.Ab Go.Fl Go.Shelf Go.Proofs Go.MapKept
attribute [local irreducible] VC AW bR bQ fT mH BC
set_option maxHeartbeats 4000000
shelf_lay Lays.n137 Nm 137 at Tryz as laysIdx
theorem LD {P : Program} {f : FuncId} {xs : List AV} {res : AV} (hfn : ∃ fn, P.funcs[f]? = some fn ∧ (fn.name == "runtime.NumGoroutine") = false ∧ fn.body.isNone = false)
    (hs : ∀ (ρ : Pl) S w vs,pL S w → RL S w xs ρ vs → Calls P f vs.toArray w fun e w' => ∃ y,e = .returned y ∧ RowKit.Below w.heap.size w w' ∧ ∀ S' ρ',R S' w' res ρ' y) : bQ P f xs [] res [] := by
  with_unfolding_all exact ⟨hfn,fun ρ S w vs s ha => (hs ρ S w vs s.glob ha).mono fun e w' ⟨y,he,hb,hR⟩ => ⟨y,ρ,S,he,s.kept (QB hb),hR S ρ⟩⟩
theorem zB4 (l : List UInt8) (e : UInt8) : bQ Tryz.prog 97 [.s l,.v (.int .u8 e.toNat)] [] (.i (Lib.indexByte l e)) [] :=
  LD ⟨_,Tryz.func97,by kernel_rfl,by kernel_rfl⟩ fun ρ S w vs _ ha => by
    simp only [RL,R] at ha;obtain ⟨y,ys,rfl,rfl,z,zs,rfl,rfl,rfl⟩ := ha;refine (Any.strings_IndexByte laysIdx ⟨l.toArray⟩ (e.toNat : Int) w).mono fun e' w' ⟨h1,h2⟩ => ⟨_,h1,by rw [h2];exact RowKit.Below.refl _ _,fun S' ρ' => ?_⟩
    simp [R]
theorem W4 : BC Tryz.prog 9 := by unfold BC;kernel_rfl
abbrev QW : AV → Hp → Prop := fun r o => o = [] ∧ ∃ b,r = .b b
abbrev zJ0 : AV → Hp → Prop := fun r o => o = [] ∧ ∃ n,r = .i n
theorem zM8 {s : List UInt8} {k : Nat} (h : k < s.length) : s[(k : Int).toNat]? = some s[k] := by simp [h]
theorem EW (s : List UInt8) (hl : s.length ≤ 9223372036854775807) : fT Tryz.prog 55 [.s s] [] QW := by
  refine mM T Tryz.func55 rfl rfl rfl rfl ?_;cases s with
  | nil =>
    (repeat' (first|refine wS ?_|refine wR ?_|refine wT ?_|(refine rg 0 (aV ?_))|(refine rg 1 (mW rfl (vV (vY W4 rfl) (vV (aL rfl rfl (by decide)) (mV ?_))));(iterate 3 refine gF ?_);refine pW rfl (mV ?_);(iterate 4 refine gF ?_);(iterate 3 refine gU ?_);refine gF (pV ?_))|(refine rg 2 (aV ?_))|refine nZ ?_));all_goals exact ⟨_,_,⟨rfl,_,rfl⟩,rQ⟩
  | cons c t =>
    generalize hs : c :: t = s at *;have h1 : 1 ≤ s.length := by rw [← hs];simp
    have hc : s[(0 : Int).toNat]? = some c := by rw [← hs];rfl
    (repeat' (first|refine wS ?_|refine wB ?_|refine wK ?_|refine wR ?_|refine wT ?_|refine wU ?_|(refine wC rfl ?_ ?_<;>(intro hb;(try simp only [nm] at hb);try (exfalso;omega)))|(refine rg 0 (aV ?_))|(refine rg 1 (mW rfl (vV (vY W4 rfl) (vV (bX rfl rfl) (mV ?_))));refine aO rfl rfl ?_ ?_<;>(intro hb;rw [hb];(try simp only [nm] at hb);try (exfalso;omega));(all_goals (refine yN rfl (yV (vY W4 rfl) (yV (eS rfl rfl) (pW rfl (mV ?_))));refine aO rfl rfl ?_ ?_<;>(intro hb;rw [hb];(try simp only [nm] at hb);try (exfalso;omega))));(all_goals first|(refine gT (mW rfl (gT (vV (by exact O9 W4 rfl rfl (by decide) hc) ?_)));refine gT (vV (gS rfl rfl) (gT (mV ?_))))|(iterate 4 refine gF ?_));(all_goals first|(refine gK ?_)|(refine aO rfl rfl ?_ ?_<;>(intro hb;rw [hb];(try simp only [nm] at hb);try (exfalso;omega))));(all_goals first|(refine gT (mW rfl (gT (vV (by exact O9 W4 rfl rfl (by decide) hc) ?_)));refine gT (vV (lF rfl rfl) ?_))|((iterate 3 first|refine gF ?_|refine gU ?_)));(all_goals first|(refine gT (pV ?_))|(refine gF ?_));(all_goals (refine pV ?_)))|(refine rg 2 (aV ?_))|(refine rg 3 (mW rfl (vV (vY W4 rfl) (mV ?_))))|refine nZ ?_));all_goals first | (exfalso;omega) | exact ⟨_,_,⟨rfl,_,rfl⟩,rQ⟩ | skip
    all_goals
      refine bV (X := {k : Nat // k ≤ s.length}) (fun k => [(0,.s s),(23,.i s.length),(24,.i k.1)]) (fun _ => []) (fun k => s.length - k.1) ⟨0,by omega⟩ (eI []) ?_
      rintro ⟨k,hk⟩;dsimp only;by_cases hlt : k < s.length
      · have q1 := zM8 hlt;have hi := zB4 ("abcdefghijklmnopqrstuvwxyzABCDEFGHIJKLMNOPQRSTUVWXYZ0123456789_-".toUTF8.toList) s[k]
        (repeat' (first|refine wS ?_|refine wB ?_|refine wK ?_|refine wR ?_|(refine wC rfl ?_ ?_<;>(intro hb;(try simp only [nm] at hb);try (exfalso;omega)))|(refine rg 4 (vV (bX rfl rfl) ?_))|(refine rg 5 (mW rfl (aV ?_)))|(refine rg 6 (eX rfl (vV (by exact O9 W4 rfl rfl (by omega) q1) ?_));refine vV (by exact yB9 rfl rfl (zB4 _ s[k]) rfl rfl rfl) ?_;refine vV (bX rfl rfl) ?_)|(refine rg 7 (aV ?_))|(refine rg 8 (vV (bP rfl rfl (by omega) (by omega)) (mV ?_)))|refine nZ ?_));all_goals first | (exfalso;omega) | exact ⟨_,_,⟨rfl,_,rfl⟩,rQ⟩ | exact ⟨⟨k + 1,by omega⟩,by dsimp only;omega,eI []⟩
      · (repeat' (first|refine wS ?_|refine wR ?_|refine wE ?_|(refine wC rfl (fun hb => ?_) (fun hb => ?_) <;> (((try simp only [nm] at hb);try (exfalso;omega))))|(refine rg 4 (vV (bX rfl rfl) ?_))|(refine rg 9 (aV ?_))|(refine nZ ?_)));all_goals first | (exfalso;omega) | exact ⟨_,_,⟨rfl,_,rfl⟩,rQ⟩
theorem CI (n f t : Int) : bQ Tryz.prog 56 [.i n,.i f,.i t] [] (.b (jS n f t)) [] := by
  refine dD T Tryz.func56 rfl rfl rfl rfl ?_;unfold jS;by_cases h : f ≤ n
  · rw [decide_eq_true h,vE]
    (repeat' (first|refine wS ?_|refine wR ?_|(refine rg 0 (aV ?_))|(refine rg 1 (eX rfl (vV (mO rfl rfl h) (mW rfl (yN rfl (yN rfl (yV (lF rfl rfl) (pW rfl (aV ?_)))))))))|refine nZ ?_));all_goals first | (exfalso;omega) | exact rQ
  · rw [decide_eq_false h,tB]
    (repeat' (first|refine wS ?_|refine wR ?_|(refine rg 0 (aV ?_))|(refine rg 1 (eX rfl (vV (kG rfl rfl (by omega)) (mV ?_)));(iterate 3 refine gF ?_);refine pW rfl (aV ?_))|refine nZ ?_));all_goals first | (exfalso;omega) | exact rQ
def xN (k : Int) : Bool := decide (k = 1 ∨ k = 2)
theorem GK (k : Int) : bQ Tryz.prog 101 [.i k] [] (.b (xN k)) [] := by
  refine dD T Tryz.func101 rfl rfl rfl rfl ?_;unfold xN
  (repeat' (first|refine wS ?_|refine wR ?_|(refine rg 0 (aV ?_))|(refine rg 1 (mW rfl (vV (gD rfl rfl) (mV ?_)));refine aO rfl rfl ?_ ?_<;>(intro hb;rw [hb];(try simp only [nm] at hb);try (exfalso;omega));(all_goals first|(refine gT (mW rfl (gT (vV (gD rfl rfl) ?_))))|(iterate 2 refine gF ?_));(all_goals (refine pW rfl (aV ?_))))|refine nZ ?_));all_goals first | (exfalso;omega) | (refine gV (.inl rfl) rfl (xF ?_);simp [*])
theorem WH (k : Int) : fT Tryz.prog 99 [.i k] [] QW := by
  refine mM T Tryz.func99 rfl rfl rfl rfl ?_
  (repeat' (first|refine wS ?_|refine wR ?_|(refine rg 0 (aV ?_))|(refine rg 1 (mW rfl (vV (gW rfl rfl) (mV ?_)));refine aO rfl rfl ?_ ?_<;>(intro hb;rw [hb];(try simp only [nm] at hb);try (exfalso;omega));(all_goals first|(refine gT (mW rfl (gT (vV (gW rfl rfl) ?_))))|(iterate 2 refine gF ?_));(all_goals (refine pW rfl (mV ?_)));(all_goals first|(refine gK ?_)|(refine aO rfl rfl ?_ ?_<;>(intro hb;rw [hb];(try simp only [nm] at hb);try (exfalso;omega))));(all_goals first|(refine gT (mW rfl (gT (vV (gW rfl rfl) ?_))))|(iterate 2 refine gF ?_));(all_goals (refine pW rfl (aV ?_))))|refine nZ ?_));all_goals first | (exfalso;omega) | exact ⟨_,_,⟨rfl,_,rfl⟩,rQ⟩
theorem zE0 (l : List (Int × Int)) (hl : l.length ≤ 9223372036854775807) : fT Tryz.prog 57 [.rowE (kD l) 2] [] QW := by
  have hlen : (kD l).length = l.length := by simp
  refine mM T Tryz.func57 rfl rfl rfl rfl ?_
  (repeat' (first|refine wS ?_|refine wB ?_|(refine rg 0 (aV ?_))|(refine rg 1 (aV ?_))|(refine rg 2 (mW rfl (qW T rfl (mV ?_))))|refine nZ ?_));refine bV (X := {k : Nat // k ≤ l.length} × Int) (fun k => [(0,.rowE (kD l) 2),(3,.i k.2),(6,.rowE (kD l) 2),(7,.i (kD l).length),(8,.i k.1.1)]) (fun _ => []) (fun k => l.length - k.1.1) ⟨⟨0,by omega⟩,0⟩ (eI []) ?_
  rintro ⟨⟨k,hk⟩,last⟩;dsimp only;by_cases hlt : k < l.length
  · have q1 := EL (l := l) (j := (k : Int)) hlt rfl;generalize (l.getD k (0,0)).1 = a at *;generalize (l.getD k (0,0)).2 = b at *
    (repeat' (first|refine wS ?_|refine wB ?_|refine wK ?_|refine wR ?_|refine wT ?_|(refine wC rfl ?_ ?_<;>(intro hb;(try simp only [nm] at hb);try (exfalso;omega)))|(refine rg 3 (vV (bX rfl rfl) ?_))|(refine rg 4 (vV (ix T rfl (by omega) (rC l) q1) (lW T rfl (bH (cX T rfl) rfl (bJ T rfl rfl rfl rfl rfl rfl (by decide) rfl ?_)))))|(refine rg 5 (eK T rfl (mW rfl (vV (bX rfl rfl) (mV ?_))));refine aO rfl rfl ?_ ?_<;>(intro hb;rw [hb];(try simp only [nm] at hb);try (exfalso;omega));(all_goals first|(refine gT (fW T rfl (gT (lW T rfl (gT (fW T rfl (gT (lW T rfl (gT (vV (gS rfl rfl) ?_))))))))))|(iterate 5 refine gF ?_));(all_goals (refine pW rfl (mV ?_)));(all_goals first|(refine gK ?_)|(refine aO rfl rfl ?_ ?_<;>(intro hb;rw [hb];(try simp only [nm] at hb);try (exfalso;omega))));(all_goals first|(refine gT (fW T rfl (gT (lW T rfl (gT (vV (eS rfl rfl) ?_))))))|(iterate 3 refine gF ?_));(all_goals (refine pV ?_)))|(refine rg 6 (aV ?_))|(refine rg 7 (eK T rfl (aV ?_)))|(refine rg 8 (vV (bP rfl rfl (by omega) (by omega)) (mV ?_)))|refine nZ ?_));all_goals first | (exfalso;omega) | exact ⟨_,_,⟨rfl,_,rfl⟩,rQ⟩ | exact ⟨⟨⟨k + 1,by omega⟩,b⟩,by dsimp only;omega,eI []⟩
  · (repeat' (first|refine wS ?_|refine wR ?_|refine wE ?_|(refine wC rfl (fun hb => ?_) (fun hb => ?_) <;> (((try simp only [nm] at hb);try (exfalso;omega))))|(refine rg 3 (vV (bX rfl rfl) ?_))|(refine rg 9 (aV ?_))|(refine nZ ?_)));all_goals first | (exfalso;omega) | exact ⟨_,_,⟨rfl,_,rfl⟩,rQ⟩
theorem zI5 : mH Tryz.prog 94 2 := by unfold mH;kernel_rfl
theorem V5 (l : List (List UInt8 × List UInt8)) : ∀ e,e ∈ pR l → e.length = 2 := by intro e he;obtain ⟨n,_,rfl⟩ := aQ.1 he;rfl
theorem FT {l : List (List UInt8 × List UInt8)} {k : Nat} (h : k < l.length) : (pR l)[(k : Int).toNat]? = some [AV.s l[k].1,AV.s l[k].2] := by simp [h]
def CA : List (List UInt8 × List UInt8) → List UInt8 × List UInt8 → Int → Int
  | [],_,_ => -1
  | x :: r,v,k => if v = x then k else CA r v (k + 1)
theorem HW : ∀ (l : List (List UInt8 × List UInt8)) (v : List UInt8 × List UInt8) (k : Int), 0 ≤ k → (0 ≤ CA l v k ↔ v ∈ l)
  | [],v,k,_ => by simp [CA]
  | x :: r,v,k,hk => by
    simp only [CA];split
    · rename_i e;subst e;simp [hk]
    · rename_i e;rw [HW r v (k + 1) (by omega)]
      simp [e]
theorem PU {l : List (List UInt8 × List UInt8)} {v : List UInt8 × List UInt8} {k : Nat} (h : k < l.length) : CA (l.drop k) v k = if v = l[k] then (k : Int) else CA (l.drop (k + 1)) v ((k + 1 : Nat) : Int) := by
  rw [bK h];simp [CA]
theorem TU (l : List (List UInt8 × List UInt8)) (a b : List UInt8) (hl : l.length ≤ 9223372036854775807) : bQ Tryz.prog 143 [.rowE (pR l) 2,.agg [.s a,.s b]] [] (.i (CA l (a,b) 0)) [] := by
  have hlen : (pR l).length = l.length := by simp
  refine dD T Tryz.func143 rfl rfl rfl rfl ?_
  (repeat' (first|refine wS ?_|refine wB ?_|(refine rg 0 (bH (bN rfl rfl) rfl (aV ?_)))|(refine rg 1 (mW rfl (qW T rfl (mV ?_))))|refine nZ ?_));refine bV (X := {k : Nat // k ≤ l.length ∧ CA l (a,b) 0 = CA (l.drop k) (a,b) k}) (fun k => [(0,.rowE (pR l) 2),(3,.ptr 0 0),(7,.i (pR l).length),(8,.i k.1)]) (fun _ => [.cells [.s a,.s b]]) (fun k => l.length - k.1) ⟨0,by simp,rfl⟩ (eI [0]) ?_
  rintro ⟨k,hk,hf⟩;dsimp only;by_cases hlt : k < l.length
  · have hd := PU (v := (a,b)) hlt;have q1 := FT hlt;rw [hd] at hf;generalize l[k] = y at *;obtain ⟨y1,y2⟩ := y
    repeat' (first|refine wS ?_|refine wB ?_|refine wK ?_|refine wR ?_|refine wT ?_|(refine wC rfl ?_ ?_<;>(intro hb;(try simp only [nm] at hb);try (exfalso;omega)))|(refine rg 2 (vV (aL rfl rfl (by omega)) ?_))|(refine rg 3 (mW rfl (aV ?_)))|(refine aN (id := 4) 19 [[],[],[],[1,2],[1,2,3],rN 5] (rM 11 6) [[],[11],[11,12],[11],[11],[]] bM rfl (by decide +kernel) (dO T rfl (dN rfl (dN rfl (dV rfl (ix T rfl (by omega) (V5 l) q1) (dO T rfl (dV rfl (UD zI5 rfl rfl) (dE ?_))))))))|(refine rg 5 (mW rfl (aV ?_)))|(refine rg 6 (vV (bP rfl rfl (by omega) (by omega)) (mV ?_)))|refine nZ ?_)
    · refine gV (.inl rfl) rfl ?_;rw [hf,if_pos hb];rfl
    · refine ⟨⟨k + 1,by omega,?_⟩,by dsimp only;omega,eI [0]⟩
      rw [hf,if_neg hb]
  · (repeat' (first|refine wS ?_|refine wR ?_|refine wE ?_|refine iB rfl ?_|(refine rg 2 (vV (bG rfl rfl (by omega)) ?_))|(refine rg 7 (aV ?_))|(refine nZ ?_)));refine gV (.inl rfl) rfl ?_
    rw [hf,fK (by omega)];rfl
theorem S6 (l : List (List UInt8 × List UInt8)) (a b : List UInt8) (hl : l.length ≤ 9223372036854775807) : bQ Tryz.prog 127 [.rowE (pR l) 2,.agg [.s a,.s b]] [] (.b (decide ((a,b) ∈ l))) [] := by
  refine dD T Tryz.func127 rfl rfl rfl rfl ?_
  (repeat' (first|refine wS ?_|refine wR ?_|(refine rg 0 (bH (bN rfl rfl) rfl (aV ?_)))|(refine rg 1 (mW rfl (lW T rfl (vV (kC (TU l a b hl)) (vV (gS rfl rfl) (aV ?_))))))|refine nZ ?_));refine gV (.inl rfl) rfl (xF ?_)
  rw [EF];simp only [decide_eq_true_eq];exact HW l (a,b) 0 (by omega)
def FU (l : List (List UInt8 × List UInt8)) (a b : List UInt8) : Bool := decide (a ≠ [] ∧ b ≠ [] ∧ ((a,b) ∈ l ∨ (b,a) ∈ l))
theorem OA (l : List (List UInt8 × List UInt8)) (a b : List UInt8) (hl : l.length ≤ 9223372036854775807) : bQ Tryz.prog 100 [.rowE (pR l) 2,.s a,.s b] [] (.b (FU l a b)) [] := by
  have c1 := S6 l a b hl;have c2 := S6 l b a hl;unfold FU;refine dD T Tryz.func100 rfl rfl rfl rfl ?_
  (repeat' (first|refine wS ?_|refine wK ?_|refine wR ?_|refine wT ?_|(refine wC rfl ?_ ?_<;>(intro hb;(try simp only [nm] at hb);try (exfalso;omega)))|(refine rg 0 (aV ?_))|(refine rg 1 (mW rfl (vV (NF rfl rfl) (mV ?_)));refine aO rfl rfl ?_ ?_<;>(intro hb;rw [hb];(try simp only [nm] at hb);try (exfalso;omega));(all_goals first|(refine gT (mW rfl (gT (vV (NF rfl rfl) ?_))))|(iterate 2 refine gF ?_));(all_goals (refine pV ?_)))|(refine rg 2 (aV ?_))|(refine rg 3 (eX rfl (mW rfl (vV (by exact gG T rfl rfl rfl rfl) ?_)));refine vV (kC (c1)) (mV ?_);refine aO rfl rfl ?_ ?_<;>(intro hb;rw [hb];(try simp only [nm] at hb);try (exfalso;omega));(all_goals first|(refine gT (mW rfl (gT (mW rfl (gT (mW rfl (gT (vV (by exact gG T rfl rfl rfl rfl) ?_)))))));refine gT (vV (kC (c2)) ?_))|(iterate 5 refine gF ?_));(all_goals (refine pW rfl (aV ?_))))|refine nZ ?_));all_goals (refine gV (.inl rfl) rfl (xF ?_);simp_all)
def Z6 (f : jD) (c : Int) : Bool := decide (0 ≤ c ∧ c < f.k.length)
def xZ (f : jD) (c : Int) : Int := if 0 ≤ c ∧ c < f.k.length then f.k.getD c.toNat 0 else 0
theorem J1 (f : jD) (rest : List AV) (c : Int) : bQ Tryz.prog 98 [.pr (jM f ++ rest) 0,.i c] [] (.tup [.i (xZ f c),.b (Z6 f c)]) [] := by
  have hkl : (aI f.k).length = f.k.length := aR _;unfold xZ Z6;refine dD T Tryz.func98 rfl rfl rfl rfl ?_;by_cases hc : 0 ≤ c ∧ c < f.k.length
  · rw [if_pos hc,decide_eq_true hc];have q1 := eY (l := f.k) (j := c) (i := c.toNat) 0 (by omega) (by omega)
    generalize f.k.getD c.toNat 0 = x at *
    (repeat' (first|refine wS ?_|refine wK ?_|refine wR ?_|refine wU ?_|(refine rg 0 (iZ ?_))|(refine rg 1 (mW rfl (vV (bG rfl rfl (by omega)) (mW rfl (yN rfl (yN rfl (gT (nV ?_)))))));refine yP T rfl (yP T rfl (yP T rfl (yO T rfl (gT (qW T rfl (yV (kG rfl rfl (by omega)) (pV ?_))))))))|(refine rg 3 (mW rfl (nV ?_));refine fW T rfl (fW T rfl (eK T rfl (mW rfl (vV (ix T rfl (by omega) (aE _) q1) (lW T rfl (iZ ?_)))))))|refine nZ ?_));all_goals first | (exfalso;omega) | exact rQ
  · rw [if_neg hc,decide_eq_false hc];by_cases h0 : c < 0
    · (repeat' (first|refine wS ?_|refine wR ?_|refine iY rfl ?_|(refine rg 0 (iZ ?_))|(refine rg 1 (mW rfl (vV (aL rfl rfl h0) (mV ?_)));(iterate 9 refine gF ?_);refine pV ?_)|(refine rg 2 (iZ ?_))|(refine nZ ?_)));all_goals first | (exfalso;omega) | exact rQ
    · (repeat' (first|refine wS ?_|refine wR ?_|refine iY rfl ?_|(refine rg 0 (iZ ?_))|(refine rg 1 (mW rfl (vV (bG rfl rfl (by omega)) (mW rfl (yN rfl (yN rfl (gT (nV ?_)))))));refine yP T rfl (yP T rfl (yP T rfl (yO T rfl (gT (qW T rfl (yV (mO rfl rfl (by omega)) (pV ?_))))))))|(refine rg 2 (iZ ?_))|(refine nZ ?_)));all_goals first | (exfalso;omega) | exact rQ
theorem TG (f : jD) (rest : List AV) (l : List Int) (hl : l.length ≤ 9223372036854775807) : fT Tryz.prog 58 [.pr (jM f ++ rest) 0,.rowE (aI l) 1] [] (fun r o => o = [] ∧ ∃ b,r = .b b ∧ (b = true → ∀ c,c ∈ l → 0 ≤ c ∧ c < f.k.length)) := by
  have hlen : (aI l).length = l.length := aR _;refine mM T Tryz.func58 rfl rfl rfl rfl ?_
  (repeat' (first|refine wS ?_|refine wB ?_|(refine rg 0 (aV ?_))|(refine rg 1 (mW rfl (qW T rfl (mV ?_))))|refine nZ ?_));refine bV (X := {k : Nat // k ≤ l.length ∧ ∀ j,j < k → Z6 f (l.getD j 0) = true}) (fun k => [(0,.pr (jM f ++ rest) 0),(1,.rowE (aI l) 1),(9,.rowE (aI l) 1),(10,.i (aI l).length),(11,.i k.1)]) (fun _ => []) (fun k => l.length - k.1) ⟨0,by omega,fun j hj => absurd hj (dJ _)⟩ (eI []) ?_
  rintro ⟨k,hk,hp⟩;dsimp only;by_cases hlt : k < l.length
  · have q1 := eY (l := l) (j := (k : Int)) 0 hlt rfl;have q0 : 0 < k → (aI l)[((k : Int) - 1).toNat]? = some [AV.i (l.getD (k - 1) 0)] := fun h0 => eY 0 (by omega) (by omega)
    have hc := J1 f rest (l.getD k 0);by_cases hin : Z6 f (l.getD k 0) = true
    · have hnx : ∀ j,j < k + 1 → Z6 f (l.getD j 0) = true := fun j hj => by
        by_cases e : j = k
        · rw [e];exact hin
        · exact hp j (by omega)
      rw [hin] at hc;generalize l.getD k 0 = c at *;generalize l.getD (k - 1) 0 = c' at *;generalize xZ f c = x at *;by_cases h0 : 0 < k
      · have q0 := q0 h0
        (repeat' (first|refine wS ?_|refine wB ?_|refine wK ?_|refine wR ?_|(refine wC rfl ?_ ?_<;>(intro hb;(try simp only [nm] at hb);try (exfalso;omega)))|(refine rg 2 (vV (bX rfl rfl) ?_))|(refine rg 3 (mW rfl (vV (ix T rfl (by omega) (aE _) q1) (lW T rfl (iZ ?_)))))|(refine rg 4 (eX rfl (vV (kC (hc)) (mW rfl (xW rfl (xW rfl (iZ ?_)))))))|(refine rg 5 (mW rfl (vV (bB rfl) (mW rfl (yN rfl (yV (eS rfl rfl) (yM ?_))))));refine aO rfl rfl ?_ ?_<;>(intro hb;rw [hb];(try simp only [nm] at hb);try (exfalso;omega));(all_goals (refine yN rfl (yN rfl (yV (fN rfl rfl (by omega) (by omega)) (yV (ix T rfl (by omega) (aE _) q0) (yO T rfl (yN rfl (yV (gS rfl rfl) (gT (pW rfl (pV ?_))))))))))))|(refine rg 6 (aV ?_))|(refine rg 7 (vV (bP rfl rfl (by omega) (by omega)) (mV ?_)))|refine nZ ?_));all_goals first | (exfalso;omega) | exact ⟨.b false,[],⟨rfl,false,rfl,fun h => Bool.noConfusion h⟩,rQ⟩ | exact ⟨⟨k + 1,hlt,hnx⟩,by dsimp only;omega,eI []⟩
      · (repeat' (first|refine wS ?_|refine wB ?_|refine wK ?_|refine iB rfl ?_|(refine wC rfl (fun hb => ?_) (fun hb => ?_) <;> (((try simp only [nm] at hb);try (exfalso;omega))))|(refine rg 2 (vV (bX rfl rfl) ?_))|(refine rg 3 (mW rfl (vV (ix T rfl (by omega) (aE _) q1) (lW T rfl (iZ ?_)))))|(refine rg 4 (eX rfl (vV (kC (hc)) (mW rfl (xW rfl (xW rfl (iZ ?_)))))))|(refine rg 5 (mW rfl (vV (bB rfl) (mW rfl (yN rfl (yV (rL rfl rfl (by omega)) (yM ?_))))));(iterate 7 refine gF ?_);refine gT (pW rfl (pV ?_)))|(refine rg 7 (vV (bP rfl rfl (by omega) (by omega)) (mV ?_)))|(refine nZ ?_)));all_goals first | (exfalso;omega) | exact ⟨.b false,[],⟨rfl,false,rfl,fun h => Bool.noConfusion h⟩,rQ⟩ | exact ⟨⟨k + 1,hlt,hnx⟩,by dsimp only;omega,eI []⟩
    · have hin : Z6 f (l.getD k 0) = false := by simpa using hin
      rw [hin] at hc;generalize l.getD k 0 = c at *;generalize xZ f c = x at *
      (repeat' (first|refine wS ?_|refine wB ?_|refine wK ?_|refine wR ?_|refine wT ?_|(refine wC rfl ?_ ?_<;>(intro hb;(try simp only [nm] at hb);try (exfalso;omega)))|(refine rg 2 (vV (bX rfl rfl) ?_))|(refine rg 3 (mW rfl (vV (ix T rfl (by omega) (aE _) q1) (lW T rfl (iZ ?_)))))|(refine rg 4 (eX rfl (vV (kC (hc)) (mW rfl (xW rfl (xW rfl (iZ ?_)))))))|(refine rg 5 (mW rfl (vV (bB rfl) (mV ?_)));(iterate 3 refine gF ?_);(iterate 7 refine gU ?_);refine gF (pV ?_))|(refine rg 6 (aV ?_))|refine nZ ?_));all_goals first | (exfalso;omega) | exact ⟨.b false,[],⟨rfl,false,rfl,fun h => Bool.noConfusion h⟩,rQ⟩
  · (repeat' (first|refine wS ?_|refine wR ?_|refine wE ?_|(refine wC rfl (fun hb => ?_) (fun hb => ?_) <;> (((try simp only [nm] at hb);try (exfalso;omega))))|(refine rg 2 (vV (bX rfl rfl) ?_))|(refine rg 8 (mW rfl (qW T rfl (vV (eS rfl rfl) (aV ?_)))))|(refine nZ ?_)));all_goals first | (exfalso;omega) | skip
    all_goals
      refine ⟨_,_,⟨rfl,_,rfl,fun _ c hc => ?_⟩,rQ⟩
      obtain ⟨j,hj,rfl⟩ := eE.1 hc;have := hp j (by omega)
      rw [aH,aB hj] at this;unfold Z6 at this;simpa using this
theorem QK (f : jD) (rest : List AV) (hl : f.k.length ≤ 9223372036854775807) : fT Tryz.prog 65 [.pr (jM f ++ rest) 0] [] QW := by
  have hc := F7 f.k 3 hl;refine mM T Tryz.func65 rfl rfl rfl rfl ?_
  (repeat' (first|refine wS ?_|refine wR ?_|(refine rg 0 (aV ?_))|(refine rg 1 (mW rfl (nV ?_));refine fW T rfl (fW T rfl (eK T rfl (vV (kC (hc)) (aV ?_)))))|refine nZ ?_));all_goals exact ⟨_,_,⟨rfl,_,rfl⟩,rQ⟩
def nX (n : Nat) : List AV := (List.range n).map fun (i : Nat) => AV.i (i : Int)
theorem EP {n i : Nat} (h : i < n) : (nX n)[i]? = some (.i (i : Int)) := by unfold nX;simp [h]
theorem iK (l : List Int) : ∀ q,q ∈ l.map kI → IsKey (.int .i64) q := by
  intro q hq;obtain ⟨n,_,rfl⟩ := aQ.1 hq;rfl
theorem tW {l : List Int} (h : l.Nodup) : (l.map kI).Nodup := h.map _ (fun a b hab e => hab (by simpa using e))
theorem nP {l : List Int} {n : Int} : kI n ∈ l.map kI ↔ n ∈ l := by
  rw [aQ];constructor
  · rintro ⟨a,ha,e⟩;simp at e;subst e;exact ha
  · intro h;exact ⟨n,h,rfl⟩
theorem vU {l : List Int} {n : Int} (h : n ∈ l) : ∃ i : Nat,i < l.length ∧ (l.map kI)[i]? = some (kI n) := by
  obtain ⟨i,hi⟩ := cU.1 h;exact ⟨i,(aA.1 hi).1,by simp [hi]⟩
theorem jL : mU Tryz.prog 3 (IsKey (.int .i64)) := mU.int (by kernel_rfl)
theorem T4 : ∀ w,(zeroValue 3).run Tryz.prog w = .ok (.int .i64 0) w := zO (by kernel_rfl)
theorem LS : ∀ w,(zeroValue 4).run Tryz.prog w = .ok (.bool false) w := zO (by kernel_rfl)
theorem mB : Tryz.prog.underlying 72 = some (.map 3 3) := by kernel_rfl
theorem zC : Tryz.prog.underlying 111 = some (.map 3 4) := by kernel_rfl
theorem zN (l : List IY) : ∀ e,e ∈ nC l → e.length = 5 := by intro e he;obtain ⟨n,_,rfl⟩ := aQ.1 he;rfl
theorem V8 {l : List IY} {k : Nat} (h : k < l.length) : (nC l)[(k : Int).toNat]? = some (BR l[k]) := by simp [h]
theorem UW (f : jD) (z : IY) (hz : ∀ c,c ∈ z.2.1 → 0 ≤ c ∧ c < f.k.length) (hzl : z.2.1.length ≤ 9223372036854775807) (r1 r2 r3 r4 : AV) (ks : List Int) (hnd : ks.Nodup) (rest : List AV) :
    fT Tryz.prog 105 [.agg (BR z),.pr [.pr (jM f ++ r1 :: r2 :: r3 :: r4 :: .mrow (ks.map kI) (nX ks.length) :: rest) 0] 0] [] QW := by
  obtain ⟨nm,cs,sp,kp,sh⟩ := z;dsimp only at *;have hlen : (aI cs).length = cs.length := aR _;refine mM T Tryz.func105 rfl rfl rfl rfl ?_
  (repeat' (first|refine wS ?_|refine wB ?_|(refine rg 0 (bH (bN rfl rfl) rfl (aV ?_)))|(refine rg 1 (aV ?_))|(refine rg 2 (eK T rfl (qW T rfl (mV ?_))))|refine nZ ?_));refine bV (X := {p : Nat × Nat // p.1 ≤ cs.length ∧ p.2 ≤ p.1}) (fun k => [(1,.pr [.pr (jM f ++ r1 :: r2 :: r3 :: r4 :: .mrow (ks.map kI) (nX ks.length) :: rest) 0] 0),(2,.ptr 0 0),(4,.i k.1.2),(10,.rowE (aI cs) 1),(11,.i (aI cs).length),(12,.i k.1.1)]) (fun _ => [.cells (BR (nm,cs,sp,kp,sh))]) (fun k => cs.length - k.1.1) ⟨(0,0),by dsimp only;omega,by dsimp only;omega⟩ (eI [0]) ?_
  rintro ⟨⟨k,n⟩,hk,hn⟩;dsimp only at *;by_cases hlt : k < cs.length
  · have q1 := eY (l := cs) (j := (k : Int)) 0 hlt rfl;obtain ⟨hc1,hc2⟩ := hz (cs.getD k 0) (by rw [aH,aB hlt];exact dB hlt)
    have q2 := eY (l := f.k) (j := cs.getD k 0) (i := (cs.getD k 0).toNat) 0 (by omega) (by omega)
    generalize cs.getD k 0 = c at *;generalize f.k.getD c.toNat 0 = x at *;have hs := GK x;generalize xN x = y at *;by_cases hm : c ∈ ks
    · obtain ⟨i,hi,hi2⟩ := vU hm;have hv := EP hi
      (repeat' (first|refine wS ?_|refine wB ?_|refine wK ?_|refine wT ?_|refine wU ?_|(refine rg 3 (vV (aL rfl rfl (by omega)) ?_))|(refine rg 4 (vV (ix T rfl (by omega) (aE _) q1) (lW T rfl (aV ?_))))|(refine rg 5 (lW T rfl (nV ?_));refine eK T rfl (mW rfl (vV (by exact oP mB jL rfl rfl (gC _) (iK ks) (eR _) (tW hnd) hi2 hv rfl) ?_));refine mW rfl (xW rfl (xW rfl (iZ ?_))))|(refine rg 6 (mW rfl (vV (bB rfl) (mV ?_)));(iterate 10 refine gF ?_);refine pV ?_)|(refine rg 8 (vV (bP rfl rfl (by omega) (by omega)) (mV ?_)))|refine nZ ?_));all_goals first | (exfalso;omega) | exact ⟨⟨(k + 1,n),by dsimp only;omega,by dsimp only;omega⟩,by dsimp only;omega,eI [0]⟩
    · cases y
      · (repeat' (first|refine wS ?_|refine wB ?_|refine wK ?_|refine iY rfl ?_|refine iB rfl ?_|(refine rg 3 (vV (aL rfl rfl (by omega)) ?_))|(refine rg 4 (vV (ix T rfl (by omega) (aE _) q1) (lW T rfl (aV ?_))))|(refine rg 5 (lW T rfl (nV ?_));refine eK T rfl (mV ?_);refine vV (by exact oO (zA := .i 0) mB jL T4 (fun _ _ _ => iI _) rfl rfl (gC _) (iK ks) (eR _) (fun e => hm (nP.1 e))) ?_;refine mW rfl (xW rfl (xW rfl (iZ ?_))))|(refine rg 6 (mW rfl (vV (bB rfl) (mW rfl (yO T rfl (gT (nV ?_))))));refine yP T rfl (yP T rfl (yP T rfl (yO T rfl (yN rfl (yV (ix T rfl (by omega) (aE _) q2) (yO T rfl (yV (kC (hs)) (pV ?_)))))))))|(refine rg 8 (vV (bP rfl rfl (by omega) (by omega)) (mV ?_)))|(refine nZ ?_)));all_goals first | (exfalso;omega) | exact ⟨⟨(k + 1,n),by dsimp only;omega,by dsimp only;omega⟩,by dsimp only;omega,eI [0]⟩
      · (repeat' (first|refine wS ?_|refine wB ?_|refine wK ?_|refine iY rfl ?_|(refine rg 3 (vV (aL rfl rfl (by omega)) ?_))|(refine rg 4 (vV (ix T rfl (by omega) (aE _) q1) (lW T rfl (aV ?_))))|(refine rg 5 (lW T rfl (nV ?_));refine eK T rfl (mV ?_);refine vV (by exact oO (zA := .i 0) mB jL T4 (fun _ _ _ => iI _) rfl rfl (gC _) (iK ks) (eR _) (fun e => hm (nP.1 e))) ?_;refine mW rfl (xW rfl (xW rfl (iZ ?_))))|(refine rg 6 (mW rfl (vV (bB rfl) (mW rfl (yO T rfl (gT (nV ?_))))));refine yP T rfl (yP T rfl (yP T rfl (yO T rfl (yN rfl (yV (ix T rfl (by omega) (aE _) q2) (yO T rfl (yV (kC (hs)) (pV ?_)))))))))|(refine iA 7 rfl rfl rfl (by omega) (by omega) ?_)|(refine rg 8 (vV (bP rfl rfl (by omega) (by omega)) (mV ?_)))|(refine nZ ?_)));all_goals first | (exfalso;omega) | exact ⟨⟨(k + 1,n + 1),by dsimp only;omega,by dsimp only;omega⟩,by dsimp only;omega,eI [0]⟩
  · (repeat' (first|refine wS ?_|refine wR ?_|refine wE ?_|refine iB rfl ?_|(refine rg 3 (vV (bG rfl rfl (by omega)) ?_))|(refine rg 9 (mW rfl (eK T rfl (vV (bX rfl rfl) (aV ?_)))))|(refine nZ ?_)));all_goals first | (exfalso;omega) | exact ⟨_,_,⟨rfl,_,rfl⟩,rQ⟩
theorem TR (l : List IY) (fv : AV) (fn : Nat) (hl : l.length ≤ 9223372036854775807) (hfr : fv.idf = true) (hv : ∀ h : Hp,qD h fv fv) (hf : ∀ z,z ∈ l → fT Tryz.prog fn [.agg (BR z),fv] [] QW) :
    fT Tryz.prog 104 [.rowE (nC l) 5,.clo (.func fn) [] [fv]] [] zJ0 := by
  have hlen : (nC l).length = l.length := by simp
  refine mM T Tryz.func104 rfl rfl rfl rfl ?_
  (repeat' (first|refine wS ?_|refine wB ?_|(refine rg 0 (aV ?_))|(refine rg 1 (mW rfl (qW T rfl (mV ?_))))|refine nZ ?_));refine bV (X := {k : Nat // k ≤ l.length}) (fun k => [(0,.rowE (nC l) 5),(1,.clo (.func fn) [] [fv]),(7,.i (nC l).length),(8,.i k.1)]) (fun _ => []) (fun k => l.length - k.1) ⟨0,by omega⟩ ⟨[],rfl,⟨rfl,(congrArg (fun x => some (AV.clo (.func fn) [] [x])) (xX _ fv hfr).symm),rfl,rfl,trivial⟩,trivial,dK,fun _ h => absurd h (dJ _)⟩ ?_
  rintro ⟨k,hk⟩;dsimp only;by_cases hlt : k < l.length
  · have q1 := V8 hlt;have hc := hf l[k] (dB hlt);generalize l[k] = z at *
    (repeat' (first|refine wS ?_|refine wB ?_|refine wK ?_|refine wR ?_|refine wT ?_|(refine wC rfl (fun hb=>?_) (fun hb=>?_)<;>(subst hb))|(refine rg 2 (vV (aL rfl rfl (by omega)) ?_))|(refine rg 3 (mW rfl (aV ?_)))|(refine rg 4 (eX rfl (mW rfl (vV (ix T rfl (by omega) (zN l) q1) (lW T rfl (gI rfl rfl (hc) (.cons (lP _ rfl) (.cons (hv _) .nil)) (by rintro _ ⟨_,rfl⟩;rfl) rfl ?_)))));rintro _ ⟨b,rfl⟩;dsimp only [gJ])|(refine rg 5 (mW rfl (aV ?_)))|(refine rg 6 (vV (bP rfl rfl (by omega) (by omega)) (mV ?_)))|refine nZ ?_));all_goals first | (exfalso;omega) | exact ⟨_,_,⟨rfl,_,rfl⟩,rQ⟩ | exact ⟨⟨k + 1,by omega⟩,by dsimp only;omega,⟨[],rfl,⟨rfl,(congrArg (fun x => some (AV.clo (.func fn) [] [x])) (xX _ fv hfr).symm),rfl,rfl,trivial⟩,trivial,dK,fun _ h => absurd h (dJ _)⟩⟩
  · (repeat' (first|refine wS ?_|refine wR ?_|refine wE ?_|refine iB rfl ?_|(refine rg 2 (vV (bG rfl rfl (by omega)) ?_))|(refine rg 7 (aV ?_))|(refine nZ ?_)));all_goals first | (exfalso;omega) | exact ⟨_,_,⟨rfl,_,rfl⟩,rQ⟩
theorem QG (f : jD) (zs : List IY) (hz : ∀ z,z ∈ zs → (∀ c,c ∈ z.2.1 → 0 ≤ c ∧ c < f.k.length) ∧ z.2.1.length ≤ 9223372036854775807) (hzl : zs.length ≤ 9223372036854775807) (r2 r3 r4 : AV) (ks : List Int) (hnd : ks.Nodup) (rest : List AV) :
    fT Tryz.prog 64 [.pr (jM f ++ .rowE (nC zs) 5 :: r2 :: r3 :: r4 :: .mrow (ks.map kI) (nX ks.length) :: rest) 0] [] zJ0 := by
  have hc := TR zs (.pr [.pr (jM f ++ .rowE (nC zs) 5 :: r2 :: r3 :: r4 :: .mrow (ks.map kI) (nX ks.length) :: rest) 0] 0) 105 hzl rfl (fun _ => .pr _ _) (fun z hm => UW f z (hz z hm).1 (hz z hm).2 _ _ _ _ ks hnd rest);refine mM T Tryz.func64 rfl rfl rfl rfl ?_
  (repeat' (first|refine wS ?_|refine wR ?_|(refine rg 0 (bH (bN rfl rfl) rfl (aV ?_)))|(refine rg 1 (lW T rfl (nV ?_));refine fW T rfl (eK T rfl (vV (by exact qN rfl rfl) ?_));refine gI rfl rfl (hc) (.cons (.row _ _ _) (.cons (.clo .nil (.cons (.ptr rfl (.cons (.pr _ _) .nil)) .nil)) .nil)) (by rintro _ ⟨_,rfl⟩;rfl) rfl ?_;rintro _ ⟨n,rfl⟩;dsimp only [gJ];refine aV ?_)|refine nZ ?_));all_goals exact ⟨_,_,⟨rfl,_,rfl⟩,rQ⟩
theorem QU {f : jD} (g : iL f) (c : Int) : (0 ≤ (M6 f c).1 ∧ (M6 f c).1 ≤ 300) ∧ (0 ≤ (M6 f c).2.1 ∧ (M6 f c).2.1 ≤ 300) ∧ (0 ≤ (M6 f c).2.2 ∧ (M6 f c).2.2 ≤ 300) := by
  unfold M6;split
  · rename_i h;have := L1 g h.1 h.2;have := g.bounds;dsimp only;omega
  · dsimp only;omega
theorem EM {l : List (Int × List UInt8)} {i : Nat} (h : i < l.length) : (pH l)[(i : Int).toNat]? = some [AV.i l[i].1,AV.s l[i].2] := by simp [h]
theorem QS (f : jD) (g : iL f) (aps : List (List UInt8 × List UInt8)) (shs : List (Int × List UInt8)) (hal : aps.length ≤ 9223372036854775807) (hsl : shs.length ≤ 9223372036854775807) (hnd : (shs.map (·.1)).Nodup) (r1 r4 : AV) (rest : List AV) :
    fT Tryz.prog 63 [.pr (jM f ++ r1 :: .rowE (pR aps) 2 :: .rowE (pH shs) 2 :: r4 :: .mrow ((shs.map (·.1)).map kI) (nX shs.length) :: rest) 0] [] zJ0 := by
  have hlen : (pH shs).length = shs.length := by simp
  have hml : (shs.map (·.1)).length = shs.length := by simp
  refine mM T Tryz.func63 rfl rfl rfl rfl ?_
  (repeat' (first|refine wS ?_|refine wB ?_|(refine rg 0 (aV ?_))|(refine rg 1 (mW rfl (nV ?_));refine fW T rfl (eK T rfl (bH (cX T rfl) rfl (bJ T rfl rfl rfl rfl rfl rfl (by decide) rfl ?_))))|(refine rg 2 (mW rfl (nV ?_));refine fW T rfl (eK T rfl (qW T rfl (mV ?_))))|refine nZ ?_));refine bV (X := {k : Nat // k ≤ shs.length}) (fun k => [(0,.pr (jM f ++ r1 :: .rowE (pR aps) 2 :: .rowE (pH shs) 2 :: r4 :: .mrow ((shs.map (·.1)).map kI) (nX shs.length) :: rest) 0),(3,.ptr 0 0),(22,.rowE (pH shs) 2),(23,.i (pH shs).length),(24,.i k.1)]) (fun _ => [.cells (jM f)]) (fun k => shs.length - k.1) ⟨0,by omega⟩ (eI [0]) ?_
  rintro ⟨k,hk⟩;dsimp only;by_cases hlt : k < shs.length
  · have q1 := EM hlt;generalize shs[k].2 = cl at *;generalize shs[k].1 = c0 at *;have hsm := QU g c0;have hA := zB8 g c0;generalize (M6 f c0).1 = xa at *;generalize (M6 f c0).2.1 = xb at *;generalize (M6 f c0).2.2 = xz at *;have d1 := AO g (xa + 1) xb xz;have d2 := AO g xa (xb + 1) xz;have d3 := AO g (xa - 1) xb xz;have d4 := AO g xa (xb - 1) xz;generalize rP f (xa + 1) xb xz = e1 at *;generalize rP f xa (xb + 1) xz = e2 at *;generalize rP f (xa - 1) xb xz = e3 at *;generalize rP f xa (xb - 1) xz = e4 at *
    (repeat' (first|refine wS ?_|refine wB ?_|refine wK ?_|refine wT ?_|(refine rg 3 (vV (aL rfl rfl (by omega)) ?_))|(refine rg 4 (mW rfl (vV (ix T rfl (by omega) (U3 shs) q1) (lW T rfl (bH (cX T rfl) rfl (aW rfl (bJ T rfl rfl rfl rfl rfl rfl (by decide) rfl ?_)))))))|(refine rg 5 (lW T rfl (eK T rfl (vV (kC (hA)) (mW rfl (xW rfl (xW rfl (xW rfl (D2 rfl (aV ?_))))))))))|(refine aN (id := 6) 104 [[],[],[1],[],[],rN 5,[],[],[],[8],[],rN 11,[],[],[13],[],[],rN 17,[],[],[],[20],[],rN 23,rN 24,rN 25,[]] (rM 37 27) [[],[37],[37],[37,38,39],rM 37 4,[],rM 37 6,rM 37 7,rM 37 8,rM 37 8,rM 37 10,[],rM 37 12,rM 37 13,rM 37 13,rM 37 15,rM 37 16,[],rM 37 18,rM 37 19,rM 37 20,rM 37 20,rM 37 22,[],[],[],rM 37 26] bM rfl (by decide +kernel) (dO T rfl (dN rfl (dV rfl (bP rfl rfl (by omega) (by omega)) (dN rfl (dN rfl (dV rfl (kC (d1)) (dO T rfl (dN rfl (dM ?_)))))))));refine dV rfl (bP rfl rfl (by omega) (by omega)) (dN rfl (dV rfl (kC (d2)) (dO T rfl (dN rfl (dV rfl (fN rfl rfl (by omega) (by omega)) (dN rfl (dN rfl (dV rfl (kC (d3)) (dL T ?_)))))))));refine dN rfl (dN rfl (dV rfl (fN rfl rfl (by omega) (by omega)) (dN rfl (dV rfl (kC (d4)) (FM rfl rfl rfl (by exact aS T rfl rfl (by decide) (by decide) rfl rfl rfl) rfl ?_)))));refine dV rfl (C2 T rfl rfl) (dN rfl (dE ?_)))|refine nZ ?_));all_goals try (exfalso;omega)
    refine kT [(0,.pr (jM f ++ r1 :: .rowE (pR aps) 2 :: .rowE (pH shs) 2 :: r4 :: .mrow ((shs.map (·.1)).map kI) (nX shs.length) :: rest) 0),(3,.ptr 0 0),(4,.i k),(5,.ptr 1 0),(22,.rowE (pH shs) 2),(23,.i (pH shs).length),(24,.i k),(61,.sl 2 0 4 1),(62,.i 4),(63,.i 0)] [.cells (jM f),.cells [.i c0,.s cl],.arr (aI [e1,e2,e3,e4]) 1] (eI [0,1,2]) ?_;refine F9 61 (es := aI [e1,e2,e3,e4]) rfl rfl rfl (rZ _) ?_;have hl4 : [e1,e2,e3,e4].length = 4 := rfl;generalize [e1,e2,e3,e4] = l at *;have hl5 : (aI l).length = l.length := aR _;refine bV (X := {j : Nat // j ≤ 4}) (fun j => [(0,.pr (jM f ++ r1 :: .rowE (pR aps) 2 :: .rowE (pH shs) 2 :: r4 :: .mrow ((shs.map (·.1)).map kI) (nX shs.length) :: rest) 0),(3,.ptr 0 0),(4,.i k),(5,.ptr 1 0),(22,.rowE (pH shs) 2),(23,.i (pH shs).length),(24,.i k),(61,.rowE (aI l) 1),(62,.i 4),(63,.i j.1)]) (fun _ => [.cells (jM f),.cells [.i c0,.s cl]]) (fun j => 4 - j.1) ⟨0,by omega⟩ (eI [0,1]) ?_
    rintro ⟨j,hj⟩;dsimp only;by_cases hlt2 : j < 4
    · have q2 := eY (l := l) (j := (j : Int)) 0 (by omega) rfl
      generalize l.getD j 0 = c at *;by_cases hm : c ∈ shs.map (·.1)
      · obtain ⟨i,hi,hi2⟩ := vU hm;rw [hml] at hi;have hv := EP hi;have q3 := EM hi;have hap := OA aps cl shs[i].2 hal;generalize shs[i].2 = cl2 at *;generalize shs[i].1 = c2 at *;generalize FU aps cl cl2 = y at *;by_cases hik : i < k
        · (repeat' (first|refine wS ?_|refine wB ?_|refine wK ?_|refine wR ?_|refine iY rfl ?_|(refine wC rfl (fun hb => ?_) (fun hb => ?_) <;> (subst hb))|(refine rg 7 (vV (aL rfl rfl (by omega)) ?_))|(refine rg 8 (vV (ix T rfl (by omega) (aE l) q2) (lW T rfl (aV ?_))))|(refine rg 9 (mW rfl (nV ?_));refine eK T rfl (mW rfl (vV (by exact oP mB jL rfl rfl (gC _) (iK _) (eR _) (tW hnd) hi2 hv rfl) ?_));refine mW rfl (xW rfl (xW rfl (iZ ?_))))|(refine aN (id := 10) 104 zU8 (rM 76 25) zU9 bM rfl (by decide +kernel) (dN rfl (dN rfl (tN rfl (tN rfl (dT rfl (aL rfl rfl (by omega)) (dV rfl (eP rfl rfl) (dN rfl (tN rfl (dT rfl (by exact cK rfl rfl) ?_)))))))));refine tP T rfl (tP T rfl (tO T rfl (tP T rfl (tO T rfl (tN rfl (dT rfl (by exact cK rfl rfl) ?_))))));refine tP T rfl (tP T rfl (tO T rfl (tN rfl (dT rfl (ix T rfl (by omega) (U3 shs) q3) (tP T rfl (tO T rfl (dT rfl (kC (hap)) (dV rfl (eP rfl rfl) (dE ?_))))))))))|(refine rg 11 (mW rfl (aV ?_)))|(refine rg 12 (vV (bP rfl rfl (by omega) (by omega)) (mV ?_)))|(refine nZ ?_)));all_goals first | (exfalso;omega) | exact ⟨_,_,⟨rfl,_,rfl⟩,rQ⟩ | exact ⟨⟨j + 1,by omega⟩,by dsimp only;omega,eI [0,1]⟩
        · (repeat' (first|refine wS ?_|refine wB ?_|refine wK ?_|refine iY rfl ?_|refine iB rfl ?_|(refine rg 7 (vV (aL rfl rfl (by omega)) ?_))|(refine rg 8 (vV (ix T rfl (by omega) (aE l) q2) (lW T rfl (aV ?_))))|(refine rg 9 (mW rfl (nV ?_));refine eK T rfl (mW rfl (vV (by exact oP mB jL rfl rfl (gC _) (iK _) (eR _) (tW hnd) hi2 hv rfl) ?_));refine mW rfl (xW rfl (xW rfl (iZ ?_))))|(refine aN (id := 10) 104 zU8 (rM 76 25) zU9 bM rfl (by decide +kernel) (dN rfl (dN rfl (tN rfl (tN rfl (dT rfl (bG rfl rfl (by omega)) (dV rfl (eP rfl rfl) (dN rfl (tG rfl (dG ?_)))))))));refine tG rfl (tG rfl (tG rfl (tG rfl (tG rfl (tG rfl (tG rfl (tG rfl (tG rfl (dG ?_)))))))));refine tG rfl (tG rfl (tG rfl (tG rfl (tG rfl (dV rfl (cY rfl rfl) (dE ?_)))))))|(refine rg 12 (vV (bP rfl rfl (by omega) (by omega)) (mV ?_)))|(refine nZ ?_)));all_goals first | (exfalso;omega) | exact ⟨_,_,⟨rfl,_,rfl⟩,rQ⟩ | exact ⟨⟨j + 1,by omega⟩,by dsimp only;omega,eI [0,1]⟩
      · (repeat' (first|refine wS ?_|refine wB ?_|refine wK ?_|refine iY rfl ?_|refine iB rfl ?_|(refine rg 7 (vV (aL rfl rfl (by omega)) ?_))|(refine rg 8 (vV (ix T rfl (by omega) (aE l) q2) (lW T rfl (aV ?_))))|(refine rg 9 (mW rfl (nV ?_));refine eK T rfl (mV ?_);refine vV (by exact oO (zA := .i 0) mB jL T4 (fun _ _ _ => iI _) rfl rfl (gC _) (iK _) (eR _) (fun e => hm (nP.1 e))) ?_;refine mW rfl (xW rfl (xW rfl (iZ ?_))))|(refine aN (id := 10) 104 zU8 (rM 76 25) zU9 bM rfl (by decide +kernel) (dN rfl (dN rfl (tG rfl (tG rfl (tG rfl (dV rfl (cY rfl rfl) (dN rfl (tG rfl (dG ?_)))))))));refine tG rfl (tG rfl (tG rfl (tG rfl (tG rfl (tG rfl (tG rfl (tG rfl (tG rfl (dG ?_)))))))));refine tG rfl (tG rfl (tG rfl (tG rfl (tG rfl (dV rfl (cY rfl rfl) (dE ?_)))))))|(refine rg 12 (vV (bP rfl rfl (by omega) (by omega)) (mV ?_)))|(refine nZ ?_)));all_goals first | (exfalso;omega) | exact ⟨_,_,⟨rfl,_,rfl⟩,rQ⟩ | exact ⟨⟨j + 1,by omega⟩,by dsimp only;omega,eI [0,1]⟩
    · (repeat' (first|refine wS ?_|refine wE ?_|refine iB rfl ?_|(refine rg 7 (vV (bG rfl rfl (by omega)) ?_))|(refine rg 13 (vV (bP rfl rfl (by omega) (by omega)) (mV ?_)))|(refine nZ ?_)));all_goals first | (exfalso;omega) | exact ⟨⟨k + 1,by omega⟩,by dsimp only;omega,eI [0]⟩
  · (repeat' (first|refine wS ?_|refine wR ?_|refine wE ?_|refine iB rfl ?_|(refine rg 3 (vV (bG rfl rfl (by omega)) ?_))|(refine rg 14 (aV ?_))|(refine nZ ?_)));all_goals first | (exfalso;omega) | exact ⟨_,_,⟨rfl,_,rfl⟩,rQ⟩
structure Mk where
  zs : List IY
  aps : List (List UInt8 × List UInt8)
  shs : List (Int × List UInt8)
  rbs : List (Int × Int)
  zk : List Int
def xM (n : Nat) : List AV := List.replicate n (.b true)
theorem G8 (n : Nat) : xM n ++ [.b true] = xM (n + 1) := by unfold xM;rw [List.replicate_succ']
theorem JM {n i : Nat} (h : i < n) : (xM n)[i]? = some (.b true) := by unfold xM;simp [h]
theorem LW (n i : Nat) : (xM n).set i (.b true) = xM n := by
  unfold xM;apply fU;intro j;rw [eZ];split
  · rename_i e;subst e;split
    · rename_i h;simp at h;simp [h]
    · rename_i h;simp at h;simp [h]
  · rfl
theorem GZ (n : Nat) : nX n ++ [.i (n : Int)] = nX (n + 1) := by unfold nX;rw [lO];simp
theorem Z7 : ∀ {l : List AV}, (∀ x, x ∈ l → x.idf = true) → AV.idfL l = true
  | [],_ => rfl
  | x :: l,h => by simp only [AV.idfL,aT];exact ⟨h x dC,Z7 fun y hy => h y (dI _ hy)⟩
theorem bS (n : Nat) : AV.idfL (xM n) = true := Z7 fun x hx => by unfold xM at hx;rw [(List.mem_replicate.1 hx).2];rfl
theorem bT (n : Nat) : AV.idfL (nX n) = true := Z7 fun x hx => by unfold nX at hx;obtain ⟨i,_,rfl⟩ := aQ.1 hx;rfl
def Mk.cl (m : Mk) : List Int := m.shs.map (·.1)
def Mk.rc (m : Mk) : List Int := m.rbs.map (·.1)
abbrev kS (l : List UInt8) : Value := .string ⟨l.toArray⟩
def Mk.nm (m : Mk) : List Value := m.zs.map fun z => kS z.1
abbrev zT6 (f : jD) (m : Mk) (oz oa os ob : Nat) : List AV := jM f ++ [.sl oz 0 m.zs.length 5,.sl oa 0 m.aps.length 2,.sl os 0 m.shs.length 2,.sl ob 0 m.rbs.length 2,.mp 1,.mp 2,.mp 3,.mp 4,.mp 5,.nils,.nils]
abbrev zM0 (f : jD) (m : Mk) (oz oa os ob : Nat) (z a s r : AB) : Hp := [.cells (zT6 f m oz oa os ob),.mapO (m.cl.map kI) (nX m.shs.length),.mapO (m.rc.map kI) (xM m.rbs.length),.mapO (m.zk.map kI) (xM m.zk.length),.mapO m.nm (nX m.zs.length),.mapO [] [],z,a,s,r]
abbrev YC (f : jD) (m : Mk) : Hp := zM0 f m 6 7 8 9 (.arr (nC m.zs) 5) (.arr (pR m.aps) 2) (.arr (pH m.shs) 2) (.arr (kD m.rbs) 2)
theorem aD {h : Hp} {i : Nat} {θ : Nat → Nat} {ks ks' : List Value} {vs vs' : List AV} (hk : h[i]? = some (.mapO ks' vs')) (hks : ks' = ks) (he : vs' = vs) (hi : AV.idfL vs = true) : h[i]? = some ((AB.mapO ks vs).map θ) := by
  subst he hks;rw [hk];show _ = some (AB.mapO ks' (AV.mapL θ vs'));rw [dZ θ vs' hi]
theorem eC (l : List IY) : ∀ e,e ∈ nC l → AV.idfL e = true := by intro e he;obtain ⟨i,_,rfl⟩ := aQ.1 he;rfl
theorem eV (l : List (List UInt8 × List UInt8)) : ∀ e,e ∈ pR l → AV.idfL e = true := by intro e he;obtain ⟨i,_,rfl⟩ := aQ.1 he;rfl
theorem eT (l : List (Int × List UInt8)) : ∀ e,e ∈ pH l → AV.idfL e = true := by intro e he;obtain ⟨i,_,rfl⟩ := aQ.1 he;rfl
theorem eD (l : List (Int × Int)) : ∀ e,e ∈ kD l → AV.idfL e = true := by intro e he;obtain ⟨i,_,rfl⟩ := aQ.1 he;rfl
theorem I9 : ∀ i : Nat,i < 10 → ([0,1,2,3,4,5,6,7,8,9] : List Nat)[i]? = some i := by decide
theorem rG {h : Hp} {f : jD} {m : Mk} {rest : Hp} (hh : h = YC f m ++ rest) : qD h (.ptr 0 0) (.pr (jM f ++ .rowE (nC m.zs) 5 :: .rowE (pR m.aps) 2 :: .rowE (pH m.shs) 2 :: .rowE (kD m.rbs) 2 :: .mrow (m.cl.map kI) (nX m.shs.length) :: [.mrow (m.rc.map kI) (xM m.rbs.length),.mrow (m.zk.map kI) (xM m.zk.length),.mrow m.nm (nX m.zs.length),.mrow [] [],.nils,.nils]) 0) := by
  subst hh;refine .ptr rfl (.cons (.v _) (.cons (.v _) (.cons (.v _) (.cons (.row _ _ _) (.cons (.row _ _ _) (.cons ?_ (.cons ?_ (.cons ?_ (.cons ?_ (.cons ?_ (.cons ?_ (.cons ?_ (.cons ?_ (.cons ?_ (.cons (.v _) (.cons (.v _) .nil))))))))))))))))
  · exact oV rfl (by simp) (pN (fun _ => rfl) _)
  · exact oV rfl (by simp) (pN (fun _ => rfl) _)
  · exact oV rfl (by simp) (pN (fun _ => rfl) _)
  · exact oV rfl (by simp) (pN (fun _ => rfl) _)
  · exact .mp rfl (lE _ (by unfold nX;induction (List.range m.shs.length) with | nil => rfl | cons a l ih => exact ih))
  · exact .mp rfl (lE _ (by unfold xM;induction m.rbs.length with | zero => rfl | succ n ih => rw [uC];exact ih))
  · exact .mp rfl (lE _ (by unfold xM;induction m.zk.length with | zero => rfl | succ n ih => rw [uC];exact ih))
  · exact .mp rfl (lE _ (by unfold nX;induction (List.range m.zs.length) with | nil => rfl | cons a l ih => exact ih))
  · exact .mp rfl .nil
end Go.Proofs.YtdmajnjoeidgeaaGreat
namespace Go.Proofs.YtdmajnjoeidgeaaGreat
open Go Go.Ab Go.Fl Go.Shelf Go.Proofs Go.MapKept
attribute [local irreducible] VC AW bR bQ fT mH BC nK
set_option maxHeartbeats 4000000
theorem I8 (k : Nat) : ∀ i : Nat,i < 10 → ([0,1,2,3,4,5,6,7,8,9,k] : List Nat)[i]? = some i := fun i hi => by
  have : i = 0 ∨ i = 1 ∨ i = 2 ∨ i = 3 ∨ i = 4 ∨ i = 5 ∨ i = 6 ∨ i = 7 ∨ i = 8 ∨ i = 9 := by omega
  rcases this with h | h | h | h | h | h | h | h | h | h <;> subst h <;> rfl
theorem RU (l : List (Int × List UInt8)) (c : Int) (cl : List UInt8) : ((pH l).drop 0).take l.length ++ [[AV.i c,AV.s cl]] = pH (l ++ [(c,cl)]) := by
  rw [fJ,bC (by simp)]
  simp
theorem ZJ (m : Mk) (c : Int) (cl : List UInt8) : m.cl.map kI ++ [kI c] = ((m.shs ++ [(c,cl)]).map (·.1)).map kI := by unfold Mk.cl;simp
theorem KX (f : jD) (m : Mk) (c : Int) (cl : List UInt8) (hcl : cl.length ≤ 9223372036854775807) (hnd : m.cl.Nodup) :
    fT Tryz.prog 61 [.ptr 0 0,.agg [.i c,.s cl]] (YC f m) (fun r o => ∃ e,r = .i e ∧ ((e ≠ 0 ∧ o = YC f m) ∨ (e = 0 ∧ Z6 f c = true ∧ xN (xZ f c) = true ∧ c ∉ m.cl ∧ o = zM0 f { m with shs := m.shs ++ [(c,cl)] } 6 7 10 9 (.arr (nC m.zs) 5) (.arr (pR m.aps) 2) .gone (.arr (kD m.rbs) 2) ++ [.arr (pH (m.shs ++ [(c,cl)])) 2]))) := by
  have hn := EW cl hcl;have hk := J1 f (.rowE (nC m.zs) 5 :: .rowE (pR m.aps) 2 :: .rowE (pH m.shs) 2 :: .rowE (kD m.rbs) 2 :: .mrow (m.cl.map kI) (nX m.shs.length) :: [.mrow (m.rc.map kI) (xM m.rbs.length),.mrow (m.zk.map kI) (xM m.zk.length),.mrow m.nm (nX m.zs.length),.mrow [] [],.nils,.nils]) c;have hs := GK (xZ f c);have hln : m.shs.length + 1 = (m.shs ++ [(c,cl)]).length := by simp
  have hrn : nX m.shs.length ++ [.i (m.shs.length : Int)] = nX (m.shs ++ [(c,cl)]).length := by rw [GZ,hln]
  have hml : m.cl.length = m.shs.length := by unfold Mk.cl;simp
  refine mM T Tryz.func61 rfl rfl rfl rfl ?_;cases hin : Z6 f c with
  | false =>
    rw [hin] at hk
    (repeat' (first|refine wS ?_|refine wK ?_|refine wR ?_|refine wT ?_|refine wU ?_|(refine wC rfl ?_ ?_<;>(intro hb;(try simp only [nm] at hb);try (exfalso;omega)))|(refine rg 0 (bH (bN rfl rfl) rfl (aV ?_)))|(refine rg 1 (eK T rfl (vV (V2 rfl rfl) (mV ?_)));refine aO rfl rfl ?_ ?_<;>(intro hb;rw [hb];(try simp only [nm] at hb);try (exfalso;omega));(all_goals first|(refine gT (fW T rfl (gT (lW T rfl (gT (gI rfl rfl (hn) (.cons (.v _) .nil) (by rintro _ ⟨_,rfl⟩;rfl) rfl ?_)))));rintro _ ⟨b,rfl⟩;dsimp only [gJ])|(iterate 3 refine gF ?_));(all_goals first|(refine gT (vV (bB rfl) ?_))|(refine gF ?_));(all_goals (refine pV ?_)))|(refine rg 2 (aV ?_))|(refine rg 3 (mW rfl (eK T rfl (vV (by exact gB rfl rfl hk (.cons (rG rfl) (.cons (.v _) .nil)) rfl rfl) ?_)));refine mW rfl (xW rfl (xW rfl (iZ ?_))))|(refine rg 4 (mW rfl (vV (bB rfl) ?_)))|(refine rg 5 (aV ?_))|refine nZ ?_));all_goals first | (exfalso;omega) | exact ⟨_,_,⟨_,rfl,.inl ⟨by decide,rfl⟩⟩,.inl rfl,[0,1,2,3,4,5,6,7,8,9],_,rfl,rfl,rfl,⟨.inr rfl,.inr (aD rfl rfl rfl (bT _)),.inr (aD rfl rfl rfl (bS _)),.inr (aD rfl rfl rfl (bS _)),.inr (aD rfl rfl rfl (bT _)),.inr rfl,.inr (aC rfl rfl (eC _)),.inr (aC rfl rfl (eV _)),.inr (aC rfl rfl (eT _)),.inr (aC rfl rfl (eD _)),trivial⟩,by decide,I9⟩
  | true =>
    rw [hin] at hk;cases hst : xN (xZ f c) with
    | false =>
      rw [hst] at hs
      (repeat' (first|refine wS ?_|refine wK ?_|refine wR ?_|refine wT ?_|refine wU ?_|(refine wC rfl ?_ ?_<;>(intro hb;(try simp only [nm] at hb);try (exfalso;omega)))|(refine rg 0 (bH (bN rfl rfl) rfl (aV ?_)))|(refine rg 1 (eK T rfl (vV (V2 rfl rfl) (mV ?_)));refine aO rfl rfl ?_ ?_<;>(intro hb;rw [hb];(try simp only [nm] at hb);try (exfalso;omega));(all_goals first|(refine gT (fW T rfl (gT (lW T rfl (gT (gI rfl rfl (hn) (.cons (.v _) .nil) (by rintro _ ⟨_,rfl⟩;rfl) rfl ?_)))));rintro _ ⟨b,rfl⟩;dsimp only [gJ])|(iterate 3 refine gF ?_));(all_goals first|(refine gT (vV (bB rfl) ?_))|(refine gF ?_));(all_goals (refine pV ?_)))|(refine rg 2 (aV ?_))|(refine rg 3 (mW rfl (eK T rfl (vV (by exact gB rfl rfl hk (.cons (rG rfl) (.cons (.v _) .nil)) rfl rfl) ?_)));refine mW rfl (xW rfl (xW rfl (iZ ?_))))|(refine rg 4 (mW rfl (vV (bB rfl) ?_)))|(refine rg 6 (mW rfl (vV (kC (hs)) (vV (bB rfl) ?_))))|(refine rg 7 (aV ?_))|refine nZ ?_));all_goals first | (exfalso;omega) | exact ⟨_,_,⟨_,rfl,.inl ⟨by decide,rfl⟩⟩,.inl rfl,[0,1,2,3,4,5,6,7,8,9],_,rfl,rfl,rfl,⟨.inr rfl,.inr (aD rfl rfl rfl (bT _)),.inr (aD rfl rfl rfl (bS _)),.inr (aD rfl rfl rfl (bS _)),.inr (aD rfl rfl rfl (bT _)),.inr rfl,.inr (aC rfl rfl (eC _)),.inr (aC rfl rfl (eV _)),.inr (aC rfl rfl (eT _)),.inr (aC rfl rfl (eD _)),trivial⟩,by decide,I9⟩
    | true =>
      rw [hst] at hs;by_cases hm : c ∈ m.cl
      · obtain ⟨i,hi,hi2⟩ := vU hm;rw [hml] at hi;have hv := EP hi
        (repeat' (first|refine wS ?_|refine wK ?_|refine wR ?_|refine wT ?_|refine wU ?_|(refine wC rfl ?_ ?_<;>(intro hb;(try simp only [nm] at hb);try (exfalso;omega)))|(refine rg 0 (bH (bN rfl rfl) rfl (aV ?_)))|(refine rg 1 (eK T rfl (vV (V2 rfl rfl) (mV ?_)));refine aO rfl rfl ?_ ?_<;>(intro hb;rw [hb];(try simp only [nm] at hb);try (exfalso;omega));(all_goals first|(refine gT (fW T rfl (gT (lW T rfl (gT (gI rfl rfl (hn) (.cons (.v _) .nil) (by rintro _ ⟨_,rfl⟩;rfl) rfl ?_)))));rintro _ ⟨b,rfl⟩;dsimp only [gJ])|(iterate 3 refine gF ?_));(all_goals first|(refine gT (vV (bB rfl) ?_))|(refine gF ?_));(all_goals (refine pV ?_)))|(refine rg 2 (aV ?_))|(refine rg 3 (mW rfl (eK T rfl (vV (by exact gB rfl rfl hk (.cons (rG rfl) (.cons (.v _) .nil)) rfl rfl) ?_)));refine mW rfl (xW rfl (xW rfl (iZ ?_))))|(refine rg 4 (mW rfl (vV (bB rfl) ?_)))|(refine rg 6 (mW rfl (vV (kC (hs)) (vV (bB rfl) ?_))))|(refine aN (id := 8) 72 zV0 [31,32,33,34,35,36,37,30,38,39,7] zV1 bM rfl (by decide +kernel) (dN rfl (dV rfl (by exact cK rfl rfl) ?_));refine dP T rfl (dO T rfl (dP T rfl (dO T rfl (dV rfl (by exact uE mB jL rfl rfl (gC _) rfl (iK _) (eR _) (tW hnd) hi2 hv) ?_))));refine dN rfl (dV rfl (by exact eB rfl rfl) ?_);refine dV rfl (by exact eB rfl rfl) ?_;refine dV rfl (eM rfl) (dE ?_);refine aV ?_)|(refine rg 9 (mV ?_))|(refine rg 10 (aV ?_))|refine nZ ?_));all_goals first | (exfalso;omega) | exact ⟨_,_,⟨_,rfl,.inl ⟨by decide,rfl⟩⟩,.inl rfl,[0,1,2,3,4,5,6,7,8,9],_,rfl,rfl,rfl,⟨.inr rfl,.inr (aD rfl rfl rfl (bT _)),.inr (aD rfl rfl rfl (bS _)),.inr (aD rfl rfl rfl (bS _)),.inr (aD rfl rfl rfl (bT _)),.inr rfl,.inr (aC rfl rfl (eC _)),.inr (aC rfl rfl (eV _)),.inr (aC rfl rfl (eT _)),.inr (aC rfl rfl (eD _)),trivial⟩,by decide,I9⟩
      · (repeat' (first|refine wS ?_|refine wK ?_|refine wR ?_|refine iB rfl ?_|(refine wC rfl (fun hb => ?_) (fun hb => ?_) <;> (((try simp only [nm] at hb);try (exfalso;omega))))|(refine rg 0 (bH (bN rfl rfl) rfl (aV ?_)))|(refine rg 1 (eK T rfl (vV (V2 rfl rfl) (mV ?_)));refine aO rfl rfl (fun hb => ?_) (fun hb => ?_) <;> ((rw [hb];(try simp only [nm] at hb);try ((exfalso;omega);done)));(all_goals first|(refine gT (fW T rfl (gT (lW T rfl (gT (gI rfl rfl (hn) (.cons (.v _) .nil) (by rintro _ ⟨_,rfl⟩;rfl) rfl ?_)))));rintro _ ⟨b,rfl⟩;dsimp only [gJ])|(iterate 3 refine gF ?_));(all_goals first|(refine gT (vV (bB rfl) ?_))|(refine gF ?_));(all_goals (refine pV ?_)))|(refine rg 2 (aV ?_))|(refine rg 3 (mW rfl (eK T rfl (vV (by exact gB rfl rfl hk (.cons (rG rfl) (.cons (.v _) .nil)) rfl rfl) ?_)));refine mW rfl (xW rfl (xW rfl (iZ ?_))))|(refine rg 4 (mW rfl (vV (bB rfl) ?_)))|(refine rg 6 (mW rfl (vV (kC (hs)) (vV (bB rfl) ?_))))|(refine aN (id := 8) 72 zV0 [31,32,33,34,35,36,37,30,38,39,7] zV1 bM rfl (by decide +kernel) (dN rfl (dV rfl (by exact cK rfl rfl) ?_));refine dP T rfl (dO T rfl (dP T rfl (dL T ?_)));refine dV rfl (by exact sD (zA := .i 0) mB jL T4 (fun _ _ _ => iI _) rfl rfl (gC _) rfl (iK _) (eR _) (fun e => hm (nP.1 e))) ?_;refine dN rfl (dV rfl (by exact eB rfl rfl) ?_);refine dV rfl (by exact eB rfl rfl) ?_;refine dV rfl (eM rfl) (dE ?_);refine aV ?_)|(refine rg 9 (mV ?_))|(refine rg 11 (mW rfl (nV ?_));refine fW T rfl (eK T rfl (qW T rfl (vV (gS rfl rfl) ?_))))|(refine rg 12 (aV ?_))|(refine aN (id := 13) 72 zV2 (rM 48 12) [[],[],[],[],rM 48 4,rM 48 4,rM 48 6,rM 48 6,rM 48 6,rM 48 6,rM 48 6,rM 48 6] bM rfl (by decide +kernel) (dN rfl (dV rfl (by exact cK rfl rfl) ?_));refine dP T rfl (dO T rfl (dP T rfl (dO T rfl (dN rfl (dV rfl (by exact cK rfl rfl) ?_)))));refine dP T rfl (dP T rfl (dO T rfl (dV rfl (C2 T rfl rfl) (dE ?_))));refine lQ mB jL rfl rfl (gC _) rfl rfl (iK _) (eR _) (fun e => hm (nP.1 e)) ?_)|(refine nZ ?_)));all_goals first | (exfalso;omega) | exact ⟨_,_,⟨_,rfl,.inl ⟨by decide,rfl⟩⟩,.inl rfl,[0,1,2,3,4,5,6,7,8,9],_,rfl,rfl,rfl,⟨.inr rfl,.inr (aD rfl rfl rfl (bT _)),.inr (aD rfl rfl rfl (bS _)),.inr (aD rfl rfl rfl (bS _)),.inr (aD rfl rfl rfl (bT _)),.inr rfl,.inr (aC rfl rfl (eC _)),.inr (aC rfl rfl (eV _)),.inr (aC rfl rfl (eT _)),.inr (aC rfl rfl (eD _)),trivial⟩,by decide,I9⟩ | skip
        all_goals
          (repeat' (first|refine wS ?_|refine wR ?_|(refine sF (id := 14) 72 zV3 (rM 60 12) [[],[60],[60],[60],[60],[60],rM 60 6,rM 60 6,[60],[],[],[],[]] [(8,8),(12,0)] bM rfl (by decide +kernel) (gA rfl rfl rfl rfl (by exact jA rfl) ?_);refine gA rfl rfl rfl rfl (by exact jA rfl) ?_;refine gA rfl rfl rfl rfl (by exact cK rfl rfl) ?_;refine gA rfl rfl rfl rfl (by exact eJ T rfl rfl rfl) ?_;refine gA rfl rfl rfl rfl (by exact eJ T rfl rfl rfl) ?_;refine gA rfl rfl rfl rfl (by exact cJ T rfl rfl rfl rfl) ?_;refine gA rfl rfl rfl rfl (by exact cJ T rfl rfl rfl rfl) ?_;refine AL rfl rfl rfl rfl (by exact aS T rfl rfl (by decide) (by decide) rfl rfl rfl) rfl ?_;refine F6 rfl rfl rfl rfl (bE rfl) (by exact sG T rfl rfl rfl rfl rfl rfl (by simp) (iU.whole rfl rfl) rfl (by simp;omega) (by simp;omega)) ?_;refine gA rfl rfl rfl rfl (by exact cK rfl rfl) ?_;refine gA rfl rfl rfl rfl (by exact eJ T rfl rfl rfl) ?_;refine gA rfl rfl rfl rfl (by exact eJ T rfl rfl rfl) ?_;refine FL rfl rfl rfl rfl (bE rfl) T rfl rfl rfl rfl rfl rfl (by decide) rfl ?_;refine yI rfl rfl rfl (by exact rfl) ?_)|(refine rg 15 (aV ?_))|refine nZ ?_));refine ⟨_,_,⟨0,rfl,.inr ⟨rfl,rfl,rfl,hm,rfl⟩⟩,.inl rfl,[0,1,2,3,4,5,6,7,8,9,12],_,rfl,rfl,rfl,⟨.inr ?_,.inr (aD rfl (ZJ m c cl) hrn (bT _)),.inr (aD rfl rfl rfl (bS _)),.inr (aD rfl rfl rfl (bS _)),.inr (aD rfl rfl rfl (bT _)),.inr rfl,.inr (aC rfl rfl (eC _)),.inr (aC rfl rfl (eV _)),.inl rfl,.inr (aC rfl rfl (eD _)),.inr (aC rfl (RU m.shs c cl) (eT _)),trivial⟩,by decide,I8 12⟩
          exact congrArg (fun n : Nat => some (AB.cells (jM f ++ [.sl 6 0 m.zs.length 5,.sl 7 0 m.aps.length 2,.sl 12 0 n 2,.sl 9 0 m.rbs.length 2,.mp 1,.mp 2,.mp 3,.mp 4,.mp 5,.nils,.nils]))) hln
abbrev zL9 (m : Mk) : List AV := .rowE (nC m.zs) 5 :: .rowE (pR m.aps) 2 :: .rowE (pH m.shs) 2 :: .rowE (kD m.rbs) 2 :: .mrow (m.cl.map kI) (nX m.shs.length) :: [.mrow (m.rc.map kI) (xM m.rbs.length),.mrow (m.zk.map kI) (xM m.zk.length),.mrow m.nm (nX m.zs.length),.mrow [] [],.nils,.nils]
theorem OQ (l : List (Int × Int)) (c d : Int) : ((kD l).drop 0).take l.length ++ [[AV.i c,AV.i d]] = kD (l ++ [(c,d)]) := by
  rw [fJ,bC (by simp)]
  simp
theorem XJ (m : Mk) (c d : Int) : m.rc.map kI ++ [kI c] = ((m.rbs ++ [(c,d)]).map (·.1)).map kI := by unfold Mk.rc;simp
theorem KY (f : jD) (m : Mk) (c d : Int) (hnd : m.rc.Nodup) :
    fT Tryz.prog 62 [.ptr 0 0,.agg [.i c,.i d]] (YC f m) (fun r o => ∃ e,r = .i e ∧ ((e ≠ 0 ∧ o = YC f m) ∨ (e = 0 ∧ Z6 f c = true ∧ jS d 0 1000000 = true ∧ xZ f c ≠ 0 ∧ c ∉ m.rc ∧ o = zM0 f { m with rbs := m.rbs ++ [(c,d)] } 6 7 8 10 (.arr (nC m.zs) 5) (.arr (pR m.aps) 2) (.arr (pH m.shs) 2) .gone ++ [.arr (kD (m.rbs ++ [(c,d)])) 2]))) := by
  have hk := J1 f (zL9 m) c;have hw := CI d 0 1000000;have hln : m.rbs.length + 1 = (m.rbs ++ [(c,d)]).length := by simp
  have hrn : xM m.rbs.length ++ [.b true] = xM (m.rbs ++ [(c,d)]).length := by rw [G8,hln]
  have hml : m.rc.length = m.rbs.length := by unfold Mk.rc;simp
  refine mM T Tryz.func62 rfl rfl rfl rfl ?_;cases hin : Z6 f c with
  | false =>
    rw [hin] at hk
    (repeat' (first|refine wS ?_|refine wR ?_|refine wT ?_|(refine rg 0 (bH (bN rfl rfl) rfl (aV ?_)))|(refine rg 1 (mW rfl (eK T rfl (vV (by exact gB rfl rfl hk (.cons (rG rfl) (.cons (.v _) .nil)) rfl rfl) ?_)));refine mW rfl (xW rfl (xW rfl (iZ ?_))))|(refine rg 2 (mW rfl (vV (bB rfl) (mV ?_)));(iterate 4 refine gF ?_);refine pV ?_)|(refine rg 3 (aV ?_))|refine nZ ?_));all_goals first | (exfalso;omega) | exact ⟨_,_,⟨_,rfl,.inl ⟨by decide,rfl⟩⟩,.inl rfl,[0,1,2,3,4,5,6,7,8,9],_,rfl,rfl,rfl,⟨.inr rfl,.inr (aD rfl rfl rfl (bT _)),.inr (aD rfl rfl rfl (bS _)),.inr (aD rfl rfl rfl (bS _)),.inr (aD rfl rfl rfl (bT _)),.inr rfl,.inr (aC rfl rfl (eC _)),.inr (aC rfl rfl (eV _)),.inr (aC rfl rfl (eT _)),.inr (aC rfl rfl (eD _)),trivial⟩,by decide,I9⟩
  | true =>
    rw [hin] at hk;cases hwd : jS d 0 1000000 with
    | false =>
      rw [hwd] at hw
      (repeat' (first|refine wS ?_|refine wR ?_|refine wT ?_|(refine rg 0 (bH (bN rfl rfl) rfl (aV ?_)))|(refine rg 1 (mW rfl (eK T rfl (vV (by exact gB rfl rfl hk (.cons (rG rfl) (.cons (.v _) .nil)) rfl rfl) ?_)));refine mW rfl (xW rfl (xW rfl (iZ ?_))))|(refine rg 2 (mW rfl (vV (bB rfl) (mW rfl (yP T rfl (yO T rfl (yV (kC (hw)) (yV (bB rfl) (pV ?_)))))))))|(refine rg 3 (aV ?_))|refine nZ ?_));all_goals first | (exfalso;omega) | exact ⟨_,_,⟨_,rfl,.inl ⟨by decide,rfl⟩⟩,.inl rfl,[0,1,2,3,4,5,6,7,8,9],_,rfl,rfl,rfl,⟨.inr rfl,.inr (aD rfl rfl rfl (bT _)),.inr (aD rfl rfl rfl (bS _)),.inr (aD rfl rfl rfl (bS _)),.inr (aD rfl rfl rfl (bT _)),.inr rfl,.inr (aC rfl rfl (eC _)),.inr (aC rfl rfl (eV _)),.inr (aC rfl rfl (eT _)),.inr (aC rfl rfl (eD _)),trivial⟩,by decide,I9⟩
    | true =>
      rw [hwd] at hw;by_cases hkn : xZ f c = 0
      · (repeat' (first|refine wS ?_|refine wK ?_|refine wR ?_|refine iY rfl ?_|refine iB rfl ?_|(refine rg 0 (bH (bN rfl rfl) rfl (aV ?_)))|(refine rg 1 (mW rfl (eK T rfl (vV (by exact gB rfl rfl hk (.cons (rG rfl) (.cons (.v _) .nil)) rfl rfl) ?_)));refine mW rfl (xW rfl (xW rfl (iZ ?_))))|(refine rg 2 (mW rfl (vV (bB rfl) (mW rfl (yP T rfl (yO T rfl (yV (kC (hw)) (yV (bB rfl) (pV ?_)))))))))|(refine rg 4 (mW rfl (vV (gH rfl rfl hkn) ?_)))|(refine rg 5 (aV ?_))|(refine nZ ?_)));all_goals first | (exfalso;omega) | exact ⟨_,_,⟨_,rfl,.inl ⟨by decide,rfl⟩⟩,.inl rfl,[0,1,2,3,4,5,6,7,8,9],_,rfl,rfl,rfl,⟨.inr rfl,.inr (aD rfl rfl rfl (bT _)),.inr (aD rfl rfl rfl (bS _)),.inr (aD rfl rfl rfl (bS _)),.inr (aD rfl rfl rfl (bT _)),.inr rfl,.inr (aC rfl rfl (eC _)),.inr (aC rfl rfl (eV _)),.inr (aC rfl rfl (eT _)),.inr (aC rfl rfl (eD _)),trivial⟩,by decide,I9⟩
      · by_cases hm : c ∈ m.rc
        · obtain ⟨i,hi,hi2⟩ := vU hm;rw [hml] at hi;have hv := JM hi
          (repeat' (first|refine wS ?_|refine wK ?_|refine wR ?_|refine wT ?_|refine wU ?_|(refine rg 0 (bH (bN rfl rfl) rfl (aV ?_)))|(refine rg 1 (mW rfl (eK T rfl (vV (by exact gB rfl rfl hk (.cons (rG rfl) (.cons (.v _) .nil)) rfl rfl) ?_)));refine mW rfl (xW rfl (xW rfl (iZ ?_))))|(refine rg 2 (mW rfl (vV (bB rfl) (mW rfl (yP T rfl (yO T rfl (yV (kC (hw)) (yV (bB rfl) (pV ?_)))))))))|(refine rg 4 (mW rfl (vV (eN rfl rfl hkn) ?_)))|(refine aN (id := 6) 56 zV4 (rM 24 7) [[],[],[],[],rM 24 4,rM 24 4,[]] bM rfl (by decide +kernel) (dN rfl (dV rfl (by exact cK rfl rfl) ?_));refine dP T rfl (dO T rfl (dP T rfl (dO T rfl (dV rfl (by exact gR zC jL rfl rfl (gC _) rfl (iK _) (eR _) (tW hnd) hi2 hv) ?_))));refine dE ?_)|(refine rg 7 (aV ?_))|refine nZ ?_));all_goals first | (exfalso;omega) | exact ⟨_,_,⟨_,rfl,.inl ⟨by decide,rfl⟩⟩,.inl rfl,[0,1,2,3,4,5,6,7,8,9],_,rfl,rfl,rfl,⟨.inr rfl,.inr (aD rfl rfl rfl (bT _)),.inr (aD rfl rfl rfl (bS _)),.inr (aD rfl rfl rfl (bS _)),.inr (aD rfl rfl rfl (bT _)),.inr rfl,.inr (aC rfl rfl (eC _)),.inr (aC rfl rfl (eV _)),.inr (aC rfl rfl (eT _)),.inr (aC rfl rfl (eD _)),trivial⟩,by decide,I9⟩
        · (repeat' (first|refine wS ?_|refine wK ?_|refine wR ?_|refine iB rfl ?_|(refine wC rfl (fun hb => ?_) (fun hb => ?_) <;> (((try simp only [nm] at hb);try (exfalso;omega))))|(refine rg 0 (bH (bN rfl rfl) rfl (aV ?_)))|(refine rg 1 (mW rfl (eK T rfl (vV (by exact gB rfl rfl hk (.cons (rG rfl) (.cons (.v _) .nil)) rfl rfl) ?_)));refine mW rfl (xW rfl (xW rfl (iZ ?_))))|(refine rg 2 (mW rfl (vV (bB rfl) (mW rfl (yP T rfl (yO T rfl (yV (kC (hw)) (yV (bB rfl) (pV ?_)))))))))|(refine rg 4 (mW rfl (vV (eN rfl rfl hkn) ?_)))|(refine aN (id := 6) 56 zV4 (rM 24 7) [[],[],[],[],rM 24 4,rM 24 4,[]] bM rfl (by decide +kernel) (dN rfl (dV rfl (by exact cK rfl rfl) ?_));refine dP T rfl (dO T rfl (dP T rfl (dL T ?_)));refine dV rfl (by exact nI (zA := .b false) zC jL LS (fun _ _ _ => iI _) rfl rfl (gC _) rfl (iK _) (eR _) (fun e => hm (nP.1 e))) ?_;refine dE ?_)|(refine rg 8 (mW rfl (nV ?_));refine fW T rfl (eK T rfl (qW T rfl (vV (gS rfl rfl) ?_))))|(refine rg 9 (aV ?_))|(refine aN (id := 10) 56 zV5 (rM 38 6) [[],[],[],[],rM 38 4,rM 38 4] bM rfl (by decide +kernel) (dN rfl (dV rfl (by exact cK rfl rfl) ?_));refine dP T rfl (dO T rfl (dP T rfl (dO T rfl (dE ?_))));refine lQ zC jL rfl rfl (gC _) rfl rfl (iK _) (eR _) (fun e => hm (nP.1 e)) ?_)|(refine nZ ?_)));all_goals first | (exfalso;omega) | exact ⟨_,_,⟨_,rfl,.inl ⟨by decide,rfl⟩⟩,.inl rfl,[0,1,2,3,4,5,6,7,8,9],_,rfl,rfl,rfl,⟨.inr rfl,.inr (aD rfl rfl rfl (bT _)),.inr (aD rfl rfl rfl (bS _)),.inr (aD rfl rfl rfl (bS _)),.inr (aD rfl rfl rfl (bT _)),.inr rfl,.inr (aC rfl rfl (eC _)),.inr (aC rfl rfl (eV _)),.inr (aC rfl rfl (eT _)),.inr (aC rfl rfl (eD _)),trivial⟩,by decide,I9⟩ | skip
          all_goals
            (repeat' (first|refine wS ?_|refine wR ?_|(refine sF (id := 11) 56 zV3 (rM 44 12) [[],[44],[44],[44],[44],[44],rM 44 6,rM 44 6,[44],[],[],[],[]] [(8,9),(12,0)] bM rfl (by decide +kernel) (gA rfl rfl rfl rfl (by exact jA rfl) ?_);refine gA rfl rfl rfl rfl (by exact jA rfl) ?_;refine gA rfl rfl rfl rfl (by exact cK rfl rfl) ?_;refine gA rfl rfl rfl rfl (by exact eJ T rfl rfl rfl) ?_;refine gA rfl rfl rfl rfl (by exact eJ T rfl rfl rfl) ?_;refine gA rfl rfl rfl rfl (by exact cJ T rfl rfl rfl rfl) ?_;refine gA rfl rfl rfl rfl (by exact cJ T rfl rfl rfl rfl) ?_;refine AL rfl rfl rfl rfl (by exact aS T rfl rfl (by decide) (by decide) rfl rfl rfl) rfl ?_;refine F6 rfl rfl rfl rfl (bE rfl) (by exact sG T rfl rfl rfl rfl rfl rfl (by simp) (iU.whole rfl rfl) rfl (by simp;omega) (by simp;omega)) ?_;refine gA rfl rfl rfl rfl (by exact cK rfl rfl) ?_;refine gA rfl rfl rfl rfl (by exact eJ T rfl rfl rfl) ?_;refine gA rfl rfl rfl rfl (by exact eJ T rfl rfl rfl) ?_;refine FL rfl rfl rfl rfl (bE rfl) T rfl rfl rfl rfl rfl rfl (by decide) rfl ?_;refine yI rfl rfl rfl (by exact rfl) ?_)|(refine rg 12 (aV ?_))|refine nZ ?_));refine ⟨_,_,⟨0,rfl,.inr ⟨rfl,rfl,rfl,hkn,hm,rfl⟩⟩,.inl rfl,[0,1,2,3,4,5,6,7,8,9,12],_,rfl,rfl,rfl,⟨.inr ?_,.inr (aD rfl rfl rfl (bT _)),.inr (aD rfl (XJ m c d) hrn (bS _)),.inr (aD rfl rfl rfl (bS _)),.inr (aD rfl rfl rfl (bT _)),.inr rfl,.inr (aC rfl rfl (eC _)),.inr (aC rfl rfl (eV _)),.inr (aC rfl rfl (eT _)),.inl rfl,.inr (aC rfl (OQ m.rbs c d) (eD _)),trivial⟩,by decide,I8 12⟩
            exact congrArg (fun n : Nat => some (AB.cells (jM f ++ [.sl 6 0 m.zs.length 5,.sl 7 0 m.aps.length 2,.sl 8 0 m.shs.length 2,.sl 12 0 n 2,.mp 1,.mp 2,.mp 3,.mp 4,.mp 5,.nils,.nils]))) hln
theorem VJ (l : List (List UInt8 × List UInt8)) (a b : List UInt8) : ((pR l).drop 0).take l.length ++ [[AV.s a,AV.s b]] = pR (l ++ [(a,b)]) := by
  rw [fJ,bC (by simp)]
  simp
theorem KZ (f : jD) (m : Mk) (a b : List UInt8) (ha : a.length ≤ 9223372036854775807) (hb : b.length ≤ 9223372036854775807) (hal : m.aps.length ≤ 1000000) :
    fT Tryz.prog 60 [.ptr 0 0,.agg [.s a,.s b]] (YC f m) (fun r o => ∃ e,r = .i e ∧ ((e ≠ 0 ∧ o = YC f m) ∨ (e = 0 ∧ o = zM0 f { m with aps := m.aps ++ [(a,b)] } 6 10 8 9 (.arr (nC m.zs) 5) .gone (.arr (pH m.shs) 2) (.arr (kD m.rbs) 2) ++ [.arr (pR (m.aps ++ [(a,b)])) 2]))) := by
  have hna := EW a ha;have hnb := EW b hb;have hap := OA m.aps a b (by omega)
  have hln : m.aps.length + 1 = (m.aps ++ [(a,b)]).length := by simp
  have hal2 : (pR m.aps).length = m.aps.length := by simp
  refine mM T Tryz.func60 rfl rfl rfl rfl ?_;generalize FU m.aps a b = y at *
  (repeat' (first|refine wS ?_|refine wK ?_|refine wR ?_|refine wT ?_|(refine wC rfl (fun hb=>?_) (fun hb=>?_)<;>(first|subst hb|((try simp only [nm] at hb);try (exfalso;omega))))|(refine rg 0 (bH (bN rfl rfl) rfl (aV ?_)))|(refine rg 1 (eK T rfl (gI rfl rfl (hna) (.cons (.v _) .nil) (by rintro _ ⟨_,rfl⟩;rfl) rfl ?_));rintro _ ⟨x1,rfl⟩;dsimp only [gJ];refine vV (bB rfl) (mV ?_);refine aO rfl rfl ?_ ?_<;>(intro hb;rw [hb];(try simp only [nm] at hb);try (exfalso;omega));(all_goals first|(refine gT (fW T rfl (gT (lW T rfl (gT (gI rfl rfl (hnb) (.cons (.v _) .nil) (by rintro _ ⟨_,rfl⟩;rfl) rfl ?_)))));rintro _ ⟨x2,rfl⟩;dsimp only [gJ])|(iterate 3 refine gF ?_));(all_goals first|(refine gT (vV (bB rfl) ?_))|(refine gF ?_));(all_goals (refine pV ?_)))|(refine rg 2 (aV ?_))|(refine uZ (id := 3) 9 37 [[],[0],[0,1],[0,1,2],rN 4,[],[5],[],[7],rN 9] [[],[0],[0,1],[0,1,2],rN 4,[],[5],[],[7]] (rM 15 9) [[],[],[],[],[],rM 15 5,rM 15 5,rM 15 7,rM 15 7] bM rfl (by decide +kernel) (by decide +kernel) ?_;(dsimp only [List.take,List.drop]);refine dN rfl (dV rfl (by exact cK rfl rfl) ?_);refine dP T rfl (dP T rfl (dO T rfl (dP T rfl (dO T rfl (dP T rfl (dO T rfl (dE ?_)))))));refine mD ?_;refine vV (by exact gB rfl rfl hap (.cons (oV rfl hal2.symm (pN (fun _=>rfl) _)) (.cons (.v _) (.cons (.v _) .nil))) rfl rfl) ?_)|(refine rg 4 (aV ?_))|refine nZ ?_));all_goals first | (exfalso;omega) | exact ⟨_,_,⟨_,rfl,.inl ⟨by decide,rfl⟩⟩,.inl rfl,[0,1,2,3,4,5,6,7,8,9],_,rfl,rfl,rfl,⟨.inr rfl,.inr (aD rfl rfl rfl (bT _)),.inr (aD rfl rfl rfl (bS _)),.inr (aD rfl rfl rfl (bS _)),.inr (aD rfl rfl rfl (bT _)),.inr rfl,.inr (aC rfl rfl (eC _)),.inr (aC rfl rfl (eV _)),.inr (aC rfl rfl (eT _)),.inr (aC rfl rfl (eD _)),trivial⟩,by decide,I9⟩ | skip
  all_goals
    (repeat' (first|refine wS ?_|refine wR ?_|(refine sF (id := 5) 37 zV3 (rM 25 12) [[],[25],[25],[25],[25],[25],rM 25 6,rM 25 6,[25],[],[],[],[]] [(8,7),(12,0)] bM rfl (by decide +kernel) (gA rfl rfl rfl rfl (by exact jA rfl) ?_);refine gA rfl rfl rfl rfl (by exact jA rfl) ?_;refine gA rfl rfl rfl rfl (by exact cK rfl rfl) ?_;refine gA rfl rfl rfl rfl (by exact eJ T rfl rfl rfl) ?_;refine gA rfl rfl rfl rfl (by exact eJ T rfl rfl rfl) ?_;refine gA rfl rfl rfl rfl (by exact cJ T rfl rfl rfl rfl) ?_;refine gA rfl rfl rfl rfl (by exact cJ T rfl rfl rfl rfl) ?_;refine AL rfl rfl rfl rfl (by exact aS T rfl rfl (by decide) (by decide) rfl rfl rfl) rfl ?_;refine F6 rfl rfl rfl rfl (bE rfl) (by exact sG T rfl rfl rfl rfl rfl rfl (by simp) (iU.whole rfl rfl) rfl (by simp;omega) (by simp;omega)) ?_;refine gA rfl rfl rfl rfl (by exact cK rfl rfl) ?_;refine gA rfl rfl rfl rfl (by exact eJ T rfl rfl rfl) ?_;refine gA rfl rfl rfl rfl (by exact eJ T rfl rfl rfl) ?_;refine FL rfl rfl rfl rfl (bE rfl) T rfl rfl rfl rfl rfl rfl (by decide) rfl ?_;refine yI rfl rfl rfl (by exact rfl) ?_)|(refine rg 6 (aV ?_))|refine nZ ?_));refine ⟨_,_,⟨0,rfl,.inr ⟨rfl,rfl⟩⟩,.inl rfl,[0,1,2,3,4,5,6,7,8,9,12],_,rfl,rfl,rfl,⟨.inr ?_,.inr (aD rfl rfl rfl (bT _)),.inr (aD rfl rfl rfl (bS _)),.inr (aD rfl rfl rfl (bS _)),.inr (aD rfl rfl rfl (bT _)),.inr rfl,.inr (aC rfl rfl (eC _)),.inl rfl,.inr (aC rfl rfl (eT _)),.inr (aC rfl rfl (eD _)),.inr (aC rfl (VJ m.aps a b) (eV _)),trivial⟩,by decide,I8 12⟩
    exact congrArg (fun n : Nat => some (AB.cells (jM f ++ [.sl 6 0 m.zs.length 5,.sl 12 0 n 2,.sl 8 0 m.shs.length 2,.sl 9 0 m.rbs.length 2,.mp 1,.mp 2,.mp 3,.mp 4,.mp 5,.nils,.nils]))) hln
end Go.Proofs.YtdmajnjoeidgeaaGreat
