/-
  Texts of the logic and of the layer,in one module (part 7).
-/
import Derived.Test.YtdmajnjoeidgeaaGreatI6
set_option linter.unusedVariables false
set_option linter.unusedSimpArgs false
namespace Go.Proofs.YtdmajnjoeidgeaaGreat
open Go Go.Ab Go.Fl Go.Re Go.Ln Go.MapKept
attribute [local irreducible] VC AW bR bQ fT nK
set_option maxHeartbeats 4000000
theorem LY (l w : List Int) (hl : l.length ≤ 1000000) : bQ Tryz.prog 41 [.rowE (aI l) 1,.rowE (aI w) 1] [] (.i (qG w l)) [] := by
  have hll : (aI l).length = l.length := aR _;have hwl : (aI w).length = w.length := aR _;have hmin : min (1 : Int) (((aI l).length : Nat) : Int) = ((min 1 l.length : Nat) : Int) := by rw [hll];omega
  have hdr : (aI l).drop (min 1 l.length) = aI (l.drop 1) := by
    cases l with
    | nil => rfl
    | cons a l => rw [show min 1 (a :: l).length = 1 by simp];rfl
  have htl : (l.drop 1).length ≤ 1000000 := by rw [iE];omega
  unfold qG;refine dD T Tryz.func41 rfl rfl rfl rfl ?_
  (repeat' (first|refine wS ?_|refine wB ?_|(refine rg 0 (aV ?_))|(refine rg 1 (aV ?_))|(refine rg 2 (eX rfl (qW T rfl (vV (zG8 rfl rfl) ?_)));refine vV (by exact (show bR _ _ _ _ 0 (fun _=>AV.rowE (aI (l.drop 1)) 1) (fun _=>[]) from hdr ▸ mX T rfl rfl rfl rfl (k := min 1 l.length) (congrArg some hmin) (by omega) (aE _))) ?_;refine qW T rfl (mV ?_))|refine nZ ?_));generalize l.drop 1 = t at *
  have htl2 : (aI t).length = t.length := aR _;refine bV (X := {p : Nat × Int // p.1 ≤ t.length ∧ D7 w p.2 (t.drop p.1) = D7 w 0 t}) (fun p => [(1,.rowE (aI w) 1),(5,.i p.1.2),(12,.rowE (aI t) 1),(13,.i t.length),(14,.i (p.1.1 : Int))]) (fun _ => []) (fun p => t.length - p.1.1) ⟨(0,0),cH _,by rw [fJ]⟩ ⟨[],rfl,⟨rfl,rfl,rfl,congrArg (fun n : Nat => some (AV.i n)) htl2,rfl,trivial⟩,trivial,dK,gL⟩ ?_
  rintro ⟨⟨j,n⟩,hj,hn⟩;dsimp only at hj hn ⊢;by_cases hlt : j < t.length
  · rw [bK hlt,M9] at hn;have q1 : (aI t)[(j : Int).toNat]? = some [AV.i t[j]] := by rw [aX];exact iF hlt
    generalize t[j] = c at *;by_cases h1 : 0 ≤ c ∧ c < w.length
    · have q2 := eY (l := w) (j := c) (i := c.toNat) (-1) (by omega) (by omega)
      generalize w.getD c.toNat (-1) = y at *;by_cases h2 : y = -1
      · rw [if_neg (fun h => h.2.2 h2)] at hn;rw [← hn]
        (repeat' (first|refine wS ?_|refine wB ?_|refine wK ?_|refine wR ?_|refine wT ?_|(refine rg 3 (vV (aL rfl rfl (by omega)) ?_))|(refine rg 4 (vV (ix T rfl (by omega) (aE _) q1) (lW T rfl (aV ?_))))|(refine rg 5 (mW rfl (vV (bG rfl rfl (by omega)) (mW rfl (yN rfl (yN rfl (gT (qW T rfl (yV (kG rfl rfl (by omega)) (pV ?_)))))))));refine mW rfl (yN rfl (yN rfl (yV (ix T rfl (by omega) (aE _) q2) (yO T rfl (yV (gH rfl rfl h2) (pV ?_)))))))|(refine rg 6 (aV ?_))|refine nZ ?_));all_goals first | (exfalso;omega) | exact rQ
      · rw [if_pos ⟨h1.1,h1.2,h2⟩] at hn
        (repeat' (first|refine wS ?_|refine wB ?_|refine wK ?_|refine wT ?_|refine wU ?_|(refine rg 3 (vV (aL rfl rfl (by omega)) ?_))|(refine rg 4 (vV (ix T rfl (by omega) (aE _) q1) (lW T rfl (aV ?_))))|(refine rg 5 (mW rfl (vV (bG rfl rfl (by omega)) (mW rfl (yN rfl (yN rfl (gT (qW T rfl (yV (kG rfl rfl (by omega)) (pV ?_)))))))));refine mW rfl (yN rfl (yN rfl (yV (ix T rfl (by omega) (aE _) q2) (yO T rfl (yV (eN rfl rfl h2) (pV ?_)))))))|(refine rg 7 (eX rfl (mW rfl (vV (ix T rfl (by omega) (aE _) q2) (lW T rfl (vV (sC rfl rfl) (aV ?_)))))))|(refine rg 8 (vV (bP rfl rfl (by omega) (by omega)) (mV ?_)))|refine nZ ?_));all_goals first | (exfalso;omega) | exact ⟨⟨(j + 1,max n y),hlt,hn⟩,by dsimp only;omega,eI []⟩
    · rw [if_neg (fun h => h1 ⟨h.1,h.2.1⟩)] at hn;rw [← hn]
      (repeat' (first|refine wS ?_|refine wB ?_|refine wK ?_|refine wR ?_|refine wT ?_|(refine rg 3 (vV (aL rfl rfl (by omega)) ?_))|(refine rg 4 (vV (ix T rfl (by omega) (aE _) q1) (lW T rfl (aV ?_))))|(refine rg 5 (mW rfl (vV (bX rfl rfl) (mV ?_)));refine aO rfl rfl ?_ ?_<;>(intro hb;rw [hb];(try simp only [nm] at hb);try (exfalso;omega));(all_goals first|(refine gT (mW rfl (gT (mW rfl (gT (qW T rfl (gT (vV (gS rfl rfl) ?_))))))))|(iterate 4 refine gF ?_));(all_goals (refine pW rfl (mV ?_)));(all_goals first|(refine gK ?_)|(refine aO rfl rfl ?_ ?_<;>(intro hb;rw [hb];(try simp only [nm] at hb);try (exfalso;omega))));(all_goals ((iterate 5 refine gF ?_);refine pV ?_)))|(refine rg 6 (aV ?_))|refine nZ ?_));all_goals first | (exfalso;omega) | exact rQ
  · rw [fK (by omega)] at hn
    rw [← hn];rw [show D7 w n [] = n from rfl]
    (repeat' (first|refine wS ?_|refine wR ?_|refine wE ?_|refine wU ?_|(refine rg 3 (vV (bG rfl rfl (by omega)) ?_))|(refine rg 9 (mW rfl (aV ?_)))|refine nZ ?_));all_goals first | (exfalso;omega) | exact rQ
def vT : List fR → Int → Int → Int
  | [],_,_ => -1
  | x :: l,c,k => if x.1 = c then k else vT l c (k + 1)
theorem KG {l : List fR} {c : Int} {k : Nat} (h : k < l.length) : vT (l.drop k) c k = if (l[k]).1 = c then (k : Int) else vT (l.drop (k + 1)) c ((k + 1 : Nat) : Int) := by
  rw [bK h];simp [vT]
theorem Z1 : ∀ (l : List fR) (c : Int) (k : Nat), (vT l c k = -1 ∧ l.find? (fun x => decide (x.1 = c)) = none) ∨ ∃ i : Nat, vT l c k = ((k + i : Nat) : Int) ∧ i < l.length ∧ l[i]? = l.find? (fun x => decide (x.1 = c))
  | [],_,_ => .inl ⟨rfl,rfl⟩
  | x :: l,c,k => by
    unfold vT;by_cases h : x.1 = c
    · rw [if_pos h];exact .inr ⟨0,rfl,by simp,by simp [h]⟩
    · rw [if_neg h,List.find?_cons_of_neg (by simpa using h)]
      rcases Z1 l c (k + 1) with ⟨h1,h2⟩ | ⟨i,h1,h2,h3⟩
      · exact .inl ⟨h1,h2⟩
      · exact .inr ⟨i + 1,by rw [← show ((k + 1 : Nat) : Int) = (k : Int) + 1 by omega,h1];omega,by simp only [List.length_cons];omega,by rw [jK];exact h3⟩
theorem qJ {l : List fR} {i : Nat} {x : fR} (h : l[i]? = some x) : (fG l)[i]? = some (jH x) := by simp [h]
theorem zE4 (x : fR) (c : Int) : bQ Tryz.prog 40 [.agg (jH x),.pr [.i c] 0] [] (.b (decide (x.1 = c))) [] := by
  obtain ⟨y,a,b⟩ := x;refine dD T Tryz.func40 rfl rfl rfl rfl ?_
  (repeat' (first|refine wS ?_|refine wR ?_|(refine rg 0 (bH (bN rfl rfl) rfl (aV ?_)))|(refine rg 1 (fW T rfl (vV (cJ T rfl rfl rfl rfl) (vV (cJ T rfl rfl rfl rfl) (vV (gD rfl rfl) (aV ?_))))))|refine nZ ?_));all_goals first | (exfalso;omega) | exact rQ
theorem TT (l : List fR) (c : Int) (hl : l.length ≤ 9223372036854775807) : bQ Tryz.prog 39 [.rowE (fG l) 3,.clo (.func 40) [] [.pr [.i c] 0]] [] (.i (vT l c 0)) [] := by
  have hlen : (fG l).length = l.length := by simp
  refine dD T Tryz.func39 rfl rfl rfl rfl ?_
  (repeat' (first|refine wS ?_|refine wB ?_|(refine rg 0 (aV ?_))|(refine rg 1 (mW rfl (qW T rfl (mV ?_))))|refine nZ ?_));refine bV (X := {k : Nat // k ≤ l.length ∧ vT l c 0 = vT (l.drop k) c k}) (fun k => [(0,.rowE (fG l) 3),(1,.clo (.func 40) [] [.pr [.i c] 0]),(7,.i (fG l).length),(8,.i k.1)]) (fun _ => []) (fun k => l.length - k.1) ⟨0,by simp,rfl⟩ (eI []) ?_
  rintro ⟨k,hk,hf⟩;dsimp only;by_cases hlt : k < l.length
  · have hd := KG (c := c) hlt;have q1 : (fG l)[(k : Int).toNat]? = some (jH l[k]) := qJ (by rw [aX,aB hlt])
    have hc := zE4 l[k] c;generalize l[k] = r at *;obtain ⟨y,a,b⟩ := r;dsimp only at hc hd q1;by_cases hb : y = c
    · rw [decide_eq_true hb] at hc;rw [hf,hd,if_pos hb]
      (repeat' (first|refine wS ?_|refine wB ?_|refine wK ?_|refine wR ?_|refine wT ?_|(refine rg 2 (vV (aL rfl rfl (by omega)) ?_))|(refine rg 3 (mW rfl (aV ?_)))|(refine rg 4 (eX rfl (mW rfl (vV (ix T rfl (by omega) (iH l) q1) (lW T rfl (vV (kC (hc)) ?_))))))|(refine rg 5 (mW rfl (aV ?_)))|refine nZ ?_));all_goals first | (exfalso;omega) | exact rQ
    · rw [decide_eq_false hb] at hc;rw [if_neg hb] at hd
      (repeat' (first|refine wS ?_|refine wB ?_|refine wK ?_|refine wT ?_|refine wU ?_|(refine rg 2 (vV (aL rfl rfl (by omega)) ?_))|(refine rg 3 (mW rfl (aV ?_)))|(refine rg 4 (eX rfl (mW rfl (vV (ix T rfl (by omega) (iH l) q1) (lW T rfl (vV (kC (hc)) ?_))))))|(refine rg 6 (vV (bP rfl rfl (by omega) (by omega)) (mV ?_)))|refine nZ ?_));all_goals first | (exfalso;omega) | exact ⟨⟨k + 1,by omega,by rw [hf,hd]⟩,by dsimp only;omega,eI []⟩
  · rw [hf,fK (by omega)]
    (repeat' (first|refine wS ?_|refine wR ?_|refine wE ?_|refine wU ?_|(refine rg 2 (vV (bG rfl rfl (by omega)) ?_))|(refine rg 7 (aV ?_))|refine nZ ?_));all_goals first | (exfalso;omega) | exact rQ
abbrev zN9 (x : Int × Int × Int) : AV := .tup [.i x.1,.i x.2.1,.i x.2.2]
theorem CQ (l : List fR) (b c : Int) (w : List Int) (hl : l.length ≤ 1000000) (hll : ∀ x,x ∈ l → x.2.1.length ≤ 1000000 ∧ x.2.2.length ≤ 1000000) :
    bQ Tryz.prog 12 [.agg (jR l b),.i c,.rowE (aI w) 1] [] (zN9 (BT l b c w)) [] := by
  have hi := TT l c (by omega)
  unfold BT;rcases Z1 l c 0 with ⟨h1,h2⟩ | ⟨i,h1,h2,h3⟩
  · rw [h2];rw [show vT l c 0 = -1 from h1] at hi
    dsimp only;refine dD T Tryz.func12 rfl rfl rfl rfl ?_
    (repeat' (first|refine wS ?_|refine wR ?_|refine wT ?_|(refine rg 0 (bH (bN rfl rfl) rfl (bH (bN rfl rfl) rfl (D2 rfl (aV ?_)))))|(refine rg 1 (eK T rfl (vV (by exact qN rfl rfl) ?_));refine vV (by exact gB rfl rfl hi (.cons (.row _ _ _) (.cons (.clo .nil (.cons (.ptr rfl (.cons (.v _) .nil)) .nil)) .nil)) rfl rfl) ?_;refine aV ?_)|(refine rg 2 (mW rfl (vV (bX rfl rfl) ?_)))|(refine rg 3 (D2 rfl (aV ?_)))|refine nZ ?_));all_goals first | (exfalso;omega) | exact rQ
  · rw [← h3];obtain ⟨x,hx⟩ : ∃ x,l[i]? = some x := ⟨l[i],aB h2⟩;rw [hx];have hxl := hll x (bD hx);rw [show vT l c 0 = ((i : Nat) : Int) by rw [show vT l c 0 = vT l c ((0 : Nat) : Int) from rfl,h1];omega] at hi
    have q1 : (fG l)[((i : Nat) : Int).toNat]? = some (jH x) := qJ (by rw [aX];exact hx)
    obtain ⟨y,A,B⟩ := x;have ca := LY A w hxl.1;have cb := LY B w hxl.2;dsimp only;unfold XG;dsimp only;have g1 := EK (w := w) (t := A.drop 1) (n := 0) (by omega)
    have g2 := EK (w := w) (t := B.drop 1) (n := 0) (by omega)
    generalize hta : qG w A = ta at *;generalize htb : qG w B = tb at *;refine dD T Tryz.func12 rfl rfl rfl rfl ?_
    (repeat' (first|refine wS ?_|refine wB ?_|refine wK ?_|refine wU ?_|(refine rg 0 (bH (bN rfl rfl) rfl (bH (bN rfl rfl) rfl (D2 rfl (aV ?_)))))|(refine rg 1 (eK T rfl (vV (by exact qN rfl rfl) ?_));refine vV (by exact gB rfl rfl hi (.cons (.row _ _ _) (.cons (.clo .nil (.cons (.ptr rfl (.cons (.v _) .nil)) .nil)) .nil)) rfl rfl) ?_;refine aV ?_)|(refine rg 2 (mW rfl (vV (bG rfl rfl (by omega)) ?_)))|(refine aN (id := 4) 63 [[],[0],[],[0,1,2],rN 4,rN 5,[],rN 7,[],[8],[],[8,9,10],rM 8 4,rM 8 5,[],rN 15,rN 16] [18,19,20,21,22,23,24,25,26,27,28,29,30,31,32,33,10] [[],[],[18,19],[],[],[],rM 18 6,[],rM 18 8,rM 18 8,rM 18 10,rM 18 8,rM 18 8,rM 18 8,rM 18 14,[],[]] bM rfl (by decide +kernel) (dP T rfl (dO T rfl (dN rfl (dV rfl (ix T rfl (by omega) (iH l) q1) (dP T rfl (dO T rfl (dN rfl (dV rfl (kC (ca)) (dF T ?_)))))))));refine dO T rfl (dN rfl (dV rfl (ix T rfl (by omega) (iH l) q1) (dP T rfl (dO T rfl (dN rfl (dV rfl (kC (cb)) (dV rfl (eM rfl) (dE ?_))))))));refine aV ?_)|refine nZ ?_));refine kT [(3,.ptr 0 0),(6,.i 0),(7,.i 0),(8,.i 0),(10,.i ta),(11,.i tb)] [.cells (jR l b)] ⟨[0],rfl,(by repeat first|exact trivial|refine ⟨rfl,?_⟩),⟨.inr rfl,trivial⟩,by decide,gL⟩ ?_
    have hcase : (ta < 0 ∧ tb < 0) ∨ (¬ (ta < 0 ∧ tb < 0) ∧ (ta < 0 ∨ (0 ≤ tb ∧ tb < ta)) ∧ b < tb) ∨ (¬ (ta < 0 ∧ tb < 0) ∧ (ta < 0 ∨ (0 ≤ tb ∧ tb < ta)) ∧ ¬ b < tb) ∨ (¬ (ta < 0 ∧ tb < 0) ∧ ¬ (ta < 0 ∨ (0 ≤ tb ∧ tb < ta)) ∧ b < ta) ∨ (¬ (ta < 0 ∧ tb < 0) ∧ ¬ (ta < 0 ∨ (0 ≤ tb ∧ tb < ta)) ∧ ¬ b < ta) := by omega
    rcases hcase with h | ⟨h1,h2,h3⟩ | ⟨h1,h2,h3⟩ | ⟨h1,h2,h3⟩ | ⟨h1,h2,h3⟩
    · rw [if_pos h]
      (repeat' (first|refine wS ?_|refine wR ?_|refine wT ?_|(refine rg 6 (mW rfl (vV (aL rfl rfl (by omega)) (mW rfl (yN rfl (yV (aL rfl rfl (by omega)) (pW rfl (aV ?_))))))))|(refine rg 7 (D2 rfl (aV ?_)))|refine nZ ?_));all_goals first | (exfalso;omega) | exact rQ
    · rw [if_neg h1,if_pos h2,if_pos h3]
      (repeat' (first|refine wS ?_|refine wR ?_|refine wT ?_|refine wU ?_|(refine wC rfl ?_ ?_<;>(intro hb;(try simp only [nm] at hb);try (exfalso;omega)))|(refine rg 6 (mW rfl (vV (bX rfl rfl) (mV ?_)));refine aO rfl rfl ?_ ?_<;>(intro hb;rw [hb];(try simp only [nm] at hb);try (exfalso;omega));(all_goals first|(refine gT (mW rfl (gT (vV (bX rfl rfl) ?_))))|(iterate 2 refine gF ?_));(all_goals (refine pW rfl (aV ?_))))|(refine rg 8 (mW rfl (vV (bX rfl rfl) (mV ?_)));refine aO rfl rfl ?_ ?_<;>(intro hb;rw [hb];(try simp only [nm] at hb);try (exfalso;omega));(all_goals first|(refine gT (mW rfl (gT (vV (gS rfl rfl) (gT (mV ?_))))))|(iterate 3 refine gF ?_));(all_goals first|(refine gK ?_)|(refine aO rfl rfl ?_ ?_<;>(intro hb;rw [hb];(try simp only [nm] at hb);try (exfalso;omega))));(all_goals first|(refine gT (mW rfl (gT (mW rfl (gT (vV (bX rfl rfl) ?_))))))|(iterate 3 refine gU ?_));(all_goals first|(refine gT (pV ?_))|(refine gF ?_));(all_goals (refine pW rfl (aV ?_))))|(refine rg 9 (mW rfl (iZ ?_)))|(refine rg 10 (mW rfl (eK T rfl (vV (eS rfl rfl) ?_))))|(refine rg 11 (eX rfl (D2 rfl (aV ?_))))|refine nZ ?_));all_goals first | (exfalso;omega) | exact rQ
    · rw [if_neg h1,if_pos h2,if_neg h3]
      (repeat' (first|refine wS ?_|refine wK ?_|refine wR ?_|refine wT ?_|refine wU ?_|(refine wC rfl ?_ ?_<;>(intro hb;(try simp only [nm] at hb);try (exfalso;omega)))|(refine rg 6 (mW rfl (vV (bX rfl rfl) (mV ?_)));refine aO rfl rfl ?_ ?_<;>(intro hb;rw [hb];(try simp only [nm] at hb);try (exfalso;omega));(all_goals first|(refine gT (mW rfl (gT (vV (bX rfl rfl) ?_))))|(iterate 2 refine gF ?_));(all_goals (refine pW rfl (aV ?_))))|(refine rg 8 (mW rfl (vV (bX rfl rfl) (mV ?_)));refine aO rfl rfl ?_ ?_<;>(intro hb;rw [hb];(try simp only [nm] at hb);try (exfalso;omega));(all_goals first|(refine gT (mW rfl (gT (vV (gS rfl rfl) (gT (mV ?_))))))|(iterate 3 refine gF ?_));(all_goals first|(refine gK ?_)|(refine aO rfl rfl ?_ ?_<;>(intro hb;rw [hb];(try simp only [nm] at hb);try (exfalso;omega))));(all_goals first|(refine gT (mW rfl (gT (mW rfl (gT (vV (bX rfl rfl) ?_))))))|(iterate 3 refine gU ?_));(all_goals first|(refine gT (pV ?_))|(refine gF ?_));(all_goals (refine pW rfl (aV ?_))))|(refine rg 9 (mW rfl (iZ ?_)))|(refine rg 10 (mW rfl (eK T rfl (vV (eS rfl rfl) ?_))))|(refine rg 12 (eX rfl (D2 rfl (aV ?_))))|refine nZ ?_));all_goals first | (exfalso;omega) | exact rQ
    · rw [if_neg h1,if_neg h2,if_pos h3]
      (repeat' (first|refine wS ?_|refine wR ?_|refine wU ?_|(refine wC rfl ?_ ?_<;>(intro hb;(try simp only [nm] at hb);try (exfalso;omega)))|(refine rg 6 (mW rfl (vV (bX rfl rfl) (mV ?_)));refine aO rfl rfl ?_ ?_<;>(intro hb;rw [hb];(try simp only [nm] at hb);try (exfalso;omega));(all_goals ((iterate 2 refine gF ?_);refine pW rfl (aV ?_))))|(refine rg 8 (mW rfl (vV (bX rfl rfl) (mV ?_)));refine aO rfl rfl ?_ ?_<;>(intro hb;rw [hb];(try simp only [nm] at hb);try (exfalso;omega));(all_goals (refine yN rfl (yV (gS rfl rfl) (yM ?_));refine aO rfl rfl ?_ ?_<;>(intro hb;rw [hb];(try simp only [nm] at hb);try (exfalso;omega))));(all_goals first|(refine gT (mW rfl (gT (mW rfl (gT (vV (bX rfl rfl) ?_))))))|(iterate 3 refine gF ?_));(all_goals (refine gT (pW rfl (pW rfl (aV ?_))))))|(refine rg 5 (mW rfl (aV ?_)))|(refine rg 10 (mW rfl (eK T rfl (vV (eS rfl rfl) ?_))))|(refine rg 11 (eX rfl (D2 rfl (aV ?_))))|refine nZ ?_));all_goals first | (exfalso;omega) | exact rQ
    · rw [if_neg h1,if_neg h2,if_neg h3]
      (repeat' (first|refine wS ?_|refine wK ?_|refine wR ?_|refine wU ?_|(refine wC rfl ?_ ?_<;>(intro hb;(try simp only [nm] at hb);try (exfalso;omega)))|(refine rg 6 (mW rfl (vV (bX rfl rfl) (mV ?_)));refine aO rfl rfl ?_ ?_<;>(intro hb;rw [hb];(try simp only [nm] at hb);try (exfalso;omega));(all_goals ((iterate 2 refine gF ?_);refine pW rfl (aV ?_))))|(refine rg 8 (mW rfl (vV (bX rfl rfl) (mV ?_)));refine aO rfl rfl ?_ ?_<;>(intro hb;rw [hb];(try simp only [nm] at hb);try (exfalso;omega));(all_goals (refine yN rfl (yV (gS rfl rfl) (yM ?_));refine aO rfl rfl ?_ ?_<;>(intro hb;rw [hb];(try simp only [nm] at hb);try (exfalso;omega))));(all_goals first|(refine gT (mW rfl (gT (mW rfl (gT (vV (bX rfl rfl) ?_))))))|(iterate 3 refine gF ?_));(all_goals (refine gT (pW rfl (pW rfl (aV ?_))))))|(refine rg 5 (mW rfl (aV ?_)))|(refine rg 10 (mW rfl (eK T rfl (vV (eS rfl rfl) ?_))))|(refine rg 12 (eX rfl (D2 rfl (aV ?_))))|refine nZ ?_));all_goals first | (exfalso;omega) | exact rQ
end Go.Proofs.YtdmajnjoeidgeaaGreat
namespace Go.Proofs.YtdmajnjoeidgeaaGreat
open Go Go.Ab Go.Fl Go.Shelf Go.Proofs Go.MapKept
attribute [local irreducible] VC AW bR bQ fT mH BC nK
set_option maxHeartbeats 8000000
structure VR (f : jD) (sh : List Int) (pre : List Int) (r : BQ) : Prop where
  c : Z6 f r.1 = true
  w : f.k.getD r.1.toNat 0 ≠ 0
  l : jS r.2.1 (-1) (sh.length - 1) = true
  ch : jS r.2.2.1 0 1000000 = true
  re : jS r.2.2.2.1 0 20000 = true
  mu : jS r.2.2.2.2.1 0 20000 = true
  ld : 0 ≤ r.2.1 → r.2.1 ∉ pre ∧ sh.getD r.2.1.toNat 0 = r.1
def rI (l : List BQ) (k : Nat) : List Int := (l.take k).map (·.2.1)
def VS (f : jD) (sh : List Int) (l : List BQ) : Prop := ∀ (k : Nat) (h : k < l.length),VR f sh (rI l k) l[k]
theorem OK {n f t : Int} : jS n f t = true ↔ f ≤ n ∧ n ≤ t := by unfold jS;simp
theorem HT {f : jD} {c : Int} : Z6 f c = true ↔ 0 ≤ c ∧ c < f.k.length := by unfold Z6;simp
theorem SB (s : lN) (st : E4) (h1 : st.sh.length ≤ 1000) (h2 : st.rb.length ≤ 1000) : fT Tryz.prog 26 [.agg (fS s),.agg (oW st)] [] (zF4 (VS s.fl st.sh st.rb)) := by
  have hkl : (aI s.fl.k).length = s.fl.k.length := aR _;have hsl : (aI st.sh).length = st.sh.length := aR _;have hrl : (nO st.rb).length = st.rb.length := by simp
  refine mM T Tryz.func26 rfl rfl rfl rfl ?_
  (repeat' (first|refine wS ?_|refine wB ?_|(refine rg 0 (bH (bN rfl rfl) rfl (bH (bN rfl rfl) rfl (aV ?_))))|(refine rg 1 (bH (by exact lR) rfl ?_);refine aV ?_)|(refine rg 2 (eK T rfl (qW T rfl (mV ?_))))|refine nZ ?_));refine bV (X := {p : Nat × List Int // p.1 ≤ st.rb.length ∧ p.2.Nodup ∧ (∀ x,x ∈ p.2 ↔ x ∈ rI st.rb p.1) ∧ ∀ (j : Nat) (hj : j < p.1) (hl : j < st.rb.length),VR s.fl st.sh (rI st.rb j) st.rb[j]}) (fun p => [(2,.ptr 0 0),(3,.ptr 1 0),(5,.mp 2),(10,.rowE (nO st.rb) 6),(11,.i st.rb.length),(12,.i p.1.1)]) (fun p => [.cells (fS s),.cells (oW st),.mapO (p.1.2.map kI) (xM p.1.2.length)]) (fun p => st.rb.length - p.1.1) ⟨(0,[]),by dsimp only;omega,dK,fun x => by simp [rI],fun j hj => absurd hj (dJ _)⟩ ⟨[0,1,2],rfl,⟨rfl,rfl,rfl,rfl,congrArg (fun n : Nat => some (AV.i n)) hrl,rfl,trivial⟩,⟨.inr rfl,.inr rfl,.inr rfl,trivial⟩,by decide,zD _⟩ ?_
  rintro ⟨⟨k,ks⟩,hk,hnd,hks,hp⟩;dsimp only;change k ≤ st.rb.length at hk;change ks.Nodup at hnd;change ∀ x,x ∈ ks ↔ x ∈ rI st.rb k at hks;change ∀ (j : Nat) (hj : j < k) (hl : j < st.rb.length),VR s.fl st.sh (rI st.rb j) st.rb[j] at hp;by_cases hlt : k < st.rb.length
  · have q1 : (nO st.rb)[(k : Int).toNat]? = some (H7 st.rb[k]) := uM hlt;have hln : rI st.rb (k + 1) = rI st.rb k ++ [(st.rb[k]).2.1] := by unfold rI;rw [aJ hlt,cV];rfl
    have hnx : VR s.fl st.sh (rI st.rb k) st.rb[k] → ∀ (j : Nat) (hj : j < k + 1) (hl : j < st.rb.length),VR s.fl st.sh (rI st.rb j) st.rb[j] := fun h j hj hl => by
      by_cases e : j = k
      · subst e;exact h
      · exact hp j (by omega) hl
    generalize st.rb[k] = r at *;obtain ⟨x,ld,ch,re,mu,de⟩ := r;dsimp only at hln;by_cases hin : 0 ≤ x ∧ x < s.fl.k.length
    · have q2 := eY (l := s.fl.k) (j := x) (i := x.toNat) 0 (by omega) (by omega)
      have c1 := wY ld (-1) (st.sh.length - 1);have c2 := wY ch 0 1000000;have c3 := wY re 0 20000;have c4 := wY mu 0 20000;rw [← hsl] at c1;cases w1 : jS ld (-1) (st.sh.length - 1) with
      | false =>
        rw [hsl,w1] at c1;rw [← hsl] at c1
        (repeat' (first|refine wS ?_|refine wB ?_|refine wK ?_|refine wR ?_|refine wT ?_|(refine rg 3 (vV (aL rfl rfl (by omega)) ?_))|(refine rg 4 (vV (ix T rfl (by omega) (jE _) q1) (lW T rfl (bH (cX T rfl) rfl (bJ T rfl rfl rfl rfl rfl rfl (by decide) rfl ?_)))))|(refine rg 5 (eK T rfl (vV (bG rfl rfl (by omega)) (mW rfl (yP T rfl (yO T rfl (yP T rfl (yP T rfl (yO T rfl (gT ?_)))))))));refine qW T rfl (yV (kG rfl rfl (by omega)) (pW rfl (mW rfl (yP T rfl (yP T rfl (yO T rfl (yP T rfl (yO T rfl (yV (ix T rfl (by omega) (aE _) q2) ?_)))))))));refine yO T rfl (yV (gD rfl rfl) (pW rfl (mV ?_)));refine aO rfl rfl ?_ ?_<;>(intro hb;rw [hb];(try simp only [nm] at hb);try (exfalso;omega));(all_goals first|(refine gT (fW T rfl (gT (lW T rfl (gT (fW T rfl (gT (lW T rfl (gT (qV T ?_)))))))));refine gT (vV (fN rfl rfl (by omega) (by omega)) (gT (vV (kC (c1)) (gT (vV (bB rfl) ?_))))))|(iterate 8 refine gF ?_));(all_goals (refine pV ?_)))|(refine rg 6 (aV ?_))|refine nZ ?_));all_goals first | (exfalso;omega) | exact ⟨.b false,[],⟨rfl,false,rfl,fun h => Bool.noConfusion h⟩,rQ⟩
      | true =>
        rw [hsl,w1] at c1;rw [← hsl] at c1;have w1' := OK.1 w1;by_cases hl0 : 0 ≤ ld
        · have q3 := eY (l := st.sh) (j := ld) (i := ld.toNat) 0 (by omega) (by omega)
          by_cases hm : ld ∈ ks
          · obtain ⟨i,hi,hi2⟩ := vU hm;have hv := JM hi
            (repeat' (first|refine wS ?_|refine wB ?_|refine wK ?_|refine wR ?_|refine wT ?_|refine wU ?_|(refine wC rfl ?_ ?_<;>(intro hb;(try simp only [nm] at hb);try (exfalso;omega)))|(refine rg 3 (vV (aL rfl rfl (by omega)) ?_))|(refine rg 4 (vV (ix T rfl (by omega) (jE _) q1) (lW T rfl (bH (cX T rfl) rfl (bJ T rfl rfl rfl rfl rfl rfl (by decide) rfl ?_)))))|(refine rg 5 (eK T rfl (vV (bG rfl rfl (by omega)) (mW rfl (yP T rfl (yO T rfl (yP T rfl (yP T rfl (yO T rfl (gT ?_)))))))));refine qW T rfl (yV (kG rfl rfl (by omega)) (pW rfl (mW rfl (yP T rfl (yP T rfl (yO T rfl (yP T rfl (yO T rfl (yV (ix T rfl (by omega) (aE _) q2) ?_)))))))));refine yO T rfl (yV (gD rfl rfl) (pW rfl (mV ?_)));refine aO rfl rfl ?_ ?_<;>(intro hb;rw [hb];(try simp only [nm] at hb);try (exfalso;omega));(all_goals first|(refine gT (fW T rfl (gT (lW T rfl (gT (fW T rfl (gT (lW T rfl (gT (qV T ?_)))))))));refine gT (vV (fN rfl rfl (by omega) (by omega)) (gT (vV (kC (c1)) (gT (vV (bB rfl) ?_))))))|(iterate 8 refine gF ?_));(all_goals (refine pV ?_)))|(refine rg 6 (aV ?_))|(refine rg 7 (eK T rfl (vV (kC (c2)) (vV (bB rfl) (mV ?_))));refine aO rfl rfl ?_ ?_<;>(intro hb;rw [hb];(try simp only [nm] at hb);try (exfalso;omega));(all_goals first|(refine gT (fW T rfl (gT (lW T rfl (gT (vV (kC (c3)) (gT (vV (bB rfl) ?_))))))))|(iterate 4 refine gF ?_));(all_goals (refine pW rfl (mV ?_)));(all_goals first|(refine gK ?_)|(refine aO rfl rfl ?_ ?_<;>(intro hb;rw [hb];(try simp only [nm] at hb);try (exfalso;omega))));(all_goals first|(refine gT (fW T rfl (gT (lW T rfl (gT (vV (kC (c4)) (gT (vV (bB rfl) ?_))))))))|(iterate 4 refine gF ?_));(all_goals (refine pV ?_)))|(refine rg 8 (aV ?_))|(refine aN (id := 9) 88 zX7 (rM 64 20) zX8 bM rfl (by decide +kernel) (dP T rfl (dO T rfl (dV rfl (mO rfl rfl (by omega)) (dN rfl (tN rfl (tP T rfl (tO T rfl (dT rfl (by exact gR zC jL rfl rfl (gC _) rfl (iK _) (eR _) (tW hnd) hi2 hv) ?_))))))));refine tN rfl (tG rfl (tG rfl (tG rfl (tG rfl (tG rfl (tG rfl (tG rfl (tG rfl (dG ?_)))))))));refine dT rfl (eP rfl rfl) (dV rfl (eP rfl rfl) (dE ?_)))|(refine rg 10 (aV ?_))|refine nZ ?_));all_goals first | (exfalso;omega) | exact ⟨.b false,[],⟨rfl,false,rfl,fun h => Bool.noConfusion h⟩,rQ⟩
          · have hk3 : ks.map kI ++ [kI ld] = (ks ++ [ld]).map kI := by simp
            have hv3 : xM ks.length ++ [.b true] = xM (ks ++ [ld]).length := by rw [G8];simp
            have hnd3 : (ks ++ [ld]).Nodup := by
              rw [fI];exact ⟨hnd,by simp,fun a ha b hb e => hm (by simp at hb;subst hb;subst e;exact ha)⟩
            have hks3 : ∀ x,x ∈ ks ++ [ld] ↔ x ∈ rI st.rb (k + 1) := fun x => by rw [hln,bI,bI,hks x]
            generalize hsx : st.sh.getD ld.toNat 0 = y at *;generalize hkx : s.fl.k.getD x.toNat 0 = z at *
            (repeat' (first|refine wS ?_|refine wB ?_|refine wK ?_|refine wR ?_|refine wT ?_|refine wU ?_|(refine wC rfl ?_ ?_<;>(intro hb;(try simp only [nm] at hb);try (exfalso;omega)))|(refine rg 3 (vV (aL rfl rfl (by omega)) ?_))|(refine rg 4 (vV (ix T rfl (by omega) (jE _) q1) (lW T rfl (bH (cX T rfl) rfl (bJ T rfl rfl rfl rfl rfl rfl (by decide) rfl ?_)))))|(refine rg 5 (eK T rfl (vV (bG rfl rfl (by omega)) (mW rfl (yP T rfl (yO T rfl (yP T rfl (yP T rfl (yO T rfl (gT ?_)))))))));refine qW T rfl (yV (kG rfl rfl (by omega)) (pW rfl (mW rfl (yP T rfl (yP T rfl (yO T rfl (yP T rfl (yO T rfl (yV (ix T rfl (by omega) (aE _) q2) ?_)))))))));refine yO T rfl (yV (gD rfl rfl) (pW rfl (mV ?_)));refine aO rfl rfl ?_ ?_<;>(intro hb;rw [hb];(try simp only [nm] at hb);try (exfalso;omega));(all_goals first|(refine gT (fW T rfl (gT (lW T rfl (gT (fW T rfl (gT (lW T rfl (gT (qV T ?_)))))))));refine gT (vV (fN rfl rfl (by omega) (by omega)) (gT (vV (kC (c1)) (gT (vV (bB rfl) ?_))))))|(iterate 8 refine gF ?_));(all_goals (refine pV ?_)))|(refine rg 6 (aV ?_))|(refine rg 7 (eK T rfl (vV (kC (c2)) (vV (bB rfl) (mV ?_))));refine aO rfl rfl ?_ ?_<;>(intro hb;rw [hb];(try simp only [nm] at hb);try (exfalso;omega));(all_goals first|(refine gT (fW T rfl (gT (lW T rfl (gT (vV (kC (c3)) (gT (vV (bB rfl) ?_))))))))|(iterate 4 refine gF ?_));(all_goals (refine pW rfl (mV ?_)));(all_goals first|(refine gK ?_)|(refine aO rfl rfl ?_ ?_<;>(intro hb;rw [hb];(try simp only [nm] at hb);try (exfalso;omega))));(all_goals first|(refine gT (fW T rfl (gT (lW T rfl (gT (vV (kC (c4)) (gT (vV (bB rfl) ?_))))))))|(iterate 4 refine gF ?_));(all_goals (refine pV ?_)))|(refine rg 8 (aV ?_))|(refine aN (id := 9) 88 zX7 (rM 64 20) zX8 bM rfl (by decide +kernel) (dP T rfl (dO T rfl (dV rfl (mO rfl rfl (by omega)) (dN rfl (tN rfl (tP T rfl (tL T ?_)))))));refine dT rfl (by exact nI (zA := .b false) zC jL LS (fun _ _ _=>iI _) rfl rfl (gC _) rfl (iK _) (eR _) (fun e=>hm (nP.1 e))) ?_;refine tN rfl (tP T rfl (tO T rfl (tP T rfl (tO T rfl (dT rfl (ix T rfl (by omega) (aE _) q3) (tO T rfl (tP T rfl (tO T rfl (dT rfl (gW rfl rfl) ?_)))))))));refine dT rfl (cY rfl rfl) (dV rfl (eP rfl rfl) (dE ?_)))|(refine rg 10 (aV ?_))|(refine rg 11 (mW rfl (zP8 T ?_));refine lQ zC jL rfl rfl (gC _) rfl rfl (iK _) (eR _) (fun e=>hm (nP.1 e)) ?_)|(refine rg 12 (vV (bP rfl rfl (by omega) (by omega)) (mV ?_)))|refine nZ ?_));all_goals first | (exfalso;omega) | exact ⟨.b false,[],⟨rfl,false,rfl,fun h => Bool.noConfusion h⟩,rQ⟩ | skip
            all_goals exact ⟨⟨(k + 1,ks ++ [ld]),hlt,hnd3,hks3,hnx ⟨HT.2 hin,by rw [hkx];assumption,w1,by assumption,by assumption,by assumption,fun _ => ⟨fun e => hm ((hks _).2 e),by rw [hsx];assumption⟩⟩⟩,by dsimp only;omega,⟨[0,1,2],rfl,(by repeat first|exact trivial|refine ⟨rfl,?_⟩),⟨.inr rfl,.inr rfl,.inr (aD rfl hk3 hv3 (bS _)),trivial⟩,by decide,zD _⟩⟩
        · generalize hkx : s.fl.k.getD x.toNat 0 = z at *;by_cases hm : ld ∈ ks
          · obtain ⟨i,hi,hi2⟩ := vU hm;have hks3 : ∀ x,x ∈ ks ↔ x ∈ rI st.rb (k + 1) := fun x => by
              rw [hln,bI,← hks x];exact ⟨.inl,fun h => h.elim id fun e => by rw [bY.1 e];exact hm⟩
            (repeat' (first|refine wS ?_|refine wB ?_|refine wK ?_|refine wR ?_|refine wT ?_|refine wU ?_|(refine wC rfl ?_ ?_<;>(intro hb;(try simp only [nm] at hb);try (exfalso;omega)))|(refine rg 3 (vV (aL rfl rfl (by omega)) ?_))|(refine rg 4 (vV (ix T rfl (by omega) (jE _) q1) (lW T rfl (bH (cX T rfl) rfl (bJ T rfl rfl rfl rfl rfl rfl (by decide) rfl ?_)))))|(refine rg 5 (eK T rfl (vV (bG rfl rfl (by omega)) (mW rfl (yP T rfl (yO T rfl (yP T rfl (yP T rfl (yO T rfl (gT ?_)))))))));refine qW T rfl (yV (kG rfl rfl (by omega)) (pW rfl (mW rfl (yP T rfl (yP T rfl (yO T rfl (yP T rfl (yO T rfl (yV (ix T rfl (by omega) (aE _) q2) ?_)))))))));refine yO T rfl (yV (gD rfl rfl) (pW rfl (mV ?_)));refine aO rfl rfl ?_ ?_<;>(intro hb;rw [hb];(try simp only [nm] at hb);try (exfalso;omega));(all_goals first|(refine gT (fW T rfl (gT (lW T rfl (gT (fW T rfl (gT (lW T rfl (gT (qV T ?_)))))))));refine gT (vV (fN rfl rfl (by omega) (by omega)) (gT (vV (kC (c1)) (gT (vV (bB rfl) ?_))))))|(iterate 8 refine gF ?_));(all_goals (refine pV ?_)))|(refine rg 6 (aV ?_))|(refine rg 7 (eK T rfl (vV (kC (c2)) (vV (bB rfl) (mV ?_))));refine aO rfl rfl ?_ ?_<;>(intro hb;rw [hb];(try simp only [nm] at hb);try (exfalso;omega));(all_goals first|(refine gT (fW T rfl (gT (lW T rfl (gT (vV (kC (c3)) (gT (vV (bB rfl) ?_))))))))|(iterate 4 refine gF ?_));(all_goals (refine pW rfl (mV ?_)));(all_goals first|(refine gK ?_)|(refine aO rfl rfl ?_ ?_<;>(intro hb;rw [hb];(try simp only [nm] at hb);try (exfalso;omega))));(all_goals first|(refine gT (fW T rfl (gT (lW T rfl (gT (vV (kC (c4)) (gT (vV (bB rfl) ?_))))))))|(iterate 4 refine gF ?_));(all_goals (refine pV ?_)))|(refine rg 8 (aV ?_))|(refine aN (id := 9) 88 zX7 (rM 64 20) zX8 bM rfl (by decide +kernel) (dP T rfl (dO T rfl (dV rfl (kG rfl rfl (by omega)) (dN rfl (tG rfl (tG rfl (tG rfl (tG rfl (dG ?_)))))))));refine tH rfl (tH rfl (tH rfl (tH rfl (tH rfl (tH rfl (tH rfl (tH rfl (tH rfl (dG ?_)))))))));refine dV rfl (cY rfl rfl) (dE ?_))|(refine rg 11 (mW rfl (eK T rfl (M8 zC jL rfl rfl (gC _) rfl rfl (iK _) (eR _) (tW hnd) hi2 ?_))))|(refine rg 12 (vV (bP rfl rfl (by omega) (by omega)) (mV ?_)))|refine nZ ?_));all_goals first | (exfalso;omega) | exact ⟨.b false,[],⟨rfl,false,rfl,fun h => Bool.noConfusion h⟩,rQ⟩ | skip
            all_goals exact ⟨⟨(k + 1,ks),hlt,hnd,hks3,hnx ⟨HT.2 hin,by rw [hkx];assumption,w1,by assumption,by assumption,by assumption,fun h => absurd h hl0⟩⟩,by dsimp only;omega,⟨[0,1,2],rfl,(by repeat first|exact trivial|refine ⟨rfl,?_⟩),⟨.inr rfl,.inr rfl,.inr (aD rfl rfl (LW _ _) (bS _)),trivial⟩,by decide,zD _⟩⟩
          · have hk3 : ks.map kI ++ [kI ld] = (ks ++ [ld]).map kI := by simp
            have hv3 : xM ks.length ++ [.b true] = xM (ks ++ [ld]).length := by rw [G8];simp
            have hnd3 : (ks ++ [ld]).Nodup := by
              rw [fI];exact ⟨hnd,by simp,fun a ha b hb e => hm (by simp at hb;subst hb;subst e;exact ha)⟩
            have hks3 : ∀ x,x ∈ ks ++ [ld] ↔ x ∈ rI st.rb (k + 1) := fun x => by rw [hln,bI,bI,hks x]
            (repeat' (first|refine wS ?_|refine wB ?_|refine wK ?_|refine wR ?_|refine wT ?_|refine wU ?_|(refine wC rfl ?_ ?_<;>(intro hb;(try simp only [nm] at hb);try (exfalso;omega)))|(refine rg 3 (vV (aL rfl rfl (by omega)) ?_))|(refine rg 4 (vV (ix T rfl (by omega) (jE _) q1) (lW T rfl (bH (cX T rfl) rfl (bJ T rfl rfl rfl rfl rfl rfl (by decide) rfl ?_)))))|(refine rg 5 (eK T rfl (vV (bG rfl rfl (by omega)) (mW rfl (yP T rfl (yO T rfl (yP T rfl (yP T rfl (yO T rfl (gT ?_)))))))));refine qW T rfl (yV (kG rfl rfl (by omega)) (pW rfl (mW rfl (yP T rfl (yP T rfl (yO T rfl (yP T rfl (yO T rfl (yV (ix T rfl (by omega) (aE _) q2) ?_)))))))));refine yO T rfl (yV (gD rfl rfl) (pW rfl (mV ?_)));refine aO rfl rfl ?_ ?_<;>(intro hb;rw [hb];(try simp only [nm] at hb);try (exfalso;omega));(all_goals first|(refine gT (fW T rfl (gT (lW T rfl (gT (fW T rfl (gT (lW T rfl (gT (qV T ?_)))))))));refine gT (vV (fN rfl rfl (by omega) (by omega)) (gT (vV (kC (c1)) (gT (vV (bB rfl) ?_))))))|(iterate 8 refine gF ?_));(all_goals (refine pV ?_)))|(refine rg 6 (aV ?_))|(refine rg 7 (eK T rfl (vV (kC (c2)) (vV (bB rfl) (mV ?_))));refine aO rfl rfl ?_ ?_<;>(intro hb;rw [hb];(try simp only [nm] at hb);try (exfalso;omega));(all_goals first|(refine gT (fW T rfl (gT (lW T rfl (gT (vV (kC (c3)) (gT (vV (bB rfl) ?_))))))))|(iterate 4 refine gF ?_));(all_goals (refine pW rfl (mV ?_)));(all_goals first|(refine gK ?_)|(refine aO rfl rfl ?_ ?_<;>(intro hb;rw [hb];(try simp only [nm] at hb);try (exfalso;omega))));(all_goals first|(refine gT (fW T rfl (gT (lW T rfl (gT (vV (kC (c4)) (gT (vV (bB rfl) ?_))))))))|(iterate 4 refine gF ?_));(all_goals (refine pV ?_)))|(refine rg 8 (aV ?_))|(refine aN (id := 9) 88 zX7 (rM 64 20) zX8 bM rfl (by decide +kernel) (dP T rfl (dO T rfl (dV rfl (kG rfl rfl (by omega)) (dN rfl (tG rfl (tG rfl (tG rfl (tG rfl (dG ?_)))))))));refine tH rfl (tH rfl (tH rfl (tH rfl (tH rfl (tH rfl (tH rfl (tH rfl (tH rfl (dG ?_)))))))));refine dV rfl (cY rfl rfl) (dE ?_))|(refine rg 11 (mW rfl (zP8 T ?_));refine lQ zC jL rfl rfl (gC _) rfl rfl (iK _) (eR _) (fun e=>hm (nP.1 e)) ?_)|(refine rg 12 (vV (bP rfl rfl (by omega) (by omega)) (mV ?_)))|refine nZ ?_));all_goals first | (exfalso;omega) | exact ⟨.b false,[],⟨rfl,false,rfl,fun h => Bool.noConfusion h⟩,rQ⟩ | skip
            all_goals exact ⟨⟨(k + 1,ks ++ [ld]),hlt,hnd3,hks3,hnx ⟨HT.2 hin,by rw [hkx];assumption,w1,by assumption,by assumption,by assumption,fun h => absurd h hl0⟩⟩,by dsimp only;omega,⟨[0,1,2],rfl,(by repeat first|exact trivial|refine ⟨rfl,?_⟩),⟨.inr rfl,.inr rfl,.inr (aD rfl hk3 hv3 (bS _)),trivial⟩,by decide,zD _⟩⟩
    · by_cases hx0 : x < 0
      · (repeat' (first|refine wS ?_|refine wB ?_|refine wK ?_|refine wR ?_|refine iY rfl ?_|(refine rg 3 (vV (aL rfl rfl (by omega)) ?_))|(refine rg 4 (vV (ix T rfl (by omega) (jE _) q1) (lW T rfl (bH (cX T rfl) rfl (bJ T rfl rfl rfl rfl rfl rfl (by decide) rfl ?_)))))|(refine rg 5 (eK T rfl (vV (aL rfl rfl (by omega)) (mV ?_)));(iterate 7 refine gF ?_);refine pW rfl (mV ?_);(iterate 8 refine gF ?_);refine pW rfl (mV ?_);(iterate 8 refine gF ?_);refine pV ?_)|(refine rg 6 (aV ?_))|(refine nZ ?_)));all_goals first | (exfalso;omega) | exact ⟨.b false,[],⟨rfl,false,rfl,fun h => Bool.noConfusion h⟩,rQ⟩
      · (repeat' (first|refine wS ?_|refine wB ?_|refine wK ?_|refine wR ?_|refine iY rfl ?_|(refine rg 3 (vV (aL rfl rfl (by omega)) ?_))|(refine rg 4 (vV (ix T rfl (by omega) (jE _) q1) (lW T rfl (bH (cX T rfl) rfl (bJ T rfl rfl rfl rfl rfl rfl (by decide) rfl ?_)))))|(refine rg 5 (eK T rfl (vV (bG rfl rfl (by omega)) (mW rfl (yP T rfl (yO T rfl (yP T rfl (yP T rfl (yO T rfl (gT ?_)))))))));refine qW T rfl (yV (mO rfl rfl (by omega)) (pW rfl (mV ?_)));(iterate 8 refine gF ?_);refine pW rfl (mV ?_);(iterate 8 refine gF ?_);refine pV ?_)|(refine rg 6 (aV ?_))|(refine nZ ?_)));all_goals first | (exfalso;omega) | exact ⟨.b false,[],⟨rfl,false,rfl,fun h => Bool.noConfusion h⟩,rQ⟩
  · (repeat' (first|refine wS ?_|refine wR ?_|refine wE ?_|refine iB rfl ?_|(refine rg 3 (vV (bG rfl rfl (by omega)) ?_))|(refine rg 13 (aV ?_))|(refine nZ ?_)));all_goals first | (exfalso;omega) | exact ⟨_,_,⟨rfl,_,rfl,fun _ j hj => hp j (by omega) hj⟩,rQ⟩
structure zS7 (s : lN) (st : E4) : Prop where
  tk : jS st.tick 0 20000 = true
  sl : st.sh.length = s.sh.length
  rl : st.rb.length = s.rb.length
  pl : st.pp.length ≤ 20
  rb : VS s.fl st.sh st.rb
  dd : CC (K4 s.fl st.dd) st.dd.length = true
  sk : CC (GI s.fl st.sk) st.sk.length = true
  sh : ∀ i,i < st.sh.length → D1 st.rb i < 0 → EU s.fl (st.sh.getD i 0) [1,2] = true
  pp : ∀ i,i < st.pp.length → EU s.fl (st.pp.getD i 0) [4,5] = true
  cl : (DT (AZ st)).2 = false
theorem zA6 {f : jD} {c : Int} {ks : List Int} (h : EU f c ks = true) : (0 ≤ c ∧ c < f.k.length) ∧ f.k.getD c.toNat 0 ∈ ks := by
  unfold EU at h;simpa using h
theorem WW {s : lN} {st : E4} (hk : s.fl.k.length ≤ 300) (h1 : st.sh.length ≤ 1000) (h2 : st.rb.length ≤ 1000) (h3 : st.pp.length ≤ 20) (hr : VS s.fl st.sh st.rb)
    (hs : ∀ i,i < st.sh.length → D1 st.rb i < 0 → EU s.fl (st.sh.getD i 0) [1,2] = true) (hp : ∀ i,i < st.pp.length → EU s.fl (st.pp.getD i 0) [4,5] = true) : ZU st := by
  have sm : ∀ c : Int,0 ≤ c ∧ c < s.fl.k.length → Sm c := fun c h => by unfold Sm;omega
  refine ⟨h2,h1,by omega,fun r h => ?_,fun c h => ?_,fun c h => ?_⟩
  · obtain ⟨k,hk,rfl⟩ := eE.1 h;exact sm _ (HT.1 (hr k hk).c)
  · obtain ⟨k,hk,rfl⟩ := eE.1 h;have e : st.sh.getD k 0 = st.sh[k] := by rw [aH,aB hk];rfl
    by_cases hc : D1 st.rb k < 0
    · have := (zA6 (hs k hk hc)).1;rw [e] at this;exact sm _ this
    · have hc2 : 0 ≤ K8 st.rb k 0 := by
        unfold D1 at hc;rw [if_neg (by omega)] at hc
        omega
      obtain ⟨r,hrm,hrl⟩ := (NQ st.rb k 0 (qS _)).2.2.1 hc2;obtain ⟨j,hj,rfl⟩ := eE.1 hrm;have hq := hr j hj;have := (hq.ld (by omega)).2
      rw [hrl,aX,e] at this;rw [this];exact sm _ (HT.1 hq.c)
  · obtain ⟨k,hk,rfl⟩ := eE.1 h;have := (zA6 (hp k hk)).1;rw [aH,aB hk] at this;exact sm _ this
theorem XC (s : lN) (st : E4) (hk : s.fl.k.length ≤ 300) (h1 : st.sh.length ≤ 1000) (h2 : st.rb.length ≤ 1000) (h3 : st.pp.length ≤ 1000) (h4 : st.dd.length ≤ 1000) (h5 : st.sk.length ≤ 1000) (h6 : s.sh.length ≤ 1000) (h7 : s.rb.length ≤ 1000) :
    fT Tryz.prog 8 [.agg (fS s),.agg (oW st)] [] (zF4 (zS7 s st)) := by
  have cR := SB s st h1 h2;have cD := zE3 s.fl st h4 h5;have cT := wY st.tick 0 20000;have hsl : (aI st.sh).length = st.sh.length := aR _;have hpl : (aI st.pp).length = st.pp.length := aR _;have hrl : (nO st.rb).length = st.rb.length := by simp
  have hsl2 : (pH s.sh).length = s.sh.length := by simp
  have hrl2 : (kD s.rb).length = s.rb.length := by simp
  generalize hgt : jS st.tick 0 20000 = b0 at *;generalize hgd : (CC (K4 s.fl st.dd) st.dd.length && CC (GI s.fl st.sk) st.sk.length) = b2 at *;refine mM T Tryz.func8 rfl rfl rfl rfl ?_
  (repeat' (first|refine wS ?_|refine wB ?_|refine wK ?_|refine wR ?_|refine wT ?_|(refine wC rfl ?_ ?_<;>(intro hb;(try simp only [nm] at hb);try (exfalso;omega)))|(refine rg 0 (bH (bN rfl rfl) rfl (bH (bN rfl rfl) rfl (aV ?_))))|(refine rg 1 (eK T rfl (vV (kC (cT)) (vV (bB rfl) (mV ?_))));refine aO rfl rfl ?_ ?_<;>(intro hb;rw [hb];(try simp only [nm] at hb);try (exfalso;omega));(all_goals first|(refine gT (fW T rfl (gT (lW T rfl (gT (qW T rfl (gT (fW T rfl (gT (lV T ?_)))))))));refine gT (qW T rfl (gT (vV (gW rfl rfl) ?_))))|(iterate 7 refine gF ?_));(all_goals (refine pW rfl (mV ?_)));(all_goals first|(refine gK ?_)|(refine aO rfl rfl ?_ ?_<;>(intro hb;rw [hb];(try simp only [nm] at hb);try (exfalso;omega))));(all_goals first|(refine gT (fW T rfl (gT (lW T rfl (gT (qW T rfl (gT (fW T rfl (gT (lV T ?_)))))))));refine gT (qW T rfl (gT (vV (gW rfl rfl) ?_))))|(iterate 7 refine gF ?_));(all_goals (refine pW rfl (mV ?_)));(all_goals first|(refine gK ?_)|(refine aO rfl rfl ?_ ?_<;>(intro hb;rw [hb];(try simp only [nm] at hb);try (exfalso;omega))));(all_goals first|(refine gT (fW T rfl (gT (lW T rfl (gT (qW T rfl (gT (vV (eS rfl rfl) ?_))))))))|(iterate 4 refine gF ?_));(all_goals (refine pW rfl (mV ?_)));(all_goals first|(refine gK ?_)|(refine aO rfl rfl ?_ ?_<;>(intro hb;rw [hb];(try simp only [nm] at hb);try (exfalso;omega))));(all_goals first|(refine gT (lW T rfl (gT (lW T rfl (gT (gI rfl rfl (cR) (.cons (lP _ rfl) (.cons (lP _ rfl) .nil)) (by rintro _ ⟨_,rfl,_⟩;rfl) rfl ?_)))));rintro _ ⟨b1,rfl,hcr⟩;dsimp only [gJ];cases b1)|(iterate 3 refine gF ?_));(all_goals first|(refine gT (vV (bB rfl) ?_))|(refine gF ?_));(all_goals (refine pW rfl (mV ?_)));(all_goals first|(refine gT (fW T rfl (gT (lW T rfl (gT (lW T rfl (gT (vV (kC (cD)) (gT (vV (bB rfl) ?_))))))))))|(iterate 5 refine gF ?_));(all_goals (refine pV ?_)))|(refine rg 2 (aV ?_))|(refine rg 3 (eK T rfl (qW T rfl (mV ?_))))|refine nZ ?_));all_goals first | (exfalso;omega) | exact ⟨.b false,[],⟨rfl,false,rfl,fun h => Bool.noConfusion h⟩,rQ⟩ | skip
  all_goals
    refine bV (X := {k : Nat // k ≤ st.sh.length ∧ ∀ i,i < k → D1 st.rb i < 0 → EU s.fl (st.sh.getD i 0) [1,2] = true}) (fun k => [(2,.ptr 0 0),(3,.ptr 1 0),(53,.rowE (aI st.sh) 1),(54,.i st.sh.length),(55,.i k.1)]) (fun _ => [.cells (fS s),.cells (oW st)]) (fun k => st.sh.length - k.1) ⟨0,by omega,gL⟩ ⟨[0,1],rfl,⟨rfl,rfl,rfl,congrArg (fun n : Nat => some (AV.i n)) hsl,rfl,trivial⟩,⟨.inr rfl,.inr rfl,trivial⟩,by decide,zD _⟩ ?_
    rintro ⟨k,hk1,hsh⟩;dsimp only;by_cases hlt : k < st.sh.length
    · have q1 := eY (l := st.sh) (j := (k : Int)) 0 hlt rfl;have cC := P8 st k (by omega)
      have cO := zF3 s.fl (st.sh.getD k 0) [1,2] (by simp)
      have hnx : (D1 st.rb k < 0 → EU s.fl (st.sh.getD k 0) [1,2] = true) → ∀ i,i < k + 1 → D1 st.rb i < 0 → EU s.fl (st.sh.getD i 0) [1,2] = true := fun h i hi => by
        by_cases e : i = k
        · subst e;exact h
        · exact hsh i (by omega)
      generalize hgo : EU s.fl (st.sh.getD k 0) [1,2] = o at *;generalize st.sh.getD k 0 = c at *;by_cases hca : D1 st.rb k < 0
      · cases o with
        | false =>
          (repeat' (first|refine wS ?_|refine wB ?_|refine wK ?_|refine wR ?_|refine wT ?_|(refine rg 4 (vV (aL rfl rfl (by omega)) ?_))|(refine rg 5 (mW rfl (vV (ix T rfl (by omega) (aE _) q1) (lW T rfl (iZ ?_)))))|(refine rg 6 (lW T rfl (mW rfl (vV (kC (cC)) (vV (aL rfl rfl (by omega)) (mW rfl (yP T rfl (yO T rfl (yN rfl (gT ?_)))))))));refine bH (by exact aS T rfl rfl (by decide) (by decide) rfl rfl rfl) rfl ?_;refine yV (by exact gB rfl rfl cO (.cons (.agg (.cons (.v _) (.cons (.v _) (.cons (.v _) (.cons (.row _ _ _) (.cons (.row _ _ _) .nil)))))) (.cons (.v _) (.cons (lA rfl rfl) .nil))) rfl rfl) ?_;refine yV (bB rfl) (pV ?_))|(refine rg 7 (aV ?_))|refine nZ ?_));all_goals first | (exfalso;omega) | exact ⟨.b false,[],⟨rfl,false,rfl,fun h => Bool.noConfusion h⟩,rQ⟩
        | true =>
          (repeat' (first|refine wS ?_|refine wB ?_|refine wK ?_|refine wT ?_|refine wU ?_|(refine rg 4 (vV (aL rfl rfl (by omega)) ?_))|(refine rg 5 (mW rfl (vV (ix T rfl (by omega) (aE _) q1) (lW T rfl (iZ ?_)))))|(refine rg 6 (lW T rfl (mW rfl (vV (kC (cC)) (vV (aL rfl rfl (by omega)) (mW rfl (yP T rfl (yO T rfl (yN rfl (gT ?_)))))))));refine bH (by exact aS T rfl rfl (by decide) (by decide) rfl rfl rfl) rfl ?_;refine yV (by exact gB rfl rfl cO (.cons (.agg (.cons (.v _) (.cons (.v _) (.cons (.v _) (.cons (.row _ _ _) (.cons (.row _ _ _) .nil)))))) (.cons (.v _) (.cons (lA rfl rfl) .nil))) rfl rfl) ?_;refine yV (bB rfl) (pV ?_))|(refine rg 8 (vV (bP rfl rfl (by omega) (by omega)) (mV ?_)))|refine nZ ?_));all_goals first | (exfalso;omega) | exact ⟨⟨k + 1,hlt,hnx fun _ => rfl⟩,by dsimp only;omega,eI [0,1]⟩
      · (repeat' (first|refine wS ?_|refine wB ?_|refine wK ?_|refine iY rfl ?_|refine iB rfl ?_|(refine rg 4 (vV (aL rfl rfl (by omega)) ?_))|(refine rg 5 (mW rfl (vV (ix T rfl (by omega) (aE _) q1) (lW T rfl (iZ ?_)))))|(refine rg 6 (lW T rfl (mW rfl (vV (kC (cC)) (vV (bG rfl rfl (by omega)) (mV ?_)))));(iterate 6 refine gF ?_);refine pV ?_)|(refine rg 8 (vV (bP rfl rfl (by omega) (by omega)) (mV ?_)))|(refine nZ ?_)));all_goals first | (exfalso;omega) | exact ⟨⟨k + 1,hlt,hnx fun h => absurd h hca⟩,by dsimp only;omega,eI [0,1]⟩
    · obtain rfl : k = st.sh.length := by omega
      clear hk1 hlt
      (repeat' (first|refine wS ?_|refine wB ?_|refine wE ?_|refine wU ?_|(refine rg 4 (vV (bG rfl rfl (by omega)) ?_))|(refine rg 9 (eK T rfl (qW T rfl (mV ?_))))|refine nZ ?_));all_goals try (exfalso;omega)
      refine bV (X := {k : Nat // k ≤ st.pp.length ∧ ∀ i,i < k → EU s.fl (st.pp.getD i 0) [4,5] = true}) (fun k => [(2,.ptr 0 0),(3,.ptr 1 0),(74,.rowE (aI st.pp) 1),(75,.i st.pp.length),(76,.i k.1)]) (fun _ => [.cells (fS s),.cells (oW st)]) (fun k => st.pp.length - k.1) ⟨0,by omega,gL⟩ ⟨[0,1],rfl,⟨rfl,rfl,rfl,congrArg (fun n : Nat => some (AV.i n)) hpl,rfl,trivial⟩,⟨.inr rfl,.inr rfl,trivial⟩,by decide,zD _⟩ ?_
      rintro ⟨k,hk1,hpp⟩;dsimp only;by_cases hlt : k < st.pp.length
      · have q1 := eY (l := st.pp) (j := (k : Int)) 0 hlt rfl;have cO := zF3 s.fl (st.pp.getD k 0) [4,5] (by simp)
        have hnx : EU s.fl (st.pp.getD k 0) [4,5] = true → ∀ i,i < k + 1 → EU s.fl (st.pp.getD i 0) [4,5] = true := fun h i hi => by
          by_cases e : i = k
          · subst e;exact h
          · exact hpp i (by omega)
        generalize hgo : EU s.fl (st.pp.getD k 0) [4,5] = o at *;generalize st.pp.getD k 0 = c at *;cases o with
        | false =>
          (repeat' (first|refine wS ?_|refine wB ?_|refine wK ?_|refine wR ?_|refine wT ?_|(refine rg 10 (vV (aL rfl rfl (by omega)) ?_))|(refine rg 11 (vV (ix T rfl (by omega) (aE _) q1) (lW T rfl (aV ?_))))|(refine rg 12 (eK T rfl (mW rfl (bH (by exact aS T rfl rfl (by decide) (by decide) rfl rfl rfl) rfl ?_)));refine vV (by exact gB rfl rfl cO (.cons (.agg (.cons (.v _) (.cons (.v _) (.cons (.v _) (.cons (.row _ _ _) (.cons (.row _ _ _) .nil)))))) (.cons (.v _) (.cons (lA rfl rfl) .nil))) rfl rfl) ?_;refine vV (bB rfl) ?_)|(refine rg 13 (aV ?_))|refine nZ ?_));all_goals first | (exfalso;omega) | exact ⟨.b false,[],⟨rfl,false,rfl,fun h => Bool.noConfusion h⟩,rQ⟩
        | true =>
          (repeat' (first|refine wS ?_|refine wB ?_|refine wK ?_|refine wT ?_|refine wU ?_|(refine rg 10 (vV (aL rfl rfl (by omega)) ?_))|(refine rg 11 (vV (ix T rfl (by omega) (aE _) q1) (lW T rfl (aV ?_))))|(refine rg 12 (eK T rfl (mW rfl (bH (by exact aS T rfl rfl (by decide) (by decide) rfl rfl rfl) rfl ?_)));refine vV (by exact gB rfl rfl cO (.cons (.agg (.cons (.v _) (.cons (.v _) (.cons (.v _) (.cons (.row _ _ _) (.cons (.row _ _ _) .nil)))))) (.cons (.v _) (.cons (lA rfl rfl) .nil))) rfl rfl) ?_;refine vV (bB rfl) ?_)|(refine rg 14 (vV (bP rfl rfl (by omega) (by omega)) (mV ?_)))|refine nZ ?_));all_goals first | (exfalso;omega) | exact ⟨⟨k + 1,hlt,hnx rfl⟩,by dsimp only;omega,eI [0,1]⟩
      · obtain rfl : k = st.pp.length := by omega
        have hsm : ZU st := WW (s := s) hk h1 h2 (by omega) (hcr rfl) hsh hpp
        have cA := zO0 st hsm;have cL := ZI (AZ st) (by have := VO hsm;omega)
        generalize hgy : (DT (AZ st)).2 = y at *;generalize (DT (AZ st)).1 = x at *
        (repeat' (first|refine wS ?_|refine wR ?_|refine wE ?_|refine wU ?_|(refine rg 10 (vV (bG rfl rfl (by omega)) ?_))|(refine rg 15 (lW T rfl (bH (by exact lX rfl rfl cA (.inr ⟨rfl,rfl,by simp⟩)) rfl ?_));refine pF (es := aI (AZ st)) 89 rfl (congrArg (fun x=>some (AB.arr x 1)) (nE _ _)) (aR _).symm (rZ _) ?_;refine vV (kC (cL)) (mW rfl (xW rfl (xW rfl (iZ ?_)))))|(refine rg 16 (mW rfl (vV (bB rfl) (aV ?_))))|refine nZ ?_));all_goals try (exfalso;omega)
        cases y with
        | true => exact ⟨.b false,[],⟨rfl,false,rfl,fun h => Bool.noConfusion h⟩,rQ⟩
        | false =>
          have e0 : b0 = true := by assumption
          have e2 : b2 = true := by assumption
          rw [e2,aT] at hgd;exact ⟨_,_,⟨rfl,_,rfl,fun _ => ⟨hgt.trans e0,by omega,by omega,by omega,hcr rfl,hgd.1,hgd.2,hsh,hpp,hgy⟩⟩,rQ⟩
theorem YV (s : lN) (n m : Nat) (hn : n ≤ 1000) (hm : m ≤ 1000) :
    fT Tryz.prog 23 [.agg (fS s),.i n,.i m] [] (zF4 (FZ s n m)) := by
  have cF := zM9 s.fl n;have hzl : (nC s.zn).length = s.zn.length := by simp
  have hal : (pR s.ap).length = s.ap.length := by simp
  have hsl : (pH s.sh).length = s.sh.length := by simp
  have hrl : (kD s.rb).length = s.rb.length := by simp
  refine mM T Tryz.func23 rfl rfl rfl rfl ?_
  (repeat' (first|refine wS ?_|refine wB ?_|(refine rg 0 (bH (bN rfl rfl) rfl (aV ?_)))|(refine rg 1 (aV ?_))|refine nZ ?_));refine bV (X := {k : Nat // k ≤ m + 1 ∧ k ≤ s.zn.length ∧ ∀ (j : Nat) (hj : j < k) (hl : j < s.zn.length),(s.zn[j]).2.1.length ≤ n ∧ (s.zn[j]).2.2.2.2.length ≤ 20 ∧ (s.zn[j]).1.length ≤ 40}) (fun k => [(1,.i n),(2,.i m),(3,.ptr 0 0),(7,.i k.1)]) (fun _ => [.cells (fS s)]) (fun k => m + 1 - k.1) ⟨0,by omega,by omega,fun j hj => absurd hj (dJ _)⟩ (eI [0]) ?_
  rintro ⟨k,hk1,hk2,hz⟩;dsimp only;by_cases hlt : k < s.zn.length ∧ k ≤ m
  · obtain ⟨hlt,hlm⟩ := hlt;have q1 := V8 hlt;have hnx : ((s.zn[k]).2.1.length ≤ n ∧ (s.zn[k]).2.2.2.2.length ≤ 20 ∧ (s.zn[k]).1.length ≤ 40) → ∀ (j : Nat) (hj : j < k + 1) (hl : j < s.zn.length),(s.zn[j]).2.1.length ≤ n ∧ (s.zn[j]).2.2.2.2.length ≤ 20 ∧ (s.zn[j]).1.length ≤ 40 := fun h j hj hl => by
      by_cases e : j = k
      · subst e;exact h
      · exact hz j (by omega) hl
    generalize s.zn[k] = z at *;have hcl : (aI z.2.1).length = z.2.1.length := aR _;have hul : (kD z.2.2.2.2).length = z.2.2.2.2.length := by simp
    (repeat' (first|refine wS ?_|refine wB ?_|refine wK ?_|refine wR ?_|refine wT ?_|(refine wC rfl ?_ ?_<;>(intro hb;(try simp only [nm] at hb);try (exfalso;omega)))|(refine rg 2 (mW rfl (eK T rfl (vV (eF T rfl rfl) (vV (bX rfl rfl) (mV ?_)))));refine aO rfl rfl ?_ ?_<;>(intro hb;rw [hb];(try simp only [nm] at hb);try (exfalso;omega));(all_goals (refine yN rfl (yN rfl (yV (lF rfl rfl) (pV ?_))))))|(refine rg 4 (eK T rfl (mW rfl (vV (ix T rfl (by omega) (zN _) q1) (eK T rfl (vV (eF T rfl rfl) (mW rfl (vV (eS rfl rfl) (mV ?_))))))));refine aO rfl rfl ?_ ?_<;>(intro hb;rw [hb];(try simp only [nm] at hb);try (exfalso;omega));(all_goals first|(refine gT (fW T rfl (gT (lW T rfl (gT (mW rfl (gT (vV (ix T rfl (by omega) (zN _) q1) (gT (fV T ?_)))))))));refine gT (lW T rfl (gT (vV (eF T rfl rfl) (gT (vV (eS rfl rfl) ?_))))))|(iterate 8 refine gF ?_));(all_goals (refine pW rfl (mV ?_)));(all_goals first|(refine gK ?_)|(refine aO rfl rfl ?_ ?_<;>(intro hb;rw [hb];(try simp only [nm] at hb);try (exfalso;omega))));(all_goals first|(refine gT (fW T rfl (gT (lW T rfl (gT (mW rfl (gT (vV (ix T rfl (by omega) (zN _) q1) (gT (fV T ?_)))))))));refine gT (lW T rfl (gT (vV (vY W4 rfl) (gT (vV (eS rfl rfl) ?_))))))|(iterate 8 refine gF ?_));(all_goals (refine pV ?_)))|(refine rg 5 (aV ?_))|(refine iA 3 rfl rfl rfl (by omega) (by omega) ?_)|refine nZ ?_));all_goals first | (exfalso;omega) | exact ⟨.b false,[],⟨rfl,false,rfl,fun h => Bool.noConfusion h⟩,rQ⟩ | exact ⟨⟨k + 1,by omega,by omega,hnx ⟨by omega,by omega,by omega⟩⟩,by dsimp only;omega,eI [0]⟩
  · (repeat' (first|refine wS ?_|refine wB ?_|refine wE ?_|refine iB rfl ?_|(refine wC rfl (fun hb => ?_) (fun hb => ?_) <;> (((try simp only [nm] at hb);try (exfalso;omega))))|(refine rg 2 (mW rfl (eK T rfl (qW T rfl (vV (bX rfl rfl) (mV ?_)))));refine aO rfl rfl (fun hb => ?_) (fun hb => ?_) <;> ((rw [hb];(try simp only [nm] at hb);try ((exfalso;omega);done)));(all_goals first|(refine gT (mW rfl (gT (mW rfl (gT (vV (lF rfl rfl) ?_))))))|(iterate 3 refine gF ?_));(all_goals (refine pV ?_)))|(refine rg 6 (aV ?_))|(refine nZ ?_)));all_goals first | (exfalso;omega) | skip
    all_goals
      have hx1 := hlt;clear hk1 hlt;refine bV (X := {k : Nat // k ≤ m + 1 ∧ k ≤ s.ap.length ∧ ∀ (j : Nat) (hj : j < k) (hl : j < s.ap.length),(s.ap[j]).1.length ≤ 40 ∧ (s.ap[j]).2.length ≤ 40}) (fun k => [(1,.i n),(2,.i m),(3,.ptr 0 0),(8,.i k.1)]) (fun _ => [.cells (fS s)]) (fun k => m + 1 - k.1) ⟨0,by omega,by omega,fun j hj => absurd hj (dJ _)⟩ (eI [0]) ?_
      rintro ⟨k2,hk3,hk4,ha⟩;dsimp only;by_cases hlt : k2 < s.ap.length ∧ k2 ≤ m
      · obtain ⟨hlt,hlm⟩ := hlt;have q1 := FT hlt;have hnx : ((s.ap[k2]).1.length ≤ 40 ∧ (s.ap[k2]).2.length ≤ 40) → ∀ (j : Nat) (hj : j < k2 + 1) (hl : j < s.ap.length),(s.ap[j]).1.length ≤ 40 ∧ (s.ap[j]).2.length ≤ 40 := fun h j hj hl => by
          by_cases e : j = k2
          · subst e;exact h
          · exact ha j (by omega) hl
        generalize s.ap[k2] = z at *
        (repeat' (first|refine wS ?_|refine wB ?_|refine wK ?_|refine wR ?_|refine wT ?_|(refine wC rfl ?_ ?_<;>(intro hb;(try simp only [nm] at hb);try (exfalso;omega)))|(refine rg 7 (mW rfl (eK T rfl (vV (eF T rfl rfl) (vV (bX rfl rfl) (mV ?_)))));refine aO rfl rfl ?_ ?_<;>(intro hb;rw [hb];(try simp only [nm] at hb);try (exfalso;omega));(all_goals (refine yN rfl (yN rfl (yV (lF rfl rfl) (pV ?_))))))|(refine rg 9 (eK T rfl (mW rfl (vV (ix T rfl (by omega) (V5 _) q1) (eK T rfl (vV (vY W4 rfl) (vV (eS rfl rfl) (mV ?_)))))));refine aO rfl rfl ?_ ?_<;>(intro hb;rw [hb];(try simp only [nm] at hb);try (exfalso;omega));(all_goals first|(refine gT (fW T rfl (gT (lW T rfl (gT (mW rfl (gT (vV (ix T rfl (by omega) (V5 _) q1) (gT (fV T ?_)))))))));refine gT (lW T rfl (gT (vV (vY W4 rfl) (gT (vV (eS rfl rfl) ?_))))))|(iterate 8 refine gF ?_));(all_goals (refine pV ?_)))|(refine rg 10 (aV ?_))|(refine iA 8 rfl rfl rfl (by omega) (by omega) ?_)|refine nZ ?_));all_goals first | (exfalso;omega) | exact ⟨.b false,[],⟨rfl,false,rfl,fun h => Bool.noConfusion h⟩,rQ⟩ | exact ⟨⟨k2 + 1,by omega,by omega,hnx ⟨by omega,by omega⟩⟩,by dsimp only;omega,eI [0]⟩
      · (repeat' (first|refine wS ?_|refine wB ?_|refine wE ?_|refine iB rfl ?_|(refine wC rfl (fun hb => ?_) (fun hb => ?_) <;> (((try simp only [nm] at hb);try (exfalso;omega))))|(refine rg 7 (mW rfl (eK T rfl (qW T rfl (vV (bX rfl rfl) (mV ?_)))));refine aO rfl rfl (fun hb => ?_) (fun hb => ?_) <;> ((rw [hb];(try simp only [nm] at hb);try ((exfalso;omega);done)));(all_goals first|(refine gT (mW rfl (gT (mW rfl (gT (vV (lF rfl rfl) ?_))))))|(iterate 3 refine gF ?_));(all_goals (refine pV ?_)))|(refine rg 11 (aV ?_))|(refine nZ ?_)));all_goals first | (exfalso;omega) | skip
        all_goals
          have hx2 := hlt;clear hk3 hlt;refine bV (X := {k : Nat // k ≤ m + 1 ∧ k ≤ s.sh.length ∧ ∀ (j : Nat) (hj : j < k) (hl : j < s.sh.length),(s.sh[j]).2.length ≤ 40}) (fun k => [(1,.i n),(2,.i m),(3,.ptr 0 0),(9,.i k.1)]) (fun _ => [.cells (fS s)]) (fun k => m + 1 - k.1) ⟨0,by omega,by omega,fun j hj => absurd hj (dJ _)⟩ (eI [0]) ?_
          rintro ⟨k3,hk5,hk6,hs⟩;dsimp only;by_cases hlt : k3 < s.sh.length ∧ k3 ≤ m
          · obtain ⟨hlt,hlm⟩ := hlt;have q1 := EM hlt;have hnx : (s.sh[k3]).2.length ≤ 40 → ∀ (j : Nat) (hj : j < k3 + 1) (hl : j < s.sh.length),(s.sh[j]).2.length ≤ 40 := fun h j hj hl => by
              by_cases e : j = k3
              · subst e;exact h
              · exact hs j (by omega) hl
            generalize s.sh[k3] = z at *
            (repeat' (first|refine wS ?_|refine wB ?_|refine wK ?_|refine wR ?_|(refine wC rfl ?_ ?_<;>(intro hb;(try simp only [nm] at hb);try (exfalso;omega)))|(refine rg 12 (mW rfl (eK T rfl (vV (eF T rfl rfl) (vV (bX rfl rfl) (mV ?_)))));refine aO rfl rfl ?_ ?_<;>(intro hb;rw [hb];(try simp only [nm] at hb);try (exfalso;omega));(all_goals (refine yN rfl (yN rfl (yV (lF rfl rfl) (pV ?_))))))|(refine rg 14 (eK T rfl (mW rfl (vV (ix T rfl (by omega) (U3 _) q1) (eK T rfl (vV (vY W4 rfl) (vV (eS rfl rfl) ?_)))))))|(refine rg 15 (aV ?_))|(refine iA 13 rfl rfl rfl (by omega) (by omega) ?_)|refine nZ ?_));all_goals first | (exfalso;omega) | exact ⟨.b false,[],⟨rfl,false,rfl,fun h => Bool.noConfusion h⟩,rQ⟩ | exact ⟨⟨k3 + 1,by omega,by omega,hnx (by omega)⟩,by dsimp only;omega,eI [0]⟩
          · skip;by_cases hF : FZ s n m
            · have e : (decide ((s.fl.k.length : Int) ≤ n) && decide ((s.fl.o.length : Int) ≤ n)) = true := by have := hF.kl;have := hF.ol;simp;omega
              rw [e] at cF;have f1 := hF.zl;have f2 := hF.al;have f3 := hF.sl;have f4 := hF.rl
              (repeat' (first|refine wS ?_|refine wR ?_|refine wE ?_|refine wU ?_|(refine rg 12 (mW rfl (eK T rfl (qW T rfl (vV (bX rfl rfl) (mV ?_)))));refine aO rfl rfl ?_ ?_<;>(intro hb;rw [hb];(try simp only [nm] at hb);try (exfalso;omega));(all_goals ((iterate 3 refine gF ?_);refine pV ?_)))|(refine rg 16 (eK T rfl (mW rfl (vV (kC (cF)) (mW rfl (yP T rfl (yO T rfl (gT (qW T rfl (yM ?_)))))))));refine yV (C1 rfl rfl (by omega)) (pW rfl (mW rfl (yP T rfl (yO T rfl (gT (qW T rfl (yN rfl (yV (C1 rfl rfl (by omega)) (pV ?_)))))))));refine mW rfl (yP T rfl (yO T rfl (gT (qW T rfl (yN rfl (yV (C1 rfl rfl (by omega)) (pW rfl (mW rfl (yF T ?_)))))))));refine yO T rfl (gT (qW T rfl (yN rfl (yV (C1 rfl rfl (by omega)) (pW rfl (aV ?_)))))))|refine nZ ?_));all_goals first | (exfalso;omega) | exact ⟨.b true,[],⟨rfl,true,rfl,fun _ => hF⟩,rQ⟩
            · generalize hgf : (decide ((s.fl.k.length : Int) ≤ n) && decide ((s.fl.o.length : Int) ≤ n)) = y at *
              have hno : y = true → (s.zn.length : Int) ≤ m → (s.ap.length : Int) ≤ m → (s.sh.length : Int) ≤ m → (s.rb.length : Int) ≤ m → False := fun e a1 a2 a3 a4 => hF (by
                subst e;simp only [aT,decide_eq_true_eq] at hgf;refine ⟨by omega,by omega,by omega,by omega,by omega,by omega,fun z hzm => ?_,fun z hzm => ?_,fun z hzm => ?_⟩
                · obtain ⟨j,hj,rfl⟩ := eE.1 hzm;exact hz j (by omega) hj
                · obtain ⟨j,hj,rfl⟩ := eE.1 hzm;exact ha j (by omega) hj
                · obtain ⟨j,hj,rfl⟩ := eE.1 hzm
                  exact hs j (by omega) hj)
              cases y with
              | false =>
                (repeat' (first|refine wS ?_|refine wR ?_|refine wE ?_|refine wU ?_|(refine wC rfl ?_ ?_<;>(intro hb;(try simp only [nm] at hb);try (exfalso;omega)))|(refine rg 12 (mW rfl (eK T rfl (qW T rfl (vV (bX rfl rfl) (mV ?_)))));refine aO rfl rfl ?_ ?_<;>(intro hb;rw [hb];(try simp only [nm] at hb);try (exfalso;omega));(all_goals first|(refine gT (mW rfl (gT (mW rfl (gT (vV (lF rfl rfl) ?_))))))|(iterate 3 refine gF ?_));(all_goals (refine pV ?_)))|(refine rg 16 (eK T rfl (mW rfl (vV (kC (cF)) (mV ?_))));(iterate 5 refine gF ?_);refine pW rfl (mV ?_);(iterate 5 refine gF ?_);refine pW rfl (mV ?_);(iterate 5 refine gF ?_);refine pW rfl (mV ?_);(iterate 5 refine gF ?_);refine pW rfl (aV ?_))|refine nZ ?_));all_goals first | (exfalso;omega) | exact ⟨.b false,[],⟨rfl,false,rfl,fun h => Bool.noConfusion h⟩,rQ⟩
              | true =>
                have hno := hno rfl
                (repeat' (first|refine wS ?_|refine wR ?_|refine wE ?_|refine wU ?_|(refine wC rfl ?_ ?_<;>(intro hb;(try simp only [nm] at hb);try (exfalso;omega)))|(refine rg 12 (mW rfl (eK T rfl (qW T rfl (vV (bX rfl rfl) (mV ?_)))));refine aO rfl rfl ?_ ?_<;>(intro hb;rw [hb];(try simp only [nm] at hb);try (exfalso;omega));(all_goals first|(refine gT (mW rfl (gT (mW rfl (gT (vV (lF rfl rfl) ?_))))))|(iterate 3 refine gF ?_));(all_goals (refine pV ?_)))|(refine rg 16 (eK T rfl (mW rfl (vV (kC (cF)) (mW rfl (yP T rfl (yO T rfl (gT (qW T rfl (yM ?_)))))))));refine yV (lF rfl rfl) (pW rfl (mV ?_));refine aO rfl rfl ?_ ?_<;>(intro hb;rw [hb];(try simp only [nm] at hb);try (exfalso;omega));(all_goals first|(refine gT (fW T rfl (gT (lW T rfl (gT (qW T rfl (gT (mW rfl (gT (vV (lF rfl rfl) ?_))))))))))|(iterate 5 refine gF ?_));(all_goals (refine pW rfl (mV ?_)));(all_goals first|(refine gK ?_)|(refine aO rfl rfl ?_ ?_<;>(intro hb;rw [hb];(try simp only [nm] at hb);try (exfalso;omega))));(all_goals first|(refine gT (fW T rfl (gT (lW T rfl (gT (qW T rfl (gT (mW rfl (gT (vV (lF rfl rfl) ?_))))))))))|(iterate 5 refine gF ?_));(all_goals (refine pW rfl (mV ?_)));(all_goals first|(refine gK ?_)|(refine aO rfl rfl ?_ ?_<;>(intro hb;rw [hb];(try simp only [nm] at hb);try (exfalso;omega))));(all_goals first|(refine gT (fW T rfl (gT (lW T rfl (gT (qW T rfl (gT (mW rfl (gT (vV (lF rfl rfl) ?_))))))))))|(iterate 5 refine gF ?_));(all_goals (refine pW rfl (aV ?_))))|refine nZ ?_));all_goals first | (exfalso;omega) | exact ⟨.b false,[],⟨rfl,false,rfl,fun h => Bool.noConfusion h⟩,gV (.inl rfl) rfl rfl⟩ | (exfalso;exact hno (by omega) (by omega) (by omega) (by omega)) | exact ⟨_,_,⟨rfl,_,rfl,fun h => (hno (by omega) (by omega) (by omega) (by have := of_decide_eq_true h;omega)).elim⟩,gV (.inl rfl) rfl rfl⟩
end Go.Proofs.YtdmajnjoeidgeaaGreat
namespace Go.Proofs.YtdmajnjoeidgeaaGreat
open Go Go.Ab Go.Fl Go.Re Go.Ln Go.MapKept
attribute [local irreducible] VC AW bR bQ fT nK
set_option maxHeartbeats 4000000
theorem E6 (a b : List Int) (ha : a.length ≤ 9223372036854775807) : bQ Tryz.prog 19 [.rowE (aI a) 1,.rowE (aI b) 1] [] (.b (decide (a = b))) [] := by
  have hal : (aI a).length = a.length := by simp
  have hbl : (aI b).length = b.length := by simp
  by_cases hl : a.length = b.length
  · refine dD T Tryz.func19 rfl rfl rfl rfl ?_
    (repeat' (first|refine wS ?_|refine wB ?_|refine wK ?_|(refine wC rfl ?_ ?_<;>(intro hb;(try simp only [nm] at hb);try (exfalso;omega)))|(refine rg 0 (aV ?_))|(refine rg 1 (mW rfl (qW T rfl (mW rfl (qW T rfl (vV (gW rfl rfl) ?_))))))|(refine rg 3 (aV ?_))|refine nZ ?_));all_goals try (exfalso;omega)
    refine bV (X := {i : Nat // i ≤ a.length ∧ a.take i = b.take i}) (fun i => [(0,.rowE (aI a) 1),(1,.rowE (aI b) 1),(5,.i i.1)]) (fun _ => []) (fun i => a.length - i.1) ⟨0,by omega,rfl⟩ (eI []) ?_
    rintro ⟨i,hi,hg⟩;dsimp only;by_cases hlt : i < a.length
    · have q1 := iF (l := a) (k := i) hlt;have q2 := iF (l := b) (k := i) (by omega)
      by_cases e : a[i] = b[i]
      · (repeat' (first|refine wS ?_|refine wB ?_|refine wK ?_|(refine wC rfl (fun hb => ?_) (fun hb => ?_) <;> (((try simp only [nm] at hb);try (exfalso;omega))))|(refine rg 4 (eX rfl (qW T rfl (vV (bX rfl rfl) ?_))))|(refine aN (id := 6) 26 zV9 (rM 17 9) zX9 bM rfl (by decide +kernel) (dN rfl (dN rfl (dV rfl (ix T rfl (by omega) (aE a) q1) (dO T rfl (dN rfl (dN rfl (dV rfl (ix T rfl (by omega) (aE b) q2) (dO T rfl (dV rfl (gW rfl rfl) ?_)))))))));refine dE ?_)|(refine iA 5 rfl rfl rfl (by omega) (by omega) ?_)|(refine nZ ?_)));all_goals try (exfalso;omega)
        refine ⟨⟨i + 1,hlt,?_⟩,by dsimp only;omega,eI []⟩
        rw [aJ hlt,aJ (by omega),hg,e]
      · rw [show decide (a = b) = false from decide_eq_false (fun h => e (by subst h;rfl))]
        (repeat' (first|refine wS ?_|refine wB ?_|refine wK ?_|refine wR ?_|(refine wC rfl ?_ ?_<;>(intro hb;(try simp only [nm] at hb);try (exfalso;omega)))|(refine rg 4 (eX rfl (qW T rfl (vV (bX rfl rfl) ?_))))|(refine aN (id := 6) 26 zV9 (rM 17 9) zX9 bM rfl (by decide +kernel) (dN rfl (dN rfl (dV rfl (ix T rfl (by omega) (aE a) q1) (dO T rfl (dN rfl (dN rfl (dV rfl (ix T rfl (by omega) (aE b) q2) (dO T rfl (dV rfl (gW rfl rfl) ?_)))))))));refine dE ?_)|(refine rg 7 (aV ?_))|refine nZ ?_));all_goals first | (exfalso;omega) | exact rQ
    · rw [bC (by omega),bC (by omega)] at hg
      rw [show decide (a = b) = true from decide_eq_true hg]
      (repeat' (first|refine wS ?_|refine wR ?_|refine wE ?_|(refine wC rfl ?_ ?_<;>(intro hb;(try simp only [nm] at hb);try (exfalso;omega)))|(refine rg 4 (eX rfl (qW T rfl (vV (bX rfl rfl) ?_))))|(refine rg 8 (aV ?_))|refine nZ ?_));all_goals first | (exfalso;omega) | exact rQ
  · rw [show decide (a = b) = false from decide_eq_false (fun h => hl (by rw [h]))]
    refine dD T Tryz.func19 rfl rfl rfl rfl ?_
    (repeat' (first|refine wS ?_|refine wR ?_|(refine wC rfl ?_ ?_<;>(intro hb;(try simp only [nm] at hb);try (exfalso;omega)))|(refine rg 0 (aV ?_))|(refine rg 1 (mW rfl (qW T rfl (mW rfl (qW T rfl (vV (gW rfl rfl) ?_))))))|(refine rg 2 (aV ?_))|refine nZ ?_));all_goals first | (exfalso;omega) | exact rQ
theorem OV : bQ Tryz.prog 22 [] [] (.agg [.i 5,.i 2,.i 1,.rowE (aI qH.k) 1,.sl 0 0 10 1,.nils,.nils,.nils,.nils]) [.arr (aI (List.replicate 10 15)) 1] := by
  refine dD T Tryz.func22 rfl rfl rfl rfl ?_
  (repeat' (first|refine wS ?_|refine wB ?_|(refine rg 0 (bH (cX T rfl) rfl ?_))|(refine rg 1 (bH (by exact aS T rfl rfl (by decide) (by decide) rfl rfl rfl) rfl ?_);refine pF 3 rfl rfl rfl rfl ?_;refine vV (by exact gG T rfl rfl rfl rfl) ?_;refine bH (cX T rfl) rfl (bJ T rfl rfl rfl rfl rfl rfl (by decide) rfl ?_))|(refine rg 2 (aV ?_))|refine nZ ?_));refine tZ 2 4 1 rfl rfl (by decide) ?_
  refine bV (X := {j : Nat // j ≤ 10}) (fun j => [(0,.ptr 0 0),(1,.ptr 1 0),(2,.i j.1)]) (fun j => [.cells [.i 0,.i 0,.i 0,.nils,.nils,.nils,.nils,.nils,.nils],.cells [.i 5,.i 2,.i 1,.rowE (aI qH.k) 1,.sl 2 0 j.1 1],.arr (aI (List.replicate j.1 15)) 1]) (fun j => 10 - j.1) ⟨0,by omega⟩ ⟨[0,2,3],rfl,(by repeat first|exact trivial|refine ⟨rfl,?_⟩),⟨.inr rfl,.inr rfl,.inr rfl,trivial⟩,by decide,gL⟩ ?_
  rintro ⟨j,hj⟩;dsimp only;have hrl : (List.replicate j (15 : Int)).length = j := zI;by_cases hlt : j < 10
  · have hrs : List.replicate (j + 1) (15 : Int) = List.replicate j 15 ++ [15] := List.replicate_succ';generalize List.replicate j (15 : Int) = R at *
    (repeat' (first|refine wS ?_|refine wB ?_|refine wK ?_|refine wT ?_|(refine rg 3 (mW rfl (vV (aL rfl rfl (by omega)) ?_)))|(refine rg 5 (eK T rfl (bH (by exact aS T rfl rfl (by decide) (by decide) rfl rfl rfl) rfl ?_));refine eL T rfl rfl rfl rfl rfl rfl (by simp;omega) (iU.whole rfl rfl) rfl (by simp;omega) (by simp;omega) rfl ?_;refine fW T rfl (bJ T rfl rfl rfl rfl rfl rfl (by decide) rfl ?_))|(refine iA 4 rfl rfl rfl (by omega) (by omega) ?_)|refine nZ ?_));all_goals exact ⟨⟨j + 1,hlt⟩,by dsimp only;omega,[0,1,4],rfl,(by repeat first|exact trivial|refine ⟨rfl,?_⟩),⟨.inr rfl,.inr (by simp only [hrl];rfl),.inr (aC rfl (by dsimp only;rw [hrs,← hrl];exact oL) (aM _)),trivial⟩,by decide,gL⟩
  · obtain rfl : j = 10 := by omega
    (repeat' (first|refine wS ?_|refine wR ?_|refine wE ?_|refine wU ?_|(refine rg 3 (mW rfl (vV (bG rfl rfl (by omega)) ?_)))|(refine rg 6 (lW T rfl (vV (by exact gG T rfl rfl rfl rfl) ?_));refine bJ T rfl rfl rfl rfl rfl rfl (by decide) rfl ?_)|refine nZ ?_));all_goals exact ⟨.inl rfl,[2],_,rfl,rfl,rfl,⟨.inr (aC rfl rfl (aM _)),trivial⟩,by decide,gL⟩
theorem RX : bQ Tryz.prog 22 [] [] (.agg (fS N3)) [] :=
  LB OV (.agg (.cons (.v _) (.cons (.v _) (.cons (.v _) (.cons (.row _ _ _) (.cons (lA rfl rfl) (.cons (.nils 5) (.cons (.nils 2) (.cons (.nils 2) (.cons (.nils 2) .nil))))))))))
theorem zA2 : oU (iN N3 (bO qH) 1) [1,0] ∧ oU (iN N3 (bO qH) 1) [1,2,3,4] := by
  rw [H4];refine ⟨⟨by decide,[0],rfl,(by decide : sW qH 1 = false),(by decide : (0 : Int) ∈ lS qH [0,1,2,3,4] 1),(by decide : sW qH 0 = true)⟩,⟨by decide,[2,3,4],rfl,(by decide : sW qH 1 = false),(by decide : (2 : Int) ∈ lS qH [0,1,2,3,4] 1),(by decide : sW qH 2 = false),(by decide : (3 : Int) ∈ lS qH [0,1,2,3,4] 2),(by decide : sW qH 3 = false),(by decide : (4 : Int) ∈ lS qH [0,1,2,3,4] 3),(by decide : sW qH 4 = true)⟩⟩
theorem zA1 : oU (iN N3 (bO qH) 2) [2,1,0] ∧ oU (iN N3 (bO qH) 2) [2,3,4] := by
  rw [H4];refine ⟨⟨by decide,[1,0],rfl,(by decide : sW qH 2 = false),(by decide : (1 : Int) ∈ lS qH [0,1,2,3,4] 2),(by decide : sW qH 1 = false),(by decide : (0 : Int) ∈ lS qH [0,1,2,3,4] 1),(by decide : sW qH 0 = true)⟩,⟨by decide,[3,4],rfl,(by decide : sW qH 2 = false),(by decide : (3 : Int) ∈ lS qH [0,1,2,3,4] 2),(by decide : sW qH 3 = false),(by decide : (4 : Int) ∈ lS qH [0,1,2,3,4] 3),(by decide : sW qH 4 = true)⟩⟩
theorem zA0 : oU (iN N3 (bO qH) 3) [3,2,1,0] ∧ oU (iN N3 (bO qH) 3) [3,4] := by
  rw [H4];refine ⟨⟨by decide,[2,1,0],rfl,(by decide : sW qH 3 = false),(by decide : (2 : Int) ∈ lS qH [0,1,2,3,4] 3),(by decide : sW qH 2 = false),(by decide : (1 : Int) ∈ lS qH [0,1,2,3,4] 2),(by decide : sW qH 1 = false),(by decide : (0 : Int) ∈ lS qH [0,1,2,3,4] 1),(by decide : sW qH 0 = true)⟩,⟨by decide,[4],rfl,(by decide : sW qH 3 = false),(by decide : (4 : Int) ∈ lS qH [0,1,2,3,4] 3),(by decide : sW qH 4 = true)⟩⟩
theorem O0 {s : lN} {c : Int} {l l' : List Int} (h1 : oU (iN s (bO s.fl) c) l) (h2 : oU (iN s (bO s.fl) c) l') (h : ∀ x,x ∈ l → x ∈ l' → x = c) : ¬ yS s c := by
  rintro (h3 | ⟨x,hx,h3⟩)
  · exact h3 _ h1
  · exact hx (h x (h3 _ h1) (h3 _ h2))
theorem WX : ∀ c,c ∈ kL qH 4 → ¬ yS N3 c := by
  intro c hc;rw [MB] at hc;simp only [bL,kX,or_false] at hc;rcases hc with rfl | rfl | rfl
  · exact O0 zA2.1 zA2.2 (by decide)
  · exact O0 zA1.1 zA1.2 (by decide)
  · exact O0 zA0.1 zA0.2 (by decide)
theorem RQ {L : List fR} (h1 : L.map (·.1) = kL qH 4) (h2 : ∀ x,x ∈ L → vB N3 x) : ∃ (a1 b1 a3 b3 A B : List Int),L = [(1,a1,b1),(2,A,B),(3,a3,b3)] ∧ ((A = [2,1,0] ∧ B = [2,3,4]) ∨ (A = [2,3,4] ∧ B = [2,1,0])) := by
  rw [MB] at h1
  match L,h1,h2 with
  | [],h1,_ => simp at h1
  | [_],h1,_ => simp at h1
  | [_,_],h1,_ => simp at h1
  | _ :: _ :: _ :: _ :: _,h1,_ => simp at h1
  | [(c1,a1,b1),(c2,A,B),(c3,a3,b3)],h1,h2 =>
    simp only [List.map_cons,List.map_nil,List.cons.injEq,and_true] at h1;obtain ⟨rfl,rfl,rfl⟩ := h1;obtain ⟨p1,p2,p3⟩ := h2 (2,A,B) (by simp)
    dsimp only at p1 p2 p3;refine ⟨a1,b1,a3,b3,A,B,rfl,?_⟩;rcases MA p1 with rfl | rfl <;> rcases MA p2 with rfl | rfl
    · exact absurd (p3 1 (by simp) (by simp)) (by decide)
    · exact .inl ⟨rfl,rfl⟩
    · exact .inr ⟨rfl,rfl⟩
    · exact absurd (p3 3 (by simp) (by simp)) (by decide)
theorem zD8 {L : List fR} (h2 : ∀ x,x ∈ L → vB N3 x) : ∀ x,x ∈ L → x.2.1.length ≤ 1000000 ∧ x.2.2.length ≤ 1000000 := fun x hx => by
  obtain ⟨p1,p2,_⟩ := h2 x hx;have q1 := Z0 p1;have q2 := Z0 p2;have e : (bO N3.fl).length = 5 := by show (bO qH).length = 5;rw [H4];rfl
  omega
theorem GP : bQ Tryz.prog 5 [] [] (.b true) [] := by
  have cM := TJ N3 MC;have cO := zA8 N3 MC 2 (by unfold uN;omega)
  rw [show lT N3.fl 2 = [2,7] from zD7] at cO
  have cE := E6 [2,7] [2,7] (by decide)
  have c00 := E6 [2,1,0] [2,1,0] (by decide)
  have c01 := E6 [2,1,0] [2,3,4] (by decide)
  have c10 := E6 [2,3,4] [2,1,0] (by decide)
  have c11 := E6 [2,3,4] [2,3,4] (by decide)
  rw [decide_eq_true rfl] at c00 c11 cE;rw [decide_eq_false (by decide)] at c01 c10
  refine fT.toA (Φ := fun r o => r = .b true ∧ o = []) ?_ (fun _ _ h => h);refine mM T Tryz.func5 rfl rfl rfl rfl ?_
  repeat' (first|refine wS ?_|(refine rg 0 (aV ?_))|(refine rg 1 (vV (kC (RX)) (bH (cX T rfl) rfl (bJ T rfl rfl rfl rfl rfl rfl (by decide) rfl ?_))))|(refine rg 2 (lW T rfl (mG [] rfl rfl cM rfl rfl (by decide) trivial (by simp) rfl ?_));rintro _ _ ⟨rfl,(⟨L,h1,h2⟩|⟨L,c,post,h1,h2,h3⟩)⟩;(all_goals (refine mW rfl (xW rfl (xW rfl (xW rfl (bH (cX T rfl) rfl (bJ T rfl rfl rfl rfl rfl rfl (by decide) rfl (iZ ?_)))))))))|refine nZ ?_)
  · have hlen := zD8 h2;have hb : nG N3.fl = 1 := RS;rw [hb];obtain ⟨a1,b1,a3,b3,A,B,rfl,hAB⟩ := RQ h1 h2;have q1 : (fG [(1,a1,b1),(2,A,B),(3,a3,b3)])[(1 : Int).toNat]? = some (jH (2,A,B)) := rfl;have cR := CQ [(1,a1,b1),(2,A,B),(3,a3,b3)] 1 2 [0,-1,0,1,0,0,0,0,0,0] (by simp) hlen
    rcases hAB with ⟨rfl,rfl⟩ | ⟨rfl,rfl⟩
    · rw [show BT [(1,a1,b1),(2,[2,1,0],[2,3,4]),(3,a3,b3)] 1 2 [0,-1,0,1,0,0,0,0,0,0] = (1,1,0) from rfl] at cR
      (repeat' (first|refine wS ?_|refine wK ?_|refine wU ?_|(refine rg 3 (mW rfl (vV (gW rfl rfl) (mW rfl (yN rfl (yV (gW rfl rfl) (pW rfl (mW rfl (yP T rfl (yL T ?_)))))))));refine gT (qW T rfl (yV (gW rfl rfl) (pW rfl (mW rfl (yP T rfl (yO T rfl (yV (gW rfl rfl) (pV ?_)))))))))|(refine rg 5 (eK T rfl (vV (ix T rfl (by decide) (iH _) q1) (lW T rfl (bH (cX T rfl) rfl (bJ T rfl rfl rfl rfl rfl rfl (by decide) rfl ?_))))))|refine nZ ?_));refine kT [(1,.ptr 0 0),(2,.ptr 1 0),(5,.ptr 2 0)] [.cells (fS N3),.cells (jR [(1,a1,b1),(2,[2,1,0],[2,3,4]),(3,a3,b3)] 1),.cells (jH (2,[2,1,0],[2,3,4]))] ⟨[0,1,2],rfl,(by repeat first|exact trivial|refine ⟨rfl,?_⟩),⟨.inr rfl,.inr rfl,.inr rfl,trivial⟩,by decide,gL⟩ ?_
      (repeat' (first|refine wS ?_|(refine rg 6 (eK T rfl (bH (by exact aS T rfl rfl (by decide) (by decide) rfl rfl rfl) rfl ?_));refine pF 42 rfl rfl rfl rfl ?_;refine vV (kC (c00)) (mW rfl (yP T rfl (yO T rfl (gT (bH (by exact aS T rfl rfl (by decide) (by decide) rfl rfl rfl) rfl ?_)))));refine pF 47 rfl rfl rfl rfl ?_;refine yV (kC (c11)) (pW rfl (aV ?_)))|(refine rg 7 (eK T rfl (bH (by exact aS T rfl rfl (by decide) (by decide) rfl rfl rfl) rfl ?_));refine pF 52 rfl rfl rfl rfl ?_;refine vV (kC (c10)) (mV ?_);(iterate 4 refine gF ?_);refine pW rfl (aV ?_))|refine nZ ?_));refine kT [(1,.ptr 0 0),(2,.ptr 1 0),(6,.b true),(7,.b false)] [.cells (fS N3),.cells (jR [(1,a1,b1),(2,[2,1,0],[2,3,4]),(3,a3,b3)] 1)] ⟨[0,1],rfl,(by repeat first|exact trivial|refine ⟨rfl,?_⟩),⟨.inr rfl,.inr rfl,trivial⟩,by decide,gL⟩ ?_
      (repeat' (first|refine wS ?_|(refine rg 8 (bH (by exact aS T rfl rfl (by decide) (by decide) rfl rfl rfl) rfl ?_);refine pF 60 rfl rfl rfl rfl ?_;refine aV ?_)|(refine rg 9 (lW T rfl (mW rfl (vV (kC (cR)) (mW rfl (xW rfl (xW rfl (xW rfl (D2 rfl (aV ?_))))))))))|refine nZ ?_));refine kT [(1,.ptr 0 0),(6,.b true),(7,.b false),(9,.i 1),(10,.i 1),(11,.i 0)] [.cells (fS N3)] ⟨[0],rfl,(by repeat first|exact trivial|refine ⟨rfl,?_⟩),⟨.inr rfl,trivial⟩,by decide,gL⟩ ?_
      (repeat' (first|refine wR ?_|(refine rg 10 (eX rfl (yN rfl (yV (gD rfl rfl) (pW rfl (mV ?_)))));(iterate 2 refine gF ?_);(iterate 2 refine gU ?_);refine gF (pW rfl (mW rfl (yN rfl (yV (gD rfl rfl) (pW rfl (mW rfl (yN rfl (yV (gD rfl rfl) (pV ?_)))))))));refine mW rfl (yO T rfl (yV (kC (cO)) (gT (bH (by exact aS T rfl rfl (by decide) (by decide) rfl rfl rfl) rfl ?_))));refine pF 91 rfl rfl rfl rfl ?_;refine yV (kC (cE)) (pW rfl (aV ?_)))|refine nZ ?_));all_goals exact ⟨_,_,⟨rfl,rfl⟩,rQ⟩
    · rw [show BT [(1,a1,b1),(2,[2,3,4],[2,1,0]),(3,a3,b3)] 1 2 [0,-1,0,1,0,0,0,0,0,0] = (0,1,0) from rfl] at cR
      (repeat' (first|refine wS ?_|refine wK ?_|refine wU ?_|(refine rg 3 (mW rfl (vV (gW rfl rfl) (mW rfl (yN rfl (yV (gW rfl rfl) (pW rfl (mW rfl (yP T rfl (yL T ?_)))))))));refine gT (qW T rfl (yV (gW rfl rfl) (pW rfl (mW rfl (yP T rfl (yO T rfl (yV (gW rfl rfl) (pV ?_)))))))))|(refine rg 5 (eK T rfl (vV (ix T rfl (by decide) (iH _) q1) (lW T rfl (bH (cX T rfl) rfl (bJ T rfl rfl rfl rfl rfl rfl (by decide) rfl ?_))))))|refine nZ ?_));refine kT [(1,.ptr 0 0),(2,.ptr 1 0),(5,.ptr 2 0)] [.cells (fS N3),.cells (jR [(1,a1,b1),(2,[2,3,4],[2,1,0]),(3,a3,b3)] 1),.cells (jH (2,[2,3,4],[2,1,0]))] ⟨[0,1,2],rfl,(by repeat first|exact trivial|refine ⟨rfl,?_⟩),⟨.inr rfl,.inr rfl,.inr rfl,trivial⟩,by decide,gL⟩ ?_
      (repeat' (first|refine wS ?_|(refine rg 6 (eK T rfl (bH (by exact aS T rfl rfl (by decide) (by decide) rfl rfl rfl) rfl ?_));refine pF 42 rfl rfl rfl rfl ?_;refine vV (kC (c10)) (mV ?_);(iterate 4 refine gF ?_);refine pW rfl (aV ?_))|(refine rg 7 (eK T rfl (bH (by exact aS T rfl rfl (by decide) (by decide) rfl rfl rfl) rfl ?_));refine pF 52 rfl rfl rfl rfl ?_;refine vV (kC (c00)) (mW rfl (yP T rfl (yO T rfl (gT (bH (by exact aS T rfl rfl (by decide) (by decide) rfl rfl rfl) rfl ?_)))));refine pF 57 rfl rfl rfl rfl ?_;refine yV (kC (c11)) (pW rfl (aV ?_)))|refine nZ ?_));refine kT [(1,.ptr 0 0),(2,.ptr 1 0),(6,.b false),(7,.b true)] [.cells (fS N3),.cells (jR [(1,a1,b1),(2,[2,3,4],[2,1,0]),(3,a3,b3)] 1)] ⟨[0,1],rfl,(by repeat first|exact trivial|refine ⟨rfl,?_⟩),⟨.inr rfl,.inr rfl,trivial⟩,by decide,gL⟩ ?_
      (repeat' (first|refine wS ?_|(refine rg 8 (bH (by exact aS T rfl rfl (by decide) (by decide) rfl rfl rfl) rfl ?_);refine pF 60 rfl rfl rfl rfl ?_;refine aV ?_)|(refine rg 9 (lW T rfl (mW rfl (vV (kC (cR)) (mW rfl (xW rfl (xW rfl (xW rfl (D2 rfl (aV ?_))))))))))|refine nZ ?_));refine kT [(1,.ptr 0 0),(6,.b false),(7,.b true),(9,.i 0),(10,.i 1),(11,.i 0)] [.cells (fS N3)] ⟨[0],rfl,(by repeat first|exact trivial|refine ⟨rfl,?_⟩),⟨.inr rfl,trivial⟩,by decide,gL⟩ ?_
      (repeat' (first|refine wR ?_|(refine rg 10 (HL ?_);(iterate 2 refine gF ?_);refine pW rfl (mW rfl (yN rfl (yN rfl (yN rfl (yV (gD rfl rfl) (gT (pW rfl (pW rfl (mV ?_)))))))));refine yN rfl (yV (gD rfl rfl) (pW rfl (mW rfl (yN rfl (yV (gD rfl rfl) (pW rfl (mW rfl (yO T rfl (yV (kC (cO)) ?_)))))))));refine gT (bH (by exact aS T rfl rfl (by decide) (by decide) rfl rfl rfl) rfl ?_);refine pF 91 rfl rfl rfl rfl ?_;refine yV (kC (cE)) (pW rfl (aV ?_)))|refine nZ ?_));all_goals exact ⟨_,_,⟨rfl,rfl⟩,rQ⟩
  · exact absurd h3 (WX c (by rw [show N3.fl = qH from rfl] at h1;rw [← h1];simp))
theorem XA {f : jD} (g : iL f) : bQ Tryz.prog 123 [lU f] [] (.i f.size) [] := by
  have hb := g.bounds;refine dD T Tryz.func123 rfl rfl rfl rfl ?_
  (repeat' (first|refine wS ?_|refine wR ?_|(refine rg 0 (bH (bN rfl rfl) rfl (aV ?_)))|(refine rg 1 (eK T rfl (eK T rfl (vV (rK rfl rfl (by omega) (by omega)) (eK T rfl (vV (rK rfl rfl (by omega) (by omega)) (aV ?_)))))))|refine nZ ?_));exact rQ
theorem SD {f : jD} (g : iL f) (c : Int) : bQ Tryz.prog 93 [lU f,.i c] [] (.b (decide (0 ≤ c) && decide (c < f.size))) [] := by
  have hs := XA g;refine dD T Tryz.func93 rfl rfl rfl rfl ?_
  (repeat' (first|refine wS ?_|refine wR ?_|(refine rg 0 (bH (bN rfl rfl) rfl (aV ?_)))|(refine rg 1 (mW rfl (vV (gS rfl rfl) (mV ?_)));refine aO rfl rfl ?_ ?_<;>(intro hb;rw [hb];(try simp only [nm] at hb);try (exfalso;omega));(all_goals first|(refine gT (mW rfl (gT (lW T rfl (gT (vV (kC (hs)) (gT (vV (bX rfl rfl) ?_))))))))|(iterate 4 refine gF ?_));(all_goals (refine pW rfl (aV ?_))))|refine nZ ?_));all_goals
    refine gV (.inl rfl) rfl (xF ?_);simp [*]
theorem UL {s : lN} (h : FZ s 40 20) : FZ s 300 1000 :=
  ⟨bU h.kl (by decide),bU h.ol (by decide),bU h.zl (by decide),bU h.al (by decide),bU h.sl (by decide),bU h.rl (by decide),fun z hz => ⟨bU (h.z z hz).1 (by decide),(h.z z hz).2⟩,h.a,h.s⟩
structure zJ6 (s : lN) : Prop where
  few : FZ s 40 20
  ok : zJ1 s
theorem zJ6.fine {s : lN} (h : zJ6 s) : iL s.fl := X7 h.ok.fl (by have := h.few.kl;omega)
theorem zG9 (s : lN) : fT Tryz.prog 6 [.agg (fS s)] [] (zF4 (zJ6 s)) := by
  have cF := YV s 40 20 (by decide) (by decide)
  refine mM T Tryz.func6 rfl rfl rfl rfl ?_
  (repeat' (first|refine wS ?_|refine wR ?_|(refine rg 0 (bH (bN rfl rfl) rfl (aV ?_)))|(refine rg 1 (lW T rfl (gI rfl rfl (cF) (.cons (lP _ rfl) (.cons (.v _) (.cons (.v _) .nil))) (by rintro _ ⟨_,rfl,_⟩;rfl) rfl ?_));rintro _ ⟨b1,rfl,hF⟩;dsimp only [gJ];cases b1;(all_goals (refine mV ?_));(all_goals first|(refine gT (lW T rfl (gT (gI rfl rfl (RM s (UL (hF rfl))) (.cons (lP _ rfl) .nil) (by rintro _ ⟨_,rfl,_⟩;rfl) rfl ?_)));rintro _ ⟨b2,rfl,hS⟩;dsimp only [gJ];cases b2)|(iterate 2 refine gF ?_));(all_goals (refine pW rfl (aV ?_))))|refine nZ ?_));all_goals first | exact ⟨.b false,[],⟨rfl,false,rfl,fun h => Bool.noConfusion h⟩,rQ⟩ | exact ⟨.b true,[],⟨rfl,true,rfl,fun _ => ⟨hF rfl,hS rfl⟩⟩,rQ⟩
end Go.Proofs.YtdmajnjoeidgeaaGreat
namespace Go.Proofs.YtdmajnjoeidgeaaGreat
open Go Go.Ab Go.Fl Go.Shelf Go.Proofs Go.MapKept
attribute [local irreducible] VC AW bR bQ fT mH BC nK M4
set_option maxHeartbeats 8000000
theorem zS6 (A B C : List Int) : ((((((([] : List (List AV)).drop 0).take 0 ++ aI A).drop 0).take (0 + (aI A).length) ++ aI B).drop 0).take (0 + (aI A).length + (aI B).length)) ++ aI C = aI (A ++ B ++ C) := by
  simp only [fJ,List.take_nil,List.nil_append,Nat.zero_add,dU];rw [← aF,dU,← cV,← cV]
structure zO4 (st : E4) : Prop where
  sl : st.sh.length ≤ 12
  rl : st.rb.length ≤ 12
  pl : st.pp.length ≤ 12
  dl : st.dd.length ≤ 12
  kl : st.sk.length ≤ 12
theorem YU (st : E4) :
    fT Tryz.prog 7 [.agg (oW st)] [] (zF4 (zO4 st)) := by
  have hsl : (aI st.sh).length = st.sh.length := aR _;have hpl : (aI st.pp).length = st.pp.length := aR _;have hdl : (aI st.dd).length = st.dd.length := aR _;have hrl : (nO st.rb).length = st.rb.length := by simp
  have hkl : (kD st.sk).length = st.sk.length := by simp
  refine mM T Tryz.func7 rfl rfl rfl rfl ?_;by_cases hF : zO4 st
  · obtain ⟨f1,f2,f3,f4,f5⟩ := hF
    (repeat' (first|refine wS ?_|refine wK ?_|(refine wC rfl ?_ ?_<;>(intro hb;(try simp only [nm] at hb);try (exfalso;omega)))|(refine rg 0 (bH (bN rfl rfl) rfl (aV ?_)))|(refine rg 1 (eK T rfl (qW T rfl (vV (eS rfl rfl) (mV ?_))));refine aO rfl rfl ?_ ?_<;>(intro hb;rw [hb];(try simp only [nm] at hb);try (exfalso;omega));(all_goals (refine yP T rfl (yO T rfl (gT (qW T rfl (yV (eS rfl rfl) (pW rfl (mV ?_))))));refine aO rfl rfl ?_ ?_<;>(intro hb;rw [hb];(try simp only [nm] at hb);try (exfalso;omega))));(all_goals (refine yP T rfl (yO T rfl (gT (qW T rfl (yV (eS rfl rfl) (pW rfl (mV ?_))))));refine aO rfl rfl ?_ ?_<;>(intro hb;rw [hb];(try simp only [nm] at hb);try (exfalso;omega))));(all_goals (refine yP T rfl (yO T rfl (gT (qW T rfl (yV (eS rfl rfl) (pW rfl (mV ?_))))));refine aO rfl rfl ?_ ?_<;>(intro hb;rw [hb];(try simp only [nm] at hb);try (exfalso;omega))));(all_goals (refine yP T rfl (yO T rfl (gT (qW T rfl (yV (eS rfl rfl) (pV ?_))))))))|refine nZ ?_));all_goals try (exfalso;omega)
    refine zI4 [(1,.ptr 0 0),(3,.sl 1 0 (0 + (aI st.sh).length + (aI st.pp).length + (aI st.dd).length) 1)] [.cells (oW st),.arr (aI (st.sh ++ st.pp ++ st.dd)) 1] ?_ ?_
    · refine VH (id := 3) bM ?_;refine VL 1 rfl rfl (by decide +kernel) (by decide +kernel) (by decide +kernel) (by exact xQ T rfl rfl rfl) rfl ?_
      refine VL 4 rfl rfl (by decide +kernel) (by decide +kernel) (by decide +kernel) (by exact xQ T rfl rfl rfl) rfl ?_
      refine VL 7 rfl rfl (by decide +kernel) (by decide +kernel) (by decide +kernel) (by exact xQ T rfl rfl rfl) rfl ?_
      refine ZT [(0,[]),(1,[]),(2,[1]),(3,[0,2]),(4,[]),(5,[4]),(6,[3,5,3]),(7,[]),(8,[7]),(9,[6,8,6]),(10,[9,9,0,1,2,3,4,5,6,7,8,9])] (by decide +kernel) [false,true,false,false,true,false,false,true,false,false,false] rfl rfl ?_
      (repeat' (first|(refine zI9 rfl rfl ?_;(first|(refine vV (by first|exact cJ T rfl rfl rfl rfl|exact eM rfl) ?_)|(refine bH (by exact aS T rfl rfl (by decide) (by decide) rfl rfl rfl) rfl ?_)|(refine eL T rfl rfl rfl rfl rfl rfl (by simp) (.row (aE _)) (pQ _) (by simp;omega) (by simp;omega) rfl ?_));refine mD ?_;dsimp only [List.set_cons_zero,List.set_cons_succ])|(refine zI8 rfl rfl rfl ?_ ?_<;>((first|(refine vV (cJ T rfl rfl rfl rfl) ?_)|(refine bH (by exact aS T rfl rfl (by decide) (by decide) rfl rfl rfl) rfl ?_)|(refine eL T rfl rfl rfl rfl rfl rfl (by simp) (.row (aE _)) (pQ _) (by simp;omega) (by simp;omega) rfl ?_));refine mD ?_;dsimp only [List.set_cons_zero,List.set_cons_succ]))|(refine zI7 rfl rfl rfl rfl ?_ ?_ ?_<;>((first|(refine vV (cJ T rfl rfl rfl rfl) ?_)|(refine bH (by exact aS T rfl rfl (by decide) (by decide) rfl rfl rfl) rfl ?_)|(refine eL T rfl rfl rfl rfl rfl rfl (by simp) (.row (aE _)) (pQ _) (by simp;omega) (by simp;omega) rfl ?_));refine mD ?_;dsimp only [List.set_cons_zero,List.set_cons_succ]))|(refine zI6 rfl rfl rfl rfl rfl ?_ ?_ ?_ ?_<;>((first|(refine vV (cJ T rfl rfl rfl rfl) ?_)|(refine bH (by exact aS T rfl rfl (by decide) (by decide) rfl rfl rfl) rfl ?_));refine mD ?_;dsimp only [List.set_cons_zero,List.set_cons_succ]))));all_goals exact QV rfl ⟨rfl,[0,4],rfl,(by repeat first|exact trivial|refine ⟨rfl,?_⟩),⟨.inr rfl,.inr (aC rfl (zS6 _ _ _) (aM _)),trivial⟩,by decide,zD _⟩
    · intro v g hs;refine VA hs ?_;generalize hL : st.sh ++ st.pp ++ st.dd = L0;have hl0 : L0.length = st.sh.length + st.pp.length + st.dd.length := by rw [← hL];simp only [aF]
      (repeat' (first|refine wS ?_|refine wB ?_|(refine rg 4 (aV ?_))|refine nZ ?_));refine bV (X := {p : Nat × List Int // p.1 ≤ st.rb.length ∧ p.2.length = L0.length + p.1}) (fun p => [(1,.ptr 0 0),(3,.sl 1 0 p.1.2.length 1),(4,.i p.1.1)]) (fun p => [.cells (oW st),.arr (aI p.1.2) 1]) (fun p => st.rb.length - p.1.1) ⟨(0,L0),by dsimp only;omega,by dsimp only;omega⟩ ⟨[0,1],rfl,⟨rfl,congrArg (fun n : Nat => some (AV.sl 1 0 n 1)) (by dsimp only;omega),rfl,trivial⟩,⟨.inr rfl,.inr (aC rfl rfl (aM _)),trivial⟩,by decide,zD _⟩ ?_
      rintro ⟨⟨k,L⟩,hk,hLl⟩;dsimp only;change k ≤ st.rb.length at hk;change L.length = L0.length + k at hLl;have hil : (aI L).length = L.length := aR _;by_cases hlt : k < st.rb.length
      · have q1 : (nO st.rb)[(k : Int).toNat]? = some (H7 st.rb[k]) := uM hlt;generalize st.rb[k] = r at *;obtain ⟨x,ld,ch,re,mu,de⟩ := r
        (repeat' (first|refine wS ?_|refine wB ?_|refine wK ?_|refine wT ?_|(refine rg 5 (mW rfl (eK T rfl (qW T rfl (vV (aL rfl rfl (by omega)) ?_)))))|(refine rg 7 (mW rfl (eK T rfl (mW rfl (vV (ix T rfl (by omega) (jE _) q1) (eK T rfl (bH (by exact aS T rfl rfl (by decide) (by decide) rfl rfl rfl) rfl ?_))))));refine eL T rfl rfl rfl rfl rfl rfl (by omega) (iU.whole rfl rfl) rfl (by simp;omega) (by simp;omega) rfl ?_;refine aV ?_)|(refine iA 6 rfl rfl rfl (by omega) (by omega) ?_)|refine nZ ?_));all_goals first | (exfalso;omega) | exact ⟨⟨(k + 1,L ++ [x]),hlt,by dsimp only;rw [aF];simp;omega⟩,by dsimp only;omega,⟨[0,3],rfl,⟨rfl,congrArg (fun n : Nat => some (AV.sl 3 0 n 1)) (by simp),rfl,trivial⟩,⟨.inr rfl,.inr (aC rfl (V6 (q := [x]) rfl) (aM _)),trivial⟩,by decide,zD _⟩⟩
      · obtain rfl : k = st.rb.length := by omega
        (repeat' (first|refine wS ?_|refine wB ?_|refine wE ?_|refine wU ?_|(refine rg 5 (mW rfl (eK T rfl (qW T rfl (vV (bG rfl rfl (by omega)) ?_)))))|(refine rg 8 (aV ?_))|refine nZ ?_));all_goals try (exfalso;omega)
        refine F9 3 (es := aI L) rfl rfl hil.symm (rZ _) ?_;refine bV (X := {j : Nat // j ≤ L.length}) (fun j => [(3,.rowE (aI L) 1),(5,.i j.1)]) (fun _ => []) (fun j => L.length - j.1) ⟨0,by omega⟩ (eI []) ?_
        rintro ⟨j,hj⟩;dsimp only;by_cases hlt2 : j < L.length
        · have q1 := eY (l := L) (j := (j : Int)) 0 hlt2 rfl;generalize L.getD j 0 = c at *
          (repeat' (first|refine wS ?_|refine wB ?_|refine wK ?_|refine wR ?_|refine wT ?_|(refine wC rfl ?_ ?_<;>(intro hb;(try simp only [nm] at hb);try (exfalso;omega)))|(refine rg 9 (eX rfl (qW T rfl (vV (aL rfl rfl (by omega)) ?_))))|(refine rg 11 (eX rfl (vV (ix T rfl (by omega) (aE _) q1) (lW T rfl (vV (bX rfl rfl) (mV ?_)))));refine aO rfl rfl ?_ ?_<;>(intro hb;rw [hb];(try simp only [nm] at hb);try (exfalso;omega));(all_goals first|(refine gT (mW rfl (gT (mW rfl (gT (vV (ix T rfl (by omega) (aE _) q1) (gT (lW T rfl (gT (vV (eS rfl rfl) ?_))))))))))|(iterate 5 refine gF ?_));(all_goals (refine pV ?_)))|(refine rg 12 (aV ?_))|(refine iA 10 rfl rfl rfl (by omega) (by omega) ?_)|refine nZ ?_));all_goals first | (exfalso;omega) | exact ⟨.b false,[],⟨rfl,false,rfl,fun h => Bool.noConfusion h⟩,rQ⟩ | exact ⟨⟨j + 1,by omega⟩,by dsimp only;omega,eI []⟩
        · (repeat' (first|refine wS ?_|refine wR ?_|refine wE ?_|refine iB rfl ?_|(refine rg 9 (eX rfl (qW T rfl (vV (bG rfl rfl (by omega)) ?_))))|(refine rg 13 (aV ?_))|(refine nZ ?_)));all_goals first | (exfalso;omega) | exact ⟨_,_,⟨rfl,_,rfl,fun _ => ⟨f1,f2,f3,f4,f5⟩⟩,rQ⟩
  · have hno : ∀ a1 : (st.sh.length : Int) ≤ 12,∀ a2 : (st.rb.length : Int) ≤ 12,∀ a3 : (st.pp.length : Int) ≤ 12,∀ a4 : (st.dd.length : Int) ≤ 12,∀ a5 : (st.sk.length : Int) ≤ 12,False := fun a1 a2 a3 a4 a5 => hF ⟨by omega,by omega,by omega,by omega,by omega⟩
    (repeat' (first|refine wS ?_|refine wK ?_|refine wR ?_|refine wT ?_|(refine wC rfl ?_ ?_<;>(intro hb;(try simp only [nm] at hb);try (exfalso;omega)))|(refine rg 0 (bH (bN rfl rfl) rfl (aV ?_)))|(refine rg 1 (eK T rfl (qW T rfl (vV (eS rfl rfl) (mV ?_))));refine aO rfl rfl ?_ ?_<;>(intro hb;rw [hb];(try simp only [nm] at hb);try (exfalso;omega));(all_goals first|(refine gT (fW T rfl (gT (lW T rfl (gT (qW T rfl (gT (vV (eS rfl rfl) ?_))))))))|(iterate 4 refine gF ?_));(all_goals (refine pW rfl (mV ?_)));(all_goals first|(refine gK ?_)|(refine aO rfl rfl ?_ ?_<;>(intro hb;rw [hb];(try simp only [nm] at hb);try (exfalso;omega))));(all_goals first|(refine gT (fW T rfl (gT (lW T rfl (gT (qW T rfl (gT (vV (eS rfl rfl) ?_))))))))|(iterate 4 refine gF ?_));(all_goals (refine pW rfl (mV ?_)));(all_goals first|(refine gK ?_)|(refine aO rfl rfl ?_ ?_<;>(intro hb;rw [hb];(try simp only [nm] at hb);try (exfalso;omega))));(all_goals first|(refine gT (fW T rfl (gT (lW T rfl (gT (qW T rfl (gT (vV (eS rfl rfl) ?_))))))))|(iterate 4 refine gF ?_));(all_goals (refine pW rfl (mV ?_)));(all_goals first|(refine gK ?_)|(refine aO rfl rfl ?_ ?_<;>(intro hb;rw [hb];(try simp only [nm] at hb);try (exfalso;omega))));(all_goals first|(refine gT (fW T rfl (gT (lW T rfl (gT (qW T rfl (gT (vV (eS rfl rfl) ?_))))))))|(iterate 4 refine gF ?_));(all_goals (refine pV ?_)))|(refine rg 2 (aV ?_))|refine nZ ?_));all_goals first | (exfalso;omega) | exact ⟨.b false,[],⟨rfl,false,rfl,fun h => Bool.noConfusion h⟩,rQ⟩ | (exfalso;exact hno (by omega) (by omega) (by omega) (by omega) (by omega))
end Go.Proofs.YtdmajnjoeidgeaaGreat
namespace Go.Proofs.YtdmajnjoeidgeaaGreat
open Go Go.Ab Go.Fl Go.Shelf Go.Proofs Go.MapKept
end Go.Proofs.YtdmajnjoeidgeaaGreat
namespace Go.Proofs.YtdmajnjoeidgeaaGreat
open Go Go.Ab Go.Fl Go.Shelf Go.Proofs Go.MapKept
attribute [local irreducible] VC AW bR bQ fT mH BC nK
set_option maxHeartbeats 4000000
theorem FZ.more {s : lN} (h : FZ s 30 12) : FZ s 300 1000 :=
  ⟨bU h.kl (by decide),bU h.ol (by decide),bU h.zl (by decide),bU h.al (by decide),bU h.sl (by decide),bU h.rl (by decide),fun z hz => ⟨bU (h.z z hz).1 (by decide),(h.z z hz).2⟩,h.a,h.s⟩
end Go.Proofs.YtdmajnjoeidgeaaGreat
namespace Go.Proofs.YtdmajnjoeidgeaaGreat
open Go Go.Ab Go.Fl
attribute [local irreducible] VC AW bR bQ
def PC (n : Int) : Prop := (Lit.int .i64 n).wf = true
theorem pC : fH Tryz.prog 3 PC (fun n => [AV.i n]) := fH.int Tryz.underlying3 (by kernel_rfl)
theorem zF2 : fH Tryz.prog 4 (fun _ => True) (fun b => [AV.b b]) := fH.bool Tryz.underlying4 (by kernel_rfl)
theorem MK : fH Tryz.prog 9 (fun l : List UInt8 => l.length ≤ maxLen) (fun l => [AV.s l]) :=
  fH.iso (fH.string (by kernel_rfl) (by kernel_rfl)) (fun s : ByteArray => s.data.toList) fun s hs => ⟨by simpa using hs,rfl⟩
theorem xS : fH Tryz.prog 22 (fun l : List Int => l.length ≤ maxLen ∧ ∀ a,a ∈ l → PC a) (fun l => [.rowE (aI l) 1]) :=
  fH.slice Tryz.underlying22 (by kernel_rfl) (by kernel_rfl) (by decide) pC
theorem XU : fH Tryz.prog 24 (fun _ : jD => True) (fun p => jM p) :=
  fH.struct (fs := [(3, 0), (3, 1), (3, 2), (22, 3), (22, 4)]) (by kernel_rfl) (by kernel_rfl)
    (fun e W fuel css hl hx => by
      obtain ⟨a,h1,h2,h3⟩ := eW.cons pC (eW.cons pC (eW.cons pC (eW.cons xS (eW.cons xS eW.nil)))) e W fuel css hl hx
      exact ⟨⟨a.1,a.2.1,a.2.2.1,a.2.2.2.1,a.2.2.2.2.1⟩,trivial,by simpa using h2,by simpa using h3⟩)
    (fun _ => by kernel_rfl)
theorem zE8 : fH Tryz.prog 151 (fun _ : Int × Int => True) (fun x => [AV.i x.1,AV.i x.2]) :=
  fH.struct (fs := [(3, 0), (3, 1)]) (by kernel_rfl) (by kernel_rfl)
    (fun e W fuel css hl hx => by
      obtain ⟨a,h1,h2,h3⟩ := eW.cons pC (eW.cons pC eW.nil) e W fuel css hl hx
      exact ⟨(a.1,a.2.1),trivial,by simpa using h2,by simpa using h3⟩)
    (fun _ => by kernel_rfl)
theorem XQ : fH Tryz.prog 90 (fun l : List (Int × Int) => l.length ≤ maxLen ∧ ∀ a,a ∈ l → True) (fun l => [.rowE (kD l) 2]) :=
  fH.slice Tryz.underlying90 (by kernel_rfl) (by kernel_rfl) (by decide) zE8
theorem XP : fH Tryz.prog 108 (fun _ : Int × Int => True) (fun x => [AV.i x.1,AV.i x.2]) :=
  fH.struct (fs := [(3, 0), (3, 1)]) (by kernel_rfl) (by kernel_rfl)
    (fun e W fuel css hl hx => by
      obtain ⟨a,h1,h2,h3⟩ := eW.cons pC (eW.cons pC eW.nil) e W fuel css hl hx
      exact ⟨(a.1,a.2.1),trivial,by simpa using h2,by simpa using h3⟩)
    (fun _ => by kernel_rfl)
theorem SQ : fH Tryz.prog 28 (fun l : List (Int × Int) => l.length ≤ maxLen ∧ ∀ a,a ∈ l → True) (fun l => [.rowE (kD l) 2]) :=
  fH.slice Tryz.underlying28 (by kernel_rfl) (by kernel_rfl) (by decide) XP
theorem XV : fH Tryz.prog 94 (fun _ : List UInt8 × List UInt8 => True) (fun x => [AV.s x.1,AV.s x.2]) :=
  fH.struct (fs := [(9, 0), (9, 1)]) (by kernel_rfl) (by kernel_rfl)
    (fun e W fuel css hl hx => by
      obtain ⟨a,h1,h2,h3⟩ := eW.cons MK (eW.cons MK eW.nil) e W fuel css hl hx
      exact ⟨(a.1,a.2.1),trivial,by simpa using h2,by simpa using h3⟩)
    (fun _ => by kernel_rfl)
theorem SS : fH Tryz.prog 26 (fun l : List (List UInt8 × List UInt8) => l.length ≤ maxLen ∧ ∀ a,a ∈ l → True) (fun l => [.rowE (pR l) 2]) :=
  fH.slice Tryz.underlying26 (by kernel_rfl) (by kernel_rfl) (by decide) XV
theorem XR : fH Tryz.prog 96 (fun _ : Int × List UInt8 => True) (fun x => [AV.i x.1,AV.s x.2]) :=
  fH.struct (fs := [(3, 0), (9, 1)]) (by kernel_rfl) (by kernel_rfl)
    (fun e W fuel css hl hx => by
      obtain ⟨a,h1,h2,h3⟩ := eW.cons pC (eW.cons MK eW.nil) e W fuel css hl hx
      exact ⟨(a.1,a.2.1),trivial,by simpa using h2,by simpa using h3⟩)
    (fun _ => by kernel_rfl)
theorem PB : fH Tryz.prog 27 (fun l : List (Int × List UInt8) => l.length ≤ maxLen ∧ ∀ a,a ∈ l → True) (fun l => [.rowE (pH l) 2]) :=
  fH.slice Tryz.underlying27 (by kernel_rfl) (by kernel_rfl) (by decide) XR
theorem zE7 : fH Tryz.prog 92 (fun _ : IY => True) BR :=
  fH.struct (fs := [(9, 0), (22, 1), (3, 2), (3, 3), (90, 4)]) (by kernel_rfl) (by kernel_rfl)
    (fun e W fuel css hl hx => by
      obtain ⟨a,h1,h2,h3⟩ := eW.cons MK (eW.cons xS (eW.cons pC (eW.cons pC (eW.cons XQ eW.nil)))) e W fuel css hl hx
      exact ⟨(a.1,a.2.1,a.2.2.1,a.2.2.2.1,a.2.2.2.2.1),trivial,by simpa using h2,by simpa using h3⟩)
    (fun _ => by kernel_rfl)
theorem XM : fH Tryz.prog 25 (fun l : List IY => l.length ≤ maxLen ∧ ∀ a,a ∈ l → True) (fun l => [.rowE (nC l) 5]) :=
  fH.slice Tryz.underlying25 (by kernel_rfl) (by kernel_rfl) (by decide) zE7
theorem zE9 : fH Tryz.prog 30 (fun _ : lN => True) (fun s => fS s) :=
  fH.struct (fs := [(24, 0), (25, 5), (26, 6), (27, 7), (28, 8)]) (by kernel_rfl) (by kernel_rfl)
    (fun e W fuel css hl hx => by
      obtain ⟨a,h1,h2,h3⟩ := eW.cons XU (eW.cons XM (eW.cons SS (eW.cons PB (eW.cons SQ eW.nil)))) e W fuel css hl hx
      exact ⟨⟨a.1,a.2.1,a.2.2.1,a.2.2.2.1,a.2.2.2.2.1⟩,trivial,by simpa using h2,by simpa using h3⟩)
    (fun _ => by kernel_rfl)
theorem XS : fH Tryz.prog 47 (fun _ : BQ => True) H7 :=
  fH.struct (fs := [(3, 0), (3, 1), (3, 2), (3, 3), (3, 4), (4, 5)]) (by kernel_rfl) (by kernel_rfl)
    (fun e W fuel css hl hx => by
      obtain ⟨a,h1,h2,h3⟩ := eW.cons pC (eW.cons pC (eW.cons pC (eW.cons pC (eW.cons pC (eW.cons zF2 eW.nil))))) e W fuel css hl hx
      exact ⟨(a.1,a.2.1,a.2.2.1,a.2.2.2.1,a.2.2.2.2.1,a.2.2.2.2.2.1),trivial,by simpa using h2,by simpa using h3⟩)
    (fun _ => by kernel_rfl)
theorem SR : fH Tryz.prog 31 (fun l : List BQ => l.length ≤ maxLen ∧ ∀ a,a ∈ l → True) (fun l => [.rowE (nO l) 6]) :=
  fH.slice Tryz.underlying31 (by kernel_rfl) (by kernel_rfl) (by decide) XS
theorem XN : fH Tryz.prog 113 (fun _ : Int × Int => True) (fun x => [AV.i x.1,AV.i x.2]) :=
  fH.struct (fs := [(3, 0), (3, 1)]) (by kernel_rfl) (by kernel_rfl)
    (fun e W fuel css hl hx => by
      obtain ⟨a,h1,h2,h3⟩ := eW.cons pC (eW.cons pC eW.nil) e W fuel css hl hx
      exact ⟨(a.1,a.2.1),trivial,by simpa using h2,by simpa using h3⟩)
    (fun _ => by kernel_rfl)
theorem SP : fH Tryz.prog 32 (fun l : List (Int × Int) => l.length ≤ maxLen ∧ ∀ a,a ∈ l → True) (fun l => [.rowE (kD l) 2]) :=
  fH.slice Tryz.underlying32 (by kernel_rfl) (by kernel_rfl) (by decide) XN
theorem XO : fH Tryz.prog 34 (fun _ : E4 => True) (fun s => oW s) :=
  fH.struct (fs := [(3, 0), (22, 1), (31, 2), (22, 3), (22, 4), (32, 5)]) (by kernel_rfl) (by kernel_rfl)
    (fun e W fuel css hl hx => by
      obtain ⟨a,h1,h2,h3⟩ := eW.cons pC (eW.cons xS (eW.cons SR (eW.cons xS (eW.cons xS (eW.cons SP eW.nil))))) e W fuel css hl hx
      exact ⟨⟨a.1,a.2.1,a.2.2.1,a.2.2.2.1,a.2.2.2.2.1,a.2.2.2.2.2.1⟩,trivial,by simpa using h2,by simpa using h3⟩)
    (fun _ => by kernel_rfl)
end Go.Proofs.YtdmajnjoeidgeaaGreat
namespace Go.Proofs.YtdmajnjoeidgeaaGreat
open Go Go.Ab Go.Fl
end Go.Proofs.YtdmajnjoeidgeaaGreat
namespace Go.Proofs.YtdmajnjoeidgeaaGreat
open Go Go.Ab Go.Fl Go.Re
attribute [local irreducible] VC AW bR bQ AY VY T3
set_option maxHeartbeats 4000000
theorem OJ {d : Int} (hd : 0 ≤ d ∧ d < 6) : IntKind.u64.wrap d = d := by
  have h : d = 0 ∨ d = 1 ∨ d = 2 ∨ d = 3 ∨ d = 4 ∨ d = 5 := by omega
  rcases h with rfl | rfl | rfl | rfl | rfl | rfl <;> decide
section
variable {f : jD}
theorem XI (g : iL f) (x y z : Int) : bQ Tryz.prog 125 [lU f,.i x,.i y,.i z] [] (.i (rP f x y z)) [] := by
  have hb := g.bounds;have hw := g.w1;have hh := g.h1;have hd1 := g.d1;by_cases hr : x < 0 ∨ y < 0 ∨ z < 0 ∨ f.w ≤ x ∨ f.h ≤ y ∨ f.d ≤ z
  · have e : rP f x y z = -1 := by unfold rP;rw [if_pos hr]
    rw [e];refine dD T Tryz.func125 rfl rfl rfl rfl ?_
    (repeat' (first|refine wS ?_|refine wR ?_|refine wT ?_|(refine wC rfl ?_ ?_<;>(intro hb;(try simp only [nm] at hb);try (exfalso;omega)))|(refine rg 0 (bH (bN rfl rfl) rfl (aV ?_)))|(refine rg 1 (mW rfl (vV (bX rfl rfl) (mV ?_)));refine aO rfl rfl ?_ ?_<;>(intro hb;rw [hb];(try simp only [nm] at hb);try (exfalso;omega));(all_goals first|(refine gT (mW rfl (gT (fW T rfl (gT (lW T rfl (gT (vV (gS rfl rfl) ?_))))))))|(iterate 4 refine gF ?_));(all_goals (refine pW rfl (mV ?_)));(all_goals first|(refine gK ?_)|(refine aO rfl rfl ?_ ?_<;>(intro hb;rw [hb];(try simp only [nm] at hb);try (exfalso;omega))));(all_goals first|(refine gT (mW rfl (gT (vV (bX rfl rfl) ?_))))|(iterate 2 refine gF ?_));(all_goals (refine pW rfl (mV ?_)));(all_goals first|(refine gK ?_)|(refine aO rfl rfl ?_ ?_<;>(intro hb;rw [hb];(try simp only [nm] at hb);try (exfalso;omega))));(all_goals first|(refine gT (mW rfl (gT (fW T rfl (gT (lW T rfl (gT (vV (gS rfl rfl) ?_))))))))|(iterate 4 refine gF ?_));(all_goals (refine pW rfl (mV ?_)));(all_goals first|(refine gK ?_)|(refine aO rfl rfl ?_ ?_<;>(intro hb;rw [hb];(try simp only [nm] at hb);try (exfalso;omega))));(all_goals first|(refine gT (mW rfl (gT (vV (bX rfl rfl) ?_))))|(iterate 2 refine gF ?_));(all_goals (refine pW rfl (mV ?_)));(all_goals first|(refine gK ?_)|(refine aO rfl rfl ?_ ?_<;>(intro hb;rw [hb];(try simp only [nm] at hb);try (exfalso;omega))));(all_goals first|(refine gT (mW rfl (gT (fW T rfl (gT (lW T rfl (gT (vV (gS rfl rfl) ?_))))))))|(iterate 4 refine gF ?_));(all_goals (refine pV ?_)))|(refine rg 2 (aV ?_))|refine nZ ?_));all_goals first | (exfalso;omega) | exact rQ
  · have e : rP f x y z = (z * f.h + y) * f.w + x := by unfold rP;rw [if_neg hr]
    rw [e];obtain ⟨c1,_⟩ := P7 g (x := x) (y := y) (z := z) (by omega) (by omega) (by omega)
    have n1 : 0 ≤ z * f.h := xI (by omega) (by omega)
    have n3 : z * f.h + y ≤ (z * f.h + y) * f.w := rY (by omega) (by omega)
    have hsz : f.size = f.w * f.h * f.d := rfl;refine dD T Tryz.func125 rfl rfl rfl rfl ?_
    (repeat' (first|refine wS ?_|refine wK ?_|refine wR ?_|(refine wC rfl ?_ ?_<;>(intro hb;(try simp only [nm] at hb);try (exfalso;omega)))|(refine rg 0 (bH (bN rfl rfl) rfl (aV ?_)))|(refine rg 1 (mW rfl (vV (bX rfl rfl) (mV ?_)));refine aO rfl rfl ?_ ?_<;>(intro hb;rw [hb];(try simp only [nm] at hb);try (exfalso;omega));(all_goals (refine yN rfl (yP T rfl (yO T rfl (yV (gS rfl rfl) (pW rfl (mV ?_)))));refine aO rfl rfl ?_ ?_<;>(intro hb;rw [hb];(try simp only [nm] at hb);try (exfalso;omega))));(all_goals (refine yN rfl (yV (bX rfl rfl) (pW rfl (mV ?_)));refine aO rfl rfl ?_ ?_<;>(intro hb;rw [hb];(try simp only [nm] at hb);try (exfalso;omega))));(all_goals (refine yN rfl (yP T rfl (yO T rfl (yV (gS rfl rfl) (pW rfl (mV ?_)))));refine aO rfl rfl ?_ ?_<;>(intro hb;rw [hb];(try simp only [nm] at hb);try (exfalso;omega))));(all_goals (refine yN rfl (yV (bX rfl rfl) (pW rfl (mV ?_)));refine aO rfl rfl ?_ ?_<;>(intro hb;rw [hb];(try simp only [nm] at hb);try (exfalso;omega))));(all_goals (refine yN rfl (yP T rfl (yO T rfl (yV (gS rfl rfl) (pV ?_)))))))|(refine rg 3 (mW rfl (eK T rfl (vV (rK rfl rfl (by omega) (by omega)) (mW rfl (vV (bP rfl rfl (by omega) (by omega)) (eK T rfl (vV (rK rfl rfl (by omega) (by omega)) (mW rfl (vV (bP rfl rfl (by omega) (by omega)) ?_)))))))));refine aV ?_)|refine nZ ?_));all_goals first | (exfalso;omega) | exact rQ
theorem zL6 (g : iL f) (c : Int) : bQ Tryz.prog 124 [lU f,.i c] [] (.tup [.i (M6 f c).1,.i (M6 f c).2.1,.i (M6 f c).2.2]) [] := by
  have hb := g.bounds;have hw := g.w1;have hh := g.h1;have hi := SD g c;have hsz : f.size = f.w * f.h * f.d := rfl;by_cases hr : 0 ≤ c ∧ c < f.size
  · rw [show (decide (0 ≤ c) && decide (c < f.size)) = true by simp [hr]] at hi
    have e : M6 f c = (c % f.w,c / f.w % f.h,c / f.w / f.h) := by unfold M6;rw [if_pos hr,BN (by omega)]
    rw [e];have hq : 0 ≤ c / f.w := vH hr.1 (by omega)
    have hq2 : c / f.w ≤ c := BM _ hr.1;refine dD T Tryz.func124 rfl rfl rfl rfl ?_
    (repeat' (first|refine wS ?_|refine wK ?_|refine wR ?_|refine wU ?_|(refine rg 0 (bH (bN rfl rfl) rfl (D2 rfl (aV ?_))))|(refine rg 1 (lW T rfl (mW rfl (vV (kC (hi)) (vV (bB rfl) ?_)))))|(refine aN (id := 3) 29 [[],[],[1],[0,1,2],[],[],[5],[4,5,6],[],[8],rM 4 6,[],[],[12],[11,12,13],[],[15],rM 11 6,rN 4,[0,1,2,3,4,5,6,7,8,9,10,18]] [11,12,13,14,15,16,17,18,19,20,21,22,23,24,25,26,27,28,4,5] [[],[11],[11],[],rM 11 4,rM 11 5,rM 11 5,rM 11 4,rM 11 8,rM 11 8,rM 11 4,rM 11 11,rM 11 12,rM 11 12,rM 11 11,rM 11 15,rM 11 15,rM 11 11,rM 15 14,rM 22 7] bM rfl (by decide +kernel) (dN rfl (dP T rfl (dO T rfl (dV rfl (V1 rfl rfl (by omega) (by omega)) (dN rfl (dP T rfl (dO T rfl (dV rfl (J7 rfl rfl (by omega) (by omega) (by omega)) (dF T ?_)))))))));refine dO T rfl (dV rfl (V1 rfl rfl (by omega) (by omega)) (dN rfl (dP T rfl (dO T rfl (dV rfl (J7 rfl rfl (by omega) (by omega) (by omega)) (dP T rfl (dO T rfl (dV rfl (J7 rfl rfl (by omega) (by omega) (by omega)) (dV rfl (eM rfl) ?_)))))))));refine dV rfl (eM rfl) (dE ?_);refine aV ?_)|refine nZ ?_));all_goals first | (exfalso;omega) | exact rQ
  · rw [show (decide (0 ≤ c) && decide (c < f.size)) = false by rw [← fE];simp;omega] at hi
    have e : M6 f c = (0,0,0) := by unfold M6;rw [if_neg hr]
    rw [e];refine dD T Tryz.func124 rfl rfl rfl rfl ?_
    (repeat' (first|refine wS ?_|refine wR ?_|refine wT ?_|(refine rg 0 (bH (bN rfl rfl) rfl (D2 rfl (aV ?_))))|(refine rg 1 (lW T rfl (mW rfl (vV (kC (hi)) (vV (bB rfl) ?_)))))|(refine rg 2 (D2 rfl (aV ?_)))|refine nZ ?_));all_goals exact rQ
theorem zE1 (d : Int) : bQ Tryz.prog 95 [.i d] [] (.i (oJ d)) [] := by
  by_cases hd : d < 0 ∨ 6 ≤ d
  · rw [MJ hd];refine dD T Tryz.func95 rfl rfl rfl rfl ?_
    (repeat' (first|refine wS ?_|refine wB ?_|refine wK ?_|refine wR ?_|refine wU ?_|(refine rg 0 (aV ?_))|(refine rg 1 (mV ?_))|(refine rg 2 (vV (eN rfl rfl (by omega)) (aV ?_)))|(refine rg 4 (vV (eN rfl rfl (by omega)) (aV ?_)))|(refine rg 6 (vV (eN rfl rfl (by omega)) (aV ?_)))|(refine rg 8 (vV (eN rfl rfl (by omega)) (aV ?_)))|(refine rg 10 (vV (eN rfl rfl (by omega)) (aV ?_)))|(refine rg 12 (vV (eN rfl rfl (by omega)) (aV ?_)))|(refine rg 14 (aV ?_))|refine nZ ?_));all_goals first | (exfalso;omega) | exact rQ
  · have h : d = 0 ∨ d = 1 ∨ d = 2 ∨ d = 3 ∨ d = 4 ∨ d = 5 := by omega
    refine dD T Tryz.func95 rfl rfl rfl rfl ?_;rcases h with rfl | rfl | rfl | rfl | rfl | rfl
    all_goals
      repeat' (first|refine wS ?_|refine wB ?_|refine wR ?_|refine wT ?_|refine wU ?_|(refine rg 0 (aV ?_))|(refine rg 1 (mV ?_))|(refine rg 2 (vV (by first|exact gH rfl rfl (by omega)|exact eN rfl rfl (by omega)) ?_);refine aV ?_)|(refine rg 3 (aV ?_))|(refine rg 4 (vV (by first|exact gH rfl rfl (by omega)|exact eN rfl rfl (by omega)) ?_);refine aV ?_)|(refine rg 5 (aV ?_))|(refine rg 6 (vV (by first|exact gH rfl rfl (by omega)|exact eN rfl rfl (by omega)) ?_);refine aV ?_)|(refine rg 7 (aV ?_))|(refine rg 8 (vV (by first|exact gH rfl rfl (by omega)|exact eN rfl rfl (by omega)) ?_);refine aV ?_)|(refine rg 9 (aV ?_))|(refine rg 10 (vV (by first|exact gH rfl rfl (by omega)|exact eN rfl rfl (by omega)) ?_);refine aV ?_)|(refine rg 11 (aV ?_))|(refine rg 12 (vV (gH rfl rfl (by omega)) (aV ?_)))|(refine rg 13 (aV ?_))|refine nZ ?_)
    all_goals first | (exfalso;omega) | exact rQ
theorem CS (g : iL f) (c d : Int) : bQ Tryz.prog 94 [lU f,.i c,.i d] [] (.i (dS f c d)) [] := by
  have hb := g.bounds;have hi := SD g c;have hsz : f.size = f.w * f.h * f.d := rfl;by_cases hc : 0 ≤ c ∧ c < f.size
  · rw [show (decide (0 ≤ c) && decide (c < f.size)) = true by simp [hc]] at hi
    have ha := zL6 g c;have e : M6 f c = (c % f.w,c / f.w % f.h,c / (f.w * f.h)) := by unfold M6;rw [if_pos hc]
    rw [e] at ha;have zJ8 := L1 g (c := c) (by omega) (by omega)
    have hcl := fun x y z => XI g x y z
    by_cases hd : d < 0 ∨ 6 ≤ d
    · have e : dS f c d = -1 := by unfold dS;rw [if_pos (by omega)]
      rw [e];refine dD T Tryz.func94 rfl rfl rfl rfl ?_
      (repeat' (first|refine wS ?_|refine wB ?_|refine wK ?_|refine wR ?_|refine wU ?_|(refine rg 0 (bH (bN rfl rfl) rfl (aV ?_)))|(refine rg 1 (lW T rfl (mW rfl (vV (kC (hi)) (vV (bB rfl) ?_)))))|(refine rg 3 (lW T rfl (mW rfl (vV (kC (ha)) (mW rfl (xW rfl (xW rfl (xW rfl (D2 rfl (aV ?_))))))))))|(refine rg 4 (mV ?_))|(refine rg 5 (vV (eN rfl rfl (by omega)) (aV ?_)))|(refine rg 7 (vV (eN rfl rfl (by omega)) (aV ?_)))|(refine rg 9 (vV (eN rfl rfl (by omega)) (aV ?_)))|(refine rg 11 (vV (eN rfl rfl (by omega)) (aV ?_)))|(refine rg 13 (vV (eN rfl rfl (by omega)) (aV ?_)))|(refine rg 15 (vV (eN rfl rfl (by omega)) (aV ?_)))|(refine rg 17 (aV ?_))|refine nZ ?_));all_goals first | (exfalso;omega) | exact rQ
    · have e : dS f c d = rP f (c % f.w + US d) (c / f.w % f.h + UR d) (c / (f.w * f.h) + UQ d) := by unfold dS;rw [if_neg (by omega)]
      rw [e];have h : d = 0 ∨ d = 1 ∨ d = 2 ∨ d = 3 ∨ d = 4 ∨ d = 5 := by omega
      refine dD T Tryz.func94 rfl rfl rfl rfl ?_;generalize hX : c % f.w = X at *;generalize hY : c / f.w % f.h = Y at *;generalize hZ : c / (f.w * f.h) = Z at *;rcases h with rfl | rfl | rfl | rfl | rfl | rfl
      all_goals
        repeat' (first|refine wS ?_|refine wB ?_|refine wK ?_|refine wR ?_|refine wT ?_|refine wU ?_|(refine rg 0 (bH (bN rfl rfl) rfl (aV ?_)))|(refine rg 1 (lW T rfl (mW rfl (vV (kC (hi)) (vV (bB rfl) ?_)))))|(refine rg 3 (lW T rfl (mW rfl (vV (kC (ha)) (mW rfl (xW rfl (xW rfl (xW rfl (D2 rfl (aV ?_))))))))))|(refine rg 4 (mV ?_))|(refine rg 5 (vV (by first|exact gH rfl rfl (by omega)|exact eN rfl rfl (by omega)) ?_);refine aV ?_)|(refine rg 6 (lW T rfl (mW rfl (vV (bP rfl rfl (by omega) (by omega)) (eX rfl (vV (by exact yB9 rfl rfl (hcl _ _ _) rfl rfl rfl) ?_)))));refine aV ?_)|(refine rg 7 (vV (by first|exact gH rfl rfl (by omega)|exact eN rfl rfl (by omega)) ?_);refine aV ?_)|(refine rg 8 (lW T rfl (eX rfl (vV (bP rfl rfl (by omega) (by omega)) (mW rfl (vV (by exact yB9 rfl rfl (hcl _ _ _) rfl rfl rfl) ?_)))));refine aV ?_)|(refine rg 9 (vV (by first|exact gH rfl rfl (by omega)|exact eN rfl rfl (by omega)) ?_);refine aV ?_)|(refine rg 10 (lW T rfl (mW rfl (vV (fN rfl rfl (by omega) (by omega)) (eX rfl (vV (by exact yB9 rfl rfl (hcl _ _ _) rfl rfl rfl) ?_)))));refine aV ?_)|(refine rg 11 (vV (by first|exact gH rfl rfl (by omega)|exact eN rfl rfl (by omega)) ?_);refine aV ?_)|(refine rg 12 (lW T rfl (eX rfl (vV (fN rfl rfl (by omega) (by omega)) (mW rfl (vV (by exact yB9 rfl rfl (hcl _ _ _) rfl rfl rfl) ?_)))));refine aV ?_)|(refine rg 13 (vV (by first|exact gH rfl rfl (by omega)|exact eN rfl rfl (by omega)) ?_);refine aV ?_)|(refine rg 14 (lW T rfl (eX rfl (mW rfl (vV (bP rfl rfl (by omega) (by omega)) (vV (by exact yB9 rfl rfl (hcl _ _ _) rfl rfl rfl) ?_)))));refine aV ?_)|(refine rg 15 (vV (gH rfl rfl (by omega)) (aV ?_)))|(refine rg 16 (lW T rfl (eX rfl (mW rfl (vV (fN rfl rfl (by omega) (by omega)) (vV (by exact yB9 rfl rfl (hcl _ _ _) rfl rfl rfl) ?_)))));refine aV ?_)|refine nZ ?_)
      all_goals first | (exfalso;omega) | exact gV (.inl rfl) rfl (by simp [US,UR,UQ,Int.sub_eq_add_neg];rfl)
  · rw [show (decide (0 ≤ c) && decide (c < f.size)) = false by rw [← fE];simp;omega] at hi
    have e : dS f c d = -1 := by unfold dS;rw [if_pos (by omega)]
    rw [e];refine dD T Tryz.func94 rfl rfl rfl rfl ?_
    (repeat' (first|refine wS ?_|refine wR ?_|refine wT ?_|(refine rg 0 (bH (bN rfl rfl) rfl (aV ?_)))|(refine rg 1 (lW T rfl (mW rfl (vV (kC (hi)) (vV (bB rfl) ?_)))))|(refine rg 2 (aV ?_))|refine nZ ?_));all_goals first | (exfalso;omega) | exact rQ
theorem U4 (g : iL f) (c d : Int) : bQ Tryz.prog 51 [lU f,.i c,.i d] [] (PA (kK f c d)) [] := by
  have hbs := CS g c d;by_cases hn : dS f c d < 0
  · have e : kK f c d = none := by unfold kK;rw [if_neg (by omega)]
    rw [e];generalize dS f c d = n at *;refine dD T Tryz.func51 rfl rfl rfl rfl ?_
    (repeat' (first|refine wS ?_|refine wR ?_|(refine wC rfl ?_ ?_<;>(intro hb;(try simp only [nm] at hb);try (exfalso;omega)))|(refine rg 0 (bH (bN rfl rfl) rfl (iZ ?_)))|(refine rg 1 (lW T rfl (eX rfl (vV (kC (hbs)) (aV ?_)))))|(refine rg 2 (mW rfl (vV (bX rfl rfl) ?_)))|(refine rg 3 (iZ ?_))|refine nZ ?_));all_goals first | (exfalso;omega) | exact rQ
  · obtain ⟨h1,h2,h3,_⟩ := C5 g (c := c) (d := d) (by omega)
    have hk : f.size = f.k.length := by have := g.kl;unfold jD.size;omega
    have hol := g.ol;have key : kK f c d = if mC f c ≠ 0 ∧ mC f (dS f c d) ≠ 0 ∧ FQ f c d ≠ 0 ∧ (d = 4 ∨ d = 5 → mC f c = 6 ∧ mC f (dS f c d) = 6) then some (dS f c d) else none := by
      unfold kK CT;by_cases hp : mC f c ≠ 0 ∧ mC f (dS f c d) ≠ 0 ∧ FQ f c d ≠ 0 ∧ (d = 4 ∨ d = 5 → mC f c = 6 ∧ mC f (dS f c d) = 6)
      · rw [if_pos hp,if_pos ⟨by omega,hp⟩]
      · rw [if_neg hp,if_neg (fun q => hp q.2)]
    have q1 : (aI f.k)[c.toNat]? = some [AV.i (mC f c)] := qM h1.1 (by omega)
    have q2 : (aI f.k)[(dS f c d).toNat]? = some [AV.i (mC f (dS f c d))] := qM (by omega) (by omega)
    have q3 : (aI f.o)[c.toNat]? = some [AV.i (f.o.getD c.toNat 0)] := qM h1.1 (by omega)
    have hob : 0 ≤ f.o.getD c.toNat 0 ∧ f.o.getD c.toNat 0 ≤ 63 := by
      have := g.o c.toNat (by omega)
      rwa [aH,aB (by omega)]
    have hpw : 0 < (2 : Int) ^ d.toNat := Int.pow_pos (by omega)
    have hob2 : 0 ≤ f.o.getD c.toNat 0 / 2 ^ d.toNat ∧ f.o.getD c.toNat 0 / 2 ^ d.toNat ≤ 63 := ⟨vH hob.1 (by omega),CE (BM _ hob.1) hob.2⟩
    have hbit : FQ f c d = f.o.getD c.toNat 0 / 2 ^ d.toNat % 2 := rfl;have hwd := OJ h2;rw [key];clear key hpw;generalize dS f c d = n at *;generalize f.o.getD c.toNat 0 = O at *;generalize hP : (2 : Int) ^ d.toNat = P2 at *;generalize mC f c = kc at *;generalize mC f n = kn at *;generalize FQ f c d = B at *;subst hbit;have hdl : d.toNat ≤ IntKind.i64.bits := by have : IntKind.i64.bits = 64 := rfl;omega
    refine dD T Tryz.func51 rfl rfl rfl rfl ?_
    (repeat' (first|refine wS ?_|refine wK ?_|refine wR ?_|refine wT ?_|refine wU ?_|(refine wC rfl ?_ ?_<;>(intro hb;(try simp only [nm] at hb);try (exfalso;omega)))|(refine rg 0 (bH (bN rfl rfl) rfl (iZ ?_)))|(refine rg 1 (lW T rfl (eX rfl (vV (kC (hbs)) (aV ?_)))))|(refine rg 2 (mW rfl (vV (bX rfl rfl) ?_)))|(refine rg 4 (eK T rfl (mW rfl (vV (ix T rfl (by omega) (aE f.k) q1) (lW T rfl (vV (gD rfl rfl) (mV ?_))))));refine aO rfl rfl ?_ ?_<;>(intro hb;rw [hb];(try simp only [nm] at hb);try (exfalso;omega));(all_goals first|(refine gT (fW T rfl (gT (lW T rfl (gT (mW rfl (gT (vV (ix T rfl (by omega) (aE f.k) q2) (gT (lV T ?_)))))))));refine gT (vV (gD rfl rfl) ?_))|(iterate 6 refine gF ?_));(all_goals (refine pW rfl (mV ?_)));(all_goals first|(refine gK ?_)|(refine aO rfl rfl ?_ ?_<;>(intro hb;rw [hb];(try simp only [nm] at hb);try (exfalso;omega))));(all_goals first|(refine gT (fW T rfl (gT (lW T rfl (gT (mW rfl (gT (vV (ix T rfl (by omega) (aE f.o) q3) (gT (lV T ?_)))))))));refine gT (mW rfl (gT (vV (DM Tryz.underlying3 Tryz.underlying144 rfl hwd) (gT (vV (by exact hP ▸ V0 rfl rfl (by omega) hdl) ?_)))));refine gT (vV (NJ rfl rfl (by omega) (by omega)) (gT (vV (gD rfl rfl) ?_))))|(iterate 10 refine gF ?_));(all_goals (refine pV ?_)))|(refine rg 5 (iZ ?_))|(refine rg 6 (mW rfl (vV (gS rfl rfl) (mV ?_)));refine aO rfl rfl ?_ ?_<;>(intro hb;rw [hb];(try simp only [nm] at hb);try (exfalso;omega));(all_goals first|(refine gT (fW T rfl (gT (lW T rfl (gT (mW rfl (gT (vV (ix T rfl (by omega) (aE f.k) q1) (gT (lV T ?_)))))))));refine gT (vV (gW rfl rfl) (gT (mV ?_))))|(iterate 7 refine gF ?_));(all_goals first|(refine gK ?_)|(refine aO rfl rfl ?_ ?_<;>(intro hb;rw [hb];(try simp only [nm] at hb);try (exfalso;omega))));(all_goals first|(refine gT (fW T rfl (gT (lW T rfl (gT (mW rfl (gT (vV (ix T rfl (by omega) (aE f.k) q2) (gT (lV T ?_)))))))));refine gT (vV (gW rfl rfl) ?_))|((iterate 6 first|refine gF ?_|refine gU ?_)));(all_goals first|(refine gT (pV ?_))|(refine gF ?_));(all_goals (refine pV ?_)))|(refine rg 7 (iZ ?_))|(refine rg 8 (mW rfl (iZ ?_)))|refine nZ ?_));all_goals first
      | (exfalso;omega)
      | (rw [if_neg (by omega)];exact rQ)
      | (rw [if_pos (by omega)];exact rQ)
theorem XK (g : iL f) (c d : Int) : bQ Tryz.prog 50 [lU f,.i c,.i d] [] (PA (qQ f c d)) [] := by
  have ho := zE1 d;have hbs := CS g c (oJ d);have hnx := U4 g (dS f c (oJ d)) d;by_cases hn : dS f c (oJ d) < 0
  · have e : qQ f c d = none := by unfold qQ;rw [if_neg (by omega)]
    rw [e];generalize dS f c (oJ d) = n at *;refine dD T Tryz.func50 rfl rfl rfl rfl ?_
    (repeat' (first|refine wS ?_|refine wR ?_|(refine wC rfl ?_ ?_<;>(intro hb;(try simp only [nm] at hb);try (exfalso;omega)))|(refine rg 0 (bH (bN rfl rfl) rfl (iZ ?_)))|(refine aN (id := 1) 28 zV7 (rM 11 5) zV8 bM rfl (by decide +kernel) (dO T rfl (dN rfl (dN rfl (dV rfl (kC (ho)) (dV rfl (kC (hbs)) (dE ?_))))));refine aV ?_)|(refine rg 2 (mW rfl (vV (bX rfl rfl) ?_)))|(refine rg 3 (iZ ?_))|refine nZ ?_));all_goals first | (exfalso;omega) | exact rQ
  · have e : qQ f c d = if (kK f (dS f c (oJ d)) d).isSome = true then some (dS f c (oJ d)) else none := by
      unfold qQ;by_cases h : (kK f (dS f c (oJ d)) d).isSome = true
      · rw [if_pos h,if_pos ⟨by omega,h⟩]
      · rw [if_neg h,if_neg (fun q => h q.2)]
    rw [e];generalize dS f c (oJ d) = n at *;generalize kK f n d = x at *;cases x
    all_goals
      refine dD T Tryz.func50 rfl rfl rfl rfl ?_
      repeat' (first|refine wS ?_|refine wK ?_|refine wR ?_|refine wT ?_|refine wU ?_|(refine wC rfl ?_ ?_<;>(intro hb;(try simp only [nm] at hb);try (exfalso;omega)))|(refine rg 0 (bH (bN rfl rfl) rfl (iZ ?_)))|(refine aN (id := 1) 28 zV7 (rM 11 5) zV8 bM rfl (by decide +kernel) (dO T rfl (dN rfl (dN rfl (dV rfl (kC (ho)) (dV rfl (kC (hbs)) (dE ?_))))));refine aV ?_)|(refine rg 2 (mW rfl (vV (bX rfl rfl) ?_)))|(refine rg 4 (lW T rfl (eX rfl (vV (kC (hnx)) (mW rfl (xW rfl (xW rfl (iZ ?_))))))))|(refine rg 5 (mW rfl (vV (bB rfl) ?_)))|(refine rg 6 (iZ ?_))|(refine rg 7 (mW rfl (iZ ?_)))|refine nZ ?_)
    all_goals first | (exfalso;omega) | exact rQ
end
end Go.Proofs.YtdmajnjoeidgeaaGreat
namespace Go.Ln
structure Bq (g : wV) (av : Int → Prop) (q : List Int) (fr : Int → Int) : Prop where
  nd : q.Nodup
  head : q[0]? = some g.st
  par : ∀ (k : Nat) (y : Int),q[k]? = some y → 0 < k → ∃ (j : Nat) (x : Int),j < k ∧ q[j]? = some x ∧ fr y = x ∧ y ∈ g.sp x ∧ ¬ av y ∧ g.ex x = false
def B0 (g : wV) (av : Int → Prop) (q : List Int) (i : Nat) : Prop := ∀ (k : Nat) (x : Int),k < i → q[k]? = some x → g.ex x = false ∧ ∀ y,y ∈ g.sp x → ¬ av y → y ∈ q
structure Bl (g : wV) (av : Int → Prop) (q : List Int) (x : Int) (l : List Int) (k : Nat) : Prop where
  at' : q[k]? = some x
  way : Way g x l
  nd : l.Nodup
  later : ∀ z,z ∈ l → ∃ m : Nat,k < m ∧ q[m]? = some z
  av : ∀ z,z ∈ l → ¬ av z
theorem HU {q : List Int} (h : q.Nodup) {i j : Nat} {x : Int} (hi : q[i]? = some x) (hj : q[j]? = some x) : i = j :=
  (nA (aA.1 hi).1 h).1 (hi.trans hj.symm)
theorem Bq.start {g : wV} {av : Int → Prop} {fr : Int → Int} : Bq g av [g.st] fr :=
  ⟨by simp,rfl,fun k y h hk => by rw [dX (by simp;omega)] at h;cases h⟩
theorem Bq.add {g : wV} {av : Int → Prop} {q : List Int} {fr fr' : Int → Int} (h : Bq g av q fr) {i : Nat} {x y : Int} (hi : q[i]? = some x) (hy : y ∈ g.sp x) (hav : ¬ av y) (hx : g.ex x = false) (hn : y ∉ q) (hf : fr' y = x) (hf2 : ∀ z,z ≠ y → fr' z = fr z) : Bq g av (q ++ [y]) fr' := by
  have hil := (aA.1 hi).1;refine ⟨?_,?_,fun k z hk h0 => ?_⟩
  · rw [fI];exact ⟨h.nd,by simp,fun a ha b hb e => hn (by simp at hb;rw [← hb,← e];exact ha)⟩
  · rw [aG (by omega)];exact h.head
  · by_cases hkl : k < q.length
    · rw [aG hkl] at hk;obtain ⟨j,w,h1,h2,h3,h4,h5,h6⟩ := h.par k z hk h0;refine ⟨j,w,h1,by rw [aG (by omega)];exact h2,?_,h4,h5,h6⟩
      rw [hf2 z (fun e => hn (by rw [← e];exact bD hk))];exact h3
    · rw [aK (by omega)] at hk
      have : k = q.length := by
        by_cases e : k - q.length = 0
        · omega
        · rw [dX (by simp;omega)] at hk;cases hk
      subst this;simp at hk;subst hk;exact ⟨i,x,hil,by rw [aG hil];exact hi,hf,hy,hav,hx⟩
theorem B0.add {g : wV} {av : Int → Prop} {q : List Int} {i : Nat} (h : B0 g av q i) (hi : i ≤ q.length) (y : Int) : B0 g av (q ++ [y]) i := fun k x hk hx => by
  rw [aG (by omega)] at hx
  obtain ⟨a,b⟩ := h k x hk hx;exact ⟨a,fun z hz hz2 => iT _ (b z hz hz2)⟩
theorem B0.next {g : wV} {av : Int → Prop} {q : List Int} {i : Nat} (h : B0 g av q i) {x : Int} (hi : q[i]? = some x) (hx : g.ex x = false) (hs : ∀ y,y ∈ g.sp x → ¬ av y → y ∈ q) : B0 g av q (i + 1) := fun k z hk hz => by
  by_cases e : k = i
  · subst e;rw [hi] at hz;cases hz;exact ⟨hx,hs⟩
  · exact h k z (by omega) hz
theorem B0.no {g : wV} {av : Int → Prop} {q : List Int} (h : B0 g av q q.length) : ∀ (r : List Int) (c : Int), c ∈ q → Way g c r → (∀ y, y ∈ r → ¬ av y) → False
  | [],c,hc,hw,_ => by
    obtain ⟨k,hk⟩ := cU.1 hc;have := (h k c (aA.1 hk).1 hk).1;have hw : g.ex c = true := hw;rw [hw] at this;cases this
  | x :: r,c,hc,hw,ha => by
    obtain ⟨k,hk⟩ := cU.1 hc;obtain ⟨_,h2,h3⟩ := hw;exact B0.no h r x ((h k c (aA.1 hk).1 hk).2 x h2 (ha x (by simp))) h3 fun y hy => ha y (.tail _ hy)
theorem Bl.start {g : wV} {av : Int → Prop} {q : List Int} {x : Int} {k : Nat} (hk : q[k]? = some x) (hx : g.ex x = true) : Bl g av q x [] k :=
  ⟨hk,hx,by simp,(fun z h => by cases h),fun z h => by cases h⟩
theorem Bl.more {g : wV} {av : Int → Prop} {q : List Int} {fr : Int → Int} (h : Bq g av q fr) {x : Int} {l : List Int} {k : Nat} (hl : Bl g av q x l k) (hx : x ≠ g.st) : ∃ j,j < k ∧ Bl g av q (fr x) (x :: l) j := by
  have hk0 : 0 < k := by
    rcases Nat.eq_zero_or_pos k with e | e
    · subst e;have := hl.at';rw [h.head] at this;cases this;exact absurd rfl hx
    · exact e
  obtain ⟨j,w,h1,h2,h3,h4,h5,h6⟩ := h.par k x hl.at' hk0;rw [h3];refine ⟨j,h1,h2,⟨h6,h4,hl.way⟩,cP.2 ⟨fun hm => ?_,hl.nd⟩,fun z hz => ?_,fun z hz => ?_⟩
  · obtain ⟨m,a,b⟩ := hl.later x hm;have := HU h.nd hl.at' b;omega
  · rcases bL.1 hz with rfl | hz
    · exact ⟨k,h1,hl.at'⟩
    · obtain ⟨m,a,b⟩ := hl.later z hz;exact ⟨m,by omega,b⟩
  · rcases bL.1 hz with rfl | hz
    · exact h5
    · exact hl.av z hz
theorem Bl.done {g : wV} {av : Int → Prop} {q : List Int} {fr : Int → Int} (h : Bq g av q fr) {l : List Int} {k : Nat} (hl : Bl g av q g.st l k) : oU g (g.st :: l) ∧ ∀ z,z ∈ l → ¬ av z := by
  refine ⟨⟨cP.2 ⟨fun hm => ?_,hl.nd⟩,l,rfl,hl.way⟩,hl.av⟩
  obtain ⟨m,a,b⟩ := hl.later _ hm;have := HU h.nd hl.at' b;omega
theorem Bl.len {g : wV} {av : Int → Prop} {q : List Int} {x : Int} {l : List Int} {k : Nat} (hl : Bl g av q x l k) : l.length ≤ q.length :=
  kA hl.nd fun z hz => by obtain ⟨m,_,h⟩ := hl.later z hz;exact bD h
end Go.Ln
