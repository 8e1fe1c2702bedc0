/-
  Texts of the logic and of the layer,in one module (part 10).
-/
import Derived.Test.YtdmajnjoeidgeaaGreatI9
set_option linter.unusedVariables false
set_option linter.unusedSimpArgs false
namespace Go.Proofs.YtdmajnjoeidgeaaGreat
open Go Go.Ab Go.Fl Go.Re Go.Ln Go.MapKept
attribute [local irreducible] VC AW bR bQ fT nK
set_option maxHeartbeats 4000000
set_option maxRecDepth 20000
theorem zH5 (b : Int) (L : List fR) : fT Tryz.prog 13 [.agg (jR L b)] [] (zF4 (L.length ≤ 20 ∧ ∀ x,x ∈ L → x.2.1.length ≤ 40 ∧ x.2.2.length ≤ 40)) := by
  have hll : (fG L).length = L.length := by simp
  refine mM T Tryz.func13 rfl rfl rfl rfl ?_
  (repeat' (first|refine wS ?_|refine wB ?_|(refine rg 0 (bH (bN rfl rfl) rfl (aV ?_)))|(refine rg 1 (aV ?_))|refine nZ ?_));refine bV (X := {k : Nat // k ≤ 21 ∧ k ≤ L.length ∧ ∀ x,x ∈ L.take k → x.2.1.length ≤ 40 ∧ x.2.2.length ≤ 40}) (fun k => [(1,.ptr 0 0),(3,.i k.1)]) (fun _ => [.cells (jR L b)]) (fun k => 21 - k.1) ⟨0,by omega,cH _,fun x hx => by cases hx⟩ (eI [0]) ?_
  rintro ⟨k,hk1,hk2,hz⟩;dsimp only;by_cases hlt : k < L.length ∧ k < 21
  · obtain ⟨hlt,h21⟩ := hlt;have qx : (fG L)[(k : Int).toNat]? = some (jH L[k]) := qJ (by rw [aX,aB hlt])
    have hnx : (L[k].2.1.length ≤ 40 ∧ L[k].2.2.length ≤ 40) → ∀ x,x ∈ L.take (k + 1) → x.2.1.length ≤ 40 ∧ x.2.2.length ≤ 40 := fun h x hx => by
      rw [aJ hlt,bI,bY] at hx;rcases hx with hx | hx
      · exact hz x hx
      · rw [hx];exact h
    generalize L[k] = x at *;obtain ⟨xc,xa,xb⟩ := x;dsimp only at hnx;have hal : (aI xa).length = xa.length := aR _;have hbl : (aI xb).length = xb.length := aR _
    (repeat' (first|refine wS ?_|refine wB ?_|refine wK ?_|refine wR ?_|refine wT ?_|(refine wC rfl ?_ ?_<;>(intro hb;(try simp only [nm] at hb);try (exfalso;omega)))|(refine rg 2 (mW rfl (eK T rfl (qW T rfl (vV (bX rfl rfl) (mV ?_)))));refine aO rfl rfl ?_ ?_<;>(intro hb;rw [hb];(try simp only [nm] at hb);try (exfalso;omega));(all_goals (refine yN rfl (yV (bX rfl rfl) (pV ?_)))))|(refine rg 4 (eK T rfl (mW rfl (vV (ix T rfl (by omega) (iH _) qx) (eK T rfl (qW T rfl (vV (eS rfl rfl) (mV ?_)))))));refine aO rfl rfl ?_ ?_<;>(intro hb;rw [hb];(try simp only [nm] at hb);try (exfalso;omega));(all_goals first|(refine gT (fW T rfl (gT (lW T rfl (gT (mW rfl (gT (vV (ix T rfl (by omega) (iH _) qx) (gT (fV T ?_)))))))));refine gT (lW T rfl (gT (qW T rfl (gT (vV (eS rfl rfl) ?_))))))|(iterate 8 refine gF ?_));(all_goals (refine pV ?_)))|(refine rg 5 (aV ?_))|(refine iA 3 rfl rfl rfl (by omega) (by omega) ?_)|refine nZ ?_));all_goals first | (exfalso;omega) | exact ⟨.b false,[],⟨rfl,false,rfl,fun h => Bool.noConfusion h⟩,rQ⟩ | exact ⟨⟨k + 1,by omega,by omega,hnx ⟨by omega,by omega⟩⟩,by dsimp only;omega,eI [0]⟩
  · (repeat' (first|refine wS ?_|refine wR ?_|refine wE ?_|refine iB rfl ?_|(refine wC rfl (fun hb => ?_) (fun hb => ?_) <;> (((try simp only [nm] at hb);try (exfalso;omega))))|(refine rg 2 (mW rfl (eK T rfl (qW T rfl (vV (bX rfl rfl) (mV ?_)))));refine aO rfl rfl (fun hb => ?_) (fun hb => ?_) <;> ((rw [hb];(try simp only [nm] at hb);try ((exfalso;omega);done)));(all_goals first|(refine gT (mW rfl (gT (vV (bX rfl rfl) ?_))))|(iterate 2 refine gF ?_));(all_goals (refine pV ?_)))|(refine rg 6 (eK T rfl (qW T rfl (vV (lF rfl rfl) (aV ?_)))))|(refine nZ ?_)));all_goals first | (exfalso;omega) | skip
    all_goals exact ⟨_,_,⟨rfl,_,rfl,fun h => by
      have h20 : ((fG L).length : Int) ≤ 20 := of_decide_eq_true h;refine ⟨by omega,fun x hx => hz x ?_⟩
      rw [bC (by omega)];exact hx⟩,rQ⟩
theorem KF {s : lN} {L : List fR} {c : Int} {post : List Int} (h1 : L.map (·.1) ++ c :: post = kL s.fl 4) (h2 : ∀ x,x ∈ L → vB s x) (h3 : yS s c) :
    ∃ a : Nat,c = a ∧ a < s.fl.k.length ∧ s.fl.k.getD a 0 = 4 ∧ ¬ T7 s a ∧ ∀ b : Nat,b < a → s.fl.k.getD b 0 = 4 → T7 s b := by
  have hc : c ∈ kL s.fl 4 := by rw [← h1];simp
  obtain ⟨c0,c1,c4⟩ := vR.1 hc;obtain ⟨a,rfl⟩ := pX c0;refine ⟨a,rfl,by omega,by simpa using c4,h3.no,fun b hb hb4 => ?_⟩
  have hbm : (b : Int) ∈ kL s.fl 4 := vR.2 ⟨by omega,by omega,by simpa using hb4⟩
  have hasc : vK (kL s.fl 4) := tT _ _ _;rw [← h1] at hbm hasc;rcases bI.1 hbm with h | h
  · obtain ⟨x,hx,hxb⟩ := aQ.1 h;have := (h2 x hx).two;rw [hxb] at this;exact this
  · obtain ⟨_,hp,_⟩ := JD.1 hasc;rcases bL.1 h with e | h
    · omega
    · have := (kU.1 hp).1 _ h;omega
theorem BX (s : lN) (st : E4) (b : Int) (L : List fR) (c : Int) (hcr : uN c) (w : List Int) : bQ Tryz.prog 4 [.agg (fS s),.agg (oW st),.agg (jR L b),.i c,.rowE (aI w) 1] [] (.b true) [] := by
  have cF := zG9 s;have cL := zH5 b L;have cG := YU st;have hwl : (aI w).length = w.length := aR _;refine fT.toA (Φ := fun r o => r = .b true ∧ o = []) ?_ (fun _ _ h => h);refine mM T Tryz.func4 rfl rfl rfl rfl ?_;by_cases hw : w.length ≤ 100
  case neg =>
    (repeat' (first|refine wS ?_|refine wR ?_|refine wT ?_|(refine rg 0 (bH (bN rfl rfl) rfl (bH (bN rfl rfl) rfl (bH (bN rfl rfl) rfl (aV ?_)))))|(refine rg 1 (vV (kC (GP)) (aV ?_)))|(refine rg 2 (lW T rfl (gI rfl rfl (cF) (.cons (lP _ rfl) .nil) (by rintro _ ⟨_,rfl,_⟩;rfl) rfl ?_));rintro _ ⟨b1,rfl,hF⟩;dsimp only [gJ];cases b1;(all_goals (refine vV (bB rfl) (mV ?_)));(all_goals first|(refine gT (lW T rfl (gT (gI rfl rfl (cL) (.cons (lP _ rfl) .nil) (by rintro _ ⟨_,rfl,_⟩;rfl) rfl ?_)));rintro _ ⟨b2,rfl,hL⟩;dsimp only [gJ];cases b2)|(iterate 2 refine gF ?_));(all_goals first|(refine gT (vV (bB rfl) ?_))|(refine gF ?_));(all_goals (refine pW rfl (mV ?_)));(all_goals first|(refine gT (mW rfl (gT (qW T rfl (gT (vV (oC rfl rfl (by omega)) ?_))))))|(iterate 3 refine gF ?_));(all_goals (refine pV ?_)))|(refine rg 3 (mW rfl (aV ?_)))|refine nZ ?_));all_goals exact ⟨_,_,⟨rfl,rfl⟩,rQ⟩
  (repeat' (first|refine wS ?_|refine wK ?_|refine wR ?_|refine wT ?_|refine wU ?_|(refine rg 0 (bH (bN rfl rfl) rfl (bH (bN rfl rfl) rfl (bH (bN rfl rfl) rfl (aV ?_)))))|(refine rg 1 (vV (kC (GP)) (aV ?_)))|(refine rg 2 (lW T rfl (gI rfl rfl (cF) (.cons (lP _ rfl) .nil) (by rintro _ ⟨_,rfl,_⟩;rfl) rfl ?_));rintro _ ⟨b1,rfl,hF⟩;dsimp only [gJ];cases b1;(all_goals (refine vV (bB rfl) (mV ?_)));(all_goals first|(refine gT (lW T rfl (gT (gI rfl rfl (cL) (.cons (lP _ rfl) .nil) (by rintro _ ⟨_,rfl,_⟩;rfl) rfl ?_)));rintro _ ⟨b2,rfl,hL⟩;dsimp only [gJ];cases b2)|(iterate 2 refine gF ?_));(all_goals first|(refine gT (vV (bB rfl) ?_))|(refine gF ?_));(all_goals (refine pW rfl (mV ?_)));(all_goals first|(refine gT (mW rfl (gT (qW T rfl (gT (vV (rL rfl rfl (by omega)) ?_))))))|(iterate 3 refine gF ?_));(all_goals (refine pV ?_)))|(refine rg 3 (mW rfl (aV ?_)))|refine nZ ?_));all_goals first | exact ⟨_,_,⟨rfl,rfl⟩,rQ⟩ | skip
  have g := (hF rfl).fine;have hN := (hF rfl).few.kl;have hFf := (hF rfl).few;obtain ⟨hLl,hLx⟩ := hL rfl;clear cF cL hF hL;have cM := TJ s g;have cB := HF s g;have hLl2 : L.length ≤ 1000 := by omega
  have hLx2 : ∀ x,x ∈ L → x.2.1.length ≤ 1000 ∧ x.2.2.length ≤ 1000 := fun x hx => by have := hLx x hx;omega
  have hLx3 : ∀ x,x ∈ L → x.2.1.length ≤ 1000000 ∧ x.2.2.length ≤ 1000000 := fun x hx => by have := hLx x hx;omega
  apply zH3
  · intro rest
    repeat' (first|refine wS ?_|(refine rg 4 (lW T rfl (mG [] rfl rfl cM rfl rfl (by decide) trivial (by simp) rfl ?_));rintro _ _ ⟨rfl,(⟨L',h1,h2⟩|⟨L',c',post,h1,h2,h3⟩)⟩;(all_goals (refine mW rfl (xW rfl (xW rfl (xW rfl (bH (cX T rfl) rfl (bJ T rfl rfl rfl rfl rfl rfl (by decide) rfl (iZ ?_)))))))))|refine nZ ?_)
    · have cLe := MT s g (-1) (.inl ⟨rfl,fun d hd h4 => by
        have hm : (d : Int) ∈ kL s.fl 4 := vR.2 ⟨by omega,by omega,by simpa using h4⟩
        rw [← h1] at hm;obtain ⟨x,hx,hxd⟩ := aQ.1 hm;have := (h2 x hx).two
        rw [hxd] at this;exact this⟩)
      (repeat' (first|refine wS ?_|refine wK ?_|refine wU ?_|(refine rg 5 (lW T rfl (vV (kC (cLe)) (aV ?_))))|(refine aN (id := 6) 170 yA3 (rM 49 40) yA4 bM rfl (by decide +kernel) (dN rfl (dN rfl (dV rfl (gE rfl rfl rfl) (dN rfl (tN rfl (dT rfl (gH rfl rfl rfl) (tN rfl (dT rfl (aL rfl rfl (by decide)) (dT rfl (AD wP rfl rfl) ?_)))))))));refine dV rfl (cY rfl rfl) (dN rfl (tN rfl (dT rfl (gE rfl rfl rfl) (tN rfl (tG rfl (tG rfl (tG rfl (tH rfl (dH ?_)))))))));refine tH rfl (tH rfl (tG rfl (tG rfl (tH rfl (tH rfl (tH rfl (tG rfl (dT rfl (cY rfl rfl) (dV rfl (cY rfl rfl) ?_)))))))));refine dN rfl (tN rfl (dT rfl (gH rfl rfl rfl) (tN rfl (tP T rfl (tO T rfl (tO T rfl (dT rfl (kC (cB)) (dT rfl (gE rfl rfl rfl) (dT rfl (eP rfl rfl) ?_)))))))));refine dV rfl (cY rfl rfl) (dE ?_))|refine nZ ?_));all_goals exact kT [(3,.i c),(4,.rowE (aI w) 1),(5,.ptr 0 0),(6,.ptr 1 0),(7,.ptr 2 0),(11,.b true)] [.cells (fS s),.cells (oW st),.cells (jR L b)] ⟨[0,1,2],rfl,(by repeat first|exact trivial|refine ⟨rfl,?_⟩),⟨.inr rfl,.inr rfl,.inr rfl,trivial⟩,by decide,gL⟩ rest.get
    · obtain ⟨a,rfl,ha1,ha2,ha3,ha4⟩ := KF h1 h2 h3;have cLe := MT s g (a : Int) (.inr ⟨a,rfl,ha1,ha2,ha3,ha4⟩)
      (repeat' (first|refine wS ?_|refine wK ?_|refine wU ?_|(refine rg 5 (lW T rfl (vV (kC (cLe)) (aV ?_))))|(refine aN (id := 6) 170 yA3 (rM 49 40) yA4 bM rfl (by decide +kernel) (dN rfl (dN rfl (dV rfl (gE rfl rfl rfl) (dN rfl (tN rfl (dT rfl (eN rfl rfl (by decide)) (tN rfl (dT rfl (bG rfl rfl (by omega)) (dT rfl (AD wP rfl rfl) ?_)))))))));refine dV rfl (cY rfl rfl) (dN rfl (tN rfl (dT rfl (lC rfl rfl (by decide)) (tN rfl (tN rfl (dT rfl (gE rfl rfl rfl) (tN rfl (tP T rfl (tL T ?_)))))))));refine dT rfl (eF T rfl rfl) (dT rfl (gE rfl rfl rfl) (dT rfl (cY rfl rfl) (tN rfl (tP T rfl (tO T rfl (dT rfl (gE rfl rfl rfl) (dT rfl (cY rfl rfl) (dT rfl (eP rfl rfl) (dV rfl (cY rfl rfl) ?_)))))))));refine dN rfl (tN rfl (dT rfl (eN rfl rfl (by decide)) (tN rfl (tG rfl (tG rfl (tG rfl (tG rfl (tG rfl (dT rfl (cY rfl rfl) ?_)))))))));refine dV rfl (cY rfl rfl) (dE ?_))|refine nZ ?_));all_goals exact kT [(3,.i c),(4,.rowE (aI w) 1),(5,.ptr 0 0),(6,.ptr 1 0),(7,.ptr 2 0),(11,.b true)] [.cells (fS s),.cells (oW st),.cells (jR L b)] ⟨[0,1,2],rfl,(by repeat first|exact trivial|refine ⟨rfl,?_⟩),⟨.inr rfl,.inr rfl,.inr rfl,trivial⟩,by decide,gL⟩ rest.get
  obtain ⟨r,hr⟩ := IN s L b;have c1 := ZK s g L b hLl2 hLx2 r hr;have c2 := SI s g L b hLl2 hLx2 r hr;have c3 := CQ L b c w (by omega) hLx3
  have c4 := JU L b c w (by omega) hLx3
  have c5 := zA8 s g c hcr;have c6 := JV s g c;have hol : (lT s.fl c).length ≤ 400 := by
    unfold lT;split
    · rename_i h;obtain ⟨h1,h2,_⟩ := jG.1 h.1;rw [rE];have := zZ g c.toNat (by omega);have := g.le;omega
    · simp
  have c7 := E6 (lT s.fl c) (lT s.fl c) (by omega)
  rw [decide_eq_true rfl] at c7;obtain ⟨r1,r2⟩ := r;generalize BT L b c w = rq at *;obtain ⟨q1,q2,q3⟩ := rq;generalize lT s.fl c = O at *
  (repeat' (first|refine wS ?_|refine wK ?_|refine wU ?_|(refine rg 8 (lW T rfl (lW T rfl (vV (kC (c1)) (mW rfl (xW rfl (xW rfl (iZ ?_))))))))|(refine rg 9 (lW T rfl (lW T rfl (vV (kC (c2)) (mW rfl (xW rfl (xW rfl (iZ ?_))))))))|(refine rg 10 (lW T rfl (eX rfl (vV (kC (c3)) (mW rfl (xW rfl (xW rfl (xW rfl (D2 rfl (aV ?_))))))))))|(refine rg 11 (lW T rfl (eX rfl (vV (kC (c4)) (mW rfl (xW rfl (xW rfl (xW rfl (D2 rfl (aV ?_))))))))))|(refine aN (id := 12) 170 [[],[],[0,1],[0,1,2],rN 4,rN 4,rN 6,rN 7,rN 8,rN 9,rN 9,rN 11,rN 12,rN 13,rN 14,rN 14,rN 16,rN 17,rN 18,rN 19,rN 19,rN 21,rN 22,rN 23,rN 24,rN 24,rN 26,rN 24,rN 24,rN 29,rN 30,rN 31,rN 32] (rM 117 33) [[],[117],[],[],[],[121],[],[],[],[],[126],[],[],[],[],[131],[],[],[],[],[136],[],[],[],[],[141],[],[141,142,143],rM 141 4,[],[],[],[]] bM rfl (by decide +kernel) (dN rfl (dN rfl (dV rfl (gE rfl rfl rfl) (dN rfl (tN rfl (tN rfl (dT rfl (gE rfl rfl rfl) (dV rfl (cY rfl rfl) (dM ?_)))))))));refine tN rfl (tN rfl (dT rfl (gE rfl rfl rfl) (dV rfl (cY rfl rfl) (dN rfl (tN rfl (tN rfl (dT rfl (gE rfl rfl rfl) (dV rfl (cY rfl rfl) (dM ?_)))))))));refine tN rfl (tN rfl (dT rfl (gE rfl rfl rfl) (dV rfl (cY rfl rfl) (dN rfl (tO T rfl (tN rfl (dT rfl (kC (c5)) (tO T rfl (tM ?_)))))))));refine dT rfl (kC (c6)) (dT rfl (kC (c7)) (dT rfl (bB rfl) (dV rfl (cY rfl rfl) (dE ?_)))))|refine nZ ?_));refine kT [(5,.ptr 0 0),(6,.ptr 1 0),(11,.b true)] [.cells (fS s),.cells (oW st)] ⟨[0,1],rfl,(by repeat first|exact trivial|refine ⟨rfl,?_⟩),⟨.inr rfl,.inr rfl,trivial⟩,by decide,gL⟩ ?_
  clear c1 c2 c3 c4 c5 c6 c7
  (repeat' (first|refine wS ?_|refine wK ?_|refine wR ?_|refine wT ?_|refine wU ?_|(refine rg 14 (lW T rfl (gI rfl rfl (cG) (.cons (lP _ rfl) .nil) (by rintro _ ⟨_,rfl,_⟩;rfl) rfl ?_));rintro _ ⟨b2,rfl,hG⟩;dsimp only [gJ];cases b2;(all_goals (refine vV (bB rfl) (mV ?_)));(all_goals first|(refine gT (lW T rfl (gT (lW T rfl (gT (gI rfl rfl (XC s st (by have := hFf.kl;omega) (by have := (hG rfl).sl;omega) (by have := (hG rfl).rl;omega) (by have := (hG rfl).pl;omega) (by have := (hG rfl).dl;omega) (by have := (hG rfl).kl;omega) (by have := hFf.sl;omega) (by have := hFf.rl;omega)) (.cons (lP _ rfl) (.cons (lP _ rfl) .nil)) (by rintro _ ⟨_,rfl,_⟩;rfl) rfl ?_)))));rintro _ ⟨b3,rfl,hR⟩;dsimp only [gJ];cases b3)|(iterate 3 refine gF ?_));(all_goals first|(refine gT (vV (bB rfl) ?_))|(refine gF ?_));(all_goals (refine pV ?_)))|(refine rg 15 (mW rfl (aV ?_)))|refine nZ ?_));all_goals first | exact ⟨_,_,⟨rfl,rfl⟩,rQ⟩ | skip
  have hrl := (hG rfl).rl;have hdl := (hG rfl).dl;have c1 := WN s g st (by omega) (by omega)
  have c2 := RZ s g st (by omega) (by omega)
  have hwp : (pZ s.fl st.rb st.dd).length ≤ 1000 := by
    unfold pZ;rw [I6];have : ∀ (l : List BQ) (p : List Int × List Int),(l.foldl (N6 s.fl) p).1.length = p.1.length := by
      intro l
      induction l with
      | nil => exact fun _ => rfl
      | cons a l ih => intro p;rw [kQ,ih,SC]
    unfold nN;rw [this,zI];omega
  have c3 := E6 (pZ s.fl st.rb st.dd) (pZ s.fl st.rb st.dd) (by omega)
  rw [decide_eq_true rfl] at c3;generalize pZ s.fl st.rb st.dd = W at *
  (repeat' (first|refine wR ?_|(refine aN (id := 16) 170 [[],[0],[0,1],[0,1],rN 4,[0,1],[0,1],rN 7,rN 8,rN 9] (rM 160 10) [[],[],[],[162],[],[162,163,164],rM 162 4,[],[],[]] bM rfl (by decide +kernel) (dN rfl (dN rfl (tO T rfl (tO T rfl (dT rfl (kC (c1)) (tO T rfl (tO T rfl (dT rfl (kC (c2)) (dT rfl (kC (c3)) ?_)))))))));refine dV rfl (eP rfl rfl) (dE ?_);refine aV ?_)|refine nZ ?_));all_goals exact ⟨_,_,⟨rfl,rfl⟩,rQ⟩
end Go.Proofs.YtdmajnjoeidgeaaGreat
namespace Go.Proofs.YtdmajnjoeidgeaaGreat
open Go Go.Ab Go.Fl Go.Ln
abbrev wG (l : List Int) : Prop := l.length ≤ maxLen ∧ ∀ a,a ∈ l → PC a
theorem zF0 : fH Tryz.prog 51 (fun x : fR => PC x.1 ∧ wG x.2.1 ∧ wG x.2.2) jH :=
  fH.struct (fs := [(3, 0), (22, 1), (22, 2)]) (by kernel_rfl) (by kernel_rfl)
    (fun e W fuel css hl hx => by
      obtain ⟨a,h1,h2,h3⟩ := eW.cons pC (eW.cons xS (eW.cons xS eW.nil)) e W fuel css hl hx
      exact ⟨(a.1,a.2.1,a.2.2.1),⟨h1.1,h1.2.1,h1.2.2.1⟩,by simpa using h2,by simpa using h3⟩)
    (fun _ => by kernel_rfl)
theorem XT : fH Tryz.prog 39 (fun l : List fR => l.length ≤ maxLen ∧ ∀ a,a ∈ l → PC a.1 ∧ wG a.2.1 ∧ wG a.2.2) (fun l => [.rowE (fG l) 3]) :=
  fH.slice Tryz.underlying39 (by kernel_rfl) (by kernel_rfl) (by decide) zF0
theorem zF1 : fH Tryz.prog 41 (fun p : List fR × Int => (∀ a,a ∈ p.1 → PC a.1 ∧ wG a.2.1 ∧ wG a.2.2) ∧ PC p.2) (fun p => jR p.1 p.2) :=
  fH.struct (fs := [(39, 0), (3, 1)]) (by kernel_rfl) (by kernel_rfl)
    (fun e W fuel css hl hx => by
      obtain ⟨a,h1,h2,h3⟩ := eW.cons XT (eW.cons pC eW.nil) e W fuel css hl hx
      exact ⟨(a.1,a.2.1),⟨h1.1.2,h1.2.1⟩,by simpa using h2,by simpa using h3⟩)
    (fun _ => by kernel_rfl)
theorem zE2 {n : Int} (h : PC n) : uN n := by
  have e1 : IntKind.i64.min = -9223372036854775808 := rfl;have e2 : IntKind.i64.max = 9223372036854775807 := rfl;simp only [PC,Lit.wf,aT,decide_eq_true_eq,e1,e2] at h;exact h
theorem BY (s : lN) (_ : True) (st : E4) (_ : True) (p : List fR × Int) (_ : (∀ a,a ∈ p.1 → PC a.1 ∧ wG a.2.1 ∧ wG a.2.2) ∧ PC p.2) (c : Int) (hc : PC c) (l : List Int) (_ : l.length ≤ maxLen ∧ ∀ a,a ∈ l → PC a) :
    bQ Tryz.prog 4 [.agg (fS s),.agg (oW st),.agg (jR p.1 p.2),.i c,.rowE (aI l) 1] [] (.b true) [] :=
  BX s st p.2 p.1 c (zE2 hc) l
end Go.Proofs.YtdmajnjoeidgeaaGreat
