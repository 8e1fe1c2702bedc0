/-
  Texts of the logic and of the layer,in one module (part 9).
-/
import Derived.Test.YtdmajnjoeidgeaaGreatI8
set_option linter.unusedVariables false
set_option linter.unusedSimpArgs false
namespace Go.Proofs.YtdmajnjoeidgeaaGreat
open Go Go.Ab Go.Fl Go.Re Go.Ln Go.MapKept
attribute [local irreducible] VC AW bR bQ fT nK
set_option maxHeartbeats 4000000
theorem SU {l : List Int} {i : Nat} (hi : i < l.length) (h : ∀ y,y ∈ wM l → y ∈ l.eraseIdx i) : (wM l).length ≠ l.length := fun e => by
  have h1 := kA (l := wM l) (m := l.eraseIdx i) ((B7 l).imp (fun h => by omega)) h
  rw [List.length_eraseIdx_of_lt hi] at h1;omega
theorem SV {l : List Int} (h : (wM l).length = l.length) : (∀ x,x ∈ l → 0 ≤ x ∧ x < 4096) ∧ ∀ k i,k < i → i < l.length → l.getD k 0 ≠ l.getD i 0 := by
  refine ⟨fun x hx => Classical.byContradiction fun hr => ?_,fun k i hk hi he => ?_⟩
  · obtain ⟨i,hi,rfl⟩ := eE.1 hx;refine SU hi (fun y hy => ?_) h;obtain ⟨h1,h2⟩ := F2.1 hy;obtain ⟨j,hj⟩ := cU.1 h1;refine pT.2 ⟨j,fun e => ?_,hj⟩
    subst e;rw [aB hi] at hj;cases hj;exact hr h2
  · refine SU hi (fun y hy => ?_) h;obtain ⟨h1,_⟩ := F2.1 hy;obtain ⟨j,hj⟩ := cU.1 h1;by_cases e : j = i
    · subst e;refine pT.2 ⟨k,by omega,?_⟩
      rw [← hj,aB (by omega),aB hi]
      rw [aH,aH,aB (by omega),aB hi] at he
      exact congrArg some he
    · exact pT.2 ⟨j,e,hj⟩
theorem SW {l : List Int} (hr : ∀ x,x ∈ l → 0 ≤ x ∧ x < 4096) (hd : ∀ k i,k < i → i < l.length → l.getD k 0 ≠ l.getD i 0) : (wM l).length = l.length := by
  refine XW (iV.2 fun i j hi hj hij => ?_) hr;have := hd i j hij hj;rw [aH,aH,aB hi,aB hj] at this;exact this
theorem J6 {l : List Int} {i : Nat} (h : i < l.length) : l.getD i 0 ∈ l := by
  rw [aH,aB h];exact dB h
theorem wH.rg {s : lN} {c : Int} {l : List Int} (h : wH s c l) : ∀ x,x ∈ l → 0 ≤ x ∧ x < s.fl.k.length := fun x hx => by
  obtain ⟨i,hi,rfl⟩ := eE.1 hx;have := (h.at' i hi).w;rw [jP hi] at this;obtain ⟨h1,h2,_⟩ := jG.1 this;exact ⟨h1,h2⟩
theorem wH.of {s : lN} (g : iL s.fl) {c : Int} {l : List Int} (h : wH s c l) : (wM l).length = l.length :=
  SW (fun x hx => by have := h.rg x hx;have := g.le;omega) fun k i hk hi => (h.at' i hi).d k hk
theorem J3 (s : lN) (g : iL s.fl) (c : Int) (l : List Int) (hll : l.length ≤ 1000) (v : Bool) (hv : v = true ↔ wH s c l) : bQ Tryz.prog 43 [.agg (fS s),.rowE (aI (bO s.fl)) 1,.i c,.rowE (aI l) 1] [] (.b v) [] := by
  have hN := g.le;have hWa := sO s.fl;have hWl := wZ s.fl;have cO := zF7 l (by omega)
  have hil : (aI l).length = l.length := aR _;have hofl : (aI (wM l)).length = (wM l).length := aR _;refine dD T Tryz.func43 rfl rfl rfl rfl ?_;by_cases h2 : 2 ≤ l.length
  case neg =>
    obtain rfl := vF hv (fun h => h2 h.two)
    (repeat' (first|refine wS ?_|refine wR ?_|refine wT ?_|(refine rg 0 (bH (bN rfl rfl) rfl (aV ?_)))|(refine rg 1 (mW rfl (qW T rfl (vV (aL rfl rfl (by omega)) (mV ?_))));(iterate 5 refine gF ?_);refine pW rfl (mV ?_);(iterate 6 refine gF ?_);refine pV ?_)|(refine rg 2 (aV ?_))|refine nZ ?_));all_goals exact rQ
  have q0 := eY (l := l) (j := (0 : Int)) (i := 0) 0 (by omega) (by simp)
  by_cases h0 : l.getD 0 0 = c
  case neg =>
    obtain rfl := vF hv (fun h => h0 h.hd);generalize l.getD 0 0 = y at *
    (repeat' (first|refine wS ?_|refine wR ?_|refine wT ?_|(refine rg 0 (bH (bN rfl rfl) rfl (aV ?_)))|(refine rg 1 (mW rfl (qW T rfl (vV (bG rfl rfl (by omega)) (mW rfl (yN rfl (yV (ix T rfl (by decide) (aE _) q0) (yO T rfl (yN rfl (yV (lC rfl rfl h0) ?_)))))))));refine pW rfl (mV ?_);(iterate 6 refine gF ?_);refine pV ?_)|(refine rg 2 (aV ?_))|refine nZ ?_));all_goals exact rQ
  rw [h0] at q0;by_cases hof : (wM l).length = l.length
  case neg =>
    obtain rfl := vF hv (fun h => hof (h.of g))
    (repeat' (first|refine wS ?_|refine wR ?_|refine wT ?_|(refine rg 0 (bH (bN rfl rfl) rfl (aV ?_)))|(refine rg 1 (mW rfl (qW T rfl (vV (bG rfl rfl (by omega)) (mW rfl (yN rfl (yV (ix T rfl (by decide) (aE _) q0) (yO T rfl (yN rfl (yV (gE rfl rfl rfl) ?_)))))))));refine pW rfl (mW rfl (yN rfl (yV (kC (cO)) (gT (qW T rfl (yN rfl (gT (qW T rfl (yV (lC rfl rfl (by omega)) ?_)))))))));refine pV ?_)|(refine rg 2 (aV ?_))|refine nZ ?_));all_goals exact rQ
  have hdis := (SV hof).2
  (repeat' (first|refine wS ?_|refine wB ?_|refine wK ?_|refine wU ?_|(refine rg 0 (bH (bN rfl rfl) rfl (aV ?_)))|(refine rg 1 (mW rfl (qW T rfl (vV (bG rfl rfl (by omega)) (mW rfl (yN rfl (yV (ix T rfl (by decide) (aE _) q0) (yO T rfl (yN rfl (yV (gE rfl rfl rfl) ?_)))))))));refine pW rfl (mW rfl (yN rfl (yV (kC (cO)) (gT (qW T rfl (yN rfl (gT (qW T rfl (yV (gE rfl rfl (by omega)) ?_)))))))));refine pV ?_)|(refine rg 3 (mW rfl (qW T rfl (mV ?_))))|refine nZ ?_));refine bV (X := {j : Nat // j ≤ l.length ∧ ∀ i,i < j → ED s l i}) (fun j => [(1,.rowE (aI (bO s.fl)) 1),(3,.rowE (aI l) 1),(4,.ptr 0 0),(29,.rowE (aI l) 1),(30,.i l.length),(31,.i (j.1 : Int))]) (fun _ => [.cells (fS s)]) (fun j => l.length - j.1) ⟨0,cH _,fun i h => absurd h (dJ _)⟩ ⟨[0],rfl,⟨rfl,rfl,rfl,rfl,congrArg (fun n : Nat => some (AV.i n)) hil,rfl,trivial⟩,⟨.inr rfl,trivial⟩,by decide,gL⟩ ?_
  rintro ⟨j,hj,hc⟩;dsimp only at hj hc ⊢;by_cases hlt : j < l.length
  case neg =>
    obtain rfl : j = l.length := by omega
    obtain rfl := hv.2 ⟨h2,h0,hc⟩
    (repeat' (first|refine wS ?_|refine wR ?_|refine wE ?_|refine wU ?_|(refine rg 4 (vV (bG rfl rfl (by omega)) ?_))|(refine rg 9 (aV ?_))|refine nZ ?_));all_goals exact rQ
  have qx := eY (l := l) (j := (j : Int)) (i := j) 0 hlt (by simp)
  have ch := X9 (bO s.fl) (l.getD j 0) hWa (by omega)
  by_cases hw : l.getD j 0 ∈ bO s.fl
  case neg =>
    obtain rfl := vF hv (fun h => hw (h.at' j hlt).w);rw [decide_eq_false hw] at ch;generalize l.getD j 0 = x at *
    (repeat' (first|refine wS ?_|refine wB ?_|refine wK ?_|refine wR ?_|refine wT ?_|(refine rg 4 (vV (aL rfl rfl (by omega)) ?_))|(refine rg 5 (mW rfl (vV (ix T rfl (by omega) (aE _) qx) (lW T rfl (iZ ?_)))))|(refine aN (id := 6) 69 zZ2 (rM 36 32) zZ3 bM rfl (by decide +kernel) (dN rfl (dN rfl (dV rfl (kC (ch)) (dV rfl (bB rfl) (dN rfl (tG rfl (tG rfl (tG rfl (dG ?_)))))))));refine tG rfl (tG rfl (tG rfl (tG rfl (tG rfl (dV rfl (eP rfl rfl) (dN rfl (tG rfl (tG rfl (dG ?_)))))))));refine tH rfl (tH rfl (tH rfl (tH rfl (tH rfl (tH rfl (tH rfl (tH rfl (tH rfl (dH ?_)))))))));refine tH rfl (tG rfl (dV rfl (eP rfl rfl) (dE ?_))))|(refine rg 7 (aV ?_))|refine nZ ?_));all_goals exact rQ
  rw [decide_eq_true hw] at ch;obtain ⟨hx0,hx1,_⟩ := jG.1 hw;have ce := Z4 s (l.getD j 0) hx0 hx1;have hdec : decide (j + 1 = l.length) = decide ((j : Int) = ((aI l).length : Int) - 1) := by rw [decide_eq_decide,hil];omega
  by_cases hx : sW s.fl (l.getD j 0) = decide (j + 1 = l.length)
  case neg =>
    obtain rfl := vF hv (fun h => hx (h.at' j hlt).x);rw [hdec] at hx;generalize sW s.fl (l.getD j 0) = e at *;generalize l.getD j 0 = x at *
    (repeat' (first|refine wS ?_|refine wB ?_|refine wK ?_|refine wR ?_|refine wT ?_|(refine rg 4 (vV (aL rfl rfl (by omega)) ?_))|(refine rg 5 (mW rfl (vV (ix T rfl (by omega) (aE _) qx) (lW T rfl (iZ ?_)))))|(refine aN (id := 6) 69 zZ2 (rM 36 32) zZ3 bM rfl (by decide +kernel) (dN rfl (dN rfl (dV rfl (kC (ch)) (dV rfl (bB rfl) (dN rfl (tO T rfl (tN rfl (dT rfl (kC (ce)) (tM ?_)))))))));refine tN rfl (dT rfl (eF T rfl rfl) (dT rfl (fN rfl rfl (by omega) (by omega)) (dT rfl (gD rfl rfl) (dT rfl (IB wP rfl rfl hx) (dV rfl (cY rfl rfl) (dN rfl (tG rfl (tG rfl (dG ?_)))))))));refine tH rfl (tH rfl (tH rfl (tH rfl (tH rfl (tH rfl (tH rfl (tH rfl (tH rfl (dH ?_)))))))));refine tH rfl (tG rfl (dV rfl (eP rfl rfl) (dE ?_))))|(refine rg 7 (aV ?_))|refine nZ ?_));all_goals exact rQ
  have hx' := hx;rw [hdec] at hx';have hls : ∀ y,y ∈ lS s.fl (bO s.fl) (l.getD (j - 1) 0) ↔ y ∈ bO s.fl ∧ HO s.fl (l.getD (j - 1) 0) y := fun y => nT
  by_cases hj0 : 0 < j
  case neg =>
    have hc2 : ∀ i,i < j + 1 → ED s l i := fun i hi => by
      by_cases e : i = j
      · subst e;exact ⟨hw,hx,fun h => absurd h hj0,fun k hk => hdis k i hk hlt⟩
      · exact hc i (by omega)
    (repeat' (first|refine wS ?_|refine wB ?_|refine wK ?_|refine wT ?_|refine wU ?_|(refine rg 4 (vV (aL rfl rfl (by omega)) ?_))|(refine rg 5 (mW rfl (vV (ix T rfl (by omega) (aE _) qx) (lW T rfl (iZ ?_)))))|(refine aN (id := 6) 69 zZ2 (rM 36 32) zZ3 bM rfl (by decide +kernel) (dN rfl (dN rfl (dV rfl (kC (ch)) (dV rfl (bB rfl) (dN rfl (tO T rfl (tN rfl (dT rfl (kC (ce)) (tM ?_)))))))));refine tN rfl (dT rfl (eF T rfl rfl) (dT rfl (fN rfl rfl (by omega) (by omega)) (dT rfl (gD rfl rfl) (dT rfl (xD wP rfl rfl hx') (dV rfl (cY rfl rfl) (dN rfl (tN rfl (dT rfl (rL rfl rfl (by omega)) (tM ?_)))))))));refine tG rfl (tG rfl (tG rfl (tG rfl (tG rfl (tG rfl (tG rfl (tG rfl (tG rfl (dG ?_)))))))));refine tG rfl (dT rfl (cY rfl rfl) (dV rfl (cY rfl rfl) (dE ?_))))|(refine rg 8 (vV (bP rfl rfl (by omega) (by omega)) (mV ?_)))|refine nZ ?_));all_goals exact ⟨⟨j + 1,hlt,hc2⟩,by dsimp only;omega,[0],rfl,(by repeat first|exact trivial|refine ⟨rfl,?_⟩),⟨.inr rfl,trivial⟩,by decide,gL⟩
  have qy := eY (l := l) (j := (j : Int) - 1) (i := j - 1) 0 (by omega) (by omega)
  have cs := GJ s g (bO s.fl) hWa (by omega) (l.getD (j - 1) 0)
  have cc := F7 (lS s.fl (bO s.fl) (l.getD (j - 1) 0)) (l.getD j 0) (by have : (lS s.fl (bO s.fl) (l.getD (j - 1) 0)).length ≤ 6 := B3 s.fl (bO s.fl) (l.getD (j - 1) 0) 6;omega)
  by_cases hn : l.getD j 0 ∈ lS s.fl (bO s.fl) (l.getD (j - 1) 0)
  case neg =>
    obtain rfl := vF hv (fun h => hn ((hls _).2 ⟨hw,(h.at' j hlt).n hj0⟩));rw [decide_eq_false hn] at cc
    (repeat' (first|refine wS ?_|refine wB ?_|refine wK ?_|refine wR ?_|refine wT ?_|(refine rg 4 (vV (aL rfl rfl (by omega)) ?_))|(refine rg 5 (mW rfl (vV (ix T rfl (by omega) (aE _) qx) (lW T rfl (iZ ?_)))))|(refine aN (id := 6) 69 zZ2 (rM 36 32) zZ3 bM rfl (by decide +kernel) (dN rfl (dN rfl (dV rfl (kC (ch)) (dV rfl (bB rfl) (dN rfl (tO T rfl (tN rfl (dT rfl (kC (ce)) (tM ?_)))))))));refine tN rfl (dT rfl (eF T rfl rfl) (dT rfl (fN rfl rfl (by omega) (by omega)) (dT rfl (gD rfl rfl) (dT rfl (xD wP rfl rfl hx') (dV rfl (cY rfl rfl) (dN rfl (tN rfl (dT rfl (oC rfl rfl (by omega)) (tM ?_)))))))));refine tO T rfl (tN rfl (tN rfl (tN rfl (dT rfl (fN rfl rfl (by omega) (by omega)) (dT rfl (ix T rfl (by omega) (aE _) qy) (tO T rfl (dT rfl (kC (cs)) (tN rfl (dT rfl (kC (cc)) ?_)))))))));refine dT rfl (bB rfl) (dT rfl (eP rfl rfl) (dV rfl (cY rfl rfl) (dE ?_))))|(refine rg 7 (aV ?_))|refine nZ ?_));all_goals exact rQ
  have hc2 : ∀ i,i < j + 1 → ED s l i := fun i hi => by
    by_cases e : i = j
    · subst e;exact ⟨hw,hx,fun _ => ((hls _).1 hn).2,fun k hk => hdis k i hk hlt⟩
    · exact hc i (by omega)
  rw [decide_eq_true hn] at cc
  (repeat' (first|refine wS ?_|refine wB ?_|refine wK ?_|refine wT ?_|refine wU ?_|(refine rg 4 (vV (aL rfl rfl (by omega)) ?_))|(refine rg 5 (mW rfl (vV (ix T rfl (by omega) (aE _) qx) (lW T rfl (iZ ?_)))))|(refine aN (id := 6) 69 zZ2 (rM 36 32) zZ3 bM rfl (by decide +kernel) (dN rfl (dN rfl (dV rfl (kC (ch)) (dV rfl (bB rfl) (dN rfl (tO T rfl (tN rfl (dT rfl (kC (ce)) (tM ?_)))))))));refine tN rfl (dT rfl (eF T rfl rfl) (dT rfl (fN rfl rfl (by omega) (by omega)) (dT rfl (gD rfl rfl) (dT rfl (xD wP rfl rfl hx') (dV rfl (cY rfl rfl) (dN rfl (tN rfl (dT rfl (oC rfl rfl (by omega)) (tM ?_)))))))));refine tO T rfl (tN rfl (tN rfl (tN rfl (dT rfl (fN rfl rfl (by omega) (by omega)) (dT rfl (ix T rfl (by omega) (aE _) qy) (tO T rfl (dT rfl (kC (cs)) (tN rfl (dT rfl (kC (cc)) ?_)))))))));refine dT rfl (bB rfl) (dT rfl (eP rfl rfl) (dV rfl (cY rfl rfl) (dE ?_))))|(refine rg 8 (vV (bP rfl rfl (by omega) (by omega)) (mV ?_)))|refine nZ ?_));all_goals exact ⟨⟨j + 1,hlt,hc2⟩,by dsimp only;omega,[0],rfl,(by repeat first|exact trivial|refine ⟨rfl,?_⟩),⟨.inr rfl,trivial⟩,by decide,gL⟩
theorem KH {s : lN} (g : iL s.fl) {c : Int} {a b : List Int} (h1 : wH s c a) (h2 : wH s c b) : (rJ (wM a) (wM b)).length = 1 ↔ OH a b := by
  have hN := g.le;have rga := h1.rg;have rgb := h2.rg;have t1 := h1.two;have t2 := h2.two;have ca : c ∈ a := by rw [← h1.hd];exact J6 (by omega)
  have cb : c ∈ b := by rw [← h2.hd];exact J6 (by omega)
  have hm : ∀ y,y ∈ rJ (wM a) (wM b) ↔ y ∈ a ∧ y ∈ b := fun y => by
    rw [PN (B7 a) (B7 b),F2,F2];refine ⟨fun h => ⟨h.1.1,h.2.1⟩,fun h => ?_⟩
    have := rga y h.1;exact ⟨⟨h.1,by omega⟩,h.2,by omega⟩
  have hn : (rJ (wM a) (wM b)).Nodup := (PS (B7 a) (B7 b)).imp (fun h => by omega)
  constructor
  · intro hl i k hi1 hi2 hk1 hk2 he;have hne : c ≠ a.getD i 0 := by rw [← h1.hd];exact (h1.at' i hi2).d 0 (by omega)
    have := kA (l := [c,a.getD i 0]) (m := rJ (wM a) (wM b)) (by simpa using hne) fun y hy => by
      rw [hm];simp only [bL,kX,or_false] at hy;rcases hy with rfl | rfl
      · exact ⟨ca,cb⟩
      · exact ⟨J6 hi2,by rw [he];exact J6 hk2⟩
    simp only [List.length_cons,List.length_nil] at this;omega
  · intro hd;have hy1 : ∀ y,y ∈ rJ (wM a) (wM b) → y = c := fun y hy => by
      obtain ⟨ya,yb⟩ := (hm y).1 hy;obtain ⟨i,hi,rfl⟩ := eE.1 ya;obtain ⟨k,hk,hke⟩ := eE.1 yb;by_cases hi0 : i = 0
      · subst hi0;rw [← jP hi,h1.hd]
      · by_cases hk0 : k = 0
        · subst hk0;rw [← hke,← jP hk,h2.hd]
        · exact absurd (by rw [jP hi,jP hk,hke]) (hd i k (by omega) hi (by omega) hk)
    have a1 := kA (m := [c]) hn fun y hy => by rw [hy1 y hy];simp
    have a2 := kA (l := [c]) (m := rJ (wM a) (wM b)) (by simp) fun y hy => by
      rw [hm];simp only [bY] at hy;subst hy;exact ⟨ca,cb⟩
    simp only [List.length_cons,List.length_nil] at a1 a2;omega
section
variable {P : Program} {env : eG} {h : Hp} {d : Option Nat} {ty : TypeId} {pos : String} {af : Array Edge} {g : Option (Nat × Bool)}
theorem FE (T : oY P) {t e sz : Nat} {es es' : List (List AV)} {i : TI} {x : Operand} {lo hi : Option Operand} {l r : Int} (hx : evu env x = some (.rowE es sz)) (ht : T.elem t = some e) (he : T.ti e = some i) (hs : i.size = sz) (hlo : IF env lo 0 = some l) (hhi : IF env hi es.length = some r) (h0 : 0 ≤ l) (h1 : l ≤ r) (h2 : r ≤ es.length) (hl : ∀ e,e ∈ es → e.length = sz) (hq : (es.drop l.toNat).take (r - l).toNat = es') :
    bR P ⟨d,.slice t x lo hi none,ty,pos,af,g⟩ env h 0 (fun _ => .rowE es' sz) (fun _ => []) := by
  subst hq;exact yA T hx ht he hs hlo hhi h0 h1 h2 hl
end
def T7 (s : lN) (c : Int) : Prop := (∃ l,oU (iN s (bO s.fl) c) l) ∧ ∀ x,x ≠ c → ∃ l,oU (iN s (bO s.fl) c) l ∧ x ∉ l
theorem vB.two {s : lN} {x : fR} (h : vB s x) : T7 s x.1 := by
  obtain ⟨h1,h2,h3⟩ := h;refine ⟨⟨_,h1⟩,fun y hy => ?_⟩
  by_cases q : y ∈ x.2.1
  · exact ⟨_,h2,fun q2 => hy (h3 y q q2)⟩
  · exact ⟨_,h1,q⟩
theorem yS.no {s : lN} {c : Int} (h : yS s c) : ¬ T7 s c := fun ⟨⟨l,hl⟩,h2⟩ => by
  rcases h with h | ⟨x,hx,h⟩
  · exact h l hl
  · obtain ⟨l',a,b⟩ := h2 x hx;exact b (h l' a)
theorem zA4 (s : lN) (g : iL s.fl) (c : Int) (hc : 0 ≤ c ∧ c < s.fl.k.length) (v : Bool) (hv : v = true ↔ T7 s c) : bQ Tryz.prog 42 [.agg (fS s),.i c] [] (.b v) [] := by
  have hN := g.le;have cS := zD5 s g c hc;refine fT.toA (Φ := fun r o => r = .b v ∧ o = []) ?_ (fun _ _ h => h);refine mM T Tryz.func42 rfl rfl rfl rfl ?_
  (repeat' (first|refine wS ?_|(refine rg 0 (bH (bN rfl rfl) rfl (aV ?_)))|(refine rg 1 (lW T rfl (mW rfl (mG [] rfl rfl cS rfl rfl (by decide) trivial (by simp) rfl ?_)));rintro _ _ ⟨rfl,l0,rfl,hS⟩;refine aV ?_)|refine nZ ?_));have hil : (aI l0).length = l0.length := aR _
  rcases hS with ⟨rfl,hno⟩ | ⟨hlane,_⟩
  · obtain rfl := vF hv (fun h => by
      obtain ⟨⟨l,hl⟩,_⟩ := h;obtain ⟨z,_,hz⟩ := hno l hl
      cases hz)
    (repeat' (first|refine wS ?_|refine wR ?_|refine wT ?_|(refine rg 2 (mW rfl (qW T rfl (vV (gH rfl rfl rfl) ?_))))|(refine rg 3 (aV ?_))|refine nZ ?_));all_goals exact ⟨_,_,⟨rfl,rfl⟩,rQ⟩
  have hll := Z0 hlane;have hwl := wZ s.fl;obtain ⟨r0,hl0,_,_⟩ := C0 hlane;have hpos : 1 ≤ l0.length := by rw [hl0];simp
  (repeat' (first|refine wS ?_|refine wB ?_|refine wK ?_|refine wU ?_|(refine rg 2 (mW rfl (qW T rfl (vV (eN rfl rfl (by omega)) ?_))))|(refine rg 4 (aV ?_))|refine nZ ?_));refine bV (X := {i : Nat // 1 ≤ i ∧ i ≤ l0.length ∧ ∀ j,1 ≤ j → j < i → ∃ l,oU (iN s (bO s.fl) c) l ∧ l0.getD j 0 ∉ l.drop 1}) (fun i => [(1,.i c),(2,.ptr 0 0),(5,.rowE (aI l0) 1),(6,.i (i.1 : Int))]) (fun _ => [.cells (fS s)]) (fun i => l0.length - i.1) ⟨1,aY _,hpos,fun j h1 h2 => by omega⟩ ⟨[0],rfl,(by repeat first|exact trivial|refine ⟨rfl,?_⟩),⟨.inr rfl,trivial⟩,by decide,gL⟩ ?_
  rintro ⟨i,hi1,hi2,hex⟩;dsimp only at hi1 hi2 hex ⊢;by_cases hlt : i < l0.length
  case neg =>
    obtain rfl : i = l0.length := by omega
    obtain rfl := hv.2 (by
      refine ⟨⟨l0,hlane⟩,fun x hx => ?_⟩
      by_cases hm : x ∈ l0
      · obtain ⟨j,hj,rfl⟩ := eE.1 hm;have hj0 : j ≠ 0 := fun e => by
          subst e;have : l0[0]? = some c := by rw [hl0];rfl
          rw [aB hj] at this;exact hx (Option.some.inj this)
        obtain ⟨l,h1,h2⟩ := hex j (by omega) hj
        rw [jP hj] at h2;obtain ⟨r,hr,_,_⟩ := C0 h1;refine ⟨l,h1,fun q => ?_⟩
        rw [hr] at q h2;rcases bL.1 q with q | q
        · exact hx q
        · exact h2 q
      · exact ⟨l0,hlane,hm⟩)
    (repeat' (first|refine wS ?_|refine wR ?_|refine wE ?_|refine wU ?_|(refine rg 5 (eX rfl (qW T rfl (vV (bG rfl rfl (by omega)) ?_))))|(refine rg 9 (aV ?_))|refine nZ ?_));all_goals exact ⟨_,_,⟨rfl,rfl⟩,rQ⟩
  have cSx := RP s g c hc [l0.getD i 0] (by simp)
  have hsl : ((aI l0).drop (i : Int).toNat).take ((i : Int) + 1 - (i : Int)).toNat = aI [l0.getD i 0] := by
    rw [aX,show ((i : Int) + 1 - (i : Int)).toNat = 1 by omega,jP hlt]
    have hlt' : i < (aI l0).length := by omega
    rw [bK hlt'];simp
  (repeat' (first|refine wS ?_|refine wB ?_|refine wK ?_|refine wT ?_|(refine rg 5 (eX rfl (qW T rfl (vV (aL rfl rfl (by omega)) ?_))))|refine nZ ?_));all_goals
    refine uZ (id := 7) 7 29 [[],[],[],[],[],[4],[2,3,4,5],[0,1,2,3,4,5,6],[0,1,2,3,4,5,6,7],[0,1,2,3,4,5,6,7,8]] [[],[],[],[],[],[4],[2,3,4,5]] [19,20,21,22,23,24,25] [[],[19],[19,20],[19,20,21],[19,20,21,22],[19,20,21,22],[19,20]] bM rfl (by decide +kernel) (by decide +kernel) ?_
    dsimp only [List.take,List.drop];refine dV rfl (by exact cJ T rfl rfl rfl rfl) ?_
    refine dV rfl (by exact jA rfl) ?_
    refine dV rfl (by exact jA rfl) ?_
    refine dV rfl (by exact jA rfl) ?_
    refine dV rfl (by exact jA rfl) ?_
    refine dV rfl (by exact bP rfl rfl (by omega) (by omega)) ?_
    refine dV rfl (by exact FE T rfl rfl rfl rfl rfl rfl (by omega) (by omega) (by omega) (aE _) hsl) ?_
    refine dE ?_;refine mD ?_;refine mG [] rfl rfl cSx rfl rfl (by decide) trivial (by simp) rfl ?_
    rintro _ _ ⟨rfl,l1,rfl,hS1⟩;refine vV (by exact eF T rfl rfl) ?_
    have hil1 : (aI l1).length = l1.length := aR _
  rcases hS1 with ⟨rfl,hno⟩ | ⟨hl1,hav⟩
  · obtain rfl := vF hv (fun h => by
      have hne : l0.getD i 0 ≠ c := fun e => by
        have h0 : l0.getD 0 0 = c := by rw [hl0];rfl
        have hnd := iV.1 hlane.1 0 i (by omega) hlt (by omega)
        rw [jP hlt] at e;rw [jP (by omega)] at h0
        exact hnd (h0.trans e.symm)
      obtain ⟨l,h1,h2⟩ := h.2 _ hne;obtain ⟨z,hz1,hz2⟩ := hno l h1;rw [bY] at hz2;subst hz2
      exact h2 (iG hz1))
    refine vV (by exact gH rfl rfl rfl) ?_
    refine mD ?_
    (repeat' (first|refine wS ?_|refine wR ?_|refine wT ?_|(refine rg 8 (aV ?_))|refine nZ ?_));all_goals exact ⟨_,_,⟨rfl,rfl⟩,rQ⟩
  · have hp1 : 1 ≤ l1.length := by obtain ⟨r,hr,_,_⟩ := C0 hl1;rw [hr];simp
    have hex2 : ∀ j,1 ≤ j → j < i + 1 → ∃ l,oU (iN s (bO s.fl) c) l ∧ l0.getD j 0 ∉ l.drop 1 := fun j h1 h2 => by
      by_cases e : j = i
      · subst e;exact ⟨l1,hl1,fun q => hav _ q (by simp)⟩
      · exact hex j h1 (by omega)
    refine vV (by exact eN rfl rfl (by omega)) ?_
    refine mD ?_
    (repeat' (first|refine wK ?_|refine wU ?_|(refine iA 6 rfl rfl rfl (by omega) (by omega) ?_)|refine nZ ?_));all_goals exact ⟨⟨i + 1,by omega,hlt,hex2⟩,by dsimp only;omega,[0],rfl,(by repeat first|exact trivial|refine ⟨rfl,?_⟩),⟨.inr rfl,trivial⟩,by decide,gL⟩
theorem MT (s : lN) (g : iL s.fl) (n : Int) (hn : (n = -1 ∧ ∀ c : Nat,c < s.fl.k.length → s.fl.k.getD c 0 = 4 → T7 s c) ∨ (∃ c : Nat,n = c ∧ c < s.fl.k.length ∧ s.fl.k.getD c 0 = 4 ∧ ¬ T7 s c ∧ ∀ b : Nat,b < c → s.fl.k.getD b 0 = 4 → T7 s b)) : bQ Tryz.prog 14 [.agg (fS s)] [] (.i n) [] := by
  have hN := g.le;have hkl : (aI s.fl.k).length = s.fl.k.length := aR _;refine dD T Tryz.func14 rfl rfl rfl rfl ?_
  (repeat' (first|refine wS ?_|refine wB ?_|(refine rg 0 (bH (bN rfl rfl) rfl (aV ?_)))|(refine rg 1 (aV ?_))|refine nZ ?_));refine bV (X := {i : Nat // i ≤ s.fl.k.length ∧ ∀ b : Nat,b < i → s.fl.k.getD b 0 = 4 → T7 s b}) (fun i => [(1,.ptr 0 0),(3,.i (i.1 : Int))]) (fun _ => [.cells (fS s)]) (fun i => s.fl.k.length - i.1) ⟨0,cH _,fun b h => absurd h (dJ _)⟩ ⟨[0],rfl,(by repeat first|exact trivial|refine ⟨rfl,?_⟩),⟨.inr rfl,trivial⟩,by decide,gL⟩ ?_
  rintro ⟨i,hi,hb⟩;dsimp only at hi hb ⊢;by_cases hlt : i < s.fl.k.length
  case neg =>
    have e : n = -1 := by
      rcases hn with ⟨h,_⟩ | ⟨c,rfl,h1,h2,h3,_⟩
      · exact h
      · exact absurd (hb c (by omega) h2) h3
    subst e
    (repeat' (first|refine wS ?_|refine wR ?_|refine wE ?_|refine wU ?_|(refine rg 2 (mW rfl (fW T rfl (eK T rfl (qW T rfl (vV (bG rfl rfl (by omega)) ?_))))))|(refine rg 6 (aV ?_))|refine nZ ?_));all_goals exact rQ
  have qk := eY (l := s.fl.k) (j := (i : Int)) (i := i) 0 hlt (by simp)
  by_cases hk : s.fl.k.getD i 0 = 4
  · by_cases ht : T7 s i
    · have ct := zA4 s g i ⟨by omega,by omega⟩ true ⟨fun _ => ht,fun _ => rfl⟩
      have hb2 : ∀ b : Nat,b < i + 1 → s.fl.k.getD b 0 = 4 → T7 s b := fun b h1 h2 => by
        by_cases e : b = i
        · subst e;exact ht
        · exact hb b (by omega) h2
      (repeat' (first|refine wS ?_|refine wB ?_|refine wK ?_|refine wT ?_|refine wU ?_|(refine rg 2 (mW rfl (fW T rfl (eK T rfl (qW T rfl (vV (aL rfl rfl (by omega)) ?_))))))|(refine rg 4 (fW T rfl (eK T rfl (mW rfl (vV (ix T rfl (by omega) (aE _) qk) (lW T rfl (vV (gH rfl rfl hk) (mW rfl (yO T rfl (yM ?_)))))))));refine yV (kC (ct)) (yV (bB rfl) (pV ?_)))|(refine iA 3 rfl rfl rfl (by omega) (by omega) ?_)|refine nZ ?_));all_goals exact ⟨⟨i + 1,hlt,hb2⟩,by dsimp only;omega,[0],rfl,(by repeat first|exact trivial|refine ⟨rfl,?_⟩),⟨.inr rfl,trivial⟩,by decide,gL⟩
    · have ct := zA4 s g i ⟨by omega,by omega⟩ false ⟨fun h => Bool.noConfusion h,fun h => absurd h ht⟩
      have e : n = i := by
        rcases hn with ⟨_,h⟩ | ⟨c,rfl,h1,h2,h3,h4⟩
        · exact absurd (h i hlt hk) ht
        · by_cases q : c < i
          · exact absurd (hb c q h2) h3
          · by_cases q2 : i < c
            · exact absurd (h4 i q2 hk) ht
            · omega
      subst e
      (repeat' (first|refine wS ?_|refine wB ?_|refine wK ?_|refine wR ?_|refine wT ?_|(refine rg 2 (mW rfl (fW T rfl (eK T rfl (qW T rfl (vV (aL rfl rfl (by omega)) ?_))))))|(refine rg 4 (fW T rfl (eK T rfl (mW rfl (vV (ix T rfl (by omega) (aE _) qk) (lW T rfl (vV (gH rfl rfl hk) (mW rfl (yO T rfl (yM ?_)))))))));refine yV (kC (ct)) (yV (bB rfl) (pV ?_)))|(refine rg 5 (mW rfl (aV ?_)))|refine nZ ?_));all_goals exact rQ
  · have hb2 : ∀ b : Nat,b < i + 1 → s.fl.k.getD b 0 = 4 → T7 s b := fun b h1 h2 => by
      by_cases e : b = i
      · subst e;exact absurd h2 hk
      · exact hb b (by omega) h2
    (repeat' (first|refine wS ?_|refine wB ?_|refine wK ?_|refine wT ?_|refine wU ?_|(refine rg 2 (mW rfl (fW T rfl (eK T rfl (qW T rfl (vV (aL rfl rfl (by omega)) ?_))))))|(refine rg 4 (fW T rfl (eK T rfl (mW rfl (vV (ix T rfl (by omega) (aE _) qk) (lW T rfl (vV (eN rfl rfl hk) (mV ?_)))))));(iterate 4 refine gF ?_);refine pV ?_)|(refine iA 3 rfl rfl rfl (by omega) (by omega) ?_)|refine nZ ?_));all_goals exact ⟨⟨i + 1,hlt,hb2⟩,by dsimp only;omega,[0],rfl,(by repeat first|exact trivial|refine ⟨rfl,?_⟩),⟨.inr rfl,trivial⟩,by decide,gL⟩
def CB (f : jD) : Nat → Int
  | 0 => 0
  | n + 1 => max (CB f n) (((lT f (n : Int)).length : Int) - 1)
theorem NT (f : jD) : ∀ n, 0 ≤ CB f n ∧ CB f n ≤ nG f ∧ ∀ c : Nat, c < n → ((lT f (c : Int)).length : Int) - 1 ≤ CB f n
  | 0 => ⟨qS _,by
      have : ∀ (L : List (Int × List Int)) (n : Int),0 ≤ n → 0 ≤ L.foldl CZ n := by
        intro L
        induction L with
        | nil => intro n h;exact h
        | cons e L ih => intro n h;exact ih _ (by unfold CZ;omega)
      exact this _ 0 (by omega),fun c h => absurd h (dJ _)⟩
  | n + 1 => by
      obtain ⟨h1,h2,h3⟩ := NT f n;unfold CB;refine ⟨by omega,?_,fun c hc => ?_⟩
      · rcases PD (f := f) (n : Int) with h | h
        · omega
        · rw [h];simp only [List.length_nil];omega
      · by_cases e : c = n
        · subst e;omega
        · have := h3 c (by omega);omega
theorem ZM (f : jD) : CB f f.k.length = nG f := by
  obtain ⟨h1,h2,h3⟩ := NT f f.k.length
  have := (zA9 (L := rF f (bO f)) (n := 0) (b := CB f f.k.length) h1 fun e he => by
    obtain ⟨q1,q2,q3⟩ := sU.1 he;obtain ⟨w1,w2,_⟩ := jG.1 q1;have hh := h3 e.1.toNat (by omega)
    rw [hO w1] at hh;have : lT f e.1 = e.2 := by unfold lT;rw [if_pos ⟨q1,q2⟩,q3]
    rw [this] at hh;exact hh).2
  have e : nG f = (rF f (bO f)).foldl CZ 0 := rfl;omega
theorem HF (s : lN) (g : iL s.fl) : bQ Tryz.prog 15 [.agg (fS s)] [] (.i (nG s.fl)) [] := by
  have hN := g.le;have hkl : (aI s.fl.k).length = s.fl.k.length := aR _;rw [← ZM];refine dD T Tryz.func15 rfl rfl rfl rfl ?_
  (repeat' (first|refine wS ?_|refine wB ?_|(refine rg 0 (bH (bN rfl rfl) rfl (aV ?_)))|(refine rg 1 (aV ?_))|(refine rg 2 (aV ?_))|refine nZ ?_));refine bV (X := {i : Nat // i ≤ s.fl.k.length}) (fun i => [(1,.ptr 0 0),(3,.i (CB s.fl i.1)),(4,.i (i.1 : Int))]) (fun _ => [.cells (fS s)]) (fun i => s.fl.k.length - i.1) ⟨0,cH _⟩ ⟨[0],rfl,(by repeat first|exact trivial|refine ⟨rfl,?_⟩),⟨.inr rfl,trivial⟩,by decide,gL⟩ ?_
  rintro ⟨i,hi⟩;dsimp only at hi ⊢;by_cases hlt : i < s.fl.k.length
  case neg =>
    obtain rfl : i = s.fl.k.length := by omega
    (repeat' (first|refine wS ?_|refine wR ?_|refine wE ?_|refine wU ?_|(refine rg 3 (mW rfl (fW T rfl (eK T rfl (qW T rfl (vV (bG rfl rfl (by omega)) ?_))))))|(refine rg 6 (mW rfl (aV ?_)))|refine nZ ?_));all_goals exact rQ
  have cO := JV s g i;have hol : (aI (lT s.fl (i : Int))).length = (lT s.fl (i : Int)).length := aR _;have hle : (lT s.fl (i : Int)).length ≤ 400 := by
    unfold lT;split
    · rw [rE];have := zZ g i hlt;rw [aX];omega
    · simp
  have hm : max (CB s.fl i) (((aI (lT s.fl (i : Int))).length : Int) - 1) = CB s.fl (i + 1) := by rw [hol];rfl
  (repeat' (first|refine wS ?_|refine wB ?_|refine wK ?_|refine wT ?_|(refine rg 3 (mW rfl (fW T rfl (eK T rfl (qW T rfl (vV (aL rfl rfl (by omega)) ?_))))))|(refine rg 5 (mW rfl (lW T rfl (mW rfl (vV (kC (cO)) (qW T rfl (vV (fN rfl rfl (by omega) (by omega)) (vV (sC rfl rfl) (aV ?_)))))))))|(refine iA 4 rfl rfl rfl (by omega) (by omega) ?_)|refine nZ ?_));all_goals exact ⟨⟨i + 1,hlt⟩,by dsimp only;omega,[0],rfl,⟨rfl,congrArg (fun n : Int => some (AV.i n)) hm,rfl,trivial⟩,⟨.inr rfl,trivial⟩,by decide,gL⟩
def oE (L : List fR) (c : Int) : List fR := L.filter fun x => decide (x.1 = c)
structure QZ (s : lN) (c : Int) (x : fR) : Prop where
  a : wH s c x.2.1
  b : wH s c x.2.2
  d : OH x.2.1 x.2.2
def sY (s : lN) (L : List fR) (c : Int) : Prop := (oE L c).length = 1 ∧ ∀ x,x ∈ L → x.1 = c → QZ s c x
theorem uY (L : List fR) (x : fR) (c : Int) : oE (L ++ [x]) c = if x.1 = c then oE L c ++ [x] else oE L c := by
  unfold oE;rw [qZ];by_cases h : x.1 = c
  · rw [if_pos h,kZ,if_pos (decide_eq_true h)];rfl
  · rw [if_neg h,kZ,if_neg (by simpa using h)];simp
theorem TZ (s : lN) (g : iL s.fl) (L : List fR) (b c : Int) (hL : L.length ≤ 1000) (hll : ∀ x,x ∈ L → x.2.1.length ≤ 1000 ∧ x.2.2.length ≤ 1000) (v : Bool) (hv : v = true ↔ sY s L c) :
    bQ Tryz.prog 47 [.agg (fS s),.agg (jR L b),.i c] [] (.b v) [] := by
  have hLA : (fG L).length = L.length := by simp
  refine dD T Tryz.func47 rfl rfl rfl rfl ?_
  (repeat' (first|refine wS ?_|refine wB ?_|(refine rg 0 (bH (bN rfl rfl) rfl (bH (bN rfl rfl) rfl (aV ?_))))|(refine rg 1 (aV ?_))|(refine rg 2 (aV ?_))|refine nZ ?_));refine bV (X := {k : Nat // k ≤ L.length ∧ ∀ x,x ∈ L.take k → x.1 = c → QZ s c x}) (fun k => [(2,.i c),(3,.ptr 0 0),(4,.ptr 1 0),(7,.i (((oE (L.take k.1) c).length : Nat) : Int)),(8,.i (k.1 : Int))]) (fun _ => [.cells (fS s),.cells (jR L b)]) (fun k => L.length - k.1) ⟨0,cH _,fun x hx => by simp at hx⟩ ⟨[0,1],rfl,(by repeat first|exact trivial|refine ⟨rfl,?_⟩),⟨.inr rfl,.inr rfl,trivial⟩,by decide,gL⟩ ?_
  rintro ⟨k,hk,hall⟩;dsimp only at hk hall ⊢;by_cases hlt : k < L.length
  case neg =>
    obtain rfl : k = L.length := by omega
    rw [dU] at hall ⊢;have hv2 : decide (((oE L c).length : Int) = 1) = v := by
      cases v with
      | true => exact decide_eq_true (by have := (hv.1 rfl).1;omega)
      | false => exact decide_eq_false (fun e => by have := hv.2 ⟨by omega,hall⟩;cases this)
    (repeat' (first|refine wS ?_|refine wR ?_|refine wE ?_|refine wU ?_|(refine rg 3 (mW rfl (eK T rfl (qW T rfl (vV (bG rfl rfl (by omega)) ?_)))))|(refine rg 10 (mW rfl (vV (gD rfl rfl) (aV ?_))))|refine nZ ?_));rw [← hv2]
    exact rQ
  have qx : (fG L)[(k : Int).toNat]? = some (jH L[k]) := qJ (by rw [aX,aB hlt])
  have hxm := dB hlt;have hsn := uY (L.take k) L[k] c;have htk := aJ hlt;have hmem : ∀ y,y ∈ L.take (k + 1) → y ∈ L.take k ∨ y = L[k] := fun y hy => by
    rw [htk] at hy;exact (bI.1 hy).imp id bY.1
  rw [← htk] at hsn;have hcl : (oE (L.take k) c).length ≤ k := bU (jB _ _) (by rw [dQ];omega)
  obtain ⟨la,lb⟩ := hll _ hxm;have hgd := fun (h : sY s L c) => h.2 _ hxm;generalize L[k] = x at *;obtain ⟨y,A,B⟩ := x;dsimp only at la lb hgd hsn;by_cases hy : y = c
  case neg =>
    rw [if_neg hy] at hsn;have hall2 : ∀ x,x ∈ L.take (k + 1) → x.1 = c → QZ s c x := fun x hx hc => by
      rcases hmem x hx with h | h
      · exact hall x h hc
      · subst h;exact absurd hc hy
    (repeat' (first|refine wS ?_|refine wB ?_|refine wK ?_|refine wE ?_|refine wT ?_|(refine rg 3 (mW rfl (eK T rfl (qW T rfl (vV (aL rfl rfl (by omega)) ?_)))))|(refine rg 5 (eK T rfl (mW rfl (vV (ix T rfl (by omega) (iH _) qx) (lW T rfl (bH (cX T rfl) rfl (bJ T rfl rfl rfl rfl rfl rfl (by decide) rfl ?_)))))))|(refine rg 6 (eK T rfl (mW rfl (vV (lC rfl rfl hy) ?_))))|(refine iA 4 rfl rfl rfl (by omega) (by omega) ?_)|refine nZ ?_));all_goals exact ⟨⟨k + 1,hlt,hall2⟩,by dsimp only;omega,[0,1],rfl,⟨rfl,rfl,rfl,by dsimp only;rw [hsn];rfl,rfl,trivial⟩,⟨.inr rfl,.inr rfl,trivial⟩,by decide,gL⟩
  subst hy;rw [if_pos rfl] at hsn;have hsl : (((oE (L.take (k + 1)) y).length : Nat) : Int) = (((oE (L.take k) y).length : Nat) : Int) + 1 := by rw [hsn];simp
  generalize hn0 : (oE (L.take k) y).length = n at *;by_cases hA : wH s y A
  case neg =>
    have cA := EZ s g y A la false ⟨fun h => Bool.noConfusion h,fun h => absurd h hA⟩
    obtain rfl := vF hv (fun h => hA (hgd h rfl).a)
    (repeat' (first|refine wS ?_|refine wB ?_|refine wK ?_|refine wR ?_|refine wT ?_|refine wU ?_|(refine rg 3 (mW rfl (eK T rfl (qW T rfl (vV (aL rfl rfl (by omega)) ?_)))))|(refine rg 5 (eK T rfl (mW rfl (vV (ix T rfl (by omega) (iH _) qx) (lW T rfl (bH (cX T rfl) rfl (bJ T rfl rfl rfl rfl rfl rfl (by decide) rfl ?_)))))))|(refine rg 6 (eK T rfl (mW rfl (vV (gE rfl rfl rfl) ?_))))|(refine iA 7 rfl rfl rfl (by omega) (by omega) ?_)|(refine rg 8 (lW T rfl (mW rfl (eK T rfl (vV (kC (cA)) (vV (bB rfl) (mV ?_))))));(iterate 6 refine gF ?_);refine pW rfl (mV ?_);(iterate 6 refine gF ?_);refine pV ?_)|(refine rg 9 (aV ?_))|refine nZ ?_));all_goals exact rQ
  have cA := EZ s g y A la true ⟨fun _ => hA,fun _ => rfl⟩
  by_cases hB : wH s y B
  case neg =>
    have cB := EZ s g y B lb false ⟨fun h => Bool.noConfusion h,fun h => absurd h hB⟩
    obtain rfl := vF hv (fun h => hB (hgd h rfl).b)
    (repeat' (first|refine wS ?_|refine wB ?_|refine wK ?_|refine wR ?_|refine wT ?_|refine wU ?_|(refine rg 3 (mW rfl (eK T rfl (qW T rfl (vV (aL rfl rfl (by omega)) ?_)))))|(refine rg 5 (eK T rfl (mW rfl (vV (ix T rfl (by omega) (iH _) qx) (lW T rfl (bH (cX T rfl) rfl (bJ T rfl rfl rfl rfl rfl rfl (by decide) rfl ?_)))))))|(refine rg 6 (eK T rfl (mW rfl (vV (gE rfl rfl rfl) ?_))))|(refine iA 7 rfl rfl rfl (by omega) (by omega) ?_)|(refine rg 8 (lW T rfl (mW rfl (eK T rfl (vV (kC (cA)) (vV (bB rfl) (mW rfl (yO T rfl (yN rfl (yF T ?_)))))))));refine yO T rfl (yV (kC (cB)) (yV (bB rfl) (pW rfl (mV ?_))));(iterate 6 refine gF ?_);refine pV ?_)|(refine rg 9 (aV ?_))|refine nZ ?_));all_goals exact rQ
  have cB := EZ s g y B lb true ⟨fun _ => hB,fun _ => rfl⟩
  by_cases hD : OH A B
  case neg =>
    have cD := UU A B la lb false ⟨fun h => Bool.noConfusion h,fun h => absurd h hD⟩
    obtain rfl := vF hv (fun h => hD (hgd h rfl).d)
    (repeat' (first|refine wS ?_|refine wB ?_|refine wK ?_|refine wR ?_|refine wT ?_|refine wU ?_|(refine rg 3 (mW rfl (eK T rfl (qW T rfl (vV (aL rfl rfl (by omega)) ?_)))))|(refine rg 5 (eK T rfl (mW rfl (vV (ix T rfl (by omega) (iH _) qx) (lW T rfl (bH (cX T rfl) rfl (bJ T rfl rfl rfl rfl rfl rfl (by decide) rfl ?_)))))))|(refine rg 6 (eK T rfl (mW rfl (vV (gE rfl rfl rfl) ?_))))|(refine iA 7 rfl rfl rfl (by omega) (by omega) ?_)|(refine rg 8 (lW T rfl (mW rfl (eK T rfl (vV (kC (cA)) (vV (bB rfl) (mW rfl (yO T rfl (yN rfl (yF T ?_)))))))));refine yO T rfl (yV (kC (cB)) (yV (bB rfl) (pW rfl (mW rfl (yP T rfl (yO T rfl (yP T rfl (yO T rfl (yV (kC (cD)) ?_)))))))));refine yV (bB rfl) (pV ?_))|(refine rg 9 (aV ?_))|refine nZ ?_));all_goals exact rQ
  have cD := UU A B la lb true ⟨fun _ => hD,fun _ => rfl⟩
  have hall2 : ∀ x,x ∈ L.take (k + 1) → x.1 = y → QZ s y x := fun x hx hc => by
    rcases hmem x hx with h | h
    · exact hall x h hc
    · subst h;exact ⟨hA,hB,hD⟩
  (repeat' (first|refine wS ?_|refine wB ?_|refine wK ?_|refine wT ?_|refine wU ?_|(refine rg 3 (mW rfl (eK T rfl (qW T rfl (vV (aL rfl rfl (by omega)) ?_)))))|(refine rg 5 (eK T rfl (mW rfl (vV (ix T rfl (by omega) (iH _) qx) (lW T rfl (bH (cX T rfl) rfl (bJ T rfl rfl rfl rfl rfl rfl (by decide) rfl ?_)))))))|(refine rg 6 (eK T rfl (mW rfl (vV (gE rfl rfl rfl) ?_))))|(refine iA 7 rfl rfl rfl (by omega) (by omega) ?_)|(refine rg 8 (lW T rfl (mW rfl (eK T rfl (vV (kC (cA)) (vV (bB rfl) (mW rfl (yO T rfl (yN rfl (yF T ?_)))))))));refine yO T rfl (yV (kC (cB)) (yV (bB rfl) (pW rfl (mW rfl (yP T rfl (yO T rfl (yP T rfl (yO T rfl (yV (kC (cD)) ?_)))))))));refine yV (bB rfl) (pV ?_))|(refine iA 4 rfl rfl rfl (by omega) (by omega) ?_)|refine nZ ?_));all_goals exact ⟨⟨k + 1,hlt,hall2⟩,by dsimp only;omega,[0,1],rfl,⟨rfl,rfl,rfl,congrArg (fun n : Int => some (AV.i n)) hsl.symm,rfl,trivial⟩,⟨.inr rfl,.inr rfl,trivial⟩,by decide,gL⟩
def nB (s : lN) (L : List fR) (n : Nat) : Prop := ∀ c : Nat,c < n → s.fl.k.getD c 0 = 4 → sY s L c
def LR (s : lN) (L : List fR) (b : Int) (r : Int × Int) : Prop :=
  (∃ c : Nat,c < s.fl.k.length ∧ s.fl.k.getD c 0 = 4 ∧ ¬ sY s L c ∧ nB s L c ∧ r = ((c : Int),25)) ∨
  (nB s L s.fl.k.length ∧ L.map (·.1) = kL s.fl 4 ∧ nG s.fl ≤ b ∧ r = (-1,0)) ∨
  (nB s L s.fl.k.length ∧ ¬ (L.map (·.1) = kL s.fl 4 ∧ nG s.fl ≤ b) ∧ r = (-1,25))
theorem nB.step {s : lN} {L : List fR} {n : Nat} (h : nB s L n) (h2 : s.fl.k.getD n 0 = 4 → sY s L n) : nB s L (n + 1) := fun c hc hk => by
  by_cases e : c = n
  · subst e;exact h2 hk
  · exact h c (by omega) hk
theorem IN (s : lN) (L : List fR) (b : Int) : ∃ r,LR s L b r := by
  by_cases h : nB s L s.fl.k.length
  · by_cases h2 : L.map (·.1) = kL s.fl 4 ∧ nG s.fl ≤ b
    · exact ⟨_,.inr (.inl ⟨h,h2.1,h2.2,rfl⟩)⟩
    · exact ⟨_,.inr (.inr ⟨h,h2,rfl⟩)⟩
  · have : ∀ n,n ≤ s.fl.k.length → nB s L n ∨ ∃ c : Nat,c < n ∧ s.fl.k.getD c 0 = 4 ∧ ¬ sY s L c ∧ nB s L c := by
      intro n
      induction n with
      | zero => exact fun _ => .inl fun c hc => absurd hc (dJ _)
      | succ n ih =>
        intro hn;rcases ih (by omega) with h | ⟨c,h1,h2⟩
        · by_cases q : s.fl.k.getD n 0 = 4 → sY s L n
          · exact .inl (h.step q)
          · refine .inr ⟨n,by omega,Classical.byContradiction fun h4 => q fun h => absurd h h4,fun h4 => q fun _ => h4,h⟩
        · exact .inr ⟨c,by omega,h2⟩
    rcases this _ (aY _) with q | ⟨c,h1,h2,h3,h4⟩
    · exact absurd q h
    · exact ⟨_,.inl ⟨c,h1,h2,h3,h4,rfl⟩⟩
theorem ZR {l : List Int} (h : ∀ i,i + 1 < l.length → l.getD i 0 < l.getD (i + 1) 0) : vK l := by
  have key : ∀ d i,i + d + 1 < l.length → l.getD i 0 < l.getD (i + d + 1) 0 := by
    intro d
    induction d with
    | zero => intro i hi;exact h i hi
    | succ d ih => intro i hi;have a := ih i (by omega);have b := h (i + d + 1) (by omega);rw [show i + (d + 1) + 1 = i + d + 1 + 1 by omega];omega
  refine iV.2 fun i j hi hj hij => ?_
  have := key (j - i - 1) i (by omega)
  rw [show i + (j - i - 1) + 1 = j by omega,jP hi,jP hj] at this
  exact this
theorem IU : ∀ {a b : List Int}, vK a → vK b → (∀ x, x ∈ a ↔ x ∈ b) → a = b
  | [],[],_,_,_ => rfl
  | [],y :: b,_,_,h => absurd ((h y).2 (by simp)) (by simp)
  | x :: a,[],_,_,h => absurd ((h x).1 (by simp)) (by simp)
  | x :: a,y :: b,h1,h2,h => by
      obtain ⟨p1,p2⟩ := kU.1 h1;obtain ⟨q1,q2⟩ := kU.1 h2;have e : x = y := by
        rcases bL.1 ((h x).1 (by simp)) with e | e
        · exact e
        · rcases bL.1 ((h y).2 (by simp)) with e' | e'
          · exact e'.symm
          · have := q1 x e;have := p1 y e';omega
      subst e;rw [IU p2 q2 fun z => ?_]
      have hz := h z;rw [bL,bL] at hz;constructor
      · intro q;rcases hz.1 (.inr q) with e | e
        · subst e;exact absurd (p1 _ q) (by omega)
        · exact e
      · intro q;rcases hz.2 (.inr q) with e | e
        · subst e;exact absurd (q1 _ q) (by omega)
        · exact e
theorem TY {s : lN} {L : List fR} {c : Int} (h : sY s L c) : c ∈ L.map (·.1) := by
  obtain ⟨x,hx⟩ := List.exists_mem_of_length_pos (l := oE L c) (by rw [h.1];omega)
  unfold oE at hx;rw [fZ,decide_eq_true_eq] at hx;exact aQ.2 ⟨x,hx⟩
theorem SM {s : lN} {L : List fR} (h : nB s L s.fl.k.length) (hl : L.length = (kL s.fl 4).length) (ha : vK (L.map (·.1))) : L.map (·.1) = kL s.fl 4 := by
  have hsub : ∀ c,c ∈ kL s.fl 4 → c ∈ L.map (·.1) := fun c hc => by
    obtain ⟨h0,h1,h2⟩ := vR.1 hc;have := TY (h c.toNat (by omega) h2)
    rw [hO h0] at this;exact this
  refine IU ha (tT _ _ _) fun x => ⟨fun hx => Classical.byContradiction fun hn => ?_,hsub x⟩
  obtain ⟨i,hi,hxi⟩ := eE.1 hx;have := kA (l := kL s.fl 4) (m := (L.map (·.1)).eraseIdx i) ((tT _ _ _).imp (fun h => by omega)) fun c hc => by
    obtain ⟨j,hj⟩ := cU.1 (hsub c hc);refine pT.2 ⟨j,fun e => ?_,hj⟩
    subst e;rw [aB hi,hxi] at hj;cases hj;exact hn hc
  rw [List.length_eraseIdx_of_lt hi,dY] at this;rw [dY] at hi;omega
theorem SI (s : lN) (g : iL s.fl) (L : List fR) (b : Int) (hL : L.length ≤ 1000) (hll : ∀ x,x ∈ L → x.2.1.length ≤ 1000 ∧ x.2.2.length ≤ 1000) (r : Int × Int) (hr : LR s L b r) :
    bQ Tryz.prog 17 [.agg (fS s),.agg (jR L b)] [] (.tup [.i r.1,.i r.2]) [] := by
  have hN := g.le;have hkl : (aI s.fl.k).length = s.fl.k.length := aR _;have hLA : (fG L).length = L.length := by simp
  refine dD T Tryz.func17 rfl rfl rfl rfl ?_
  (repeat' (first|refine wS ?_|refine wB ?_|(refine rg 0 (bH (bN rfl rfl) rfl (bH (bN rfl rfl) rfl (iZ ?_))))|(refine rg 1 (aV ?_))|(refine rg 2 (aV ?_))|refine nZ ?_));refine bV (X := {k : Nat // k ≤ s.fl.k.length ∧ nB s L k}) (fun k => [(2,.ptr 0 0),(3,.ptr 1 0),(6,.i (((BW s.fl.k 4 k.1).length : Nat) : Int)),(7,.i (k.1 : Int))]) (fun _ => [.cells (fS s),.cells (jR L b)]) (fun k => s.fl.k.length - k.1) ⟨0,cH _,fun c hc => absurd hc (dJ _)⟩ ⟨[0,1],rfl,(by repeat first|exact trivial|refine ⟨rfl,?_⟩),⟨.inr rfl,.inr rfl,trivial⟩,by decide,gL⟩ ?_
  rintro ⟨k,hk,hall⟩;dsimp only at hk hall ⊢;by_cases hlt : k < s.fl.k.length
  · have qk := eY (l := s.fl.k) (j := (k : Int)) (i := k) 0 hlt (by simp)
    have hos := HJ s.fl.k 4 k;have hol := B8 s.fl.k 4 k;by_cases h4 : s.fl.k.getD k 0 = 4
    case neg =>
      rw [if_neg h4] at hos;have hst := hall.step (fun h => absurd h h4);generalize s.fl.k.getD k 0 = y at *
      (repeat' (first|refine wS ?_|refine wB ?_|refine wK ?_|refine wT ?_|refine wU ?_|(refine rg 3 (mW rfl (fW T rfl (eK T rfl (qW T rfl (vV (aL rfl rfl (by omega)) ?_))))))|(refine rg 5 (fW T rfl (eK T rfl (mW rfl (vV (ix T rfl (by omega) (aE _) qk) (lW T rfl (vV (eN rfl rfl h4) ?_)))))))|(refine iA 4 rfl rfl rfl (by omega) (by omega) ?_)|refine nZ ?_));all_goals exact ⟨⟨k + 1,hlt,hst⟩,by dsimp only;omega,[0,1],rfl,⟨rfl,rfl,by dsimp only;rw [hos];rfl,rfl,trivial⟩,⟨.inr rfl,.inr rfl,trivial⟩,by decide,gL⟩
    rw [if_pos h4] at hos;have hsl : (((BW s.fl.k 4 (k + 1)).length : Nat) : Int) = (((BW s.fl.k 4 k).length : Nat) : Int) + 1 := by rw [hos];simp
    by_cases hg : sY s L k
    · have cg := TZ s g L b k hL hll true ⟨fun _ => hg,fun _ => rfl⟩
      have hst := hall.step (fun _ => hg);generalize hn0 : (BW s.fl.k 4 k).length = n at *;generalize s.fl.k.getD k 0 = y at *
      (repeat' (first|refine wS ?_|refine wB ?_|refine wK ?_|refine wT ?_|refine wU ?_|(refine rg 3 (mW rfl (fW T rfl (eK T rfl (qW T rfl (vV (aL rfl rfl (by omega)) ?_))))))|(refine rg 5 (fW T rfl (eK T rfl (mW rfl (vV (ix T rfl (by omega) (aE _) qk) (lW T rfl (vV (gH rfl rfl h4) ?_)))))))|(refine iA 6 rfl rfl rfl (by omega) (by omega) ?_)|(refine rg 7 (lW T rfl (lW T rfl (mW rfl (vV (kC (cg)) (vV (bB rfl) ?_))))))|(refine iA 4 rfl rfl rfl (by omega) (by omega) ?_)|refine nZ ?_));all_goals exact ⟨⟨k + 1,hlt,hst⟩,by dsimp only;omega,[0,1],rfl,⟨rfl,rfl,congrArg (fun n : Int => some (AV.i n)) hsl.symm,rfl,trivial⟩,⟨.inr rfl,.inr rfl,trivial⟩,by decide,gL⟩
    · have cg := TZ s g L b k hL hll false ⟨fun h => Bool.noConfusion h,fun h => absurd h hg⟩
      have e : r = ((k : Int),25) := by
        rcases hr with ⟨c,h1,h2,h3,h5,e⟩ | ⟨h,_⟩ | ⟨h,_⟩
        · by_cases q : c < k
          · exact absurd (hall c q h2) h3
          · by_cases q2 : k < c
            · exact absurd (h5 k q2 h4) hg
            · obtain rfl : c = k := by omega
              exact e
        · exact absurd (h k hlt h4) hg
        · exact absurd (h k hlt h4) hg
      subst e;generalize hn0 : (BW s.fl.k 4 k).length = n at *;generalize s.fl.k.getD k 0 = y at *
      (repeat' (first|refine wS ?_|refine wB ?_|refine wK ?_|refine wR ?_|refine wT ?_|(refine rg 3 (mW rfl (fW T rfl (eK T rfl (qW T rfl (vV (aL rfl rfl (by omega)) ?_))))))|(refine rg 5 (fW T rfl (eK T rfl (mW rfl (vV (ix T rfl (by omega) (aE _) qk) (lW T rfl (vV (gH rfl rfl h4) ?_)))))))|(refine iA 6 rfl rfl rfl (by omega) (by omega) ?_)|(refine rg 7 (lW T rfl (lW T rfl (mW rfl (vV (kC (cg)) (vV (bB rfl) ?_))))))|(refine rg 8 (mW rfl (iZ ?_)))|refine nZ ?_));all_goals exact rQ
  obtain rfl : k = s.fl.k.length := by omega
  (repeat' (first|refine wS ?_|refine wE ?_|refine wU ?_|(refine rg 3 (mW rfl (fW T rfl (eK T rfl (qW T rfl (vV (bG rfl rfl (by omega)) ?_))))))|refine nZ ?_));have cB := HF s g
  have hbad : ¬ (L.map (·.1) = kL s.fl 4 ∧ nG s.fl ≤ b) → r = (-1,25) := fun hn => by
    rcases hr with ⟨c,h1,h2,h3,h5,e⟩ | ⟨_,h1,h2,_⟩ | ⟨_,_,e⟩
    · exact absurd (hall c h1 h2) h3
    · exact absurd ⟨h1,h2⟩ hn
    · exact e
  by_cases hlen : L.length = (kL s.fl 4).length
  case neg =>
    obtain rfl := hbad (fun h => hlen (by rw [← h.1,dY]))
    have hlen2 : ¬ L.length = (BW s.fl.k 4 s.fl.k.length).length := hlen
    (repeat' (first|refine wS ?_|refine wR ?_|refine wT ?_|(refine aN (id := 9) 65 zZ4 (rM 32 12) zZ5 bM rfl (by decide +kernel) (dP T rfl (dO T rfl (dV rfl (eF T rfl rfl) (dN rfl (dV rfl (lC rfl rfl (by omega)) (dN rfl (tG rfl (tG rfl (dG ?_)))))))));refine tG rfl (tG rfl (dV rfl (eP rfl rfl) (dE ?_))))|(refine rg 10 (iZ ?_))|refine nZ ?_));all_goals exact rQ
  have hlen2 : L.length = (BW s.fl.k 4 s.fl.k.length).length := hlen;by_cases hb : nG s.fl ≤ b
  case neg =>
    obtain rfl := hbad (fun h => hb h.2)
    (repeat' (first|refine wS ?_|refine wR ?_|refine wT ?_|(refine aN (id := 9) 65 zZ4 (rM 32 12) zZ5 bM rfl (by decide +kernel) (dP T rfl (dO T rfl (dV rfl (eF T rfl rfl) (dN rfl (dV rfl (gE rfl rfl (by omega)) (dN rfl (tP T rfl (tO T rfl (tL T ?_)))))))));refine dT rfl (kC (cB)) (dT rfl (aL rfl rfl (by omega)) (dV rfl (cY rfl rfl) (dE ?_))))|(refine rg 10 (iZ ?_))|refine nZ ?_));all_goals exact rQ
  (repeat' (first|refine wS ?_|refine wB ?_|refine wK ?_|refine wU ?_|(refine aN (id := 9) 65 zZ4 (rM 32 12) zZ5 bM rfl (by decide +kernel) (dP T rfl (dO T rfl (dV rfl (eF T rfl rfl) (dN rfl (dV rfl (gE rfl rfl (by omega)) (dN rfl (tP T rfl (tO T rfl (tL T ?_)))))))));refine dT rfl (kC (cB)) (dT rfl (bG rfl rfl (by omega)) (dV rfl (cY rfl rfl) (dE ?_))))|(refine rg 11 (aV ?_))|refine nZ ?_));refine bV (X := {i : Nat // 1 ≤ i ∧ i ≤ L.length + 1 ∧ ∀ j,j + 1 < i → j + 1 < L.length → (L.map (·.1)).getD j 0 < (L.map (·.1)).getD (j + 1) 0}) (fun i => [(3,.ptr 0 0),(8,.i (i.1 : Int))]) (fun _ => [.cells (jR L b)]) (fun i => L.length + 1 - i.1) ⟨1,aY _,by omega,fun j h => by omega⟩ ⟨[1],rfl,(by repeat first|exact trivial|refine ⟨rfl,?_⟩),⟨.inr rfl,trivial⟩,by decide,gL⟩ ?_
  rintro ⟨i,hi1,hi2,hasc⟩;dsimp only at hi1 hi2 hasc ⊢;by_cases hil : i < L.length
  case neg =>
    have hA : vK (L.map (·.1)) := ZR fun j hj => by rw [dY] at hj;exact hasc j (by omega) hj
    have hoe := SM hall hlen hA;have e : r = (-1,0) := by
      rcases hr with ⟨c,h1,h2,h3,h5,e⟩ | ⟨_,_,_,e⟩ | ⟨_,h,_⟩
      · exact absurd (hall c h1 h2) h3
      · exact e
      · exact absurd ⟨hoe,hb⟩ h
    subst e
    (repeat' (first|refine wS ?_|refine wR ?_|refine wE ?_|refine wU ?_|(refine rg 12 (mW rfl (eK T rfl (qW T rfl (vV (bG rfl rfl (by omega)) ?_)))))|(refine rg 16 (iZ ?_))|refine nZ ?_));all_goals exact rQ
  have q1 : (fG L)[(i : Int).toNat]? = some (jH L[i]) := qJ (by rw [aX,aB hil])
  have q0 : (fG L)[((i : Int) - 1).toNat]? = some (jH L[i - 1]) := qJ (by rw [show ((i : Int) - 1).toNat = i - 1 by omega,aB (by omega)])
  have m1 : (L.map (·.1)).getD i 0 = L[i].1 := by rw [jP (by rw [dY];exact hil),ZX]
  have m0 : (L.map (·.1)).getD (i - 1) 0 = L[i - 1].1 := by rw [jP (by rw [dY];omega),ZX]
  generalize L[i] = x at *;generalize L[i - 1] = y at *;by_cases hc : y.1 < x.1
  · have hasc2 : ∀ j,j + 1 < i + 1 → j + 1 < L.length → (L.map (·.1)).getD j 0 < (L.map (·.1)).getD (j + 1) 0 := fun j h1 h2 => by
      by_cases e : j + 1 = i
      · subst e;rw [Nat.add_sub_cancel] at m0;rw [m0,m1];exact hc
      · exact hasc j (by omega) h2
    (repeat' (first|refine wS ?_|refine wB ?_|refine wK ?_|refine wT ?_|refine wU ?_|(refine rg 12 (mW rfl (eK T rfl (qW T rfl (vV (aL rfl rfl (by omega)) ?_)))))|(refine aN (id := 14) 65 zZ6 (rM 51 14) zZ7 bM rfl (by decide +kernel) (dP T rfl (dO T rfl (dN rfl (dV rfl (fN rfl rfl (by omega) (by omega)) (dV rfl (ix T rfl (by omega) (iH _) q0) (dP T rfl (dO T rfl (dP T rfl (dL T ?_)))))))));refine dN rfl (dV rfl (ix T rfl (by omega) (iH _) q1) (dP T rfl (dO T rfl (dV rfl (kG rfl rfl (by omega)) (dE ?_))))))|(refine iA 13 rfl rfl rfl (by omega) (by omega) ?_)|refine nZ ?_));all_goals exact ⟨⟨i + 1,by omega,by omega,hasc2⟩,by dsimp only;omega,[0],rfl,(by repeat first|exact trivial|refine ⟨rfl,?_⟩),⟨.inr rfl,trivial⟩,by decide,gL⟩
  · obtain rfl := hbad (fun h => by
      have hA : vK (L.map (·.1)) := by rw [h.1];exact tT _ _ _
      have := iV.1 hA (i - 1) i (by rw [dY];omega) (by rw [dY];omega) (by omega)
      rw [jP (by rw [dY];omega)] at m0 m1
      rw [m0,m1] at this
      exact hc this)
    (repeat' (first|refine wS ?_|refine wB ?_|refine wK ?_|refine wR ?_|refine wT ?_|(refine rg 12 (mW rfl (eK T rfl (qW T rfl (vV (aL rfl rfl (by omega)) ?_)))))|(refine aN (id := 14) 65 zZ6 (rM 51 14) zZ7 bM rfl (by decide +kernel) (dP T rfl (dO T rfl (dN rfl (dV rfl (fN rfl rfl (by omega) (by omega)) (dV rfl (ix T rfl (by omega) (iH _) q0) (dP T rfl (dO T rfl (dP T rfl (dL T ?_)))))))));refine dN rfl (dV rfl (ix T rfl (by omega) (iH _) q1) (dP T rfl (dO T rfl (dV rfl (mO rfl rfl (by omega)) (dE ?_))))))|(refine rg 15 (iZ ?_))|refine nZ ?_));all_goals exact rQ
theorem GW (l w : List Int) (hl : l.length ≤ 1000000) : bQ Tryz.prog 48 [.rowE (aI l) 1,.rowE (aI w) 1] [] (.i (qG w l)) [] := by
  have hll : (aI l).length = l.length := aR _;have hwl : (aI w).length = w.length := aR _;refine dD T Tryz.func48 rfl rfl rfl rfl ?_
  (repeat' (first|refine wS ?_|refine wB ?_|(refine rg 0 (aV ?_))|(refine rg 1 (aV ?_))|(refine rg 2 (aV ?_))|refine nZ ?_));refine bV (X := {p : Nat × Int // 1 ≤ p.1 ∧ p.1 ≤ l.length + 1 ∧ D7 w p.2 (l.drop p.1) = qG w l}) (fun p => [(0,.rowE (aI l) 1),(1,.rowE (aI w) 1),(5,.i p.1.2),(6,.i (p.1.1 : Int))]) (fun _ => []) (fun p => l.length + 1 - p.1.1) ⟨(1,0),aY _,by dsimp only;omega,rfl⟩ ⟨[],rfl,(by repeat first|exact trivial|refine ⟨rfl,?_⟩),trivial,dK,gL⟩ ?_
  rintro ⟨⟨j,n⟩,hj1,hj2,hn⟩;dsimp only at hj1 hj2 hn ⊢;by_cases hlt : j < l.length
  · rw [bK hlt,M9] at hn;have q1 : (aI l)[(j : Int).toNat]? = some [AV.i l[j]] := by rw [aX];exact iF hlt
    generalize l[j] = c at *;by_cases h1 : 0 ≤ c
    · by_cases h1b : c < w.length
      · have q2 := eY (l := w) (j := c) (i := c.toNat) (-1) (by omega) (by omega)
        generalize w.getD c.toNat (-1) = y at *;by_cases h2 : y = -1
        · rw [if_neg (fun h => h.2.2 h2)] at hn;rw [← hn]
          (repeat' (first|refine wS ?_|refine wB ?_|refine wK ?_|refine wR ?_|refine wT ?_|refine wU ?_|(refine rg 3 (eX rfl (qW T rfl (vV (aL rfl rfl (by omega)) ?_))))|(refine rg 5 (eX rfl (vV (ix T rfl (by omega) (aE _) q1) (lW T rfl (vV (bG rfl rfl (by omega)) (mW rfl (yN rfl (yN rfl (yV (ix T rfl (by omega) (aE _) q1) (yL T ?_)))))))));refine yN rfl (gT (qW T rfl (yV (kG rfl rfl (by omega)) (pV ?_)))))|(refine rg 7 (eX rfl (mW rfl (vV (ix T rfl (by omega) (aE _) q1) (lW T rfl (vV (ix T rfl (by omega) (aE _) q2) (lW T rfl (vV (gH rfl rfl h2) ?_))))))))|(refine rg 8 (aV ?_))|refine nZ ?_));all_goals exact rQ
        · rw [if_pos ⟨h1,h1b,h2⟩] at hn
          (repeat' (first|refine wS ?_|refine wB ?_|refine wK ?_|refine wT ?_|refine wU ?_|(refine rg 3 (eX rfl (qW T rfl (vV (aL rfl rfl (by omega)) ?_))))|(refine rg 5 (eX rfl (vV (ix T rfl (by omega) (aE _) q1) (lW T rfl (vV (bG rfl rfl (by omega)) (mW rfl (yN rfl (yN rfl (yV (ix T rfl (by omega) (aE _) q1) (yL T ?_)))))))));refine yN rfl (gT (qW T rfl (yV (kG rfl rfl (by omega)) (pV ?_)))))|(refine rg 7 (eX rfl (mW rfl (vV (ix T rfl (by omega) (aE _) q1) (lW T rfl (vV (ix T rfl (by omega) (aE _) q2) (lW T rfl (vV (eN rfl rfl h2) ?_))))))))|(refine rg 9 (eX rfl (eX rfl (vV (ix T rfl (by omega) (aE _) q1) (lW T rfl (vV (ix T rfl (by omega) (aE _) q2) (lW T rfl (vV (sC rfl rfl) (aV ?_)))))))))|(refine iA 4 rfl rfl rfl (by omega) (by omega) ?_)|refine nZ ?_));all_goals exact ⟨⟨(j + 1,max n y),by dsimp only;omega,by dsimp only;omega,hn⟩,by dsimp only;omega,[],rfl,(by repeat first|exact trivial|refine ⟨rfl,?_⟩),trivial,dK,gL⟩
      · rw [if_neg (fun h => h1b h.2.1)] at hn;rw [← hn]
        (repeat' (first|refine wS ?_|refine wB ?_|refine wK ?_|refine wR ?_|refine wT ?_|(refine rg 3 (eX rfl (qW T rfl (vV (aL rfl rfl (by omega)) ?_))))|(refine rg 5 (eX rfl (vV (ix T rfl (by omega) (aE _) q1) (lW T rfl (vV (bG rfl rfl (by omega)) (mW rfl (yN rfl (yN rfl (yV (ix T rfl (by omega) (aE _) q1) (yL T ?_)))))))));refine yN rfl (gT (qW T rfl (yV (mO rfl rfl (by omega)) (pV ?_)))))|(refine rg 6 (aV ?_))|refine nZ ?_));all_goals exact rQ
    · rw [if_neg (fun h => h1 h.1)] at hn;rw [← hn]
      (repeat' (first|refine wS ?_|refine wB ?_|refine wK ?_|refine wR ?_|refine wT ?_|(refine rg 3 (eX rfl (qW T rfl (vV (aL rfl rfl (by omega)) ?_))))|(refine rg 5 (eX rfl (vV (ix T rfl (by omega) (aE _) q1) (lW T rfl (vV (aL rfl rfl (by omega)) (mV ?_)))));(iterate 7 refine gF ?_);refine pV ?_)|(refine rg 6 (aV ?_))|refine nZ ?_));all_goals exact rQ
  · rw [fK (by omega)] at hn
    rw [← hn];rw [show D7 w n [] = n from rfl]
    (repeat' (first|refine wS ?_|refine wR ?_|refine wE ?_|refine wU ?_|(refine rg 3 (eX rfl (qW T rfl (vV (bG rfl rfl (by omega)) ?_))))|(refine rg 10 (mW rfl (aV ?_)))|refine nZ ?_));all_goals exact rQ
theorem JU (l : List fR) (b c : Int) (w : List Int) (hl : l.length ≤ 1000000) (hll : ∀ x,x ∈ l → x.2.1.length ≤ 1000000 ∧ x.2.2.length ≤ 1000000) :
    bQ Tryz.prog 18 [.agg (jR l b),.i c,.rowE (aI w) 1] [] (zN9 (BT l b c w)) [] := by
  have hLA : (fG l).length = l.length := by simp
  refine dD T Tryz.func18 rfl rfl rfl rfl ?_
  (repeat' (first|refine wS ?_|refine wB ?_|(refine rg 0 (bH (bN rfl rfl) rfl (D2 rfl (aV ?_))))|(refine rg 1 (aV ?_))|refine nZ ?_));refine bV (X := {k : Nat // k ≤ l.length ∧ (l.drop k).find? (fun x => decide (x.1 = c)) = l.find? (fun x => decide (x.1 = c))}) (fun k => [(1,.i c),(2,.rowE (aI w) 1),(3,.ptr 0 0),(9,.i (k.1 : Int))]) (fun _ => [.cells (jR l b)]) (fun k => l.length - k.1) ⟨0,cH _,rfl⟩ ⟨[0],rfl,(by repeat first|exact trivial|refine ⟨rfl,?_⟩),⟨.inr rfl,trivial⟩,by decide,gL⟩ ?_
  rintro ⟨k,hk,hf⟩;dsimp only at hk hf ⊢;by_cases hlt : k < l.length
  case neg =>
    rw [fK (by omega)] at hf
    have e : BT l b c w = (0,0,4) := by unfold BT;rw [← hf];rfl
    rw [e]
    (repeat' (first|refine wS ?_|refine wR ?_|refine wE ?_|refine wU ?_|(refine rg 2 (mW rfl (eK T rfl (qW T rfl (vV (bG rfl rfl (by omega)) ?_)))))|(refine rg 17 (D2 rfl (aV ?_)))|refine nZ ?_));all_goals exact rQ
  have q1 : (fG l)[(k : Int).toNat]? = some (jH l[k]) := qJ (by rw [aX,aB hlt])
  obtain ⟨la,lb⟩ := hll _ (dB hlt);rw [bK hlt,List.find?_cons] at hf;generalize l[k] = x at *;obtain ⟨y,A,B⟩ := x;dsimp only at la lb hf;by_cases hy : y = c
  case neg =>
    rw [decide_eq_false hy] at hf
    (repeat' (first|refine wS ?_|refine wB ?_|refine wK ?_|refine wE ?_|refine wT ?_|(refine rg 2 (mW rfl (eK T rfl (qW T rfl (vV (aL rfl rfl (by omega)) ?_)))))|(refine rg 4 (eK T rfl (mW rfl (vV (ix T rfl (by omega) (iH _) q1) (eK T rfl (mW rfl (vV (lC rfl rfl hy) ?_)))))))|(refine iA 3 rfl rfl rfl (by omega) (by omega) ?_)|refine nZ ?_));all_goals exact ⟨⟨k + 1,hlt,hf⟩,by dsimp only;omega,[0],rfl,(by repeat first|exact trivial|refine ⟨rfl,?_⟩),⟨.inr rfl,trivial⟩,by decide,gL⟩
  subst hy;rw [decide_eq_true rfl] at hf;have hr : BT l b y w = XG (y,A,B) b w := by unfold BT;rw [← hf]
  rw [hr];unfold XG;have ca := GW A w la;have cb := GW B w lb;generalize qG w A = ta at *;generalize qG w B = tb at *
  (repeat' (first|refine wS ?_|refine wB ?_|refine wK ?_|refine wT ?_|refine wU ?_|(refine rg 2 (mW rfl (eK T rfl (qW T rfl (vV (aL rfl rfl (by omega)) ?_)))))|(refine rg 4 (eK T rfl (mW rfl (vV (ix T rfl (by omega) (iH _) q1) (eK T rfl (mW rfl (vV (gE rfl rfl rfl) ?_)))))))|(refine rg 5 (eK T rfl (mW rfl (vV (ix T rfl (by omega) (iH _) q1) (eK T rfl (mW rfl (vV (kC (ca)) (aV ?_))))))))|(refine rg 6 (eK T rfl (mW rfl (vV (ix T rfl (by omega) (iH _) q1) (eK T rfl (mW rfl (vV (kC (cb)) (aV ?_))))))))|refine nZ ?_));refine kT [(3,.ptr 0 0),(10,.i ta),(11,.i tb)] [.cells (jR l b)] ⟨[0],rfl,(by repeat first|exact trivial|refine ⟨rfl,?_⟩),⟨.inr rfl,trivial⟩,by decide,gL⟩ ?_
  clear hr hf q1 ca cb la lb;by_cases h1 : ta < 0
  · by_cases h2 : tb < 0
    · rw [if_pos (by omega)]
      (repeat' (first|refine wS ?_|refine wR ?_|refine wT ?_|(refine rg 7 (mW rfl (vV (aL rfl rfl (by omega)) (mW rfl (yN rfl (yV (aL rfl rfl (by omega)) (pV ?_)))))))|(refine rg 8 (D2 rfl (aV ?_)))|refine nZ ?_));all_goals exact rQ
    · by_cases h3 : b < tb
      · rw [if_neg (by omega),if_pos (by omega),if_pos (by omega)]
        (repeat' (first|refine wS ?_|refine wK ?_|refine wR ?_|refine wT ?_|refine wU ?_|(refine rg 7 (mW rfl (vV (aL rfl rfl (by omega)) (mW rfl (yN rfl (yV (bG rfl rfl (by omega)) (pV ?_)))))))|(refine rg 9 (aV ?_))|(refine rg 10 (mW rfl (aV ?_)))|(refine rg 11 (mW rfl (vV (aL rfl rfl (by omega)) (mV ?_)));(iterate 3 refine gF ?_);(iterate 3 refine gU ?_);refine gF (pV ?_))|(refine rg 12 (aV ?_))|(refine rg 13 (mW rfl (aV ?_)))|(refine rg 14 (mW rfl (eK T rfl (vV (oC rfl rfl (by omega)) ?_))))|(refine rg 15 (eX rfl (D2 rfl (aV ?_))))|refine nZ ?_));all_goals exact rQ
      · rw [if_neg (by omega),if_pos (by omega),if_neg (by omega)]
        (repeat' (first|refine wS ?_|refine wK ?_|refine wR ?_|refine wT ?_|refine wU ?_|(refine rg 7 (mW rfl (vV (aL rfl rfl (by omega)) (mW rfl (yN rfl (yV (bG rfl rfl (by omega)) (pV ?_)))))))|(refine rg 9 (aV ?_))|(refine rg 10 (mW rfl (aV ?_)))|(refine rg 11 (mW rfl (vV (aL rfl rfl (by omega)) (mV ?_)));(iterate 3 refine gF ?_);(iterate 3 refine gU ?_);refine gF (pV ?_))|(refine rg 12 (aV ?_))|(refine rg 13 (mW rfl (aV ?_)))|(refine rg 14 (mW rfl (eK T rfl (vV (rL rfl rfl (by omega)) ?_))))|(refine rg 16 (eX rfl (D2 rfl (aV ?_))))|refine nZ ?_));all_goals exact rQ
  · by_cases h2 : 0 ≤ tb
    · by_cases h4 : tb < ta
      · by_cases h3 : b < tb
        · rw [if_neg (by omega),if_pos (by omega),if_pos (by omega)]
          (repeat' (first|refine wS ?_|refine wK ?_|refine wR ?_|refine wT ?_|refine wU ?_|(refine rg 7 (mW rfl (vV (bG rfl rfl (by omega)) (mV ?_)));(iterate 2 refine gF ?_);refine pV ?_)|(refine rg 9 (aV ?_))|(refine rg 10 (mW rfl (aV ?_)))|(refine rg 11 (mW rfl (vV (bG rfl rfl (by omega)) (mW rfl (yN rfl (yV (mO rfl rfl (by omega)) (yN rfl (yN rfl (yN rfl (yV (aL rfl rfl (by omega)) ?_)))))))));refine gT (pW rfl (pV ?_)))|(refine rg 12 (aV ?_))|(refine rg 13 (mW rfl (aV ?_)))|(refine rg 14 (mW rfl (eK T rfl (vV (oC rfl rfl (by omega)) ?_))))|(refine rg 15 (eX rfl (D2 rfl (aV ?_))))|refine nZ ?_));all_goals exact rQ
        · rw [if_neg (by omega),if_pos (by omega),if_neg (by omega)]
          (repeat' (first|refine wS ?_|refine wK ?_|refine wR ?_|refine wT ?_|refine wU ?_|(refine rg 7 (mW rfl (vV (bG rfl rfl (by omega)) (mV ?_)));(iterate 2 refine gF ?_);refine pV ?_)|(refine rg 9 (aV ?_))|(refine rg 10 (mW rfl (aV ?_)))|(refine rg 11 (mW rfl (vV (bG rfl rfl (by omega)) (mW rfl (yN rfl (yV (mO rfl rfl (by omega)) (yN rfl (yN rfl (yN rfl (yV (aL rfl rfl (by omega)) ?_)))))))));refine gT (pW rfl (pV ?_)))|(refine rg 12 (aV ?_))|(refine rg 13 (mW rfl (aV ?_)))|(refine rg 14 (mW rfl (eK T rfl (vV (rL rfl rfl (by omega)) ?_))))|(refine rg 16 (eX rfl (D2 rfl (aV ?_))))|refine nZ ?_));all_goals exact rQ
      · by_cases h3 : b < ta
        · rw [if_neg (by omega),if_neg (by omega),if_pos (by omega)]
          (repeat' (first|refine wS ?_|refine wK ?_|refine wR ?_|refine wT ?_|refine wU ?_|(refine rg 7 (mW rfl (vV (bG rfl rfl (by omega)) (mV ?_)));(iterate 2 refine gF ?_);refine pV ?_)|(refine rg 9 (aV ?_))|(refine rg 10 (mW rfl (aV ?_)))|(refine rg 11 (mW rfl (vV (bG rfl rfl (by omega)) (mW rfl (yN rfl (yV (mO rfl rfl (by omega)) (yN rfl (yN rfl (yN rfl (yV (bG rfl rfl (by omega)) ?_)))))))));refine gT (pW rfl (pV ?_)))|(refine rg 14 (mW rfl (eK T rfl (vV (oC rfl rfl (by omega)) ?_))))|(refine rg 15 (eX rfl (D2 rfl (aV ?_))))|refine nZ ?_));all_goals exact rQ
        · rw [if_neg (by omega),if_neg (by omega),if_neg (by omega)]
          (repeat' (first|refine wS ?_|refine wK ?_|refine wR ?_|refine wU ?_|(refine rg 7 (mW rfl (vV (bG rfl rfl (by omega)) (mV ?_)));(iterate 2 refine gF ?_);refine pV ?_)|(refine rg 9 (aV ?_))|(refine rg 10 (mW rfl (aV ?_)))|(refine rg 11 (mW rfl (vV (bG rfl rfl (by omega)) (mW rfl (yN rfl (yV (mO rfl rfl (by omega)) (yN rfl (yN rfl (yN rfl (yV (bG rfl rfl (by omega)) ?_)))))))));refine gT (pW rfl (pV ?_)))|(refine rg 14 (mW rfl (eK T rfl (vV (rL rfl rfl (by omega)) ?_))))|(refine rg 16 (eX rfl (D2 rfl (aV ?_))))|refine nZ ?_));all_goals exact rQ
    · by_cases h3 : b < ta
      · rw [if_neg (by omega),if_neg (by omega),if_pos (by omega)]
        (repeat' (first|refine wS ?_|refine wK ?_|refine wR ?_|refine wT ?_|refine wU ?_|(refine rg 7 (mW rfl (vV (bG rfl rfl (by omega)) (mV ?_)));(iterate 2 refine gF ?_);refine pV ?_)|(refine rg 9 (aV ?_))|(refine rg 10 (mW rfl (aV ?_)))|(refine rg 11 (mW rfl (vV (bG rfl rfl (by omega)) (mW rfl (yN rfl (yV (kG rfl rfl (by omega)) (yM ?_))))));(iterate 3 refine gF ?_);refine gT (pW rfl (pV ?_)))|(refine rg 14 (mW rfl (eK T rfl (vV (oC rfl rfl (by omega)) ?_))))|(refine rg 15 (eX rfl (D2 rfl (aV ?_))))|refine nZ ?_));all_goals exact rQ
      · rw [if_neg (by omega),if_neg (by omega),if_neg (by omega)]
        (repeat' (first|refine wS ?_|refine wK ?_|refine wR ?_|refine wU ?_|(refine rg 7 (mW rfl (vV (bG rfl rfl (by omega)) (mV ?_)));(iterate 2 refine gF ?_);refine pV ?_)|(refine rg 9 (aV ?_))|(refine rg 10 (mW rfl (aV ?_)))|(refine rg 11 (mW rfl (vV (bG rfl rfl (by omega)) (mW rfl (yN rfl (yV (kG rfl rfl (by omega)) (yM ?_))))));(iterate 3 refine gF ?_);refine gT (pW rfl (pV ?_)))|(refine rg 14 (mW rfl (eK T rfl (vV (rL rfl rfl (by omega)) ?_))))|(refine rg 16 (eX rfl (D2 rfl (aV ?_))))|refine nZ ?_));all_goals exact rQ
theorem I6 (f : jD) : ∀ (l : List Int) (out : List Int), (l.foldl (lM f) out).length = out.length
  | [],_ => rfl
  | c :: l,out => by
    rw [kQ,I6 f l];unfold lM;split <;> simp
theorem RZ (s : lN) (g : iL s.fl) (st : E4) (hrl : st.rb.length ≤ 1000000) (hdl : st.dd.length ≤ 1000000) : bQ Tryz.prog 21 [.agg (fS s),.agg (oW st)] [] (.rowE (aI (pZ s.fl st.rb st.dd)) 1) [] := by
  have hN := g.le;have hkl : (aI s.fl.k).length = s.fl.k.length := aR _;have hrbl : (nO st.rb).length = st.rb.length := by simp
  have hddl : (aI st.dd).length = st.dd.length := aR _;have hroff := fun c => JV s g c
  have hrw := fun c => H6 s g c
  have hwrng : ∀ c (i : Nat) (x : Int),(lT s.fl c)[i]? = some x → 0 ≤ x ∧ x < s.fl.k.length := fun c i x hx => by
    unfold lT at hx;split at hx
    · rename_i h;obtain ⟨h1,h2,_⟩ := jG.1 h.1;obtain ⟨b,e1,e2,_⟩ := MO g (c := c.toNat) (by omega) h.2 (aA.1 hx).1
      rw [e1] at hx;cases hx;omega
    · simp at hx
  have hwlen : ∀ c,(lT s.fl c).length ≤ 400 := fun c => by
    unfold lT;split
    · rename_i h;obtain ⟨h1,h2,_⟩ := jG.1 h.1;rw [rE];have := zZ g c.toNat (by omega);omega
    · simp
  have hwrg : ∀ c,c ∈ bO s.fl → 0 ≤ c ∧ c < s.fl.k.length := fun c hc => by obtain ⟨h1,h2,_⟩ := jG.1 hc;exact ⟨h1,h2⟩
  refine qR (by simp : (pZ s.fl st.rb st.dd).length = (aI (pZ s.fl st.rb st.dd)).length) (kP (aM _)) ?_
  refine dD T Tryz.func21 rfl rfl rfl rfl ?_
  (repeat' (first|refine wS ?_|refine wB ?_|(refine rg 0 (bH (bN rfl rfl) rfl (bH (bN rfl rfl) rfl (aV ?_))))|(refine rg 1 (fW T rfl (eK T rfl (qW T rfl (bH (by exact tX T rfl rfl rfl rfl (by omega) (by omega) (by dsimp only;omega) (by omega) (by decide)) rfl ?_))));refine aV ?_)|(refine rg 2 (aV ?_))|refine nZ ?_));refine bV (X := {p : Nat × List Int // p.1 ≤ st.rb.length ∧ (nN s.fl (st.rb.take p.1)).1 = p.2 ∧ p.2.length = s.fl.k.length}) (fun p => [(2, .ptr 0 0), (3, .ptr 1 0), (5, .sl 2 0 s.fl.k.length 1), (6, .i (p.1.1 : Int))])
    (fun p => [.cells (fS s),.cells (oW st),.arr (aI p.1.2) 1]) (fun p => st.rb.length - p.1.1) ⟨(0,List.replicate s.fl.k.length 0),cH _,rfl,by simp⟩ ⟨[0,1,2],rfl,⟨rfl,rfl,congrArg (fun n : Nat => some (AV.sl 2 0 n 1)) hkl,rfl,trivial⟩,⟨.inr rfl,.inr rfl,.inr (aC rfl (by dsimp only;rw [hkl,aX];exact (vI (f := fun n : Int => [AV.i n]) (a := 0) (n := s.fl.k.length)).symm) (aM _)),trivial⟩,by decide,gL⟩ ?_
  rintro ⟨⟨k,out⟩,hk,ho,hol⟩;dsimp only at hk ho hol ⊢;by_cases hlt : k < st.rb.length
  · have qr : (nO st.rb)[(k : Int).toNat]? = some (H7 st.rb[k]) := by rw [aX];exact uM hlt
    have hnx : (nN s.fl (st.rb.take (k + 1))).1 = (N6 s.fl (nN s.fl (st.rb.take k)) st.rb[k]).1 := by
      unfold nN;rw [aJ hlt,lJ];rfl
    generalize st.rb[k] = r at *;obtain ⟨rc,rg1,rk,rr,rm,rd⟩ := r;have cO := hroff rc;have hwr := hwrng rc;have hwl := hwlen rc;unfold N6 at hnx;dsimp only at hnx;generalize lT s.fl rc = w at *;have hil : (aI w).length = w.length := aR _;have hfin : (nN s.fl (st.rb.take (k + 1))).1 = if rd = true then out else rV (max rr rm) w (w.length - 1) out := by
      rw [hnx];by_cases hd : rd = true
      · rw [if_pos (.inl hd),if_pos hd,ho]
      · rw [if_neg hd];by_cases he : w = []
        · rw [if_pos (.inr he),he,ho];rfl
        · rw [if_neg (fun h => h.elim hd he),ho]
    clear hnx
    (repeat' (first|refine wS ?_|refine wB ?_|refine wK ?_|refine wT ?_|(refine rg 3 (mW rfl (eK T rfl (qW T rfl (vV (aL rfl rfl (by omega)) ?_)))))|(refine rg 5 (eK T rfl (mW rfl (vV (ix T rfl (by omega) (jE _) qr) (lW T rfl (bH (cX T rfl) rfl (bJ T rfl rfl rfl rfl rfl rfl (by decide) rfl ?_)))))))|(refine rg 6 (lW T rfl (eK T rfl (vV (kC (cO)) (aV ?_)))))|(refine rg 7 (aV ?_))|refine nZ ?_));refine bV (X := {i : Nat // (rd = true → i = 0) ∧ i ≤ w.length - 1}) (fun i => [(2, .ptr 0 0), (3, .ptr 1 0), (5, .sl 2 0 s.fl.k.length 1), (6, .i (k : Int)), (7, .ptr 3 0), (8, .rowE (aI w) 1), (9, .i (i.1 : Int))])
      (fun i => [.cells (fS s),.cells (oW st),.arr (aI (rV (max rr rm) w i.1 out)) 1,.cells (H7 (rc,rg1,rk,rr,rm,rd))]) (fun i => w.length - 1 - i.1) ⟨0,fun _ => rfl,cH _⟩ ⟨[0,1,2,3],rfl,(by repeat first|exact trivial|refine ⟨rfl,?_⟩),⟨.inr rfl,.inr rfl,.inr (aC rfl rfl (aM _)),.inr rfl,trivial⟩,by decide,gL⟩ ?_
    rintro ⟨i,hid,hi⟩;dsimp only at hid hi ⊢;have hbl := C4 (max rr rm) w i out;by_cases hie : i + 1 < w.length
    · cases rd with
      | true =>
        have h0 := hid rfl;subst h0;rw [if_pos rfl] at hfin;have hb0 : rV (max rr rm) w 0 out = out := rfl;rw [hb0]
        (repeat' (first|refine wS ?_|refine wE ?_|refine wU ?_|(refine rg 8 (mW rfl (vV (bP rfl rfl (by omega) (by omega)) (mW rfl (qW T rfl (vV (aL rfl rfl (by omega)) (mW rfl (yP T rfl (yO T rfl (yV (bB rfl) ?_)))))))));refine pV ?_)|(refine iA 4 rfl rfl rfl (by omega) (by omega) ?_)|refine nZ ?_));all_goals exact ⟨⟨(k + 1,out),hlt,hfin,hol⟩,by dsimp only;omega,[0,1,2],rfl,(by repeat first|exact trivial|refine ⟨rfl,?_⟩),⟨.inr rfl,.inr rfl,.inr (aC rfl rfl (aM _)),trivial⟩,by decide,gL⟩
      | false =>
        obtain ⟨x,hx⟩ : ∃ x,w[i]? = some x := ⟨_,aB (by omega)⟩
        obtain ⟨hx1,hx2⟩ := hwr i x hx;have qw : (aI w)[(i : Int).toNat]? = some [AV.i x] := by rw [aX];simp [hx]
        have hx0 : w.getD i 0 = x := by simp [aH,hx]
        have hbs : rV (max rr rm) w (i + 1) out = DU (max rr rm) (rV (max rr rm) w i out) i x := by rw [← hx0];rfl
        generalize rV (max rr rm) w i out = B at *;have hBl : (aI B).length = s.fl.k.length := by rw [aR];omega
        have qx : (aI B)[0 + x.toNat]? = some [AV.i (B.getD x.toNat 0)] := by rw [Nat.zero_add];exact eY 0 (by omega) (by omega)
        have hst2 : (aI B).set (0 + x.toNat) [AV.i (max (B.getD x.toNat 0) (IntKind.i64.wrap (IntKind.i64.wrap (max rr rm + i) + 1)))] = aI (DU (max rr rm) B i x) := by
          rw [Nat.zero_add];exact qL _ _ _
        (repeat' (first|refine wS ?_|refine wB ?_|refine wK ?_|refine wT ?_|(refine rg 8 (mW rfl (vV (bP rfl rfl (by omega) (by omega)) (mW rfl (qW T rfl (vV (aL rfl rfl (by omega)) (mW rfl (yP T rfl (yV (cJ T rfl rfl rfl rfl) (yV (bB rfl) ?_)))))))));refine pV ?_)|(refine aN (id := 10) 122 [[],[],[],[1,2],[1,2,3],[],[],[],[6,7],[6,7,8],rM 5 5,rM 5 6,[],[12],[],[14],rM 12 4,[],rM 12 6,rM 12 7,rM 5 15] (rM 46 21) [[],[46],[46,47],[46],[46],rM 46 5,rM 46 6,rM 46 7,rM 46 6,rM 46 6,rM 46 5,rM 46 5,rM 46 12,rM 46 12,rM 46 14,rM 46 14,rM 46 12,rM 46 17,rM 46 12,rM 46 12,rM 46 5] bM rfl (by decide +kernel) (dN rfl (dN rfl (dN rfl (dV rfl (ix T rfl (by omega) (aE _) qw) (dO T rfl (dN rfl (dN rfl (dN rfl (dV rfl (ix T rfl (by omega) (aE _) qw) ?_)))))))));refine dO T rfl (dV rfl (bZ T rfl rfl rfl rfl rfl (by omega) (by omega)) (dV rfl (cJ T rfl rfl (eO rfl qx) rfl) (dP T rfl (dO T rfl (dP T rfl (dO T rfl (dV rfl (sC rfl rfl) (dN rfl (dV rfl (AE rfl rfl) ?_)))))))));refine dV rfl (AE rfl rfl) (dV rfl (sC rfl rfl) (dE ?_));refine vV (bZ T rfl rfl rfl rfl rfl (by omega) (by omega)) (bJ T rfl rfl rfl rfl rfl rfl (by decide) (rA rfl qx rfl) ?_))|(refine iA 9 rfl rfl rfl (by omega) (by omega) ?_)|refine nZ ?_));all_goals exact ⟨⟨i + 1,fun h => Bool.noConfusion h,by omega⟩,by dsimp only;omega,[0,1,2,3],rfl,(by repeat first|exact trivial|refine ⟨rfl,?_⟩),⟨.inr rfl,.inr rfl,.inr (aC rfl (by dsimp only;rw [hbs];exact hst2) (aM _)),.inr rfl,trivial⟩,by decide,gL⟩
    · have hfin2 : (nN s.fl (st.rb.take (k + 1))).1 = rV (max rr rm) w i out := by
        rw [hfin];by_cases hd : rd = true
        · rw [if_pos hd,hid hd];rfl
        · rw [if_neg hd,show w.length - 1 = i by omega]
      (repeat' (first|refine wS ?_|refine wE ?_|refine wU ?_|(refine rg 8 (mW rfl (vV (bP rfl rfl (by omega) (by omega)) (mW rfl (qW T rfl (vV (bG rfl rfl (by omega)) (mV ?_))))));(iterate 3 refine gF ?_);refine pV ?_)|(refine iA 4 rfl rfl rfl (by omega) (by omega) ?_)|refine nZ ?_));all_goals exact ⟨⟨(k + 1,rV (max rr rm) w i out),hlt,hfin2,by dsimp only;omega⟩,by dsimp only;omega,[0,1,2],rfl,(by repeat first|exact trivial|refine ⟨rfl,?_⟩),⟨.inr rfl,.inr rfl,.inr (aC rfl rfl (aM _)),trivial⟩,by decide,gL⟩
  obtain rfl : k = st.rb.length := by omega
  rw [dU] at ho
  (repeat' (first|refine wS ?_|refine wB ?_|refine wE ?_|refine wU ?_|(refine rg 3 (mW rfl (eK T rfl (qW T rfl (vV (bG rfl rfl (by omega)) ?_)))))|(refine rg 11 (aV ?_))|refine nZ ?_));refine bV (X := {k : Nat // k ≤ st.rb.length}) (fun k => [(2, .ptr 0 0), (3, .ptr 1 0), (5, .sl 2 0 s.fl.k.length 1), (10, .i (k.1 : Int))])
    (fun k => [.cells (fS s),.cells (oW st),.arr (aI ((nN s.fl (st.rb.take k.1)).2.foldl (lM s.fl) out)) 1]) (fun k => st.rb.length - k.1) ⟨0,cH _⟩ ⟨[0,1,2],rfl,(by repeat first|exact trivial|refine ⟨rfl,?_⟩),⟨.inr rfl,.inr rfl,.inr (aC rfl rfl (aM _)),trivial⟩,by decide,gL⟩ ?_
  rintro ⟨k,hk⟩;dsimp only at hk ⊢;have hml := I6 s.fl (nN s.fl (st.rb.take k)).2 out;by_cases hlt : k < st.rb.length
  · have qr : (nO st.rb)[(k : Int).toNat]? = some (H7 st.rb[k]) := by rw [aX];exact uM hlt
    have hnx : (nN s.fl (st.rb.take (k + 1))).2 = (N6 s.fl (nN s.fl (st.rb.take k)) st.rb[k]).2 := by
      unfold nN;rw [aJ hlt,lJ];rfl
    generalize st.rb[k] = r at *;obtain ⟨rc,rg1,rk,rr,rm,rd⟩ := r;have cO := hroff rc;have cW := hrw rc;have hwc := hwrg rc;unfold N6 at hnx;dsimp only at hnx;have hskip : ¬ (rc ∈ bO s.fl ∧ (rd = true ∨ lT s.fl rc = [])) → (nN s.fl (st.rb.take (k + 1))).2.foldl (lM s.fl) out = (nN s.fl (st.rb.take k)).2.foldl (lM s.fl) out := fun hn => by
      rw [hnx];by_cases hq : rd = true ∨ lT s.fl rc = []
      · rw [if_pos hq,lJ];show lM s.fl _ rc = _;unfold lM;rw [if_neg (fun h => hn ⟨h,hq⟩)]
      · rw [if_neg hq]
    have hmark : rc ∈ bO s.fl → (rd = true ∨ lT s.fl rc = []) → (nN s.fl (st.rb.take (k + 1))).2.foldl (lM s.fl) out = ((nN s.fl (st.rb.take k)).2.foldl (lM s.fl) out).set rc.toNat (-1) := fun hw hq => by
      rw [hnx,if_pos hq,lJ];show lM s.fl _ rc = _;unfold lM;rw [if_pos hw]
    have hoff0 : (aI (lT s.fl rc)).length = (lT s.fl rc).length := aR _;have hoffe : lT s.fl rc = [] ↔ ((aI (lT s.fl rc)).length : Int) = 0 := by rw [hoff0];exact ⟨fun h => by rw [h];rfl,fun h => bW (by omega)⟩
    clear hnx;generalize hM1 : (nN s.fl (st.rb.take (k + 1))).2.foldl (lM s.fl) out = M1 at *;generalize (nN s.fl (st.rb.take k)).2.foldl (lM s.fl) out = M0 at *;have hMl : (aI M0).length = s.fl.k.length := by rw [aR];omega
    by_cases hw : rc ∈ bO s.fl
    case neg =>
      rw [decide_eq_false hw] at cW;have hs := hskip (fun h => hw h.1)
      (repeat' (first|refine wS ?_|refine wB ?_|refine wK ?_|refine wT ?_|refine wU ?_|(refine rg 12 (mW rfl (eK T rfl (qW T rfl (vV (aL rfl rfl (by omega)) ?_)))))|(refine rg 14 (eK T rfl (mW rfl (vV (ix T rfl (by omega) (jE _) qr) (lW T rfl (bH (cX T rfl) rfl (bJ T rfl rfl rfl rfl rfl rfl (by decide) rfl ?_)))))))|(refine rg 15 (lW T rfl (eK T rfl (vV (kC (cW)) (mV ?_))));(iterate 3 refine gF ?_);(iterate 6 refine gU ?_);refine gF (pV ?_))|(refine iA 13 rfl rfl rfl (by omega) (by omega) ?_)|refine nZ ?_));all_goals exact ⟨⟨k + 1,hlt⟩,by dsimp only;omega,[0,1,2],rfl,(by repeat first|exact trivial|refine ⟨rfl,?_⟩),⟨.inr rfl,.inr rfl,.inr (aC rfl (by dsimp only;rw [hM1,hs]) (aM _)),trivial⟩,by decide,gL⟩
    rw [decide_eq_true hw] at cW;have hwc := hwc hw;have q0 : (aI M0)[0 + rc.toNat]? = some [AV.i (M0.getD rc.toNat 0)] := by rw [Nat.zero_add];exact eY 0 (by rw [aR] at hMl;omega) (by omega)
    have hse : (aI M0).set (0 + rc.toNat) [AV.i (-1)] = aI (M0.set rc.toNat (-1)) := by rw [Nat.zero_add];exact qL _ _ _
    cases rd with
    | true =>
      have hs := hmark hw (.inl rfl)
      (repeat' (first|refine wS ?_|refine wB ?_|refine wK ?_|refine wT ?_|(refine rg 12 (mW rfl (eK T rfl (qW T rfl (vV (aL rfl rfl (by omega)) ?_)))))|(refine rg 14 (eK T rfl (mW rfl (vV (ix T rfl (by omega) (jE _) qr) (lW T rfl (bH (cX T rfl) rfl (bJ T rfl rfl rfl rfl rfl rfl (by decide) rfl ?_)))))))|(refine rg 15 (lW T rfl (eK T rfl (vV (kC (cW)) (mW rfl (yP T rfl (yO T rfl (yM ?_)))))));(iterate 6 refine gF ?_);refine gT (pW rfl (pV ?_)))|(refine rg 16 (mW rfl (eK T rfl (vV (bZ T rfl rfl rfl rfl rfl (by omega) (by omega)) (bJ T rfl rfl rfl rfl rfl rfl (by decide) (rA rfl q0 rfl) ?_)))))|(refine iA 13 rfl rfl rfl (by omega) (by omega) ?_)|refine nZ ?_));all_goals exact ⟨⟨k + 1,hlt⟩,by dsimp only;omega,[0,1,2],rfl,(by repeat first|exact trivial|refine ⟨rfl,?_⟩),⟨.inr rfl,.inr rfl,.inr (aC rfl (by dsimp only;rw [hM1,hs];exact hse) (aM _)),trivial⟩,by decide,gL⟩
    | false =>
      by_cases he : ((aI (lT s.fl rc)).length : Int) = 0
      · have hs := hmark hw (.inr (hoffe.2 he))
        (repeat' (first|refine wS ?_|refine wB ?_|refine wK ?_|refine wT ?_|(refine rg 12 (mW rfl (eK T rfl (qW T rfl (vV (aL rfl rfl (by omega)) ?_)))))|(refine rg 14 (eK T rfl (mW rfl (vV (ix T rfl (by omega) (jE _) qr) (lW T rfl (bH (cX T rfl) rfl (bJ T rfl rfl rfl rfl rfl rfl (by decide) rfl ?_)))))))|(refine rg 15 (lW T rfl (eK T rfl (vV (kC (cW)) (mW rfl (yP T rfl (yO T rfl (yN rfl (yO T rfl (yF T ?_)))))))));refine yO T rfl (yV (kC (cO)) (gT (qW T rfl (yV (gH rfl rfl he) (gT (pW rfl (pV ?_))))))))|(refine rg 16 (mW rfl (eK T rfl (vV (bZ T rfl rfl rfl rfl rfl (by omega) (by omega)) (bJ T rfl rfl rfl rfl rfl rfl (by decide) (rA rfl q0 rfl) ?_)))))|(refine iA 13 rfl rfl rfl (by omega) (by omega) ?_)|refine nZ ?_));all_goals exact ⟨⟨k + 1,hlt⟩,by dsimp only;omega,[0,1,2],rfl,(by repeat first|exact trivial|refine ⟨rfl,?_⟩),⟨.inr rfl,.inr rfl,.inr (aC rfl (by dsimp only;rw [hM1,hs];exact hse) (aM _)),trivial⟩,by decide,gL⟩
      · have hs := hskip (fun h => h.2.elim (fun q => Bool.noConfusion q) (fun q => he (hoffe.1 q)))
        (repeat' (first|refine wS ?_|refine wB ?_|refine wK ?_|refine wT ?_|refine wU ?_|(refine rg 12 (mW rfl (eK T rfl (qW T rfl (vV (aL rfl rfl (by omega)) ?_)))))|(refine rg 14 (eK T rfl (mW rfl (vV (ix T rfl (by omega) (jE _) qr) (lW T rfl (bH (cX T rfl) rfl (bJ T rfl rfl rfl rfl rfl rfl (by decide) rfl ?_)))))))|(refine rg 15 (lW T rfl (eK T rfl (vV (kC (cW)) (mW rfl (yP T rfl (yO T rfl (yN rfl (yO T rfl (yF T ?_)))))))));refine yO T rfl (yV (kC (cO)) (gT (qW T rfl (yV (eN rfl rfl he) (gT (pW rfl (pV ?_))))))))|(refine iA 13 rfl rfl rfl (by omega) (by omega) ?_)|refine nZ ?_));all_goals exact ⟨⟨k + 1,hlt⟩,by dsimp only;omega,[0,1,2],rfl,(by repeat first|exact trivial|refine ⟨rfl,?_⟩),⟨.inr rfl,.inr rfl,.inr (aC rfl (by dsimp only;rw [hM1,hs]) (aM _)),trivial⟩,by decide,gL⟩
  obtain rfl : k = st.rb.length := by omega
  rw [dU] at hml ⊢;have hWP : pZ s.fl st.rb st.dd = st.dd.foldl (lM s.fl) ((nN s.fl st.rb).2.foldl (lM s.fl) out) := by unfold pZ;rw [lJ,ho]
  rw [hWP];generalize (nN s.fl st.rb).2.foldl (lM s.fl) out = O2 at *
  (repeat' (first|refine wS ?_|refine wB ?_|refine wE ?_|refine wU ?_|(refine rg 12 (mW rfl (eK T rfl (qW T rfl (vV (bG rfl rfl (by omega)) ?_)))))|(refine rg 17 (aV ?_))|refine nZ ?_));refine bV (X := {k : Nat // k ≤ st.dd.length}) (fun k => [(2, .ptr 0 0), (3, .ptr 1 0), (5, .sl 2 0 s.fl.k.length 1), (12, .i (k.1 : Int))])
    (fun k => [.cells (fS s),.cells (oW st),.arr (aI ((st.dd.take k.1).foldl (lM s.fl) O2)) 1]) (fun k => st.dd.length - k.1) ⟨0,cH _⟩ ⟨[0,1,2],rfl,(by repeat first|exact trivial|refine ⟨rfl,?_⟩),⟨.inr rfl,.inr rfl,.inr (aC rfl rfl (aM _)),trivial⟩,by decide,gL⟩ ?_
  rintro ⟨k,hk⟩;dsimp only at hk ⊢;have hml2 := I6 s.fl (st.dd.take k) O2;by_cases hlt : k < st.dd.length
  · have qd : (aI st.dd)[(k : Int).toNat]? = some [AV.i st.dd[k]] := by rw [aX];exact iF hlt
    have hnx : (st.dd.take (k + 1)).foldl (lM s.fl) O2 = lM s.fl ((st.dd.take k).foldl (lM s.fl) O2) st.dd[k] := by
      rw [aJ hlt,lJ];rfl
    generalize st.dd[k] = c at *;have cW := hrw c;have hwc := hwrg c;have hmS : ∀ o : List Int,lM s.fl o c = if c ∈ bO s.fl then o.set c.toNat (-1) else o := fun _ => rfl
    rw [hmS] at hnx;generalize hM1 : (st.dd.take (k + 1)).foldl (lM s.fl) O2 = M1 at *;generalize (st.dd.take k).foldl (lM s.fl) O2 = M0 at *;have hMl : (aI M0).length = s.fl.k.length := by rw [aR];omega
    by_cases hw : c ∈ bO s.fl
    · rw [decide_eq_true hw] at cW;rw [if_pos hw] at hnx;have hwc := hwc hw;have q0 : (aI M0)[0 + c.toNat]? = some [AV.i (M0.getD c.toNat 0)] := by rw [Nat.zero_add];exact eY 0 (by rw [aR] at hMl;omega) (by omega)
      have hse : (aI M0).set (0 + c.toNat) [AV.i (-1)] = aI (M0.set c.toNat (-1)) := by rw [Nat.zero_add];exact qL _ _ _
      (repeat' (first|refine wS ?_|refine wB ?_|refine wK ?_|refine wT ?_|(refine rg 18 (mW rfl (eK T rfl (qW T rfl (vV (aL rfl rfl (by omega)) ?_)))))|(refine uZ (id := 20) 6 122 [[],[],[1],[],[1,2,3],rM 1 4,rN 6] [[],[],[1],[],[1,2,3],rM 1 4] (rM 107 6) [[],[107],[107],[107,108,109],[107],[107]] bM rfl (by decide +kernel) (by decide +kernel) ?_;(dsimp only [List.take,List.drop]);refine dO T rfl (dP T rfl (dO T rfl (dN rfl (dV rfl (ix T rfl (by omega) (aE _) qd) (dO T rfl (dE ?_))))));refine mD ?_;refine vV (kC (cW)) ?_)|(refine rg 21 (mW rfl (eK T rfl (mW rfl (vV (ix T rfl (by omega) (aE _) qd) (lW T rfl (vV (bZ T rfl rfl rfl rfl rfl (by omega) (by omega)) (bJ T rfl rfl rfl rfl rfl rfl (by decide) (rA rfl q0 rfl) ?_))))))))|(refine iA 19 rfl rfl rfl (by omega) (by omega) ?_)|refine nZ ?_));all_goals exact ⟨⟨k + 1,hlt⟩,by dsimp only;omega,[0,1,2],rfl,(by repeat first|exact trivial|refine ⟨rfl,?_⟩),⟨.inr rfl,.inr rfl,.inr (aC rfl (by dsimp only;rw [hM1,hnx];exact hse) (aM _)),trivial⟩,by decide,gL⟩
    · rw [decide_eq_false hw] at cW;rw [if_neg hw] at hnx
      (repeat' (first|refine wS ?_|refine wB ?_|refine wK ?_|refine wT ?_|refine wU ?_|(refine rg 18 (mW rfl (eK T rfl (qW T rfl (vV (aL rfl rfl (by omega)) ?_)))))|(refine uZ (id := 20) 6 122 [[],[],[1],[],[1,2,3],rM 1 4,rN 6] [[],[],[1],[],[1,2,3],rM 1 4] (rM 107 6) [[],[107],[107],[107,108,109],[107],[107]] bM rfl (by decide +kernel) (by decide +kernel) ?_;(dsimp only [List.take,List.drop]);refine dO T rfl (dP T rfl (dO T rfl (dN rfl (dV rfl (ix T rfl (by omega) (aE _) qd) (dO T rfl (dE ?_))))));refine mD ?_;refine vV (kC (cW)) ?_)|(refine iA 19 rfl rfl rfl (by omega) (by omega) ?_)|refine nZ ?_));all_goals exact ⟨⟨k + 1,hlt⟩,by dsimp only;omega,[0,1,2],rfl,(by repeat first|exact trivial|refine ⟨rfl,?_⟩),⟨.inr rfl,.inr rfl,.inr (aC rfl (by dsimp only;rw [hM1,hnx]) (aM _)),trivial⟩,by decide,gL⟩
  obtain rfl : k = st.dd.length := by omega
  rw [dU] at hml2 ⊢;have hfl : (st.dd.foldl (lM s.fl) O2).length = s.fl.k.length := by omega
  rw [hfl];generalize st.dd.foldl (lM s.fl) O2 = O3 at *
  (repeat' (first|refine wS ?_|refine wR ?_|refine wE ?_|refine wU ?_|(refine rg 18 (mW rfl (eK T rfl (qW T rfl (vV (bG rfl rfl (by omega)) ?_)))))|(refine rg 22 (mW rfl (aV ?_)))|refine nZ ?_));all_goals exact ⟨.inl rfl,[2],_,rfl,rfl,rfl,⟨.inr (aC rfl rfl (aM _)),trivial⟩,by decide,gL⟩
abbrev GL := List (Int × Nat × List fR)
structure wW (P : List fR) (L : GL) (X : Hp) : Prop where
  nd : (L.map (·.1)).Nodup
  ndq : (L.map (·.2.1)).Nodup
  obj : ∀ e,e ∈ L → X[e.2.1]? = some (.arr (fG e.2.2) 3)
  val : ∀ e,e ∈ L → e.2.2 = oE P e.1 ∧ e.2.2 ≠ []
  cov : ∀ x,x ∈ P → x.1 ∈ L.map (·.1)
theorem wW.nil (X : Hp) : wW [] [] X := ⟨by simp,by simp,fun e he => (by cases he),fun e he => (by cases he),fun n hn => (by simp at hn)⟩
theorem wW.lt {P : List fR} {L : GL} {X : Hp} (g : wW P L X) : ∀ e,e ∈ L → e.2.1 < X.length := fun e he => (aA.1 (g.obj e he)).1
theorem wW.mono {P : List fR} {L : GL} {X Y : Hp} (g : wW P L X) (h : ∀ i,i < X.length → Y[i]? = X[i]?) : wW P L Y :=
  ⟨g.nd,g.ndq,fun e he => by rw [h _ (g.lt e he)];exact g.obj e he,g.val,g.cov⟩
theorem wW.more {P : List fR} {L : GL} {X X' : Hp} (g : wW P L X) {x : fR} {j q' : Nat} {q : Nat} {s : List fR} (hj : L[j]? = some (x.1, q, s))
    (hX : ∀ i,i < X.length → i ≠ q → X'[i]? = X[i]?) (hq' : X.length ≤ q') (hn : X'[q']? = some (.arr (fG (s ++ [x])) 3)) : wW (P ++ [x]) (L.set j (x.1,q',s ++ [x])) X' := by
  have hjl := (aA.1 hj).1;have hm : (x.1,q,s) ∈ L := bD hj;have hk : (L.set j (x.1,q',s ++ [x])).map (·.1) = L.map (·.1) := by
    rw [xG];apply fU;intro i;rw [eZ];split
    · rename_i e;subst e;rw [aU,hj];simp [hjl]
    · rfl
  have hlt := g.lt;have hqn : ∀ {i : Nat} {e : Int × Nat × List fR},L[i]? = some e → e.2.1 = q → i = j := fun {i e} hi he => by
    have hil := (aA.1 hi).1;exact (nA (by simpa using hil) g.ndq).1 (by rw [aU,aU,hi,hj];simp [he])
  have hon : ∀ {i : Nat} {e : Int × Nat × List fR},L[i]? = some e → e.1 = x.1 → i = j := fun {i e} hi he => by
    have hil := (aA.1 hi).1;exact (nA (by simpa using hil) g.nd).1 (by rw [aU,aU,hi,hj];simp [he])
  have hget : ∀ {e : Int × Nat × List fR},e ∈ L.set j (x.1,q',s ++ [x]) → e = (x.1,q',s ++ [x]) ∨ (e ∈ L ∧ e.2.1 ≠ q ∧ e.1 ≠ x.1) := fun {e} he => by
    obtain ⟨i,hi⟩ := cU.1 he;rw [eZ] at hi;split at hi
    · exact .inl (Option.some.inj (by simpa [hjl] using hi)).symm
    · rename_i hne;exact .inr ⟨bD hi,fun h => hne (hqn hi h).symm,fun h => hne (hon hi h).symm⟩
  refine ⟨by rw [hk];exact g.nd,?_,fun e he => ?_,fun e he => ?_,fun n hn => ?_⟩
  · rw [xG];show ((L.map (·.2.1)).set j q').Nodup;rw [List.set_eq_take_append_cons_drop,if_pos (by simpa using hjl),fI]
    have h1 : ∀ x,x ∈ L.map (·.2.1) → x ≠ q' := fun x hx e => by
      obtain ⟨e',he',rfl⟩ := aQ.1 hx;have := hlt e' he';omega
    have h2 := g.ndq;rw [← hC j (L.map (·.2.1)),bK (by simpa using hjl),fI] at h2
    obtain ⟨h3,h4,h5⟩ := h2;rw [cP] at h4;refine ⟨h3,cP.2 ⟨fun h6 => h1 _ (iG h6) rfl,h4.2⟩,fun a ha b hb => ?_⟩
    rcases bL.1 hb with rfl | hb
    · exact h1 a (mT ha)
    · exact h5 a ha b (dI _ hb)
  · rcases hget he with rfl | ⟨h1,h2,_⟩
    · exact hn
    · rw [hX _ (hlt e h1) h2];exact g.obj e h1
  · rcases hget he with rfl | ⟨h1,_,h3⟩
    · refine ⟨?_,by simp⟩
      show s ++ _ = _;rw [uY,if_pos rfl,← (g.val _ hm).1]
    · rw [uY,if_neg (fun h => h3 h.symm)];exact g.val e h1
  · rw [hk];rcases bI.1 hn with hn | hn
    · exact g.cov n hn
    · rw [bY] at hn;subst hn;exact aQ.2 ⟨_,hm,rfl⟩
def M5 (L : GL) : List Value := (L.map (·.1)).map kI
def GB (L : GL) : List AV := L.map fun e => .sl (e.2.1 + 3) 0 e.2.2.length 3
def zA5 (L : GL) : List AV := L.map fun e => AV.rowE (fG e.2.2) 3
theorem mN (L : GL) : ∀ q,q ∈ M5 L → IsKey (.int .i64) q := by
  intro q hq;obtain ⟨n,_,rfl⟩ := aQ.1 hq;rfl
theorem TN {l : List Int} (h : l.Nodup) : (l.map kI).Nodup := h.map _ (fun a b hab e => hab (by simpa using e))
theorem MW {L : GL} {o : Int} : kI o ∈ M5 L ↔ o ∈ L.map (·.1) := by
  unfold M5;rw [aQ];constructor
  · rintro ⟨a,ha,e⟩;simp at e;subst e;exact ha
  · intro h;exact ⟨o,h,rfl⟩
theorem WO {L : GL} {j Q : Nat} {o : Int} {s : List fR} {x : fR} : (GB L).set j (.sl (Q + 3) 0 (s.length + 1) 3) = GB (L.set j (o,Q,s ++ [x])) := by
  unfold GB;rw [xG];simp
theorem YJ {L : GL} {j Q q : Nat} {o : Int} {s s' : List fR} (h : L[j]? = some (o,q,s)) : M5 (L.set j (o,Q,s')) = M5 L := by
  unfold M5;congr 1;have hjl := (aA.1 h).1;rw [xG];apply fU;intro i;rw [eZ];split
  · rename_i e;subst e;rw [aU,h];simp [hjl]
  · rfl
theorem EO : ∀ L : GL, AV.idfL (zA5 L) = true
  | [] => rfl
  | e :: L => by
    have := EO L;unfold zA5 at *;simp only [List.map_cons,AV.idfL,AV.idf,vE];exact this
theorem zD0 {a b c : AB} {X : Hp} {cs xs : List AV} (hl : Nat.ble (0 + xs.length) cs.length = true) : upd (a :: b :: c :: (X ++ [.cells cs])) (.ptr (X.length + 3) 0) xs = some (a :: b :: c :: (X ++ [.cells (gQ cs 0 xs)])) := by
  have h : (a :: b :: c :: (X ++ [AB.cells cs]))[X.length + 3]? = some (.cells cs) := by
    show (X ++ [AB.cells cs])[X.length]? = _;simp
  have h2 : (a :: b :: c :: (X ++ [AB.cells cs])).set (X.length + 3) (.cells (gQ cs 0 xs)) = a :: b :: c :: (X ++ [.cells (gQ cs 0 xs)]) := by
    show a :: b :: c :: (X ++ [AB.cells cs]).set X.length _ = _;rw [nU _ _ (aY _)];simp
  simp only [upd,h,hl,h2]
theorem QT {a b c : AB} {Y : Hp} {q off : Nat} {cs : List AV} (hq : Y[q]? = some (.cells cs)) : jQ (a :: b :: c :: Y) (.ptr (q + 3) off) = some (cs,off) := by
  have h : (a :: b :: c :: Y)[q + 3]? = some (.cells cs) := hq;simp only [jQ,h]
end Go.Proofs.YtdmajnjoeidgeaaGreat
namespace Go.Proofs.YtdmajnjoeidgeaaGreat
open Go Go.Ab Go.Fl Go.Re Go.Ln Go.MapKept
attribute [local irreducible] VC AW bR bQ fT nK
set_option maxHeartbeats 8000000
theorem yR {X Y : Hp} {q : Nat} {b : AB} (h : X[q]? = some b) : (X ++ Y)[q]? = some b := by
  rw [aG (aA.1 h).1];exact h
theorem DY {X : Hp} {b : AB} : (X ++ [b])[(X ++ []).length]? = some b := by simp
theorem Q0 {X : Hp} {q i : Nat} {a b : AB} (hi : i < X.length) (hq : i ≠ q) : (X.set q .gone ++ [a,b])[i]? = X[i]? := by
  rw [aG (by simpa using hi),fM (Ne.symm hq)]
theorem VQ {X : Hp} {q : Nat} {a b c : AB} : (X.set q .gone ++ [a,b])[(X ++ [c]).length]? = some b := by
  rw [aK (by simp)];simp
theorem sE {H Z : Hp} {u : AV} {r : List AV × Nat} {k off : Nat} {cs : List AV} (hu : u = .ptr k off) (hk : H[k]? = some (.cells cs)) (hr : r = (cs,off)) : jQ (H ++ Z) u = some r := by
  subst hu hr;have h : (H ++ Z)[k]? = some (.cells cs) := yR hk;simp only [jQ,h]
theorem zI1 {P : Program} {n : Nat × Nat} {code code' : Code} {Q Q' : Exit → eG → Hp → Prop} {env : eG} {h : Hp} {I : Type} (E : eG) (H : I → Hp) (C : I → Prop)
    (hk : ∀ x,C x → AW P n code' E (H x) Q') (h1 : (∀ x,C x → AW P n code' E (H x) Q') → AW P n code env h Q) : AW P n code env h Q := h1 hk
theorem p3 {a b c v : AB} {Y : Hp} {q : Nat} (h : Y[q]? = some v) : (a :: b :: c :: Y)[q + 3]? = some v := h
theorem IW {Z : Hp} {b : AB} : (Z ++ [b])[Z.length]? = some b := by simp
theorem wW.mono' {P : List fR} {L : GL} {X Y : Hp} (g : wW P L X) (h : ∀ e,e ∈ L → Y[e.2.1]? = X[e.2.1]?) : wW P L Y :=
  ⟨g.nd,g.ndq,fun e he => by rw [h e he];exact g.obj e he,g.val,g.cov⟩
theorem wW.new' {P : List fR} {L : GL} {X : Hp} (g : wW P L X) {x : fR} {q' : Nat} (hno : x.1 ∉ L.map (·.1))
    (hq' : ∀ e,e ∈ L → e.2.1 < q') (hn : X[q']? = some (.arr (fG [x]) 3)) : wW (P ++ [x]) (L ++ [(x.1,q',[x])]) X := by
  have h0 : oE P x.1 = [] := by
    unfold oE;rw [List.filter_eq_nil_iff];intro n hn e;rw [decide_eq_true_eq] at e;exact hno (by rw [← e];exact g.cov n hn)
  refine ⟨?_,?_,fun e he => ?_,fun e he => ?_,fun n hn => ?_⟩
  · rw [cV,fI];exact ⟨g.nd,by simp,fun a ha b hb e => hno (by simp at hb;rw [← hb,← e];exact ha)⟩
  · rw [cV,fI]
    exact ⟨g.ndq,by simp,fun a ha b hb e => by
      simp at hb;obtain ⟨e',he',rfl⟩ := aQ.1 ha
      have := hq' e' he';omega⟩
  · rcases bI.1 he with he | he
    · exact g.obj e he
    · simp at he;subst he;exact hn
  · rcases bI.1 he with he | he
    · rw [uY,if_neg (fun h => hno (by rw [h];exact aQ.2 ⟨e,he,rfl⟩))]
      exact g.val e he
    · simp at he;subst he;refine ⟨?_,by simp⟩
      show [x] = oE (P ++ [x]) x.1;rw [uY,if_pos rfl,h0];rfl
  · rw [cV];rcases bI.1 hn with hn | hn
    · exact iT _ (g.cov n hn)
    · rw [bY] at hn;subst hn;simp
structure zT1 (L : List fR) (j : Nat) (G : GL) (X : Hp) (qo : Nat) : Prop where
  le : j ≤ L.length
  g : wW (L.take j) G X
  o : X[qo]? = some (.arr (aI ((L.take j).map (·.1))) 1)
  ne : ∀ e,e ∈ G → e.2.1 ≠ qo
theorem ZK (s : lN) (g : iL s.fl) (L : List fR) (b : Int) (hL : L.length ≤ 1000) (hll : ∀ x,x ∈ L → x.2.1.length ≤ 1000 ∧ x.2.2.length ≤ 1000) (r : Int × Int) (hr : LR s L b r) :
    bQ Tryz.prog 16 [.agg (fS s),.agg (jR L b)] [] (.tup [.i r.1,.i r.2]) [] := by
  have hN := g.le;have cb := NS s g;have hWa := sO s.fl;have hWl := wZ s.fl;have cw := G6 s (by omega)
  have ck := I2 s 4 (by omega)
  have hKl : (kL s.fl 4).length ≤ s.fl.k.length := B8 s.fl.k 4 s.fl.k.length;have hKm : ∀ x,x ∈ kL s.fl 4 → 0 ≤ x ∧ x < s.fl.k.length ∧ s.fl.k.getD x.toNat 0 = 4 := fun x hx => vR.1 hx
  have hKa : vK (kL s.fl 4) := tT _ _ _;have hKi : ∀ c : Nat,c < s.fl.k.length → s.fl.k.getD c 0 = 4 → (c : Int) ∈ kL s.fl 4 := fun c h1 h2 => vR.2 ⟨by omega,by omega,by rw [aX];exact h2⟩
  have hr' : (∃ c : Nat,c < s.fl.k.length ∧ s.fl.k.getD c 0 = 4 ∧ ¬ sY s L c ∧ nB s L c ∧ r = ((c : Int),25)) ∨
      (nB s L s.fl.k.length ∧ L.map (·.1) = kL s.fl 4 ∧ nG s.fl ≤ b ∧ r = (-1,0)) ∨
      (nB s L s.fl.k.length ∧ ¬ (L.map (·.1) = kL s.fl 4 ∧ nG s.fl ≤ b) ∧ r = (-1,25)) := hr
  clear hr;generalize kL s.fl 4 = K at *;generalize nG s.fl = bd at *;have hkl : (aI K).length = K.length := aR _;have hlal : (fG L).length = L.length := by simp
  refine dD T Tryz.func16 rfl rfl rfl rfl ?_
  (repeat' (first|refine wS ?_|(refine rg 0 (bH (bN rfl rfl) rfl (bH (bN rfl rfl) rfl (iZ ?_))))|(refine rg 1 (lW T rfl (vV (kC (cw)) (aV ?_))))|(refine rg 2 (lW T rfl (vV (kC (ck)) (aV ?_))))|(refine rg 3 (bH (by exact lR) rfl ?_);refine aV ?_)|(refine rg 4 (aV ?_))|refine nZ ?_));refine rR 9 1 rfl (by decide) ?_
  (repeat' (first|refine wB ?_|(refine rg 5 (eK T rfl (qW T rfl (mV ?_))))|refine nZ ?_));refine kT [(2,.ptr 0 0),(3,.ptr 1 0),(6,.rowE (aI (bO s.fl)) 1),(7,.rowE (aI K) 1),(8,.mp 2),(9,.sl 3 0 0 1),(21,.rowE (fG L) 3),(22,.i L.length),(23,.i 0)] [.cells (fS s),.cells (jR L b),.mapO [] [],.arr [] 1] ⟨[0,1,2,3],rfl,⟨rfl,rfl,rfl,rfl,rfl,rfl,rfl,congrArg (fun n : Nat => some (AV.i n)) hlal,rfl,trivial⟩,⟨.inr rfl,.inr rfl,.inr rfl,.inr rfl,trivial⟩,by decide,gL⟩ ?_
  refine VB (X := {x : Nat × GL × Hp × Nat // zT1 L x.1 x.2.1 x.2.2.1 x.2.2.2}) (fun x => [(2, .ptr 0 0), (3, .ptr 1 0), (6, .rowE (aI (bO s.fl)) 1), (7, .rowE (aI K) 1), (8, .mp 2), (9, .sl (x.1.2.2.2 + 3) 0 x.1.1 1), (21, .rowE (fG L) 3), (22, .i L.length), (23, .i (x.1.1 : Int))])
    (fun x => .cells (fS s) :: .cells (jR L b) :: .mapO (M5 x.1.2.1) (GB x.1.2.1) :: x.1.2.2.1) (fun x => L.length - x.1.1) ⟨(0,[],[.arr [] 1],0),⟨cH _,wW.nil _,rfl,fun e he => by cases he⟩⟩ (EC.of rfl (by repeat first|exact trivial|refine ⟨rfl,?_⟩)) ?_
  rintro ⟨⟨j,G,X,qo⟩,gt⟩;obtain ⟨hj,gg,ho,hne⟩ := gt;dsimp only at hj gg ho hne ⊢;by_cases hlt : j < L.length
  · have htk := aJ hlt;have qx : (fG L)[(j : Int).toNat]? = some (jH L[j]) := qJ (by rw [aX,aB hlt])
    have htl : (L.take j).length = j := by rw [dQ];omega
    generalize L[j] = x at *;generalize L.take j = L0 at *;obtain ⟨xc,xa,xb⟩ := x
    (repeat' (first|refine wS ?_|refine wB ?_|refine wK ?_|refine wT ?_|(refine rg 6 (vV (aL rfl rfl (by omega)) ?_))|(refine rg 7 (vV (ix T rfl (by omega) (iH _) qx) (lW T rfl (bH (cX T rfl) rfl (bJ T rfl rfl rfl rfl rfl rfl (by decide) (zD0 rfl) ?_)))))|refine nZ ?_));refine AT [(2,.ptr 0 0),(3,.ptr 1 0),(6,.rowE (aI (bO s.fl)) 1),(7,.rowE (aI K) 1),(8,.mp 2),(9,.sl (qo + 3) 0 j 1),(11,.ptr (X.length + 3) 0),(21,.rowE (fG L) 3),(22,.i L.length),(23,.i (j : Int))] (.cells (fS s) :: .cells (jR L b) :: .mapO (M5 G) (GB G) :: (X ++ [.cells (jH (xc,xa,xb))])) (EC.of rfl (by repeat first|exact trivial|refine ⟨rfl,?_⟩)) ?_
    have hYx : (X ++ [AB.cells (jH (xc,xa,xb))])[X.length]? = some (.cells (jH (xc,xa,xb))) := by simp
    have gY : wW L0 G (X ++ [AB.cells (jH (xc,xa,xb))]) := gg.mono fun i hi => aG hi
    have hoY := yR (Y := [AB.cells (jH (xc,xa,xb))]) ho;have hxo : X.length ≠ qo := by have := (aA.1 ho).1;omega
    have hxg : ∀ e,e ∈ G → e.2.1 ≠ X.length := fun e he => by have := gg.lt e he;omega
    generalize X ++ [AB.cells (jH (xc,xa,xb))] = Y at *;generalize X.length = q0 at *;clear gg ho X qx;apply zI1 (I := GL × Hp) [(2,.ptr 0 0),(3,.ptr 1 0),(6,.rowE (aI (bO s.fl)) 1),(7,.rowE (aI K) 1),(8,.mp 2),(9,.sl (qo + 3) 0 j 1),(11,.ptr (q0 + 3) 0),(21,.rowE (fG L) 3),(22,.i L.length),(23,.i (j : Int))] (fun x => .cells (fS s) :: .cells (jR L b) :: .mapO (M5 x.1) (GB x.1) :: x.2) (fun x => wW (L0 ++ [(xc,xa,xb)]) x.1 x.2 ∧ x.2[qo]? = some (.arr (aI (L0.map (·.1))) 1) ∧ x.2[q0]? = some (.cells (jH (xc,xa,xb))) ∧ ∀ e,e ∈ x.1 → e.2.1 ≠ qo)
    case h1 =>
      intro rest;have hYq : q0 < Y.length := (aA.1 hYx).1;have hYo : qo < Y.length := (aA.1 hoY).1;by_cases hk : xc ∈ G.map (·.1)
      · obtain ⟨⟨o,q,ss⟩,he,hoe⟩ := aQ.1 hk;have he : (xc,q,ss) ∈ G := by rw [← hoe];exact he
        clear hoe hk;obtain ⟨j',hj'⟩ := cU.1 he;have hob := gY.obj _ he;have hv := (gY.val _ he).1;have hqo := hne _ he;have hqx := hxg _ he;dsimp only at hob hv hqo hqx;have hql := (aA.1 hob).1;have hsl2 : ss.length ≤ 1000 := by rw [hv];exact bU (jB _ _) (by omega)
        have hk1 : (M5 G)[j']? = some (kI xc) := by unfold M5;rw [aU,aU,hj'];rfl
        have hk2 : (GB G)[j']? = some (.sl (q + 3) 0 ss.length 3) := by unfold GB;rw [aU,hj'];rfl
        have hnd := TN gY.nd;have hYxg : (Y.set q .gone)[q0]? = some (.cells (jH (xc,xa,xb))) := by rw [fM hqx];exact hYx
        (repeat' (first|(refine sF (id := 8) 100 [[],[],[1],[],[],[4],[3,4,5],[],[7],rM 3 6] (rM 27 10) zZ8 [(9,q + 3)] bM rfl (IM (by decide +kernel) rfl) (gA rfl rfl rfl rfl (by exact jA rfl) ?_);refine gA rfl rfl rfl rfl (by exact eJ T rfl rfl rfl) ?_;refine gA rfl rfl rfl rfl (by exact cJ T rfl rfl (sE rfl (p3 hYxg) rfl) rfl) ?_;refine gA rfl rfl rfl rfl (by exact jA rfl) ?_;refine gA rfl rfl rfl rfl (by exact eJ T rfl rfl rfl) ?_;refine gA rfl rfl rfl rfl (by exact cJ T rfl rfl (sE rfl (p3 hYx) rfl) rfl) ?_;refine gA rfl rfl rfl rfl (by exact gR vS jL rfl rfl (gC _) rfl (mN G) (eR _) hnd hk1 hk2) ?_;refine gA rfl rfl rfl rfl (by exact cJ T rfl rfl (sE rfl (p3 hYx) rfl) rfl) ?_;refine AL rfl rfl rfl rfl (by exact aS T rfl rfl (by decide) (by decide) rfl rfl rfl) rfl ?_;refine F6 rfl rfl rfl rfl (Nat.add_lt_add_right hql 3) (sG T rfl rfl rfl rfl rfl (by show (Y ++ [_])[q]? = _;exact yR hob) (by simp) (iU.whole (by show (Y ++ [_])[(Y ++ []).length]? = _;exact DY) rfl) rfl (by simp;omega) (by simp;omega)) ?_;refine yI rfl rfl rfl (by exact rfl) ?_;refine M8 vS jL rfl rfl (gC _) rfl rfl (mN G) (eR _) hnd hk1 ?_)|refine nZ ?_));all_goals
          refine AT [(2,.ptr 0 0),(3,.ptr 1 0),(6,.rowE (aI (bO s.fl)) 1),(7,.rowE (aI K) 1),(8,.mp 2),(9,.sl (qo + 3) 0 j 1),(11,.ptr (q0 + 3) 0),(21,.rowE (fG L) 3),(22,.i L.length),(23,.i (j : Int))] (.cells (fS s) :: .cells (jR L b) :: .mapO (M5 (G.set j' (xc,(Y ++ [AB.arr [jH (xc,xa,xb)] 3]).length,ss ++ [(xc,xa,xb)]))) (GB (G.set j' (xc,(Y ++ [AB.arr [jH (xc,xa,xb)] 3]).length,ss ++ [(xc,xa,xb)]))) :: (Y.set q .gone ++ [.arr [jH (xc,xa,xb)] 3,.arr (fG (ss ++ [(xc,xa,xb)])) 3])) (EC.of ?_ (by repeat first|exact trivial|refine ⟨rfl,?_⟩)) (rest (G.set j' (xc,(Y ++ [AB.arr [jH (xc,xa,xb)] 3]).length,ss ++ [(xc,xa,xb)]),Y.set q .gone ++ [.arr [jH (xc,xa,xb)] 3,.arr (fG (ss ++ [(xc,xa,xb)])) 3]) ⟨gY.more (x := (xc,xa,xb)) hj' (fun i hi hq => Q0 hi hq) (by simp) VQ,(Q0 hYo (Ne.symm hqo)).trans hoY,(Q0 hYq (Ne.symm hqx)).trans hYx,?_⟩)
        · show (AB.cells (fS s) :: AB.cells (jR L b) :: AB.mapO (M5 G) ((GB G).set j' (.sl ((Y ++ [AB.arr [jH (xc,xa,xb)] 3]).length + 3) 0 (ss.length + 1) 3)) :: (Y.set q .gone ++ [AB.arr [jH (xc,xa,xb)] 3,AB.arr (List.take ss.length (List.drop 0 (fG ss)) ++ [jH (xc,xa,xb)]) 3])) = _;rw [WO (o := xc) (x := (xc,xa,xb)),YJ hj',Y9]
        · intro e he2;obtain ⟨i,hi⟩ := cU.1 he2;rw [eZ] at hi;split at hi
          · split at hi
            · cases hi;dsimp only;simp only [aF,dW];omega
            · cases hi
          · exact hne e (bD hi)
      · have hno : kI xc ∉ M5 G := fun e => hk (MW.1 e);refine AT _ (AB.cells (fS s) :: AB.cells (jR L b) :: AB.mapO (M5 G) (GB G) :: (Y ++ [.arr [] 3])) (QC 3 (by decide)) ?_
        have hXl : (Y ++ [AB.arr [] 3])[Y.length]? = some (.arr [] 3) := IW;have hXn : Y.length < (Y ++ [AB.arr [] 3]).length := by simp
        have hYx2 := yR (Y := [AB.arr [] 3]) hYx;have hoY2 := yR (Y := [AB.arr [] 3]) hoY;have gY2 : wW L0 G (Y ++ [AB.arr [] 3]) := gY.mono fun i hi => aG hi
        have hold : ∀ e,e ∈ G → e.2.1 < Y.length := gY.lt;generalize Y ++ [AB.arr [] 3] = Y' at *;generalize Y.length = q at *;have hYxg : (Y'.set q .gone)[q0]? = some (.cells (jH (xc,xa,xb))) := by rw [fM (by omega)];exact hYx2
        (repeat' (first|(refine sF (id := 8) 100 [[],[],[1],[],[],[4],[3,4,5],[],[7],rM 3 6] (rM 27 10) zZ8 [(9,q + 3)] bM rfl (IM (by decide +kernel) rfl) (gA rfl rfl rfl rfl (by exact jA rfl) ?_);refine gA rfl rfl rfl rfl (by exact eJ T rfl rfl rfl) ?_;refine gA rfl rfl rfl rfl (by exact cJ T rfl rfl (sE rfl (p3 hYxg) rfl) rfl) ?_;refine gA rfl rfl rfl rfl (by exact jA rfl) ?_;refine gA rfl rfl rfl rfl (by exact eJ T rfl rfl rfl) ?_;refine gA rfl rfl rfl rfl (by exact cJ T rfl rfl (sE rfl (p3 hYx2) rfl) rfl) ?_;refine gA rfl rfl rfl rfl (by exact nI vS jL zT3 (fun _ _ _=>ZV (q + 3) 3) rfl rfl (gC _) rfl (mN G) (eR _) hno) ?_;refine gA rfl rfl rfl rfl (by exact cJ T rfl rfl (sE rfl (p3 hYx2) rfl) rfl) ?_;refine AL rfl rfl rfl rfl (by exact aS T rfl rfl (by decide) (by decide) rfl rfl rfl) rfl ?_;refine F6 rfl rfl rfl rfl (Nat.add_lt_add_right hXn 3) (sG T rfl rfl rfl rfl rfl (by show (Y' ++ [_])[q]? = _;exact yR hXl) (by simp) (iU.whole (by show (Y' ++ [_])[(Y' ++ []).length]? = _;exact DY) rfl) rfl (by simp) (by simp)) ?_;refine yI rfl rfl rfl (by exact rfl) ?_;refine lQ vS jL rfl rfl (gC _) rfl rfl (mN G) (eR _) hno ?_)|refine nZ ?_));all_goals
          refine AT [(2,.ptr 0 0),(3,.ptr 1 0),(6,.rowE (aI (bO s.fl)) 1),(7,.rowE (aI K) 1),(8,.mp 2),(9,.sl (qo + 3) 0 j 1),(11,.ptr (q0 + 3) 0),(21,.rowE (fG L) 3),(22,.i L.length),(23,.i (j : Int))] (.cells (fS s) :: .cells (jR L b) :: .mapO (M5 (G ++ [(xc,(Y' ++ [AB.arr [jH (xc,xa,xb)] 3]).length,[(xc,xa,xb)])])) (GB (G ++ [(xc,(Y' ++ [AB.arr [jH (xc,xa,xb)] 3]).length,[(xc,xa,xb)])])) :: (Y'.set q .gone ++ [.arr [jH (xc,xa,xb)] 3,.arr (fG [(xc,xa,xb)]) 3])) (EC.of ?_ (by repeat first|exact trivial|refine ⟨rfl,?_⟩)) (rest (G ++ [(xc,(Y' ++ [AB.arr [jH (xc,xa,xb)] 3]).length,[(xc,xa,xb)])],Y'.set q .gone ++ [.arr [jH (xc,xa,xb)] 3,.arr (fG [(xc,xa,xb)]) 3]) ⟨(gY2.mono' (Y := Y'.set q .gone ++ [.arr [jH (xc,xa,xb)] 3,.arr (fG [(xc,xa,xb)]) 3]) (fun e he => Q0 (gY2.lt e he) (by have := hold e he;omega))).new' (x := (xc,xa,xb)) hk (fun e he => by have := gY2.lt e he;simp;omega) VQ,(Q0 (by omega) (by omega)).trans hoY2,(Q0 (by omega) (by omega)).trans hYx2,?_⟩)
        · show (AB.cells (fS s) :: AB.cells (jR L b) :: AB.mapO (M5 G ++ [kI xc]) (GB G ++ [.sl ((Y' ++ [AB.arr [jH (xc,xa,xb)] 3]).length + 3) 0 (0 + 1) 3]) :: (Y'.set q .gone ++ [AB.arr [jH (xc,xa,xb)] 3,AB.arr (List.take 0 (List.drop 0 []) ++ [jH (xc,xa,xb)]) 3])) = _;simp [M5,GB]
        · intro e he2;rcases bI.1 he2 with h | h
          · exact hne e h
          · rw [bY] at h;subst h;dsimp only;simp only [aF,dW];omega
    case hk =>
      rintro ⟨G',Z⟩ ⟨gZ,hoZ,hxZ,hneZ⟩;dsimp only at gZ hoZ hxZ hneZ ⊢;have hZo : qo < Z.length := (aA.1 hoZ).1;have hap : List.take j (List.drop 0 (aI (L0.map (·.1)))) ++ [[AV.i xc]] = aI ((L.take (j + 1)).map (·.1)) := by
        rw [htk,fJ,bC (by simp;omega)];simp
      have hol : (aI (L0.map (·.1))).length = j := by rw [aR,dY,htl]
      (repeat' (first|(refine rg 9 (mW rfl (fW T rfl (vV (cJ T rfl rfl (QT hxZ) rfl) (bH (by exact aS T rfl rfl (by decide) (by decide) rfl rfl rfl) rfl ?_))));refine eL T rfl rfl rfl rfl rfl (show (_ :: _ :: _ :: (Z ++ [_]))[qo + 3]? = _ from yR hoZ) (by omega) (iU.whole (show (_ :: _ :: _ :: (Z ++ [_]))[Z.length + 3]? = _ from IW) rfl) rfl (by simp;omega) (by simp;omega) rfl ?_;refine aV ?_)|(refine rg 10 (vV (bP rfl rfl (by omega) (by omega)) (mV ?_)))|refine nZ ?_));all_goals
        refine ⟨⟨(j + 1,G',(Z ++ [AB.arr [[AV.i xc]] 1]).set qo .gone ++ [.arr (aI ((L.take (j + 1)).map (·.1))) 1],(Z ++ [AB.arr [[AV.i xc]] 1]).length),?_⟩,by dsimp only;omega,EC.of ?_ (by repeat first|exact trivial|refine ⟨rfl,?_⟩)⟩
      · refine ⟨hlt,?_,?_,fun e he => ?_⟩
        · dsimp only;rw [htk];refine gZ.mono' fun e he => ?_
          have h1 := gZ.lt e he;have h2 := hneZ e he;rw [aG (by simp;omega),fM (Ne.symm h2),aG h1]
        · dsimp only;rw [aK (by simp)];simp
        · dsimp only;have := gZ.lt e he;simp;omega
      · show (AB.cells (fS s) :: AB.cells (jR L b) :: AB.mapO (M5 G') (GB G') :: ((Z ++ [AB.arr [[AV.i xc]] 1]).set qo .gone ++ [AB.arr (List.take j (List.drop 0 (aI (L0.map (·.1)))) ++ [[AV.i xc]]) 1])) = _;rw [hap]
  obtain rfl : j = L.length := by omega
  rw [dU] at gg ho
  (repeat' (first|refine wS ?_|refine wE ?_|refine wU ?_|(refine rg 6 (vV (bG rfl rfl (by omega)) ?_))|refine nZ ?_));obtain ⟨h',e1,e2,e3,e4⟩ := DP (k := 2) (sz := 3) (ks := M5 G) (G.map fun e => (e.2.1 + 3,fG e.2.2)) [] (h := AB.cells (fS s) :: AB.cells (jR L b) :: AB.mapO (M5 G) (GB G) :: X) (by
    show some (AB.mapO (M5 G) (GB G)) = _;simp [GB,Function.comp_def]) (fun e he => by
    obtain ⟨e',he',rfl⟩ := aQ.1 he;exact gg.obj e' he') (by
    rw [G2];have : ((G.map (·.2.1)).map (fun x : Nat => x + 3)).Nodup := gg.ndq.map _ (fun a b hab e => hab (by simpa using e))
    simpa [G2,Function.comp_def] using this) (fun e he => by
    obtain ⟨e',he',rfl⟩ := aQ.1 he
    exact kP (uR _))
  have hnot : ∀ j,j < 3 → j ∉ (G.map fun e => (e.2.1 + 3,fG e.2.2)).map (·.1) := fun j hj hm => by
    simp at hm;obtain ⟨a,b,c,_,e⟩ := hm;omega
  have e0 : h'[0]? = some (.cells (fS s)) := by rw [e2 0 (by decide) (hnot 0 (by decide))];rfl
  have e5 : h'[1]? = some (.cells (jR L b)) := by rw [e2 1 (by decide) (hnot 1 (by decide))];rfl
  have e6 : h'[2]? = some (.mapO (M5 G) (zA5 G)) := by rw [e3];simp [zA5,Function.comp_def]
  have e7 : h'[qo + 3]? = some (.arr (aI (L.map (·.1))) 1) := by
    rw [e2 (qo + 3) (by omega) (fun hm => by
      rw [G2] at hm;obtain ⟨e,he,hq⟩ := aQ.1 hm
      exact hne e he (by simpa using hq))]
    exact ho
  refine AT _ h' (e4 _ _) ?_;refine kT [(2,.ptr 0 0),(3,.ptr 1 0),(6,.rowE (aI (bO s.fl)) 1),(7,.rowE (aI K) 1),(8,.mp 2),(9,.sl 3 0 L.length 1)] [.cells (fS s),.cells (jR L b),.mapO (M5 G) (zA5 G),.arr (aI (L.map (·.1))) 1] ⟨[0,1,2,qo + 3],rfl,⟨rfl,rfl,rfl,rfl,rfl,rfl,trivial⟩,⟨.inr e0,.inr e5,.inr (aD e6 rfl rfl (EO G)),.inr (aC e7 rfl (aM _)),trivial⟩,by simp,gL⟩ ?_
  clear e0 e5 e6 e7 e1 e2 e3 e4 hnot;have hnd := TN gg.nd;have hval := gg.val;have hcov := gg.cov;have hGat : ∀ c,c ∈ G.map (·.1) → ∃ (j' : Nat) (ss : List fR),(M5 G)[j']? = some (kI c) ∧ (zA5 G)[j']? = some (.rowE (fG ss) 3) ∧ ss = oE L c := fun c hc => by
    obtain ⟨⟨o,q,ss⟩,he,hoe⟩ := aQ.1 hc;have he : (c,q,ss) ∈ G := by rw [← hoe];exact he
    obtain ⟨j',hj'⟩ := cU.1 he;exact ⟨j',ss,by unfold M5;rw [aU,aU,hj'];rfl,by unfold zA5;rw [aU,hj'];rfl,(hval _ he).1⟩
  have hGno : ∀ c,c ∉ G.map (·.1) → oE L c = [] := fun c hc => by
    unfold oE;rw [List.filter_eq_nil_iff];intro x hx e;rw [decide_eq_true_eq] at e;exact hc (by rw [← e];exact hcov x hx)
  have hid := EO G;clear gg ho hne hval hcov;have hKL : K.length ≤ 300 := by omega
  (repeat' (first|refine wB ?_|(refine rg 11 (mW rfl (qW T rfl (mV ?_))))|refine nZ ?_));refine bV (X := {k : Nat // k ≤ K.length ∧ ∀ c, c ∈ K.take k → sY s L c}) (fun k => [(2, .ptr 0 0), (3, .ptr 1 0), (6, .rowE (aI (bO s.fl)) 1), (7, .rowE (aI K) 1), (8, .mp 2), (9, .sl 3 0 L.length 1), (43, .rowE (aI K) 1), (44, .i K.length), (45, .i (k.1 : Int))])
    (fun _ => [.cells (fS s),.cells (jR L b),.mapO (M5 G) (zA5 G),.arr (aI (L.map (·.1))) 1]) (fun k => K.length - k.1) ⟨0,cH _,fun c hc => by simp at hc⟩ ⟨[0,1,2,3],rfl,⟨rfl,rfl,rfl,rfl,rfl,rfl,rfl,congrArg (fun n : Nat => some (AV.i n)) hkl,rfl,trivial⟩,⟨.inr rfl,.inr rfl,.inr (aD rfl rfl rfl hid),.inr (aC rfl rfl (aM _)),trivial⟩,by decide,gL⟩ ?_
  rintro ⟨k,hk,hgood⟩;dsimp only at hk hgood ⊢;by_cases hlt : k < K.length
  case neg =>
    obtain rfl : k = K.length := by omega
    rw [dU] at hgood;have hag : nB s L s.fl.k.length := fun c h1 h2 => hgood _ (hKi c h1 h2);have ce := YW (L.map (·.1)) K (by rw [dY];omega)
    (repeat' (first|refine wS ?_|refine wE ?_|refine wU ?_|(refine rg 12 (vV (bG rfl rfl (by omega)) ?_))|refine nZ ?_));refine kT [(2,.ptr 0 0),(3,.ptr 1 0),(7,.rowE (aI K) 1),(9,.sl 2 0 L.length 1)] [.cells (fS s),.cells (jR L b),.arr (aI (L.map (·.1))) 1] ⟨[0,1,3],rfl,(by repeat first|exact trivial|refine ⟨rfl,?_⟩),⟨.inr rfl,.inr rfl,.inr (aC rfl rfl (aM _)),trivial⟩,by decide,gL⟩ ?_
    refine F9 9 rfl rfl (by simp) (kP (aM _)) ?_
    dsimp only [zP6,zP5,List.append_nil,zP4,zP3,zP2,zP1,zP0,zO9,gQ,gJ,gO,iS,rB,jV,mL,mJ,mI,mK,jU,jX,jT,jW,Nat.zero_add,zO8,Nat.reduceAdd,zO7,zO6];have hbad : ¬ (L.map (·.1) = K ∧ bd ≤ b) → r = (-1,25) := fun hn => by
      rcases hr' with ⟨c,h1,h2,h3,h5,e⟩ | ⟨_,h1,h2,_⟩ | ⟨_,_,e⟩
      · exact absurd (hag c h1 h2) h3
      · exact absurd ⟨h1,h2⟩ hn
      · exact e
    by_cases hq : L.map (·.1) = K
    case neg =>
      obtain rfl := hbad (fun h => hq h.1);rw [decide_eq_false hq] at ce
      (repeat' (first|refine wS ?_|refine wR ?_|refine wT ?_|(refine aN (id := 20) 100 zZ9 (rM 89 11) yA0 bM rfl (by decide +kernel) (dN rfl (dN rfl (dV rfl (kC (ce)) (dV rfl (bB rfl) (dN rfl (tG rfl (tG rfl (tG rfl (dG ?_)))))))));refine tG rfl (dV rfl (eP rfl rfl) (dE ?_)))|(refine rg 21 (iZ ?_))|refine nZ ?_));all_goals exact rQ
    rw [decide_eq_true hq] at ce;by_cases hb : bd ≤ b
    case neg =>
      obtain rfl := hbad (fun h => hb h.2)
      (repeat' (first|refine wS ?_|refine wR ?_|refine wT ?_|(refine aN (id := 20) 100 zZ9 (rM 89 11) yA0 bM rfl (by decide +kernel) (dN rfl (dN rfl (dV rfl (kC (ce)) (dV rfl (bB rfl) (dN rfl (tP T rfl (tO T rfl (tO T rfl (dT rfl (kC (cb)) ?_)))))))));refine dT rfl (aL rfl rfl (by omega)) (dV rfl (cY rfl rfl) (dE ?_)))|(refine rg 21 (iZ ?_))|refine nZ ?_));all_goals exact rQ
    have e : r = (-1,0) := by
      rcases hr' with ⟨c,h1,h2,h3,h5,e⟩ | ⟨_,_,_,e⟩ | ⟨_,h,_⟩
      · exact absurd (hag c h1 h2) h3
      · exact e
      · exact absurd ⟨hq,hb⟩ h
    subst e
    (repeat' (first|refine wS ?_|refine wK ?_|refine wR ?_|refine wU ?_|(refine aN (id := 20) 100 zZ9 (rM 89 11) yA0 bM rfl (by decide +kernel) (dN rfl (dN rfl (dV rfl (kC (ce)) (dV rfl (bB rfl) (dN rfl (tP T rfl (tO T rfl (tO T rfl (dT rfl (kC (cb)) ?_)))))))));refine dT rfl (bG rfl rfl (by omega)) (dV rfl (cY rfl rfl) (dE ?_)))|(refine rg 22 (iZ ?_))|refine nZ ?_));all_goals exact rQ
  have qc : (aI K)[(k : Int).toNat]? = some [AV.i K[k]] := by rw [aX];exact iF hlt
  obtain ⟨c0,c1,c4⟩ := hKm _ (dB hlt);have hbefore : ∀ d,d ∈ K → d < K[k] → d ∈ K.take k := fun d hd hdk => by
    obtain ⟨i,hi,rfl⟩ := eE.1 hd;have hik : i < k := by
      rcases Nat.lt_trichotomy i k with h | h | h
      · exact h
      · subst h;omega
      · have := iV.1 hKa k i hlt hi h;omega
    exact eE.2 ⟨i,by rw [dQ];omega,by rw [VZ]⟩
  have hstep : sY s L K[k] → ∀ c,c ∈ K.take (k + 1) → sY s L c := fun h c hc => by
    rw [aJ hlt] at hc;rcases bI.1 hc with hc | hc
    · exact hgood c hc
    · rw [bY] at hc;subst hc;exact h
  have hret : ¬ sY s L K[k] → r = (K[k],25) := fun hn => by
    have hag : nB s L (K[k]).toNat := fun c h1 h2 => hgood _ (hbefore _ (hKi c (by omega) h2) (by omega))
    have hn' : ¬ sY s L (((K[k]).toNat : Nat) : Int) := by rw [hO c0];exact hn
    rcases hr' with ⟨c,h1,h2,h3,h5,e⟩ | ⟨h,_⟩ | ⟨h,_⟩
    · by_cases q : c < (K[k]).toNat
      · exact absurd (hag c q h2) h3
      · by_cases q2 : (K[k]).toNat < c
        · exact absurd (h5 _ q2 c4) hn'
        · rw [e];have : (c : Int) = K[k] := by omega
          rw [this]
    · exact absurd (h _ (by omega) c4) hn'
    · exact absurd (h _ (by omega) c4) hn'
  clear hbefore hgood hr';generalize K[k] = c at *;by_cases hcG : c ∈ G.map (·.1)
  case neg =>
    have hnoK : kI c ∉ M5 G := fun e => hcG (MW.1 e);have hce := hGno c hcG;obtain rfl := hret (fun h => by have := h.1;rw [hce] at this;cases this)
    (repeat' (first|refine wS ?_|refine wB ?_|refine wK ?_|refine wR ?_|refine wT ?_|(refine rg 12 (vV (aL rfl rfl (by omega)) ?_))|(refine rg 13 (vV (ix T rfl (by omega) (aE _) qc) (lW T rfl (aV ?_))))|(refine rg 14 (eX rfl (vV (by exact nI (zA := .nils) vS jL zT3 WI rfl rfl (gC _) rfl (mN G) (eR _) hnoK) ?_));refine vV (DJ T rfl rfl) (vV (lC rfl rfl (by decide)) ?_))|(refine rg 15 (mW rfl (iZ ?_)))|refine nZ ?_));all_goals exact rQ
  obtain ⟨j',ss,hmk,hmv,hss⟩ := hGat c hcG;have hssl : (fG ss).length = ss.length := by simp
  by_cases hone : ss.length = 1
  case neg =>
    obtain rfl := hret (fun h => hone (by rw [hss];exact h.1))
    (repeat' (first|refine wS ?_|refine wB ?_|refine wK ?_|refine wR ?_|refine wT ?_|(refine rg 12 (vV (aL rfl rfl (by omega)) ?_))|(refine rg 13 (vV (ix T rfl (by omega) (aE _) qc) (lW T rfl (aV ?_))))|(refine rg 14 (eX rfl (vV (by exact gR vS jL rfl rfl (gC _) rfl (mN G) (eR _) hnd hmk hmv) ?_));refine qW T rfl (vV (lC rfl rfl (by omega)) ?_))|(refine rg 15 (mW rfl (iZ ?_)))|refine nZ ?_));all_goals exact rQ
  obtain ⟨x,rfl⟩ : ∃ x,ss = [x] := by
    match ss,hone with
    | [x],_ => exact ⟨x,rfl⟩
  have hxL : x ∈ L ∧ x.1 = c := by
    have : x ∈ oE L c := by rw [← hss];simp
    unfold oE at this;rw [fZ,decide_eq_true_eq] at this;exact this
  have huniq : ∀ y,y ∈ L → y.1 = c → y = x := fun y hy hyc => by
    have : y ∈ oE L c := by unfold oE;rw [fZ,decide_eq_true_eq];exact ⟨hy,hyc⟩
    rw [← hss] at this;simpa using this
  obtain ⟨la,lb⟩ := hll _ hxL.1;have hgo : QZ s c x → sY s L c := fun h => ⟨by rw [← hss];rfl,fun y hy hyc => by rw [huniq y hy hyc];exact h⟩
  have hog : sY s L c → QZ s c x := fun h => h.2 x hxL.1 hxL.2
  clear huniq hxL hss hGat hGno;obtain ⟨xc,xa,xb⟩ := x;dsimp only at la lb;have oa := zF7 xa (by omega)
  have ob := zF7 xb (by omega)
  have ola := ST xa;have olb := ST xb;by_cases hA : wH s c xa
  case neg =>
    have cA := J3 s g c xa la false ⟨fun h => Bool.noConfusion h,fun h => absurd h hA⟩
    obtain rfl := hret (fun h => hA (hog h).a)
    (repeat' (first|refine wS ?_|refine wB ?_|refine wK ?_|refine wR ?_|refine wT ?_|refine wU ?_|(refine rg 12 (vV (aL rfl rfl (by omega)) ?_))|(refine rg 13 (vV (ix T rfl (by omega) (aE _) qc) (lW T rfl (aV ?_))))|(refine rg 14 (eX rfl (vV (by exact gR vS jL rfl rfl (gC _) rfl (mN G) (eR _) hnd hmk hmv) ?_));refine qW T rfl (vV (gE rfl rfl rfl) ?_))|(refine rg 16 (eX rfl (vV (by exact gR vS jL rfl rfl (gC _) rfl (mN G) (eR _) hnd hmk hmv) ?_));refine vV (ix T rfl (by decide) (tV _) rfl) (lW T rfl (bH (cX T rfl) rfl (bJ T rfl rfl rfl rfl rfl rfl (by decide) rfl ?_))))|(refine aN (id := 17) 100 yA1 (rM 60 27) yA2 bM rfl (by decide +kernel) (dO T rfl (dN rfl (dN rfl (dP T rfl (dO T rfl (dV rfl (kC (cA)) (dV rfl (bB rfl) (dN rfl (dG ?_)))))))));refine tG rfl (tG rfl (tG rfl (tG rfl (tG rfl (tG rfl (dV rfl (eP rfl rfl) (dN rfl (tG rfl (dG ?_)))))))));refine tG rfl (tG rfl (tG rfl (tG rfl (tG rfl (tG rfl (tG rfl (dV rfl (eP rfl rfl) (dE ?_)))))))))|(refine rg 18 (mW rfl (iZ ?_)))|refine nZ ?_));all_goals exact rQ
  have cA := J3 s g c xa la true ⟨fun _ => hA,fun _ => rfl⟩
  by_cases hB : wH s c xb
  case neg =>
    have cB := J3 s g c xb lb false ⟨fun h => Bool.noConfusion h,fun h => absurd h hB⟩
    obtain rfl := hret (fun h => hB (hog h).b)
    (repeat' (first|refine wS ?_|refine wB ?_|refine wK ?_|refine wR ?_|refine wT ?_|refine wU ?_|(refine rg 12 (vV (aL rfl rfl (by omega)) ?_))|(refine rg 13 (vV (ix T rfl (by omega) (aE _) qc) (lW T rfl (aV ?_))))|(refine rg 14 (eX rfl (vV (by exact gR vS jL rfl rfl (gC _) rfl (mN G) (eR _) hnd hmk hmv) ?_));refine qW T rfl (vV (gE rfl rfl rfl) ?_))|(refine rg 16 (eX rfl (vV (by exact gR vS jL rfl rfl (gC _) rfl (mN G) (eR _) hnd hmk hmv) ?_));refine vV (ix T rfl (by decide) (tV _) rfl) (lW T rfl (bH (cX T rfl) rfl (bJ T rfl rfl rfl rfl rfl rfl (by decide) rfl ?_))))|(refine aN (id := 17) 100 yA1 (rM 60 27) yA2 bM rfl (by decide +kernel) (dO T rfl (dN rfl (dN rfl (dP T rfl (dO T rfl (dV rfl (kC (cA)) (dV rfl (bB rfl) (dN rfl (tL T ?_)))))))));refine tN rfl (tN rfl (tP T rfl (tO T rfl (dT rfl (kC (cB)) (dT rfl (bB rfl) (dV rfl (cY rfl rfl) (dN rfl (tG rfl (dG ?_)))))))));refine tG rfl (tG rfl (tG rfl (tG rfl (tG rfl (tG rfl (tG rfl (dV rfl (eP rfl rfl) (dE ?_)))))))))|(refine rg 18 (mW rfl (iZ ?_)))|refine nZ ?_));all_goals exact rQ
  have cB := J3 s g c xb lb true ⟨fun _ => hB,fun _ => rfl⟩
  have hij := KH g hA hB;have ci := YM (wM xa) (wM xb) (by omega) (by omega)
  have hil : (aI (rJ (wM xa) (wM xb))).length = (rJ (wM xa) (wM xb)).length := aR _;generalize rJ (wM xa) (wM xb) = I at *;generalize wM xa = Oa at *;generalize wM xb = Ob at *;by_cases hD : I.length = 1
  case neg =>
    obtain rfl := hret (fun h => hD (hij.2 (hog h).d))
    (repeat' (first|refine wS ?_|refine wB ?_|refine wK ?_|refine wR ?_|refine wT ?_|refine wU ?_|(refine rg 12 (vV (aL rfl rfl (by omega)) ?_))|(refine rg 13 (vV (ix T rfl (by omega) (aE _) qc) (lW T rfl (aV ?_))))|(refine rg 14 (eX rfl (vV (by exact gR vS jL rfl rfl (gC _) rfl (mN G) (eR _) hnd hmk hmv) ?_));refine qW T rfl (vV (gE rfl rfl rfl) ?_))|(refine rg 16 (eX rfl (vV (by exact gR vS jL rfl rfl (gC _) rfl (mN G) (eR _) hnd hmk hmv) ?_));refine vV (ix T rfl (by decide) (tV _) rfl) (lW T rfl (bH (cX T rfl) rfl (bJ T rfl rfl rfl rfl rfl rfl (by decide) rfl ?_))))|(refine aN (id := 17) 100 yA1 (rM 60 27) yA2 bM rfl (by decide +kernel) (dO T rfl (dN rfl (dN rfl (dP T rfl (dO T rfl (dV rfl (kC (cA)) (dV rfl (bB rfl) (dN rfl (tL T ?_)))))))));refine tN rfl (tN rfl (tP T rfl (tO T rfl (dT rfl (kC (cB)) (dT rfl (bB rfl) (dV rfl (cY rfl rfl) (dN rfl (tP T rfl (tL T ?_)))))))));refine dT rfl (kC (oa)) (tP T rfl (tO T rfl (dT rfl (kC (ob)) (dT rfl (kC (ci)) (dT rfl (eF T rfl rfl) (dT rfl (lC rfl rfl (by omega)) (dV rfl (cY rfl rfl) (dE ?_)))))))))|(refine rg 18 (mW rfl (iZ ?_)))|refine nZ ?_));all_goals exact rQ
  have hst := hstep (hgo ⟨hA,hB,hij.1 hD⟩)
  (repeat' (first|refine wS ?_|refine wB ?_|refine wK ?_|refine wT ?_|refine wU ?_|(refine rg 12 (vV (aL rfl rfl (by omega)) ?_))|(refine rg 13 (vV (ix T rfl (by omega) (aE _) qc) (lW T rfl (aV ?_))))|(refine rg 14 (eX rfl (vV (by exact gR vS jL rfl rfl (gC _) rfl (mN G) (eR _) hnd hmk hmv) ?_));refine qW T rfl (vV (gE rfl rfl rfl) ?_))|(refine rg 16 (eX rfl (vV (by exact gR vS jL rfl rfl (gC _) rfl (mN G) (eR _) hnd hmk hmv) ?_));refine vV (ix T rfl (by decide) (tV _) rfl) (lW T rfl (bH (cX T rfl) rfl (bJ T rfl rfl rfl rfl rfl rfl (by decide) rfl ?_))))|(refine aN (id := 17) 100 yA1 (rM 60 27) yA2 bM rfl (by decide +kernel) (dO T rfl (dN rfl (dN rfl (dP T rfl (dO T rfl (dV rfl (kC (cA)) (dV rfl (bB rfl) (dN rfl (tL T ?_)))))))));refine tN rfl (tN rfl (tP T rfl (tO T rfl (dT rfl (kC (cB)) (dT rfl (bB rfl) (dV rfl (cY rfl rfl) (dN rfl (tP T rfl (tL T ?_)))))))));refine dT rfl (kC (oa)) (tP T rfl (tO T rfl (dT rfl (kC (ob)) (dT rfl (kC (ci)) (dT rfl (eF T rfl rfl) (dT rfl (gE rfl rfl (by omega)) (dV rfl (cY rfl rfl) (dE ?_)))))))))|(refine rg 19 (vV (bP rfl rfl (by omega) (by omega)) (mV ?_)))|refine nZ ?_));all_goals exact ⟨⟨k + 1,hlt,hst⟩,by dsimp only;omega,[0,1,2,3],rfl,(by repeat first|exact trivial|refine ⟨rfl,?_⟩),⟨.inr rfl,.inr rfl,.inr (aD rfl rfl rfl hid),.inr (aC rfl rfl (aM _)),trivial⟩,by decide,gL⟩
end Go.Proofs.YtdmajnjoeidgeaaGreat
