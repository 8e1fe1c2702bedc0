/-
  Texts of the logic and of the layer,in one module (part 6).
-/
import Derived.Test.YtmmmeebiobjnbaaGreatR5
import Derived.Shelf.Spec.SlicesGrow
import Derived.Ground.Names8Prog
set_option linter.unusedVariables false
set_option linter.unusedSimpArgs false
set_option linter.unnecessarySimpa false
namespace Go.Ld
open Go.Ab Go.Proofs.YtmmmeebiobjnbaaGreat
def zN (g : G) : Int := match iD g with
  | some k => (k : Int)
  | none => -1
theorem LQ {g : G} (h : g.1.length < 2 ∨ g.2 = []) : zN g = -1 := by unfold zN iD;rw [if_pos h]
theorem ZT {g : G} {k : Nat} (h : ¬ (g.1.length < 2 ∨ g.2 = [])) (hk : k < g.1.length) (h1 : ∀ j,j < k → yY g j = false) (h2 : yY g k = true) : zN g = k := by
  unfold zN iD;rw [if_neg h,List.find?_range_eq_some.2 ⟨h2,by simpa using hk,fun j hj => by simp [h1 j hj]⟩]
theorem UM {g : G} (h : ¬ (g.1.length < 2 ∨ g.2 = [])) (h1 : ∀ j,j < g.1.length → yY g j = false) : zN g = -1 := by
  unfold zN iD;rw [if_neg h,List.find?_range_eq_none.2 (fun j hj => by simp [h1 j hj])]
def EP (f : W) (i : Nat) (w : W) : Bool := !decide (gP w i = gP f i ∧ gC w i = gC f i)
theorem ND {bs : List Int} {f : W} {l : List W} {i : Nat} : yY (bs,f :: l) i = !(f :: l).any (EP f i) := by
  show (f :: l).all (fun w => decide (gP w i = gP f i ∧ gC w i = gC f i)) = _;rw [List.not_any_eq_all_not];congr 1;funext w;simp [EP]
end Go.Ld
namespace Go.Proofs.YtmmmeebiobjnbaaGreat
open Go Go.Ab Go.Ld
attribute [local irreducible] VC AW cE aU wI
set_option maxHeartbeats 4000000
theorem yA9 : wI Tryz.prog 102 2 := by unfold wI;kernel_rfl
theorem OK (w f : W) {i : Nat} (h1 : i < w.1.length) (h2 : i < w.2.2.length) (h3 : i < f.1.length) (h4 : i < f.2.2.length) (hs : M1 w) (hf : M1 f) :
    aU Tryz.prog 137 [MM w,.pr [.i i] 0,.pr (wA f) 0] [] (.b (EP f i w)) [] := by
  obtain ⟨p,m,c⟩ := w;obtain ⟨p',m',c'⟩ := f;dsimp only at h1 h2 h3 h4;unfold M1 at hs hf;dsimp only at hs hf;have hlp : (ints p).length = p.length := dA _;have hlp' : (ints p').length = p'.length := dA _;have hlc : (fL c).length = c.length := hO _;have hlc' : (fL c').length = c'.length := hO _;have q1 := rY (l := p) (j := (i : Int)) (i := i) 0 h1 rfl;have q2 := rY (l := p') (j := (i : Int)) (i := i) 0 h3 rfl;have q3 := vB (l := c) (j := (i : Int)) (i := i) h2 rfl;have q4 := vB (l := c') (j := (i : Int)) (i := i) h4 rfl;have hd : EP (p',m',c') i (p,m,c) = !decide (p.getD i 0 = p'.getD i 0 ∧ c.getD i (0,0) = c'.getD i (0,0)) := rfl;rw [hd];generalize p.getD i 0 = x at *;generalize p'.getD i 0 = y at *;generalize hr : c.getD i (0,0) = r at *;generalize hr' : c'.getD i (0,0) = r' at *;obtain ⟨a,b⟩ := r;obtain ⟨a',b'⟩ := r';dsimp only at q3 q4;by_cases h : x = y
  · rw [show (!decide (x = y ∧ (a,b) = (a',b'))) = !decide (a = a' ∧ b = b') by simp [h]]
    refine bX T Tryz.func137 rfl rfl rfl rfl ?_
    (repeat' (first|refine wS ?_|refine wR ?_|(refine rg 0 (cH (cY rfl rfl) rfl (aV ?_)))|(refine cO (id := 1) 29 yN1 (rM 5 24) yN2 cW rfl (by decide +kernel) (dP T rfl (dO T rfl (dO T rfl (dV rfl (ix T rfl (by omega) (eB p) q1) (dO T rfl (dP T rfl (dO T rfl (dO T rfl (dV rfl (ix T rfl (by omega) (eB p') q2) ?_)))))))));refine dO T rfl (dV rfl (V6 rfl rfl h) (dN rfl (tP T rfl (tO T rfl (tO T rfl (dT rfl (ix T rfl (by omega) (lJ c) q3) (tO T rfl (tP T rfl (tL T ?_)))))))));refine tO T rfl (dT rfl (ix T rfl (by omega) (lJ c') q4) (tO T rfl (dT rfl (zL6 yA9 rfl rfl) (dV rfl (jV rfl rfl) (dE ?_)))));refine aV ?_)|refine nZ ?_));all_goals first | (exfalso;omega) | exact rQ
  · rw [show (!decide (x = y ∧ (a,b) = (a',b'))) = true by simp [h]]
    refine bX T Tryz.func137 rfl rfl rfl rfl ?_
    (repeat' (first|refine wS ?_|refine wR ?_|(refine rg 0 (cH (cY rfl rfl) rfl (aV ?_)))|(refine cO (id := 1) 29 yN1 (rM 5 24) yN2 cW rfl (by decide +kernel) (dP T rfl (dO T rfl (dO T rfl (dV rfl (ix T rfl (by omega) (eB p) q1) (dO T rfl (dP T rfl (dO T rfl (dO T rfl (dV rfl (ix T rfl (by omega) (eB p') q2) ?_)))))))));refine dO T rfl (dV rfl (V5 rfl rfl h) (dN rfl (tG rfl (tG rfl (tG rfl (tG rfl (tG rfl (tG rfl (dG ?_)))))))));refine tG rfl (tG rfl (tG rfl (tG rfl (dV rfl (kM rfl rfl) (dE ?_)))));refine aV ?_)|refine nZ ?_));all_goals first | (exfalso;omega) | exact rQ
structure zZ0 (g : G) : Prop where
  b : g.1.length ≤ 1000
  w : g.2.length ≤ 1000000
  p : ∀ w,w ∈ g.2 → w.1.length = g.1.length
  c : ∀ w,w ∈ g.2 → w.2.2.length = g.1.length
theorem zZ0.sm {g : G} (h : zZ0 g) {w : W} (hw : w ∈ g.2) : M1 w := ⟨by have := h.p w hw;have := h.b;omega,by have := h.c w hw;have := h.b;omega⟩
theorem UL (g : G) (hs : zZ0 g) : aU Tryz.prog 102 [VA g] [] (.i (zN g)) [] := by
  have hsz := hs;obtain ⟨bs,ws⟩ := g;obtain ⟨hb,hw,hp,hc⟩ := hs;dsimp only at hb hw hp hc;have hlb : (ints bs).length = bs.length := dA _;have hlw : (gB ws).length = ws.length := fH _;by_cases h0 : bs.length < 2
  · rw [LQ (.inl h0)];refine bX T Tryz.func102 rfl rfl rfl rfl ?_
    (repeat' (first|refine wS ?_|refine wR ?_|refine wT ?_|(refine rg 0 (cH (cY rfl rfl) rfl (aV ?_)))|(refine rg 1 (iP T rfl (qW T rfl (vV (aJ rfl rfl) (mV ?_))));refine bT rfl rfl ?_ ?_<;>(intro hb;rw [hb];(try simp only [nm] at hb);try (exfalso;omega));(all_goals ((iterate 4 refine gF ?_);refine pV ?_)))|(refine rg 2 (aV ?_))|refine nZ ?_));all_goals first | (exfalso;omega) | exact rQ
  · cases ws with
    | nil =>
      rw [LQ (.inr rfl)];refine bX T Tryz.func102 rfl rfl rfl rfl ?_
      (repeat' (first|refine wS ?_|refine wR ?_|refine wT ?_|(refine rg 0 (cH (cY rfl rfl) rfl (aV ?_)))|(refine rg 1 (iP T rfl (qW T rfl (vV (aJ rfl rfl) (mV ?_))));refine bT rfl rfl ?_ ?_<;>(intro hb;rw [hb];(try simp only [nm] at hb);try (exfalso;omega));(all_goals (refine yP T rfl (yO T rfl (gT (qW T rfl (yV (eX rfl rfl) (pV ?_))))))))|(refine rg 2 (aV ?_))|refine nZ ?_));all_goals first | (exfalso;omega) | exact rQ
    | cons f l =>
      have hn : ¬ (bs.length < 2 ∨ f :: l = []) := by rintro (h | h);exact h0 h;cases h
      have hg0 : (gB (f :: l))[(0 : Int).toNat]? = some (wA f) := rfl;have hl1 : (gB (f :: l)).length = l.length + 1 := by simp
      refine bX T Tryz.func102 rfl rfl rfl rfl ?_
      (repeat' (first|refine wS ?_|refine wB ?_|refine wK ?_|refine wU ?_|(refine rg 0 (cH (cY rfl rfl) rfl (aV ?_)))|(refine rg 1 (iP T rfl (qW T rfl (vV (aJ rfl rfl) (mV ?_))));refine bT rfl rfl ?_ ?_<;>(intro hb;rw [hb];(try simp only [nm] at hb);try (exfalso;omega));(all_goals (refine yP T rfl (yO T rfl (gT (qW T rfl (yV (eX rfl rfl) (pV ?_))))))))|(refine rg 3 (iP T rfl (qW T rfl (mV ?_))))|refine nZ ?_));all_goals try (exfalso;omega)
      all_goals refine dC (X := {k : Nat // k ≤ bs.length ∧ ∀ j,j < k → yY (bs,f :: l) j = false}) (fun k => [(1,.ptr 0 0),(17,.i (ints bs).length),(18,.i k.1)]) (fun _ => [.cells [.rowE (ints bs) 1,.rowE (gB (f :: l)) 3]]) (fun k => bs.length - k.1) ⟨0,bY _,fun j hj => absurd hj (eJ _)⟩ (gM [0]) ?_
      all_goals rintro ⟨k,hk,hj⟩
      all_goals dsimp only
      all_goals by_cases hlt : k < bs.length
      · have hlf : k < f.1.length := by rw [hp f aS];exact hlt
        have hlf2 : k < f.2.2.length := by rw [hc f aS];exact hlt
        have hcc := zV5 (caps := [.pr [.i k] 0,.pr (wA f) 0]) (p := EP f k) (l := f :: l) hw rfl (fun x hx => OK x f (by rw [hp x hx];exact hlt) (by rw [hc x hx];exact hlt) hlf hlf2 (hsz.sm hx) (hsz.sm aS))
        have hsa := ND (bs := bs) (f := f) (l := l) (i := k);cases hany : (f :: l).any (EP f k) with
        | false =>
          rw [hany] at hcc hsa;have hci := ZT hn hlt hj hsa;rw [hci]
          (repeat' (first|refine wS ?_|refine wB ?_|refine wK ?_|refine wR ?_|refine wT ?_|(refine wC rfl ?_ ?_<;>(intro hb;(try simp only [nm] at hb);try (exfalso;omega)))|(refine rg 4 (vV (aJ rfl rfl) ?_))|(refine rg 5 (mW rfl (cH (cK T rfl) rfl (bA T rfl rfl rfl rfl rfl rfl (by decide) rfl ?_))))|(refine rg 6 (iP T rfl (vV (ix T rfl (by omega) (pE _) hg0) (lW T rfl (cH (cK T rfl) rfl (bA T rfl rfl rfl rfl rfl rfl (by decide) rfl ?_))))))|(refine rg 7 (iP T rfl (vV (by exact kT rfl rfl) ?_));refine vV (by exact eW rfl rfl hcc (.cons (.row _ _ _) (.cons (.clo .nil (.cons (.ptr rfl (.cons (.v _) .nil)) (.cons (.ptr rfl (.cons (.row _ _ _) (.cons (.v _) (.cons (.row _ _ _) .nil)))) .nil))) .nil)) rfl rfl) ?_;refine vV (eM rfl) ?_)|(refine rg 8 (lW T rfl (aV ?_)))|refine nZ ?_));all_goals first | (exfalso;omega) | exact rQ
        | true =>
          rw [hany] at hcc hsa
          (repeat' (first|refine wS ?_|refine wB ?_|refine wK ?_|refine wU ?_|(refine wC rfl ?_ ?_<;>(intro hb;(try simp only [nm] at hb);try (exfalso;omega)))|(refine rg 4 (vV (aJ rfl rfl) ?_))|(refine rg 5 (mW rfl (cH (cK T rfl) rfl (bA T rfl rfl rfl rfl rfl rfl (by decide) rfl ?_))))|(refine rg 6 (iP T rfl (vV (ix T rfl (by omega) (pE _) hg0) (lW T rfl (cH (cK T rfl) rfl (bA T rfl rfl rfl rfl rfl rfl (by decide) rfl ?_))))))|(refine rg 7 (iP T rfl (vV (by exact kT rfl rfl) ?_));refine vV (by exact eW rfl rfl hcc (.cons (.row _ _ _) (.cons (.clo .nil (.cons (.ptr rfl (.cons (.v _) .nil)) (.cons (.ptr rfl (.cons (.row _ _ _) (.cons (.v _) (.cons (.row _ _ _) .nil)))) .nil))) .nil)) rfl rfl) ?_;refine vV (eM rfl) ?_)|(refine rg 9 (vV (cJ rfl rfl (by omega) (by omega)) (mV ?_)))|refine nZ ?_));all_goals first | (exfalso;omega) | skip
          all_goals exact ⟨⟨k + 1,by omega,fun j hjk => (iZ j k).elim (hj j) (fun h => by obtain rfl : j = k := (by omega);exact hsa)⟩,by dsimp only;omega,gM [0]⟩
      · rw [UM hn (fun j hjl => hj j (by dsimp only at hjl;omega))]
        (repeat' (first|refine wS ?_|refine wR ?_|refine wE ?_|(refine wC rfl ?_ ?_<;>(intro hb;(try simp only [nm] at hb);try (exfalso;omega)))|(refine rg 4 (vV (aJ rfl rfl) ?_))|(refine rg 10 (aV ?_))|refine nZ ?_));all_goals first | (exfalso;omega) | exact rQ
end Go.Proofs.YtmmmeebiobjnbaaGreat
namespace Go.Ld
open Go.Ab Go.Proofs.YtmmmeebiobjnbaaGreat
theorem J7 {α : Type} (l : List α) (k : Nat) : l.take k ++ l.drop (k + 1) = l.eraseIdx k := (List.eraseIdx_eq_take_drop_succ l k).symm
end Go.Ld
namespace Go.Proofs.YtmmmeebiobjnbaaGreat
open Go Go.Ab Go.Ld
attribute [local irreducible] VC AW cE aU wI iV
set_option maxHeartbeats 4000000
theorem zG0 (g : G) {k : Nat} (hs : zZ0 g) (hk : k < g.1.length) (h2 : 2 ≤ g.1.length) (hne : g.2 ≠ []) (hsm : g.2.length ≤ 100000) :
    aU Tryz.prog 103 [VA g,.i k] [] (.tup [VA (nA g k),VA (jM g k)]) [] := by
  have hsz := hs;obtain ⟨bs,ws⟩ := g;obtain ⟨hb,hw,hp,hc⟩ := hs;dsimp only at hb hw hp hc hk h2 hsm;cases ws with
  | nil => exact absurd rfl hne
  | cons f l =>
  have hlb : (ints bs).length = bs.length := dA _;have hf1 := hp f aS;have hf2 := hc f aS;have hlp : (ints f.1).length = f.1.length := dA _;have hlc : (fL f.2.2).length = f.2.2.length := hO _;have hg0 : (gB (f :: l))[(0 : Int).toNat]? = some (wA f) := rfl;have hl1 : (gB (f :: l)).length = l.length + 1 := by simp
  have q1 := rY (l := bs) (j := (k : Int)) (i := k) 0 hk rfl;have q2 := rY (l := f.1) (j := (k : Int)) (i := k) 0 (by omega) rfl
  have q3 := vB (l := f.2.2) (j := (k : Int)) (i := k) (by omega) rfl
  have cl := HB bs (by omega)
  have dl := ZN bs k (k + 1) (by omega) (by omega) (by intro h;rw [h] at hk;simp at hk)
  rw [J7,show bs.length - (k + 1 - k) = bs.length - 1 by omega,show ((k + 1 : Nat) : Int) = (k : Int) + 1 by omega] at dl
  have hel : (bs.eraseIdx k).length = bs.length - 1 := by rw [fZ,if_pos hk]
  obtain ⟨L,hL⟩ : ∃ L,f :: l = L := ⟨_,rfl⟩;have hp' : ∀ w,w ∈ L → w.1.length = bs.length := by rw [← hL];exact hp
  have hc' : ∀ w,w ∈ L → w.2.2.length = bs.length := by rw [← hL];exact hc
  have hsm' : L.length ≤ 100000 := by rw [← hL];exact hsm
  have hsz' : ∀ w,w ∈ L → M1 w := by rw [← hL];exact fun w h => hsz.sm h
  obtain ⟨R,hR⟩ : ∃ R,R = L.map (zN5 k) := ⟨_,rfl⟩;have hor : jM (bs,f :: l) k = (bs.eraseIdx k,gJ R) := by rw [hR,← hL];rfl
  rw [hor]
  have ho := DU R (by rw [hR,aY];exact hsm') (fun w hw' => by
    rw [hR] at hw';obtain ⟨v,hv,rfl⟩ := bB.1 hw';have h1 := hp' v hv;have h2 := hc' v hv;unfold M1 zN5;dsimp only;rw [fZ,fZ]
    constructor <;> split <;> omega)
  refine G5 (res := .tup [.agg [.sl 0 0 1 1,.sl 3 0 1 3],.agg [.rowE (ints (bs.eraseIdx k)) 1,.rowE (gB (gJ R)) 3]]) (hout := [.arr (ints [bs.getD k 0]) 1,.arr (ints [f.1.getD k 0]) 1,.arr (fL [f.2.2.getD k (0,0)]) 2,.arr [[.sl 1 0 1 1,.i 0,.sl 2 0 1 2]] 3]) ?_ (.tup (.cons (.agg (.cons (uZ rfl rfl) (.cons (.sl rfl (by decide) (.cons (uZ rfl rfl) (.cons (.v _) (.cons (W8 rfl rfl) .nil)))) .nil))) (.cons (.agg (.cons (.row _ _ _) (.cons (.row _ _ _) .nil))) .nil)))
  generalize bs.getD k 0 = x1 at *;generalize f.1.getD k 0 = x2 at *;generalize hr : f.2.2.getD k (0,0) = r at *;obtain ⟨a1,a2⟩ := r;dsimp only at q3;refine bX T Tryz.func103 rfl rfl rfl rfl ?_
  (repeat' (first|refine wS ?_|(refine rg 0 (cH (cY rfl rfl) rfl (cH (cK T rfl) rfl (cH (cK T rfl) rfl ?_))))|(refine rg 1 (iP T rfl (vV (ix T rfl (by omega) (pE _) hg0) (lW T rfl (cH (cK T rfl) rfl (bA T rfl rfl rfl rfl rfl rfl (by decide) rfl ?_))))))|(refine cO (id := 2) 78 [[],[0],[],[0,1,2],rN 4,rN 5,[],[6],[],[6,7,8],rM 6 4,rM 6 5,[],[12],[],[12,13,14],rM 12 4,rM 12 5,rM 6 12,rM 6 13,rN 20] (rM 13 21) [[],[],[13,14],[],[],[],rM 13 6,rM 13 6,rM 13 8,rM 13 6,rM 13 6,rM 13 6,rM 13 12,rM 13 12,rM 13 14,rM 13 12,rM 13 12,rM 13 12,rM 13 6,rM 13 6,[]] cW rfl (by decide +kernel) (dP T rfl (dO T rfl (dN rfl (dV rfl (ix T rfl (by omega) (eB bs) q1) (dO T rfl (F9 rfl rfl rfl (by exact bD T rfl rfl (by decide) (by decide) rfl rfl rfl) rfl ?_))))));refine dP T rfl (dO T rfl (dN rfl (dV rfl (ix T rfl (by omega) (eB f.1) q2) (dO T rfl (F9 rfl rfl rfl (by exact bD T rfl rfl (by decide) (by decide) rfl rfl rfl) rfl ?_)))));refine dP T rfl (dO T rfl (dN rfl (dV rfl (ix T rfl (by omega) (lJ f.2.2) q3) (dO T rfl (F9 rfl rfl rfl (by exact bD T rfl rfl (by decide) (by decide) rfl rfl rfl) rfl ?_)))));refine dV rfl (by exact eR T rfl rfl rfl rfl) ?_;refine F9 rfl rfl rfl (by exact bD T rfl rfl (by decide) (by decide) rfl rfl rfl) rfl ?_;refine dV rfl (by exact eR T rfl rfl rfl rfl) ?_;refine dE ?_;refine bA T rfl rfl rfl rfl rfl rfl (by decide) rfl ?_)|(refine rg 3 (iP T rfl (cH (by exact fQ rfl rfl cl (.inr ⟨rfl,rfl,by simp⟩)) rfl ?_));refine dK rfl (vV (cJ rfl rfl (by omega) (by omega)) (eA [8] rfl rfl (dl) rfl rfl (by decide) ⟨.inr (aC rfl (bE _ (bN _)) (bN _)),trivial⟩ (by simp) rfl ?_));refine fW T rfl (bA T rfl rfl rfl rfl rfl rfl (by decide) rfl ?_))|refine nZ ?_));refine eU [(1, .i k), (2, .ptr 0 0), (4, .ptr 1 0), (5, .ptr 2 0)] [.cells [.rowE (ints bs) 1, .rowE (gB (f :: l)) 3], .cells [.sl 3 0 1 1, .sl 6 0 1 3], .cells [.sl 7 0 (bs.length - 1) 1, .nils], .arr (ints [x1]) 1, .arr (ints [x2]) 1, .arr (fL [(a1, a2)]) 2, .arr [[.sl 4 0 1 1, .i 0, .sl 5 0 1 2]] 3, .arr (ints (bs.eraseIdx k)) 1]
    ⟨[0,1,2,4,5,6,7,8],rfl,(by repeat first|exact trivial|refine ⟨rfl,?_⟩),⟨.inr rfl,.inr rfl,.inr rfl,.inr rfl,.inr rfl,.inr rfl,.inr rfl,.inr (aC rfl (bE _ (bN _)) (bN _)),trivial⟩,by decide,kI _⟩ ?_
  refine nJ 2 0 rfl rfl rfl (by rw [dA,hel]) (gE (bN _)) ?_
  refine nX 2 1 3 rfl rfl (by decide) ?_
  rw [hL]
  (repeat' (first|refine wB ?_|(refine rg 4 (iP T rfl (qW T rfl (mV ?_))))|refine nZ ?_));refine dC (X := {i : Nat // i ≤ L.length}) (fun i => [(1, .i k), (4, .ptr 0 0), (5, .ptr 1 0), (43, .rowE (gB L) 3), (44, .i (gB L).length), (45, .i i.1)]) (fun i => [.cells [.sl 2 0 1 1, .sl 5 0 1 3], .cells [.rowE (ints (bs.eraseIdx k)) 1, .sl 6 0 i.1 3], .arr (ints [x1]) 1, .arr (ints [x2]) 1, .arr (fL [(a1, a2)]) 2, .arr [[.sl 3 0 1 1, .i 0, .sl 4 0 1 2]] 3, .arr (gB (R.take i.1)) 3]) (fun i => L.length - i.1) ⟨0, bY _⟩
    ⟨[1,2,3,4,5,6,8],rfl,(by repeat first|exact trivial|refine ⟨rfl,?_⟩),⟨.inr rfl,.inr rfl,.inr rfl,.inr rfl,.inr rfl,.inr rfl,.inr rfl,trivial⟩,by decide,kI _⟩ ?_
  rintro ⟨i,hi⟩;dsimp only;have hLl : (gB L).length = L.length := fH _;have hRl : R.length = L.length := by rw [hR,aY]
  by_cases hlt : i < L.length
  · have hg := A0 hlt;have hv1 := hp' L[i] (aM hlt);have hv2 := hc' L[i] (aM hlt);have hRs : R.take (i + 1) = R.take i ++ [zN5 k L[i]] := by rw [aP (by omega)];simp [hR]
    have hwm := hsz' _ (aM hlt);generalize L[i] = v at *;have hcw := GZ v hwm;obtain ⟨p,m,c⟩ := v;dsimp only at hv1 hv2 hcw hRs;have e1 := pJ (ZN p k (k + 1) (by omega) (by omega) (by intro h;rw [h] at hv1;simp at hv1;omega))
    have e2 := pJ (zX3 c k (k + 1) (by omega) (by omega) (by intro h;rw [h] at hv2;simp at hv2;omega))
    rw [J7,show p.length - (k + 1 - k) = p.length - 1 by omega,show ((k + 1 : Nat) : Int) = (k : Int) + 1 by omega] at e1
    rw [J7,show c.length - (k + 1 - k) = c.length - 1 by omega,show ((k + 1 : Nat) : Int) = (k : Int) + 1 by omega] at e2
    (repeat' (first|refine wS ?_|refine wB ?_|refine wK ?_|(refine wC rfl ?_ ?_<;>(intro hb;(try simp only [nm] at hb);try (exfalso;omega)))|(refine rg 5 (vV (aJ rfl rfl) ?_))|(refine rg 6 (vV (ix T rfl (by omega) (pE _) hg) (lW T rfl (cH (cK T rfl) rfl (bA T rfl rfl rfl rfl rfl rfl (by decide) rfl ?_)))))|(refine rg 7 (lW T rfl (cH (by exact fQ rfl rfl hcw (.inr ⟨rfl,rfl,by simp⟩)) rfl ?_));refine bA T rfl rfl rfl rfl rfl rfl (by decide) rfl ?_)|refine nZ ?_));all_goals try (exfalso;omega)
    refine eU [(1, .i k), (4, .ptr 0 0), (5, .ptr 1 0), (8, .ptr 7 0), (43, .rowE (gB L) 3), (44, .i (gB L).length), (45, .i i)] [.cells [.sl 2 0 1 1, .sl 5 0 1 3], .cells [.rowE (ints (bs.eraseIdx k)) 1, .sl 6 0 i 3], .arr (ints [x1]) 1, .arr (ints [x2]) 1, .arr (fL [(a1, a2)]) 2, .arr [[.sl 3 0 1 1, .i 0, .sl 4 0 1 2]] 3, .arr (gB (R.take i)) 3, .cells [.sl 8 0 p.length 1, .i m, .sl 9 0 c.length 2], .arr (ints p) 1, .arr (fL c) 2]
      ⟨[0,1,2,3,4,5,6,7,8,9],rfl,(by repeat first|exact trivial|refine ⟨rfl,?_⟩),⟨.inr rfl,.inr rfl,.inr rfl,.inr rfl,.inr rfl,.inr rfl,.inr (aC rfl rfl (bV _)),.inr rfl,.inr (aC rfl (bE _ (bN _)) (bN _)),.inr (aC rfl (bE _ (fD _)) (fD _)),trivial⟩,by decide,kI _⟩ ?_
    repeat' (first|(refine lN (id := 8) 78 [[],[0],[],[],[3],rN 5,[],[6],[],[],[9],rN 11,rN 8,rN 13] (rM 51 13) [[],[],[51,52],[51,52,53],[51,52,53],[],rM 51 6,rM 51 6,rM 51 8,rM 51 9,rM 51 9,[],rM 59 4,[]] [(5,8),(11,9),(13,7)] cW rfl (by decide +kernel) (cC rfl rfl rfl rfl (by exact bG T rfl rfl rfl) ?_);refine cC rfl rfl rfl rfl (by exact aN T rfl rfl rfl rfl) ?_;refine cC rfl rfl rfl rfl (by exact bR rfl) ?_;refine cC rfl rfl rfl rfl (by exact bR rfl) ?_;refine cC rfl rfl rfl rfl (by exact cJ rfl rfl (by omega) (by omega)) ?_;refine mG rfl rfl rfl rfl (aG rfl) (by exact qM [8] rfl rfl (e1) (fun _=>rfl) rfl (by decide) (fun _=>⟨.inr (aC rfl rfl (bN _)),trivial⟩) (by simp) rfl (fun _ _=>rfl) rfl rfl) ?_;refine cC rfl rfl rfl rfl (by exact bG T rfl rfl rfl) ?_;refine cC rfl rfl rfl rfl (by exact aN T rfl rfl rfl rfl) ?_;refine cC rfl rfl rfl rfl (by exact bR rfl) ?_;refine cC rfl rfl rfl rfl (by exact bR rfl) ?_;refine cC rfl rfl rfl rfl (by exact cJ rfl rfl (by omega) (by omega)) ?_;refine mG rfl rfl rfl rfl (aG rfl) (by exact qM [9] rfl rfl (e2) (fun _=>rfl) rfl (by decide) (fun _=>⟨.inr (aC rfl rfl (fD _)),trivial⟩) (by simp) rfl (fun _ _=>rfl) rfl rfl) ?_;refine cC rfl rfl rfl rfl (by exact bG T rfl rfl rfl) ?_;refine uR rfl rfl rfl rfl (aG rfl) T rfl rfl rfl rfl rfl rfl (by decide) rfl ?_;refine pB rfl rfl rfl (by exact rfl) ?_;refine fW T rfl (bA T rfl rfl rfl rfl rfl rfl (by decide) rfl ?_))|refine nZ ?_)
    show AW _ _ _ _ _ _;have l1 : (p.eraseIdx k).length = p.length - 1 := by rw [fZ,if_pos (by omega)]
    have l2 : (c.eraseIdx k).length = c.length - 1 := by rw [fZ,if_pos (by omega)]
    refine eU [(1, .i k), (4, .ptr 0 0), (5, .ptr 1 0), (8, .ptr 7 0), (43, .rowE (gB L) 3), (44, .i (gB L).length), (45, .i i)] [.cells [.sl 2 0 1 1, .sl 5 0 1 3], .cells [.rowE (ints (bs.eraseIdx k)) 1, .sl 6 0 i 3], .arr (ints [x1]) 1, .arr (ints [x2]) 1, .arr (fL [(a1, a2)]) 2, .arr [[.sl 3 0 1 1, .i 0, .sl 4 0 1 2]] 3, .arr (gB (R.take i)) 3, .cells [.sl 8 0 (p.length - 1) 1, .i m, .sl 9 0 (c.length - 1) 2], .arr (ints (p.eraseIdx k)) 1, .arr (fL (c.eraseIdx k)) 2]
      ⟨[0,1,2,3,4,5,6,7,8,9],rfl,(by repeat first|exact trivial|refine ⟨rfl,?_⟩),⟨.inr rfl,.inr rfl,.inr rfl,.inr rfl,.inr rfl,.inr rfl,.inr (aC rfl rfl (bV _)),.inr rfl,.inr (aC rfl (bE _ (bN _)) (bN _)),.inr (aC rfl (bE _ (fD _)) (fD _)),trivial⟩,by decide,kI _⟩ ?_
    refine nJ 7 0 rfl rfl rfl (by rw [dA,l1]) (gE (bN _)) ?_
    refine nJ 7 2 rfl rfl rfl (by rw [hO,l2]) (gE (fD _)) ?_
    have hW : gB (R.take (i + 1)) = gB (R.take i) ++ [[.rowE (ints (p.eraseIdx k)) 1,.i m,.rowE (fL (c.eraseIdx k)) 2]] := by rw [hRs,gB,bO];rfl
    have hTl : (gB (R.take i)).length = i := by rw [fH,bC];omega
    generalize gB (R.take i) = Q at *
    (repeat' (first|(refine rg 9 (iP T rfl (lW T rfl (cH (by exact bD T rfl rfl (by decide) (by decide) rfl rfl rfl) rfl ?_)));refine fR T rfl rfl rfl rfl rfl rfl (by omega) (iY.whole rfl rfl) rfl (by simp;omega) (by simp;omega) rfl ?_;refine fW T rfl (bA T rfl rfl rfl rfl rfl rfl (by decide) rfl ?_))|(refine rg 10 (vV (cJ rfl rfl (by omega) (by omega)) (mV ?_)))|refine nZ ?_));all_goals try (exfalso;omega)
    exact ⟨⟨i + 1,hlt⟩,by dsimp only;omega,⟨[0,1,2,3,4,5,11],rfl,(by repeat first|exact trivial|refine ⟨rfl,?_⟩),⟨.inr rfl,.inr rfl,.inr rfl,.inr rfl,.inr rfl,.inr rfl,.inr (aC rfl (by dsimp only;rw [hW];exact iO hTl.symm) (bV _)),trivial⟩,by decide,kI _⟩⟩
  · obtain rfl : i = L.length := by omega
    rw [show R.take L.length = R by rw [← hRl,cM]]
    show AW _ _ _ _ _ _;refine nJ 1 1 rfl rfl rfl (by rw [fH,hRl]) (gE (bV _)) ?_
    generalize gJ R = R' at *
    (repeat' (first|refine wS ?_|refine wR ?_|refine wE ?_|(refine wC rfl ?_ ?_<;>(intro hb;(try simp only [nm] at hb);try (exfalso;omega)))|(refine rg 5 (vV (aJ rfl rfl) ?_))|(refine rg 11 (iP T rfl (vV (kC (ho)) (fW T rfl (bA T rfl rfl rfl rfl rfl rfl (by decide) rfl ?_)))))|(refine nY (id := 12) 78 [[],[],[0]] [76,77] [[],[76],[77]] [(2,0)] cW rfl (by decide +kernel) (cP rfl rfl rfl rfl (by exact aN T rfl rfl rfl rfl) ?_);refine cP rfl rfl rfl rfl (by exact aN T rfl rfl rfl rfl) ?_;refine xJ rfl rfl rfl rfl (aG rfl) T rfl rfl rfl rfl rfl rfl (by decide) rfl ?_;refine sD rfl rfl rfl (by exact rfl) ?_;refine bA T rfl rfl rfl rfl rfl rfl (by decide) rfl ?_)|refine nZ ?_));all_goals first | (exfalso;omega) | exact ⟨.inl rfl,[2,3,4,5],_,rfl,rfl,rfl,⟨.inr rfl,.inr rfl,.inr rfl,.inr rfl,trivial⟩,by decide,kI _⟩
end Go.Proofs.YtmmmeebiobjnbaaGreat
namespace Go.Ld
open Go.Ab Go.Proofs.YtmmmeebiobjnbaaGreat
theorem zH {L : List G} {j : Int} {i : Nat} {x : G} (h : L[i]? = some x) (e : j = i) : (kB L)[0 + j.toNat]? = some (gA x) := by
  subst e;simp [h]
theorem I9 {L : List G} {j : Int} {i : Nat} {x : G} (e : j = i) : (kB L).set (0 + j.toNat) (gA x) = kB (L.set i x) := by
  subst e;simp [kB,wG]
abbrev MA (l : List G) : Prop := l.Pairwise (fun a b => cG a b ≤ 0)
def T5 (l : List G) : Prop := ∀ a b,a ∈ l → b ∈ l → cG a b = 0 → a = b
theorem zX6 {a : G} : cG a a = 0 := qK.rfl' _
theorem OL (a b : G) : cG a b = - cG b a := qK.neg _ _
theorem QZ {a b d : G} (h1 : cG a b ≤ 0) (h2 : cG b d ≤ 0) : cG a d ≤ 0 := qK.le_tr (a := a.1.headD 0) (b := b.1.headD 0) (d := d.1.headD 0) h1 h2
theorem KO (w : G) : ∀ {l : List G}, MA l → MA (CK cG w l)
  | [],_ => jY _ _
  | x :: l,hl => by
    have hl' := eV.1 hl;unfold CK;split
    · rename_i hw;refine eV.2 ⟨fun y hy => ?_,hl⟩
      rcases bU.1 hy with rfl | hy
      · exact hw
      · exact QZ hw (hl'.1 y hy)
    · rename_i hw;refine eV.2 ⟨fun y hy => ?_,KO w hl'.2⟩
      rcases bU.1 ((B5 cG w l).mem_iff.1 hy) with rfl | hy
      · have := OL x y;omega
      · exact hl'.1 y hy
theorem sG : ∀ l : List G, MA (dY cG l)
  | [] => .nil
  | x :: l => KO x (sG l)
theorem IV {l m : List G} (hd : T5 l) (hp : m.Perm l) (h : MA m) : dY cG l = m := by
  refine (List.Perm.eq_of_pairwise (le := fun a b => cG a b ≤ 0) (fun a b ha hb h1 h2 => hd a b (hp.mem_iff.1 ha) ((dI cG l).mem_iff.1 hb) (by have := OL a b;omega)) h (sG l) (hp.trans (dI cG l).symm)).symm
theorem T5.sub {l m : List G} (h : T5 l) (hs : ∀ x,x ∈ m → x ∈ l) : T5 m := fun a b ha hb e => h a b (hs a ha) (hs b hb) e
theorem T5.perm {l m : List G} (h : T5 l) (hp : m.Perm l) : T5 m := h.sub fun x hx => hp.mem_iff.1 hx
theorem OJ {a b : G} (h : cG a b < 0) : cG a b ≤ 0 := by omega
theorem zE5 {S1 S2 : List G} {x : G} (h : MA (S1 ++ S2)) (h1 : ∀ y,y ∈ S1 → cG y x ≤ 0) (h2 : ∀ y,y ∈ S2 → cG x y ≤ 0) : MA (S1 ++ x :: S2) := by
  obtain ⟨a,b,c⟩ := eT.1 h;refine eT.2 ⟨a,eV.2 ⟨h2,b⟩,fun p hp q hq => ?_⟩
  rcases bU.1 hq with rfl | hq
  · exact h1 p hp
  · exact c p hp q hq
theorem VH {A : List G} {y : G} (h : MA (A ++ [y])) : ∀ z,z ∈ A ++ [y] → cG z y ≤ 0 := by
  intro z hz;obtain ⟨a,b,c⟩ := eT.1 h;rcases bF.1 hz with hz | hz
  · exact c z hz y (by simp)
  · rw [bI.1 hz,zX6];exact eH _
theorem yF4 {a b : G} (h : ¬ cG a b < 0) : cG b a ≤ 0 := by have := OL a b;omega
def S8 (l : List G) (a b : Nat) : List G := l.take a ++ (dY cG ((l.drop a).take (b - a)) ++ l.drop b)
theorem Y5 {l : List G} : (dY cG l).length = l.length := (dI cG l).length_eq
theorem SC {l : List G} {a : Nat} (h : a ≤ l.length) : S8 l a a = l := by unfold S8;simp [dY]
theorem WA {l : List G} {a : Nat} (h : a < l.length) : S8 l a (a + 1) = l := by
  unfold S8;rw [show a + 1 - a = 1 by omega,aT h]
  simp only [oJ,kP,dY,CK];rw [List.singleton_append,← aT h,bQ]
structure MK (l : List G) (a i : Nat) (x : G) (q : List G × List G) : Prop where
  eq : q.1 ++ q.2 = dY cG ((l.drop a).take (i - a))
  gt : ∀ y,y ∈ q.2 → cG x y < 0
def pQ (l : List G) (a i : Nat) (x : G) (q : List G × List G) : List G := (l.take a ++ q.1) ++ x :: (q.2 ++ l.drop (i + 1))
theorem NS {l : List G} {a i : Nat} {x : G} (h1 : a < i) (h2 : i < l.length) (hx : l[i]? = some x) : MK l a i x (dY cG ((l.drop a).take (i - a)),[]) ∧ S8 l a i = pQ l a i x (dY cG ((l.drop a).take (i - a)),[]) := by
  refine ⟨⟨by simp,fun y hy => by cases hy⟩,?_⟩
  unfold S8 pQ;have : l.drop i = x :: l.drop (i + 1) := by
    rw [aA h2] at hx;rw [aT h2];cases hx;rfl
  simp [this]
theorem KN {l : List G} {a i : Nat} {x : G} {q : List G × List G} (h : MK l a i x q) (h1 : a < i) (h2 : i < l.length) : q.1.length + q.2.length = i - a := by
  have := congrArg List.length h.eq;simp only [aF,Y5,bC,dD] at this;omega
theorem TT {l : List G} {a i : Nat} {x : G} {q : List G × List G} (h : MK l a i x q) (h1 : a < i) (h2 : i < l.length) : (pQ l a i x q).length = l.length := by
  have := KN h h1 h2;unfold pQ;simp only [aF,List.length_cons,bC,dD];omega
theorem QG {l : List G} (hdl : T5 l) {a i : Nat} {x : G} {q : List G × List G} (h : MK l a i x q) (h1 : a < i) (h2 : i < l.length) (hx : l[i]? = some x) (hs : ∀ y,y ∈ q.1 → cG y x ≤ 0) : pQ l a i x q = S8 l a (i + 1) := by
  unfold pQ S8;have e : (l.drop a).take (i + 1 - a) = (l.drop a).take (i - a) ++ [x] := by
    rw [show i + 1 - a = (i - a) + 1 by omega,zD3]
    rw [dU,show a + (i - a) = i by omega,hx];rfl
  rw [e];have hp : (q.1 ++ x :: q.2).Perm ((l.drop a).take (i - a) ++ [x]) := by
    refine List.perm_middle.trans ?_;rw [h.eq];exact ((dI cG _).cons x).trans (L6 _ _).symm
  have hu : MA (q.1 ++ x :: q.2) := zE5 (by rw [h.eq];exact sG _) hs (fun y hy => OJ (h.gt y hy))
  rw [IV (hdl.sub fun y hy => by rw [← e] at hy;exact dS (eK hy)) hp hu]
  simp
theorem YK {l : List G} {a i : Nat} {x y : G} {S : List G} {q : List G × List G} (h : MK l a i x q) (e : q.1 = S ++ [y]) (hc : ¬ cG x y < 0) : ∀ z,z ∈ q.1 → cG z x ≤ 0 := by
  have hu : MA (q.1 ++ q.2) := by rw [h.eq];exact sG _
  have hu1 : MA q.1 := (eT.1 hu).1;rw [e] at hu1;intro z hz;rw [e] at hz;exact QZ (VH hu1 z hz) (yF4 hc)
theorem TS {l : List G} {a i : Nat} {x y : G} {S : List G} {q : List G × List G} (h : MK l a i x q) (e : q.1 = S ++ [y]) (hc : cG x y < 0) : MK l a i x (S,y :: q.2) := by
  refine ⟨?_,fun z hz => ?_⟩
  · rw [← h.eq,e];simp
  · rcases bU.1 hz with rfl | hz
    · exact hc
    · exact h.gt z hz
end Go.Ld
namespace Go.Proofs.YtmmmeebiobjnbaaGreat
open Go Go.Ab Go.Ld
attribute [local irreducible] VC AW cE aU
set_option maxHeartbeats 4000000
abbrev OF : AV := .clo (.func 105) [] []
def zZ1 (g : G) : Prop := 0 < g.1.length ∧ g.1.length ≤ 1000000
theorem zF4 (a b : G) (ha : zZ1 a) (hb : zZ1 b) : aU Tryz.prog 105 [VA a,VA b] [] (.i (cG a b)) [] := by
  obtain ⟨p,ws⟩ := a;obtain ⟨q,vs⟩ := b;cases p with
  | nil => exact absurd ha.1 (by simp)
  | cons x p =>
    cases q with
    | nil => exact absurd hb.1 (by simp)
    | cons y q =>
      have hc := ET x y;have h1 : (ints (x :: p)).length = p.length + 1 := by simp
      have h2 : (ints (y :: q)).length = q.length + 1 := by simp
      have g1 : (ints (x :: p))[(0 : Int).toNat]? = some [AV.i x] := rfl;have g2 : (ints (y :: q))[(0 : Int).toNat]? = some [AV.i y] := rfl;refine bX T Tryz.func105 rfl rfl rfl rfl ?_
      (repeat' (first|refine wS ?_|refine wR ?_|(refine rg 0 (cH (cY rfl rfl) rfl (cH (cY rfl rfl) rfl (aV ?_))))|(refine cO (id := 1) 14 [[],[0],[0,1],[0,1,2],[],[4],[4,5],[4,5,6],rN 8] (rM 5 9) [[],[],[],[],rM 5 4,rM 5 4,rM 5 4,rM 5 4,[]] cW rfl (by decide +kernel) (dP T rfl (dO T rfl (dV rfl (ix T rfl (by omega) (eB _) g1) (dO T rfl (dP T rfl (dO T rfl (dV rfl (ix T rfl (by omega) (eB _) g2) (dO T rfl (dV rfl (kC (hc)) ?_)))))))));refine dE ?_;refine aV ?_)|refine nZ ?_));all_goals first | (exfalso;omega) | exact rQ
theorem TP (l : List G) (a b : Nat) (hab : a ≤ b) (hb : b ≤ l.length) (hdl : T5 l) (hl : l.length ≤ 100000) (hw : ∀ w,w ∈ l → zZ1 w) :
    aU Tryz.prog 149 [.sl 0 0 l.length 2,.i a,.i b,OF] [.arr (kB l) 2] (.tup []) [.arr (kB (S8 l a b)) 2] := by
  rcases iZ a b with hlt | hge
  · refine bX T Tryz.func149 rfl rfl rfl rfl ?_
    (repeat' (first|refine wS ?_|refine wB ?_|(refine iA 0 rfl rfl rfl (by omega) (by omega) ?_)|refine nZ ?_));refine dC (X := {i : Nat // a + 1 ≤ i ∧ i ≤ b}) (fun i => [(0,.sl 0 0 l.length 2),(1,.i a),(2,.i b),(3,OF),(8,.i i.1)]) (fun i => [.arr (kB (S8 l a i.1)) 2]) (fun i => b - i.1) ⟨a + 1,by omega,by omega⟩ ⟨[0],rfl,by (repeat (first | exact trivial | refine ⟨rfl,?_⟩)),⟨.inr (aC rfl (by dsimp only;rw [WA (by omega)]) (eG _)),trivial⟩,by decide,lL⟩ ?_
    rintro ⟨i,h1,h2⟩;dsimp only;by_cases hi : i < b
    · (repeat' (first|refine wS ?_|refine wB ?_|refine wK ?_|(refine wC rfl (fun hb => ?_) (fun hb => ?_) <;> (((try simp only [nm] at hb);try (exfalso;omega))))|(refine rg 1 (dK rfl (vV (aJ rfl rfl) ?_)))|(refine rg 3 (mW rfl (aV ?_)))|(refine nZ ?_)));all_goals try (exfalso;omega)
      have hil : i < l.length := by omega
      obtain ⟨x,hx⟩ : ∃ x,l[i]? = some x := ⟨_,aA hil⟩;obtain ⟨s1,s2⟩ := NS (a := a) (by omega) hil hx
      refine dC (X := {q : List G × List G // MK l a i x q}) (fun q => [(0,.sl 0 0 l.length 2),(1,.i a),(2,.i b),(3,OF),(8,.i i),(9,.i ((a + q.1.1.length : Nat) : Int))]) (fun q => [.arr (kB (pQ l a i x q.1)) 2]) (fun q => q.1.1.length) ⟨_,s1⟩ ⟨[0],rfl,⟨rfl,rfl,rfl,rfl,rfl,by dsimp only;rw [Y5,bC,dD,show a + min (i - a) (l.length - a) = i by omega];rfl,trivial⟩,⟨.inr (aC rfl (by dsimp only;rw [s2]) (eG _)),trivial⟩,by decide,lL⟩ ?_
      rintro ⟨⟨S1,S2⟩,hq⟩;dsimp only;have hln := KN hq (by omega) hil
      dsimp only at hln;have hwx : zZ1 x := hw x (aL hx);have hal : (l.take a).length = a := by rw [bC];omega
      rcases List.eq_nil_or_concat S1 with rfl | ⟨S,y,rfl⟩
      · have ee := QG hdl hq (by omega) hil hx (fun y hy => by cases hy)
        have hJ : ((a + ([] : List G).length : Nat) : Int) = a := by simp
        generalize ((a + ([] : List G).length : Nat) : Int) = J at *;generalize pQ l a i x ([],S2) = L at *
        (repeat' (first|refine wS ?_|refine wE ?_|refine wU ?_|(refine cO (id := 4) 53 yL5 (rM 18 17) yL6 cW rfl (by decide +kernel) (dN rfl (dN rfl (dV rfl (GQ rfl rfl (by omega)) (dN rfl (tG rfl (tG rfl (tG rfl (tG rfl (dG ?_)))))))));refine tG rfl (tG rfl (tG rfl (tG rfl (tG rfl (tG rfl (tG rfl (dV rfl (jV rfl rfl) (dE ?_)))))))))|(refine iA 2 rfl rfl rfl (by omega) (by omega) ?_)|refine nZ ?_));all_goals first | (exfalso;omega) | exact ⟨⟨i + 1,by omega,by omega⟩,by dsimp only;omega,⟨[0],rfl,by (repeat (first | exact trivial | refine ⟨rfl,?_⟩)),⟨.inr (aC rfl (by dsimp only;rw [ee]) (eG _)),trivial⟩,by decide,lL⟩⟩
      · rw [List.concat_eq_append] at *;have hy : y ∈ l := by
          have h3 : y ∈ dY cG ((l.drop a).take (i - a)) := by rw [← hq.eq];simp
          exact dS (eK ((dI _ _).mem_iff.1 h3))
        have hc := zF4 x y hwx (hw y hy);have hL : pQ l a i x (S ++ [y],S2) = (l.take a ++ S) ++ y :: x :: (S2 ++ l.drop (i + 1)) := by unfold pQ;simp
        have hJ : ((a + (S ++ [y]).length : Nat) : Int) = ((a + S.length + 1 : Nat) : Int) := by simp;omega
        have hAl : a + S.length = (l.take a ++ S).length := by rw [aF,hal]
        have hlen := TT hq (by omega) hil
        by_cases h0 : cG x y < 0
        · have ee := TS hq rfl h0;have q1 := zH (L := pQ l a i x (S ++ [y],S2)) (j := ((a + (S ++ [y]).length : Nat) : Int)) (i := a + S.length + 1) (x := x) (by rw [hL,show (l.take a ++ S) ++ y :: x :: (S2 ++ l.drop (i + 1)) = ((l.take a ++ S) ++ [y]) ++ x :: (S2 ++ l.drop (i + 1)) by simp];exact nK _ _ _ (by simp;omega)) hJ
          have q2 := zH (L := pQ l a i x (S ++ [y],S2)) (j := ((a + (S ++ [y]).length : Nat) : Int) - 1) (i := a + S.length) (x := y) (by rw [hL];exact nK _ _ _ hAl) (by omega)
          have t1 := I9 (L := pQ l a i x (S ++ [y],S2)) (j := ((a + (S ++ [y]).length : Nat) : Int)) (i := a + S.length + 1) (x := y) hJ;have e1 : (pQ l a i x (S ++ [y],S2)).set (a + S.length + 1) y = (l.take a ++ S) ++ y :: y :: (S2 ++ l.drop (i + 1)) := by
            rw [hL,show (l.take a ++ S) ++ y :: x :: (S2 ++ l.drop (i + 1)) = ((l.take a ++ S) ++ [y]) ++ x :: (S2 ++ l.drop (i + 1)) by simp,nW _ _ _ _ (by simp;omega)];simp
          rw [e1] at t1;have q3 := zH (L := (l.take a ++ S) ++ y :: y :: (S2 ++ l.drop (i + 1))) (j := ((a + (S ++ [y]).length : Nat) : Int) - 1) (i := a + S.length) (x := y) (nK _ _ _ hAl) (by omega)
          have t2 := I9 (L := (l.take a ++ S) ++ y :: y :: (S2 ++ l.drop (i + 1))) (j := ((a + (S ++ [y]).length : Nat) : Int) - 1) (i := a + S.length) (x := x) (by omega)
          rw [nW _ _ _ _ hAl,show (l.take a ++ S) ++ x :: y :: (S2 ++ l.drop (i + 1)) = pQ l a i x (S,y :: S2) by unfold pQ;simp,← t1] at t2
          rw [← t1] at q3;have hJ2 : ((a + (S ++ [y]).length : Nat) : Int) - 1 = ((a + S.length : Nat) : Int) := by omega
          have hJ3 : ((a + (S ++ [y]).length : Nat) : Int) < l.length := by omega
          have hJ4 : (a : Int) < ((a + (S ++ [y]).length : Nat) : Int) := by omega
          clear hJ hL;generalize ((a + (S ++ [y]).length : Nat) : Int) = J at *;generalize cG x y = z at *;generalize pQ l a i x (S ++ [y],S2) = L at *
          (repeat' (first|refine wS ?_|refine wB ?_|refine wK ?_|(refine wC rfl ?_ ?_<;>(intro hb;(try simp only [nm] at hb);try (exfalso;omega)))|(refine cO (id := 4) 53 yL5 (rM 18 17) yL6 cW rfl (by decide +kernel) (dN rfl (dN rfl (dV rfl (fB rfl rfl) (dM ?_))));refine kZ rfl rfl rfl rfl ?_ ?_<;>(intro hb;rw [hb];(try simp only [nm] at hb);try (exfalso;omega))<;>(refine tM ?_);(all_goals (refine tN rfl (tN rfl (dT rfl (by exact aO T rfl rfl rfl rfl rfl (by omega) (by omega)) ?_));refine dT rfl (by exact aN T rfl rfl (bP rfl q1) rfl) ?_;refine tN rfl (tN rfl (dT rfl (cX rfl rfl (by omega) (by omega)) (dT rfl (by exact aO T rfl rfl rfl rfl rfl (by omega) (by omega)) ?_)));refine dT rfl (by exact aN T rfl rfl (bP rfl q2) rfl) ?_;refine dT rfl (kC (hc)) (dT rfl (aJ rfl rfl) (dV rfl (kM rfl rfl) (dE ?_))))))|(refine nY (id := 6) 53 yL7 (rM 37 15) yL8 [(15,0)] cW rfl (by decide +kernel) (cP rfl rfl rfl rfl (by exact bR rfl) ?_);refine cP rfl rfl rfl rfl (by exact bR rfl) ?_;refine cP rfl rfl rfl rfl (by exact bR rfl) ?_;refine cP rfl rfl rfl rfl (by exact bR rfl) ?_;refine cP rfl rfl rfl rfl (by exact cX rfl rfl (by omega) (by omega)) ?_;refine cP rfl rfl rfl rfl (by exact bR rfl) ?_;refine cP rfl rfl rfl rfl (by exact bR rfl) ?_;refine cP rfl rfl rfl rfl (by exact cX rfl rfl (by omega) (by omega)) ?_;refine cP rfl rfl rfl rfl (by exact aO T rfl rfl rfl rfl rfl (by omega) (by omega)) ?_;refine cP rfl rfl rfl rfl (by exact aN T rfl rfl (bP rfl q2) rfl) ?_;refine cP rfl rfl rfl rfl (by exact bR rfl) ?_;refine cP rfl rfl rfl rfl (by exact bR rfl) ?_;refine cP rfl rfl rfl rfl (by exact aO T rfl rfl rfl rfl rfl (by omega) (by omega)) ?_;refine cP rfl rfl rfl rfl (by exact aN T rfl rfl (bP rfl q1) rfl) ?_;refine cP rfl rfl rfl rfl (by exact aO T rfl rfl rfl rfl rfl (by omega) (by omega)) ?_;refine xJ rfl rfl rfl rfl (aG rfl) T rfl rfl rfl rfl rfl rfl (by decide) (wO rfl q1 rfl) ?_;refine sD rfl rfl rfl (by exact rfl) ?_;refine vV (by exact aO T rfl rfl rfl rfl rfl (by omega) (by omega)) ?_;refine bA T rfl rfl rfl rfl rfl rfl (by decide) (mK rfl q3 rfl) ?_)|(refine rg 5 (mW rfl (vV (cX rfl rfl (by omega) (by omega)) (aV ?_))))|refine nZ ?_));all_goals first | (exfalso;omega) | exact ⟨⟨_,ee⟩,by dsimp only;simp,⟨[0],rfl,⟨rfl,rfl,rfl,rfl,rfl,by dsimp only;rw [← hJ2];try rfl,trivial⟩,⟨.inr (aC rfl (by dsimp only;rw [← t2];try rfl) (eG _)),trivial⟩,by decide,lL⟩⟩
        · have ee := QG hdl hq (by omega) hil hx (YK hq rfl h0)
          have q1 := zH (L := pQ l a i x (S ++ [y],S2)) (j := ((a + (S ++ [y]).length : Nat) : Int)) (i := a + S.length + 1) (x := x) (by rw [hL,show (l.take a ++ S) ++ y :: x :: (S2 ++ l.drop (i + 1)) = ((l.take a ++ S) ++ [y]) ++ x :: (S2 ++ l.drop (i + 1)) by simp];exact nK _ _ _ (by simp;omega)) hJ
          have q2 := zH (L := pQ l a i x (S ++ [y],S2)) (j := ((a + (S ++ [y]).length : Nat) : Int) - 1) (i := a + S.length) (x := y) (by rw [hL];exact nK _ _ _ hAl) (by omega)
          have hJ3 : ((a + (S ++ [y]).length : Nat) : Int) < l.length := by omega
          have hJ4 : (a : Int) < ((a + (S ++ [y]).length : Nat) : Int) := by omega
          clear hJ hL;generalize ((a + (S ++ [y]).length : Nat) : Int) = J at *;generalize cG x y = z at *;generalize pQ l a i x (S ++ [y],S2) = L at *
          (repeat' (first|refine wS ?_|refine wE ?_|(refine wC rfl ?_ ?_<;>(intro hb;(try simp only [nm] at hb);try (exfalso;omega)))|(refine cO (id := 4) 53 yL5 (rM 18 17) yL6 cW rfl (by decide +kernel) (dN rfl (dN rfl (dV rfl (fB rfl rfl) (dM ?_))));refine kZ rfl rfl rfl rfl ?_ ?_<;>(intro hb;rw [hb];(try simp only [nm] at hb);try (exfalso;omega))<;>(refine tM ?_);(all_goals (refine tN rfl (tN rfl (dT rfl (by exact aO T rfl rfl rfl rfl rfl (by omega) (by omega)) ?_));refine dT rfl (by exact aN T rfl rfl (bP rfl q1) rfl) ?_;refine tN rfl (tN rfl (dT rfl (cX rfl rfl (by omega) (by omega)) (dT rfl (by exact aO T rfl rfl rfl rfl rfl (by omega) (by omega)) ?_)));refine dT rfl (by exact aN T rfl rfl (bP rfl q2) rfl) ?_;refine dT rfl (kC (hc)) (dT rfl (aJ rfl rfl) (dV rfl (kM rfl rfl) (dE ?_))))))|(refine iA 2 rfl rfl rfl (by omega) (by omega) ?_)|refine nZ ?_));all_goals first | (exfalso;omega) | exact ⟨⟨i + 1,by omega,by omega⟩,by dsimp only;omega,⟨[0],rfl,by (repeat (first | exact trivial | refine ⟨rfl,?_⟩)),⟨.inr (aC rfl (by dsimp only;rw [ee]) (eG _)),trivial⟩,by decide,lL⟩⟩
    · obtain rfl : i = b := by omega
      (repeat' (first|refine wS ?_|refine wE ?_|(refine wC rfl ?_ ?_<;>(intro hb;(try simp only [nm] at hb);try (exfalso;omega)))|(refine rg 1 (dK rfl (vV (aJ rfl rfl) ?_)))|refine nZ ?_));all_goals first | (exfalso;omega) | exact ⟨.inl rfl,[0],_,rfl,rfl,rfl,⟨.inr (aC rfl rfl (eG _)),trivial⟩,by decide,lL⟩ | exact ⟨.inr rfl,[0],_,rfl,rfl,rfl,⟨.inr (aC rfl rfl (eG _)),trivial⟩,by decide,lL⟩
  · obtain rfl : a = b := by omega
    rw [SC hb];refine bX T Tryz.func149 rfl rfl rfl rfl ?_
    (repeat' (first|refine wS ?_|refine wB ?_|(refine iA 0 rfl rfl rfl (by omega) (by omega) ?_)|refine nZ ?_));refine dC (X := Unit) (fun _ => [(0,.sl 0 0 l.length 2),(1,.i a),(2,.i a),(3,OF),(8,.i ((a : Int) + 1))]) (fun _ => [.arr (kB l) 2]) (fun _ => 0) () ⟨[0],rfl,by (repeat (first | exact trivial | refine ⟨rfl,?_⟩)),⟨.inr (aC rfl rfl (eG _)),trivial⟩,by decide,lL⟩ ?_
    intro _;dsimp only
    (repeat' (first|refine wS ?_|refine wE ?_|(refine wC rfl ?_ ?_<;>(intro hb;(try simp only [nm] at hb);try (exfalso;omega)))|(refine rg 1 (dK rfl (vV (aJ rfl rfl) ?_)))|refine nZ ?_));all_goals first | (exfalso;omega) | exact ⟨.inl rfl,[0],_,rfl,rfl,rfl,⟨.inr (aC rfl rfl (eG _)),trivial⟩,by decide,lL⟩ | exact ⟨.inr rfl,[0],_,rfl,rfl,rfl,⟨.inr (aC rfl rfl (eG _)),trivial⟩,by decide,lL⟩
end Go.Proofs.YtmmmeebiobjnbaaGreat
namespace Go.Ld
open Go.Ab Go.Proofs.YtmmmeebiobjnbaaGreat
def zJ8 (n : Nat) : Int := [0,1,2,2,3,3,3,3,4,4,4,4,4].getD n 0
end Go.Ld
namespace Go.Proofs.YtmmmeebiobjnbaaGreat
open Go Go.Ab Go.Ld
attribute [local irreducible] VC AW cE aU P9 zP9
set_option maxHeartbeats 4000000
theorem yE7 : P9 Tryz.prog 180 .u64 := by unfold P9;kernel_rfl
theorem yI0 : P9 Tryz.prog 5 .u8 := by unfold P9;kernel_rfl
theorem yE8 : zP9 Tryz.prog 9 := by unfold zP9;kernel_rfl
theorem zJ9 (n : Nat) (h : n ≤ 12) : aU Tryz.prog 121 [.v (.int .u64 n)] [] (.i (zJ8 n)) [] := by
  rcases (by omega : n = 0 ∨ n = 1 ∨ n = 2 ∨ n = 3 ∨ n = 4 ∨ n = 5 ∨ n = 6 ∨ n = 7 ∨ n = 8 ∨ n = 9 ∨ n = 10 ∨ n = 11 ∨ n = 12) with rfl | rfl | rfl | rfl | rfl | rfl | rfl | rfl | rfl | rfl | rfl | rfl | rfl
  all_goals
    refine bX T Tryz.func121 rfl rfl rfl rfl ?_
    (repeat' (first|refine wS ?_|refine wK ?_|refine wR ?_|refine wU ?_|(refine rg 0 (aV ?_))|(refine rg 1 (mW rfl (vV (gV rfl rfl) ?_)))|(refine rg 4 (mW rfl (vV (gV rfl rfl) ?_)))|(refine rg 7 (mW rfl (vV (gV rfl rfl) ?_)))|(refine rg 10 (dK rfl (vV (jC yE7 yI0 rfl rfl) (vV (by exact TZ yE8 rfl rfl (by decide) rfl) ?_)));refine vV (jC yI0 yR rfl rfl) (vV (YZ rfl rfl) (aV ?_)))|refine nZ ?_));all_goals first | (exfalso;omega) | exact rQ
theorem zV1 (n : Nat) (h : n ≤ 12) : aU Tryz.prog 79 [.v (.int .u64 n)] [] (.i (zJ8 n)) [] := by
  have hc := zJ9 n h;refine bX T Tryz.func79 rfl rfl rfl rfl ?_
  (repeat' (first|refine wS ?_|refine wK ?_|refine wR ?_|refine wU ?_|(refine rg 0 (aV ?_))|(refine rg 2 (mW rfl (vV (kC (hc)) (aV ?_))))|refine nZ ?_));all_goals first | (exfalso;omega) | exact rQ
theorem yB2 (l : List G) (hdl : T5 l) (hl : l.length ≤ 12) (hw : ∀ g,g ∈ l → zZ1 g) (lim : Int) : aU Tryz.prog 140 [.sl 0 0 l.length 2,.i 0,.i l.length,.i lim,OF] [.arr (kB l) 2] (.tup []) [.arr (kB (dY cG l)) 2] := by
  have hc := TP l 0 l.length (bY _) (aX _) hdl (by omega) hw
  rw [show S8 l 0 l.length = dY cG l by unfold S8;simp] at hc
  refine bX T Tryz.func140 rfl rfl rfl rfl ?_
  (repeat' (first|refine wS ?_|refine wB ?_|(refine rg 0 (aV ?_))|(refine rg 1 (aV ?_))|refine nZ ?_));refine dC (X := Unit) (fun _ => [(0,.sl 0 0 l.length 2),(1,.i 0),(2,.i l.length),(3,.i lim),(4,OF)]) (fun _ => [.arr (kB l) 2]) (fun _ => 0) () ⟨[0],rfl,by (repeat (first | exact trivial | refine ⟨rfl,?_⟩)),⟨.inr (aC rfl rfl (eG _)),trivial⟩,by decide,lL⟩ ?_
  intro _;dsimp only
  (repeat' (first|refine wS ?_|refine wB ?_|refine wR ?_|(refine wC rfl ?_ ?_<;>(intro hb;(try simp only [nm] at hb);try (exfalso;omega)))|(refine rg 2 (dK rfl (vV (cX rfl rfl (by omega) (by omega)) (aV ?_))))|(refine rg 3 (mW rfl (vV (iC rfl rfl) ?_)))|(refine rg 4 (dK rfl (dK rfl (eA [0] rfl rfl (hc) rfl rfl (by decide) ⟨.inr (aC rfl rfl (eG _)),trivial⟩ (by simp) rfl ?_))))|refine nZ ?_));all_goals first | (exfalso;omega) | exact ⟨.inl rfl,[0],_,rfl,rfl,rfl,⟨.inr (aC rfl (bE _ (eG _)) (eG _)),trivial⟩,by decide,lL⟩
theorem zG2 (l : List G) (hdl : T5 l) (hl : l.length ≤ 12) (hw : ∀ g,g ∈ l → zZ1 g) : aU Tryz.prog 104 [.sl 0 0 l.length 2,OF] [.arr (kB l) 2] (.tup []) [.arr (kB (dY cG l)) 2] := by
  have h1 := zV1 l.length hl;have h2 := yB2 l hdl hl hw (zJ8 l.length);have hw1 : IntKind.u64.wrap (l.length : Int) = (l.length : Int) := IA (by omega) (by omega)
  generalize zJ8 l.length = q at *;refine bX T Tryz.func104 rfl rfl rfl rfl ?_
  (repeat' (first|refine wS ?_|(refine rg 0 (mW rfl (qW T rfl (aV ?_))))|(refine rg 1 (dK rfl (mW rfl (vV (jC yR rG rfl hw1) (vV (by exact fU rfl rfl h1 rfl rfl rfl) ?_))));refine mW rfl (eA [0] rfl rfl (h2) rfl rfl (by decide) ⟨.inr (aC rfl rfl (eG _)),trivial⟩ (by simp) rfl ?_))|refine nZ ?_));all_goals first | (exfalso;omega) | exact ⟨.inl rfl,[0],_,rfl,rfl,rfl,⟨.inr (aC rfl (bE _ (eG _)) (eG _)),trivial⟩,by decide,lL⟩ | exact ⟨.inr rfl,[0],_,rfl,rfl,rfl,⟨.inr (aC rfl (bE _ (eG _)) (eG _)),trivial⟩,by decide,lL⟩
end Go.Proofs.YtmmmeebiobjnbaaGreat
namespace Go.Ld
open Go.Ab Go.Proofs.YtmmmeebiobjnbaaGreat
def vH (g : G) : List G := lQ g.1.length g
theorem NH {g : G} {k : Nat} (h : iD g = some k) : vH g = nA g k :: vH (jM g k) := by
  obtain ⟨h1,_,h3,_⟩ := jS h;have e : (jM g k).1.length = g.1.length - 1 := by show (g.1.eraseIdx k).length = _;rw [fZ,if_pos h3]
  unfold vH;rw [e];obtain ⟨m,hm⟩ : ∃ m,g.1.length = m + 1 := ⟨g.1.length - 1,by omega⟩
  rw [hm,UU,lQ,h]
theorem AF {g : G} (h : iD g = none) : vH g = [g] := by
  unfold vH;cases hl : g.1.length with
  | zero => rfl
  | succ m => rw [lQ,h]
theorem LP (g : G) (k : Nat) : iD (nA g k) = none := by unfold iD;rw [if_pos (.inl (by show 1 < 2;omega))]
theorem SR (g : G) (k : Nat) : vH (nA g k) = [nA g k] := AF (LP g k)
structure nP (n : Nat) (o : List G) : Prop where
  ok : ∀ g,g ∈ o → zZ n g
  nd : (o.flatMap (·.1)).Nodup
  ln : (o.flatMap (·.1)).length ≤ 12
  ws : ∀ g,g ∈ o → g.2.length ≤ 2000
theorem oQ {o : List G} {g : G} {b : Int} (h : g ∈ o) (hb : b ∈ g.1) : b ∈ o.flatMap (·.1) := gD.2 ⟨g,h,hb⟩
theorem U8 : ∀ {o : List G}, (o.flatMap (·.1)).Nodup → ∀ {a b : G} {x : Int}, a ∈ o → b ∈ o → x ∈ a.1 → x ∈ b.1 → a = b
  | [],_,a,b,x,ha,_,_,_ => by cases ha
  | g :: o,h,a,b,x,ha,hb,hxa,hxb => by
    rw [bJ] at h;obtain ⟨h1,h2,h3⟩ := cN.1 h;rcases bU.1 ha with e1 | ha' <;> rcases bU.1 hb with e2 | hb'
    · rw [e1,e2]
    · exact absurd rfl (h3 x (e1 ▸ hxa) x (oQ hb' hxb))
    · exact absurd rfl (h3 x (e2 ▸ hxb) x (oQ ha' hxa))
    · exact U8 h2 ha' hb' hxa hxb
theorem nP.dist {n : Nat} {o : List G} (h : nP n o) : T5 o := by
  intro a b ha hb e;have e' : a.1.headD 0 = b.1.headD 0 := (qK.eq _ _).1 e;have hm : ∀ g : G,g.1 ≠ [] → g.1.headD 0 ∈ g.1 := fun g hg => by
    cases hq : g.1 with
    | nil => exact absurd hq hg
    | cons x l => simp
  exact U8 h.nd ha hb (hm a (h.ok a ha).ne) (e' ▸ hm b (h.ok b hb).ne)
theorem nP.len {n : Nat} {o : List G} (h : nP n o) : o.length ≤ (o.flatMap (·.1)).length := by
  have : ∀ o : List G,(∀ g,g ∈ o → g.1 ≠ []) → o.length ≤ (o.flatMap (·.1)).length := by
    intro o
    induction o with
    | nil => intro _;simp
    | cons g o ih =>
      intro hg;rw [bJ,aF,List.length_cons];have := ih fun g h => hg g (aI _ h);have : 0 < g.1.length := fJ.2 (hg g aS);omega
  exact this o fun g hg => (h.ok g hg).ne
theorem nP.hd {n : Nat} {o : List G} (h : nP n o) : ∀ g,g ∈ o → zZ1 g := fun g hg => ⟨fJ.2 (h.ok g hg).ne,by have := (h.ok g hg).ln;omega⟩
theorem nP.perm {n : Nat} {o p : List G} (h : nP n o) (hp : p.Perm o) : nP n p where
  ok g hg := h.ok g (hp.mem_iff.1 hg)
  nd := (hp.flatMap_right _).nodup_iff.2 h.nd
  ln := by rw [(hp.flatMap_right _).length_eq];exact h.ln
  ws g hg := h.ws g (hp.mem_iff.1 hg)
theorem zZ.sz {n : Nat} {g : G} (h : zZ n g) (hw : g.2.length ≤ 2000) : zZ0 g := ⟨by have := h.ln;omega,by omega,fun w hw => (h.ws w hw).pl,fun w hw => (h.ws w hw).cl⟩
theorem pN {α : Type} {o : List α} {i : Nat} {x y : α} (h : o[i]? = some x) : ∃ A B,o = A ++ x :: B ∧ o.set i y = A ++ y :: B := by
  obtain ⟨hi,e⟩ := aB.1 h;refine ⟨o.take i,o.drop (i + 1),?_,?_⟩
  · rw [← e,← aT hi,bQ]
  · rw [List.set_eq_take_append_cons_drop,if_pos hi]
def EA (o : List G) (i k : Nat) (g : G) : List G := dY cG (o.set i (jM g k) ++ [nA g k])
theorem KA {o : List G} {i k : Nat} {g : G} (h : o[i]? = some g) (hk : k < g.1.length) : ((o.set i (jM g k) ++ [nA g k]).flatMap (·.1)).Perm (o.flatMap (·.1)) := by
  obtain ⟨A,B,e1,e2⟩ := pN (y := jM g k) h;rw [e2,e1];simp only [fX,bJ,zQ2,List.append_nil,bW];refine List.Perm.append_left _ ?_;have h1 : (g.1.getD k 0 :: g.1.eraseIdx k).Perm g.1 := jR g.1 k 0 hk;have h2 : ((jM g k).1 ++ (B.flatMap (·.1) ++ (nA g k).1)).Perm ((nA g k).1 ++ ((jM g k).1 ++ B.flatMap (·.1))) := by
    rw [← bW];exact yE
  refine h2.trans ?_;rw [← bW];exact List.Perm.append_right _ h1
theorem PY {n : Nat} {o : List G} {i k : Nat} {g : G} (ok : nP n o) (h : o[i]? = some g) (hc : iD g = some k) : nP n (o.set i (jM g k) ++ [nA g k]) := by
  have hg := aL h;have hk := (jS hc).2.2.1;have hb := KA h hk;have hm : ∀ x,x ∈ o.set i (jM g k) ++ [nA g k] → x ∈ o ∨ x = jM g k ∨ x = nA g k := fun x hx => by
    rcases bF.1 hx with hx | hx
    · rcases fT hx with hx | hx
      · exact .inl hx
      · exact .inr (.inl hx)
    · exact .inr (.inr (bI.1 hx))
  refine ⟨fun x hx => ?_,hb.nodup_iff.2 ok.nd,by rw [hb.length_eq];exact ok.ln,fun x hx => ?_⟩
  · rcases hm x hx with hx | rfl | rfl
    · exact ok.ok x hx
    · exact (ok.ok g hg).rest hc
    · exact (ok.ok g hg).one hc
  · rcases hm x hx with hx | rfl | rfl
    · exact ok.ws x hx
    · have := rJ (g.2.map fun w => (w.1.eraseIdx k,w.2.1,w.2.2.eraseIdx k));rw [aY] at this;exact bK this (ok.ws g hg)
    · show 1 ≤ 2000;omega
theorem TA {o : List G} {i k : Nat} {g : G} (h : o[i]? = some g) (hc : iD g = some k) : ((o.set i (jM g k) ++ [nA g k]).flatMap vH).Perm (o.flatMap vH) := by
  obtain ⟨A,B,e1,e2⟩ := pN (y := jM g k) h;rw [e2,e1];simp only [fX,bJ,zQ2,List.append_nil,bW,NH hc,SR];refine List.Perm.append_left _ ?_;rw [← bW];exact yE
def zQ3 (o : List G) : Nat := (o.map fun g => g.1.length - 1).sum
theorem VD {o p : List G} (h : p.Perm o) : zQ3 p = zQ3 o := (h.map _).sum_nat
theorem XR {o : List G} {i k : Nat} {g : G} (h : o[i]? = some g) (hc : iD g = some k) : zQ3 (o.set i (jM g k) ++ [nA g k]) + 1 = zQ3 o := by
  obtain ⟨A,B,e1,e2⟩ := pN (y := jM g k) h;obtain ⟨h1,_,h3,_⟩ := jS hc;have e : (jM g k).1.length = g.1.length - 1 := by show (g.1.eraseIdx k).length = _;rw [fZ,if_pos h3]
  rw [e2,e1];unfold zQ3;simp only [bO,List.map_cons,List.map_nil,List.sum_append,yH3,List.sum_nil,e];have : (nA g k).1.length = 1 := rfl;omega
structure pD (n : Nat) (L o : List G) (i : Nat) : Prop where
  ok : nP n o
  up : MA o
  fl : (o.flatMap vH).Perm (L.flatMap vH)
  hi : i ≤ o.length
  no : ∀ (j : Nat) (g : G),j < i → o[j]? = some g → iD g = none
theorem pD.start {n : Nat} {L : List G} (ok : nP n L) (up : MA L) : pD n L L 0 := ⟨ok,up,.refl _,bY _,fun j g h => absurd h (eJ _)⟩
theorem pD.keep {n : Nat} {L o : List G} {i : Nat} {g : G} (p : pD n L o i) (h : o[i]? = some g) (hc : iD g = none) : pD n L o (i + 1) where
  ok := p.ok
  up := p.up
  fl := p.fl
  hi := (aB.1 h).1
  no j x hj hx := by
    rcases iZ j i with h' | h'
    · exact p.no j x h' hx
    · obtain rfl : j = i := by omega
      rw [h] at hx;cases hx;exact hc
theorem pD.next {n : Nat} {L o : List G} {i k : Nat} {g : G} (p : pD n L o i) (h : o[i]? = some g) (hc : iD g = some k) : pD n L (EA o i k g) 0 where
  ok := (PY p.ok h hc).perm (dI _ _)
  up := sG _
  fl := ((dI cG _).flatMap_right _).trans ((TA h hc).trans p.fl)
  hi := bY _
  no j g h := absurd h (eJ _)
theorem pD.fin {n : Nat} {L o : List G} {i : Nat} (p : pD n L o i) (hi : o.length ≤ i) : qQ L = o := by
  have e : o.flatMap vH = o := by
    have : ∀ g,g ∈ o → vH g = [g] := fun g hg => by
      obtain ⟨j,hj,e⟩ := nS.1 hg;exact AF (p.no j g (by omega) (by rw [aA hj,e]))
    clear p hi
    induction o with
    | nil => rfl
    | cons g o ih => rw [bJ,this g aS,ih fun g h => this g (aI _ h)];rfl
  have hp := p.fl;rw [e] at hp;show dY cG (L.flatMap vH) = o;exact IV (p.ok.dist.perm hp.symm) hp p.up
theorem VU {l : List G} {k : Nat} (h : k < l.length) : jO (l.take (k + 1)) = jO (l.take k) + gI l[k] := by
  unfold jO;rw [aP h,bO,List.sum_append];simp
theorem FN : ∀ {l : List G}, (∀ g, g ∈ l → 0 ≤ gI g ∧ gI g ≤ 4000000) → 0 ≤ jO l ∧ jO l ≤ 4000000 * l.length
  | [],_ => by simp [jO]
  | g :: l,h => by
    have h1 := h g aS;have h2 := FN (l := l) fun g hg => h g (aI _ hg);have e : jO (g :: l) = gI g + jO l := by simp [jO]
    rw [e,List.length_cons];omega
abbrev jP (c : Cx) (gs : List G) : List AV := [.i c.m,.i c.st,.i c.er,.i c.sl,.rowE (jN c.ks) 2,.rowE (kU c.ls) 3,.rowE (fP c.bs) 3,.rowE (kB gs) 2]
theorem TM (c : Cx) (r : Int) (l : List W) : gG (fun w => decide (w.2.1 + r > c.m)) l = l.filter fun w => decide (w.2.1 + r ≤ c.m) := by
  unfold gG;congr 1;funext w;show (!decide (w.2.1 + r > c.m)) = decide (w.2.1 + r ≤ c.m);by_cases h : w.2.1 + r ≤ c.m
  · rw [decide_eq_true h,decide_eq_false (by omega)];rfl
  · rw [decide_eq_false h,decide_eq_true (by omega)];rfl
theorem SU {c : Cx} {all : List G} {k : Nat} (h : k < all.length) : (paid c all).take (k + 1) = (paid c all).take k ++ [(all[k].1,gG (fun w => decide (w.2.1 + (jO all - gI all[k]) > c.m)) all[k].2)] := by
  rw [TM];unfold paid;rw [← kJ,← kJ,aP h,bO];rfl
theorem XH (c : Cx) (all : List G) : (paid c all).length = all.length := by unfold paid;rw [aY]
theorem N2 (c : Cx) (all : List G) : (paid c all).flatMap (·.1) = all.flatMap (·.1) := by
  unfold paid;rw [CB]
theorem zZ.sub {n : Nat} {g : G} (h : zZ n g) {ws : List W} (hs : ∀ w,w ∈ ws → w ∈ g.2) : zZ n (g.1,ws) := ⟨h.ne,h.up,h.rg,h.ln,fun w hw => h.ws w (hs w hw),fun w v hw hv => h.same w v (hs w hw) (hs v hv)⟩
theorem nP.paid {n : Nat} {all : List G} (h : nP n all) (c : Cx) : nP n (paid c all) where
  ok g hg := by
    obtain ⟨x,hx,rfl⟩ := bB.1 hg;exact (h.ok x hx).sub fun w hw => (eF.1 hw).1
  nd := by rw [N2];exact h.nd
  ln := by rw [N2];exact h.ln
  ws g hg := by
    obtain ⟨x,hx,rfl⟩ := bB.1 hg;exact bK (fG _ _) (h.ws x hx)
theorem PB {c : Cx} {all : List G} (h : MA all) : MA (paid c all) := by
  unfold paid;refine zD4.2 (h.imp fun h => h)
theorem EG {n : Nat} {g : G} (h : zZ n g) (hne : g.2 ≠ []) : 0 ≤ gI g ∧ gI g ≤ 4000000 := by
  obtain ⟨w,hw,e⟩ := sI hne;have := h.ws w hw;rw [← e];exact ⟨this.m0,this.m1⟩
end Go.Ld
namespace Go.Proofs.YtmmmeebiobjnbaaGreat
open Go Go.Ab Go.Ld
attribute [local irreducible] VC AW cE aU
set_option maxHeartbeats 4000000
theorem zF5 (c : Cx) (gs : List G) (w : W) (r : Int) (h1 : 0 ≤ w.2.1 ∧ w.2.1 ≤ 4000000) (h2 : -100000000 ≤ r ∧ r ≤ 100000000) : aU Tryz.prog 101 [MM w,.pr [.i r] 0,.pr [.pr (jP c gs) 0] 0] [] (.b (decide (w.2.1 + r > c.m))) [] := by
  refine bX T Tryz.func101 rfl rfl rfl rfl ?_
  (repeat' (first|refine wS ?_|refine wR ?_|(refine rg 0 (cH (cY rfl rfl) rfl (aV ?_)))|(refine cO (id := 1) 15 [[],[0],[],[0,1,2],[],[4],[4,5],[4,5,6],rM 4 4,rN 9] (rM 5 10) [[],[],[5,6],[],rM 5 4,rM 5 4,rM 5 4,rM 5 4,rM 5 4,[]] cW rfl (by decide +kernel) (dP T rfl (dO T rfl (dO T rfl (dV rfl (cJ rfl rfl (by omega) (by omega)) (dO T rfl (dV rfl (by exact cF rfl rfl) ?_))))));refine dP T rfl (dP T rfl (dO T rfl (dV rfl (fB rfl rfl) (dE ?_))));refine aV ?_)|refine nZ ?_));all_goals first | (exfalso;omega) | exact rQ
end Go.Proofs.YtmmmeebiobjnbaaGreat
namespace Go.Ab
open Go
theorem OS {P : Program} {f : FuncId} {n : Nat} (hfn : ∃ fn, P.funcs[f]? = some fn ∧ (fn.name == "runtime.NumGoroutine") = false ∧ fn.body.isNone = false)
    (hs : ∀ w : World,Calls P f #[.slice none 0 0,.int .i64 n] w fun e w' => ∃ (g : Nat) (cs : Array Value) (t : TypeId),e = .returned (.slice (some ⟨w.heap.size,0,none⟩) 0 g) ∧ g ≤ maxLen ∧ g ≤ cs.size ∧ w' = w.drew.alloc (.cells cs t)) :
    aU P f [.nils,.i n] [] (.sl 0 0 0 1) [.arr [] 1] := by
  refine ⟨hfn,fun ρ S w vs s ha => ?_⟩
  simp only [RL,R] at ha;obtain ⟨y,_,rfl,rfl,y2,_,rfl,rfl,rfl⟩ := ha;refine (hs w).mono fun e w' ⟨g,cs,t,he,hg,hgc,hw⟩ => ?_
  subst hw;have hnew : (w.drew.alloc (.cells cs t)).heap[w.heap.size]? = some (.cells cs t (0,0)) := (MapKept.heap_alloc w.drew _).1;obtain ⟨ρ', g1, g2, _⟩ := s.made (x := .sl 0 0 0 1) (b := .arr [] 1) (y := .slice (some ⟨w.heap.size, 0, none⟩) 0 g) (q := some (w.heap.size, 0)) ((nC.drew1 w).trans (pR w.drew (.cells cs t) (fun _ => False)) (fun _ h => h.elim)) (fun p hp => by cases hp; exact ⟨aX _, by rw [World.size_alloc]; exact Nat.lt_succ_self _⟩)
    (fun ρ' e1 e2 l' => ⟨by simp only [R];exact ⟨_,_,rfl,hg,.inr ⟨_,_,e1,rfl,bY _,⟨cs,t,(0,0),hnew,by omega⟩⟩⟩,⟨(fun e he => nomatch he),MF,.inl ⟨rfl,fun b o hbo => by cases hbo;exact ⟨cs,t,hnew⟩⟩⟩⟩)
  exact ⟨_,ρ',S,he,g1,g2⟩
end Go.Ab
namespace Go.Proofs.YtmmmeebiobjnbaaGreat
open Go Go.Ab Go.Ld Go.Shelf Go.Proofs
attribute [local irreducible] VC AW cE aU
set_option maxHeartbeats 4000000
shelf_lay_g Lays8.n4 Nm8 4 at Tryz 122 as laysGrow
theorem zW1 (n : Nat) (h0 : 0 < n) (h1 : n ≤ 1000000) : aU Tryz.prog 122 [.nils,.i n] [] (.sl 0 0 0 1) [.arr [] 1] := by
  obtain ⟨inf,z,t1,t2,t3,t4,t5,t6,t7⟩ := T.tiOk 3 _ rfl;have hz : z.cells.size = 1 := by have := congrArg List.length t5;simpa using this
  refine OS ⟨_,Tryz.func122,by kernel_rfl,by kernel_rfl⟩ (fun w => ?_)
  refine (Any8.slices_Grow_grow laysGrow inf z t1 t4 (by rw [t2];decide) none 0 0 n [] w (aX _) (by omega) (by rw [t3];simp;omega) (by omega) (by simp) (fun _ => rfl) (fun a h => by cases h)).mono ?_
  rintro e w' ⟨rfl,rfl⟩;have hge := grownCap_ge w (0 + n) 0 3;refine ⟨_,_,_,rfl,grownCap_le_maxLen w _ _ _ (by unfold maxLen;omega),?_,rfl⟩
  simp only [Array.size_append,Builtin.zeroCells,Array.size_map,Array.size_range,hz,nR,List.length_nil];omega
theorem ZO (p q : List Int) (hp : 0 < p.length ∧ p.length ≤ 1000) (hq : 0 < q.length ∧ q.length ≤ 1000) : aU Tryz.prog 81 [.rowE [[.rowE (ints p) 1],[.rowE (ints q) 1]] 1] [] (.rowE (ints (p ++ q)) 1) [] := by
  have hgr := zW1 (p.length + q.length) (by omega) (by omega)
  rw [show ((p.length + q.length : Nat) : Int) = (p.length : Int) + q.length by omega] at hgr
  have hlp : (ints p).length = p.length := dA _;have hlq : (ints q).length = q.length := dA _;have hpq : ints (p ++ q) = ints p ++ ints q := bO;have hle : ∀ e,e ∈ [[AV.rowE (ints p) 1],[AV.rowE (ints q) 1]] → e.length = 1 := by intro e he;simp at he;rcases he with rfl | rfl <;> rfl
  have g0 : [[AV.rowE (ints p) 1],[AV.rowE (ints q) 1]][((0 : Nat) : Int).toNat]? = some [AV.rowE (ints p) 1] := rfl;have g1 : [[AV.rowE (ints p) 1],[AV.rowE (ints q) 1]][((1 : Nat) : Int).toNat]? = some [AV.rowE (ints q) 1] := rfl;refine kE (by rw [dA] : (p ++ q).length = (ints (p ++ q)).length) (gE (bN _)) ?_
  rw [hpq,aF];have o1 := I7 p;have o2 := I7 q;have n1 := eB p;have n2 := eB q;have i1 := bN p;have i2 := bN q;generalize ints p = P' at *;generalize ints q = Q' at *;obtain ⟨sz,s0,s1,s2⟩ : ∃ sz : Nat → Int,sz 0 = 0 ∧ sz 1 = P'.length ∧ sz 2 = P'.length + Q'.length := ⟨fun k => if k = 0 then 0 else if k = 1 then (P'.length : Int) else P'.length + Q'.length,by simp,by simp,by simp⟩
  obtain ⟨cc,c0,c1,c2⟩ : ∃ cc : Nat → List (List AV),cc 0 = [] ∧ cc 1 = P' ∧ cc 2 = P' ++ Q' := ⟨fun k => if k = 0 then [] else if k = 1 then P' else P' ++ Q',by simp,by simp,by simp⟩
  refine bX T Tryz.func81 rfl rfl rfl rfl ?_
  (repeat' (first|refine wS ?_|refine wB ?_|(refine rg 0 (aV ?_))|(refine rg 1 (aV ?_))|(refine rg 2 (mW rfl (qW T rfl (mV ?_))))|refine nZ ?_));refine dC (X := {k : Nat // k ≤ 2}) (fun k => [(0,.rowE [[.rowE P' 1],[.rowE Q' 1]] 1),(3,.i (sz k.1)),(9,.rowE [[.rowE P' 1],[.rowE Q' 1]] 1),(10,.i 2),(11,.i k.1)]) (fun _ => []) (fun k => 2 - k.1) ⟨0,by omega⟩ ⟨[],rfl,⟨rfl,by rw [s0];rfl,rfl,rfl,rfl,trivial⟩,trivial,eP,kI _⟩ ?_
  rintro ⟨k,hk⟩;dsimp only;rcases (by omega : k = 0 ∨ k = 1 ∨ k = 2) with rfl | rfl | rfl
  · (repeat' (first|refine wS ?_|refine wB ?_|refine wK ?_|refine vU rfl ?_|(refine wC rfl (fun hb => ?_) (fun hb => ?_) <;> (((try simp only [nm] at hb);try (exfalso;omega))))|(refine rg 3 (vV (aJ rfl rfl) ?_))|(refine rg 4 (vV (ix T rfl (by omega) hle g0) (lW T rfl (aV ?_))))|(refine rg 5 (dK rfl (qW T rfl (vV (cJ rfl rfl (by omega) (by omega)) (aV ?_)))))|(refine rg 6 (mW rfl (vV (aJ rfl rfl) ?_)))|(refine rg 8 (vV (cJ rfl rfl (by omega) (by omega)) (mV ?_)))|(refine nZ ?_)));all_goals first | (exfalso;omega) | exact ⟨⟨1,by omega⟩,by dsimp only;omega,[],rfl,⟨rfl,by dsimp only;rw [show sz 1 = sz 0 + P'.length by omega];rfl,rfl,rfl,rfl,trivial⟩,trivial,eP,kI _⟩
  · (repeat' (first|refine wS ?_|refine wB ?_|refine wK ?_|refine vU rfl ?_|(refine wC rfl (fun hb => ?_) (fun hb => ?_) <;> (((try simp only [nm] at hb);try (exfalso;omega))))|(refine rg 3 (vV (aJ rfl rfl) ?_))|(refine rg 4 (vV (ix T rfl (by omega) hle g1) (lW T rfl (aV ?_))))|(refine rg 5 (dK rfl (qW T rfl (vV (cJ rfl rfl (by omega) (by omega)) (aV ?_)))))|(refine rg 6 (mW rfl (vV (aJ rfl rfl) ?_)))|(refine rg 8 (vV (cJ rfl rfl (by omega) (by omega)) (mV ?_)))|(refine nZ ?_)));all_goals first | (exfalso;omega) | exact ⟨⟨2,by omega⟩,by dsimp only;omega,[],rfl,⟨rfl,by dsimp only;rw [show sz 2 = sz 1 + Q'.length by omega];rfl,rfl,rfl,rfl,trivial⟩,trivial,eP,kI _⟩
  · rw [← hlp,← hlq,← s2] at hgr
    (repeat' (first|refine wS ?_|refine wB ?_|refine wE ?_|refine wU ?_|(refine rg 3 (vV (aJ rfl rfl) ?_))|(refine rg 9 (mW rfl (cH (by exact fQ rfl rfl hgr (.inr ⟨rfl,rfl,by simp⟩)) rfl ?_));refine aV ?_)|(refine rg 10 (mW rfl (qW T rfl (mV ?_))))|refine nZ ?_));all_goals try (exfalso;omega)
    refine dC (X := {k : Nat // k ≤ 2}) (fun k => [(6,.sl 0 0 (cc k.1).length 1),(25,.rowE [[.rowE P' 1],[.rowE Q' 1]] 1),(26,.i 2),(27,.i k.1)]) (fun k => [.arr (cc k.1) 1]) (fun k => 2 - k.1) ⟨0,by omega⟩ ⟨[0],rfl,⟨by dsimp only;rw [c0];rfl,rfl,rfl,rfl,trivial⟩,⟨.inr (aC rfl (by dsimp only;rw [c0];rfl) (by rw [c0];intro e he;cases he)),trivial⟩,by decide,kI _⟩ ?_
    clear hk;rintro ⟨k,hk⟩;dsimp only;rcases (by omega : k = 0 ∨ k = 1 ∨ k = 2) with rfl | rfl | rfl
    · rw [c0]
      (repeat' (first|refine wS ?_|refine wB ?_|refine wK ?_|refine wT ?_|(refine rg 11 (vV (aJ rfl rfl) ?_))|(refine rg 12 (vV (ix T rfl (by omega) hle g0) (lW T rfl (aV ?_))))|(refine rg 13 (dK rfl (fR T rfl rfl rfl rfl rfl rfl (by simp) (.row n1) o1 (by simp;omega) (by simp;omega) rfl ?_));refine aV ?_)|(refine rg 14 (vV (cJ rfl rfl (by omega) (by omega)) (mV ?_)))|refine nZ ?_));all_goals first | (exfalso;omega) | skip
      exact ⟨⟨1,by omega⟩,by dsimp only;omega,⟨[1],rfl,⟨by dsimp only;rw [c1];show some (AV.sl 1 0 (0 + P'.length) 1) = some (AV.sl 1 0 P'.length 1);rw [Nat.zero_add],rfl,rfl,rfl,trivial⟩,⟨.inr (aC rfl (by dsimp only;rw [c1];rfl) (by rw [c1];exact i1)),trivial⟩,by decide,kI _⟩⟩
    · rw [c1]
      (repeat' (first|refine wS ?_|refine wB ?_|refine wK ?_|refine wT ?_|(refine rg 11 (vV (aJ rfl rfl) ?_))|(refine rg 12 (vV (ix T rfl (by omega) hle g1) (lW T rfl (aV ?_))))|(refine rg 13 (dK rfl (fR T rfl rfl rfl rfl rfl rfl (by omega) (.row n2) o2 (by (simp;omega)) (by omega) rfl ?_));refine aV ?_)|(refine rg 14 (vV (cJ rfl rfl (by omega) (by omega)) (mV ?_)))|refine nZ ?_));all_goals first | (exfalso;omega) | skip
      exact ⟨⟨2,by omega⟩,by dsimp only;omega,⟨[1],rfl,⟨by dsimp only;rw [c2,aF];rfl,rfl,rfl,rfl,trivial⟩,⟨.inr (aC rfl (by dsimp only;rw [c2,lZ,cM]) (by rw [c2];intro e he;rcases bF.1 he with he | he;exact i1 e he;exact i2 e he)),trivial⟩,by decide,kI _⟩⟩
    · rw [c2,aF]
      (repeat' (first|refine wS ?_|refine wR ?_|refine wE ?_|refine wU ?_|(refine rg 11 (vV (aJ rfl rfl) ?_))|(refine rg 15 (mW rfl (aV ?_)))|refine nZ ?_));all_goals first | (exfalso;omega) | exact ⟨.inl rfl,[0],_,rfl,by rw [hlp,hlq];rfl,rfl,⟨.inr (aC rfl rfl (by intro e he;rcases bF.1 he with he | he;exact i1 e he;exact i2 e he)),trivial⟩,by decide,kI _⟩
theorem K4 (l : List G) (hl : l.length ≤ 1000000) : aU Tryz.prog 58 [.rowE (kB l) 2] [] (.sl 0 0 l.length 2) [.arr (kB l) 2] := by
  have hll : (kB l).length = l.length := jH l;refine bX T Tryz.func58 rfl rfl rfl rfl ?_
  repeat' (first|refine wS ?_|refine wK ?_|refine wT ?_|refine wU ?_|(refine rg 0 (aV ?_))|(refine rg 1 (mV ?_);refine sN T rfl rfl rfl rfl fun b hb=>?_;cases b)|refine nZ ?_)
  · (repeat' (first|refine wR ?_|(refine rg 3 (cH (by exact bD T rfl rfl (by decide) (by decide) rfl rfl rfl) rfl ?_);refine mW rfl (fR T rfl rfl rfl rfl rfl rfl (by decide) (.row (qY l)) (YX l) (by simp;omega) (by simp;omega) rfl ?_);refine aV ?_)|(refine nZ ?_)));exact ⟨.inl rfl,[1],_,rfl,(by show AV.sl 1 0 (0 + (kB l).length) 2 = AV.sl 1 0 l.length 2;simp),rfl,⟨.inr (aC rfl rfl (eG _)),trivial⟩,by decide,CG⟩
  · have hl0 : l = [] := fA.1 (Classical.byContradiction fun h => by have := hb (by omega);cases this)
    subst hl0
    (repeat' (first|refine wR ?_|(refine rg 2 (vV (dJ rfl) (nG 2 2 rfl (by decide) ?_)))|refine nZ ?_));exact ⟨.inl rfl,[0],_,rfl,rfl,rfl,⟨.inr (aC rfl rfl (eG _)),trivial⟩,by decide,CG⟩
theorem zN2 (g : G) (b : Int) (h : g.1.length ≤ 1000000) : aU Tryz.prog 85 [VA g,.pr [.i b] 0] [] (.b (decide (b ∈ g.1))) [] := by
  have hc := G0 g.1 b (by omega)
  refine bX T Tryz.func85 rfl rfl rfl rfl ?_
  (repeat' (first|refine wS ?_|refine wR ?_|(refine rg 0 (cH (cY rfl rfl) rfl (aV ?_)))|(refine rg 1 (iP T rfl (lW T rfl (vV (kC (hc)) (aV ?_)))))|refine nZ ?_));all_goals first | (exfalso;omega) | exact rQ
theorem zJ (l : List G) (b : Int) (hl : l.length ≤ 1000000) (hg : ∀ g,g ∈ l → g.1.length ≤ 1000000) : aU Tryz.prog 61 [.rowE (kB l) 2,.i b] [] (.i (oR l b)) [] := by
  have hc := zR1 (caps := [.pr [.i b] 0]) (p := fun g => decide (b ∈ g.1)) hl rfl (fun x hx => zN2 x b (hg x hx));have e : tA (fun g : G => decide (b ∈ g.1)) l 0 = oR l b := by
    rw [EJ];unfold oR;cases l.findIdx? fun g => decide (b ∈ g.1) with
    | none => rfl
    | some i => simp
  rw [e] at hc;generalize oR l b = v at *;refine bX T Tryz.func61 rfl rfl rfl rfl ?_
  (repeat' (first|refine wS ?_|refine wR ?_|(refine rg 0 (cH (cY rfl rfl) rfl (aV ?_)))|(refine rg 1 (mW rfl (vV (by exact kT rfl rfl) ?_));refine vV (by exact eW rfl rfl hc (.cons (.row _ _ _) (.cons (.clo .nil (.cons (.ptr rfl (.cons (.v _) .nil)) .nil)) .nil)) rfl rfl) ?_;refine aV ?_)|refine nZ ?_));all_goals first | (exfalso;omega) | exact rQ
end Go.Proofs.YtmmmeebiobjnbaaGreat
namespace Go.Ld
open Go.Ab Go.Proofs.YtmmmeebiobjnbaaGreat
theorem KW {α β : Type} {f : α → List β} {n : Nat} : ∀ (l : List α) (hf : ∀ x, x ∈ l → (f x).length = n) (i j : Nat) (hi : i < l.length) (hj : j < n), (l.flatMap f)[n * i + j]? = (f l[i])[j]?
  | [],hf,i,j,hi,hj => by simp at hi
  | x :: l,hf,0,j,hi,hj => by
    rw [bJ,Nat.mul_zero,Nat.zero_add,aH (by rw [hf x aS];exact hj)];rfl
  | x :: l,hf,i + 1,j,hi,hj => by
    have h1 := hf x aS;rw [bJ,aE (by rw [h1,zD1];omega),h1,show n * (i + 1) + j - n = n * i + j by rw [zD1];omega]
    exact KW l (fun x hx => hf x (aI _ hx)) i j (by simpa using hi) hj
theorem KV {α β : Type} {f : α → List β} {n : Nat} : ∀ (l : List α) (hf : ∀ x, x ∈ l → (f x).length = n), (l.flatMap f).length = n * l.length
  | [],hf => by simp
  | x :: l,hf => by
    rw [bJ,aF,hf x aS,KV l (fun x hx => hf x (aI _ hx)),List.length_cons,zD1];omega
theorem DR (a b : G) (l : List Int) : (pG a b l).length = b.2.length * a.2.length := KV _ fun x _ => aY _
theorem SS {a b : G} {l : List Int} {i j : Nat} (hi : i < a.2.length) (hj : j < b.2.length) : (pG a b l)[b.2.length * i + j]? = some (E1 a b a.2[i] b.2[j] l) := by
  unfold pG;rw [KW _ (fun x _ => aY _) i j hi hj];simp [hj]
theorem B6 : ∀ (l : List Int) (v : Int) (k : Nat), v ∈ l → xE l v k = ((k + l.idxOf v : Nat) : Int)
  | [],v,k,h => by cases h
  | x :: l,v,k,h => by
    unfold xE;by_cases e : v = x
    · rw [if_pos e,e,List.idxOf_cons_self];rfl
    · have e' : (x :: l).idxOf v = l.idxOf v + 1 := by rw [List.idxOf_cons,beq_eq_false_iff_ne.2 (fun h => e h.symm)];rfl
      rw [if_neg e,show ((k : Int) + 1) = ((k + 1 : Nat) : Int) by omega,B6 l v (k + 1) (by rcases bU.1 h with h | h;exact absurd h e;exact h),e']
      omega
theorem QK : ∀ (l : List Int) (v k : Int), v ∉ l → xE l v k = -1
  | [],v,k,h => rfl
  | x :: l,v,k,h => by
    unfold xE;rw [if_neg (fun e : v = x => h (by rw [e];exact aS)),QK l v (k + 1) (fun q => h (aI _ q))]
def AA (a b : G) (l : List Int) (k : Nat) : List AV := match (pG a b l)[k]? with
  | some w => [.agg (wA w)]
  | none => []
theorem WZ {a b : G} {l : List Int} {i j : Nat} (hi : i < a.2.length) (hj : j < b.2.length) : AA a b l (b.2.length * i + j) = [.agg (wA (E1 a b a.2[i] b.2[j] l))] := by
  unfold AA;rw [SS hi hj]
theorem IL {α β : Type} {f : α → β} {l : List α} {m : Nat} (h : m < l.length) : (l.map f).take (m + 1) = (l.map f).take m ++ [f l[m]] := by
  rw [aP (by simpa using h)];simp
end Go.Ld
namespace Go.Proofs.YtmmmeebiobjnbaaGreat
open Go Go.Ab Go.Ld
attribute [local irreducible] VC AW cE aU AY VY CE iV
set_option maxHeartbeats 4000000
abbrev zU0 (a b : G) (l : List Int) : AV := .clo (.func 123) [] [.pr (gA a) 0,.pr (gA b) 0,.pr [.rowE (ints l) 1] 0]
theorem zI2 (a b : G) (l : List Int) : aU Tryz.prog 82 [VA a,VA b,.rowE (ints l) 1] [] (zU0 a b l) [] := by
  refine G5 (res := .clo (.func 123) [] [.ptr 0 0,.ptr 1 0,.ptr 2 0]) (hout := [.cells (gA a),.cells (gA b),.cells [.rowE (ints l) 1]]) ?_ (.clo .nil (.cons (.ptr rfl (.cons (.row _ _ _) (.cons (.row _ _ _) .nil))) (.cons (.ptr rfl (.cons (.row _ _ _) (.cons (.row _ _ _) .nil))) (.cons (.ptr rfl (.cons (.row _ _ _) .nil)) .nil))));refine bX T Tryz.func82 rfl rfl rfl rfl ?_
  (repeat' (first|refine wS ?_|refine wR ?_|(refine rg 0 (cH (cY rfl rfl) rfl (cH (cY rfl rfl) rfl (cH (cY rfl rfl) rfl (aV ?_)))))|(refine rg 1 (vV (by exact kT rfl rfl) ?_);refine aV ?_)|refine nZ ?_));all_goals exact ⟨.inl rfl,[0,1,2],_,rfl,rfl,rfl,⟨.inr rfl,.inr rfl,.inr rfl,trivial⟩,by decide,kI _⟩
theorem XF (a b : G) (l : List Int) (sa : zZ0 a) (sb : zZ0 b) (hl : l.length ≤ 1000) (hm : ∀ k,k ∈ l → k ∈ a.1 ∨ k ∈ b.1) (h1 : ∀ w,w ∈ a.2 → 0 ≤ w.2.1 ∧ w.2.1 ≤ 4000000) (h2 : ∀ w,w ∈ b.2 → 0 ≤ w.2.1 ∧ w.2.1 ≤ 4000000) :
    CE Tryz.prog 123 [] [.pr (gA a) 0,.pr (gA b) 0,.pr [.rowE (ints l) 1] 0] [] (AA a b l) (pG a b l).length := by
  have hnn := DR a b l;have hla : (gB a.2).length = a.2.length := fH _;have hlb : (gB b.2).length = b.2.length := fH _;have hll : (ints l).length = l.length := dA _;have hwa := sa.w;have hwb := sb.w;refine zR8 T Tryz.func123 rfl rfl rfl rfl ?_;intro J A y hJ hy
  (repeat' (first|(first|(refine xN ?_)|(refine zQ ?_))|(((refine qS hJ (eS (id := 0) ?_)));(all_goals (refine KX T ?_;(refine qV T ?_);refine mV ?_)))|refine nZ ?_));refine HG (X := {i : Nat // i ≤ a.2.length}) (fun i => [(0,.clo (.yield y) [] []),(1,.pr (gA a) 0),(2,.pr (gA b) 0),(3,.pr [.rowE (ints l) 1] 0),(15,.rowE (gB a.2) 3),(16,.i (gB a.2).length),(17,.i i.1)]) (fun _ => []) (fun i => (b.2.length * i.1,false)) (fun i => a.2.length - i.1) ⟨0,bY _⟩ rfl (gM []) ?_
  rintro ⟨i,hi⟩;dsimp only;by_cases hlt : i < a.2.length
  · have ga := A0 hlt;have hx := sa.p _ (aM hlt);have hx2 := sa.c _ (aM hlt);have hx3 := h1 _ (aM hlt);have hpi := fun (j : Nat) (hj : j < b.2.length) => WZ (a := a) (b := b) (l := l) hlt hj;generalize a.2[i] = x at *
    (repeat' (first|(first|(refine xN ?_)|(refine zQ ?_)|(refine V9 ?_))|((refine xO rfl (fun hb=>?_) (fun hb=>?_)<;>(((try simp only [nm] at hb);try ((exfalso;omega);done)))))|(((refine qS hJ (eS (id := 1) ?_)));(all_goals (refine vV (aJ rfl rfl) ?_)))|(((refine qS hJ (eS (id := 2) ?_)));(all_goals (refine vV (ix T rfl (by omega) (pE _) ga) ?_;refine lV T ?_;refine cH (cK T rfl) rfl ?_;refine bA T rfl rfl rfl rfl rfl rfl (by decide) rfl ?_)))|(((refine qS hJ (eS (id := 3) ?_)));(all_goals (refine KX T ?_;(refine qV T ?_);refine mV ?_)))|refine nZ ?_));all_goals try (exfalso;omega)
    refine HG (X := {j : Nat // j ≤ b.2.length}) (fun j => [(0,.clo (.yield y) [] []),(1,.pr (gA a) 0),(2,.pr (gA b) 0),(3,.pr [.rowE (ints l) 1] 0),(6,.ptr 0 0),(15,.rowE (gB a.2) 3),(16,.i (gB a.2).length),(17,.i i),(22,.rowE (gB b.2) 3),(23,.i (gB b.2).length),(24,.i j.1)]) (fun _ => [.cells (wA x)]) (fun j => (b.2.length * i + j.1,false)) (fun j => b.2.length - j.1) ⟨0,bY _⟩ rfl ⟨[0],rfl,(by repeat first|exact trivial|refine ⟨rfl,?_⟩),⟨.inr rfl,trivial⟩,by decide,kI _⟩ ?_
    rintro ⟨j,hj⟩;dsimp only;by_cases hjl : j < b.2.length
    · have gb := A0 hjl;have hy1 := sb.p _ (aM hjl);have hy2 := sb.c _ (aM hjl);have hy3 := h2 _ (aM hjl);have hit := hpi j hjl;have hk : b.2.length * i + j < (pG a b l).length := by
        rw [hnn];have := Nat.mul_le_mul_left b.2.length (show i + 1 ≤ a.2.length by omega)
        rw [zD1] at this;omega
      generalize b.2[j] = z at *
      (repeat' (first|(first|(refine xN ?_)|(refine zQ ?_)|(refine V9 ?_))|((refine xO rfl (fun hb=>?_) (fun hb=>?_)<;>(((try simp only [nm] at hb);try ((exfalso;omega);done)))))|(((refine qS hJ (eS (id := 4) ?_)));(all_goals (refine vV (aJ rfl rfl) ?_)))|(((refine qS hJ (eS (id := 5) ?_)));(all_goals (refine vV (ix T rfl (by omega) (pE _) gb) ?_;refine lV T ?_;refine cH (cK T rfl) rfl ?_;refine bA T rfl rfl rfl rfl rfl rfl (by decide) rfl ?_)))|(((refine qS hJ (eS (id := 6) ?_)));(all_goals (refine KX T ?_;refine KX T ?_;refine vV (cJ rfl rfl (by omega) (by omega)) ?_;refine vV (by exact eR T rfl rfl rfl rfl) ?_;refine cH (cK T rfl) rfl ?_;refine bA T rfl rfl rfl rfl rfl rfl (by decide) rfl ?_)))|(((refine qS hJ (eS (id := 7) ?_)));(all_goals (refine lV T ?_;(refine qV T ?_);refine mV ?_)))|refine nZ ?_));all_goals try (exfalso;omega)
      refine qS hJ ?_;refine nX 2 0 1 rfl rfl (by decide) ?_
      refine nX 2 2 2 rfl rfl (by decide) ?_
      let fp : Int → Int := fun k => if k ∈ a.1 then gP x (a.1.idxOf k) else gP z (b.1.idxOf k)
      let fc : Int → SP := fun k => if k ∈ a.1 then gC x (a.1.idxOf k) else gC z (b.1.idxOf k)
      have hw : E1 a b x z l = (l.map fp,x.2.1 + z.2.1,l.map fc) := rfl;rw [hw] at hit;have hplen : (l.map fp).length = l.length := aY _;have hclen : (l.map fc).length = l.length := aY _;have hpt : ∀ m (h : m < l.length),(l.map fp).take (m + 1) = (l.map fp).take m ++ [fp l[m]] := fun m h => IL h
      have hct : ∀ m (h : m < l.length),(l.map fc).take (m + 1) = (l.map fc).take m ++ [fc l[m]] := fun m h => IL h
      have hfa : ∀ k,k ∈ a.1 → fp k = x.1.getD (a.1.idxOf k) 0 ∧ fc k = x.2.2.getD (a.1.idxOf k) (0,0) := fun k h => ⟨if_pos h,if_pos h⟩
      have hfb : ∀ k,k ∉ a.1 → fp k = z.1.getD (b.1.idxOf k) 0 ∧ fc k = z.2.2.getD (b.1.idxOf k) (0,0) := fun k h => ⟨if_neg h,if_neg h⟩
      clear_value fp fc
      clear hw;generalize l.map fp = PP at *;generalize l.map fc = CC at *;refine dC (X := {m : Nat // m ≤ l.length}) (fun m => [(0, .clo (.yield y) [] []), (1, .pr (gA a) 0), (2, .pr (gA b) 0), (3, .pr [.rowE (ints l) 1] 0), (6, .ptr 0 0), (8, .ptr 1 0), (9, .ptr 2 0), (15, .rowE (gB a.2) 3), (16, .i (gB a.2).length), (17, .i i), (22, .rowE (gB b.2) 3), (23, .i (gB b.2).length), (24, .i j), (34, .rowE (ints l) 1), (35, .i (ints l).length), (36, .i m.1)])
        (fun m => [.cells (wA x),.cells (wA z),.cells [.sl 3 0 m.1 1,.i (x.2.1 + z.2.1),.sl 4 0 m.1 2],.arr (ints (PP.take m.1)) 1,.arr (fL (CC.take m.1)) 2]) (fun m => l.length - m.1) ⟨0,bY _⟩ ⟨[0,1,2,3,4],rfl,(by repeat first|exact trivial|refine ⟨rfl,?_⟩),⟨.inr rfl,.inr rfl,.inr rfl,.inr rfl,.inr rfl,trivial⟩,by decide,kI _⟩ ?_
      rintro ⟨m,hm'⟩;dsimp only;have hTp : (ints (PP.take m)).length = m := by rw [dA,bC];omega
      have hTc : (fL (CC.take m)).length = m := by rw [hO,bC];omega
      by_cases hml : m < l.length
      · have hgl := QD hml;have hkm := hm l[m] (aM hml);have hp1 := hpt m hml;have hc1 := hct m hml;generalize l[m] = k at *;by_cases hka : k ∈ a.1
        · obtain ⟨e1,e2⟩ := hfa k hka;have hix := xC a.1 k (by have := sa.b;omega)
          have hxi : xE a.1 k 0 = ((a.1.idxOf k : Nat) : Int) := by have := B6 a.1 k 0 hka;simpa using this
          rw [hxi] at hix;have hio := gS hka;generalize a.1.idxOf k = ia at *;have qp := rY (l := x.1) (j := (ia : Int)) (i := ia) 0 (by omega) rfl
          have qc := vB (l := x.2.2) (j := (ia : Int)) (i := ia) (by omega) rfl
          have hlp : (ints x.1).length = x.1.length := dA _;have hlc : (fL x.2.2).length = x.2.2.length := hO _;rw [← e1] at qp;rw [← e2] at qc;have hPs : ints (PP.take (m + 1)) = ints (PP.take m) ++ [[AV.i (fp k)]] := by rw [hp1,O3]
          have hCs : fL (CC.take (m + 1)) = fL (CC.take m) ++ [[AV.i (fc k).1,AV.i (fc k).2]] := by rw [hc1,fL,bO];rfl
          generalize ints (PP.take m) = P0 at *;generalize fL (CC.take m) = C0 at *;generalize fp k = vp at *;generalize fc k = vc at *
          (repeat' (first|refine wS ?_|refine wB ?_|refine wK ?_|refine wU ?_|(refine wC rfl ?_ ?_<;>(intro hb;(try simp only [nm] at hb);try (exfalso;omega)))|(refine rg 8 (vV (aJ rfl rfl) ?_))|(refine rg 9 (vV (ix T rfl (by omega) (eB _) hgl) (lW T rfl (aV ?_))))|(refine tH (id := 10) 6 79 [[],[],[1],[],[1,2,3],[],rN 6,rN 7] [[],[],[1],[],[1,2,3],[]] [40,41,42,43,44,12] [[],[40],[40],[40,41,42],[40],rM 40 5] cW rfl (by decide +kernel) (by decide +kernel) ?_;(dsimp only [List.take,List.drop]);refine dO T rfl (dP T rfl (dO T rfl (dN rfl (dV rfl (kC (hix)) (F9 rfl rfl rfl (by exact cK T rfl) rfl ?_)))));refine BH rfl rfl (by ((dsimp only [List.nil_append,List.cons_append,List.append_nil,List.length_cons,List.length_nil,List.set_cons_zero,List.set_cons_succ,List.map_cons,List.map_nil,kD,mM,mP,rU,MV,E9,X6,X4,X3,X5,E8,F1,E7,F0,Nat.zero_add,Nat.add_zero,Nat.reduceAdd,Bool.not_true,Bool.not_false];done))) ?_;refine iF ?_;refine bA T rfl rfl rfl rfl rfl rfl (by decide) rfl (aV ?_))|(refine rg 11 (mW rfl (vV (aJ rfl rfl) ?_)))|(refine lN (id := 13) 79 yN3 (rM 52 19) yN4 [(8,3),(17,4),(19,2)] cW rfl (by decide +kernel) (cC rfl rfl rfl rfl (by exact bG T rfl rfl rfl) ?_);refine cC rfl rfl rfl rfl (by exact aN T rfl rfl rfl rfl) ?_;refine cC rfl rfl rfl rfl (by exact bG T rfl rfl rfl) ?_;refine cC rfl rfl rfl rfl (by exact aN T rfl rfl rfl rfl) ?_;refine cC rfl rfl rfl rfl (by exact bR rfl) ?_;refine cC rfl rfl rfl rfl (by exact ix T rfl (by omega) (eB _) qp) ?_;refine cC rfl rfl rfl rfl (by exact aN T rfl rfl rfl rfl) ?_;refine uF rfl rfl rfl rfl (by exact bD T rfl rfl (by decide) (by decide) rfl rfl rfl) rfl ?_;refine mG rfl rfl rfl rfl (aG rfl) (by exact lO T rfl rfl rfl rfl rfl rfl (by omega) (iY.whole rfl rfl) rfl (by simp;omega) (by simp;omega)) ?_;refine cC rfl rfl rfl rfl (by exact bG T rfl rfl rfl) ?_;refine cC rfl rfl rfl rfl (by exact aN T rfl rfl rfl rfl) ?_;refine cC rfl rfl rfl rfl (by exact bG T rfl rfl rfl) ?_;refine cC rfl rfl rfl rfl (by exact aN T rfl rfl rfl rfl) ?_;refine cC rfl rfl rfl rfl (by exact bR rfl) ?_;refine cC rfl rfl rfl rfl (by exact ix T rfl (by omega) (lJ _) qc) ?_;refine cC rfl rfl rfl rfl (by exact aN T rfl rfl rfl rfl) ?_;refine uF rfl rfl rfl rfl (by exact bD T rfl rfl (by decide) (by decide) rfl rfl rfl) rfl ?_;refine mG rfl rfl rfl rfl (aG rfl) (by exact lO T rfl rfl rfl rfl rfl rfl (by omega) (iY.whole rfl rfl) rfl (by simp;omega) (by simp;omega)) ?_;refine cC rfl rfl rfl rfl (by exact bG T rfl rfl rfl) ?_;refine uR rfl rfl rfl rfl (aG rfl) T rfl rfl rfl rfl rfl rfl (by decide) rfl ?_;refine pB rfl rfl rfl (by exact rfl) ?_;refine fW T rfl (bA T rfl rfl rfl rfl rfl rfl (by decide) rfl ?_))|(refine rg 14 (vV (cJ rfl rfl (by omega) (by omega)) (mV ?_)))|refine nZ ?_));all_goals try (exfalso;omega)
          exact ⟨⟨m + 1,hml⟩,by dsimp only;omega,⟨[0,1,2,7,9],rfl,(by repeat first|exact trivial|refine ⟨rfl,?_⟩),⟨.inr rfl,.inr rfl,.inr rfl,.inr (aC rfl (by dsimp only;rw [hPs];exact iO hTp.symm) (bN _)),.inr (aC rfl (by dsimp only;rw [hCs];exact iO hTc.symm) (fD _)),trivial⟩,by decide,kI _⟩⟩
        · obtain ⟨e1,e2⟩ := hfb k hka;have hkb : k ∈ b.1 := hkm.resolve_left hka;have hix := xC a.1 k (by have := sa.b;omega)
          have hiy := xC b.1 k (by have := sb.b;omega)
          have hyi : xE b.1 k 0 = ((b.1.idxOf k : Nat) : Int) := by have := B6 b.1 k 0 hkb;simpa using this
          rw [QK _ _ _ hka] at hix;rw [hyi] at hiy;have hio := gS hkb;generalize b.1.idxOf k = ia at *;have qp := rY (l := z.1) (j := (ia : Int)) (i := ia) 0 (by omega) rfl
          have qc := vB (l := z.2.2) (j := (ia : Int)) (i := ia) (by omega) rfl
          have hlp : (ints z.1).length = z.1.length := dA _;have hlc : (fL z.2.2).length = z.2.2.length := hO _;rw [← e1] at qp;rw [← e2] at qc;have hPs : ints (PP.take (m + 1)) = ints (PP.take m) ++ [[AV.i (fp k)]] := by rw [hp1,O3]
          have hCs : fL (CC.take (m + 1)) = fL (CC.take m) ++ [[AV.i (fc k).1,AV.i (fc k).2]] := by rw [hc1,fL,bO];rfl
          generalize ints (PP.take m) = P0 at *;generalize fL (CC.take m) = C0 at *;generalize fp k = vp at *;generalize fc k = vc at *
          (repeat' (first|refine wS ?_|refine wB ?_|refine wK ?_|refine wT ?_|(refine wC rfl ?_ ?_<;>(intro hb;(try simp only [nm] at hb);try (exfalso;omega)))|(refine rg 8 (vV (aJ rfl rfl) ?_))|(refine rg 9 (vV (ix T rfl (by omega) (eB _) hgl) (lW T rfl (aV ?_))))|(refine tH (id := 10) 6 79 [[],[],[1],[],[1,2,3],[],rN 6,rN 7] [[],[],[1],[],[1,2,3],[]] [40,41,42,43,44,12] [[],[40],[40],[40,41,42],[40],rM 40 5] cW rfl (by decide +kernel) (by decide +kernel) ?_;(dsimp only [List.take,List.drop]);refine dO T rfl (dP T rfl (dO T rfl (dN rfl (dV rfl (kC (hix)) (F9 rfl rfl rfl (by exact cK T rfl) rfl ?_)))));refine BH rfl rfl (by ((dsimp only [List.nil_append,List.cons_append,List.append_nil,List.length_cons,List.length_nil,List.set_cons_zero,List.set_cons_succ,List.map_cons,List.map_nil,kD,mM,mP,rU,MV,E9,X6,X4,X3,X5,E8,F1,E7,F0,Nat.zero_add,Nat.add_zero,Nat.reduceAdd,Bool.not_true,Bool.not_false];done))) ?_;refine iF ?_;refine bA T rfl rfl rfl rfl rfl rfl (by decide) rfl (aV ?_))|(refine rg 11 (mW rfl (vV (aJ rfl rfl) ?_)))|(refine nY (id := 12) 79 [[],[],[1],[],[1,2,3],rN 5] (rM 47 5) [[],[47],[47],[47,48,49],[47],[]] [(5,5)] cW rfl (by decide +kernel) (cP rfl rfl rfl rfl (by exact aN T rfl rfl rfl rfl) ?_);refine cP rfl rfl rfl rfl (by exact bG T rfl rfl rfl) ?_;refine cP rfl rfl rfl rfl (by exact aN T rfl rfl rfl rfl) ?_;refine cP rfl rfl rfl rfl (by exact bR rfl) ?_;refine cP rfl rfl rfl rfl (by exact kC (hiy)) ?_;refine xJ rfl rfl rfl rfl (aG rfl) T rfl rfl rfl rfl rfl rfl (by decide) rfl ?_;refine sD rfl rfl rfl (by exact rfl) ?_;refine aV ?_)|(refine lN (id := 13) 79 yN3 (rM 52 19) yN4 [(8,3),(17,4),(19,2)] cW rfl (by decide +kernel) (cC rfl rfl rfl rfl (by exact bG T rfl rfl rfl) ?_);refine cC rfl rfl rfl rfl (by exact aN T rfl rfl rfl rfl) ?_;refine cC rfl rfl rfl rfl (by exact bG T rfl rfl rfl) ?_;refine cC rfl rfl rfl rfl (by exact aN T rfl rfl rfl rfl) ?_;refine cC rfl rfl rfl rfl (by exact bR rfl) ?_;refine cC rfl rfl rfl rfl (by exact ix T rfl (by omega) (eB _) qp) ?_;refine cC rfl rfl rfl rfl (by exact aN T rfl rfl rfl rfl) ?_;refine uF rfl rfl rfl rfl (by exact bD T rfl rfl (by decide) (by decide) rfl rfl rfl) rfl ?_;refine mG rfl rfl rfl rfl (aG rfl) (by exact lO T rfl rfl rfl rfl rfl rfl (by omega) (iY.whole rfl rfl) rfl (by simp;omega) (by simp;omega)) ?_;refine cC rfl rfl rfl rfl (by exact bG T rfl rfl rfl) ?_;refine cC rfl rfl rfl rfl (by exact aN T rfl rfl rfl rfl) ?_;refine cC rfl rfl rfl rfl (by exact bG T rfl rfl rfl) ?_;refine cC rfl rfl rfl rfl (by exact aN T rfl rfl rfl rfl) ?_;refine cC rfl rfl rfl rfl (by exact bR rfl) ?_;refine cC rfl rfl rfl rfl (by exact ix T rfl (by omega) (lJ _) qc) ?_;refine cC rfl rfl rfl rfl (by exact aN T rfl rfl rfl rfl) ?_;refine uF rfl rfl rfl rfl (by exact bD T rfl rfl (by decide) (by decide) rfl rfl rfl) rfl ?_;refine mG rfl rfl rfl rfl (aG rfl) (by exact lO T rfl rfl rfl rfl rfl rfl (by omega) (iY.whole rfl rfl) rfl (by simp;omega) (by simp;omega)) ?_;refine cC rfl rfl rfl rfl (by exact bG T rfl rfl rfl) ?_;refine uR rfl rfl rfl rfl (aG rfl) T rfl rfl rfl rfl rfl rfl (by decide) rfl ?_;refine pB rfl rfl rfl (by exact rfl) ?_;refine fW T rfl (bA T rfl rfl rfl rfl rfl rfl (by decide) rfl ?_))|(refine rg 14 (vV (cJ rfl rfl (by omega) (by omega)) (mV ?_)))|refine nZ ?_));all_goals try (exfalso;omega)
          exact ⟨⟨m + 1,hml⟩,by dsimp only;omega,⟨[0,1,2,7,9],rfl,(by repeat first|exact trivial|refine ⟨rfl,?_⟩),⟨.inr rfl,.inr rfl,.inr rfl,.inr (aC rfl (by dsimp only;rw [hPs];exact iO hTp.symm) (bN _)),.inr (aC rfl (by dsimp only;rw [hCs];exact iO hTc.symm) (fD _)),trivial⟩,by decide,kI _⟩⟩
      · obtain rfl : m = l.length := by omega
        rw [show PP.take l.length = PP by rw [← hplen,cM],show CC.take l.length = CC by rw [← hclen,cM]]
        refine nJ 2 0 rfl rfl rfl (by rw [dA,hplen]) (gE (bN _)) ?_
        refine nJ 2 2 rfl rfl rfl (by rw [hO,hclen]) (gE (fD _)) ?_
        (repeat' (first|refine wS ?_|refine wE ?_|(refine wC rfl ?_ ?_<;>(intro hb;(try simp only [nm] at hb);try (exfalso;omega)))|(refine rg 8 (vV (aJ rfl rfl) ?_))|refine nZ ?_));all_goals try (exfalso;omega)
        show AY _ _ _ _ _ _ _ _ _
        (repeat' (first|(first|(refine xN ?_)|(refine V9 ?_)|(refine ZZ ?_))|((refine xO rfl (fun hb=>?_) (fun hb=>?_)<;>(((try simp only [nm] at hb);try ((exfalso;omega);done)))))|(((refine EX (id := 15) ?_));((refine VF 2 hJ ?_));(dsimp only [List.take,List.drop]);(all_goals (refine mV ?_;refine lV T ?_;refine iF ?_;refine IE hJ hy rfl rfl rfl hk hit rfl ?_));(all_goals (intro yes));(all_goals (refine zQ5 hJ ?_;refine vV (eM rfl) ?_;refine T7 (by ((dsimp only [List.nil_append,List.cons_append,List.append_nil,List.length_cons,List.length_nil,List.set_cons_zero,List.set_cons_succ,List.map_cons,List.map_nil,kD,mM,mP,rU,MV,E9,X6,X4,X3,X5,E8,F1,E7,F0,Nat.zero_add,Nat.add_zero,Nat.reduceAdd,Bool.not_true,Bool.not_false];done))) ?_)))|(((refine qS hJ (eS (id := 16) ?_)));(all_goals (refine vV (cJ rfl rfl (by omega) (by omega)) ?_;refine mV ?_)))|refine nZ ?_));all_goals first | (exfalso;omega) | skip
        · exact ⟨.inl rfl,fun h => (by first | (subst hb;cases h) | (cases h;done)),[],rfl⟩
        · obtain rfl := hb;exact ⟨⟨j + 1,hjl⟩,by dsimp only;omega,rfl,⟨[0],rfl,(by repeat first|exact trivial|refine ⟨rfl,?_⟩),⟨.inr rfl,trivial⟩,by decide,kI _⟩⟩
    · obtain rfl : j = b.2.length := by omega
      (repeat' (first|(first|(refine xN ?_)|(refine HH ?_))|((refine xO rfl (fun hb=>?_) (fun hb=>?_)<;>(((try simp only [nm] at hb);try ((exfalso;omega);done)))))|(((refine qS hJ (eS (id := 4) ?_)));(all_goals (refine vV (aJ rfl rfl) ?_)))|(((refine qS hJ (eS (id := 17) ?_)));(all_goals (refine vV (cJ rfl rfl (by omega) (by omega)) ?_;refine mV ?_)))|refine nZ ?_));all_goals first | (exfalso;omega) | skip
      exact ⟨⟨i + 1,hlt⟩,by dsimp only;omega,rfl,gM []⟩
  · obtain rfl : i = a.2.length := by omega
    (repeat' (first|(first|(refine xN ?_)|(refine HH ?_))|((refine xO rfl (fun hb=>?_) (fun hb=>?_)<;>(((try simp only [nm] at hb);try ((exfalso;omega);done)))))|(((refine qS hJ (eS (id := 1) ?_)));(all_goals (refine vV (aJ rfl rfl) ?_)))|refine nZ ?_));all_goals first | (exfalso;omega) | skip
    exact ⟨.inr rfl,fun _ => by rw [hnn],[],rfl⟩
end Go.Proofs.YtmmmeebiobjnbaaGreat
namespace Go.Ab
open Go
theorem rW {P : Program} {env : dW} {h : Hp} {d : Option Nat} {ty : TypeId} {pos : String} {af : Array Edge} {g : Option (Nat × Bool)} (T : oW P) {t e sz : Nat} {es : List (List AV)} {c : List AV} {i : TI} {x y : Operand} {kk : IntKind} {j : Int} (hx : evu env x = some (.rowE es sz)) (hy : evu env y = some (.v (.int kk j))) (ha : T.elem t = some e) (he : T.ti e = some i) (hs : i.size = sz) (h0 : 0 ≤ j) (hl : ∀ e,e ∈ es → e.length = sz) (hc : es[j.toNat]? = some c) :
    zC9 P ⟨d,.indexAddr t x y,ty,pos,af,g⟩ env h (.pr c 0) := by
  intro ρ S a w p;have h1 : j < es.length := by have := (aB.1 hc).1;omega
  have h2 := p.evu hx;simp only [R] at h2;obtain ⟨ad,cap,h3,_,_,_,_,h4⟩ := h2;rcases h4 with h4 | ⟨b,o,ys,h5,h6,h7,h8⟩
  · omega
  have h9 := tU (p.evu hy);subst h5;refine ⟨.pointer (some ⟨b,o + j.toNat * sz,none⟩),fun w' => by simp [execOp,h3,h9,Instr.indexAt,asIntOf,run_underlying (T.elemOk _ _ ha),h0,h1,T.sizeOf he,Addr.add_lit,hs],PT hl hc ?_⟩
  simp only [R];exact ⟨b,o,ys,rfl,h6,h7,h8⟩
end Go.Ab
namespace Go.Ld
open Go.Ab Go.Proofs.YtmmmeebiobjnbaaGreat
theorem iN {l : List G} {b : Int} (h : ∃ g,g ∈ l ∧ b ∈ g.1) : ∃ (i : Nat) (g : G),oR l b = (i : Int) ∧ l[i]? = some g ∧ b ∈ g.1 := by
  obtain ⟨g,hg,hb⟩ := h;unfold oR;cases hf : l.findIdx? fun g => decide (b ∈ g.1) with
  | none => have := List.findIdx?_eq_none_iff.1 hf g hg;simp at this;exact absurd hb this
  | some i =>
    obtain ⟨h1,h2,_⟩ := List.findIdx?_eq_some_iff_getElem.1 hf;exact ⟨i,l[i],rfl,aA h1,by simpa using h2⟩
theorem sS (l : List Int) : iG l = dY cI l :=
  F3 qK (Go.Pm.sorted_perm l) ((Go.Pm.sorted_up l).imp fun {a b} h => by unfold cI;split <;> (try split) <;> omega)
theorem SO {a b : G} {l : List Int} {k : Nat} {w : W} (h : (pG a b l)[k]? = some w) : AA a b l k = [.agg (wA w)] := by unfold AA;rw [h]
end Go.Ld
namespace Go.Proofs.YtmmmeebiobjnbaaGreat
open Go Go.Ab Go.Ld
attribute [local irreducible] VC AW cE aU AY VY CE iV
set_option maxHeartbeats 4000000
theorem yF5 : ∀ i : Nat,i < 1 → ([0,4] : List Nat)[i]? = some i := by decide
theorem zK3 {n : Nat} (l : List G) (a b : Int) (ok : nP n l) (ha : ∃ g,g ∈ l ∧ a ∈ g.1) (hb : ∃ g,g ∈ l ∧ b ∈ g.1) (hs : oR l a = oR l b) : aU Tryz.prog 60 [.sl 0 0 l.length 2,.i a,.i b] [.arr (kB l) 2] (.tup [.sl 0 0 l.length 2,.i 0]) [.arr (kB l) 2] := by
  have hl12 : l.length ≤ 12 := bK ok.len ok.ln;have hgl : ∀ g,g ∈ l → g.1.length ≤ 1000000 := fun g hg => by have := (ok.ok g hg).ln;omega
  have f1 := zJ l a (by omega) hgl
  have f2 := zJ l b (by omega) hgl
  obtain ⟨i,x,e1,hx,hax⟩ := iN ha;obtain ⟨k,y,e2,hy,hby⟩ := iN hb;rw [e1] at f1;rw [e2] at f2;have hil := (aB.1 hx).1;have hkl := (aB.1 hy).1;have hll : (kB l).length = l.length := jH _;have qx : (kB l)[(i : Int).toNat]? = some (gA x) := by rw [bM,bL,hx];rfl
  have qy : (kB l)[(k : Int).toNat]? = some (gA y) := by rw [bM,bL,hy];rfl
  have ax : mA l (i : Int).toNat = x := by unfold mA;rw [bM,aD,hx];rfl
  have ay : mA l (k : Int).toNat = y := by unfold mA;rw [bM,aD,hy];rfl
  have hik : i = k := by omega
  subst hik;have hvw : nN [.arr (kB l) 2] (.sl 0 0 l.length 2) (.rowE (kB l) 2) := nU rfl hll.symm (qD (fun _ => rfl) _);refine bX T Tryz.func60 rfl rfl rfl rfl ?_
  (repeat' (first|refine wS ?_|refine wR ?_|refine wT ?_|(refine rg 0 (uV ?_))|(refine rg 1 (dK rfl (vV (by exact eW rfl rfl f1 (.cons hvw (.cons (.v _) .nil)) rfl rfl) ?_));refine dK rfl (vV (by exact eW rfl rfl f2 (.cons hvw (.cons (.v _) .nil)) rfl rfl) ?_);refine uV ?_)|(refine rg 2 (dK rfl (vV (lA rfl rfl rfl) ?_)))|(refine rg 3 (mW rfl (uV ?_)))|refine nZ ?_));all_goals first | (exfalso;omega) | exact ⟨.inl rfl,[0],_,rfl,rfl,rfl,⟨.inr (aC rfl rfl (eG _)),trivial⟩,by decide,GF⟩
theorem zK5 {n : Nat} (l : List G) (a b : Int) (ok : nP n l) (ha : ∃ g,g ∈ l ∧ a ∈ g.1) (hb : ∃ g,g ∈ l ∧ b ∈ g.1) (hj : join l a b = none) : aU Tryz.prog 60 [.rowE (kB l) 2,.i a,.i b] [] (.tup [.nils,.i 6]) [] := by
  have hl12 : l.length ≤ 12 := bK ok.len ok.ln;have hgl : ∀ g,g ∈ l → g.1.length ≤ 1000000 := fun g hg => by have := (ok.ok g hg).ln;omega
  have f1 := zJ l a (by omega) hgl
  have f2 := zJ l b (by omega) hgl
  obtain ⟨i,x,e1,hx,hax⟩ := iN ha;obtain ⟨k,y,e2,hy,hby⟩ := iN hb;rw [e1] at f1;rw [e2] at f2;have hil := (aB.1 hx).1;have hkl := (aB.1 hy).1;have hll : (kB l).length = l.length := jH _;have qx : (kB l)[(i : Int).toNat]? = some (gA x) := by rw [bM,bL,hx];rfl
  have qy : (kB l)[(k : Int).toNat]? = some (gA y) := by rw [bM,bL,hy];rfl
  have ax : mA l (i : Int).toNat = x := by unfold mA;rw [bM,aD,hx];rfl
  have ay : mA l (k : Int).toNat = y := by unfold mA;rw [bM,aD,hy];rfl
  unfold join at hj;dsimp only at hj;rw [e1,e2,ax,ay] at hj;clear ha hb;have hik : i ≠ k := fun q => by subst q;rw [if_pos rfl] at hj;cases hj
  rw [if_neg (by omega)] at hj
  have hf : 6 < x.1.length + y.1.length ∨ 1000 < x.2.length * y.2.length := by
    by_cases hf : 6 < x.1.length + y.1.length ∨ 1000 < x.2.length * y.2.length
    · exact hf
    · rw [if_neg hf] at hj;cases hj
  clear hj;have xo := ok.ok x (aL hx);have yo := ok.ok y (aL hy);have xw := ok.ws x (aL hx);have yw := ok.ws y (aL hy);have xl := xo.ln;have yl := yo.ln;have xp := fJ.2 xo.ne;have yp := fJ.2 yo.ne;have sx := xo.sz xw;have sy := yo.sz yw;have l1 : (ints x.1).length = x.1.length := dA _;have l2 : (ints y.1).length = y.1.length := dA _;have l3 : (gB x.2).length = x.2.length := fH _;have l4 : (gB y.2).length = y.2.length := fH _;have hmx : x.2.length * y.2.length ≤ 2000 * 2000 := MG xw yw;have hml : ((x.2.length : Int) * y.2.length) = ((x.2.length * y.2.length : Nat) : Int) := by push_cast;rfl
  obtain ⟨bx,wx⟩ := x;obtain ⟨by_,wy⟩ := y;have hmI : (((gB wx).length : Nat) : Int) * ((gB wy).length : Nat) = ((wx.length * wy.length : Nat) : Int) := by rw [fH,fH];push_cast;rfl
  dsimp only at *;refine bX T Tryz.func60 rfl rfl rfl rfl ?_
  (repeat' (first|refine wS ?_|refine wK ?_|refine wU ?_|(refine rg 0 (uV ?_))|(refine rg 1 (dK rfl (vV (kC (f1)) (dK rfl (vV (kC (f2)) (uV ?_))))))|(refine rg 2 (dK rfl (vV (gR rfl rfl (by omega)) ?_)))|refine nZ ?_));refine zA4 [(0,.rowE (kB l) 2),(8,.i i),(9,.i k),(10,.ptr 0 0),(11,.ptr 1 0)] [.cells [.rowE (ints bx) 1,.rowE (gB wx) 3],.cells [.rowE (ints by_) 1,.rowE (gB wy) 3]] ?_ ?_
  · refine LX (id := 4) cW ?_;refine yB 0 rfl rfl (by decide +kernel) (by decide +kernel) (by decide +kernel) (by exact tY rfl) rfl ?_
    refine yB 1 rfl rfl (by decide +kernel) (by decide +kernel) (by decide +kernel) (by exact tY rfl) rfl ?_
    refine yB 2 rfl rfl (by decide +kernel) (by decide +kernel) (by decide +kernel) (by exact rW T rfl rfl rfl rfl rfl (by omega) (qY _) qx) rfl ?_
    refine yB 4 rfl rfl (by decide +kernel) (by decide +kernel) (by decide +kernel) (by exact tY rfl) rfl ?_
    refine yB 5 rfl rfl (by decide +kernel) (by decide +kernel) (by decide +kernel) (by exact tY rfl) rfl ?_
    refine yB 6 rfl rfl (by decide +kernel) (by decide +kernel) (by decide +kernel) (by exact rW T rfl rfl rfl rfl rfl (by omega) (qY _) qy) rfl ?_
    refine RF [(0,[]),(1,[]),(2,[0,1]),(3,[2]),(4,[]),(5,[]),(6,[4,5]),(7,[6]),(8,[]),(9,[]),(10,[8,3,0,1,2,3,8,9]),(11,[9,7,10,0,1,2,3,4,5,6,7,8,9,10])] (by decide +kernel) [true,true,true,false,true,true,true,false,false,false,false,false] rfl rfl ?_
    (repeat' (first|(refine zB6 rfl rfl ?_;(first|(refine lV T ?_)|(refine cH (cK T rfl) rfl ?_)|(refine bA T rfl rfl rfl rfl rfl rfl (by decide) rfl ?_));refine iF ?_;dsimp only [List.set_cons_zero,List.set_cons_succ])|(refine zB5 rfl rfl rfl ?_ ?_<;>((first|(refine lV T ?_)|(refine cH (cK T rfl) rfl ?_)|(refine bA T rfl rfl rfl rfl rfl rfl (by decide) rfl ?_));refine iF ?_;dsimp only [List.set_cons_zero,List.set_cons_succ]))|(refine zB4 rfl rfl rfl rfl ?_ ?_ ?_<;>((first|(refine lV T ?_)|(refine cH (cK T rfl) rfl ?_));refine iF ?_;dsimp only [List.set_cons_zero,List.set_cons_succ]))|(refine zB3 rfl rfl rfl rfl rfl ?_ ?_ ?_ ?_<;>((first|(refine lV T ?_)|(refine cH (cK T rfl) rfl ?_));refine iF ?_;dsimp only [List.set_cons_zero,List.set_cons_succ]))));all_goals first | exact C8 rfl ⟨rfl,[0,1],rfl,(by repeat first|exact trivial|refine ⟨rfl,?_⟩),⟨.inr rfl,.inr rfl,trivial⟩,by decide,kI _⟩ | exact C8 rfl ⟨rfl,[1,0],rfl,(by repeat first|exact trivial|refine ⟨rfl,?_⟩),⟨.inr rfl,.inr rfl,trivial⟩,by decide,kI _⟩
  intro v g hsub;refine OO hsub ?_
  (repeat' (first|refine wS ?_|refine wR ?_|refine wT ?_|(refine wC rfl ?_ ?_<;>(intro hb;(try simp only [nm] at hb);try (exfalso;omega)))|(refine rg 5 (iP T rfl (qW T rfl (iP T rfl (qW T rfl (vV (cJ rfl rfl (by omega) (by omega)) (vV (fB rfl rfl) (mV ?_)))))));refine bT rfl rfl ?_ ?_<;>(intro hb;rw [hb];(try simp only [nm] at hb);try (exfalso;omega));(all_goals first|(refine gT (fW T rfl (gT (lW T rfl (gT (qW T rfl (gT (fW T rfl (gT (lV T ?_)))))))));refine gT (qW T rfl (gT (vV (B8 rfl rfl (by omega) (by omega)) (gT (vV (fB rfl rfl) ?_))))))|(iterate 8 refine gF ?_));(all_goals (refine pV ?_)))|(refine rg 6 (uV ?_))|refine nZ ?_));all_goals first | (exfalso;omega) | exact rQ
theorem zK4 {n : Nat} (l : List G) (a b : Int) (ok : nP n l) (ha : ∃ g,g ∈ l ∧ a ∈ g.1) (hb : ∃ g,g ∈ l ∧ b ∈ g.1) {all : List G} (hj : join l a b = some all) (hne : oR l a ≠ oR l b) : aU Tryz.prog 60 [.rowE (kB l) 2,.i a,.i b] [] (.tup [.sl 0 0 all.length 2,.i 0]) [.arr (kB all) 2] := by
  have hl12 : l.length ≤ 12 := bK ok.len ok.ln;have hgl : ∀ g,g ∈ l → g.1.length ≤ 1000000 := fun g hg => by have := (ok.ok g hg).ln;omega
  have f1 := zJ l a (by omega) hgl
  have f2 := zJ l b (by omega) hgl
  obtain ⟨i,x,e1,hx,hax⟩ := iN ha;obtain ⟨k,y,e2,hy,hby⟩ := iN hb;rw [e1] at f1;rw [e2] at f2;have hil := (aB.1 hx).1;have hkl := (aB.1 hy).1;have hll : (kB l).length = l.length := jH _;have qx : (kB l)[(i : Int).toNat]? = some (gA x) := by rw [bM,bL,hx];rfl
  have qy : (kB l)[(k : Int).toNat]? = some (gA y) := by rw [bM,bL,hy];rfl
  have ax : mA l (i : Int).toNat = x := by unfold mA;rw [bM,aD,hx];rfl
  have ay : mA l (k : Int).toNat = y := by unfold mA;rw [bM,aD,hy];rfl
  unfold join at hj;dsimp only at hj;rw [e1,e2,ax,ay] at hj;clear ha hb;have hik : i ≠ k := fun q => by subst q;exact hne (e1.trans e2.symm)
  rw [if_neg (by omega)] at hj
  have hf : ¬ (6 < x.1.length + y.1.length ∨ 1000 < x.2.length * y.2.length) := fun hf => by rw [if_pos hf] at hj;cases hj
  rw [if_neg hf] at hj
  replace hj := (Option.some.inj hj).symm
  have xo := ok.ok x (aL hx);have yo := ok.ok y (aL hy);have xw := ok.ws x (aL hx);have yw := ok.ws y (aL hy);have xl := xo.ln;have yl := yo.ln;have xp := fJ.2 xo.ne;have yp := fJ.2 yo.ne;have sx := xo.sz xw;have sy := yo.sz yw;have l1 : (ints x.1).length = x.1.length := dA _;have l2 : (ints y.1).length = y.1.length := dA _;have l3 : (gB x.2).length = x.2.length := fH _;have l4 : (gB y.2).length = y.2.length := fH _;have hmx : x.2.length * y.2.length ≤ 2000 * 2000 := MG xw yw;have hml : ((x.2.length : Int) * y.2.length) = ((x.2.length * y.2.length : Nat) : Int) := by push_cast;rfl
  obtain ⟨bx,wx⟩ := x;obtain ⟨by_,wy⟩ := y;have hmI : (((gB wx).length : Nat) : Int) * ((gB wy).length : Nat) = ((wx.length * wy.length : Nat) : Int) := by rw [fH,fH];push_cast;rfl
  have hjG : mI (bx,wx) (by_,wy) = (dY cI (bx ++ by_),pG (bx,wx) (by_,wy) (dY cI (bx ++ by_))) := rfl;rw [hjG,← sS] at hj;have hbl : (iG (bx ++ by_)).length = bx.length + by_.length := by rw [wQ,aF]
  have hmm : ∀ q,q ∈ iG (bx ++ by_) → q ∈ bx ∨ q ∈ by_ := fun q hq => bF.1 ((Go.Pm.sorted_perm _).mem_iff.1 hq);have h1 := ZO bx by_ ⟨by dsimp only at *;omega,by dsimp only at *;omega⟩ ⟨by dsimp only at *;omega,by dsimp only at *;omega⟩
  have h2 := X0 (bx ++ by_);have h3 := IS (bx ++ by_) (by rw [aF];dsimp only at *;omega)
  have hPl := DR (bx,wx) (by_,wy) (iG (bx ++ by_));generalize iG (bx ++ by_) = bod at *;have h4 := zI2 (bx,wx) (by_,wy) bod;have hit := XF (bx,wx) (by_,wy) bod sx sy (by dsimp only at *;omega) hmm (fun w hw => ⟨(xo.ws w hw).m0,(xo.ws w hw).m1⟩) (fun w hw => ⟨(yo.ws w hw).m0,(yo.ws w hw).m1⟩)
  have hpg : ∀ (q : Nat) (w : W),(pG (bx,wx) (by_,wy) bod)[q]? = some w → AA (bx,wx) (by_,wy) bod q = [.agg (wA w)] := fun q w h => SO h
  generalize AA (bx,wx) (by_,wy) bod = IT at *;generalize pG (bx,wx) (by_,wy) bod = P at *;have hP : P.length ≤ 1000 := by rw [hPl,yK0];dsimp only at *;omega
  clear hPl hmm h2;have h2 := X0 (bx ++ by_);dsimp only at *;have hcl := K4 l (by omega)
  have hS : min (i : Int) (k : Int) = ((min i k : Nat) : Int) := by omega
  have hM : max (i : Int) (k : Int) = ((max i k : Nat) : Int) := by omega
  rw [hS,hM,bM,bM] at hj;have ts := I9 (L := l) (j := min (i : Int) (k : Int)) (i := min i k) (x := (bod,P)) hS;have qm := zH (L := l) (j := min (i : Int) (k : Int)) (i := min i k) (x := l[min i k]'(by omega)) (aA _) hS
  have hdl := zX4 (l.set (min i k) (bod,P)) (max i k) (max i k + 1) (by omega) (by rw [gY];omega) (by intro h;have := congrArg List.length h;rw [gY,List.length_nil] at this;omega)
  rw [J7,gY,show l.length - (max i k + 1 - max i k) = l.length - 1 by omega,show ((max i k + 1 : Nat) : Int) = max (i : Int) (k : Int) + 1 by omega,← hM] at hdl
  have hel : ((l.set (min i k) (bod,P)).eraseIdx (max i k)).length = l.length - 1 := by rw [fZ,gY,if_pos (by omega)]
  generalize l[min i k]'(by omega) = gm at *
  subst hj;rw [hel];refine bX T Tryz.func60 rfl rfl rfl rfl ?_
  (repeat' (first|refine wS ?_|refine wK ?_|refine wU ?_|(refine rg 0 (uV ?_))|(refine rg 1 (dK rfl (vV (kC (f1)) (dK rfl (vV (kC (f2)) (uV ?_))))))|(refine rg 2 (dK rfl (vV (gR rfl rfl (by omega)) ?_)))|refine nZ ?_));refine zA4 [(0,.rowE (kB l) 2),(8,.i i),(9,.i k),(10,.ptr 0 0),(11,.ptr 1 0)] [.cells [.rowE (ints bx) 1,.rowE (gB wx) 3],.cells [.rowE (ints by_) 1,.rowE (gB wy) 3]] ?_ ?_
  · refine LX (id := 4) cW ?_;refine yB 0 rfl rfl (by decide +kernel) (by decide +kernel) (by decide +kernel) (by exact tY rfl) rfl ?_
    refine yB 1 rfl rfl (by decide +kernel) (by decide +kernel) (by decide +kernel) (by exact tY rfl) rfl ?_
    refine yB 2 rfl rfl (by decide +kernel) (by decide +kernel) (by decide +kernel) (by exact rW T rfl rfl rfl rfl rfl (by omega) (qY _) qx) rfl ?_
    refine yB 4 rfl rfl (by decide +kernel) (by decide +kernel) (by decide +kernel) (by exact tY rfl) rfl ?_
    refine yB 5 rfl rfl (by decide +kernel) (by decide +kernel) (by decide +kernel) (by exact tY rfl) rfl ?_
    refine yB 6 rfl rfl (by decide +kernel) (by decide +kernel) (by decide +kernel) (by exact rW T rfl rfl rfl rfl rfl (by omega) (qY _) qy) rfl ?_
    refine RF [(0,[]),(1,[]),(2,[0,1]),(3,[2]),(4,[]),(5,[]),(6,[4,5]),(7,[6]),(8,[]),(9,[]),(10,[8,3,0,1,2,3,8,9]),(11,[9,7,10,0,1,2,3,4,5,6,7,8,9,10])] (by decide +kernel) [true,true,true,false,true,true,true,false,false,false,false,false] rfl rfl ?_
    (repeat' (first|(refine zB6 rfl rfl ?_;(first|(refine lV T ?_)|(refine cH (cK T rfl) rfl ?_)|(refine bA T rfl rfl rfl rfl rfl rfl (by decide) rfl ?_));refine iF ?_;dsimp only [List.set_cons_zero,List.set_cons_succ])|(refine zB5 rfl rfl rfl ?_ ?_<;>((first|(refine lV T ?_)|(refine cH (cK T rfl) rfl ?_)|(refine bA T rfl rfl rfl rfl rfl rfl (by decide) rfl ?_));refine iF ?_;dsimp only [List.set_cons_zero,List.set_cons_succ]))|(refine zB4 rfl rfl rfl rfl ?_ ?_ ?_<;>((first|(refine lV T ?_)|(refine cH (cK T rfl) rfl ?_));refine iF ?_;dsimp only [List.set_cons_zero,List.set_cons_succ]))|(refine zB3 rfl rfl rfl rfl rfl ?_ ?_ ?_ ?_<;>((first|(refine lV T ?_)|(refine cH (cK T rfl) rfl ?_));refine iF ?_;dsimp only [List.set_cons_zero,List.set_cons_succ]))));all_goals first | exact C8 rfl ⟨rfl,[0,1],rfl,(by repeat first|exact trivial|refine ⟨rfl,?_⟩),⟨.inr rfl,.inr rfl,trivial⟩,by decide,kI _⟩ | exact C8 rfl ⟨rfl,[1,0],rfl,(by repeat first|exact trivial|refine ⟨rfl,?_⟩),⟨.inr rfl,.inr rfl,trivial⟩,by decide,kI _⟩
  intro v g hsub;refine OO hsub ?_
  (repeat' (first|refine wS ?_|refine wB ?_|refine wK ?_|(refine wC rfl ?_ ?_<;>(intro hb;(try simp only [nm] at hb);try (exfalso;omega)))|(refine rg 5 (iP T rfl (qW T rfl (iP T rfl (qW T rfl (vV (cJ rfl rfl (by omega) (by omega)) (vV (fB rfl rfl) (mV ?_)))))));refine bT rfl rfl ?_ ?_<;>(intro hb;rw [hb];(try simp only [nm] at hb);try (exfalso;omega));(all_goals (refine yP T rfl (yO T rfl (gT (qW T rfl (yP T rfl (yO T rfl (gT (qW T rfl (yV (B8 rfl rfl (by omega) (by omega)) (yV (fB rfl rfl) ?_)))))))));refine pV ?_)))|(refine rg 7 (iP T rfl (iP T rfl (cH (by exact bD T rfl rfl (by decide) (by decide) rfl rfl rfl) rfl ?_)));refine mJ 55 rfl rfl rfl rfl ?_;refine vV (kC (h1)) (vV (kC (h2)) (vV (kC (h3)) (vV (by exact eR T rfl rfl rfl rfl) ?_)));refine cH (cK T rfl) rfl (bA T rfl rfl rfl rfl rfl rfl (by decide) rfl ?_))|(refine rg 8 (lW T rfl (lW T rfl (iP T rfl (vV (kC (h4)) ?_)))))|refine nZ ?_));all_goals try (exfalso;omega)
  refine nX 3 1 3 rfl rfl (by decide) ?_
  refine LU [] [3,4] [(0,.rowE (kB l) 2),(8,.i i),(9,.i k),(12,.ptr 0 0)] (fun m => [.cells [.rowE (ints bod) 1,.sl 1 0 m 3],.arr (gB (P.take m)) 3]) 1 rfl hit rfl rfl rfl trivial eP rfl (by repeat first|exact trivial|refine ⟨rfl,?_⟩) ⟨.inr rfl,.inr rfl,trivial⟩ (by decide) (kI _) (by simp) (bY _) (aG rfl) rfl (by decide) (fun m hm => by rw [hpg m P[m] (aA hm)];exact ⟨rfl,rfl⟩) ?_ ?_
  · intro m hm;rw [hpg m P[m] (aA hm)];have hks := aP hm;have hkl' : (gB (P.take m)).length = m := by rw [fH,bC];omega
    have hW : gB (P.take (m + 1)) = gB (P.take m) ++ [wA P[m]] := by rw [hks,gB,bO];rfl
    generalize P[m] = w at *;obtain ⟨wp,wm,wc⟩ := w;generalize gB (P.take m) = Q at *;refine eS (id := 9) ?_;refine cH (by exact cK T rfl) rfl ?_
    refine bA T rfl rfl rfl rfl rfl rfl (by decide) rfl ?_
    refine iF ?_;refine ⟨rfl,?_⟩
    repeat' (first|refine wB ?_|(refine rg 10 (iP T rfl (lW T rfl (cH (by exact bD T rfl rfl (by decide) (by decide) rfl rfl rfl) rfl ?_)));refine fR T rfl rfl rfl rfl rfl rfl (by omega) (iY.whole rfl rfl) rfl (by simp;omega) (by simp;omega) rfl ?_;refine fW T rfl (bA T rfl rfl rfl rfl rfl rfl (by decide) rfl ?_))|refine nZ ?_)
    show HY _ _ _ _ [.cells [.rowE (ints bod) 1,.sl 1 0 (m + 1) 3],.arr (gB (P.take (m + 1))) 3];rw [hW];exact ⟨[0,4],rfl,trivial,⟨.inr (by simp;rfl),.inr (aC rfl (by first | exact iO hkl'.symm | simp) (by rw [← hW];exact bV _)),trivial⟩,by decide,yF5⟩
  · rw [cM];refine nJ 0 1 rfl rfl rfl (fH _).symm (gE (bV _)) ?_;show AW _ _ _ _ _ _
    (repeat' (first|refine wS ?_|(refine rg 11 (mW rfl (cH (by exact fQ rfl rfl hcl (.inr ⟨rfl,rfl,by simp⟩)) rfl ?_));refine aV ?_)|refine nZ ?_));refine eU [(8,.i i),(9,.i k),(12,.ptr 0 0),(14,.sl 1 0 l.length 2)] [.cells [.rowE (ints bod) 1,.rowE (gB P) 3],.arr (kB l) 2] ⟨[0,2],rfl,(by repeat first|exact trivial|refine ⟨rfl,?_⟩),⟨.inr rfl,.inr (aC rfl (bE _ (eG _)) (eG _)),trivial⟩,by decide,kI _⟩ ?_
    (repeat' (first|refine wS ?_|(refine rg 12 (dK rfl (mW rfl (vV (NV rfl rfl) (lW T rfl (vV (by exact aO T rfl rfl rfl rfl rfl (by omega) (by omega)) ?_)))));refine bA T rfl rfl rfl rfl rfl rfl (by decide) (mK rfl qm rfl) ?_)|refine nZ ?_));refine eU [(8,.i i),(9,.i k),(14,.sl 0 0 l.length 2)] [.arr (kB (l.set (min i k) (bod,P))) 2] ⟨[1],rfl,(by repeat first|exact trivial|refine ⟨rfl,?_⟩),⟨.inr (aC rfl ts (eG _)),trivial⟩,by decide,kI _⟩ ?_
    (repeat' (first|refine wR ?_|(refine rg 13 (dK rfl (mW rfl (vV (F7 rfl rfl) (dK rfl (vV (F7 rfl rfl) (vV (cJ rfl rfl (by omega) (by omega)) (eA [0] rfl rfl (hdl) rfl rfl (by decide) ⟨.inr (aC rfl rfl (eG _)),trivial⟩ (by simp) rfl ?_)))))));refine uV ?_)|refine nZ ?_));all_goals exact ⟨.inl rfl,[0],_,rfl,rfl,rfl,⟨.inr (aC rfl (bE _ (eG _)) (eG _)),trivial⟩,by decide,kI _⟩
end Go.Proofs.YtmmmeebiobjnbaaGreat
namespace Go.Ld
open Go.Ab Go.Proofs.YtmmmeebiobjnbaaGreat
structure iU (c : Cx) : Prop where
  f : zZ6 c.ks c.ls (nats (List.range c.bs.length)) c.bs
  s : nO c.m c.st c.er c.sl
theorem iU.unit {c : Cx} (h : iU c) (lot : Int) : 0 ≤ qP c.ks c.ls lot := by
  unfold qP;split
  · exact eH _
  · rw [aD];cases hq : c.ks[(c.ls.getD lot.toNat (0,0,false)).1.toNat]? with
    | none => exact eH _
    | some x =>
      obtain ⟨h1,h2⟩ := aB.1 hq;have := (h.f.k _ h1).1;rw [h2] at this;exact this
end Go.Ld
namespace Go.Proofs.YtmmmeebiobjnbaaGreat
open Go Go.Ab Go.Ld
attribute [local irreducible] VC AW cE aU iV
set_option maxHeartbeats 4000000
theorem RN (t u w e : Int) (hu : 0 ≤ u) : aU Tryz.prog 87 [.i t,.i u,.i w,.i e] [] (.tup [mT (VE t u w e).1.1 (VE t u w e).1.2,.b (VE t u w e).2]) [] := by
  unfold VE;by_cases h : GS t u w e
  · rw [if_pos (show EO t u w e = true from decide_eq_true h)]
    by_cases h1 : w + e - t < 0 ∨ u = 0 ∧ 0 < w - e - t
    · rw [if_pos h1];exact IB t u w e h h1
    · rw [if_neg h1];by_cases h2 : u = 0
      · rw [if_pos h2];exact IC t u w e h (by omega) h2 (by omega)
      · rw [if_neg h2];exact MS t u w e h (by omega) (by omega)
  · have h' : ¬ EO t u w e = true := fun q => h (by simpa [EO,GS] using q)
    rw [if_neg h'];exact MR t u w e h
theorem zK7 (r q : SP) : aU Tryz.prog 88 [mT r.1 r.2,mT q.1 q.2] [] (.tup [mT (K1 (max r.1 q.1) (min r.2 q.2)).1.1 (K1 (max r.1 q.1) (min r.2 q.2)).1.2,.b (K1 (max r.1 q.1) (min r.2 q.2)).2]) [] := zK8 r.1 r.2 q.1 q.2
theorem XA (r : SP) (n s : Int) (hf : 0 ≤ r.1 ∧ r.1 ≤ 20001 ∧ 0 ≤ r.2 ∧ r.2 ≤ 20001) : aU Tryz.prog 89 [mT r.1 r.2,.i n,.i s] [] (.tup [mT (zC r n s).1.1 (zC r n s).1.2,.b (zC r n s).2]) [] := by
  unfold zC;by_cases h : 0 ≤ n ∧ n ≤ 1099511627776 ∧ 0 ≤ s ∧ s ≤ 1099511627776
  · rw [if_pos h];exact SQ r.1 r.2 n s hf h
  · rw [if_neg h];exact NG r.1 r.2 n s h
abbrev yC7 (s : Ev) : AV := WC s.k s.a s.b s.n s.ids
theorem ZY (c : Cx) (gs : List G) {n q : Nat} (w : W) {i : Nat} (s : Ev) (hc : iU c) (hw : FC n q w) (hn : n = c.bs.length) (hi : i < q) (hq : q ≤ 1000) (hids : s.ids.length ≤ 9223372036854775807) (hsn : 0 ≤ s.n ∧ s.n ≤ 1099511627776) :
    aU Tryz.prog 62 [.pr (jP c gs) 0,MM w,.i i,yC7 s] [] (.tup [.agg [.sl 0 0 w.1.length 1,.i (jX c w i s).1.2.1,.sl 1 0 w.2.2.length 2],.b (jX c w i s).2]) [.arr (ints w.1) 1,.arr (fL (jX c w i s).1.2.2) 2] := by
  have hpl := hw.pl;have hcl := hw.cl;have hcw := GZ w ⟨by omega,by omega⟩
  obtain ⟨g1,g2,g3,g4,g5⟩ := hw.at hi;have hm0 := hw.m0;have hm1 := hw.m1;have hids' : (ints s.ids).length = s.ids.length := dA _;obtain ⟨st1,st2,st3,st4,st5,st6,st7,st8⟩ := hc.s;have hbo : (jX c w i s).1.2.2 = (jX c w i s).1.2.2 := rfl;unfold jX gP gC at *;obtain ⟨p,m,cs⟩ := w;obtain ⟨sk,sa,sb,sn,ids⟩ := s;dsimp only at *;have hlp : (ints p).length = p.length := dA _;have hlc : (fL cs).length = cs.length := hO _;have qp := U9 (l := p) (j := (i : Int)) (i := i) 0 (by omega) rfl
  have qc := H5 (l := cs) (j := (i : Int)) (i := i) (by omega) rfl
  have ct : ∀ r : SP,_ := fun r => Y3 (l := cs) (j := (i : Int)) (i := i) (r := r) rfl;have ctn : ∀ x y : Int,(fL cs).set (0 + (i : Int).toNat) [AV.i x,AV.i y] = fL (cs.set i (x,y)) := fun x y => ct (x,y);clear ct hbo;generalize hx : p.getD i 0 = x at *;generalize hr : cs.getD i (0,0) = r at *;obtain ⟨r1,r2⟩ := r;dsimp only at *;have hbx : c.bs[x.toNat]? = some (c.bs.getD x.toNat (0,0,0)) := by
    rw [aD,aA (by omega)];rfl
  refine bX T Tryz.func62 rfl rfl rfl rfl ?_
  (repeat' (first|refine wS ?_|refine wB ?_|(refine rg 0 (cH (cY rfl rfl) rfl (cH (cY rfl rfl) rfl (cH (cK T rfl) rfl (aV ?_)))))|(refine rg 1 (lW T rfl (cH (by exact fQ rfl rfl hcw (.inr ⟨rfl,rfl,by simp⟩)) rfl ?_));refine bA T rfl rfl rfl rfl rfl rfl (by decide) rfl ?_)|(refine rg 2 (aV ?_))|(refine rg 3 (KX T ?_))|refine nZ ?_));refine eU [(0, .pr (jP c gs) 0), (2, .i i), (5, .ptr 0 0), (7, .ptr 1 0), (8, .ptr 2 0), (10, .b true), (18, .i sk)] [.cells [.sl 3 0 p.length 1, .i m, .sl 4 0 cs.length 2], .cells [.i sk, .i sa, .i sb, .i sn, .rowE (ints ids) 1], .cells [.nils, .i 0, .nils], .arr (ints p) 1, .arr (fL cs) 2]
    ⟨[0,1,2,3,4],rfl,(by repeat first|exact trivial|refine ⟨rfl,?_⟩),⟨.inr rfl,.inr rfl,.inr rfl,.inr (aC rfl (bE _ (bN _)) (bN _)),.inr (aC rfl (bE _ (fD _)) (fD _)),trivial⟩,by decide,kI _⟩ ?_
  by_cases k0 : sk = 0
  · rw [if_pos k0];have hct := G0 ids x hids;by_cases hin : x ∈ ids
    · rw [if_pos hin];rw [decide_eq_true hin] at hct;dsimp only
      (repeat' (first|refine wS ?_|refine wR ?_|refine wT ?_|(refine rg 4 (vV (lA rfl rfl (by omega)) (aV ?_)))|(refine rg 5 (fW T rfl (vV (aN T rfl rfl rfl rfl) (qW T rfl (aV ?_)))))|(refine tH (id := 6) 7 153 [[],[0],[],[2],[],[2,3,4],rM 2 4,rN 7] [[],[0],[],[2],[],[2,3,4],rM 2 4] (rM 24 7) yN5 cW rfl (by decide +kernel) (by decide +kernel) ?_;(dsimp only [List.take,List.drop]);refine dP T rfl (dO T rfl (dP T rfl (dO T rfl (dN rfl (dV rfl (by exact aO T rfl rfl rfl rfl rfl (by omega) (by omega)) ?_)))));refine dV rfl (by exact aN T rfl rfl (bP rfl qp) rfl) ?_;refine dE ?_;refine iF ?_;refine vV (kC (hct)) ?_)|(refine rg 7 (mW rfl (vV (cX rfl rfl (by omega) (by omega)) (aV ?_))))|(refine rg 9 (dK rfl (nV ?_));refine fW T rfl (fW T rfl (vV (aN T rfl rfl rfl rfl) (vV (iC rfl rfl) (aV ?_)))))|(refine rg 23 (vV (aN T rfl rfl rfl rfl) (mW rfl (bA T rfl rfl rfl rfl rfl rfl (by decide) rfl (aV ?_)))))|refine nZ ?_));all_goals first | (exfalso;omega) | exact ⟨.inl rfl,[3,4],_,rfl,by rw [← hids'];rfl,rfl,⟨.inr (aC rfl rfl (bN _)),.inr (aC rfl rfl (fD _)),trivial⟩,by decide,kI _⟩
    · rw [if_neg hin];rw [decide_eq_false hin] at hct;dsimp only
      (repeat' (first|refine wS ?_|refine wR ?_|refine wT ?_|refine wU ?_|(refine rg 4 (vV (lA rfl rfl (by omega)) (aV ?_)))|(refine rg 5 (fW T rfl (vV (aN T rfl rfl rfl rfl) (qW T rfl (aV ?_)))))|(refine tH (id := 6) 7 153 [[],[0],[],[2],[],[2,3,4],rM 2 4,rN 7] [[],[0],[],[2],[],[2,3,4],rM 2 4] (rM 24 7) yN5 cW rfl (by decide +kernel) (by decide +kernel) ?_;(dsimp only [List.take,List.drop]);refine dP T rfl (dO T rfl (dP T rfl (dO T rfl (dN rfl (dV rfl (by exact aO T rfl rfl rfl rfl rfl (by omega) (by omega)) ?_)))));refine dV rfl (by exact aN T rfl rfl (bP rfl qp) rfl) ?_;refine dE ?_;refine iF ?_;refine vV (kC (hct)) ?_)|(refine rg 8 (fW T rfl (vV (aN T rfl rfl rfl rfl) (vV (cJ rfl rfl (by omega) (by omega)) (fW T rfl (bA T rfl rfl rfl rfl rfl rfl (by decide) rfl ?_))))))|(refine rg 9 (dK rfl (nV ?_));refine fW T rfl (fW T rfl (vV (aN T rfl rfl rfl rfl) (vV (iC rfl rfl) (aV ?_)))))|(refine rg 23 (vV (aN T rfl rfl rfl rfl) (mW rfl (bA T rfl rfl rfl rfl rfl rfl (by decide) rfl (aV ?_)))))|refine nZ ?_));all_goals first | (exfalso;omega) | exact ⟨.inl rfl,[3,4],_,rfl,by rw [← hids'];rfl,rfl,⟨.inr (aC rfl rfl (bN _)),.inr (aC rfl rfl (fD _)),trivial⟩,by decide,kI _⟩
  by_cases k1 : sk = 1
  · rw [if_neg k0,if_pos k1];have hbl := hc.f.b x.toNat (by omega)
    have hgx : c.bs[x.toNat]'(by omega) = c.bs.getD x.toNat (0,0,0) := by rw [aD,aA (by omega)];rfl
    rw [hgx] at hbl;have hbxl : (fP c.bs).length = c.bs.length := aY _;have qb : (fP c.bs)[x.toNat]? = some [.i (c.bs.getD x.toNat (0,0,0)).1,.i (c.bs.getD x.toNat (0,0,0)).2.1,.i (c.bs.getD x.toNat (0,0,0)).2.2] := by rw [bL,hbx];rfl
    generalize c.bs.getD x.toNat (0,0,0) = bx at *;obtain ⟨lot,cnt,ta⟩ := bx;dsimp only at *;have hun := zS7 hc.f (lot := lot) (by omega)
    have hu0 := hc.unit lot;generalize qP c.ks c.ls lot = u at *;have hwg := RN ta u sn c.er hu0;unfold uL sC;dsimp only;generalize VE ta u sn c.er = z at *;obtain ⟨⟨z1,z2⟩,zb⟩ := z;dsimp only at *;cases zb with
    | true =>
      rw [if_pos rfl];have hin := zK7 (r1,r2) (z1,z2);dsimp only at *;generalize K1 (max r1 z1) (min r2 z2) = y at *;obtain ⟨⟨y1,y2⟩,yb⟩ := y;dsimp only at *
      (repeat' (first|refine wS ?_|refine wR ?_|refine wT ?_|refine wU ?_|(refine rg 4 (vV (gR rfl rfl (by omega)) (aV ?_)))|(refine rg 10 (vV (lA rfl rfl (by omega)) (aV ?_)))|(refine cO (id := 11) 153 yN6 [47,48,49,50,51,52,53,54,55,56,57,12] yN7 cW rfl (by decide +kernel) (dN rfl (dV rfl (by exact cF rfl rfl) ?_));refine dP T rfl (dO T rfl (dP T rfl (dO T rfl (dN rfl (dV rfl (by exact aO T rfl rfl rfl rfl rfl (by omega) (by omega)) ?_)))));refine dV rfl (by exact aN T rfl rfl (bP rfl qp) rfl) ?_;refine dV rfl (ix T rfl (by omega) (rB _) qb) (dO T rfl (F9 rfl rfl rfl (by exact cK T rfl) rfl ?_));refine dE ?_;refine bA T rfl rfl rfl rfl rfl rfl (by decide) rfl ?_)|(refine K7 (id := 12) 23 25 153 (by (dsimp only [G4];done)) (by decide +kernel) yN8 [59,60,61,62,63,64,65,66,67,68,69,70,71,72,73,74,75,76,77,78,79,58,80,81,13] yN9 cW rfl (by decide +kernel) (dP T rfl (dO T rfl (dN rfl (dV rfl (by exact cF rfl rfl) ?_))));refine dP T rfl (dO T rfl (dN rfl (dV rfl (by exact cF rfl rfl) ?_)));refine dP T rfl (dO T rfl (dP T rfl (dO T rfl (dV rfl (kC (hun)) (dP T rfl (dO T rfl (dN rfl (dV rfl (by exact cF rfl rfl) ?_))))))));refine dP T rfl (dP T rfl (dO T rfl (dV rfl (kC (hwg)) (dN rfl (dV rfl (by exact jQ rfl rfl) ?_)))));refine dV rfl (by exact jQ rfl rfl) ?_;refine F9 rfl rfl rfl (by exact cK T rfl) rfl ?_;refine dE ?_;refine bA T rfl rfl rfl rfl rfl rfl (by decide) rfl (aV ?_))|(refine rg 13 (mV ?_))|(refine K7 (id := 14) 9 10 153 (by (dsimp only [G4];done)) (by decide +kernel) [[],[0],[],[0,1,2],rN 4,[],rN 6,rN 7,rN 8,rN 8] [84,85,86,87,88,89,90,83,91,92] [[],[],[84,85],[],[],rM 84 5,[],[],[],[91]] cW rfl (by decide +kernel) (dP T rfl (dO T rfl (dN rfl (dV rfl (by exact aO T rfl rfl rfl rfl rfl (by omega) (by omega)) ?_))));refine dV rfl (by exact aN T rfl rfl (bP rfl qc) rfl) ?_;refine dO T rfl (dV rfl (kC (hin)) (dN rfl (dV rfl (by exact jQ rfl rfl) ?_)));refine dV rfl (by exact jQ rfl rfl) ?_;refine dE ?_;refine bA T rfl rfl rfl rfl rfl rfl (by decide) rfl (aV ?_))|(refine rg 15 (fW T rfl (vV (aN T rfl rfl rfl rfl) (mW rfl (vV (aN T rfl rfl rfl rfl) (mW rfl (vV (by exact aO T rfl rfl rfl rfl rfl (by omega) (by omega)) ?_))))));refine bA T rfl rfl rfl rfl rfl rfl (by decide) (mK rfl qc rfl) (aV ?_))|(refine rg 23 (vV (aN T rfl rfl rfl rfl) (mW rfl (bA T rfl rfl rfl rfl rfl rfl (by decide) rfl (aV ?_)))))|refine nZ ?_));all_goals first | (exfalso;omega) | exact ⟨.inl rfl,[3,4],_,rfl,rfl,rfl,⟨.inr (aC rfl rfl (bN _)),.inr (aC rfl (ctn y1 y2) (fD _)),trivial⟩,by decide,kI _⟩
    | false =>
      rw [if_neg (by simp)]
      (repeat' (first|refine wS ?_|refine wK ?_|refine wR ?_|refine wT ?_|refine wU ?_|(refine rg 4 (vV (gR rfl rfl (by omega)) (aV ?_)))|(refine rg 10 (vV (lA rfl rfl (by omega)) (aV ?_)))|(refine cO (id := 11) 153 yN6 [47,48,49,50,51,52,53,54,55,56,57,12] yN7 cW rfl (by decide +kernel) (dN rfl (dV rfl (by exact cF rfl rfl) ?_));refine dP T rfl (dO T rfl (dP T rfl (dO T rfl (dN rfl (dV rfl (by exact aO T rfl rfl rfl rfl rfl (by omega) (by omega)) ?_)))));refine dV rfl (by exact aN T rfl rfl (bP rfl qp) rfl) ?_;refine dV rfl (ix T rfl (by omega) (rB _) qb) (dO T rfl (F9 rfl rfl rfl (by exact cK T rfl) rfl ?_));refine dE ?_;refine bA T rfl rfl rfl rfl rfl rfl (by decide) rfl ?_)|(refine K7 (id := 12) 23 25 153 (by (dsimp only [G4];done)) (by decide +kernel) yN8 [59,60,61,62,63,64,65,66,67,68,69,70,71,72,73,74,75,76,77,78,79,58,80,81,13] yN9 cW rfl (by decide +kernel) (dP T rfl (dO T rfl (dN rfl (dV rfl (by exact cF rfl rfl) ?_))));refine dP T rfl (dO T rfl (dN rfl (dV rfl (by exact cF rfl rfl) ?_)));refine dP T rfl (dO T rfl (dP T rfl (dO T rfl (dV rfl (kC (hun)) (dP T rfl (dO T rfl (dN rfl (dV rfl (by exact cF rfl rfl) ?_))))))));refine dP T rfl (dP T rfl (dO T rfl (dV rfl (kC (hwg)) (dN rfl (dV rfl (by exact jQ rfl rfl) ?_)))));refine dV rfl (by exact jQ rfl rfl) ?_;refine F9 rfl rfl rfl (by exact cK T rfl) rfl ?_;refine dE ?_;refine bA T rfl rfl rfl rfl rfl rfl (by decide) rfl (aV ?_))|(refine rg 13 (mV ?_))|(refine rg 15 (fW T rfl (vV (aN T rfl rfl rfl rfl) (mW rfl (vV (aN T rfl rfl rfl rfl) (mW rfl (vV (by exact aO T rfl rfl rfl rfl rfl (by omega) (by omega)) ?_))))));refine bA T rfl rfl rfl rfl rfl rfl (by decide) (mK rfl qc rfl) (aV ?_))|(refine rg 23 (vV (aN T rfl rfl rfl rfl) (mW rfl (bA T rfl rfl rfl rfl rfl rfl (by decide) rfl (aV ?_)))))|refine nZ ?_));all_goals first | (exfalso;omega) | exact ⟨.inl rfl,[3,4],_,rfl,rfl,rfl,⟨.inr (aC rfl rfl (bN _)),.inr (aC rfl (ctn z1 z2) (fD _)),trivial⟩,by decide,kI _⟩
  by_cases k2 : sk = 2
  · have hpk := XA (r1,r2) sn c.sl ⟨by omega,by omega,by omega,by omega⟩
    rw [if_neg k0,if_neg k1,if_pos k2];unfold sC;dsimp only at *;generalize zC (r1,r2) sn c.sl = z at *;obtain ⟨⟨z1,z2⟩,zb⟩ := z;dsimp only at *
    (repeat' (first|refine wS ?_|refine wR ?_|refine wT ?_|refine wU ?_|(refine rg 4 (vV (gR rfl rfl (by omega)) (aV ?_)))|(refine rg 10 (vV (gR rfl rfl (by omega)) (aV ?_)))|(refine rg 16 (vV (lA rfl rfl (by omega)) (aV ?_)))|(refine K7 (id := 17) 18 20 153 (by (dsimp only [G4];done)) (by decide +kernel) [[],[0],[],[],[3],[],[3,4,5],rM 3 4,[],[8],[],[10],[10,11],[10,11,12],rM 10 4,rM 3 12,rM 3 13,rM 3 14,rM 3 14,rN 18] [102,103,104,105,106,107,108,109,110,111,112,113,114,115,116,117,101,118,119,120] [[],[],[102,103],[102,103,104],[102,103,104],rM 102 5,[102,103,104],[102,103,104],rM 102 8,rM 102 8,rM 102 10,rM 102 10,rM 102 10,rM 102 10,rM 102 10,[102,103,104],[102,103,104],[102,103,104],[102,103,104,118],[119]] cW rfl (by decide +kernel) (dP T rfl (dO T rfl (dN rfl (dP T rfl (dO T rfl (dN rfl (dV rfl (by exact aO T rfl rfl rfl rfl rfl (by omega) (by omega)) ?_)))))));refine dV rfl (by exact aN T rfl rfl (bP rfl qc) rfl) ?_;refine dP T rfl (dO T rfl (dN rfl (dV rfl (by exact cF rfl rfl) ?_)));refine dP T rfl (dP T rfl (dO T rfl (dV rfl (kC (hpk)) (dN rfl (dV rfl (by exact jQ rfl rfl) ?_)))));refine dV rfl (by exact jQ rfl rfl) ?_;refine dV rfl (by exact aO T rfl rfl rfl rfl rfl (by omega) (by omega)) ?_;refine dE ?_;refine bA T rfl rfl rfl rfl rfl rfl (by decide) (mK rfl qc rfl) (aV ?_))|(refine rg 23 (vV (aN T rfl rfl rfl rfl) (mW rfl (bA T rfl rfl rfl rfl rfl rfl (by decide) rfl (aV ?_)))))|refine nZ ?_));all_goals first | (exfalso;omega) | exact ⟨.inl rfl,[3,4],_,rfl,rfl,rfl,⟨.inr (aC rfl rfl (bN _)),.inr (aC rfl (ctn z1 z2) (fD _)),trivial⟩,by decide,kI _⟩
  by_cases k3 : sk = 3
  · rw [if_neg k0,if_neg k1,if_neg k2,if_pos k3];have hhs := zH1 r1 r2 sn;unfold sC;dsimp only;generalize vQ r1 r2 sn = hb' at *
    (repeat' (first|refine wS ?_|refine wR ?_|refine wT ?_|refine wU ?_|(refine rg 4 (vV (gR rfl rfl (by omega)) (aV ?_)))|(refine rg 10 (vV (gR rfl rfl (by omega)) (aV ?_)))|(refine rg 16 (vV (gR rfl rfl (by omega)) (aV ?_)))|(refine rg 18 (vV (lA rfl rfl (by omega)) (aV ?_)))|(refine cO (id := 19) 153 [[],[0],[],[0,1,2],rN 4,[],[5],rN 7] (rM 123 8) [[],[],[123,124],[],[],rM 123 5,rM 123 5,[]] cW rfl (by decide +kernel) (dP T rfl (dO T rfl (dN rfl (dV rfl (by exact aO T rfl rfl rfl rfl rfl (by omega) (by omega)) ?_))));refine dV rfl (by exact aN T rfl rfl (bP rfl qc) rfl) ?_;refine dP T rfl (dO T rfl (dV rfl (kC (hhs)) (dE ?_)));refine aV ?_)|(refine rg 20 (fW T rfl (vV (aN T rfl rfl rfl rfl) (mW rfl (fW T rfl (vV (aN T rfl rfl rfl rfl) (fW T rfl (vV (aN T rfl rfl rfl rfl) (vV (cJ rfl rfl (by omega) (by omega)) (vV (by exact eR T rfl rfl rfl rfl) ?_)))))))));refine vV (by exact aO T rfl rfl rfl rfl rfl (by omega) (by omega)) ?_;refine bA T rfl rfl rfl rfl rfl rfl (by decide) (mK rfl qc rfl) ?_)|(refine rg 23 (vV (aN T rfl rfl rfl rfl) (mW rfl (bA T rfl rfl rfl rfl rfl rfl (by decide) rfl (aV ?_)))))|refine nZ ?_));all_goals first | (exfalso;omega) | exact ⟨.inl rfl,[3,4],_,rfl,rfl,rfl,⟨.inr (aC rfl rfl (bN _)),.inr (aC rfl (ctn sn (sn + 1)) (fD _)),trivial⟩,by decide,kI _⟩
  by_cases k5 : sk = 5
  · rw [if_neg k0,if_neg k1,if_neg k2,if_neg k3,if_pos k5];dsimp only
    (repeat' (first|refine wS ?_|refine wR ?_|refine wT ?_|refine wU ?_|(refine rg 4 (vV (gR rfl rfl (by omega)) (aV ?_)))|(refine rg 10 (vV (gR rfl rfl (by omega)) (aV ?_)))|(refine rg 16 (vV (gR rfl rfl (by omega)) (aV ?_)))|(refine rg 18 (vV (gR rfl rfl (by omega)) (aV ?_)))|(refine rg 21 (vV (lA rfl rfl (by omega)) (aV ?_)))|(refine cO (id := 22) 153 [[],[0],[],[0,1,2],rN 4,[],[5],rN 7] (rM 143 8) [[],[],[143,144],[],[],rM 143 5,rM 143 5,[]] cW rfl (by decide +kernel) (dP T rfl (dO T rfl (dN rfl (dV rfl (by exact aO T rfl rfl rfl rfl rfl (by omega) (by omega)) ?_))));refine dV rfl (by exact aN T rfl rfl (bP rfl qp) rfl) ?_;refine dP T rfl (dO T rfl (dV rfl (eX rfl rfl) (dE ?_)));refine aV ?_)|(refine rg 23 (vV (aN T rfl rfl rfl rfl) (mW rfl (bA T rfl rfl rfl rfl rfl rfl (by decide) rfl (aV ?_)))))|refine nZ ?_));all_goals first | (exfalso;omega) | exact ⟨.inl rfl,[3,4],_,rfl,rfl,rfl,⟨.inr (aC rfl rfl (bN _)),.inr (aC rfl rfl (fD _)),trivial⟩,by decide,kI _⟩
  · rw [if_neg k0,if_neg k1,if_neg k2,if_neg k3,if_neg k5]
    (repeat' (first|refine wS ?_|refine wK ?_|refine wR ?_|refine wU ?_|(refine rg 4 (vV (gR rfl rfl (by omega)) (aV ?_)))|(refine rg 10 (vV (gR rfl rfl (by omega)) (aV ?_)))|(refine rg 16 (vV (gR rfl rfl (by omega)) (aV ?_)))|(refine rg 18 (vV (gR rfl rfl (by omega)) (aV ?_)))|(refine rg 21 (vV (gR rfl rfl (by omega)) (aV ?_)))|(refine rg 23 (lW T rfl (mW rfl (bA T rfl rfl rfl rfl rfl rfl (by decide) rfl (aV ?_)))))|refine nZ ?_));all_goals first | (exfalso;omega) | exact ⟨.inl rfl,[3,4],_,rfl,rfl,rfl,⟨.inr (aC rfl rfl (bN _)),.inr (aC rfl rfl (fD _)),trivial⟩,by decide,kI _⟩
end Go.Proofs.YtmmmeebiobjnbaaGreat
namespace Go.Ld
open Go.Ab Go.Proofs.YtmmmeebiobjnbaaGreat
theorem HE (c : Cx) (w : W) (i : Nat) (s : Ev) : (jX c w i s).1.1 = w.1 ∧ (jX c w i s).1.2.2.length = w.2.2.length := by
  unfold jX sC;dsimp only
  repeat' split
  all_goals exact ⟨rfl,by first | rfl | exact gY⟩
end Go.Ld
namespace Go.Proofs.YtmmmeebiobjnbaaGreat
open Go Go.Ab Go.Ld
end Go.Proofs.YtmmmeebiobjnbaaGreat
namespace Go.Ld
open Go.Ab Go.Proofs.YtmmmeebiobjnbaaGreat
theorem yC4 : ∀ i : Nat,i < 3 → ([0,1,2] : List Nat)[i]? = some i := by decide
theorem YQ {r : Int} {L : List AV} (h : AV.idfL L = true) : AV.idfL [AV.pr [.i r] 0,.pr [.pr L 0] 0] = true := by simp [AV.idfL,AV.idf,h]
theorem sQ {h : Hp} {i : Nat} {θ : Nat → Nat} {cs : List AV} (hk : h[i]? = some (.cells cs)) (hi : AV.idfL cs = true) : h[i]? = some ((AB.cells cs).map θ) := by
  rw [hk];show _ = some (AB.cells (AV.mapL θ cs));rw [rO θ cs hi]
theorem FI {h : Hp} (x : W) : nN h (.agg (wA x)) (.agg (wA x)) := .agg (.cons (.row _ _ _) (.cons (.v _) (.cons (.row _ _ _) .nil)))
end Go.Ld
namespace Go.Proofs.YtmmmeebiobjnbaaGreat
open Go Go.Ab Go.Ld
attribute [local irreducible] VC AW cE aU
set_option maxHeartbeats 4000000
theorem UH {F : FuncId} {r : Int} {L : List AV} {q : W → Bool} (l : List W) (hl : l.length ≤ 1000000) (hL : AV.idfL L = true) (hp : AV.plnL L = true) (hF : ∀ x,x ∈ l → aU Tryz.prog F [.agg (wA x),.pr [.i r] 0,.pr [.pr L 0] 0] [] (.b (q x)) []) :
    aU Tryz.prog 100 [.sl 0 0 l.length 3,.clo (.func F) [] [.pr [.i r] 0,.ptr 1 0]] [.arr (gB l) 3,.cells [.ptr 2 0],.cells L] (.sl 0 0 (gG q l).length 3) [.arr (gB (gG q l)) 3,.cells [.ptr 2 0],.cells L] := by
  have hll : (gB l).length = l.length := fH l;have hi : AV.idfL [AV.pr [.i r] 0,.pr [.pr L 0] 0] = true := YQ hL;have hix := YH hl hi hF;have hvc : ∀ {X : AB} {Y : Hp},mC (X :: .cells [.ptr 2 0] :: .cells L :: Y) [AV.pr [.i r] 0,.ptr 1 0] [.pr [.i r] 0,.pr [.pr L 0] 0] := fun {X Y} => .cons (.pr _ _) (.cons (.ptr rfl (.cons (.ptr rfl (kW _ hp)) .nil)) .nil);have hvw : nN [.arr (gB l) 3,.cells [.ptr 2 0],.cells L] (.sl 0 0 l.length 3) (.rowE (gB l) 3) := nU rfl hll.symm (qD (fun _ => rfl) _);refine bX T Tryz.func100 rfl rfl rfl rfl ?_;rcases B7 q l 0 with ⟨h1,h2⟩ | ⟨j,hj,h1,h2,h3⟩
  · rw [h1] at hix;have hk : gG q l = l := oK.2 fun x hx => by rw [h2 x hx];rfl
    rw [hk]
    (repeat' (first|refine wS ?_|refine wR ?_|refine wT ?_|(refine rg 0 (aV ?_))|(refine rg 1 (dK rfl (vV (by exact eW rfl rfl hix (.cons hvw (.cons (.clo .nil hvc) .nil)) rfl rfl) ?_));refine aV ?_)|(refine rg 2 (mW rfl (vV (eX rfl rfl) ?_)))|(refine rg 3 (mW rfl (aV ?_)))|refine nZ ?_));all_goals first | (exfalso;omega) | exact ⟨.inl rfl,[0,1,2],_,rfl,rfl,rfl,⟨.inr (aC rfl rfl (bV _)),.inr rfl,.inr (sQ rfl hL),trivial⟩,by decide,yC4⟩
  · rw [h1,Nat.zero_add] at hix;have hk0 : gG q (l.take (j + 1)) = l.take j := by
      rw [xB hj,if_pos h2];exact oK.2 fun x hx => by rw [h3 x hx];rfl
    have hkl : (gG q (l.take (j + 1))).length = j := by rw [hk0];simp;omega
    have hka : gG q (l.take (j + 1)) ++ l.drop (gG q (l.take (j + 1))).length = l := by rw [hkl,hk0,bQ]
    have hkf : gG q l = gG q (l.take l.length) := by rw [cM]
    rw [hkf]
    (repeat' (first|refine wS ?_|refine wB ?_|refine wK ?_|refine wU ?_|(refine rg 0 (aV ?_))|(refine rg 1 (dK rfl (vV (by exact eW rfl rfl hix (.cons hvw (.cons (.clo .nil hvc) .nil)) rfl rfl) ?_));refine aV ?_)|(refine rg 2 (mW rfl (vV (eX rfl rfl) ?_)))|(refine iA 4 rfl rfl rfl (by omega) (by omega) ?_)|refine nZ ?_));all_goals try (exfalso;omega)
    refine dC (X := {m : Nat // m ≤ l.length}) (fun m => [(0,.sl 0 0 l.length 3),(1,.clo (.func F) [] [.pr [.i r] 0,.ptr 1 0]),(5,.i (gG q (l.take m.1)).length),(6,.i m.1)]) (fun m => [.arr (gB (gG q (l.take m.1) ++ l.drop (gG q (l.take m.1)).length)) 3,.cells [.ptr 2 0],.cells L]) (fun m => l.length - m.1) ⟨j + 1,hj⟩ ⟨[0,1,2],rfl,⟨rfl,rfl,by dsimp only;rw [hkl];rfl,rfl,trivial⟩,⟨.inr (aC rfl (by dsimp only;rw [hka]) (bV _)),.inr rfl,.inr (sQ rfl hL),trivial⟩,by decide,yC4⟩ ?_
    rintro ⟨m,hm⟩;dsimp only;have hle := KL q l m;by_cases hlt : m < l.length
    · have hs := xB (q := q) hlt;have hget := OQ (G := gG q (l.take m)) (l := l) (m := m) (i := 0 + (m : Int).toNat) hle hlt (by omega)
      have hg2 := OQ (G := gG q (l.take m)) (l := l) (m := (gG q (l.take m)).length) (i := 0 + (((gG q (l.take m)).length : Nat) : Int).toNat) (aX _) (by omega) (by omega)
      rw [oP hlt] at hget;have hset := zT5 (G := gG q (l.take m)) (l := l) (x := l[m]) (j := (((gG q (l.take m)).length : Nat) : Int)) (by omega) rfl
      have hc := hF l[m] (aM hlt);have hal := TK (G := gG q (l.take m)) (l := l) (by omega)
      generalize l[m] = x at *;generalize l.getD (gG q (l.take m)).length w0 = y at *;generalize hG : gG q (l.take m) = G at *;generalize hA : gB (G ++ l.drop G.length) = A at *;cases e : q x
      · rw [e] at hc hs;rw [if_neg (by simp)] at hs
        (repeat' (first|refine wS ?_|refine wB ?_|refine wK ?_|refine wT ?_|(refine wC rfl ?_ ?_<;>(intro hb;(try simp only [nm] at hb);try (exfalso;omega)))|(refine rg 5 (dK rfl (qW T rfl (vV (aJ rfl rfl) ?_))))|(refine rg 7 (dK rfl (vV (by exact aO T rfl rfl rfl rfl rfl (by omega) (by omega)) ?_));refine vV (by exact aN T rfl rfl (bP rfl hget) rfl) ?_;refine cH (cK T rfl) rfl (bA T rfl rfl rfl rfl rfl rfl (by decide) rfl ?_))|(refine rg 8 (mW rfl (vV (aN T rfl rfl rfl rfl) (vV (by exact eW rfl rfl hc (.cons (FI x) hvc) rfl rfl) ?_)));refine vV (eM rfl) ?_)|(refine rg 9 (dK rfl (vV (aN T rfl rfl rfl rfl) (vV (by exact aO T rfl rfl rfl rfl rfl (by omega) (by omega)) ?_)));refine bA T rfl rfl rfl rfl rfl rfl (by decide) (mK rfl hg2 rfl) ?_)|(refine iA 10 rfl rfl rfl (by omega) (by omega) ?_)|(refine iA 6 rfl rfl rfl (by omega) (by omega) ?_)|refine nZ ?_));all_goals try (exfalso;omega)
        all_goals exact ⟨⟨m + 1,hlt⟩,by dsimp only;omega,[0,1,2],rfl,⟨rfl,rfl,by rw [hs];simp only [aF];rfl,rfl,trivial⟩,⟨.inr (aC rfl (by rw [hs];exact hset) (bV _)),.inr rfl,.inr (sQ rfl hL),trivial⟩,by decide,yC4⟩
      · rw [e] at hc hs;rw [if_pos rfl] at hs
        (repeat' (first|refine wS ?_|refine wB ?_|refine wK ?_|refine wU ?_|(refine wC rfl ?_ ?_<;>(intro hb;(try simp only [nm] at hb);try (exfalso;omega)))|(refine rg 5 (dK rfl (qW T rfl (vV (aJ rfl rfl) ?_))))|(refine rg 7 (dK rfl (vV (by exact aO T rfl rfl rfl rfl rfl (by omega) (by omega)) ?_));refine vV (by exact aN T rfl rfl (bP rfl hget) rfl) ?_;refine cH (cK T rfl) rfl (bA T rfl rfl rfl rfl rfl rfl (by decide) rfl ?_))|(refine rg 8 (mW rfl (vV (aN T rfl rfl rfl rfl) (vV (by exact eW rfl rfl hc (.cons (FI x) hvc) rfl rfl) ?_)));refine vV (eM rfl) ?_)|(refine iA 6 rfl rfl rfl (by omega) (by omega) ?_)|refine nZ ?_));all_goals try (exfalso;omega)
        all_goals exact ⟨⟨m + 1,hlt⟩,by dsimp only;omega,[0,1,2],rfl,⟨rfl,rfl,by rw [hs];rfl,rfl,trivial⟩,⟨.inr (aC rfl (by rw [hs];exact hA.symm) (bV _)),.inr rfl,.inr (sQ rfl hL),trivial⟩,by decide,yC4⟩
    · obtain rfl : m = l.length := by omega
      have hal := TK (G := gG q (l.take l.length)) (l := l) (by omega)
      have htk := VP (G := gG q (l.take l.length)) (l := l);generalize gG q (l.take l.length) = G at *
      (repeat' (first|refine wS ?_|refine wR ?_|refine wE ?_|(refine wC rfl ?_ ?_<;>(intro hb;(try simp only [nm] at hb);try (exfalso;omega)))|(refine rg 5 (dK rfl (qW T rfl (vV (aJ rfl rfl) ?_))))|(refine rg 11 (dK rfl (vV (by exact jJ T rfl rfl rfl rfl rfl rfl (by omega) (by omega) (by omega)) ?_));refine M2 T rfl rfl rfl ⟨rfl,rfl,by decide⟩ rfl (by rw [hal];omega) ?_)|(refine rg 12 (dK rfl (vV (by exact jJ T rfl rfl rfl rfl rfl rfl (by omega) (by omega) (by omega)) ?_));refine aV ?_)|refine nZ ?_));all_goals try (exfalso;omega)
      all_goals exact ⟨.inl rfl,[0,1,2],_,rfl,(by show AV.sl 0 0 ((G.length : Int) - 0).toNat 3 = AV.sl 0 0 G.length 3;rw [show ((G.length : Int) - 0).toNat = G.length by omega]),rfl,⟨.inr (aC rfl htk (bV _)),.inr rfl,.inr (sQ rfl hL),trivial⟩,by decide,yC4⟩
end Go.Proofs.YtmmmeebiobjnbaaGreat
namespace Go.Ab
open Go
theorem OT {P : Program} {f : FuncId} {args : List AV} {hin hout : Hp} {es : List (List AV)} {len sz k : Nat} (hk : k = hout.length) (hn : len = es.length) (hi : AV.idfL es.flatten = true) (h : aU P f args hin (.sl k 0 len sz) (hout ++ [.arr es sz])) : aU P f args hin (.rowE es sz) (hout ++ [.gone]) := by
  refine ⟨h.1,fun ρ S w vs hs ha => (h.2 ρ S w vs hs ha).mono ?_⟩;rintro e w' ⟨y,ρ',S',rfl,h2,h3⟩;rw [hn] at h3;have hb : (hout ++ [AB.arr es sz])[k]? = some (.arr es sz) := by subst hk;simp
  have e : (hout ++ [AB.arr es sz]).set k .gone = hout ++ [.gone] := by subst hk;simp
  exact ⟨y,_,_,rfl,e ▸ h2.freeze (k := k) hb,B9 hi (h2.blk k _ hb) h3⟩
theorem G8 (L : List Nat) : ∀ i : Nat,i < 1 → (0 :: L)[i]? = some i := fun i hi => by cases i with | zero => rfl | succ i => omega
end Go.Ab
namespace Go.Proofs.YtmmmeebiobjnbaaGreat
open Go Go.Ab Go.Ld
attribute [local irreducible] VC AW cE aU
set_option maxHeartbeats 4000000
theorem zF3 (c : Cx) (gs all : List G) {n : Nat} (ok : nP n all) (up : MA all) (hne : ∀ g,g ∈ all → g.2 ≠ []) :
    aU Tryz.prog 65 [.ptr 0 0,.rowE (kB all) 2] [.cells (jP c gs)] (.rowE (kB (uM c all)) 2) [.cells (jP c gs),.gone] := by
  have h12 : all.length ≤ 12 := bK ok.len ok.ln;have hal : (kB all).length = all.length := jH _;have hlb : ∀ g,g ∈ all → 0 ≤ gI g ∧ gI g ≤ 4000000 := fun g hg => EG (ok.ok g hg) (hne g hg);have hsb := FN hlb;refine OT (k := 1) (hout := [.cells (jP c gs)]) rfl (by rw [jH] : (uM c all).length = (kB (uM c all)).length) (gE (eG _)) ?_
  refine bX T Tryz.func65 rfl rfl rfl rfl ?_
  repeat' (first|refine wS ?_|(refine rg 0 (cH (cY rfl rfl) rfl (aV ?_)))|(refine rg 1 (aV ?_))|refine nZ ?_)
  (repeat' (first|refine wB ?_|(refine rg 2 (mW rfl (qW T rfl (mV ?_))))|refine nZ ?_));refine dC (X := {k : Nat // k ≤ all.length}) (fun k => [(1,.rowE (kB all) 2),(2,.ptr 1 0),(5,.i (jO (all.take k.1))),(16,.rowE (kB all) 2),(17,.i (kB all).length),(18,.i k.1)]) (fun _ => [.cells (jP c gs),.cells [.ptr 0 0]]) (fun k => all.length - k.1) ⟨0,bY _⟩ ⟨[0,1],rfl,(by repeat first|exact trivial|refine ⟨rfl,?_⟩),⟨.inr rfl,.inr rfl,trivial⟩,by decide,G8 _⟩ ?_
  rintro ⟨k,hk⟩;dsimp only;by_cases hlt : k < all.length
  · have hg := GN hlt;have hs := VU hlt;have hb := FN (l := all.take k) fun g hg => hlb g (eK hg);have hkl : (all.take k).length ≤ 12 := by rw [bC];omega
    have hl1 := hlb _ (aM hlt);have hc := QC all[k] (hne _ (aM hlt)) (by have := ok.ws _ (aM hlt);omega)
    generalize all[k] = g at *;generalize jO (all.take k) = S at *;generalize gI g = v at *
    (repeat' (first|refine wS ?_|refine wB ?_|refine wK ?_|(refine wC rfl ?_ ?_<;>(intro hb;(try simp only [nm] at hb);try (exfalso;omega)))|(refine rg 3 (vV (aJ rfl rfl) ?_))|(refine rg 4 (vV (ix T rfl (by omega) (qY _) hg) (lW T rfl (cH (cK T rfl) rfl (bA T rfl rfl rfl rfl rfl rfl (by decide) rfl ?_)))))|(refine rg 5 (mW rfl (lW T rfl (vV (kC (hc)) (vV (cJ rfl rfl (by omega) (by omega)) (aV ?_))))))|(refine rg 6 (vV (cJ rfl rfl (by omega) (by omega)) (mV ?_)))|refine nZ ?_));all_goals first | (exfalso;omega) | exact ⟨⟨k + 1,hlt⟩,by dsimp only;omega,[0,1],rfl,⟨rfl,rfl,by dsimp only;rw [hs];rfl,rfl,rfl,rfl,trivial⟩,⟨.inr rfl,.inr rfl,trivial⟩,by decide,G8 _⟩
  obtain rfl : k = all.length := by omega
  rw [cM]
  (repeat' (first|refine wS ?_|refine wB ?_|refine wE ?_|(refine wC rfl ?_ ?_<;>(intro hb;(try simp only [nm] at hb);try (exfalso;omega)))|(refine rg 3 (vV (aJ rfl rfl) ?_))|(refine rg 7 (vV (dJ rfl) (nG 8 2 rfl (by decide) ?_)))|(refine rg 8 (mW rfl (qW T rfl (mV ?_))))|refine nZ ?_));all_goals try (exfalso;omega)
  refine dC (X := {k : Nat // k ≤ all.length}) (fun k => [(2,.ptr 1 0),(5,.i (jO all)),(8,.sl 2 0 k.1 2),(27,.rowE (kB all) 2),(28,.i (kB all).length),(29,.i k.1)]) (fun k => [.cells (jP c gs),.cells [.ptr 0 0],.arr (kB ((paid c all).take k.1)) 2]) (fun k => all.length - k.1) ⟨0,bY _⟩ ⟨[0,1,2],rfl,(by repeat first|exact trivial|refine ⟨rfl,?_⟩),⟨.inr rfl,.inr rfl,.inr rfl,trivial⟩,by decide,G8 _⟩ ?_
  clear hk hlt;rintro ⟨k,hk⟩;dsimp only;have hpl := XH c all;by_cases hlt : k < all.length
  · have hg := GN hlt;have hp := SU (c := c) hlt;have hl1 := hlb _ (aM hlt);have hgo := ok.ok _ (aM hlt);have hgw := ok.ws _ (aM hlt);have hc := QC all[k] (hne _ (aM hlt)) (by omega)
    have htl : ((paid c all).take k).length = k := by rw [bC];omega
    generalize (paid c all).take k = Q at *;generalize all[k] = g at *;obtain ⟨bs,ws⟩ := g;dsimp only at hgw hp;generalize hv : gI (bs,ws) = v at *;generalize jO all = S at *;have hcl := LM ws (by omega)
    have hd := UH (r := S - v) (L := jP c gs) (q := fun w => decide (w.2.1 + (S - v) > c.m)) ws (by omega) rfl rfl (fun x hx => zF5 c gs x (S - v) ⟨(hgo.ws x hx).m0,(hgo.ws x hx).m1⟩ (by omega))
    generalize gG (fun w => decide (w.2.1 + (S - v) > c.m)) ws = ws' at *;have hQl : (kB Q).length = k := by rw [jH,htl]
    have hQ : kB (Q ++ [(bs,ws')]) = kB Q ++ [[.rowE (ints bs) 1,.rowE (gB ws') 3]] := by rw [kB,bO];rfl
    rw [← hp] at hQ;generalize kB Q = Q' at *
    (repeat' (first|refine wS ?_|refine wB ?_|refine wK ?_|(refine wC rfl ?_ ?_<;>(intro hb;(try simp only [nm] at hb);try (exfalso;omega)))|(refine rg 9 (vV (aJ rfl rfl) ?_))|(refine rg 10 (vV (ix T rfl (by omega) (qY _) hg) (lW T rfl (cH (cK T rfl) rfl (bA T rfl rfl rfl rfl rfl rfl (by decide) rfl ?_)))))|(refine rg 11 (mW rfl (lW T rfl (vV (kC (hc)) (vV (cX rfl rfl (by omega) (by omega)) (cH (cK T rfl) rfl (bA T rfl rfl rfl rfl rfl rfl (by decide) rfl ?_)))))))|refine nZ ?_));all_goals try (exfalso;omega)
    refine gL 11 rfl rfl rfl ?_
    repeat' (first|(refine rg 12 (iP T rfl (cH (by exact fQ rfl rfl hcl (.inr ⟨rfl,rfl,by simp⟩)) rfl ?_));refine vV (by exact kT rfl rfl) ?_;refine eA [5,1,0] rfl rfl (hd) rfl rfl (by decide) ⟨.inr (aC rfl (bE _ (bV _)) (bV _)),.inr rfl,.inr rfl,trivial⟩ (by simp) rfl ?_;refine mJ (es := gB ws') 41 rfl (congrArg (fun x=>some (AB.arr x 3)) (bE _ (bV _))) (fH _).symm (gE (bV _)) ?_;refine fW T rfl (bA T rfl rfl rfl rfl rfl rfl (by decide) rfl ?_))|(refine rg 13 (mW rfl (lW T rfl (cH (by exact bD T rfl rfl (by decide) (by decide) rfl rfl rfl) rfl ?_)));refine fR T rfl rfl rfl rfl rfl rfl (by omega) (iY.whole rfl rfl) rfl (by simp;omega) (by simp;omega) rfl ?_;refine aV ?_)|(refine rg 14 (vV (cJ rfl rfl (by omega) (by omega)) (mV ?_)))|refine nZ ?_)
    show ∃ x',_;exact ⟨⟨k + 1,hlt⟩,by dsimp only;omega,⟨[0,1,7],rfl,(by repeat first|exact trivial|refine ⟨rfl,?_⟩),⟨.inr rfl,.inr rfl,.inr (aC rfl (by dsimp only;rw [hQ];exact iO hQl.symm) (eG _)),trivial⟩,by decide,G8 _⟩⟩
  obtain rfl : k = all.length := by omega
  rw [← hpl,cM,hpl];have pok := ok.paid c;have pst := pD.start pok (PB up (c := c));rw [← hpl];generalize hL : paid c all = L at *;rw [show uM c all = qQ L by rw [← hL];rfl]
  (repeat' (first|refine wS ?_|refine wB ?_|refine wE ?_|(refine wC rfl ?_ ?_<;>(intro hb;(try simp only [nm] at hb);try (exfalso;omega)))|(refine rg 9 (vV (aJ rfl rfl) ?_))|(refine rg 15 (aV ?_))|refine nZ ?_));all_goals try (exfalso;omega)
  refine dC (X := {q : List G × Nat // pD n L q.1 q.2}) (fun q => [(8,.sl 1 0 q.1.1.length 2),(12,.i q.1.2)]) (fun q => [.cells (jP c gs),.arr (kB q.1.1) 2]) (fun q => 100 * zQ3 q.1.1 + (q.1.1.length - q.1.2)) ⟨(L,0),pst⟩ ⟨[0,2],rfl,(by repeat first|exact trivial|refine ⟨rfl,?_⟩),⟨.inr rfl,.inr (aC rfl rfl (eG _)),trivial⟩,by decide,G8 _⟩ ?_
  clear hsb hlb hne h12 hal pok up ok;rintro ⟨⟨o,i⟩,hq⟩;dsimp only at hq ⊢;have hol : (kB o).length = o.length := jH _;have ho12 : o.length ≤ 12 := bK hq.ok.len hq.ok.ln;have hio := hq.hi;by_cases hlt : i < o.length
  · have hgi : o[i]? = some o[i] := aA hlt;have hgm := aM hlt;generalize o[i] = g at *;have hgo := hq.ok.ok g hgm;have hgw := hq.ok.ws g hgm;have hsz := hgo.sz hgw;have q1 := zH (L := o) (j := (i : Int)) (i := i) hgi rfl;have hcc := UL g hsz;cases hcr : iD g with
    | none =>
      have hk := hq.keep hgi hcr;rw [show zN g = -1 by unfold zN;rw [hcr]] at hcc
      (repeat' (first|refine wS ?_|refine wB ?_|refine wK ?_|refine wU ?_|(refine wC rfl ?_ ?_<;>(intro hb;(try simp only [nm] at hb);try (exfalso;omega)))|(refine rg 16 (dK rfl (qW T rfl (vV (aJ rfl rfl) ?_))))|(refine rg 18 (dK rfl (vV (by exact aO T rfl rfl rfl rfl rfl (by omega) (by omega)) ?_));refine vV (by exact aN T rfl rfl (bP rfl q1) rfl) ?_;refine vV (kC (hcc)) (aV ?_))|(refine rg 19 (mW rfl (vV (gV rfl rfl) ?_)))|(refine iA 17 rfl rfl rfl (by omega) (by omega) ?_)|refine nZ ?_));all_goals try (exfalso;omega)
      exact ⟨⟨(o,i + 1),hk⟩,by dsimp only;omega,⟨[0,1],rfl,(by repeat first|exact trivial|refine ⟨rfl,?_⟩),⟨.inr rfl,.inr (aC rfl rfl (eG _)),trivial⟩,by decide,G8 _⟩⟩
    | some k =>
      have hk := hq.next hgi hcr
      obtain ⟨f1,f2,f3,_⟩ := jS hcr;have hwg := XR hgi hcr;have hno := PY hq.ok hgi hcr;have hsp := zG0 g hsz f3 f1 f2 (by omega)
      have hll : (o.set i (jM g k) ++ [nA g k]).length = o.length + 1 := by simp
      have hso := zG2 (o.set i (jM g k) ++ [nA g k]) hno.dist (by have := hno.len;have := hno.ln;omega) hno.hd
      have hw2 : zQ3 (EA o i k g) = zQ3 (o.set i (jM g k) ++ [nA g k]) := VD (dI _ _);have hl2 : (EA o i k g).length = o.length + 1 := by rw [EA,(dI _ _).length_eq,hll]
      rw [show zN g = (k : Int) by unfold zN;rw [hcr]] at hcc
      have t1 := I9 (L := o) (j := (i : Int)) (i := i) (x := jM g k) rfl;have e1 : kB (o.set i (jM g k) ++ [nA g k]) = (kB o).set (0 + (i : Int).toNat) (gA (jM g k)) ++ [gA (nA g k)] := by rw [t1,kB,bO];rfl
      have e2 : ((kB o).set (0 + (i : Int).toNat) (gA (jM g k))).length = o.length := by rw [gY,hol]
      change aU _ _ _ _ _ [.arr (kB (EA o i k g)) 2] at hso;rw [hll] at hso;generalize EA o i k g = o' at *;generalize hN : o.set i (jM g k) ++ [nA g k] = N at *;generalize jM g k = r at *;generalize nA g k = u at *;obtain ⟨rb,rw_⟩ := r;obtain ⟨ub,uw⟩ := u
      (repeat' (first|refine wS ?_|refine wB ?_|refine wK ?_|refine wT ?_|(refine wC rfl ?_ ?_<;>(intro hb;(try simp only [nm] at hb);try (exfalso;omega)))|(refine rg 16 (dK rfl (qW T rfl (vV (aJ rfl rfl) ?_))))|(refine rg 18 (dK rfl (vV (by exact aO T rfl rfl rfl rfl rfl (by omega) (by omega)) ?_));refine vV (by exact aN T rfl rfl (bP rfl q1) rfl) ?_;refine vV (kC (hcc)) (aV ?_))|(refine rg 19 (mW rfl (vV (gV rfl rfl) ?_)))|(refine rg 20 (dK rfl (vV (by exact aO T rfl rfl rfl rfl rfl (by omega) (by omega)) ?_));refine vV (by exact aN T rfl rfl (bP rfl q1) rfl) ?_;refine mW rfl (vV (kC (hsp)) (mW rfl (xW rfl (xW rfl (cH (cK T rfl) rfl (cH (cK T rfl) rfl (bA T rfl rfl rfl rfl rfl rfl (by decide) rfl (bA T rfl rfl rfl rfl rfl rfl (by decide) rfl ?_)))))))))|(refine rg 21 (dK rfl (vV (aN T rfl rfl rfl rfl) (vV (by exact aO T rfl rfl rfl rfl rfl (by omega) (by omega)) ?_)));refine bA T rfl rfl rfl rfl rfl rfl (by decide) (mK rfl q1 rfl) ?_)|(refine rg 22 (mW rfl (vV (aN T rfl rfl rfl rfl) (cH (by exact bD T rfl rfl (by decide) (by decide) rfl rfl rfl) rfl ?_)));refine fR T rfl rfl rfl rfl rfl rfl (by simp) (iY.whole rfl rfl) rfl (by simp;omega) (by simp;omega) rfl ?_;refine aV ?_)|refine nZ ?_));all_goals try (exfalso;omega)
      refine eU [(8,.sl 1 0 (o.length + 1) 2),(12,.i i)] [.cells (jP c gs),.arr (kB N) 2] ⟨[0,5],rfl,(by repeat first|exact trivial|refine ⟨rfl,?_⟩),⟨.inr rfl,.inr (aC rfl (by rw [e1];exact iO e2.symm) (eG _)),trivial⟩,by decide,G8 _⟩ ?_
      (repeat' (first|(refine rg 23 (mW rfl (eA [1] rfl rfl (hso) rfl rfl (by decide) ⟨.inr (aC rfl rfl (eG _)),trivial⟩ (by simp) rfl ?_)))|(refine rg 24 (aV ?_))|(refine iA 17 rfl rfl rfl (by omega) (by omega) ?_)|refine nZ ?_));all_goals try (exfalso;omega)
      exact ⟨⟨(o',0),hk⟩,by dsimp only;omega,⟨[0,1],rfl,⟨by dsimp only;rw [hl2];rfl,rfl,trivial⟩,⟨.inr rfl,.inr (aC rfl (bE _ (eG _)) (eG _)),trivial⟩,by decide,G8 _⟩⟩
  · have hfin := hq.fin (by omega)
    rw [hfin]
    (repeat' (first|refine wS ?_|refine wR ?_|refine wE ?_|(refine wC rfl ?_ ?_<;>(intro hb;(try simp only [nm] at hb);try (exfalso;omega)))|(refine rg 16 (dK rfl (qW T rfl (vV (aJ rfl rfl) ?_))))|(refine rg 25 (mW rfl (aV ?_)))|refine nZ ?_));all_goals first | (exfalso;omega) | exact ⟨.inl rfl,[0,1],_,rfl,rfl,rfl,⟨.inr rfl,.inr (aC rfl rfl (eG _)),trivial⟩,by decide,G8 _⟩
end Go.Proofs.YtmmmeebiobjnbaaGreat
namespace Go.Ld
open Go.Ab Go.Proofs.YtmmmeebiobjnbaaGreat
structure nQ (c : Cx) (M : Int) (gs : List G) : Prop where
  out : nP c.bs.length gs
  up : MA gs
  ne : ∀ g,g ∈ gs → g.2 ≠ []
  ml : ∀ g,g ∈ gs → ∀ w,w ∈ g.2 → w.2.1 ≤ M
  cov : (gs.flatMap (·.1)).Perm (nats (List.range c.bs.length))
  idn : (gs.flatMap fun g => (iH g).1).Perm (nats (List.range c.bs.length))
  wl : ∀ g,g ∈ gs → g.2.length ≤ 1000
structure oZ (c : Cx) (gs : List G) : Prop where
  mid : nQ c c.m gs
  cer : ∀ g,g ∈ gs → iD g = none
  asc : ∀ g,g ∈ gs → g.2.Pairwise fun a b => oO a b < 0
theorem B1 (n : Nat) : (nats (List.range n)).Nodup := List.Pairwise.map (R := fun a b => a ≠ b) _ (fun a b h e => h (Int.ofNat.inj e)) zQ0
theorem vJ {n : Nat} {b : Int} : b ∈ nats (List.range n) ↔ 0 ≤ b ∧ b < n := by
  constructor
  · intro h;obtain ⟨i,hi,rfl⟩ := bB.1 h;have := fF.1 hi;exact ⟨by omega,by omega⟩
  · intro h;exact bB.2 ⟨b.toNat,fF.2 (by omega),by omega⟩
theorem nQ.find {c : Cx} {M : Int} {gs : List G} (h : nQ c M gs) {b : Int} (hb : 0 ≤ b ∧ b < c.bs.length) : ∃ g,g ∈ gs ∧ b ∈ g.1 := by
  have := h.cov.mem_iff.2 (vJ.2 hb);obtain ⟨g,hg,hbg⟩ := gD.1 this;exact ⟨g,hg,hbg⟩
theorem DS {α : Type} {A B l : List Int} {x y : List α} {d : α} (hA : A.Nodup) (hB : B.Nodup) (dj : ∀ b,b ∈ A → b ∉ B) (hl : l.Perm (A ++ B)) (hx : x.length = A.length) (hy : y.length = B.length) :
    (l.map fun k => if k ∈ A then x.getD (A.idxOf k) d else y.getD (B.idxOf k) d).Perm (x ++ y) := by
  refine (hl.map _).trans ?_;rw [bO];have e1 : A.map (fun k => if k ∈ A then x.getD (A.idxOf k) d else y.getD (B.idxOf k) d) = x := by
    refine lC (by simp [hx]) fun i h1 h2 => ?_
    rw [oX,if_pos (aM _),hA.idxOf_getElem,aD,aA h2];rfl
  have e2 : B.map (fun k => if k ∈ A then x.getD (A.idxOf k) d else y.getD (B.idxOf k) d) = y := by
    refine lC (by simp [hy]) fun i h1 h2 => ?_
    have hb : B[i]'(by simpa using h1) ∈ B := aM _
    rw [oX,if_neg (fun q => dj _ q hb),hB.idxOf_getElem,aD,aA h2];rfl
  rw [e1,e2]
structure uX (n : Nat) (x y : G) : Prop where
  gx : zZ n x
  gy : zZ n y
  nx : x.2 ≠ []
  ny : y.2 ≠ []
  dj : ∀ b,b ∈ x.1 → b ∉ y.1
  di : ∀ b,b ∈ (iH x).1 → b ∉ (iH y).1
  ln : x.1.length + y.1.length ≤ 6
theorem B3 {x y : G} {w : W} (h : w ∈ (mI x y).2) : ∃ u v,u ∈ x.2 ∧ v ∈ y.2 ∧ w = E1 x y u v (mI x y).1 := by
  obtain ⟨u,hu,h⟩ := gD.1 h;obtain ⟨v,hv,h⟩ := bB.1 h;exact ⟨u,v,hu,hv,h.symm⟩
theorem mO (x y : G) : (mI x y).1.Perm (x.1 ++ y.1) := dI _ _
theorem uX.pair {n : Nat} {x y : G} (h : uX n x y) {u v : W} (hu : u ∈ x.2) (hv : v ∈ y.2) : (E1 x y u v (mI x y).1).1.Perm (u.1 ++ v.1) ∧ (E1 x y u v (mI x y).1).2.2.Perm (u.2.2 ++ v.2.2) :=
  ⟨DS h.gx.nd h.gy.nd h.dj (mO x y) (h.gx.ws u hu).pl (h.gy.ws v hv).pl,DS h.gx.nd h.gy.nd h.dj (mO x y) (h.gx.ws u hu).cl (h.gy.ws v hv).cl⟩
theorem uX.same {n : Nat} {x y : G} (h : uX n x y) {w : W} (hw : w ∈ (mI x y).2) : w.1.Perm ((iH x).1 ++ (iH y).1) := by
  obtain ⟨u,v,hu,hv,rfl⟩ := B3 hw;exact (h.pair hu hv).1.trans ((h.gx.same _ _ hu (jD h.nx)).append (h.gy.same _ _ hv (jD h.ny)))
theorem uX.ok {n : Nat} {x y : G} (h : uX n x y) {M : Int} (h1 : ∀ w, w ∈ x.2 → w.2.1 ≤ M) (h2 : ∀ w, w ∈ y.2 → w.2.1 ≤ M) (hM : M ≤ 2000000) : zZ n (mI x y) where
  ne e := by
    have := (mO x y).length_eq;rw [e] at this;have := fJ.2 h.gx.ne;simp at *;omega
  up := by
    have h1 := lP qK (x.1 ++ y.1);have hnd : (mI x y).1.Nodup := (mO x y).nodup_iff.2 (cN.2 ⟨h.gx.nd,h.gy.nd,fun a ha b hb e => h.dj a ha (e ▸ hb)⟩);refine (h1.and hnd).imp fun {a b} h => ?_
    have := h.1;have := h.2;unfold cI at *;by_cases e : a < b
    · exact e
    · rw [if_neg e] at *;by_cases e' : b < a
      · rw [if_pos e'] at *;omega
      · omega
  rg b hb := by
    rcases bF.1 ((mO x y).mem_iff.1 hb) with hb | hb
    · exact h.gx.rg b hb
    · exact h.gy.rg b hb
  ln := by rw [(mO x y).length_eq,aF];exact h.ln
  ws w hw := by
    have hs := h.same hw;obtain ⟨u,v,hu,hv,rfl⟩ := B3 hw;obtain ⟨p1,p2⟩ := h.pair hu hv;have ou := h.gx.ws u hu;have ov := h.gy.ws v hv;refine ⟨aY _,aY _,fun b hb => ?_,hs.nodup_iff.2 (cN.2 ⟨(h.gx.ws _ (jD h.nx)).nd,(h.gy.ws _ (jD h.ny)).nd,fun a ha b hb e => h.di a ha (e ▸ hb)⟩),?_,?_,fun r hr => ?_⟩
    · rcases bF.1 (p1.mem_iff.1 hb) with hb | hb
      · exact ou.pr b hb
      · exact ov.pr b hb
    · have := ou.m0;have := ov.m0;show 0 ≤ u.2.1 + v.2.1;omega
    · have := h1 u hu;have := h2 v hv;show u.2.1 + v.2.1 ≤ 4000000;omega
    · rcases bF.1 (p2.mem_iff.1 hr) with hr | hr
      · exact ou.sp r hr
      · exact ov.sp r hr
  same w v hw hv := (h.same hw).trans (h.same hv).symm
theorem YG {x y : G} (hx : x.2 ≠ []) (hy : y.2 ≠ []) : (mI x y).2 ≠ [] := by
  show pG x y _ ≠ [];unfold pG;cases hu : x.2 with
  | nil => exact absurd hu hx
  | cons u l =>
    cases hv : y.2 with
    | nil => exact absurd hv hy
    | cons v m => simp
theorem EI (x y : G) : (mI x y).2.length = x.2.length * y.2.length := by
  show (pG x y _).length = _;unfold pG;generalize dY cI (x.1 ++ y.1) = l
  induction x.2 with
  | nil => simp
  | cons u m ih => rw [bJ,aF,ih,aY,List.length_cons,Nat.succ_mul,pX]
theorem mD {α : Type} {l : List α} {i k : Nat} {u v : α} (J : α) (hik : i < k) (hi : l[i]? = some u) (hk : l[k]? = some v) : ∃ P Q R,l = P ++ u :: (Q ++ v :: R) ∧ (l.set i J).eraseIdx k = P ++ J :: (Q ++ R) := by
  obtain ⟨hl,e2⟩ := aB.1 hk;have hil : i < l.length := by omega
  have e1 : l[i] = u := (aB.1 hi).2;have d1 : l.drop i = u :: l.drop (i + 1) := by rw [aT hil,e1]
  have d2 : l.drop k = v :: l.drop (k + 1) := by rw [aT hl,e2]
  have d3 : l.drop (i + 1) = (l.drop (i + 1)).take (k - (i + 1)) ++ v :: l.drop (k + 1) := by
    have : l.drop (i + 1) = (l.drop (i + 1)).take (k - (i + 1)) ++ (l.drop (i + 1)).drop (k - (i + 1)) := (bQ _ _).symm;rw [MI,show i + 1 + (k - (i + 1)) = k by omega,d2] at this
    exact this
  have e : l = l.take i ++ u :: ((l.drop (i + 1)).take (k - (i + 1)) ++ v :: l.drop (k + 1)) := by
    rw [← d3,← d1,bQ]
  refine ⟨_,_,_,e,?_⟩;have ht : (l.take i).length = i := by rw [bC];omega
  have hq : ((l.drop (i + 1)).take (k - (i + 1))).length = k - (i + 1) := by rw [bC,dD];omega
  generalize l.take i = P at *;generalize (l.drop (i + 1)).take (k - (i + 1)) = Q at *;generalize l.drop (k + 1) = R at *;clear d1 d2 d3;subst e;rw [iL _ _ (by omega),show i - P.length = 0 by omega,List.set_cons_zero,List.eraseIdx_append_of_length_le (by omega),show k - P.length = (k - (i + 1)) + 1 by omega,List.eraseIdx_cons_succ,List.eraseIdx_append_of_length_le (by omega),hq,dX,List.eraseIdx_cons_zero]
end Go.Ld
