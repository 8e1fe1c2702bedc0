/-
  Texts of the logic and of the layer,in one module (part 6).
-/
import Derived.Test.YtmmkhmilpeodnaaGreatK5
import Derived.Shelf.Spec.SlicesGrow
import Derived.Ground.Names8Prog
set_option linter.unusedVariables false
set_option linter.unusedSimpArgs false
set_option linter.unnecessarySimpa false
namespace Go.Ld
open Go.Ab Go.Proofs.YtmmkhmilpeodnaaGreat
def xB (g : G) : Int := match gX g with
  | some k => (k : Int)
  | none => -1
theorem GA {g : G} (h : g.1.length < 2 ∨ g.2 = []) : xB g = -1 := by unfold xB gX;rw [if_pos h]
theorem TL {g : G} {k : Nat} (h : ¬ (g.1.length < 2 ∨ g.2 = [])) (hk : k < g.1.length) (h1 : ∀ j,j < k → vU g j = false) (h2 : vU g k = true) : xB g = k := by
  unfold xB gX;rw [if_neg h,List.find?_range_eq_some.2 ⟨h2,by simpa using hk,fun j hj => by simp [h1 j hj]⟩]
theorem OJ {g : G} (h : ¬ (g.1.length < 2 ∨ g.2 = [])) (h1 : ∀ j,j < g.1.length → vU g j = false) : xB g = -1 := by
  unfold xB gX;rw [if_neg h,List.find?_range_eq_none.2 (fun j hj => by simp [h1 j hj])]
def AA (f : W) (i : Nat) (w : W) : Bool := !decide (gP w i = gP f i ∧ gC w i = gC f i)
theorem HQ {bs : List Int} {f : W} {l : List W} {i : Nat} : vU (bs,f :: l) i = !(f :: l).any (AA f i) := by
  show (f :: l).all (fun w => decide (gP w i = gP f i ∧ gC w i = gC f i)) = _;rw [List.not_any_eq_all_not];congr 1;funext w;simp [AA]
end Go.Ld
namespace Go.Proofs.YtmmkhmilpeodnaaGreat
open Go Go.Ab Go.Ld
attribute [local irreducible] VC AW cF aR qS
set_option maxHeartbeats 4000000
theorem ZK : qS Tryz.prog 48 2 := by unfold qS;kernel_rfl
theorem IR (w f : W) {i : Nat} (h1 : i < w.1.length) (h2 : i < w.2.2.length) (h3 : i < f.1.length) (h4 : i < f.2.2.length) (hs : F3 w) (hf : F3 f) :
    aR Tryz.prog 141 [HC w,.pr [.i i] 0,.pr (wA f) 0] [] (.b (AA f i w)) [] := by
  obtain ⟨p,m,c⟩ := w;obtain ⟨p',m',c'⟩ := f;dsimp only at h1 h2 h3 h4;unfold F3 at hs hf;dsimp only at hs hf;have hlp : (ints p).length = p.length := cQ _;have hlp' : (ints p').length = p'.length := cQ _;have hlc : (eZ c).length = c.length := gB _;have hlc' : (eZ c').length = c'.length := gB _;have q1 := mG (l := p) (j := (i : Int)) (i := i) 0 h1 rfl;have q2 := mG (l := p') (j := (i : Int)) (i := i) 0 h3 rfl;have q3 := pY (l := c) (j := (i : Int)) (i := i) h2 rfl;have q4 := pY (l := c') (j := (i : Int)) (i := i) h4 rfl;have hd : AA (p',m',c') i (p,m,c) = !decide (p.getD i 0 = p'.getD i 0 ∧ c.getD i (0,0) = c'.getD i (0,0)) := rfl;rw [hd];generalize p.getD i 0 = x at *;generalize p'.getD i 0 = y at *;generalize hr : c.getD i (0,0) = r at *;generalize hr' : c'.getD i (0,0) = r' at *;obtain ⟨a,b⟩ := r;obtain ⟨a',b'⟩ := r';dsimp only at q3 q4;by_cases h : x = y
  · rw [show (!decide (x = y ∧ (a,b) = (a',b'))) = !decide (a = a' ∧ b = b') by simp [h]]
    refine bQ T Tryz.func141 rfl rfl rfl rfl ?_
    (repeat' (first|refine wS ?_|refine wR ?_|(refine rg 0 (bS (cE rfl rfl) rfl (aV ?_)))|(refine bL (id := 1) 29 zS2 (rM 5 24) zS3 cC rfl (by decide +kernel) (dP T rfl (dO T rfl (dO T rfl (dV rfl (ix T rfl (by omega) (cH p) q1) (dO T rfl (dP T rfl (dO T rfl (dO T rfl (dV rfl (ix T rfl (by omega) (cH p') q2) ?_)))))))));refine dO T rfl (dV rfl (pR rfl rfl h) (dN rfl (tP T rfl (tO T rfl (tO T rfl (dT rfl (ix T rfl (by omega) (iS c) q3) (tO T rfl (tP T rfl (tL T ?_)))))))));refine tO T rfl (dT rfl (ix T rfl (by omega) (iS c') q4) (tO T rfl (dT rfl (XQ ZK rfl rfl) (dV rfl (fX rfl rfl) (dE ?_)))));refine aV ?_)|refine nZ ?_));all_goals first | (exfalso;omega) | exact rQ
  · rw [show (!decide (x = y ∧ (a,b) = (a',b'))) = true by simp [h]]
    refine bQ T Tryz.func141 rfl rfl rfl rfl ?_
    (repeat' (first|refine wS ?_|refine wR ?_|(refine rg 0 (bS (cE rfl rfl) rfl (aV ?_)))|(refine bL (id := 1) 29 zS2 (rM 5 24) zS3 cC rfl (by decide +kernel) (dP T rfl (dO T rfl (dO T rfl (dV rfl (ix T rfl (by omega) (cH p) q1) (dO T rfl (dP T rfl (dO T rfl (dO T rfl (dV rfl (ix T rfl (by omega) (cH p') q2) ?_)))))))));refine dO T rfl (dV rfl (uM rfl rfl h) (dN rfl (tG rfl (tG rfl (tG rfl (tG rfl (tG rfl (tG rfl (dG ?_)))))))));refine tG rfl (tG rfl (tG rfl (tG rfl (dV rfl (jF rfl rfl) (dE ?_)))));refine aV ?_)|refine nZ ?_));all_goals first | (exfalso;omega) | exact rQ
structure zF3 (g : G) : Prop where
  b : g.1.length ≤ 1000
  w : g.2.length ≤ 1000000
  p : ∀ w,w ∈ g.2 → w.1.length = g.1.length
  c : ∀ w,w ∈ g.2 → w.2.2.length = g.1.length
theorem zF3.sm {g : G} (h : zF3 g) {w : W} (hw : w ∈ g.2) : F3 w := ⟨by have := h.p w hw;have := h.b;omega,by have := h.c w hw;have := h.b;omega⟩
theorem OI (g : G) (hs : zF3 g) : aR Tryz.prog 106 [OV g] [] (.i (xB g)) [] := by
  have hsz := hs;obtain ⟨bs,ws⟩ := g;obtain ⟨hb,hw,hp,hc⟩ := hs;dsimp only at hb hw hp hc;have hlb : (ints bs).length = bs.length := cQ _;have hlw : (fP ws).length = ws.length := eS _;by_cases h0 : bs.length < 2
  · rw [GA (.inl h0)];refine bQ T Tryz.func106 rfl rfl rfl rfl ?_
    (repeat' (first|refine wS ?_|refine wR ?_|refine wT ?_|(refine rg 0 (bS (cE rfl rfl) rfl (aV ?_)))|(refine rg 1 (iL T rfl (qW T rfl (vV (aO rfl rfl) (mV ?_))));refine cN rfl rfl ?_ ?_<;>(intro hb;rw [hb];(try simp only [nm] at hb);try (exfalso;omega));(all_goals ((iterate 4 refine gF ?_);refine pV ?_)))|(refine rg 2 (aV ?_))|refine nZ ?_));all_goals first | (exfalso;omega) | exact rQ
  · cases ws with
    | nil =>
      rw [GA (.inr rfl)];refine bQ T Tryz.func106 rfl rfl rfl rfl ?_
      (repeat' (first|refine wS ?_|refine wR ?_|refine wT ?_|(refine rg 0 (bS (cE rfl rfl) rfl (aV ?_)))|(refine rg 1 (iL T rfl (qW T rfl (vV (aO rfl rfl) (mV ?_))));refine cN rfl rfl ?_ ?_<;>(intro hb;rw [hb];(try simp only [nm] at hb);try (exfalso;omega));(all_goals (refine yP T rfl (yO T rfl (gT (qW T rfl (yV (dJ rfl rfl) (pV ?_))))))))|(refine rg 2 (aV ?_))|refine nZ ?_));all_goals first | (exfalso;omega) | exact rQ
    | cons f l =>
      have hn : ¬ (bs.length < 2 ∨ f :: l = []) := by rintro (h | h);exact h0 h;cases h
      have hg0 : (fP (f :: l))[(0 : Int).toNat]? = some (wA f) := rfl;have hl1 : (fP (f :: l)).length = l.length + 1 := by simp
      refine bQ T Tryz.func106 rfl rfl rfl rfl ?_
      (repeat' (first|refine wS ?_|refine wB ?_|refine wK ?_|refine wU ?_|(refine rg 0 (bS (cE rfl rfl) rfl (aV ?_)))|(refine rg 1 (iL T rfl (qW T rfl (vV (aO rfl rfl) (mV ?_))));refine cN rfl rfl ?_ ?_<;>(intro hb;rw [hb];(try simp only [nm] at hb);try (exfalso;omega));(all_goals (refine yP T rfl (yO T rfl (gT (qW T rfl (yV (dJ rfl rfl) (pV ?_))))))))|(refine rg 3 (iL T rfl (qW T rfl (mV ?_))))|refine nZ ?_));all_goals try (exfalso;omega)
      all_goals refine dA (X := {k : Nat // k ≤ bs.length ∧ ∀ j,j < k → vU (bs,f :: l) j = false}) (fun k => [(1,.ptr 0 0),(17,.i (ints bs).length),(18,.i k.1)]) (fun _ => [.cells [.rowE (ints bs) 1,.rowE (fP (f :: l)) 3]]) (fun k => bs.length - k.1) ⟨0,cT _,fun j hj => absurd hj (eA _)⟩ (eW [0]) ?_
      all_goals rintro ⟨k,hk,hj⟩
      all_goals dsimp only
      all_goals by_cases hlt : k < bs.length
      · have hlf : k < f.1.length := by rw [hp f aS];exact hlt
        have hlf2 : k < f.2.2.length := by rw [hc f aS];exact hlt
        have hcc := zC1 (caps := [.pr [.i k] 0,.pr (wA f) 0]) (p := AA f k) (l := f :: l) hw rfl (fun x hx => IR x f (by rw [hp x hx];exact hlt) (by rw [hc x hx];exact hlt) hlf hlf2 (hsz.sm hx) (hsz.sm aS))
        have hsa := HQ (bs := bs) (f := f) (l := l) (i := k);cases hany : (f :: l).any (AA f k) with
        | false =>
          rw [hany] at hcc hsa;have hci := TL hn hlt hj hsa;rw [hci]
          (repeat' (first|refine wS ?_|refine wB ?_|refine wK ?_|refine wR ?_|refine wT ?_|(refine wC rfl ?_ ?_<;>(intro hb;(try simp only [nm] at hb);try (exfalso;omega)))|(refine rg 4 (vV (aO rfl rfl) ?_))|(refine rg 5 (mW rfl (bS (bO T rfl) rfl (aT T rfl rfl rfl rfl rfl rfl (by decide) rfl ?_))))|(refine rg 6 (iL T rfl (vV (ix T rfl (by omega) (kW _) hg0) (lW T rfl (bS (bO T rfl) rfl (aT T rfl rfl rfl rfl rfl rfl (by decide) rfl ?_))))))|(refine rg 7 (iL T rfl (vV (by exact jG rfl rfl) ?_));refine vV (by exact eT rfl rfl hcc (.cons (.row _ _ _) (.cons (.clo .nil (.cons (.ptr rfl (.cons (.v _) .nil)) (.cons (.ptr rfl (.cons (.row _ _ _) (.cons (.v _) (.cons (.row _ _ _) .nil)))) .nil))) .nil)) rfl rfl) ?_;refine vV (dH rfl) ?_)|(refine rg 8 (lW T rfl (aV ?_)))|refine nZ ?_));all_goals first | (exfalso;omega) | exact rQ
        | true =>
          rw [hany] at hcc hsa
          (repeat' (first|refine wS ?_|refine wB ?_|refine wK ?_|refine wU ?_|(refine wC rfl ?_ ?_<;>(intro hb;(try simp only [nm] at hb);try (exfalso;omega)))|(refine rg 4 (vV (aO rfl rfl) ?_))|(refine rg 5 (mW rfl (bS (bO T rfl) rfl (aT T rfl rfl rfl rfl rfl rfl (by decide) rfl ?_))))|(refine rg 6 (iL T rfl (vV (ix T rfl (by omega) (kW _) hg0) (lW T rfl (bS (bO T rfl) rfl (aT T rfl rfl rfl rfl rfl rfl (by decide) rfl ?_))))))|(refine rg 7 (iL T rfl (vV (by exact jG rfl rfl) ?_));refine vV (by exact eT rfl rfl hcc (.cons (.row _ _ _) (.cons (.clo .nil (.cons (.ptr rfl (.cons (.v _) .nil)) (.cons (.ptr rfl (.cons (.row _ _ _) (.cons (.v _) (.cons (.row _ _ _) .nil)))) .nil))) .nil)) rfl rfl) ?_;refine vV (dH rfl) ?_)|(refine rg 9 (vV (bT rfl rfl (by omega) (by omega)) (mV ?_)))|refine nZ ?_));all_goals first | (exfalso;omega) | skip
          all_goals exact ⟨⟨k + 1,by omega,fun j hjk => (iD j k).elim (hj j) (fun h => by obtain rfl : j = k := (by omega);exact hsa)⟩,by dsimp only;omega,eW [0]⟩
      · rw [OJ hn (fun j hjl => hj j (by dsimp only at hjl;omega))]
        (repeat' (first|refine wS ?_|refine wR ?_|refine wE ?_|(refine wC rfl ?_ ?_<;>(intro hb;(try simp only [nm] at hb);try (exfalso;omega)))|(refine rg 4 (vV (aO rfl rfl) ?_))|(refine rg 10 (aV ?_))|refine nZ ?_));all_goals first | (exfalso;omega) | exact rQ
end Go.Proofs.YtmmkhmilpeodnaaGreat
namespace Go.Ld
open Go.Ab Go.Proofs.YtmmkhmilpeodnaaGreat
theorem D5 {α : Type} (l : List α) (k : Nat) : l.take k ++ l.drop (k + 1) = l.eraseIdx k := (List.eraseIdx_eq_take_drop_succ l k).symm
end Go.Ld
namespace Go.Proofs.YtmmkhmilpeodnaaGreat
open Go Go.Ab Go.Ld
attribute [local irreducible] VC AW cF aR qS kZ
set_option maxHeartbeats 4000000
theorem WB (g : G) {k : Nat} (hs : zF3 g) (hk : k < g.1.length) (h2 : 2 ≤ g.1.length) (hne : g.2 ≠ []) (hsm : g.2.length ≤ 100000) :
    aR Tryz.prog 107 [OV g,.i k] [] (.tup [OV (mM g k),OV (jL g k)]) [] := by
  have hsz := hs;obtain ⟨bs,ws⟩ := g;obtain ⟨hb,hw,hp,hc⟩ := hs;dsimp only at hb hw hp hc hk h2 hsm;cases ws with
  | nil => exact absurd rfl hne
  | cons f l =>
  have hlb : (ints bs).length = bs.length := cQ _;have hf1 := hp f aS;have hf2 := hc f aS;have hlp : (ints f.1).length = f.1.length := cQ _;have hlc : (eZ f.2.2).length = f.2.2.length := gB _;have hg0 : (fP (f :: l))[(0 : Int).toNat]? = some (wA f) := rfl;have hl1 : (fP (f :: l)).length = l.length + 1 := by simp
  have q1 := mG (l := bs) (j := (k : Int)) (i := k) 0 hk rfl;have q2 := mG (l := f.1) (j := (k : Int)) (i := k) 0 (by omega) rfl
  have q3 := pY (l := f.2.2) (j := (k : Int)) (i := k) (by omega) rfl
  have cl := CK bs (by omega)
  have dl := TD bs k (k + 1) (by omega) (by omega) (by intro h;rw [h] at hk;simp at hk)
  rw [D5,show bs.length - (k + 1 - k) = bs.length - 1 by omega,show ((k + 1 : Nat) : Int) = (k : Int) + 1 by omega] at dl
  have hel : (bs.eraseIdx k).length = bs.length - 1 := by rw [fR,if_pos hk]
  obtain ⟨L,hL⟩ : ∃ L,f :: l = L := ⟨_,rfl⟩;have hp' : ∀ w,w ∈ L → w.1.length = bs.length := by rw [← hL];exact hp
  have hc' : ∀ w,w ∈ L → w.2.2.length = bs.length := by rw [← hL];exact hc
  have hsm' : L.length ≤ 100000 := by rw [← hL];exact hsm
  have hsz' : ∀ w,w ∈ L → F3 w := by rw [← hL];exact fun w h => hsz.sm h
  obtain ⟨R,hR⟩ : ∃ R,R = L.map (YJ k) := ⟨_,rfl⟩;have hor : jL (bs,f :: l) k = (bs.eraseIdx k,gD R) := by rw [hR,← hL];rfl
  rw [hor]
  have ho := Y3 R (by rw [hR,bC];exact hsm') (fun w hw' => by
    rw [hR] at hw';obtain ⟨v,hv,rfl⟩ := bI.1 hw';have h1 := hp' v hv;have h2 := hc' v hv;unfold F3 YJ;dsimp only;rw [fR,fR]
    constructor <;> split <;> omega)
  refine zW (res := .tup [.agg [.sl 0 0 1 1,.sl 3 0 1 3],.agg [.rowE (ints (bs.eraseIdx k)) 1,.rowE (fP (gD R)) 3]]) (hout := [.arr (ints [bs.getD k 0]) 1,.arr (ints [f.1.getD k 0]) 1,.arr (eZ [f.2.2.getD k (0,0)]) 2,.arr [[.sl 1 0 1 1,.i 0,.sl 2 0 1 2]] 3]) ?_ (.tup (.cons (.agg (.cons (F4 rfl rfl) (.cons (.sl rfl (by decide) (.cons (F4 rfl rfl) (.cons (.v _) (.cons (N6 rfl rfl) .nil)))) .nil))) (.cons (.agg (.cons (.row _ _ _) (.cons (.row _ _ _) .nil))) .nil)))
  generalize bs.getD k 0 = x1 at *;generalize f.1.getD k 0 = x2 at *;generalize hr : f.2.2.getD k (0,0) = r at *;obtain ⟨a1,a2⟩ := r;dsimp only at q3;refine bQ T Tryz.func107 rfl rfl rfl rfl ?_
  (repeat' (first|refine wS ?_|(refine rg 0 (bS (cE rfl rfl) rfl (bS (bO T rfl) rfl (bS (bO T rfl) rfl ?_))))|(refine rg 1 (iL T rfl (vV (ix T rfl (by omega) (kW _) hg0) (lW T rfl (bS (bO T rfl) rfl (aT T rfl rfl rfl rfl rfl rfl (by decide) rfl ?_))))))|(refine bL (id := 2) 78 [[],[0],[],[0,1,2],rN 4,rN 5,[],[6],[],[6,7,8],rM 6 4,rM 6 5,[],[12],[],[12,13,14],rM 12 4,rM 12 5,rM 6 12,rM 6 13,rN 20] (rM 13 21) [[],[],[13,14],[],[],[],rM 13 6,rM 13 6,rM 13 8,rM 13 6,rM 13 6,rM 13 6,rM 13 12,rM 13 12,rM 13 14,rM 13 12,rM 13 12,rM 13 12,rM 13 6,rM 13 6,[]] cC rfl (by decide +kernel) (dP T rfl (dO T rfl (dN rfl (dV rfl (ix T rfl (by omega) (cH bs) q1) (dO T rfl (zO rfl rfl rfl (by exact bB T rfl rfl (by decide) (by decide) rfl rfl rfl) rfl ?_))))));refine dP T rfl (dO T rfl (dN rfl (dV rfl (ix T rfl (by omega) (cH f.1) q2) (dO T rfl (zO rfl rfl rfl (by exact bB T rfl rfl (by decide) (by decide) rfl rfl rfl) rfl ?_)))));refine dP T rfl (dO T rfl (dN rfl (dV rfl (ix T rfl (by omega) (iS f.2.2) q3) (dO T rfl (zO rfl rfl rfl (by exact bB T rfl rfl (by decide) (by decide) rfl rfl rfl) rfl ?_)))));refine dV rfl (by exact eQ T rfl rfl rfl rfl) ?_;refine zO rfl rfl rfl (by exact bB T rfl rfl (by decide) (by decide) rfl rfl rfl) rfl ?_;refine dV rfl (by exact eQ T rfl rfl rfl rfl) ?_;refine dE ?_;refine aT T rfl rfl rfl rfl rfl rfl (by decide) rfl ?_)|(refine rg 3 (iL T rfl (bS (by exact fK rfl rfl cl (.inr ⟨rfl,rfl,by simp⟩)) rfl ?_));refine dX rfl (vV (bT rfl rfl (by omega) (by omega)) (fQ [8] rfl rfl (dl) rfl rfl (by decide) ⟨.inr (aE rfl (bU _ (bJ _)) (bJ _)),trivial⟩ (by simp) rfl ?_));refine fW T rfl (aT T rfl rfl rfl rfl rfl rfl (by decide) rfl ?_))|refine nZ ?_));refine fE [(1, .i k), (2, .ptr 0 0), (4, .ptr 1 0), (5, .ptr 2 0)] [.cells [.rowE (ints bs) 1, .rowE (fP (f :: l)) 3], .cells [.sl 3 0 1 1, .sl 6 0 1 3], .cells [.sl 7 0 (bs.length - 1) 1, .nils], .arr (ints [x1]) 1, .arr (ints [x2]) 1, .arr (eZ [(a1, a2)]) 2, .arr [[.sl 4 0 1 1, .i 0, .sl 5 0 1 2]] 3, .arr (ints (bs.eraseIdx k)) 1]
    ⟨[0,1,2,4,5,6,7,8],rfl,(by repeat first|exact trivial|refine ⟨rfl,?_⟩),⟨.inr rfl,.inr rfl,.inr rfl,.inr rfl,.inr rfl,.inr rfl,.inr rfl,.inr (aE rfl (bU _ (bJ _)) (bJ _)),trivial⟩,by decide,lH _⟩ ?_
  refine mX 2 0 rfl rfl rfl (by rw [cQ,hel]) (hC (bJ _)) ?_
  refine uW 2 1 3 rfl rfl (by decide) ?_
  rw [hL]
  (repeat' (first|refine wB ?_|(refine rg 4 (iL T rfl (qW T rfl (mV ?_))))|refine nZ ?_));refine dA (X := {i : Nat // i ≤ L.length}) (fun i => [(1, .i k), (4, .ptr 0 0), (5, .ptr 1 0), (43, .rowE (fP L) 3), (44, .i (fP L).length), (45, .i i.1)]) (fun i => [.cells [.sl 2 0 1 1, .sl 5 0 1 3], .cells [.rowE (ints (bs.eraseIdx k)) 1, .sl 6 0 i.1 3], .arr (ints [x1]) 1, .arr (ints [x2]) 1, .arr (eZ [(a1, a2)]) 2, .arr [[.sl 3 0 1 1, .i 0, .sl 4 0 1 2]] 3, .arr (fP (R.take i.1)) 3]) (fun i => L.length - i.1) ⟨0, cT _⟩
    ⟨[1,2,3,4,5,6,8],rfl,(by repeat first|exact trivial|refine ⟨rfl,?_⟩),⟨.inr rfl,.inr rfl,.inr rfl,.inr rfl,.inr rfl,.inr rfl,.inr rfl,trivial⟩,by decide,lH _⟩ ?_
  rintro ⟨i,hi⟩;dsimp only;have hLl : (fP L).length = L.length := eS _;have hRl : R.length = L.length := by rw [hR,bC]
  by_cases hlt : i < L.length
  · have hg := qH hlt;have hv1 := hp' L[i] (aI hlt);have hv2 := hc' L[i] (aI hlt);have hRs : R.take (i + 1) = R.take i ++ [YJ k L[i]] := by rw [aX (by omega)];simp [hR]
    have hwm := hsz' _ (aI hlt);generalize L[i] = v at *;have hcw := CJ v hwm;obtain ⟨p,m,c⟩ := v;dsimp only at hv1 hv2 hcw hRs;have e1 := U1 (TD p k (k + 1) (by omega) (by omega) (by intro h;rw [h] at hv1;simp at hv1;omega))
    have e2 := U1 (zD9 c k (k + 1) (by omega) (by omega) (by intro h;rw [h] at hv2;simp at hv2;omega))
    rw [D5,show p.length - (k + 1 - k) = p.length - 1 by omega,show ((k + 1 : Nat) : Int) = (k : Int) + 1 by omega] at e1
    rw [D5,show c.length - (k + 1 - k) = c.length - 1 by omega,show ((k + 1 : Nat) : Int) = (k : Int) + 1 by omega] at e2
    (repeat' (first|refine wS ?_|refine wB ?_|refine wK ?_|(refine wC rfl ?_ ?_<;>(intro hb;(try simp only [nm] at hb);try (exfalso;omega)))|(refine rg 5 (vV (aO rfl rfl) ?_))|(refine rg 6 (vV (ix T rfl (by omega) (kW _) hg) (lW T rfl (bS (bO T rfl) rfl (aT T rfl rfl rfl rfl rfl rfl (by decide) rfl ?_)))))|(refine rg 7 (lW T rfl (bS (by exact fK rfl rfl hcw (.inr ⟨rfl,rfl,by simp⟩)) rfl ?_));refine aT T rfl rfl rfl rfl rfl rfl (by decide) rfl ?_)|refine nZ ?_));all_goals try (exfalso;omega)
    refine fE [(1, .i k), (4, .ptr 0 0), (5, .ptr 1 0), (8, .ptr 7 0), (43, .rowE (fP L) 3), (44, .i (fP L).length), (45, .i i)] [.cells [.sl 2 0 1 1, .sl 5 0 1 3], .cells [.rowE (ints (bs.eraseIdx k)) 1, .sl 6 0 i 3], .arr (ints [x1]) 1, .arr (ints [x2]) 1, .arr (eZ [(a1, a2)]) 2, .arr [[.sl 3 0 1 1, .i 0, .sl 4 0 1 2]] 3, .arr (fP (R.take i)) 3, .cells [.sl 8 0 p.length 1, .i m, .sl 9 0 c.length 2], .arr (ints p) 1, .arr (eZ c) 2]
      ⟨[0,1,2,3,4,5,6,7,8,9],rfl,(by repeat first|exact trivial|refine ⟨rfl,?_⟩),⟨.inr rfl,.inr rfl,.inr rfl,.inr rfl,.inr rfl,.inr rfl,.inr (aE rfl rfl (bH _)),.inr rfl,.inr (aE rfl (bU _ (bJ _)) (bJ _)),.inr (aE rfl (bU _ (eY _)) (eY _)),trivial⟩,by decide,lH _⟩ ?_
    repeat' (first|(refine tX (id := 8) 78 [[],[0],[],[],[3],rN 5,[],[6],[],[],[9],rN 11,rN 8,rN 13] (rM 51 13) [[],[],[51,52],[51,52,53],[51,52,53],[],rM 51 6,rM 51 6,rM 51 8,rM 51 9,rM 51 9,[],rM 59 4,[]] [(5,8),(11,9),(13,7)] cC rfl (by decide +kernel) (fN rfl rfl rfl rfl (by exact bY T rfl rfl rfl) ?_);refine fN rfl rfl rfl rfl (by exact aQ T rfl rfl rfl rfl) ?_;refine fN rfl rfl rfl rfl (by exact bX rfl) ?_;refine fN rfl rfl rfl rfl (by exact bX rfl) ?_;refine fN rfl rfl rfl rfl (by exact bT rfl rfl (by omega) (by omega)) ?_;refine wW rfl rfl rfl rfl (aP rfl) (by exact GK [8] rfl rfl (e1) (fun _=>rfl) rfl (by decide) (fun _=>⟨.inr (aE rfl rfl (bJ _)),trivial⟩) (by simp) rfl (fun _ _=>rfl) rfl rfl) ?_;refine fN rfl rfl rfl rfl (by exact bY T rfl rfl rfl) ?_;refine fN rfl rfl rfl rfl (by exact aQ T rfl rfl rfl rfl) ?_;refine fN rfl rfl rfl rfl (by exact bX rfl) ?_;refine fN rfl rfl rfl rfl (by exact bX rfl) ?_;refine fN rfl rfl rfl rfl (by exact bT rfl rfl (by omega) (by omega)) ?_;refine wW rfl rfl rfl rfl (aP rfl) (by exact GK [9] rfl rfl (e2) (fun _=>rfl) rfl (by decide) (fun _=>⟨.inr (aE rfl rfl (eY _)),trivial⟩) (by simp) rfl (fun _ _=>rfl) rfl rfl) ?_;refine fN rfl rfl rfl rfl (by exact bY T rfl rfl rfl) ?_;refine CF rfl rfl rfl rfl (aP rfl) T rfl rfl rfl rfl rfl rfl (by decide) rfl ?_;refine D8 rfl rfl rfl (by exact rfl) ?_;refine fW T rfl (aT T rfl rfl rfl rfl rfl rfl (by decide) rfl ?_))|refine nZ ?_)
    show AW _ _ _ _ _ _;have l1 : (p.eraseIdx k).length = p.length - 1 := by rw [fR,if_pos (by omega)]
    have l2 : (c.eraseIdx k).length = c.length - 1 := by rw [fR,if_pos (by omega)]
    refine fE [(1, .i k), (4, .ptr 0 0), (5, .ptr 1 0), (8, .ptr 7 0), (43, .rowE (fP L) 3), (44, .i (fP L).length), (45, .i i)] [.cells [.sl 2 0 1 1, .sl 5 0 1 3], .cells [.rowE (ints (bs.eraseIdx k)) 1, .sl 6 0 i 3], .arr (ints [x1]) 1, .arr (ints [x2]) 1, .arr (eZ [(a1, a2)]) 2, .arr [[.sl 3 0 1 1, .i 0, .sl 4 0 1 2]] 3, .arr (fP (R.take i)) 3, .cells [.sl 8 0 (p.length - 1) 1, .i m, .sl 9 0 (c.length - 1) 2], .arr (ints (p.eraseIdx k)) 1, .arr (eZ (c.eraseIdx k)) 2]
      ⟨[0,1,2,3,4,5,6,7,8,9],rfl,(by repeat first|exact trivial|refine ⟨rfl,?_⟩),⟨.inr rfl,.inr rfl,.inr rfl,.inr rfl,.inr rfl,.inr rfl,.inr (aE rfl rfl (bH _)),.inr rfl,.inr (aE rfl (bU _ (bJ _)) (bJ _)),.inr (aE rfl (bU _ (eY _)) (eY _)),trivial⟩,by decide,lH _⟩ ?_
    refine mX 7 0 rfl rfl rfl (by rw [cQ,l1]) (hC (bJ _)) ?_
    refine mX 7 2 rfl rfl rfl (by rw [gB,l2]) (hC (eY _)) ?_
    have hW : fP (R.take (i + 1)) = fP (R.take i) ++ [[.rowE (ints (p.eraseIdx k)) 1,.i m,.rowE (eZ (c.eraseIdx k)) 2]] := by rw [hRs,fP,dI];rfl
    have hTl : (fP (R.take i)).length = i := by rw [eS,bD];omega
    generalize fP (R.take i) = Q at *
    (repeat' (first|(refine rg 9 (iL T rfl (lW T rfl (bS (by exact bB T rfl rfl (by decide) (by decide) rfl rfl rfl) rfl ?_)));refine gE T rfl rfl rfl rfl rfl rfl (by omega) (kV.whole rfl rfl) rfl (by simp;omega) (by simp;omega) rfl ?_;refine fW T rfl (aT T rfl rfl rfl rfl rfl rfl (by decide) rfl ?_))|(refine rg 10 (vV (bT rfl rfl (by omega) (by omega)) (mV ?_)))|refine nZ ?_));all_goals try (exfalso;omega)
    exact ⟨⟨i + 1,hlt⟩,by dsimp only;omega,⟨[0,1,2,3,4,5,11],rfl,(by repeat first|exact trivial|refine ⟨rfl,?_⟩),⟨.inr rfl,.inr rfl,.inr rfl,.inr rfl,.inr rfl,.inr rfl,.inr (aE rfl (by dsimp only;rw [hW];exact mJ hTl.symm) (bH _)),trivial⟩,by decide,lH _⟩⟩
  · obtain rfl : i = L.length := by omega
    rw [show R.take L.length = R by rw [← hRl,dQ]]
    show AW _ _ _ _ _ _;refine mX 1 1 rfl rfl rfl (by rw [eS,hRl]) (hC (bH _)) ?_
    generalize gD R = R' at *
    (repeat' (first|refine wS ?_|refine wR ?_|refine wE ?_|(refine wC rfl ?_ ?_<;>(intro hb;(try simp only [nm] at hb);try (exfalso;omega)))|(refine rg 5 (vV (aO rfl rfl) ?_))|(refine rg 11 (iL T rfl (vV (kC (ho)) (fW T rfl (aT T rfl rfl rfl rfl rfl rfl (by decide) rfl ?_)))))|(refine mD (id := 12) 78 [[],[],[0]] [76,77] [[],[76],[77]] [(2,0)] cC rfl (by decide +kernel) (bZ rfl rfl rfl rfl (by exact aQ T rfl rfl rfl rfl) ?_);refine bZ rfl rfl rfl rfl (by exact aQ T rfl rfl rfl rfl) ?_;refine sU rfl rfl rfl rfl (aP rfl) T rfl rfl rfl rfl rfl rfl (by decide) rfl ?_;refine pS rfl rfl rfl (by exact rfl) ?_;refine aT T rfl rfl rfl rfl rfl rfl (by decide) rfl ?_)|refine nZ ?_));all_goals first | (exfalso;omega) | exact ⟨.inl rfl,[2,3,4,5],_,rfl,rfl,rfl,⟨.inr rfl,.inr rfl,.inr rfl,.inr rfl,trivial⟩,by decide,lH _⟩
end Go.Proofs.YtmmkhmilpeodnaaGreat
namespace Go.Ld
open Go.Ab Go.Proofs.YtmmkhmilpeodnaaGreat
theorem wO {L : List G} {j : Int} {i : Nat} {x : G} (h : L[i]? = some x) (e : j = i) : (iY L)[0 + j.toNat]? = some (gA x) := by
  subst e;simp [h]
theorem C8 {L : List G} {j : Int} {i : Nat} {x : G} (e : j = i) : (iY L).set (0 + j.toNat) (gA x) = iY (L.set i x) := by
  subst e;simp [iY,qG]
abbrev GQ (l : List G) : Prop := l.Pairwise (fun a b => cG a b ≤ 0)
def L7 (l : List G) : Prop := ∀ a b,a ∈ l → b ∈ l → cG a b = 0 → a = b
theorem zE2 {a : G} : cG a a = 0 := oZ.rfl' _
theorem IS (a b : G) : cG a b = - cG b a := oZ.neg _ _
theorem LL {a b d : G} (h1 : cG a b ≤ 0) (h2 : cG b d ≤ 0) : cG a d ≤ 0 := oZ.le_tr (a := a.1.headD 0) (b := b.1.headD 0) (d := d.1.headD 0) h1 h2
theorem FG (w : G) : ∀ {l : List G}, GQ l → GQ (V0 cG w l)
  | [],_ => kY _ _
  | x :: l,hl => by
    have hl' := eR.1 hl;unfold V0;split
    · rename_i hw;refine eR.2 ⟨fun y hy => ?_,hl⟩
      rcases bN.1 hy with rfl | hy
      · exact hw
      · exact LL hw (hl'.1 y hy)
    · rename_i hw;refine eR.2 ⟨fun y hy => ?_,FG w hl'.2⟩
      rcases bN.1 ((xT cG w l).mem_iff.1 hy) with rfl | hy
      · have := IS x y;omega
      · exact hl'.1 y hy
theorem qP : ∀ l : List G, GQ (dW cG l)
  | [] => .nil
  | x :: l => FG x (qP l)
theorem DZ {l m : List G} (hd : L7 l) (hp : m.Perm l) (h : GQ m) : dW cG l = m := by
  refine (List.Perm.eq_of_pairwise (le := fun a b => cG a b ≤ 0) (fun a b ha hb h1 h2 => hd a b (hp.mem_iff.1 ha) ((dS cG l).mem_iff.1 hb) (by have := IS a b;omega)) h (qP l) (hp.trans (dS cG l).symm)).symm
theorem L7.sub {l m : List G} (h : L7 l) (hs : ∀ x,x ∈ m → x ∈ l) : L7 m := fun a b ha hb e => h a b (hs a ha) (hs b hb) e
theorem L7.perm {l m : List G} (h : L7 l) (hp : m.Perm l) : L7 m := h.sub fun x hx => hp.mem_iff.1 hx
theorem IQ {a b : G} (h : cG a b < 0) : cG a b ≤ 0 := by omega
theorem VM {S1 S2 : List G} {x : G} (h : GQ (S1 ++ S2)) (h1 : ∀ y,y ∈ S1 → cG y x ≤ 0) (h2 : ∀ y,y ∈ S2 → cG x y ≤ 0) : GQ (S1 ++ x :: S2) := by
  obtain ⟨a,b,c⟩ := eU.1 h;refine eU.2 ⟨a,eR.2 ⟨h2,b⟩,fun p hp q hq => ?_⟩
  rcases bN.1 hq with rfl | hq
  · exact h1 p hp
  · exact c p hp q hq
theorem PC {A : List G} {y : G} (h : GQ (A ++ [y])) : ∀ z,z ∈ A ++ [y] → cG z y ≤ 0 := by
  intro z hz;obtain ⟨a,b,c⟩ := eU.1 h;rcases bF.1 hz with hz | hz
  · exact c z hz y (by simp)
  · rw [cD.1 hz,zE2];exact fG _
theorem zL7 {a b : G} (h : ¬ cG a b < 0) : cG b a ≤ 0 := by have := IS a b;omega
def L1 (l : List G) (a b : Nat) : List G := l.take a ++ (dW cG ((l.drop a).take (b - a)) ++ l.drop b)
theorem O5 {l : List G} : (dW cG l).length = l.length := (dS cG l).length_eq
theorem MJ {l : List G} {a : Nat} (h : a ≤ l.length) : L1 l a a = l := by unfold L1;simp [dW]
theorem PT {l : List G} {a : Nat} (h : a < l.length) : L1 l a (a + 1) = l := by
  unfold L1;rw [show a + 1 - a = 1 by omega,aU h]
  simp only [nN,jU,dW,V0];rw [List.singleton_append,← aU h,bM]
structure GZ (l : List G) (a i : Nat) (x : G) (q : List G × List G) : Prop where
  eq : q.1 ++ q.2 = dW cG ((l.drop a).take (i - a))
  gt : ∀ y,y ∈ q.2 → cG x y < 0
def oN (l : List G) (a i : Nat) (x : G) (q : List G × List G) : List G := (l.take a ++ q.1) ++ x :: (q.2 ++ l.drop (i + 1))
theorem ID {l : List G} {a i : Nat} {x : G} (h1 : a < i) (h2 : i < l.length) (hx : l[i]? = some x) : GZ l a i x (dW cG ((l.drop a).take (i - a)),[]) ∧ L1 l a i = oN l a i x (dW cG ((l.drop a).take (i - a)),[]) := by
  refine ⟨⟨by simp,fun y hy => by cases hy⟩,?_⟩
  unfold L1 oN;have : l.drop i = x :: l.drop (i + 1) := by
    rw [aA h2] at hx;rw [aU h2];cases hx;rfl
  simp [this]
theorem FF {l : List G} {a i : Nat} {x : G} {q : List G × List G} (h : GZ l a i x q) (h1 : a < i) (h2 : i < l.length) : q.1.length + q.2.length = i - a := by
  have := congrArg List.length h.eq;simp only [aF,O5,bD,dR] at this;omega
theorem NQ {l : List G} {a i : Nat} {x : G} {q : List G × List G} (h : GZ l a i x q) (h1 : a < i) (h2 : i < l.length) : (oN l a i x q).length = l.length := by
  have := FF h h1 h2;unfold oN;simp only [aF,List.length_cons,bD,dR];omega
theorem KV {l : List G} (hdl : L7 l) {a i : Nat} {x : G} {q : List G × List G} (h : GZ l a i x q) (h1 : a < i) (h2 : i < l.length) (hx : l[i]? = some x) (hs : ∀ y,y ∈ q.1 → cG y x ≤ 0) : oN l a i x q = L1 l a (i + 1) := by
  unfold oN L1;have e : (l.drop a).take (i + 1 - a) = (l.drop a).take (i - a) ++ [x] := by
    rw [show i + 1 - a = (i - a) + 1 by omega,UX]
    rw [eF,show a + (i - a) = i by omega,hx];rfl
  rw [e];have hp : (q.1 ++ x :: q.2).Perm ((l.drop a).take (i - a) ++ [x]) := by
    refine List.perm_middle.trans ?_;rw [h.eq];exact ((dS cG _).cons x).trans (E8 _ _).symm
  have hu : GQ (q.1 ++ x :: q.2) := VM (by rw [h.eq];exact qP _) hs (fun y hy => IQ (h.gt y hy))
  rw [DZ (hdl.sub fun y hy => by rw [← e] at hy;exact eV (fF hy)) hp hu]
  simp
theorem SD {l : List G} {a i : Nat} {x y : G} {S : List G} {q : List G × List G} (h : GZ l a i x q) (e : q.1 = S ++ [y]) (hc : ¬ cG x y < 0) : ∀ z,z ∈ q.1 → cG z x ≤ 0 := by
  have hu : GQ (q.1 ++ q.2) := by rw [h.eq];exact qP _
  have hu1 : GQ q.1 := (eU.1 hu).1;rw [e] at hu1;intro z hz;rw [e] at hz;exact LL (PC hu1 z hz) (zL7 hc)
theorem NP {l : List G} {a i : Nat} {x y : G} {S : List G} {q : List G × List G} (h : GZ l a i x q) (e : q.1 = S ++ [y]) (hc : cG x y < 0) : GZ l a i x (S,y :: q.2) := by
  refine ⟨?_,fun z hz => ?_⟩
  · rw [← h.eq,e];simp
  · rcases bN.1 hz with rfl | hz
    · exact hc
    · exact h.gt z hz
end Go.Ld
namespace Go.Proofs.YtmmkhmilpeodnaaGreat
open Go Go.Ab Go.Ld
attribute [local irreducible] VC AW cF aR
set_option maxHeartbeats 4000000
abbrev IL : AV := .clo (.func 109) [] []
def zF4 (g : G) : Prop := 0 < g.1.length ∧ g.1.length ≤ 1000000
theorem VU (a b : G) (ha : zF4 a) (hb : zF4 b) : aR Tryz.prog 109 [OV a,OV b] [] (.i (cG a b)) [] := by
  obtain ⟨p,ws⟩ := a;obtain ⟨q,vs⟩ := b;cases p with
  | nil => exact absurd ha.1 (by simp)
  | cons x p =>
    cases q with
    | nil => exact absurd hb.1 (by simp)
    | cons y q =>
      have hc := AE x y;have h1 : (ints (x :: p)).length = p.length + 1 := by simp
      have h2 : (ints (y :: q)).length = q.length + 1 := by simp
      have g1 : (ints (x :: p))[(0 : Int).toNat]? = some [AV.i x] := rfl;have g2 : (ints (y :: q))[(0 : Int).toNat]? = some [AV.i y] := rfl;refine bQ T Tryz.func109 rfl rfl rfl rfl ?_
      (repeat' (first|refine wS ?_|refine wR ?_|(refine rg 0 (bS (cE rfl rfl) rfl (bS (cE rfl rfl) rfl (aV ?_))))|(refine bL (id := 1) 14 [[],[0],[0,1],[0,1,2],[],[4],[4,5],[4,5,6],rN 8] (rM 5 9) [[],[],[],[],rM 5 4,rM 5 4,rM 5 4,rM 5 4,[]] cC rfl (by decide +kernel) (dP T rfl (dO T rfl (dV rfl (ix T rfl (by omega) (cH _) g1) (dO T rfl (dP T rfl (dO T rfl (dV rfl (ix T rfl (by omega) (cH _) g2) (dO T rfl (dV rfl (kC (hc)) ?_)))))))));refine dE ?_;refine aV ?_)|refine nZ ?_));all_goals first | (exfalso;omega) | exact rQ
theorem NN (l : List G) (a b : Nat) (hab : a ≤ b) (hb : b ≤ l.length) (hdl : L7 l) (hl : l.length ≤ 100000) (hw : ∀ w,w ∈ l → zF4 w) :
    aR Tryz.prog 163 [.sl 0 0 l.length 2,.i a,.i b,IL] [.arr (iY l) 2] (.tup []) [.arr (iY (L1 l a b)) 2] := by
  rcases iD a b with hlt | hge
  · refine bQ T Tryz.func163 rfl rfl rfl rfl ?_
    (repeat' (first|refine wS ?_|refine wB ?_|(refine iA 0 rfl rfl rfl (by omega) (by omega) ?_)|refine nZ ?_));refine dA (X := {i : Nat // a + 1 ≤ i ∧ i ≤ b}) (fun i => [(0,.sl 0 0 l.length 2),(1,.i a),(2,.i b),(3,IL),(8,.i i.1)]) (fun i => [.arr (iY (L1 l a i.1)) 2]) (fun i => b - i.1) ⟨a + 1,by omega,by omega⟩ ⟨[0],rfl,by (repeat (first | exact trivial | refine ⟨rfl,?_⟩)),⟨.inr (aE rfl (by dsimp only;rw [PT (by omega)]) (eC _)),trivial⟩,by decide,lA⟩ ?_
    rintro ⟨i,h1,h2⟩;dsimp only;by_cases hi : i < b
    · (repeat' (first|refine wS ?_|refine wB ?_|refine wK ?_|(refine wC rfl (fun hb => ?_) (fun hb => ?_) <;> (((try simp only [nm] at hb);try (exfalso;omega))))|(refine rg 1 (dX rfl (vV (aO rfl rfl) ?_)))|(refine rg 3 (mW rfl (aV ?_)))|(refine nZ ?_)));all_goals try (exfalso;omega)
      have hil : i < l.length := by omega
      obtain ⟨x,hx⟩ : ∃ x,l[i]? = some x := ⟨_,aA hil⟩;obtain ⟨s1,s2⟩ := ID (a := a) (by omega) hil hx
      refine dA (X := {q : List G × List G // GZ l a i x q}) (fun q => [(0,.sl 0 0 l.length 2),(1,.i a),(2,.i b),(3,IL),(8,.i i),(9,.i ((a + q.1.1.length : Nat) : Int))]) (fun q => [.arr (iY (oN l a i x q.1)) 2]) (fun q => q.1.1.length) ⟨_,s1⟩ ⟨[0],rfl,⟨rfl,rfl,rfl,rfl,rfl,by dsimp only;rw [O5,bD,dR,show a + min (i - a) (l.length - a) = i by omega];rfl,trivial⟩,⟨.inr (aE rfl (by dsimp only;rw [s2]) (eC _)),trivial⟩,by decide,lA⟩ ?_
      rintro ⟨⟨S1,S2⟩,hq⟩;dsimp only;have hln := FF hq (by omega) hil
      dsimp only at hln;have hwx : zF4 x := hw x (aM hx);have hal : (l.take a).length = a := by rw [bD];omega
      rcases List.eq_nil_or_concat S1 with rfl | ⟨S,y,rfl⟩
      · have ee := KV hdl hq (by omega) hil hx (fun y hy => by cases hy)
        have hJ : ((a + ([] : List G).length : Nat) : Int) = a := by simp
        generalize ((a + ([] : List G).length : Nat) : Int) = J at *;generalize oN l a i x ([],S2) = L at *
        (repeat' (first|refine wS ?_|refine wE ?_|refine wU ?_|(refine bL (id := 4) 53 zQ6 (rM 18 17) zQ7 cC rfl (by decide +kernel) (dN rfl (dN rfl (dV rfl (xY rfl rfl (by omega)) (dN rfl (tG rfl (tG rfl (tG rfl (tG rfl (dG ?_)))))))));refine tG rfl (tG rfl (tG rfl (tG rfl (tG rfl (tG rfl (tG rfl (dV rfl (fX rfl rfl) (dE ?_)))))))))|(refine iA 2 rfl rfl rfl (by omega) (by omega) ?_)|refine nZ ?_));all_goals first | (exfalso;omega) | exact ⟨⟨i + 1,by omega,by omega⟩,by dsimp only;omega,⟨[0],rfl,by (repeat (first | exact trivial | refine ⟨rfl,?_⟩)),⟨.inr (aE rfl (by dsimp only;rw [ee]) (eC _)),trivial⟩,by decide,lA⟩⟩
      · rw [List.concat_eq_append] at *;have hy : y ∈ l := by
          have h3 : y ∈ dW cG ((l.drop a).take (i - a)) := by rw [← hq.eq];simp
          exact eV (fF ((dS _ _).mem_iff.1 h3))
        have hc := VU x y hwx (hw y hy);have hL : oN l a i x (S ++ [y],S2) = (l.take a ++ S) ++ y :: x :: (S2 ++ l.drop (i + 1)) := by unfold oN;simp
        have hJ : ((a + (S ++ [y]).length : Nat) : Int) = ((a + S.length + 1 : Nat) : Int) := by simp;omega
        have hAl : a + S.length = (l.take a ++ S).length := by rw [aF,hal]
        have hlen := NQ hq (by omega) hil
        by_cases h0 : cG x y < 0
        · have ee := NP hq rfl h0;have q1 := wO (L := oN l a i x (S ++ [y],S2)) (j := ((a + (S ++ [y]).length : Nat) : Int)) (i := a + S.length + 1) (x := x) (by rw [hL,show (l.take a ++ S) ++ y :: x :: (S2 ++ l.drop (i + 1)) = ((l.take a ++ S) ++ [y]) ++ x :: (S2 ++ l.drop (i + 1)) by simp];exact mY _ _ _ (by simp;omega)) hJ
          have q2 := wO (L := oN l a i x (S ++ [y],S2)) (j := ((a + (S ++ [y]).length : Nat) : Int) - 1) (i := a + S.length) (x := y) (by rw [hL];exact mY _ _ _ hAl) (by omega)
          have t1 := C8 (L := oN l a i x (S ++ [y],S2)) (j := ((a + (S ++ [y]).length : Nat) : Int)) (i := a + S.length + 1) (x := y) hJ;have e1 : (oN l a i x (S ++ [y],S2)).set (a + S.length + 1) y = (l.take a ++ S) ++ y :: y :: (S2 ++ l.drop (i + 1)) := by
            rw [hL,show (l.take a ++ S) ++ y :: x :: (S2 ++ l.drop (i + 1)) = ((l.take a ++ S) ++ [y]) ++ x :: (S2 ++ l.drop (i + 1)) by simp,nD _ _ _ _ (by simp;omega)];simp
          rw [e1] at t1;have q3 := wO (L := (l.take a ++ S) ++ y :: y :: (S2 ++ l.drop (i + 1))) (j := ((a + (S ++ [y]).length : Nat) : Int) - 1) (i := a + S.length) (x := y) (mY _ _ _ hAl) (by omega)
          have t2 := C8 (L := (l.take a ++ S) ++ y :: y :: (S2 ++ l.drop (i + 1))) (j := ((a + (S ++ [y]).length : Nat) : Int) - 1) (i := a + S.length) (x := x) (by omega)
          rw [nD _ _ _ _ hAl,show (l.take a ++ S) ++ x :: y :: (S2 ++ l.drop (i + 1)) = oN l a i x (S,y :: S2) by unfold oN;simp,← t1] at t2
          rw [← t1] at q3;have hJ2 : ((a + (S ++ [y]).length : Nat) : Int) - 1 = ((a + S.length : Nat) : Int) := by omega
          have hJ3 : ((a + (S ++ [y]).length : Nat) : Int) < l.length := by omega
          have hJ4 : (a : Int) < ((a + (S ++ [y]).length : Nat) : Int) := by omega
          clear hJ hL;generalize ((a + (S ++ [y]).length : Nat) : Int) = J at *;generalize cG x y = z at *;generalize oN l a i x (S ++ [y],S2) = L at *
          (repeat' (first|refine wS ?_|refine wB ?_|refine wK ?_|(refine wC rfl ?_ ?_<;>(intro hb;(try simp only [nm] at hb);try (exfalso;omega)))|(refine bL (id := 4) 53 zQ6 (rM 18 17) zQ7 cC rfl (by decide +kernel) (dN rfl (dN rfl (dV rfl (fT rfl rfl) (dM ?_))));refine mU rfl rfl rfl rfl ?_ ?_<;>(intro hb;rw [hb];(try simp only [nm] at hb);try (exfalso;omega))<;>(refine tM ?_);(all_goals (refine tN rfl (tN rfl (dT rfl (by exact aK T rfl rfl rfl rfl rfl (by omega) (by omega)) ?_));refine dT rfl (by exact aQ T rfl rfl (bG rfl q1) rfl) ?_;refine tN rfl (tN rfl (dT rfl (cM rfl rfl (by omega) (by omega)) (dT rfl (by exact aK T rfl rfl rfl rfl rfl (by omega) (by omega)) ?_)));refine dT rfl (by exact aQ T rfl rfl (bG rfl q2) rfl) ?_;refine dT rfl (kC (hc)) (dT rfl (aO rfl rfl) (dV rfl (jF rfl rfl) (dE ?_))))))|(refine mD (id := 6) 53 zQ8 (rM 37 15) zQ9 [(15,0)] cC rfl (by decide +kernel) (bZ rfl rfl rfl rfl (by exact bX rfl) ?_);refine bZ rfl rfl rfl rfl (by exact bX rfl) ?_;refine bZ rfl rfl rfl rfl (by exact bX rfl) ?_;refine bZ rfl rfl rfl rfl (by exact bX rfl) ?_;refine bZ rfl rfl rfl rfl (by exact cM rfl rfl (by omega) (by omega)) ?_;refine bZ rfl rfl rfl rfl (by exact bX rfl) ?_;refine bZ rfl rfl rfl rfl (by exact bX rfl) ?_;refine bZ rfl rfl rfl rfl (by exact cM rfl rfl (by omega) (by omega)) ?_;refine bZ rfl rfl rfl rfl (by exact aK T rfl rfl rfl rfl rfl (by omega) (by omega)) ?_;refine bZ rfl rfl rfl rfl (by exact aQ T rfl rfl (bG rfl q2) rfl) ?_;refine bZ rfl rfl rfl rfl (by exact bX rfl) ?_;refine bZ rfl rfl rfl rfl (by exact bX rfl) ?_;refine bZ rfl rfl rfl rfl (by exact aK T rfl rfl rfl rfl rfl (by omega) (by omega)) ?_;refine bZ rfl rfl rfl rfl (by exact aQ T rfl rfl (bG rfl q1) rfl) ?_;refine bZ rfl rfl rfl rfl (by exact aK T rfl rfl rfl rfl rfl (by omega) (by omega)) ?_;refine sU rfl rfl rfl rfl (aP rfl) T rfl rfl rfl rfl rfl rfl (by decide) (rV rfl q1 rfl) ?_;refine pS rfl rfl rfl (by exact rfl) ?_;refine vV (by exact aK T rfl rfl rfl rfl rfl (by omega) (by omega)) ?_;refine aT T rfl rfl rfl rfl rfl rfl (by decide) (lC rfl q3 rfl) ?_)|(refine rg 5 (mW rfl (vV (cM rfl rfl (by omega) (by omega)) (aV ?_))))|refine nZ ?_));all_goals first | (exfalso;omega) | exact ⟨⟨_,ee⟩,by dsimp only;simp,⟨[0],rfl,⟨rfl,rfl,rfl,rfl,rfl,by dsimp only;rw [← hJ2];try rfl,trivial⟩,⟨.inr (aE rfl (by dsimp only;rw [← t2];try rfl) (eC _)),trivial⟩,by decide,lA⟩⟩
        · have ee := KV hdl hq (by omega) hil hx (SD hq rfl h0)
          have q1 := wO (L := oN l a i x (S ++ [y],S2)) (j := ((a + (S ++ [y]).length : Nat) : Int)) (i := a + S.length + 1) (x := x) (by rw [hL,show (l.take a ++ S) ++ y :: x :: (S2 ++ l.drop (i + 1)) = ((l.take a ++ S) ++ [y]) ++ x :: (S2 ++ l.drop (i + 1)) by simp];exact mY _ _ _ (by simp;omega)) hJ
          have q2 := wO (L := oN l a i x (S ++ [y],S2)) (j := ((a + (S ++ [y]).length : Nat) : Int) - 1) (i := a + S.length) (x := y) (by rw [hL];exact mY _ _ _ hAl) (by omega)
          have hJ3 : ((a + (S ++ [y]).length : Nat) : Int) < l.length := by omega
          have hJ4 : (a : Int) < ((a + (S ++ [y]).length : Nat) : Int) := by omega
          clear hJ hL;generalize ((a + (S ++ [y]).length : Nat) : Int) = J at *;generalize cG x y = z at *;generalize oN l a i x (S ++ [y],S2) = L at *
          (repeat' (first|refine wS ?_|refine wE ?_|(refine wC rfl ?_ ?_<;>(intro hb;(try simp only [nm] at hb);try (exfalso;omega)))|(refine bL (id := 4) 53 zQ6 (rM 18 17) zQ7 cC rfl (by decide +kernel) (dN rfl (dN rfl (dV rfl (fT rfl rfl) (dM ?_))));refine mU rfl rfl rfl rfl ?_ ?_<;>(intro hb;rw [hb];(try simp only [nm] at hb);try (exfalso;omega))<;>(refine tM ?_);(all_goals (refine tN rfl (tN rfl (dT rfl (by exact aK T rfl rfl rfl rfl rfl (by omega) (by omega)) ?_));refine dT rfl (by exact aQ T rfl rfl (bG rfl q1) rfl) ?_;refine tN rfl (tN rfl (dT rfl (cM rfl rfl (by omega) (by omega)) (dT rfl (by exact aK T rfl rfl rfl rfl rfl (by omega) (by omega)) ?_)));refine dT rfl (by exact aQ T rfl rfl (bG rfl q2) rfl) ?_;refine dT rfl (kC (hc)) (dT rfl (aO rfl rfl) (dV rfl (jF rfl rfl) (dE ?_))))))|(refine iA 2 rfl rfl rfl (by omega) (by omega) ?_)|refine nZ ?_));all_goals first | (exfalso;omega) | exact ⟨⟨i + 1,by omega,by omega⟩,by dsimp only;omega,⟨[0],rfl,by (repeat (first | exact trivial | refine ⟨rfl,?_⟩)),⟨.inr (aE rfl (by dsimp only;rw [ee]) (eC _)),trivial⟩,by decide,lA⟩⟩
    · obtain rfl : i = b := by omega
      (repeat' (first|refine wS ?_|refine wE ?_|(refine wC rfl ?_ ?_<;>(intro hb;(try simp only [nm] at hb);try (exfalso;omega)))|(refine rg 1 (dX rfl (vV (aO rfl rfl) ?_)))|refine nZ ?_));all_goals first | (exfalso;omega) | exact ⟨.inl rfl,[0],_,rfl,rfl,rfl,⟨.inr (aE rfl rfl (eC _)),trivial⟩,by decide,lA⟩ | exact ⟨.inr rfl,[0],_,rfl,rfl,rfl,⟨.inr (aE rfl rfl (eC _)),trivial⟩,by decide,lA⟩
  · obtain rfl : a = b := by omega
    rw [MJ hb];refine bQ T Tryz.func163 rfl rfl rfl rfl ?_
    (repeat' (first|refine wS ?_|refine wB ?_|(refine iA 0 rfl rfl rfl (by omega) (by omega) ?_)|refine nZ ?_));refine dA (X := Unit) (fun _ => [(0,.sl 0 0 l.length 2),(1,.i a),(2,.i a),(3,IL),(8,.i ((a : Int) + 1))]) (fun _ => [.arr (iY l) 2]) (fun _ => 0) () ⟨[0],rfl,by (repeat (first | exact trivial | refine ⟨rfl,?_⟩)),⟨.inr (aE rfl rfl (eC _)),trivial⟩,by decide,lA⟩ ?_
    intro _;dsimp only
    (repeat' (first|refine wS ?_|refine wE ?_|(refine wC rfl ?_ ?_<;>(intro hb;(try simp only [nm] at hb);try (exfalso;omega)))|(refine rg 1 (dX rfl (vV (aO rfl rfl) ?_)))|refine nZ ?_));all_goals first | (exfalso;omega) | exact ⟨.inl rfl,[0],_,rfl,rfl,rfl,⟨.inr (aE rfl rfl (eC _)),trivial⟩,by decide,lA⟩ | exact ⟨.inr rfl,[0],_,rfl,rfl,rfl,⟨.inr (aE rfl rfl (eC _)),trivial⟩,by decide,lA⟩
end Go.Proofs.YtmmkhmilpeodnaaGreat
namespace Go.Ld
open Go.Ab Go.Proofs.YtmmkhmilpeodnaaGreat
def XD (n : Nat) : Int := [0,1,2,2,3,3,3,3,4,4,4,4,4].getD n 0
end Go.Ld
namespace Go.Proofs.YtmmkhmilpeodnaaGreat
open Go Go.Ab Go.Ld
attribute [local irreducible] VC AW cF aR I8 ZB
set_option maxHeartbeats 4000000
theorem zK9 : I8 Tryz.prog 193 .u64 := by unfold I8;kernel_rfl
theorem zN3 : I8 Tryz.prog 5 .u8 := by unfold I8;kernel_rfl
theorem zL0 : ZB Tryz.prog 9 := by unfold ZB;kernel_rfl
theorem XE (n : Nat) (h : n ≤ 12) : aR Tryz.prog 157 [.v (.int .u64 n)] [] (.i (XD n)) [] := by
  rcases (by omega : n = 0 ∨ n = 1 ∨ n = 2 ∨ n = 3 ∨ n = 4 ∨ n = 5 ∨ n = 6 ∨ n = 7 ∨ n = 8 ∨ n = 9 ∨ n = 10 ∨ n = 11 ∨ n = 12) with rfl | rfl | rfl | rfl | rfl | rfl | rfl | rfl | rfl | rfl | rfl | rfl | rfl
  all_goals
    refine bQ T Tryz.func157 rfl rfl rfl rfl ?_
    (repeat' (first|refine wS ?_|refine wK ?_|refine wR ?_|refine wU ?_|(refine rg 0 (aV ?_))|(refine rg 1 (mW rfl (vV (jP rfl rfl) ?_)))|(refine rg 4 (mW rfl (vV (jP rfl rfl) ?_)))|(refine rg 7 (mW rfl (vV (jP rfl rfl) ?_)))|(refine rg 10 (dX rfl (vV (iO zK9 zN3 rfl rfl) (vV (by exact NW zL0 rfl rfl (by decide) rfl) ?_)));refine vV (iO zN3 vP rfl rfl) (vV (SN rfl rfl) (aV ?_)))|refine nZ ?_));all_goals first | (exfalso;omega) | exact rQ
theorem zB7 (n : Nat) (h : n ≤ 12) : aR Tryz.prog 116 [.v (.int .u64 n)] [] (.i (XD n)) [] := by
  have hc := XE n h;refine bQ T Tryz.func116 rfl rfl rfl rfl ?_
  (repeat' (first|refine wS ?_|refine wK ?_|refine wR ?_|refine wU ?_|(refine rg 0 (aV ?_))|(refine rg 2 (mW rfl (vV (kC (hc)) (aV ?_))))|refine nZ ?_));all_goals first | (exfalso;omega) | exact rQ
theorem zH2 (l : List G) (hdl : L7 l) (hl : l.length ≤ 12) (hw : ∀ g,g ∈ l → zF4 g) (lim : Int) : aR Tryz.prog 144 [.sl 0 0 l.length 2,.i 0,.i l.length,.i lim,IL] [.arr (iY l) 2] (.tup []) [.arr (iY (dW cG l)) 2] := by
  have hc := NN l 0 l.length (cT _) (aY _) hdl (by omega) hw
  rw [show L1 l 0 l.length = dW cG l by unfold L1;simp] at hc
  refine bQ T Tryz.func144 rfl rfl rfl rfl ?_
  (repeat' (first|refine wS ?_|refine wB ?_|(refine rg 0 (aV ?_))|(refine rg 1 (aV ?_))|refine nZ ?_));refine dA (X := Unit) (fun _ => [(0,.sl 0 0 l.length 2),(1,.i 0),(2,.i l.length),(3,.i lim),(4,IL)]) (fun _ => [.arr (iY l) 2]) (fun _ => 0) () ⟨[0],rfl,by (repeat (first | exact trivial | refine ⟨rfl,?_⟩)),⟨.inr (aE rfl rfl (eC _)),trivial⟩,by decide,lA⟩ ?_
  intro _;dsimp only
  (repeat' (first|refine wS ?_|refine wB ?_|refine wR ?_|(refine wC rfl ?_ ?_<;>(intro hb;(try simp only [nm] at hb);try (exfalso;omega)))|(refine rg 2 (dX rfl (vV (cM rfl rfl (by omega) (by omega)) (aV ?_))))|(refine rg 3 (mW rfl (vV (kJ rfl rfl) ?_)))|(refine rg 4 (dX rfl (dX rfl (fQ [0] rfl rfl (hc) rfl rfl (by decide) ⟨.inr (aE rfl rfl (eC _)),trivial⟩ (by simp) rfl ?_))))|refine nZ ?_));all_goals first | (exfalso;omega) | exact ⟨.inl rfl,[0],_,rfl,rfl,rfl,⟨.inr (aE rfl (bU _ (eC _)) (eC _)),trivial⟩,by decide,lA⟩
theorem WD (l : List G) (hdl : L7 l) (hl : l.length ≤ 12) (hw : ∀ g,g ∈ l → zF4 g) : aR Tryz.prog 108 [.sl 0 0 l.length 2,IL] [.arr (iY l) 2] (.tup []) [.arr (iY (dW cG l)) 2] := by
  have h1 := zB7 l.length hl;have h2 := zH2 l hdl hl hw (XD l.length);have hw1 : IntKind.u64.wrap (l.length : Int) = (l.length : Int) := DJ (by omega) (by omega)
  generalize XD l.length = q at *;refine bQ T Tryz.func108 rfl rfl rfl rfl ?_
  (repeat' (first|refine wS ?_|(refine rg 0 (mW rfl (qW T rfl (aV ?_))))|(refine rg 1 (dX rfl (mW rfl (vV (iO vP pX rfl hw1) (vV (by exact eO rfl rfl h1 rfl rfl rfl) ?_))));refine mW rfl (fQ [0] rfl rfl (h2) rfl rfl (by decide) ⟨.inr (aE rfl rfl (eC _)),trivial⟩ (by simp) rfl ?_))|refine nZ ?_));all_goals first | (exfalso;omega) | exact ⟨.inl rfl,[0],_,rfl,rfl,rfl,⟨.inr (aE rfl (bU _ (eC _)) (eC _)),trivial⟩,by decide,lA⟩ | exact ⟨.inr rfl,[0],_,rfl,rfl,rfl,⟨.inr (aE rfl (bU _ (eC _)) (eC _)),trivial⟩,by decide,lA⟩
end Go.Proofs.YtmmkhmilpeodnaaGreat
namespace Go.Ld
open Go.Ab Go.Proofs.YtmmkhmilpeodnaaGreat
def tI (g : G) : List G := mL g.1.length g
theorem HW {g : G} {k : Nat} (h : gX g = some k) : tI g = mM g k :: tI (jL g k) := by
  obtain ⟨h1,_,h3,_⟩ := jB h;have e : (jL g k).1.length = g.1.length - 1 := by show (g.1.eraseIdx k).length = _;rw [fR,if_pos h3]
  unfold tI;rw [e];obtain ⟨m,hm⟩ : ∃ m,g.1.length = m + 1 := ⟨g.1.length - 1,by omega⟩
  rw [hm,OP,mL,h]
theorem Q0 {g : G} (h : gX g = none) : tI g = [g] := by
  unfold tI;cases hl : g.1.length with
  | zero => rfl
  | succ m => rw [mL,h]
theorem FZ (g : G) (k : Nat) : gX (mM g k) = none := by unfold gX;rw [if_pos (.inl (by show 1 < 2;omega))]
theorem MX (g : G) (k : Nat) : tI (mM g k) = [mM g k] := Q0 (FZ g k)
structure nA (n : Nat) (o : List G) : Prop where
  ok : ∀ g,g ∈ o → vR n g
  nd : (o.flatMap (·.1)).Nodup
  ln : (o.flatMap (·.1)).length ≤ 12
  ws : ∀ g,g ∈ o → g.2.length ≤ 2000
theorem nW {o : List G} {g : G} {b : Int} (h : g ∈ o) (hb : b ∈ g.1) : b ∈ o.flatMap (·.1) := gM.2 ⟨g,h,hb⟩
theorem M5 : ∀ {o : List G}, (o.flatMap (·.1)).Nodup → ∀ {a b : G} {x : Int}, a ∈ o → b ∈ o → x ∈ a.1 → x ∈ b.1 → a = b
  | [],_,a,b,x,ha,_,_,_ => by cases ha
  | g :: o,h,a,b,x,ha,hb,hxa,hxb => by
    rw [bE] at h;obtain ⟨h1,h2,h3⟩ := cK.1 h;rcases bN.1 ha with e1 | ha' <;> rcases bN.1 hb with e2 | hb'
    · rw [e1,e2]
    · exact absurd rfl (h3 x (e1 ▸ hxa) x (nW hb' hxb))
    · exact absurd rfl (h3 x (e2 ▸ hxb) x (nW ha' hxa))
    · exact M5 h2 ha' hb' hxa hxb
theorem nA.dist {n : Nat} {o : List G} (h : nA n o) : L7 o := by
  intro a b ha hb e;have e' : a.1.headD 0 = b.1.headD 0 := (oZ.eq _ _).1 e;have hm : ∀ g : G,g.1 ≠ [] → g.1.headD 0 ∈ g.1 := fun g hg => by
    cases hq : g.1 with
    | nil => exact absurd hq hg
    | cons x l => simp
  exact M5 h.nd ha hb (hm a (h.ok a ha).ne) (e' ▸ hm b (h.ok b hb).ne)
theorem nA.len {n : Nat} {o : List G} (h : nA n o) : o.length ≤ (o.flatMap (·.1)).length := by
  have : ∀ o : List G,(∀ g,g ∈ o → g.1 ≠ []) → o.length ≤ (o.flatMap (·.1)).length := by
    intro o
    induction o with
    | nil => intro _;simp
    | cons g o ih =>
      intro hg;rw [bE,aF,List.length_cons];have := ih fun g h => hg g (aN _ h);have : 0 < g.1.length := fC.2 (hg g aS);omega
  exact this o fun g hg => (h.ok g hg).ne
theorem nA.hd {n : Nat} {o : List G} (h : nA n o) : ∀ g,g ∈ o → zF4 g := fun g hg => ⟨fC.2 (h.ok g hg).ne,by have := (h.ok g hg).ln;omega⟩
theorem nA.perm {n : Nat} {o p : List G} (h : nA n o) (hp : p.Perm o) : nA n p where
  ok g hg := h.ok g (hp.mem_iff.1 hg)
  nd := (hp.flatMap_right _).nodup_iff.2 h.nd
  ln := by rw [(hp.flatMap_right _).length_eq];exact h.ln
  ws g hg := h.ws g (hp.mem_iff.1 hg)
theorem vR.sz {n : Nat} {g : G} (h : vR n g) (hw : g.2.length ≤ 2000) : zF3 g := ⟨by have := h.ln;omega,by omega,fun w hw => (h.ws w hw).pl,fun w hw => (h.ws w hw).cl⟩
theorem pK {α : Type} {o : List α} {i : Nat} {x y : α} (h : o[i]? = some x) : ∃ A B,o = A ++ x :: B ∧ o.set i y = A ++ y :: B := by
  obtain ⟨hi,e⟩ := aB.1 h;refine ⟨o.take i,o.drop (i + 1),?_,?_⟩
  · rw [← e,← aU hi,bM]
  · rw [List.set_eq_take_append_cons_drop,if_pos hi]
def Y5 (o : List G) (i k : Nat) (g : G) : List G := dW cG (o.set i (jL g k) ++ [mM g k])
theorem EX {o : List G} {i k : Nat} {g : G} (h : o[i]? = some g) (hk : k < g.1.length) : ((o.set i (jL g k) ++ [mM g k]).flatMap (·.1)).Perm (o.flatMap (·.1)) := by
  obtain ⟨A,B,e1,e2⟩ := pK (y := jL g k) h;rw [e2,e1];simp only [fO,bE,ZF,List.append_nil,bK];refine List.Perm.append_left _ ?_;have h1 : (g.1.getD k 0 :: g.1.eraseIdx k).Perm g.1 := iZ g.1 k 0 hk;have h2 : ((jL g k).1 ++ (B.flatMap (·.1) ++ (mM g k).1)).Perm ((mM g k).1 ++ ((jL g k).1 ++ B.flatMap (·.1))) := by
    rw [← bK];exact vK
  refine h2.trans ?_;rw [← bK];exact List.Perm.append_right _ h1
theorem KO {n : Nat} {o : List G} {i k : Nat} {g : G} (ok : nA n o) (h : o[i]? = some g) (hc : gX g = some k) : nA n (o.set i (jL g k) ++ [mM g k]) := by
  have hg := aM h;have hk := (jB hc).2.2.1;have hb := EX h hk;have hm : ∀ x,x ∈ o.set i (jL g k) ++ [mM g k] → x ∈ o ∨ x = jL g k ∨ x = mM g k := fun x hx => by
    rcases bF.1 hx with hx | hx
    · rcases fM hx with hx | hx
      · exact .inl hx
      · exact .inr (.inl hx)
    · exact .inr (.inr (cD.1 hx))
  refine ⟨fun x hx => ?_,hb.nodup_iff.2 ok.nd,by rw [hb.length_eq];exact ok.ln,fun x hx => ?_⟩
  · rcases hm x hx with hx | rfl | rfl
    · exact ok.ok x hx
    · exact (ok.ok g hg).rest hc
    · exact (ok.ok g hg).one hc
  · rcases hm x hx with hx | rfl | rfl
    · exact ok.ws x hx
    · have := wI (g.2.map fun w => (w.1.eraseIdx k,w.2.1,w.2.2.eraseIdx k));rw [bC] at this;exact cJ this (ok.ws g hg)
    · show 1 ≤ 2000;omega
theorem ND {o : List G} {i k : Nat} {g : G} (h : o[i]? = some g) (hc : gX g = some k) : ((o.set i (jL g k) ++ [mM g k]).flatMap tI).Perm (o.flatMap tI) := by
  obtain ⟨A,B,e1,e2⟩ := pK (y := jL g k) h;rw [e2,e1];simp only [fO,bE,ZF,List.append_nil,bK,HW hc,MX];refine List.Perm.append_left _ ?_;rw [← bK];exact vK
def ZG (o : List G) : Nat := (o.map fun g => g.1.length - 1).sum
theorem OX {o p : List G} (h : p.Perm o) : ZG p = ZG o := (h.map _).sum_nat
theorem RM {o : List G} {i k : Nat} {g : G} (h : o[i]? = some g) (hc : gX g = some k) : ZG (o.set i (jL g k) ++ [mM g k]) + 1 = ZG o := by
  obtain ⟨A,B,e1,e2⟩ := pK (y := jL g k) h;obtain ⟨h1,_,h3,_⟩ := jB hc;have e : (jL g k).1.length = g.1.length - 1 := by show (g.1.eraseIdx k).length = _;rw [fR,if_pos h3]
  rw [e2,e1];unfold ZG;simp only [dI,List.map_cons,List.map_nil,zF1,zN0,List.sum_nil,e];have : (mM g k).1.length = 1 := rfl;omega
structure oC (n : Nat) (L o : List G) (i : Nat) : Prop where
  ok : nA n o
  up : GQ o
  fl : (o.flatMap tI).Perm (L.flatMap tI)
  hi : i ≤ o.length
  no : ∀ (j : Nat) (g : G),j < i → o[j]? = some g → gX g = none
theorem oC.start {n : Nat} {L : List G} (ok : nA n L) (up : GQ L) : oC n L L 0 := ⟨ok,up,.refl _,cT _,fun j g h => absurd h (eA _)⟩
theorem oC.keep {n : Nat} {L o : List G} {i : Nat} {g : G} (p : oC n L o i) (h : o[i]? = some g) (hc : gX g = none) : oC n L o (i + 1) where
  ok := p.ok
  up := p.up
  fl := p.fl
  hi := (aB.1 h).1
  no j x hj hx := by
    rcases iD j i with h' | h'
    · exact p.no j x h' hx
    · obtain rfl : j = i := by omega
      rw [h] at hx;cases hx;exact hc
theorem oC.next {n : Nat} {L o : List G} {i k : Nat} {g : G} (p : oC n L o i) (h : o[i]? = some g) (hc : gX g = some k) : oC n L (Y5 o i k g) 0 where
  ok := (KO p.ok h hc).perm (dS _ _)
  up := qP _
  fl := ((dS cG _).flatMap_right _).trans ((ND h hc).trans p.fl)
  hi := cT _
  no j g h := absurd h (eA _)
theorem oC.fin {n : Nat} {L o : List G} {i : Nat} (p : oC n L o i) (hi : o.length ≤ i) : vD L = o := by
  have e : o.flatMap tI = o := by
    have : ∀ g,g ∈ o → tI g = [g] := fun g hg => by
      obtain ⟨j,hj,e⟩ := qD.1 hg;exact Q0 (p.no j g (by omega) (by rw [aA hj,e]))
    clear p hi
    induction o with
    | nil => rfl
    | cons g o ih => rw [bE,this g aS,ih fun g h => this g (aN _ h)];rfl
  have hp := p.fl;rw [e] at hp;show dW cG (L.flatMap tI) = o;exact DZ (p.ok.dist.perm hp.symm) hp p.up
theorem PM {l : List G} {k : Nat} (h : k < l.length) : mR (l.take (k + 1)) = mR (l.take k) + iJ l[k] := by
  unfold mR;rw [aX h,dI,zF1];simp
theorem AR : ∀ {l : List G}, (∀ g, g ∈ l → 0 ≤ iJ g ∧ iJ g ≤ 4000000) → 0 ≤ mR l ∧ mR l ≤ 4000000 * l.length
  | [],_ => by simp [mR]
  | g :: l,h => by
    have h1 := h g aS;have h2 := AR (l := l) fun g hg => h g (aN _ hg);have e : mR (g :: l) = iJ g + mR l := by simp [mR]
    rw [e,List.length_cons];omega
abbrev gS (c : Cx) (gs : List G) : List AV := [.i c.m,.i c.st,.i c.er,.i c.sl,.rowE (gJ c.ks) 2,.rowE (jX c.ls) 3,.rowE (eB c.bs) 3,.rowE (iY gs) 2]
theorem NK (c : Cx) (r : Int) (l : List W) : fS (fun w => decide (w.2.1 + r > c.m)) l = l.filter fun w => decide (w.2.1 + r ≤ c.m) := by
  unfold fS;congr 1;funext w;show (!decide (w.2.1 + r > c.m)) = decide (w.2.1 + r ≤ c.m);by_cases h : w.2.1 + r ≤ c.m
  · rw [decide_eq_true h,decide_eq_false (by omega)];rfl
  · rw [decide_eq_false h,decide_eq_true (by omega)];rfl
theorem MZ {c : Cx} {all : List G} {k : Nat} (h : k < all.length) : (paid c all).take (k + 1) = (paid c all).take k ++ [(all[k].1,fS (fun w => decide (w.2.1 + (mR all - iJ all[k]) > c.m)) all[k].2)] := by
  rw [NK];unfold paid;rw [← kK,← kK,aX h,dI];rfl
theorem RC (c : Cx) (all : List G) : (paid c all).length = all.length := by unfold paid;rw [bC]
theorem G7 (c : Cx) (all : List G) : (paid c all).flatMap (·.1) = all.flatMap (·.1) := by
  unfold paid;rw [U5]
theorem vR.sub {n : Nat} {g : G} (h : vR n g) {ws : List W} (hs : ∀ w,w ∈ ws → w ∈ g.2) : vR n (g.1,ws) := ⟨h.ne,h.up,h.rg,h.ln,fun w hw => h.ws w (hs w hw),fun w v hw hv => h.same w v (hs w hw) (hs v hv)⟩
theorem nA.paid {n : Nat} {all : List G} (h : nA n all) (c : Cx) : nA n (paid c all) where
  ok g hg := by
    obtain ⟨x,hx,rfl⟩ := bI.1 hg;exact (h.ok x hx).sub fun w hw => (pD.1 hw).1
  nd := by rw [G7];exact h.nd
  ln := by rw [G7];exact h.ln
  ws g hg := by
    obtain ⟨x,hx,rfl⟩ := bI.1 hg;exact cJ (DE _ _) (h.ws x hx)
theorem JM {c : Cx} {all : List G} (h : GQ all) : GQ (paid c all) := by
  unfold paid;refine UY.2 (h.imp fun h => h)
theorem Z1 {n : Nat} {g : G} (h : vR n g) (hne : g.2 ≠ []) : 0 ≤ iJ g ∧ iJ g ≤ 4000000 := by
  obtain ⟨w,hw,e⟩ := Z0 hne;have := h.ws w hw;rw [← e];exact ⟨this.m0,this.m1⟩
end Go.Ld
namespace Go.Proofs.YtmmkhmilpeodnaaGreat
open Go Go.Ab Go.Ld
attribute [local irreducible] VC AW cF aR
set_option maxHeartbeats 4000000
theorem VV (c : Cx) (gs : List G) (w : W) (r : Int) (h1 : 0 ≤ w.2.1 ∧ w.2.1 ≤ 4000000) (h2 : -100000000 ≤ r ∧ r ≤ 100000000) : aR Tryz.prog 105 [HC w,.pr [.i r] 0,.pr [.pr (gS c gs) 0] 0] [] (.b (decide (w.2.1 + r > c.m))) [] := by
  refine bQ T Tryz.func105 rfl rfl rfl rfl ?_
  (repeat' (first|refine wS ?_|refine wR ?_|(refine rg 0 (bS (cE rfl rfl) rfl (aV ?_)))|(refine bL (id := 1) 15 [[],[0],[],[0,1,2],[],[4],[4,5],[4,5,6],rM 4 4,rN 9] (rM 5 10) [[],[],[5,6],[],rM 5 4,rM 5 4,rM 5 4,rM 5 4,rM 5 4,[]] cC rfl (by decide +kernel) (dP T rfl (dO T rfl (dO T rfl (dV rfl (bT rfl rfl (by omega) (by omega)) (dO T rfl (dV rfl (by exact eM rfl rfl) ?_))))));refine dP T rfl (dP T rfl (dO T rfl (dV rfl (fT rfl rfl) (dE ?_))));refine aV ?_)|refine nZ ?_));all_goals first | (exfalso;omega) | exact rQ
end Go.Proofs.YtmmkhmilpeodnaaGreat
namespace Go.Ab
open Go
theorem JB {P : Program} {f : FuncId} {n : Nat} (hfn : ∃ fn, P.funcs[f]? = some fn ∧ (fn.name == "runtime.NumGoroutine") = false ∧ fn.body.isNone = false)
    (hs : ∀ w : World,Calls P f #[.slice none 0 0,.int .i64 n] w fun e w' => ∃ (g : Nat) (cs : Array Value) (t : TypeId),e = .returned (.slice (some ⟨w.heap.size,0,none⟩) 0 g) ∧ g ≤ maxLen ∧ g ≤ cs.size ∧ w' = w.drew.alloc (.cells cs t)) :
    aR P f [.nils,.i n] [] (.sl 0 0 0 1) [.arr [] 1] := by
  refine ⟨hfn,fun ρ S w vs s ha => ?_⟩
  simp only [RL,R] at ha;obtain ⟨y,_,rfl,rfl,y2,_,rfl,rfl,rfl⟩ := ha;refine (hs w).mono fun e w' ⟨g,cs,t,he,hg,hgc,hw⟩ => ?_
  subst hw;have hnew : (w.drew.alloc (.cells cs t)).heap[w.heap.size]? = some (.cells cs t (0,0)) := (MapKept.heap_alloc w.drew _).1;obtain ⟨ρ', g1, g2, _⟩ := s.made (x := .sl 0 0 0 1) (b := .arr [] 1) (y := .slice (some ⟨w.heap.size, 0, none⟩) 0 g) (q := some (w.heap.size, 0)) ((mN.drew1 w).trans (oO w.drew (.cells cs t) (fun _ => False)) (fun _ h => h.elim)) (fun p hp => by cases hp; exact ⟨aY _, by rw [World.size_alloc]; exact Nat.lt_succ_self _⟩)
    (fun ρ' e1 e2 l' => ⟨by simp only [R];exact ⟨_,_,rfl,hg,.inr ⟨_,_,e1,rfl,cT _,⟨cs,t,(0,0),hnew,by omega⟩⟩⟩,⟨(fun e he => nomatch he),ZU,.inl ⟨rfl,fun b o hbo => by cases hbo;exact ⟨cs,t,hnew⟩⟩⟩⟩)
  exact ⟨_,ρ',S,he,g1,g2⟩
end Go.Ab
namespace Go.Proofs.YtmmkhmilpeodnaaGreat
open Go Go.Ab Go.Ld Go.Shelf Go.Proofs
attribute [local irreducible] VC AW cF aR
set_option maxHeartbeats 4000000
shelf_lay_g Lays8.n4 Nm8 4 at Tryz 126 as laysGrow
theorem zC7 (n : Nat) (h0 : 0 < n) (h1 : n ≤ 1000000) : aR Tryz.prog 126 [.nils,.i n] [] (.sl 0 0 0 1) [.arr [] 1] := by
  obtain ⟨inf,z,t1,t2,t3,t4,t5,t6,t7⟩ := T.tiOk 3 _ rfl;have hz : z.cells.size = 1 := by have := congrArg List.length t5;simpa using this
  refine JB ⟨_,Tryz.func126,by kernel_rfl,by kernel_rfl⟩ (fun w => ?_)
  refine (Any8.slices_Grow_grow laysGrow inf z t1 t4 (by rw [t2];decide) none 0 0 n [] w (aY _) (by omega) (by rw [t3];simp;omega) (by omega) (by simp) (fun _ => rfl) (fun a h => by cases h)).mono ?_
  rintro e w' ⟨rfl,rfl⟩;have hge := grownCap_ge w (0 + n) 0 3;refine ⟨_,_,_,rfl,grownCap_le_maxLen w _ _ _ (by unfold maxLen;omega),?_,rfl⟩
  simp only [Array.size_append,Builtin.zeroCells,Array.size_map,Array.size_range,hz,nB,List.length_nil];omega
theorem TE (p q : List Int) (hp : 0 < p.length ∧ p.length ≤ 1000) (hq : 0 < q.length ∧ q.length ≤ 1000) : aR Tryz.prog 86 [.rowE [[.rowE (ints p) 1],[.rowE (ints q) 1]] 1] [] (.rowE (ints (p ++ q)) 1) [] := by
  have hgr := zC7 (p.length + q.length) (by omega) (by omega)
  rw [show ((p.length + q.length : Nat) : Int) = (p.length : Int) + q.length by omega] at hgr
  have hlp : (ints p).length = p.length := cQ _;have hlq : (ints q).length = q.length := cQ _;have hpq : ints (p ++ q) = ints p ++ ints q := dI;have hle : ∀ e,e ∈ [[AV.rowE (ints p) 1],[AV.rowE (ints q) 1]] → e.length = 1 := by intro e he;simp at he;rcases he with rfl | rfl <;> rfl
  have g0 : [[AV.rowE (ints p) 1],[AV.rowE (ints q) 1]][((0 : Nat) : Int).toNat]? = some [AV.rowE (ints p) 1] := rfl;have g1 : [[AV.rowE (ints p) 1],[AV.rowE (ints q) 1]][((1 : Nat) : Int).toNat]? = some [AV.rowE (ints q) 1] := rfl;refine oR (by rw [cQ] : (p ++ q).length = (ints (p ++ q)).length) (hC (bJ _)) ?_
  rw [hpq,aF];have o1 := wM p;have o2 := wM q;have n1 := cH p;have n2 := cH q;have i1 := bJ p;have i2 := bJ q;generalize ints p = P' at *;generalize ints q = Q' at *;obtain ⟨sz,s0,s1,s2⟩ : ∃ sz : Nat → Int,sz 0 = 0 ∧ sz 1 = P'.length ∧ sz 2 = P'.length + Q'.length := ⟨fun k => if k = 0 then 0 else if k = 1 then (P'.length : Int) else P'.length + Q'.length,by simp,by simp,by simp⟩
  obtain ⟨cc,c0,c1,c2⟩ : ∃ cc : Nat → List (List AV),cc 0 = [] ∧ cc 1 = P' ∧ cc 2 = P' ++ Q' := ⟨fun k => if k = 0 then [] else if k = 1 then P' else P' ++ Q',by simp,by simp,by simp⟩
  refine bQ T Tryz.func86 rfl rfl rfl rfl ?_
  (repeat' (first|refine wS ?_|refine wB ?_|(refine rg 0 (aV ?_))|(refine rg 1 (aV ?_))|(refine rg 2 (mW rfl (qW T rfl (mV ?_))))|refine nZ ?_));refine dA (X := {k : Nat // k ≤ 2}) (fun k => [(0,.rowE [[.rowE P' 1],[.rowE Q' 1]] 1),(3,.i (sz k.1)),(9,.rowE [[.rowE P' 1],[.rowE Q' 1]] 1),(10,.i 2),(11,.i k.1)]) (fun _ => []) (fun k => 2 - k.1) ⟨0,by omega⟩ ⟨[],rfl,⟨rfl,by rw [s0];rfl,rfl,rfl,rfl,trivial⟩,trivial,dD,lH _⟩ ?_
  rintro ⟨k,hk⟩;dsimp only;rcases (by omega : k = 0 ∨ k = 1 ∨ k = 2) with rfl | rfl | rfl
  · (repeat' (first|refine wS ?_|refine wB ?_|refine wK ?_|refine pB rfl ?_|(refine wC rfl (fun hb => ?_) (fun hb => ?_) <;> (((try simp only [nm] at hb);try (exfalso;omega))))|(refine rg 3 (vV (aO rfl rfl) ?_))|(refine rg 4 (vV (ix T rfl (by omega) hle g0) (lW T rfl (aV ?_))))|(refine rg 5 (dX rfl (qW T rfl (vV (bT rfl rfl (by omega) (by omega)) (aV ?_)))))|(refine rg 6 (mW rfl (vV (aO rfl rfl) ?_)))|(refine rg 8 (vV (bT rfl rfl (by omega) (by omega)) (mV ?_)))|(refine nZ ?_)));all_goals first | (exfalso;omega) | exact ⟨⟨1,by omega⟩,by dsimp only;omega,[],rfl,⟨rfl,by dsimp only;rw [show sz 1 = sz 0 + P'.length by omega];rfl,rfl,rfl,rfl,trivial⟩,trivial,dD,lH _⟩
  · (repeat' (first|refine wS ?_|refine wB ?_|refine wK ?_|refine pB rfl ?_|(refine wC rfl (fun hb => ?_) (fun hb => ?_) <;> (((try simp only [nm] at hb);try (exfalso;omega))))|(refine rg 3 (vV (aO rfl rfl) ?_))|(refine rg 4 (vV (ix T rfl (by omega) hle g1) (lW T rfl (aV ?_))))|(refine rg 5 (dX rfl (qW T rfl (vV (bT rfl rfl (by omega) (by omega)) (aV ?_)))))|(refine rg 6 (mW rfl (vV (aO rfl rfl) ?_)))|(refine rg 8 (vV (bT rfl rfl (by omega) (by omega)) (mV ?_)))|(refine nZ ?_)));all_goals first | (exfalso;omega) | exact ⟨⟨2,by omega⟩,by dsimp only;omega,[],rfl,⟨rfl,by dsimp only;rw [show sz 2 = sz 1 + Q'.length by omega];rfl,rfl,rfl,rfl,trivial⟩,trivial,dD,lH _⟩
  · rw [← hlp,← hlq,← s2] at hgr
    (repeat' (first|refine wS ?_|refine wB ?_|refine wE ?_|refine wU ?_|(refine rg 3 (vV (aO rfl rfl) ?_))|(refine rg 9 (mW rfl (bS (by exact fK rfl rfl hgr (.inr ⟨rfl,rfl,by simp⟩)) rfl ?_));refine aV ?_)|(refine rg 10 (mW rfl (qW T rfl (mV ?_))))|refine nZ ?_));all_goals try (exfalso;omega)
    refine dA (X := {k : Nat // k ≤ 2}) (fun k => [(6,.sl 0 0 (cc k.1).length 1),(25,.rowE [[.rowE P' 1],[.rowE Q' 1]] 1),(26,.i 2),(27,.i k.1)]) (fun k => [.arr (cc k.1) 1]) (fun k => 2 - k.1) ⟨0,by omega⟩ ⟨[0],rfl,⟨by dsimp only;rw [c0];rfl,rfl,rfl,rfl,trivial⟩,⟨.inr (aE rfl (by dsimp only;rw [c0];rfl) (by rw [c0];intro e he;cases he)),trivial⟩,by decide,lH _⟩ ?_
    clear hk;rintro ⟨k,hk⟩;dsimp only;rcases (by omega : k = 0 ∨ k = 1 ∨ k = 2) with rfl | rfl | rfl
    · rw [c0]
      (repeat' (first|refine wS ?_|refine wB ?_|refine wK ?_|refine wT ?_|(refine rg 11 (vV (aO rfl rfl) ?_))|(refine rg 12 (vV (ix T rfl (by omega) hle g0) (lW T rfl (aV ?_))))|(refine rg 13 (dX rfl (gE T rfl rfl rfl rfl rfl rfl (by simp) (.row n1) o1 (by simp;omega) (by simp;omega) rfl ?_));refine aV ?_)|(refine rg 14 (vV (bT rfl rfl (by omega) (by omega)) (mV ?_)))|refine nZ ?_));all_goals first | (exfalso;omega) | skip
      exact ⟨⟨1,by omega⟩,by dsimp only;omega,⟨[1],rfl,⟨by dsimp only;rw [c1];show some (AV.sl 1 0 (0 + P'.length) 1) = some (AV.sl 1 0 P'.length 1);rw [Nat.zero_add],rfl,rfl,rfl,trivial⟩,⟨.inr (aE rfl (by dsimp only;rw [c1];rfl) (by rw [c1];exact i1)),trivial⟩,by decide,lH _⟩⟩
    · rw [c1]
      (repeat' (first|refine wS ?_|refine wB ?_|refine wK ?_|refine wT ?_|(refine rg 11 (vV (aO rfl rfl) ?_))|(refine rg 12 (vV (ix T rfl (by omega) hle g1) (lW T rfl (aV ?_))))|(refine rg 13 (dX rfl (gE T rfl rfl rfl rfl rfl rfl (by omega) (.row n2) o2 (by (simp;omega)) (by omega) rfl ?_));refine aV ?_)|(refine rg 14 (vV (bT rfl rfl (by omega) (by omega)) (mV ?_)))|refine nZ ?_));all_goals first | (exfalso;omega) | skip
      exact ⟨⟨2,by omega⟩,by dsimp only;omega,⟨[1],rfl,⟨by dsimp only;rw [c2,aF];rfl,rfl,rfl,rfl,trivial⟩,⟨.inr (aE rfl (by dsimp only;rw [c2,kU,dQ]) (by rw [c2];intro e he;rcases bF.1 he with he | he;exact i1 e he;exact i2 e he)),trivial⟩,by decide,lH _⟩⟩
    · rw [c2,aF]
      (repeat' (first|refine wS ?_|refine wR ?_|refine wE ?_|refine wU ?_|(refine rg 11 (vV (aO rfl rfl) ?_))|(refine rg 15 (mW rfl (aV ?_)))|refine nZ ?_));all_goals first | (exfalso;omega) | exact ⟨.inl rfl,[0],_,rfl,by rw [hlp,hlq];rfl,rfl,⟨.inr (aE rfl rfl (by intro e he;rcases bF.1 he with he | he;exact i1 e he;exact i2 e he)),trivial⟩,by decide,lH _⟩
theorem FY (l : List G) (hl : l.length ≤ 1000000) : aR Tryz.prog 43 [.rowE (iY l) 2] [] (.sl 0 0 l.length 2) [.arr (iY l) 2] := by
  have hll : (iY l).length = l.length := iX l;refine bQ T Tryz.func43 rfl rfl rfl rfl ?_
  repeat' (first|refine wS ?_|refine wK ?_|refine wT ?_|refine wU ?_|(refine rg 0 (aV ?_))|(refine rg 1 (mV ?_);refine qU T rfl rfl rfl rfl fun b hb=>?_;cases b)|refine nZ ?_)
  · (repeat' (first|refine wR ?_|(refine rg 3 (bS (by exact bB T rfl rfl (by decide) (by decide) rfl rfl rfl) rfl ?_);refine mW rfl (gE T rfl rfl rfl rfl rfl rfl (by decide) (.row (oX l)) (SM l) (by simp;omega) (by simp;omega) rfl ?_);refine aV ?_)|(refine nZ ?_)));exact ⟨.inl rfl,[1],_,rfl,(by show AV.sl 1 0 (0 + (iY l).length) 2 = AV.sl 1 0 l.length 2;simp),rfl,⟨.inr (aE rfl rfl (eC _)),trivial⟩,by decide,F2⟩
  · have hl0 : l = [] := fJ.1 (Classical.byContradiction fun h => by have := hb (by omega);cases this)
    subst hl0
    (repeat' (first|refine wR ?_|(refine rg 2 (vV (dB rfl) (sK 2 2 rfl (by decide) ?_)))|refine nZ ?_));exact ⟨.inl rfl,[0],_,rfl,rfl,rfl,⟨.inr (aE rfl rfl (eC _)),trivial⟩,by decide,F2⟩
theorem YE (g : G) (b : Int) (h : g.1.length ≤ 1000000) : aR Tryz.prog 90 [OV g,.pr [.i b] 0] [] (.b (decide (b ∈ g.1))) [] := by
  have hc := zP g.1 b (by omega)
  refine bQ T Tryz.func90 rfl rfl rfl rfl ?_
  (repeat' (first|refine wS ?_|refine wR ?_|(refine rg 0 (bS (cE rfl rfl) rfl (aV ?_)))|(refine rg 1 (iL T rfl (lW T rfl (vV (kC (hc)) (aV ?_)))))|refine nZ ?_));all_goals first | (exfalso;omega) | exact rQ
theorem wV (l : List G) (b : Int) (hl : l.length ≤ 1000000) (hg : ∀ g,g ∈ l → g.1.length ≤ 1000000) : aR Tryz.prog 45 [.rowE (iY l) 2,.i b] [] (.i (oY l b)) [] := by
  have hc := ZM (caps := [.pr [.i b] 0]) (p := fun g => decide (b ∈ g.1)) hl rfl (fun x hx => YE x b (hg x hx));have e : rF (fun g : G => decide (b ∈ g.1)) l 0 = oY l b := by
    rw [Z3];unfold oY;cases l.findIdx? fun g => decide (b ∈ g.1) with
    | none => rfl
    | some i => simp
  rw [e] at hc;generalize oY l b = v at *;refine bQ T Tryz.func45 rfl rfl rfl rfl ?_
  (repeat' (first|refine wS ?_|refine wR ?_|(refine rg 0 (bS (cE rfl rfl) rfl (aV ?_)))|(refine rg 1 (mW rfl (vV (by exact jG rfl rfl) ?_));refine vV (by exact eT rfl rfl hc (.cons (.row _ _ _) (.cons (.clo .nil (.cons (.ptr rfl (.cons (.v _) .nil)) .nil)) .nil)) rfl rfl) ?_;refine aV ?_)|refine nZ ?_));all_goals first | (exfalso;omega) | exact rQ
end Go.Proofs.YtmmkhmilpeodnaaGreat
namespace Go.Ld
open Go.Ab Go.Proofs.YtmmkhmilpeodnaaGreat
theorem FQ {α β : Type} {f : α → List β} {n : Nat} : ∀ (l : List α) (hf : ∀ x, x ∈ l → (f x).length = n) (i j : Nat) (hi : i < l.length) (hj : j < n), (l.flatMap f)[n * i + j]? = (f l[i])[j]?
  | [],hf,i,j,hi,hj => by simp at hi
  | x :: l,hf,0,j,hi,hj => by
    rw [bE,Nat.mul_zero,Nat.zero_add,aG (by rw [hf x aS];exact hj)];rfl
  | x :: l,hf,i + 1,j,hi,hj => by
    have h1 := hf x aS;rw [bE,aD (by rw [h1,UW];omega),h1,show n * (i + 1) + j - n = n * i + j by rw [UW];omega]
    exact FQ l (fun x hx => hf x (aN _ hx)) i j (by simpa using hi) hj
theorem FP {α β : Type} {f : α → List β} {n : Nat} : ∀ (l : List α) (hf : ∀ x, x ∈ l → (f x).length = n), (l.flatMap f).length = n * l.length
  | [],hf => by simp
  | x :: l,hf => by
    rw [bE,aF,hf x aS,FP l (fun x hx => hf x (aN _ hx)),List.length_cons,UW];omega
theorem X8 (a b : G) (l : List Int) : (oD a b l).length = b.2.length * a.2.length := FP _ fun x _ => bC _
theorem MY {a b : G} {l : List Int} {i j : Nat} (hi : i < a.2.length) (hj : j < b.2.length) : (oD a b l)[b.2.length * i + j]? = some (yU a b a.2[i] b.2[j] l) := by
  unfold oD;rw [FQ _ (fun x _ => bC _) i j hi hj];simp [hj]
theorem xU : ∀ (l : List Int) (v : Int) (k : Nat), v ∈ l → uL l v k = ((k + l.idxOf v : Nat) : Int)
  | [],v,k,h => by cases h
  | x :: l,v,k,h => by
    unfold uL;by_cases e : v = x
    · rw [if_pos e,e,List.idxOf_cons_self];rfl
    · have e' : (x :: l).idxOf v = l.idxOf v + 1 := by rw [List.idxOf_cons,beq_eq_false_iff_ne.2 (fun h => e h.symm)];rfl
      rw [if_neg e,show ((k : Int) + 1) = ((k + 1 : Nat) : Int) by omega,xU l v (k + 1) (by rcases bN.1 h with h | h;exact absurd h e;exact h),e']
      omega
theorem KY : ∀ (l : List Int) (v k : Int), v ∉ l → uL l v k = -1
  | [],v,k,h => rfl
  | x :: l,v,k,h => by
    unfold uL;rw [if_neg (fun e : v = x => h (by rw [e];exact aS)),KY l v (k + 1) (fun q => h (aN _ q))]
def P7 (a b : G) (l : List Int) (k : Nat) : List AV := match (oD a b l)[k]? with
  | some w => [.agg (wA w)]
  | none => []
theorem QO {a b : G} {l : List Int} {i j : Nat} (hi : i < a.2.length) (hj : j < b.2.length) : P7 a b l (b.2.length * i + j) = [.agg (wA (yU a b a.2[i] b.2[j] l))] := by
  unfold P7;rw [MY hi hj]
theorem DS {α β : Type} {f : α → β} {l : List α} {m : Nat} (h : m < l.length) : (l.map f).take (m + 1) = (l.map f).take m ++ [f l[m]] := by
  rw [aX (by simpa using h)];simp
end Go.Ld
namespace Go.Proofs.YtmmkhmilpeodnaaGreat
open Go Go.Ab Go.Ld
attribute [local irreducible] VC AW cF aR AY VY U7 kZ
set_option maxHeartbeats 4000000
abbrev zB0 (a b : G) (l : List Int) : AV := .clo (.func 127) [] [.pr (gA a) 0,.pr (gA b) 0,.pr [.rowE (ints l) 1] 0]
theorem WS (a b : G) (l : List Int) : aR Tryz.prog 87 [OV a,OV b,.rowE (ints l) 1] [] (zB0 a b l) [] := by
  refine zW (res := .clo (.func 127) [] [.ptr 0 0,.ptr 1 0,.ptr 2 0]) (hout := [.cells (gA a),.cells (gA b),.cells [.rowE (ints l) 1]]) ?_ (.clo .nil (.cons (.ptr rfl (.cons (.row _ _ _) (.cons (.row _ _ _) .nil))) (.cons (.ptr rfl (.cons (.row _ _ _) (.cons (.row _ _ _) .nil))) (.cons (.ptr rfl (.cons (.row _ _ _) .nil)) .nil))));refine bQ T Tryz.func87 rfl rfl rfl rfl ?_
  (repeat' (first|refine wS ?_|refine wR ?_|(refine rg 0 (bS (cE rfl rfl) rfl (bS (cE rfl rfl) rfl (bS (cE rfl rfl) rfl (aV ?_)))))|(refine rg 1 (vV (by exact jG rfl rfl) ?_);refine aV ?_)|refine nZ ?_));all_goals exact ⟨.inl rfl,[0,1,2],_,rfl,rfl,rfl,⟨.inr rfl,.inr rfl,.inr rfl,trivial⟩,by decide,lH _⟩
theorem QZ (a b : G) (l : List Int) (sa : zF3 a) (sb : zF3 b) (hl : l.length ≤ 1000) (hm : ∀ k,k ∈ l → k ∈ a.1 ∨ k ∈ b.1) (h1 : ∀ w,w ∈ a.2 → 0 ≤ w.2.1 ∧ w.2.1 ≤ 4000000) (h2 : ∀ w,w ∈ b.2 → 0 ≤ w.2.1 ∧ w.2.1 ≤ 4000000) :
    U7 Tryz.prog 127 [] [.pr (gA a) 0,.pr (gA b) 0,.pr [.rowE (ints l) 1] 0] [] (P7 a b l) (oD a b l).length := by
  have hnn := X8 a b l;have hla : (fP a.2).length = a.2.length := eS _;have hlb : (fP b.2).length = b.2.length := eS _;have hll : (ints l).length = l.length := cQ _;have hwa := sa.w;have hwb := sb.w;refine ZR T Tryz.func127 rfl rfl rfl rfl ?_;intro J A y hJ hy
  (repeat' (first|(first|(refine uU ?_)|(refine xC ?_))|(((refine pG hJ (eK (id := 0) ?_)));(all_goals (refine OB T ?_;(refine qV T ?_);refine mV ?_)))|refine nZ ?_));refine CR (X := {i : Nat // i ≤ a.2.length}) (fun i => [(0,.clo (.yield y) [] []),(1,.pr (gA a) 0),(2,.pr (gA b) 0),(3,.pr [.rowE (ints l) 1] 0),(15,.rowE (fP a.2) 3),(16,.i (fP a.2).length),(17,.i i.1)]) (fun _ => []) (fun i => (b.2.length * i.1,false)) (fun i => a.2.length - i.1) ⟨0,cT _⟩ rfl (eW []) ?_
  rintro ⟨i,hi⟩;dsimp only;by_cases hlt : i < a.2.length
  · have ga := qH hlt;have hx := sa.p _ (aI hlt);have hx2 := sa.c _ (aI hlt);have hx3 := h1 _ (aI hlt);have hpi := fun (j : Nat) (hj : j < b.2.length) => QO (a := a) (b := b) (l := l) hlt hj;generalize a.2[i] = x at *
    (repeat' (first|(first|(refine uU ?_)|(refine xC ?_)|(refine N2 ?_))|((refine uV rfl (fun hb=>?_) (fun hb=>?_)<;>(((try simp only [nm] at hb);try ((exfalso;omega);done)))))|(((refine pG hJ (eK (id := 1) ?_)));(all_goals (refine vV (aO rfl rfl) ?_)))|(((refine pG hJ (eK (id := 2) ?_)));(all_goals (refine vV (ix T rfl (by omega) (kW _) ga) ?_;refine lV T ?_;refine bS (bO T rfl) rfl ?_;refine aT T rfl rfl rfl rfl rfl rfl (by decide) rfl ?_)))|(((refine pG hJ (eK (id := 3) ?_)));(all_goals (refine OB T ?_;(refine qV T ?_);refine mV ?_)))|refine nZ ?_));all_goals try (exfalso;omega)
    refine CR (X := {j : Nat // j ≤ b.2.length}) (fun j => [(0,.clo (.yield y) [] []),(1,.pr (gA a) 0),(2,.pr (gA b) 0),(3,.pr [.rowE (ints l) 1] 0),(6,.ptr 0 0),(15,.rowE (fP a.2) 3),(16,.i (fP a.2).length),(17,.i i),(22,.rowE (fP b.2) 3),(23,.i (fP b.2).length),(24,.i j.1)]) (fun _ => [.cells (wA x)]) (fun j => (b.2.length * i + j.1,false)) (fun j => b.2.length - j.1) ⟨0,cT _⟩ rfl ⟨[0],rfl,(by repeat first|exact trivial|refine ⟨rfl,?_⟩),⟨.inr rfl,trivial⟩,by decide,lH _⟩ ?_
    rintro ⟨j,hj⟩;dsimp only;by_cases hjl : j < b.2.length
    · have gb := qH hjl;have hy1 := sb.p _ (aI hjl);have hy2 := sb.c _ (aI hjl);have hy3 := h2 _ (aI hjl);have hit := hpi j hjl;have hk : b.2.length * i + j < (oD a b l).length := by
        rw [hnn];have := Nat.mul_le_mul_left b.2.length (show i + 1 ≤ a.2.length by omega)
        rw [UW] at this;omega
      generalize b.2[j] = z at *
      (repeat' (first|(first|(refine uU ?_)|(refine xC ?_)|(refine N2 ?_))|((refine uV rfl (fun hb=>?_) (fun hb=>?_)<;>(((try simp only [nm] at hb);try ((exfalso;omega);done)))))|(((refine pG hJ (eK (id := 4) ?_)));(all_goals (refine vV (aO rfl rfl) ?_)))|(((refine pG hJ (eK (id := 5) ?_)));(all_goals (refine vV (ix T rfl (by omega) (kW _) gb) ?_;refine lV T ?_;refine bS (bO T rfl) rfl ?_;refine aT T rfl rfl rfl rfl rfl rfl (by decide) rfl ?_)))|(((refine pG hJ (eK (id := 6) ?_)));(all_goals (refine OB T ?_;refine OB T ?_;refine vV (bT rfl rfl (by omega) (by omega)) ?_;refine vV (by exact eQ T rfl rfl rfl rfl) ?_;refine bS (bO T rfl) rfl ?_;refine aT T rfl rfl rfl rfl rfl rfl (by decide) rfl ?_)))|(((refine pG hJ (eK (id := 7) ?_)));(all_goals (refine lV T ?_;(refine qV T ?_);refine mV ?_)))|refine nZ ?_));all_goals try (exfalso;omega)
      refine pG hJ ?_;refine uW 2 0 1 rfl rfl (by decide) ?_
      refine uW 2 2 2 rfl rfl (by decide) ?_
      let fp : Int → Int := fun k => if k ∈ a.1 then gP x (a.1.idxOf k) else gP z (b.1.idxOf k)
      let fc : Int → SP := fun k => if k ∈ a.1 then gC x (a.1.idxOf k) else gC z (b.1.idxOf k)
      have hw : yU a b x z l = (l.map fp,x.2.1 + z.2.1,l.map fc) := rfl;rw [hw] at hit;have hplen : (l.map fp).length = l.length := bC _;have hclen : (l.map fc).length = l.length := bC _;have hpt : ∀ m (h : m < l.length),(l.map fp).take (m + 1) = (l.map fp).take m ++ [fp l[m]] := fun m h => DS h
      have hct : ∀ m (h : m < l.length),(l.map fc).take (m + 1) = (l.map fc).take m ++ [fc l[m]] := fun m h => DS h
      have hfa : ∀ k,k ∈ a.1 → fp k = x.1.getD (a.1.idxOf k) 0 ∧ fc k = x.2.2.getD (a.1.idxOf k) (0,0) := fun k h => ⟨if_pos h,if_pos h⟩
      have hfb : ∀ k,k ∉ a.1 → fp k = z.1.getD (b.1.idxOf k) 0 ∧ fc k = z.2.2.getD (b.1.idxOf k) (0,0) := fun k h => ⟨if_neg h,if_neg h⟩
      clear_value fp fc
      clear hw;generalize l.map fp = PP at *;generalize l.map fc = CC at *;refine dA (X := {m : Nat // m ≤ l.length}) (fun m => [(0, .clo (.yield y) [] []), (1, .pr (gA a) 0), (2, .pr (gA b) 0), (3, .pr [.rowE (ints l) 1] 0), (6, .ptr 0 0), (8, .ptr 1 0), (9, .ptr 2 0), (15, .rowE (fP a.2) 3), (16, .i (fP a.2).length), (17, .i i), (22, .rowE (fP b.2) 3), (23, .i (fP b.2).length), (24, .i j), (34, .rowE (ints l) 1), (35, .i (ints l).length), (36, .i m.1)])
        (fun m => [.cells (wA x),.cells (wA z),.cells [.sl 3 0 m.1 1,.i (x.2.1 + z.2.1),.sl 4 0 m.1 2],.arr (ints (PP.take m.1)) 1,.arr (eZ (CC.take m.1)) 2]) (fun m => l.length - m.1) ⟨0,cT _⟩ ⟨[0,1,2,3,4],rfl,(by repeat first|exact trivial|refine ⟨rfl,?_⟩),⟨.inr rfl,.inr rfl,.inr rfl,.inr rfl,.inr rfl,trivial⟩,by decide,lH _⟩ ?_
      rintro ⟨m,hm'⟩;dsimp only;have hTp : (ints (PP.take m)).length = m := by rw [cQ,bD];omega
      have hTc : (eZ (CC.take m)).length = m := by rw [gB,bD];omega
      by_cases hml : m < l.length
      · have hgl := KS hml;have hkm := hm l[m] (aI hml);have hp1 := hpt m hml;have hc1 := hct m hml;generalize l[m] = k at *;by_cases hka : k ∈ a.1
        · obtain ⟨e1,e2⟩ := hfa k hka;have hix := uK a.1 k (by have := sa.b;omega)
          have hxi : uL a.1 k 0 = ((a.1.idxOf k : Nat) : Int) := by have := xU a.1 k 0 hka;simpa using this
          rw [hxi] at hix;have hio := iE hka;generalize a.1.idxOf k = ia at *;have qp := mG (l := x.1) (j := (ia : Int)) (i := ia) 0 (by omega) rfl
          have qc := pY (l := x.2.2) (j := (ia : Int)) (i := ia) (by omega) rfl
          have hlp : (ints x.1).length = x.1.length := cQ _;have hlc : (eZ x.2.2).length = x.2.2.length := gB _;rw [← e1] at qp;rw [← e2] at qc;have hPs : ints (PP.take (m + 1)) = ints (PP.take m) ++ [[AV.i (fp k)]] := by rw [hp1,xR]
          have hCs : eZ (CC.take (m + 1)) = eZ (CC.take m) ++ [[AV.i (fc k).1,AV.i (fc k).2]] := by rw [hc1,eZ,dI];rfl
          generalize ints (PP.take m) = P0 at *;generalize eZ (CC.take m) = C0 at *;generalize fp k = vp at *;generalize fc k = vc at *
          (repeat' (first|refine wS ?_|refine wB ?_|refine wK ?_|refine wU ?_|(refine wC rfl ?_ ?_<;>(intro hb;(try simp only [nm] at hb);try (exfalso;omega)))|(refine rg 8 (vV (aO rfl rfl) ?_))|(refine rg 9 (vV (ix T rfl (by omega) (cH _) hgl) (lW T rfl (aV ?_))))|(refine rK (id := 10) 6 79 [[],[],[1],[],[1,2,3],[],rN 6,rN 7] [[],[],[1],[],[1,2,3],[]] [40,41,42,43,44,12] [[],[40],[40],[40,41,42],[40],rM 40 5] cC rfl (by decide +kernel) (by decide +kernel) ?_;(dsimp only [List.take,List.drop]);refine dO T rfl (dP T rfl (dO T rfl (dN rfl (dV rfl (kC (hix)) (zO rfl rfl rfl (by exact bO T rfl) rfl ?_)))));refine CG rfl rfl (by ((dsimp only [List.nil_append,List.cons_append,List.append_nil,List.length_cons,List.length_nil,List.set_cons_zero,List.set_cons_succ,List.map_cons,List.map_nil,jM,lK,lN,qE,HK,zF,O1,N9,N8,O0,zE,zH,zD,zG,Nat.zero_add,Nat.add_zero,Nat.reduceAdd,Bool.not_true,Bool.not_false];done))) ?_;refine gV ?_;refine aT T rfl rfl rfl rfl rfl rfl (by decide) rfl (aV ?_))|(refine rg 11 (mW rfl (vV (aO rfl rfl) ?_)))|(refine tX (id := 13) 79 zS4 (rM 52 19) zS5 [(8,3),(17,4),(19,2)] cC rfl (by decide +kernel) (fN rfl rfl rfl rfl (by exact bY T rfl rfl rfl) ?_);refine fN rfl rfl rfl rfl (by exact aQ T rfl rfl rfl rfl) ?_;refine fN rfl rfl rfl rfl (by exact bY T rfl rfl rfl) ?_;refine fN rfl rfl rfl rfl (by exact aQ T rfl rfl rfl rfl) ?_;refine fN rfl rfl rfl rfl (by exact bX rfl) ?_;refine fN rfl rfl rfl rfl (by exact ix T rfl (by omega) (cH _) qp) ?_;refine fN rfl rfl rfl rfl (by exact aQ T rfl rfl rfl rfl) ?_;refine K1 rfl rfl rfl rfl (by exact bB T rfl rfl (by decide) (by decide) rfl rfl rfl) rfl ?_;refine wW rfl rfl rfl rfl (aP rfl) (by exact qR T rfl rfl rfl rfl rfl rfl (by omega) (kV.whole rfl rfl) rfl (by simp;omega) (by simp;omega)) ?_;refine fN rfl rfl rfl rfl (by exact bY T rfl rfl rfl) ?_;refine fN rfl rfl rfl rfl (by exact aQ T rfl rfl rfl rfl) ?_;refine fN rfl rfl rfl rfl (by exact bY T rfl rfl rfl) ?_;refine fN rfl rfl rfl rfl (by exact aQ T rfl rfl rfl rfl) ?_;refine fN rfl rfl rfl rfl (by exact bX rfl) ?_;refine fN rfl rfl rfl rfl (by exact ix T rfl (by omega) (iS _) qc) ?_;refine fN rfl rfl rfl rfl (by exact aQ T rfl rfl rfl rfl) ?_;refine K1 rfl rfl rfl rfl (by exact bB T rfl rfl (by decide) (by decide) rfl rfl rfl) rfl ?_;refine wW rfl rfl rfl rfl (aP rfl) (by exact qR T rfl rfl rfl rfl rfl rfl (by omega) (kV.whole rfl rfl) rfl (by simp;omega) (by simp;omega)) ?_;refine fN rfl rfl rfl rfl (by exact bY T rfl rfl rfl) ?_;refine CF rfl rfl rfl rfl (aP rfl) T rfl rfl rfl rfl rfl rfl (by decide) rfl ?_;refine D8 rfl rfl rfl (by exact rfl) ?_;refine fW T rfl (aT T rfl rfl rfl rfl rfl rfl (by decide) rfl ?_))|(refine rg 14 (vV (bT rfl rfl (by omega) (by omega)) (mV ?_)))|refine nZ ?_));all_goals try (exfalso;omega)
          exact ⟨⟨m + 1,hml⟩,by dsimp only;omega,⟨[0,1,2,7,9],rfl,(by repeat first|exact trivial|refine ⟨rfl,?_⟩),⟨.inr rfl,.inr rfl,.inr rfl,.inr (aE rfl (by dsimp only;rw [hPs];exact mJ hTp.symm) (bJ _)),.inr (aE rfl (by dsimp only;rw [hCs];exact mJ hTc.symm) (eY _)),trivial⟩,by decide,lH _⟩⟩
        · obtain ⟨e1,e2⟩ := hfb k hka;have hkb : k ∈ b.1 := hkm.resolve_left hka;have hix := uK a.1 k (by have := sa.b;omega)
          have hiy := uK b.1 k (by have := sb.b;omega)
          have hyi : uL b.1 k 0 = ((b.1.idxOf k : Nat) : Int) := by have := xU b.1 k 0 hkb;simpa using this
          rw [KY _ _ _ hka] at hix;rw [hyi] at hiy;have hio := iE hkb;generalize b.1.idxOf k = ia at *;have qp := mG (l := z.1) (j := (ia : Int)) (i := ia) 0 (by omega) rfl
          have qc := pY (l := z.2.2) (j := (ia : Int)) (i := ia) (by omega) rfl
          have hlp : (ints z.1).length = z.1.length := cQ _;have hlc : (eZ z.2.2).length = z.2.2.length := gB _;rw [← e1] at qp;rw [← e2] at qc;have hPs : ints (PP.take (m + 1)) = ints (PP.take m) ++ [[AV.i (fp k)]] := by rw [hp1,xR]
          have hCs : eZ (CC.take (m + 1)) = eZ (CC.take m) ++ [[AV.i (fc k).1,AV.i (fc k).2]] := by rw [hc1,eZ,dI];rfl
          generalize ints (PP.take m) = P0 at *;generalize eZ (CC.take m) = C0 at *;generalize fp k = vp at *;generalize fc k = vc at *
          (repeat' (first|refine wS ?_|refine wB ?_|refine wK ?_|refine wT ?_|(refine wC rfl ?_ ?_<;>(intro hb;(try simp only [nm] at hb);try (exfalso;omega)))|(refine rg 8 (vV (aO rfl rfl) ?_))|(refine rg 9 (vV (ix T rfl (by omega) (cH _) hgl) (lW T rfl (aV ?_))))|(refine rK (id := 10) 6 79 [[],[],[1],[],[1,2,3],[],rN 6,rN 7] [[],[],[1],[],[1,2,3],[]] [40,41,42,43,44,12] [[],[40],[40],[40,41,42],[40],rM 40 5] cC rfl (by decide +kernel) (by decide +kernel) ?_;(dsimp only [List.take,List.drop]);refine dO T rfl (dP T rfl (dO T rfl (dN rfl (dV rfl (kC (hix)) (zO rfl rfl rfl (by exact bO T rfl) rfl ?_)))));refine CG rfl rfl (by ((dsimp only [List.nil_append,List.cons_append,List.append_nil,List.length_cons,List.length_nil,List.set_cons_zero,List.set_cons_succ,List.map_cons,List.map_nil,jM,lK,lN,qE,HK,zF,O1,N9,N8,O0,zE,zH,zD,zG,Nat.zero_add,Nat.add_zero,Nat.reduceAdd,Bool.not_true,Bool.not_false];done))) ?_;refine gV ?_;refine aT T rfl rfl rfl rfl rfl rfl (by decide) rfl (aV ?_))|(refine rg 11 (mW rfl (vV (aO rfl rfl) ?_)))|(refine mD (id := 12) 79 [[],[],[1],[],[1,2,3],rN 5] (rM 47 5) [[],[47],[47],[47,48,49],[47],[]] [(5,5)] cC rfl (by decide +kernel) (bZ rfl rfl rfl rfl (by exact aQ T rfl rfl rfl rfl) ?_);refine bZ rfl rfl rfl rfl (by exact bY T rfl rfl rfl) ?_;refine bZ rfl rfl rfl rfl (by exact aQ T rfl rfl rfl rfl) ?_;refine bZ rfl rfl rfl rfl (by exact bX rfl) ?_;refine bZ rfl rfl rfl rfl (by exact kC (hiy)) ?_;refine sU rfl rfl rfl rfl (aP rfl) T rfl rfl rfl rfl rfl rfl (by decide) rfl ?_;refine pS rfl rfl rfl (by exact rfl) ?_;refine aV ?_)|(refine tX (id := 13) 79 zS4 (rM 52 19) zS5 [(8,3),(17,4),(19,2)] cC rfl (by decide +kernel) (fN rfl rfl rfl rfl (by exact bY T rfl rfl rfl) ?_);refine fN rfl rfl rfl rfl (by exact aQ T rfl rfl rfl rfl) ?_;refine fN rfl rfl rfl rfl (by exact bY T rfl rfl rfl) ?_;refine fN rfl rfl rfl rfl (by exact aQ T rfl rfl rfl rfl) ?_;refine fN rfl rfl rfl rfl (by exact bX rfl) ?_;refine fN rfl rfl rfl rfl (by exact ix T rfl (by omega) (cH _) qp) ?_;refine fN rfl rfl rfl rfl (by exact aQ T rfl rfl rfl rfl) ?_;refine K1 rfl rfl rfl rfl (by exact bB T rfl rfl (by decide) (by decide) rfl rfl rfl) rfl ?_;refine wW rfl rfl rfl rfl (aP rfl) (by exact qR T rfl rfl rfl rfl rfl rfl (by omega) (kV.whole rfl rfl) rfl (by simp;omega) (by simp;omega)) ?_;refine fN rfl rfl rfl rfl (by exact bY T rfl rfl rfl) ?_;refine fN rfl rfl rfl rfl (by exact aQ T rfl rfl rfl rfl) ?_;refine fN rfl rfl rfl rfl (by exact bY T rfl rfl rfl) ?_;refine fN rfl rfl rfl rfl (by exact aQ T rfl rfl rfl rfl) ?_;refine fN rfl rfl rfl rfl (by exact bX rfl) ?_;refine fN rfl rfl rfl rfl (by exact ix T rfl (by omega) (iS _) qc) ?_;refine fN rfl rfl rfl rfl (by exact aQ T rfl rfl rfl rfl) ?_;refine K1 rfl rfl rfl rfl (by exact bB T rfl rfl (by decide) (by decide) rfl rfl rfl) rfl ?_;refine wW rfl rfl rfl rfl (aP rfl) (by exact qR T rfl rfl rfl rfl rfl rfl (by omega) (kV.whole rfl rfl) rfl (by simp;omega) (by simp;omega)) ?_;refine fN rfl rfl rfl rfl (by exact bY T rfl rfl rfl) ?_;refine CF rfl rfl rfl rfl (aP rfl) T rfl rfl rfl rfl rfl rfl (by decide) rfl ?_;refine D8 rfl rfl rfl (by exact rfl) ?_;refine fW T rfl (aT T rfl rfl rfl rfl rfl rfl (by decide) rfl ?_))|(refine rg 14 (vV (bT rfl rfl (by omega) (by omega)) (mV ?_)))|refine nZ ?_));all_goals try (exfalso;omega)
          exact ⟨⟨m + 1,hml⟩,by dsimp only;omega,⟨[0,1,2,7,9],rfl,(by repeat first|exact trivial|refine ⟨rfl,?_⟩),⟨.inr rfl,.inr rfl,.inr rfl,.inr (aE rfl (by dsimp only;rw [hPs];exact mJ hTp.symm) (bJ _)),.inr (aE rfl (by dsimp only;rw [hCs];exact mJ hTc.symm) (eY _)),trivial⟩,by decide,lH _⟩⟩
      · obtain rfl : m = l.length := by omega
        rw [show PP.take l.length = PP by rw [← hplen,dQ],show CC.take l.length = CC by rw [← hclen,dQ]]
        refine mX 2 0 rfl rfl rfl (by rw [cQ,hplen]) (hC (bJ _)) ?_
        refine mX 2 2 rfl rfl rfl (by rw [gB,hclen]) (hC (eY _)) ?_
        (repeat' (first|refine wS ?_|refine wE ?_|(refine wC rfl ?_ ?_<;>(intro hb;(try simp only [nm] at hb);try (exfalso;omega)))|(refine rg 8 (vV (aO rfl rfl) ?_))|refine nZ ?_));all_goals try (exfalso;omega)
        show AY _ _ _ _ _ _ _ _ _
        (repeat' (first|(first|(refine uU ?_)|(refine N2 ?_)|(refine TQ ?_))|((refine uV rfl (fun hb=>?_) (fun hb=>?_)<;>(((try simp only [nm] at hb);try ((exfalso;omega);done)))))|(((refine AH (id := 15) ?_));((refine OZ 2 hJ ?_));(dsimp only [List.take,List.drop]);(all_goals (refine mV ?_;refine lV T ?_;refine gV ?_;refine DM hJ hy rfl rfl rfl hk hit rfl ?_));(all_goals (intro yes));(all_goals (refine ZI hJ ?_;refine vV (dH rfl) ?_;refine L9 (by ((dsimp only [List.nil_append,List.cons_append,List.append_nil,List.length_cons,List.length_nil,List.set_cons_zero,List.set_cons_succ,List.map_cons,List.map_nil,jM,lK,lN,qE,HK,zF,O1,N9,N8,O0,zE,zH,zD,zG,Nat.zero_add,Nat.add_zero,Nat.reduceAdd,Bool.not_true,Bool.not_false];done))) ?_)))|(((refine pG hJ (eK (id := 16) ?_)));(all_goals (refine vV (bT rfl rfl (by omega) (by omega)) ?_;refine mV ?_)))|refine nZ ?_));all_goals first | (exfalso;omega) | skip
        · exact ⟨.inl rfl,fun h => (by first | (subst hb;cases h) | (cases h;done)),[],rfl⟩
        · obtain rfl := hb;exact ⟨⟨j + 1,hjl⟩,by dsimp only;omega,rfl,⟨[0],rfl,(by repeat first|exact trivial|refine ⟨rfl,?_⟩),⟨.inr rfl,trivial⟩,by decide,lH _⟩⟩
    · obtain rfl : j = b.2.length := by omega
      (repeat' (first|(first|(refine uU ?_)|(refine CS ?_))|((refine uV rfl (fun hb=>?_) (fun hb=>?_)<;>(((try simp only [nm] at hb);try ((exfalso;omega);done)))))|(((refine pG hJ (eK (id := 4) ?_)));(all_goals (refine vV (aO rfl rfl) ?_)))|(((refine pG hJ (eK (id := 17) ?_)));(all_goals (refine vV (bT rfl rfl (by omega) (by omega)) ?_;refine mV ?_)))|refine nZ ?_));all_goals first | (exfalso;omega) | skip
      exact ⟨⟨i + 1,hlt⟩,by dsimp only;omega,rfl,eW []⟩
  · obtain rfl : i = a.2.length := by omega
    (repeat' (first|(first|(refine uU ?_)|(refine CS ?_))|((refine uV rfl (fun hb=>?_) (fun hb=>?_)<;>(((try simp only [nm] at hb);try ((exfalso;omega);done)))))|(((refine pG hJ (eK (id := 1) ?_)));(all_goals (refine vV (aO rfl rfl) ?_)))|refine nZ ?_));all_goals first | (exfalso;omega) | skip
    exact ⟨.inr rfl,fun _ => by rw [hnn],[],rfl⟩
end Go.Proofs.YtmmkhmilpeodnaaGreat
namespace Go.Ab
open Go
theorem qI {P : Program} {env : dU} {h : Hp} {d : Option Nat} {ty : TypeId} {pos : String} {af : Array Edge} {g : Option (Nat × Bool)} (T : oS P) {t e sz : Nat} {es : List (List AV)} {c : List AV} {i : TI} {x y : Operand} {kk : IntKind} {j : Int} (hx : evu env x = some (.rowE es sz)) (hy : evu env y = some (.v (.int kk j))) (ha : T.elem t = some e) (he : T.ti e = some i) (hs : i.size = sz) (h0 : 0 ≤ j) (hl : ∀ e,e ∈ es → e.length = sz) (hc : es[j.toNat]? = some c) :
    UU P ⟨d,.indexAddr t x y,ty,pos,af,g⟩ env h (.pr c 0) := by
  intro ρ S a w p;have h1 : j < es.length := by have := (aB.1 hc).1;omega
  have h2 := p.evu hx;simp only [R] at h2;obtain ⟨ad,cap,h3,_,_,_,_,h4⟩ := h2;rcases h4 with h4 | ⟨b,o,ys,h5,h6,h7,h8⟩
  · omega
  have h9 := rP (p.evu hy);subst h5;refine ⟨.pointer (some ⟨b,o + j.toNat * sz,none⟩),fun w' => by simp [execOp,h3,h9,Instr.indexAt,asIntOf,run_underlying (T.elemOk _ _ ha),h0,h1,T.sizeOf he,Addr.add_lit,hs],KH hl hc ?_⟩
  simp only [R];exact ⟨b,o,ys,rfl,h6,h7,h8⟩
end Go.Ab
namespace Go.Ld
open Go.Ab Go.Proofs.YtmmkhmilpeodnaaGreat
theorem kA {l : List G} {b : Int} (h : ∃ g,g ∈ l ∧ b ∈ g.1) : ∃ (i : Nat) (g : G),oY l b = (i : Int) ∧ l[i]? = some g ∧ b ∈ g.1 := by
  obtain ⟨g,hg,hb⟩ := h;unfold oY;cases hf : l.findIdx? fun g => decide (b ∈ g.1) with
  | none => have := List.findIdx?_eq_none_iff.1 hf g hg;simp at this;exact absurd hb this
  | some i =>
    obtain ⟨h1,h2,_⟩ := List.findIdx?_eq_some_iff_getElem.1 hf;exact ⟨i,l[i],rfl,aA h1,by simpa using h2⟩
theorem pJ (l : List Int) : iM l = dW cI l :=
  zJ oZ (Go.Pm.sorted_perm l) ((Go.Pm.sorted_up l).imp fun {a b} h => by unfold cI;split <;> (try split) <;> omega)
theorem MV {a b : G} {l : List Int} {k : Nat} {w : W} (h : (oD a b l)[k]? = some w) : P7 a b l k = [.agg (wA w)] := by unfold P7;rw [h]
end Go.Ld
namespace Go.Proofs.YtmmkhmilpeodnaaGreat
open Go Go.Ab Go.Ld
attribute [local irreducible] VC AW cF aR AY VY U7 kZ
set_option maxHeartbeats 4000000
theorem zL8 : ∀ i : Nat,i < 1 → ([0,4] : List Nat)[i]? = some i := by decide
theorem XH {n : Nat} (l : List G) (a b : Int) (ok : nA n l) (ha : ∃ g,g ∈ l ∧ a ∈ g.1) (hb : ∃ g,g ∈ l ∧ b ∈ g.1) (hs : oY l a = oY l b) : aR Tryz.prog 44 [.sl 0 0 l.length 2,.i a,.i b] [.arr (iY l) 2] (.tup [.sl 0 0 l.length 2,.i 0]) [.arr (iY l) 2] := by
  have hl12 : l.length ≤ 12 := cJ ok.len ok.ln;have hgl : ∀ g,g ∈ l → g.1.length ≤ 1000000 := fun g hg => by have := (ok.ok g hg).ln;omega
  have f1 := wV l a (by omega) hgl
  have f2 := wV l b (by omega) hgl
  obtain ⟨i,x,e1,hx,hax⟩ := kA ha;obtain ⟨k,y,e2,hy,hby⟩ := kA hb;rw [e1] at f1;rw [e2] at f2;have hil := (aB.1 hx).1;have hkl := (aB.1 hy).1;have hll : (iY l).length = l.length := iX _;have qx : (iY l)[(i : Int).toNat]? = some (gA x) := by rw [bV,bR,hx];rfl
  have qy : (iY l)[(k : Int).toNat]? = some (gA y) := by rw [bV,bR,hy];rfl
  have ax : mO l (i : Int).toNat = x := by unfold mO;rw [bV,aC,hx];rfl
  have ay : mO l (k : Int).toNat = y := by unfold mO;rw [bV,aC,hy];rfl
  have hik : i = k := by omega
  subst hik;have hvw : nM [.arr (iY l) 2] (.sl 0 0 l.length 2) (.rowE (iY l) 2) := tB rfl hll.symm (tH (fun _ => rfl) _);refine bQ T Tryz.func44 rfl rfl rfl rfl ?_
  (repeat' (first|refine wS ?_|refine wR ?_|refine wT ?_|(refine rg 0 (pT ?_))|(refine rg 1 (dX rfl (vV (by exact eT rfl rfl f1 (.cons hvw (.cons (.v _) .nil)) rfl rfl) ?_));refine dX rfl (vV (by exact eT rfl rfl f2 (.cons hvw (.cons (.v _) .nil)) rfl rfl) ?_);refine pT ?_)|(refine rg 2 (dX rfl (vV (kO rfl rfl rfl) ?_)))|(refine rg 3 (mW rfl (pT ?_)))|refine nZ ?_));all_goals first | (exfalso;omega) | exact ⟨.inl rfl,[0],_,rfl,rfl,rfl,⟨.inr (aE rfl rfl (eC _)),trivial⟩,by decide,BJ⟩
theorem XJ {n : Nat} (l : List G) (a b : Int) (ok : nA n l) (ha : ∃ g,g ∈ l ∧ a ∈ g.1) (hb : ∃ g,g ∈ l ∧ b ∈ g.1) (hj : join l a b = none) : aR Tryz.prog 44 [.rowE (iY l) 2,.i a,.i b] [] (.tup [.nils,.i 6]) [] := by
  have hl12 : l.length ≤ 12 := cJ ok.len ok.ln;have hgl : ∀ g,g ∈ l → g.1.length ≤ 1000000 := fun g hg => by have := (ok.ok g hg).ln;omega
  have f1 := wV l a (by omega) hgl
  have f2 := wV l b (by omega) hgl
  obtain ⟨i,x,e1,hx,hax⟩ := kA ha;obtain ⟨k,y,e2,hy,hby⟩ := kA hb;rw [e1] at f1;rw [e2] at f2;have hil := (aB.1 hx).1;have hkl := (aB.1 hy).1;have hll : (iY l).length = l.length := iX _;have qx : (iY l)[(i : Int).toNat]? = some (gA x) := by rw [bV,bR,hx];rfl
  have qy : (iY l)[(k : Int).toNat]? = some (gA y) := by rw [bV,bR,hy];rfl
  have ax : mO l (i : Int).toNat = x := by unfold mO;rw [bV,aC,hx];rfl
  have ay : mO l (k : Int).toNat = y := by unfold mO;rw [bV,aC,hy];rfl
  unfold join at hj;dsimp only at hj;rw [e1,e2,ax,ay] at hj;clear ha hb;have hik : i ≠ k := fun q => by subst q;rw [if_pos rfl] at hj;cases hj
  rw [if_neg (by omega)] at hj
  have hf : 6 < x.1.length + y.1.length ∨ 1000 < x.2.length * y.2.length := by
    by_cases hf : 6 < x.1.length + y.1.length ∨ 1000 < x.2.length * y.2.length
    · exact hf
    · rw [if_neg hf] at hj;cases hj
  clear hj;have xo := ok.ok x (aM hx);have yo := ok.ok y (aM hy);have xw := ok.ws x (aM hx);have yw := ok.ws y (aM hy);have xl := xo.ln;have yl := yo.ln;have xp := fC.2 xo.ne;have yp := fC.2 yo.ne;have sx := xo.sz xw;have sy := yo.sz yw;have l1 : (ints x.1).length = x.1.length := cQ _;have l2 : (ints y.1).length = y.1.length := cQ _;have l3 : (fP x.2).length = x.2.length := eS _;have l4 : (fP y.2).length = y.2.length := eS _;have hmx : x.2.length * y.2.length ≤ 2000 * 2000 := Nat.mul_le_mul xw yw;have hml : ((x.2.length : Int) * y.2.length) = ((x.2.length * y.2.length : Nat) : Int) := by push_cast;rfl
  obtain ⟨bx,wx⟩ := x;obtain ⟨by_,wy⟩ := y;have hmI : (((fP wx).length : Nat) : Int) * ((fP wy).length : Nat) = ((wx.length * wy.length : Nat) : Int) := by rw [eS,eS];push_cast;rfl
  dsimp only at *;refine bQ T Tryz.func44 rfl rfl rfl rfl ?_
  (repeat' (first|refine wS ?_|refine wK ?_|refine wU ?_|(refine rg 0 (pT ?_))|(refine rg 1 (dX rfl (vV (kC (f1)) (dX rfl (vV (kC (f2)) (pT ?_))))))|(refine rg 2 (dX rfl (vV (gL rfl rfl (by omega)) ?_)))|refine nZ ?_));refine TW [(0,.rowE (iY l) 2),(8,.i i),(9,.i k),(10,.ptr 0 0),(11,.ptr 1 0)] [.cells [.rowE (ints bx) 1,.rowE (fP wx) 3],.cells [.rowE (ints by_) 1,.rowE (fP wy) 3]] ?_ ?_
  · refine GJ (id := 4) cC ?_;refine vI 0 rfl rfl (by decide +kernel) (by decide +kernel) (by decide +kernel) (by exact rX rfl) rfl ?_
    refine vI 1 rfl rfl (by decide +kernel) (by decide +kernel) (by decide +kernel) (by exact rX rfl) rfl ?_
    refine vI 2 rfl rfl (by decide +kernel) (by decide +kernel) (by decide +kernel) (by exact qI T rfl rfl rfl rfl rfl (by omega) (oX _) qx) rfl ?_
    refine vI 4 rfl rfl (by decide +kernel) (by decide +kernel) (by decide +kernel) (by exact rX rfl) rfl ?_
    refine vI 5 rfl rfl (by decide +kernel) (by decide +kernel) (by decide +kernel) (by exact rX rfl) rfl ?_
    refine vI 6 rfl rfl (by decide +kernel) (by decide +kernel) (by decide +kernel) (by exact qI T rfl rfl rfl rfl rfl (by omega) (oX _) qy) rfl ?_
    refine LQ [(0,[]),(1,[]),(2,[0,1]),(3,[2]),(4,[]),(5,[]),(6,[4,5]),(7,[6]),(8,[]),(9,[]),(10,[8,3,0,1,2,3,8,9]),(11,[9,7,10,0,1,2,3,4,5,6,7,8,9,10])] (by decide +kernel) [true,true,true,false,true,true,true,false,false,false,false,false] rfl rfl ?_
    (repeat' (first|(refine UG rfl rfl ?_;(first|(refine lV T ?_)|(refine bS (bO T rfl) rfl ?_)|(refine aT T rfl rfl rfl rfl rfl rfl (by decide) rfl ?_));refine gV ?_;dsimp only [List.set_cons_zero,List.set_cons_succ])|(refine UF rfl rfl rfl ?_ ?_<;>((first|(refine lV T ?_)|(refine bS (bO T rfl) rfl ?_)|(refine aT T rfl rfl rfl rfl rfl rfl (by decide) rfl ?_));refine gV ?_;dsimp only [List.set_cons_zero,List.set_cons_succ]))|(refine UE rfl rfl rfl rfl ?_ ?_ ?_<;>((first|(refine lV T ?_)|(refine bS (bO T rfl) rfl ?_));refine gV ?_;dsimp only [List.set_cons_zero,List.set_cons_succ]))|(refine UD rfl rfl rfl rfl rfl ?_ ?_ ?_ ?_<;>((first|(refine lV T ?_)|(refine bS (bO T rfl) rfl ?_));refine gV ?_;dsimp only [List.set_cons_zero,List.set_cons_succ]))));all_goals first | exact yG rfl ⟨rfl,[0,1],rfl,(by repeat first|exact trivial|refine ⟨rfl,?_⟩),⟨.inr rfl,.inr rfl,trivial⟩,by decide,lH _⟩ | exact yG rfl ⟨rfl,[1,0],rfl,(by repeat first|exact trivial|refine ⟨rfl,?_⟩),⟨.inr rfl,.inr rfl,trivial⟩,by decide,lH _⟩
  intro v g hsub;refine IV hsub ?_
  (repeat' (first|refine wS ?_|refine wR ?_|refine wT ?_|(refine wC rfl ?_ ?_<;>(intro hb;(try simp only [nm] at hb);try (exfalso;omega)))|(refine rg 5 (iL T rfl (qW T rfl (iL T rfl (qW T rfl (vV (bT rfl rfl (by omega) (by omega)) (vV (fT rfl rfl) (mV ?_)))))));refine cN rfl rfl ?_ ?_<;>(intro hb;rw [hb];(try simp only [nm] at hb);try (exfalso;omega));(all_goals first|(refine gT (fW T rfl (gT (lW T rfl (gT (qW T rfl (gT (fW T rfl (gT (lV T ?_)))))))));refine gT (qW T rfl (gT (vV (uN rfl rfl (by omega) (by omega)) (gT (vV (fT rfl rfl) ?_))))))|(iterate 8 refine gF ?_));(all_goals (refine pV ?_)))|(refine rg 6 (pT ?_))|refine nZ ?_));all_goals first | (exfalso;omega) | exact rQ
theorem XI {n : Nat} (l : List G) (a b : Int) (ok : nA n l) (ha : ∃ g,g ∈ l ∧ a ∈ g.1) (hb : ∃ g,g ∈ l ∧ b ∈ g.1) {all : List G} (hj : join l a b = some all) (hne : oY l a ≠ oY l b) : aR Tryz.prog 44 [.rowE (iY l) 2,.i a,.i b] [] (.tup [.sl 0 0 all.length 2,.i 0]) [.arr (iY all) 2] := by
  have hl12 : l.length ≤ 12 := cJ ok.len ok.ln;have hgl : ∀ g,g ∈ l → g.1.length ≤ 1000000 := fun g hg => by have := (ok.ok g hg).ln;omega
  have f1 := wV l a (by omega) hgl
  have f2 := wV l b (by omega) hgl
  obtain ⟨i,x,e1,hx,hax⟩ := kA ha;obtain ⟨k,y,e2,hy,hby⟩ := kA hb;rw [e1] at f1;rw [e2] at f2;have hil := (aB.1 hx).1;have hkl := (aB.1 hy).1;have hll : (iY l).length = l.length := iX _;have qx : (iY l)[(i : Int).toNat]? = some (gA x) := by rw [bV,bR,hx];rfl
  have qy : (iY l)[(k : Int).toNat]? = some (gA y) := by rw [bV,bR,hy];rfl
  have ax : mO l (i : Int).toNat = x := by unfold mO;rw [bV,aC,hx];rfl
  have ay : mO l (k : Int).toNat = y := by unfold mO;rw [bV,aC,hy];rfl
  unfold join at hj;dsimp only at hj;rw [e1,e2,ax,ay] at hj;clear ha hb;have hik : i ≠ k := fun q => by subst q;exact hne (e1.trans e2.symm)
  rw [if_neg (by omega)] at hj
  have hf : ¬ (6 < x.1.length + y.1.length ∨ 1000 < x.2.length * y.2.length) := fun hf => by rw [if_pos hf] at hj;cases hj
  rw [if_neg hf] at hj
  replace hj := (Option.some.inj hj).symm
  have xo := ok.ok x (aM hx);have yo := ok.ok y (aM hy);have xw := ok.ws x (aM hx);have yw := ok.ws y (aM hy);have xl := xo.ln;have yl := yo.ln;have xp := fC.2 xo.ne;have yp := fC.2 yo.ne;have sx := xo.sz xw;have sy := yo.sz yw;have l1 : (ints x.1).length = x.1.length := cQ _;have l2 : (ints y.1).length = y.1.length := cQ _;have l3 : (fP x.2).length = x.2.length := eS _;have l4 : (fP y.2).length = y.2.length := eS _;have hmx : x.2.length * y.2.length ≤ 2000 * 2000 := Nat.mul_le_mul xw yw;have hml : ((x.2.length : Int) * y.2.length) = ((x.2.length * y.2.length : Nat) : Int) := by push_cast;rfl
  obtain ⟨bx,wx⟩ := x;obtain ⟨by_,wy⟩ := y;have hmI : (((fP wx).length : Nat) : Int) * ((fP wy).length : Nat) = ((wx.length * wy.length : Nat) : Int) := by rw [eS,eS];push_cast;rfl
  have hjG : mB (bx,wx) (by_,wy) = (dW cI (bx ++ by_),oD (bx,wx) (by_,wy) (dW cI (bx ++ by_))) := rfl;rw [hjG,← pJ] at hj;have hbl : (iM (bx ++ by_)).length = bx.length + by_.length := by rw [pI,aF]
  have hmm : ∀ q,q ∈ iM (bx ++ by_) → q ∈ bx ∨ q ∈ by_ := fun q hq => bF.1 ((Go.Pm.sorted_perm _).mem_iff.1 hq);have h1 := TE bx by_ ⟨by dsimp only at *;omega,by dsimp only at *;omega⟩ ⟨by dsimp only at *;omega,by dsimp only at *;omega⟩
  have h2 := A9 (bx ++ by_);have h3 := O3 (bx ++ by_) (by rw [aF];dsimp only at *;omega)
  have hPl := X8 (bx,wx) (by_,wy) (iM (bx ++ by_));generalize iM (bx ++ by_) = bod at *;have h4 := WS (bx,wx) (by_,wy) bod;have hit := QZ (bx,wx) (by_,wy) bod sx sy (by dsimp only at *;omega) hmm (fun w hw => ⟨(xo.ws w hw).m0,(xo.ws w hw).m1⟩) (fun w hw => ⟨(yo.ws w hw).m0,(yo.ws w hw).m1⟩)
  have hpg : ∀ (q : Nat) (w : W),(oD (bx,wx) (by_,wy) bod)[q]? = some w → P7 (bx,wx) (by_,wy) bod q = [.agg (wA w)] := fun q w h => MV h
  generalize P7 (bx,wx) (by_,wy) bod = IT at *;generalize oD (bx,wx) (by_,wy) bod = P at *;have hP : P.length ≤ 1000 := by rw [hPl,Nat.mul_comm];dsimp only at *;omega
  clear hPl hmm h2;have h2 := A9 (bx ++ by_);dsimp only at *;have hcl := FY l (by omega)
  have hS : min (i : Int) (k : Int) = ((min i k : Nat) : Int) := by omega
  have hM : max (i : Int) (k : Int) = ((max i k : Nat) : Int) := by omega
  rw [hS,hM,bV,bV] at hj;have ts := C8 (L := l) (j := min (i : Int) (k : Int)) (i := min i k) (x := (bod,P)) hS;have qm := wO (L := l) (j := min (i : Int) (k : Int)) (i := min i k) (x := l[min i k]'(by omega)) (aA _) hS
  have hdl := zE0 (l.set (min i k) (bod,P)) (max i k) (max i k + 1) (by omega) (by rw [gI];omega) (by intro h;have := congrArg List.length h;rw [gI,List.length_nil] at this;omega)
  rw [D5,gI,show l.length - (max i k + 1 - max i k) = l.length - 1 by omega,show ((max i k + 1 : Nat) : Int) = max (i : Int) (k : Int) + 1 by omega,← hM] at hdl
  have hel : ((l.set (min i k) (bod,P)).eraseIdx (max i k)).length = l.length - 1 := by rw [fR,gI,if_pos (by omega)]
  generalize l[min i k]'(by omega) = gm at *
  subst hj;rw [hel];refine bQ T Tryz.func44 rfl rfl rfl rfl ?_
  (repeat' (first|refine wS ?_|refine wK ?_|refine wU ?_|(refine rg 0 (pT ?_))|(refine rg 1 (dX rfl (vV (kC (f1)) (dX rfl (vV (kC (f2)) (pT ?_))))))|(refine rg 2 (dX rfl (vV (gL rfl rfl (by omega)) ?_)))|refine nZ ?_));refine TW [(0,.rowE (iY l) 2),(8,.i i),(9,.i k),(10,.ptr 0 0),(11,.ptr 1 0)] [.cells [.rowE (ints bx) 1,.rowE (fP wx) 3],.cells [.rowE (ints by_) 1,.rowE (fP wy) 3]] ?_ ?_
  · refine GJ (id := 4) cC ?_;refine vI 0 rfl rfl (by decide +kernel) (by decide +kernel) (by decide +kernel) (by exact rX rfl) rfl ?_
    refine vI 1 rfl rfl (by decide +kernel) (by decide +kernel) (by decide +kernel) (by exact rX rfl) rfl ?_
    refine vI 2 rfl rfl (by decide +kernel) (by decide +kernel) (by decide +kernel) (by exact qI T rfl rfl rfl rfl rfl (by omega) (oX _) qx) rfl ?_
    refine vI 4 rfl rfl (by decide +kernel) (by decide +kernel) (by decide +kernel) (by exact rX rfl) rfl ?_
    refine vI 5 rfl rfl (by decide +kernel) (by decide +kernel) (by decide +kernel) (by exact rX rfl) rfl ?_
    refine vI 6 rfl rfl (by decide +kernel) (by decide +kernel) (by decide +kernel) (by exact qI T rfl rfl rfl rfl rfl (by omega) (oX _) qy) rfl ?_
    refine LQ [(0,[]),(1,[]),(2,[0,1]),(3,[2]),(4,[]),(5,[]),(6,[4,5]),(7,[6]),(8,[]),(9,[]),(10,[8,3,0,1,2,3,8,9]),(11,[9,7,10,0,1,2,3,4,5,6,7,8,9,10])] (by decide +kernel) [true,true,true,false,true,true,true,false,false,false,false,false] rfl rfl ?_
    (repeat' (first|(refine UG rfl rfl ?_;(first|(refine lV T ?_)|(refine bS (bO T rfl) rfl ?_)|(refine aT T rfl rfl rfl rfl rfl rfl (by decide) rfl ?_));refine gV ?_;dsimp only [List.set_cons_zero,List.set_cons_succ])|(refine UF rfl rfl rfl ?_ ?_<;>((first|(refine lV T ?_)|(refine bS (bO T rfl) rfl ?_)|(refine aT T rfl rfl rfl rfl rfl rfl (by decide) rfl ?_));refine gV ?_;dsimp only [List.set_cons_zero,List.set_cons_succ]))|(refine UE rfl rfl rfl rfl ?_ ?_ ?_<;>((first|(refine lV T ?_)|(refine bS (bO T rfl) rfl ?_));refine gV ?_;dsimp only [List.set_cons_zero,List.set_cons_succ]))|(refine UD rfl rfl rfl rfl rfl ?_ ?_ ?_ ?_<;>((first|(refine lV T ?_)|(refine bS (bO T rfl) rfl ?_));refine gV ?_;dsimp only [List.set_cons_zero,List.set_cons_succ]))));all_goals first | exact yG rfl ⟨rfl,[0,1],rfl,(by repeat first|exact trivial|refine ⟨rfl,?_⟩),⟨.inr rfl,.inr rfl,trivial⟩,by decide,lH _⟩ | exact yG rfl ⟨rfl,[1,0],rfl,(by repeat first|exact trivial|refine ⟨rfl,?_⟩),⟨.inr rfl,.inr rfl,trivial⟩,by decide,lH _⟩
  intro v g hsub;refine IV hsub ?_
  (repeat' (first|refine wS ?_|refine wB ?_|refine wK ?_|(refine wC rfl ?_ ?_<;>(intro hb;(try simp only [nm] at hb);try (exfalso;omega)))|(refine rg 5 (iL T rfl (qW T rfl (iL T rfl (qW T rfl (vV (bT rfl rfl (by omega) (by omega)) (vV (fT rfl rfl) (mV ?_)))))));refine cN rfl rfl ?_ ?_<;>(intro hb;rw [hb];(try simp only [nm] at hb);try (exfalso;omega));(all_goals (refine yP T rfl (yO T rfl (gT (qW T rfl (yP T rfl (yO T rfl (gT (qW T rfl (yV (uN rfl rfl (by omega) (by omega)) (yV (fT rfl rfl) ?_)))))))));refine pV ?_)))|(refine rg 7 (iL T rfl (iL T rfl (bS (by exact bB T rfl rfl (by decide) (by decide) rfl rfl rfl) rfl ?_)));refine mE 55 rfl rfl rfl rfl ?_;refine vV (kC (h1)) (vV (kC (h2)) (vV (kC (h3)) (vV (by exact eQ T rfl rfl rfl rfl) ?_)));refine bS (bO T rfl) rfl (aT T rfl rfl rfl rfl rfl rfl (by decide) rfl ?_))|(refine rg 8 (lW T rfl (lW T rfl (iL T rfl (vV (kC (h4)) ?_)))))|refine nZ ?_));all_goals try (exfalso;omega)
  refine uW 3 1 3 rfl rfl (by decide) ?_
  refine GG [] [3,4] [(0,.rowE (iY l) 2),(8,.i i),(9,.i k),(12,.ptr 0 0)] (fun m => [.cells [.rowE (ints bod) 1,.sl 1 0 m 3],.arr (fP (P.take m)) 3]) 1 rfl hit rfl rfl rfl trivial dD rfl (by repeat first|exact trivial|refine ⟨rfl,?_⟩) ⟨.inr rfl,.inr rfl,trivial⟩ (by decide) (lH _) (by simp) (cT _) (aP rfl) rfl (by decide) (fun m hm => by rw [hpg m P[m] (aA hm)];exact ⟨rfl,rfl⟩) ?_ ?_
  · intro m hm;rw [hpg m P[m] (aA hm)];have hks := aX hm;have hkl' : (fP (P.take m)).length = m := by rw [eS,bD];omega
    have hW : fP (P.take (m + 1)) = fP (P.take m) ++ [wA P[m]] := by rw [hks,fP,dI];rfl
    generalize P[m] = w at *;obtain ⟨wp,wm,wc⟩ := w;generalize fP (P.take m) = Q at *;refine eK (id := 9) ?_;refine bS (by exact bO T rfl) rfl ?_
    refine aT T rfl rfl rfl rfl rfl rfl (by decide) rfl ?_
    refine gV ?_;refine ⟨rfl,?_⟩
    repeat' (first|refine wB ?_|(refine rg 10 (iL T rfl (lW T rfl (bS (by exact bB T rfl rfl (by decide) (by decide) rfl rfl rfl) rfl ?_)));refine gE T rfl rfl rfl rfl rfl rfl (by omega) (kV.whole rfl rfl) rfl (by simp;omega) (by simp;omega) rfl ?_;refine fW T rfl (aT T rfl rfl rfl rfl rfl rfl (by decide) rfl ?_))|refine nZ ?_)
    show DH _ _ _ _ [.cells [.rowE (ints bod) 1,.sl 1 0 (m + 1) 3],.arr (fP (P.take (m + 1))) 3];rw [hW];exact ⟨[0,4],rfl,trivial,⟨.inr (by simp;rfl),.inr (aE rfl (by first | exact mJ hkl'.symm | simp) (by rw [← hW];exact bH _)),trivial⟩,by decide,zL8⟩
  · rw [dQ];refine mX 0 1 rfl rfl rfl (eS _).symm (hC (bH _)) ?_;show AW _ _ _ _ _ _
    (repeat' (first|refine wS ?_|(refine rg 11 (mW rfl (bS (by exact fK rfl rfl hcl (.inr ⟨rfl,rfl,by simp⟩)) rfl ?_));refine aV ?_)|refine nZ ?_));refine fE [(8,.i i),(9,.i k),(12,.ptr 0 0),(14,.sl 1 0 l.length 2)] [.cells [.rowE (ints bod) 1,.rowE (fP P) 3],.arr (iY l) 2] ⟨[0,2],rfl,(by repeat first|exact trivial|refine ⟨rfl,?_⟩),⟨.inr rfl,.inr (aE rfl (bU _ (eC _)) (eC _)),trivial⟩,by decide,lH _⟩ ?_
    (repeat' (first|refine wS ?_|(refine rg 12 (dX rfl (mW rfl (vV (BV rfl rfl) (lW T rfl (vV (by exact aK T rfl rfl rfl rfl rfl (by omega) (by omega)) ?_)))));refine aT T rfl rfl rfl rfl rfl rfl (by decide) (lC rfl qm rfl) ?_)|refine nZ ?_));refine fE [(8,.i i),(9,.i k),(14,.sl 0 0 l.length 2)] [.arr (iY (l.set (min i k) (bod,P))) 2] ⟨[1],rfl,(by repeat first|exact trivial|refine ⟨rfl,?_⟩),⟨.inr (aE rfl ts (eC _)),trivial⟩,by decide,lH _⟩ ?_
    (repeat' (first|refine wR ?_|(refine rg 13 (dX rfl (mW rfl (vV (wQ rfl rfl) (dX rfl (vV (wQ rfl rfl) (vV (bT rfl rfl (by omega) (by omega)) (fQ [0] rfl rfl (hdl) rfl rfl (by decide) ⟨.inr (aE rfl rfl (eC _)),trivial⟩ (by simp) rfl ?_)))))));refine pT ?_)|refine nZ ?_));all_goals exact ⟨.inl rfl,[0],_,rfl,rfl,rfl,⟨.inr (aE rfl (bU _ (eC _)) (eC _)),trivial⟩,by decide,lH _⟩
end Go.Proofs.YtmmkhmilpeodnaaGreat
namespace Go.Ld
open Go.Ab Go.Proofs.YtmmkhmilpeodnaaGreat
structure qO (c : Cx) : Prop where
  f : VG c.ks c.ls (nats (List.range c.bs.length)) c.bs
  s : kR c.m c.st c.er c.sl
theorem qO.unit {c : Cx} (h : qO c) (lot : Int) : 0 ≤ mQ c.ks c.ls lot := by
  unfold mQ;split
  · exact fG _
  · rw [aC];cases hq : c.ks[(c.ls.getD lot.toNat (0,0,false)).1.toNat]? with
    | none => exact fG _
    | some x =>
      obtain ⟨h1,h2⟩ := aB.1 hq;have := (h.f.k _ h1).1;rw [h2] at this;exact this
end Go.Ld
namespace Go.Proofs.YtmmkhmilpeodnaaGreat
open Go Go.Ab Go.Ld
attribute [local irreducible] VC AW cF aR kZ
set_option maxHeartbeats 4000000
theorem MA (t u w e : Int) (hu : 0 ≤ u) : aR Tryz.prog 92 [.i t,.i u,.i w,.i e] [] (.tup [kI (OY t u w e).1.1 (OY t u w e).1.2,.b (OY t u w e).2]) [] := by
  unfold OY;by_cases h : BZ t u w e
  · rw [if_pos (show Z9 t u w e = true from decide_eq_true h)]
    by_cases h1 : w + e - t < 0 ∨ u = 0 ∧ 0 < w - e - t
    · rw [if_pos h1];exact DK t u w e h h1
    · rw [if_neg h1];by_cases h2 : u = 0
      · rw [if_pos h2];exact DL t u w e h (by omega) h2 (by omega)
      · rw [if_neg h2];exact HH t u w e h (by omega) (by omega)
  · have h' : ¬ Z9 t u w e = true := fun q => h (by simpa [Z9,BZ] using q)
    rw [if_neg h'];exact HG t u w e h
theorem XK (r q : SP) : aR Tryz.prog 93 [kI r.1 r.2,kI q.1 q.2] [] (.tup [kI (D9 (max r.1 q.1) (min r.2 q.2)).1.1 (D9 (max r.1 q.1) (min r.2 q.2)).1.2,.b (D9 (max r.1 q.1) (min r.2 q.2)).2]) [] := XL r.1 r.2 q.1 q.2
theorem QP (r : SP) (n s : Int) (hf : 0 ≤ r.1 ∧ r.1 ≤ 20001 ∧ 0 ≤ r.2 ∧ r.2 ≤ 20001) : aR Tryz.prog 94 [kI r.1 r.2,.i n,.i s] [] (.tup [kI (wG r n s).1.1 (wG r n s).1.2,.b (wG r n s).2]) [] := by
  unfold wG;by_cases h : 0 ≤ n ∧ n ≤ 1099511627776 ∧ 0 ≤ s ∧ s ≤ 1099511627776
  · rw [if_pos h];exact MW r.1 r.2 n s hf h
  · rw [if_neg h];exact HV r.1 r.2 n s h
abbrev zI6 (s : Ev) : AV := nK s.k s.a s.b s.n s.ids
theorem TP (c : Cx) (gs : List G) {n q : Nat} (w : W) {i : Nat} (s : Ev) (hc : qO c) (hw : V3 n q w) (hn : n = c.bs.length) (hi : i < q) (hq : q ≤ 1000) (hids : s.ids.length ≤ 9223372036854775807) (hsn : 0 ≤ s.n ∧ s.n ≤ 1099511627776) :
    aR Tryz.prog 47 [.pr (gS c gs) 0,HC w,.i i,zI6 s] [] (.tup [.agg [.sl 0 0 w.1.length 1,.i (jJ c w i s).1.2.1,.sl 1 0 w.2.2.length 2],.b (jJ c w i s).2]) [.arr (ints w.1) 1,.arr (eZ (jJ c w i s).1.2.2) 2] := by
  have hpl := hw.pl;have hcl := hw.cl;have hcw := CJ w ⟨by omega,by omega⟩
  obtain ⟨g1,g2,g3,g4,g5⟩ := hw.at hi;have hm0 := hw.m0;have hm1 := hw.m1;have hids' : (ints s.ids).length = s.ids.length := cQ _;obtain ⟨st1,st2,st3,st4,st5,st6,st7,st8⟩ := hc.s;have hbo : (jJ c w i s).1.2.2 = (jJ c w i s).1.2.2 := rfl;unfold jJ gP gC at *;obtain ⟨p,m,cs⟩ := w;obtain ⟨sk,sa,sb,sn,ids⟩ := s;dsimp only at *;have hlp : (ints p).length = p.length := cQ _;have hlc : (eZ cs).length = cs.length := gB _;have qp := C6 (l := p) (j := (i : Int)) (i := i) 0 (by omega) rfl
  have qc := B5 (l := cs) (j := (i : Int)) (i := i) (by omega) rfl
  have ct : ∀ r : SP,_ := fun r => O2 (l := cs) (j := (i : Int)) (i := i) (r := r) rfl;have ctn : ∀ x y : Int,(eZ cs).set (0 + (i : Int).toNat) [AV.i x,AV.i y] = eZ (cs.set i (x,y)) := fun x y => ct (x,y);clear ct hbo;generalize hx : p.getD i 0 = x at *;generalize hr : cs.getD i (0,0) = r at *;obtain ⟨r1,r2⟩ := r;dsimp only at *;have hbx : c.bs[x.toNat]? = some (c.bs.getD x.toNat (0,0,0)) := by
    rw [aC,aA (by omega)];rfl
  refine bQ T Tryz.func47 rfl rfl rfl rfl ?_
  (repeat' (first|refine wS ?_|refine wB ?_|(refine rg 0 (bS (cE rfl rfl) rfl (bS (cE rfl rfl) rfl (bS (bO T rfl) rfl (aV ?_)))))|(refine rg 1 (lW T rfl (bS (by exact fK rfl rfl hcw (.inr ⟨rfl,rfl,by simp⟩)) rfl ?_));refine aT T rfl rfl rfl rfl rfl rfl (by decide) rfl ?_)|(refine rg 2 (aV ?_))|(refine rg 3 (OB T ?_))|refine nZ ?_));refine fE [(0, .pr (gS c gs) 0), (2, .i i), (5, .ptr 0 0), (7, .ptr 1 0), (8, .ptr 2 0), (10, .b true), (18, .i sk)] [.cells [.sl 3 0 p.length 1, .i m, .sl 4 0 cs.length 2], .cells [.i sk, .i sa, .i sb, .i sn, .rowE (ints ids) 1], .cells [.nils, .i 0, .nils], .arr (ints p) 1, .arr (eZ cs) 2]
    ⟨[0,1,2,3,4],rfl,(by repeat first|exact trivial|refine ⟨rfl,?_⟩),⟨.inr rfl,.inr rfl,.inr rfl,.inr (aE rfl (bU _ (bJ _)) (bJ _)),.inr (aE rfl (bU _ (eY _)) (eY _)),trivial⟩,by decide,lH _⟩ ?_
  by_cases k0 : sk = 0
  · rw [if_pos k0];have hct := zP ids x hids;by_cases hin : x ∈ ids
    · rw [if_pos hin];rw [decide_eq_true hin] at hct;dsimp only
      (repeat' (first|refine wS ?_|refine wR ?_|refine wT ?_|(refine rg 4 (vV (kO rfl rfl (by omega)) (aV ?_)))|(refine rg 5 (fW T rfl (vV (aQ T rfl rfl rfl rfl) (qW T rfl (aV ?_)))))|(refine rK (id := 6) 7 153 [[],[0],[],[2],[],[2,3,4],rM 2 4,rN 7] [[],[0],[],[2],[],[2,3,4],rM 2 4] (rM 24 7) zS6 cC rfl (by decide +kernel) (by decide +kernel) ?_;(dsimp only [List.take,List.drop]);refine dP T rfl (dO T rfl (dP T rfl (dO T rfl (dN rfl (dV rfl (by exact aK T rfl rfl rfl rfl rfl (by omega) (by omega)) ?_)))));refine dV rfl (by exact aQ T rfl rfl (bG rfl qp) rfl) ?_;refine dE ?_;refine gV ?_;refine vV (kC (hct)) ?_)|(refine rg 7 (mW rfl (vV (cM rfl rfl (by omega) (by omega)) (aV ?_))))|(refine rg 9 (dX rfl (nV ?_));refine fW T rfl (fW T rfl (vV (aQ T rfl rfl rfl rfl) (vV (kJ rfl rfl) (aV ?_)))))|(refine rg 23 (vV (aQ T rfl rfl rfl rfl) (mW rfl (aT T rfl rfl rfl rfl rfl rfl (by decide) rfl (aV ?_)))))|refine nZ ?_));all_goals first | (exfalso;omega) | exact ⟨.inl rfl,[3,4],_,rfl,by rw [← hids'];rfl,rfl,⟨.inr (aE rfl rfl (bJ _)),.inr (aE rfl rfl (eY _)),trivial⟩,by decide,lH _⟩
    · rw [if_neg hin];rw [decide_eq_false hin] at hct;dsimp only
      (repeat' (first|refine wS ?_|refine wR ?_|refine wT ?_|refine wU ?_|(refine rg 4 (vV (kO rfl rfl (by omega)) (aV ?_)))|(refine rg 5 (fW T rfl (vV (aQ T rfl rfl rfl rfl) (qW T rfl (aV ?_)))))|(refine rK (id := 6) 7 153 [[],[0],[],[2],[],[2,3,4],rM 2 4,rN 7] [[],[0],[],[2],[],[2,3,4],rM 2 4] (rM 24 7) zS6 cC rfl (by decide +kernel) (by decide +kernel) ?_;(dsimp only [List.take,List.drop]);refine dP T rfl (dO T rfl (dP T rfl (dO T rfl (dN rfl (dV rfl (by exact aK T rfl rfl rfl rfl rfl (by omega) (by omega)) ?_)))));refine dV rfl (by exact aQ T rfl rfl (bG rfl qp) rfl) ?_;refine dE ?_;refine gV ?_;refine vV (kC (hct)) ?_)|(refine rg 8 (fW T rfl (vV (aQ T rfl rfl rfl rfl) (vV (bT rfl rfl (by omega) (by omega)) (fW T rfl (aT T rfl rfl rfl rfl rfl rfl (by decide) rfl ?_))))))|(refine rg 9 (dX rfl (nV ?_));refine fW T rfl (fW T rfl (vV (aQ T rfl rfl rfl rfl) (vV (kJ rfl rfl) (aV ?_)))))|(refine rg 23 (vV (aQ T rfl rfl rfl rfl) (mW rfl (aT T rfl rfl rfl rfl rfl rfl (by decide) rfl (aV ?_)))))|refine nZ ?_));all_goals first | (exfalso;omega) | exact ⟨.inl rfl,[3,4],_,rfl,by rw [← hids'];rfl,rfl,⟨.inr (aE rfl rfl (bJ _)),.inr (aE rfl rfl (eY _)),trivial⟩,by decide,lH _⟩
  by_cases k1 : sk = 1
  · rw [if_neg k0,if_pos k1];have hbl := hc.f.b x.toNat (by omega)
    have hgx : c.bs[x.toNat]'(by omega) = c.bs.getD x.toNat (0,0,0) := by rw [aC,aA (by omega)];rfl
    rw [hgx] at hbl;have hbxl : (eB c.bs).length = c.bs.length := bC _;have qb : (eB c.bs)[x.toNat]? = some [.i (c.bs.getD x.toNat (0,0,0)).1,.i (c.bs.getD x.toNat (0,0,0)).2.1,.i (c.bs.getD x.toNat (0,0,0)).2.2] := by rw [bR,hbx];rfl
    generalize c.bs.getD x.toNat (0,0,0) = bx at *;obtain ⟨lot,cnt,ta⟩ := bx;dsimp only at *;have hun := PD hc.f (lot := lot) (by omega)
    have hu0 := hc.unit lot;generalize mQ c.ks c.ls lot = u at *;have hwg := MA ta u sn c.er hu0;unfold sJ sC;dsimp only;generalize OY ta u sn c.er = z at *;obtain ⟨⟨z1,z2⟩,zb⟩ := z;dsimp only at *;cases zb with
    | true =>
      rw [if_pos rfl];have hin := XK (r1,r2) (z1,z2);dsimp only at *;generalize D9 (max r1 z1) (min r2 z2) = y at *;obtain ⟨⟨y1,y2⟩,yb⟩ := y;dsimp only at *
      (repeat' (first|refine wS ?_|refine wR ?_|refine wT ?_|refine wU ?_|(refine rg 4 (vV (gL rfl rfl (by omega)) (aV ?_)))|(refine rg 10 (vV (kO rfl rfl (by omega)) (aV ?_)))|(refine bL (id := 11) 153 zS7 [47,48,49,50,51,52,53,54,55,56,57,12] zS8 cC rfl (by decide +kernel) (dN rfl (dV rfl (by exact eM rfl rfl) ?_));refine dP T rfl (dO T rfl (dP T rfl (dO T rfl (dN rfl (dV rfl (by exact aK T rfl rfl rfl rfl rfl (by omega) (by omega)) ?_)))));refine dV rfl (by exact aQ T rfl rfl (bG rfl qp) rfl) ?_;refine dV rfl (ix T rfl (by omega) (jN _) qb) (dO T rfl (zO rfl rfl rfl (by exact bO T rfl) rfl ?_));refine dE ?_;refine aT T rfl rfl rfl rfl rfl rfl (by decide) rfl ?_)|(refine E3 (id := 12) 23 25 153 (by (dsimp only [zV];done)) (by decide +kernel) zS9 [59,60,61,62,63,64,65,66,67,68,69,70,71,72,73,74,75,76,77,78,79,58,80,81,13] zT0 cC rfl (by decide +kernel) (dP T rfl (dO T rfl (dN rfl (dV rfl (by exact eM rfl rfl) ?_))));refine dP T rfl (dO T rfl (dN rfl (dV rfl (by exact eM rfl rfl) ?_)));refine dP T rfl (dO T rfl (dP T rfl (dO T rfl (dV rfl (kC (hun)) (dP T rfl (dO T rfl (dN rfl (dV rfl (by exact eM rfl rfl) ?_))))))));refine dP T rfl (dP T rfl (dO T rfl (dV rfl (kC (hwg)) (dN rfl (dV rfl (by exact dY rfl rfl) ?_)))));refine dV rfl (by exact dY rfl rfl) ?_;refine zO rfl rfl rfl (by exact bO T rfl) rfl ?_;refine dE ?_;refine aT T rfl rfl rfl rfl rfl rfl (by decide) rfl (aV ?_))|(refine rg 13 (mV ?_))|(refine E3 (id := 14) 9 10 153 (by (dsimp only [zV];done)) (by decide +kernel) [[],[0],[],[0,1,2],rN 4,[],rN 6,rN 7,rN 8,rN 8] [84,85,86,87,88,89,90,83,91,92] [[],[],[84,85],[],[],rM 84 5,[],[],[],[91]] cC rfl (by decide +kernel) (dP T rfl (dO T rfl (dN rfl (dV rfl (by exact aK T rfl rfl rfl rfl rfl (by omega) (by omega)) ?_))));refine dV rfl (by exact aQ T rfl rfl (bG rfl qc) rfl) ?_;refine dO T rfl (dV rfl (kC (hin)) (dN rfl (dV rfl (by exact dY rfl rfl) ?_)));refine dV rfl (by exact dY rfl rfl) ?_;refine dE ?_;refine aT T rfl rfl rfl rfl rfl rfl (by decide) rfl (aV ?_))|(refine rg 15 (fW T rfl (vV (aQ T rfl rfl rfl rfl) (mW rfl (vV (aQ T rfl rfl rfl rfl) (mW rfl (vV (by exact aK T rfl rfl rfl rfl rfl (by omega) (by omega)) ?_))))));refine aT T rfl rfl rfl rfl rfl rfl (by decide) (lC rfl qc rfl) (aV ?_))|(refine rg 23 (vV (aQ T rfl rfl rfl rfl) (mW rfl (aT T rfl rfl rfl rfl rfl rfl (by decide) rfl (aV ?_)))))|refine nZ ?_));all_goals first | (exfalso;omega) | exact ⟨.inl rfl,[3,4],_,rfl,rfl,rfl,⟨.inr (aE rfl rfl (bJ _)),.inr (aE rfl (ctn y1 y2) (eY _)),trivial⟩,by decide,lH _⟩
    | false =>
      rw [if_neg (by simp)]
      (repeat' (first|refine wS ?_|refine wK ?_|refine wR ?_|refine wT ?_|refine wU ?_|(refine rg 4 (vV (gL rfl rfl (by omega)) (aV ?_)))|(refine rg 10 (vV (kO rfl rfl (by omega)) (aV ?_)))|(refine bL (id := 11) 153 zS7 [47,48,49,50,51,52,53,54,55,56,57,12] zS8 cC rfl (by decide +kernel) (dN rfl (dV rfl (by exact eM rfl rfl) ?_));refine dP T rfl (dO T rfl (dP T rfl (dO T rfl (dN rfl (dV rfl (by exact aK T rfl rfl rfl rfl rfl (by omega) (by omega)) ?_)))));refine dV rfl (by exact aQ T rfl rfl (bG rfl qp) rfl) ?_;refine dV rfl (ix T rfl (by omega) (jN _) qb) (dO T rfl (zO rfl rfl rfl (by exact bO T rfl) rfl ?_));refine dE ?_;refine aT T rfl rfl rfl rfl rfl rfl (by decide) rfl ?_)|(refine E3 (id := 12) 23 25 153 (by (dsimp only [zV];done)) (by decide +kernel) zS9 [59,60,61,62,63,64,65,66,67,68,69,70,71,72,73,74,75,76,77,78,79,58,80,81,13] zT0 cC rfl (by decide +kernel) (dP T rfl (dO T rfl (dN rfl (dV rfl (by exact eM rfl rfl) ?_))));refine dP T rfl (dO T rfl (dN rfl (dV rfl (by exact eM rfl rfl) ?_)));refine dP T rfl (dO T rfl (dP T rfl (dO T rfl (dV rfl (kC (hun)) (dP T rfl (dO T rfl (dN rfl (dV rfl (by exact eM rfl rfl) ?_))))))));refine dP T rfl (dP T rfl (dO T rfl (dV rfl (kC (hwg)) (dN rfl (dV rfl (by exact dY rfl rfl) ?_)))));refine dV rfl (by exact dY rfl rfl) ?_;refine zO rfl rfl rfl (by exact bO T rfl) rfl ?_;refine dE ?_;refine aT T rfl rfl rfl rfl rfl rfl (by decide) rfl (aV ?_))|(refine rg 13 (mV ?_))|(refine rg 15 (fW T rfl (vV (aQ T rfl rfl rfl rfl) (mW rfl (vV (aQ T rfl rfl rfl rfl) (mW rfl (vV (by exact aK T rfl rfl rfl rfl rfl (by omega) (by omega)) ?_))))));refine aT T rfl rfl rfl rfl rfl rfl (by decide) (lC rfl qc rfl) (aV ?_))|(refine rg 23 (vV (aQ T rfl rfl rfl rfl) (mW rfl (aT T rfl rfl rfl rfl rfl rfl (by decide) rfl (aV ?_)))))|refine nZ ?_));all_goals first | (exfalso;omega) | exact ⟨.inl rfl,[3,4],_,rfl,rfl,rfl,⟨.inr (aE rfl rfl (bJ _)),.inr (aE rfl (ctn z1 z2) (eY _)),trivial⟩,by decide,lH _⟩
  by_cases k2 : sk = 2
  · have hpk := QP (r1,r2) sn c.sl ⟨by omega,by omega,by omega,by omega⟩
    rw [if_neg k0,if_neg k1,if_pos k2];unfold sC;dsimp only at *;generalize wG (r1,r2) sn c.sl = z at *;obtain ⟨⟨z1,z2⟩,zb⟩ := z;dsimp only at *
    (repeat' (first|refine wS ?_|refine wR ?_|refine wT ?_|refine wU ?_|(refine rg 4 (vV (gL rfl rfl (by omega)) (aV ?_)))|(refine rg 10 (vV (gL rfl rfl (by omega)) (aV ?_)))|(refine rg 16 (vV (kO rfl rfl (by omega)) (aV ?_)))|(refine E3 (id := 17) 18 20 153 (by (dsimp only [zV];done)) (by decide +kernel) [[],[0],[],[],[3],[],[3,4,5],rM 3 4,[],[8],[],[10],[10,11],[10,11,12],rM 10 4,rM 3 12,rM 3 13,rM 3 14,rM 3 14,rN 18] [102,103,104,105,106,107,108,109,110,111,112,113,114,115,116,117,101,118,119,120] [[],[],[102,103],[102,103,104],[102,103,104],rM 102 5,[102,103,104],[102,103,104],rM 102 8,rM 102 8,rM 102 10,rM 102 10,rM 102 10,rM 102 10,rM 102 10,[102,103,104],[102,103,104],[102,103,104],[102,103,104,118],[119]] cC rfl (by decide +kernel) (dP T rfl (dO T rfl (dN rfl (dP T rfl (dO T rfl (dN rfl (dV rfl (by exact aK T rfl rfl rfl rfl rfl (by omega) (by omega)) ?_)))))));refine dV rfl (by exact aQ T rfl rfl (bG rfl qc) rfl) ?_;refine dP T rfl (dO T rfl (dN rfl (dV rfl (by exact eM rfl rfl) ?_)));refine dP T rfl (dP T rfl (dO T rfl (dV rfl (kC (hpk)) (dN rfl (dV rfl (by exact dY rfl rfl) ?_)))));refine dV rfl (by exact dY rfl rfl) ?_;refine dV rfl (by exact aK T rfl rfl rfl rfl rfl (by omega) (by omega)) ?_;refine dE ?_;refine aT T rfl rfl rfl rfl rfl rfl (by decide) (lC rfl qc rfl) (aV ?_))|(refine rg 23 (vV (aQ T rfl rfl rfl rfl) (mW rfl (aT T rfl rfl rfl rfl rfl rfl (by decide) rfl (aV ?_)))))|refine nZ ?_));all_goals first | (exfalso;omega) | exact ⟨.inl rfl,[3,4],_,rfl,rfl,rfl,⟨.inr (aE rfl rfl (bJ _)),.inr (aE rfl (ctn z1 z2) (eY _)),trivial⟩,by decide,lH _⟩
  by_cases k3 : sk = 3
  · rw [if_neg k0,if_neg k1,if_neg k2,if_pos k3];have hhs := KF r1 r2 sn;unfold sC;dsimp only;generalize sQ r1 r2 sn = hb' at *
    (repeat' (first|refine wS ?_|refine wR ?_|refine wT ?_|refine wU ?_|(refine rg 4 (vV (gL rfl rfl (by omega)) (aV ?_)))|(refine rg 10 (vV (gL rfl rfl (by omega)) (aV ?_)))|(refine rg 16 (vV (gL rfl rfl (by omega)) (aV ?_)))|(refine rg 18 (vV (kO rfl rfl (by omega)) (aV ?_)))|(refine bL (id := 19) 153 [[],[0],[],[0,1,2],rN 4,[],[5],rN 7] (rM 123 8) [[],[],[123,124],[],[],rM 123 5,rM 123 5,[]] cC rfl (by decide +kernel) (dP T rfl (dO T rfl (dN rfl (dV rfl (by exact aK T rfl rfl rfl rfl rfl (by omega) (by omega)) ?_))));refine dV rfl (by exact aQ T rfl rfl (bG rfl qc) rfl) ?_;refine dP T rfl (dO T rfl (dV rfl (kC (hhs)) (dE ?_)));refine aV ?_)|(refine rg 20 (fW T rfl (vV (aQ T rfl rfl rfl rfl) (mW rfl (fW T rfl (vV (aQ T rfl rfl rfl rfl) (fW T rfl (vV (aQ T rfl rfl rfl rfl) (vV (bT rfl rfl (by omega) (by omega)) (vV (by exact eQ T rfl rfl rfl rfl) ?_)))))))));refine vV (by exact aK T rfl rfl rfl rfl rfl (by omega) (by omega)) ?_;refine aT T rfl rfl rfl rfl rfl rfl (by decide) (lC rfl qc rfl) ?_)|(refine rg 23 (vV (aQ T rfl rfl rfl rfl) (mW rfl (aT T rfl rfl rfl rfl rfl rfl (by decide) rfl (aV ?_)))))|refine nZ ?_));all_goals first | (exfalso;omega) | exact ⟨.inl rfl,[3,4],_,rfl,rfl,rfl,⟨.inr (aE rfl rfl (bJ _)),.inr (aE rfl (ctn sn (sn + 1)) (eY _)),trivial⟩,by decide,lH _⟩
  by_cases k5 : sk = 5
  · rw [if_neg k0,if_neg k1,if_neg k2,if_neg k3,if_pos k5];dsimp only
    (repeat' (first|refine wS ?_|refine wR ?_|refine wT ?_|refine wU ?_|(refine rg 4 (vV (gL rfl rfl (by omega)) (aV ?_)))|(refine rg 10 (vV (gL rfl rfl (by omega)) (aV ?_)))|(refine rg 16 (vV (gL rfl rfl (by omega)) (aV ?_)))|(refine rg 18 (vV (gL rfl rfl (by omega)) (aV ?_)))|(refine rg 21 (vV (kO rfl rfl (by omega)) (aV ?_)))|(refine bL (id := 22) 153 [[],[0],[],[0,1,2],rN 4,[],[5],rN 7] (rM 143 8) [[],[],[143,144],[],[],rM 143 5,rM 143 5,[]] cC rfl (by decide +kernel) (dP T rfl (dO T rfl (dN rfl (dV rfl (by exact aK T rfl rfl rfl rfl rfl (by omega) (by omega)) ?_))));refine dV rfl (by exact aQ T rfl rfl (bG rfl qp) rfl) ?_;refine dP T rfl (dO T rfl (dV rfl (dJ rfl rfl) (dE ?_)));refine aV ?_)|(refine rg 23 (vV (aQ T rfl rfl rfl rfl) (mW rfl (aT T rfl rfl rfl rfl rfl rfl (by decide) rfl (aV ?_)))))|refine nZ ?_));all_goals first | (exfalso;omega) | exact ⟨.inl rfl,[3,4],_,rfl,rfl,rfl,⟨.inr (aE rfl rfl (bJ _)),.inr (aE rfl rfl (eY _)),trivial⟩,by decide,lH _⟩
  · rw [if_neg k0,if_neg k1,if_neg k2,if_neg k3,if_neg k5]
    (repeat' (first|refine wS ?_|refine wK ?_|refine wR ?_|refine wU ?_|(refine rg 4 (vV (gL rfl rfl (by omega)) (aV ?_)))|(refine rg 10 (vV (gL rfl rfl (by omega)) (aV ?_)))|(refine rg 16 (vV (gL rfl rfl (by omega)) (aV ?_)))|(refine rg 18 (vV (gL rfl rfl (by omega)) (aV ?_)))|(refine rg 21 (vV (gL rfl rfl (by omega)) (aV ?_)))|(refine rg 23 (lW T rfl (mW rfl (aT T rfl rfl rfl rfl rfl rfl (by decide) rfl (aV ?_)))))|refine nZ ?_));all_goals first | (exfalso;omega) | exact ⟨.inl rfl,[3,4],_,rfl,rfl,rfl,⟨.inr (aE rfl rfl (bJ _)),.inr (aE rfl rfl (eY _)),trivial⟩,by decide,lH _⟩
end Go.Proofs.YtmmkhmilpeodnaaGreat
namespace Go.Ld
open Go.Ab Go.Proofs.YtmmkhmilpeodnaaGreat
theorem CP (c : Cx) (w : W) (i : Nat) (s : Ev) : (jJ c w i s).1.1 = w.1 ∧ (jJ c w i s).1.2.2.length = w.2.2.length := by
  unfold jJ sC;dsimp only
  repeat' split
  all_goals exact ⟨rfl,by first | rfl | exact gI⟩
end Go.Ld
namespace Go.Proofs.YtmmkhmilpeodnaaGreat
open Go Go.Ab Go.Ld
end Go.Proofs.YtmmkhmilpeodnaaGreat
namespace Go.Ld
open Go.Ab Go.Proofs.YtmmkhmilpeodnaaGreat
theorem zI2 : ∀ i : Nat,i < 3 → ([0,1,2] : List Nat)[i]? = some i := by decide
theorem SI {r : Int} {L : List AV} (h : AV.idfL L = true) : AV.idfL [AV.pr [.i r] 0,.pr [.pr L 0] 0] = true := by simp [AV.idfL,AV.idf,h]
theorem qY {h : Hp} {i : Nat} {θ : Nat → Nat} {cs : List AV} (hk : h[i]? = some (.cells cs)) (hi : AV.idfL cs = true) : h[i]? = some ((AB.cells cs).map θ) := by
  rw [hk];show _ = some (AB.cells (AV.mapL θ cs));rw [nT θ cs hi]
theorem AO {h : Hp} (x : W) : nM h (.agg (wA x)) (.agg (wA x)) := .agg (.cons (.row _ _ _) (.cons (.v _) (.cons (.row _ _ _) .nil)))
end Go.Ld
namespace Go.Proofs.YtmmkhmilpeodnaaGreat
open Go Go.Ab Go.Ld
attribute [local irreducible] VC AW cF aR
set_option maxHeartbeats 4000000
theorem OD {F : FuncId} {r : Int} {L : List AV} {q : W → Bool} (l : List W) (hl : l.length ≤ 1000000) (hL : AV.idfL L = true) (hp : AV.plnL L = true) (hF : ∀ x,x ∈ l → aR Tryz.prog F [.agg (wA x),.pr [.i r] 0,.pr [.pr L 0] 0] [] (.b (q x)) []) :
    aR Tryz.prog 104 [.sl 0 0 l.length 3,.clo (.func F) [] [.pr [.i r] 0,.ptr 1 0]] [.arr (fP l) 3,.cells [.ptr 2 0],.cells L] (.sl 0 0 (fS q l).length 3) [.arr (fP (fS q l)) 3,.cells [.ptr 2 0],.cells L] := by
  have hll : (fP l).length = l.length := eS l;have hi : AV.idfL [AV.pr [.i r] 0,.pr [.pr L 0] 0] = true := SI hL;have hix := SA hl hi hF;have hvc : ∀ {X : AB} {Y : Hp},lF (X :: .cells [.ptr 2 0] :: .cells L :: Y) [AV.pr [.i r] 0,.ptr 1 0] [.pr [.i r] 0,.pr [.pr L 0] 0] := fun {X Y} => .cons (.pr _ _) (.cons (.ptr rfl (.cons (.ptr rfl (fZ _ hp)) .nil)) .nil);have hvw : nM [.arr (fP l) 3,.cells [.ptr 2 0],.cells L] (.sl 0 0 l.length 3) (.rowE (fP l) 3) := tB rfl hll.symm (tH (fun _ => rfl) _);refine bQ T Tryz.func104 rfl rfl rfl rfl ?_;rcases H5 q l 0 with ⟨h1,h2⟩ | ⟨j,hj,h1,h2,h3⟩
  · rw [h1] at hix;have hk : fS q l = l := zB.2 fun x hx => by rw [h2 x hx];rfl
    rw [hk]
    (repeat' (first|refine wS ?_|refine wR ?_|refine wT ?_|(refine rg 0 (aV ?_))|(refine rg 1 (dX rfl (vV (by exact eT rfl rfl hix (.cons hvw (.cons (.clo .nil hvc) .nil)) rfl rfl) ?_));refine aV ?_)|(refine rg 2 (mW rfl (vV (dJ rfl rfl) ?_)))|(refine rg 3 (mW rfl (aV ?_)))|refine nZ ?_));all_goals first | (exfalso;omega) | exact ⟨.inl rfl,[0,1,2],_,rfl,rfl,rfl,⟨.inr (aE rfl rfl (bH _)),.inr rfl,.inr (qY rfl hL),trivial⟩,by decide,zI2⟩
  · rw [h1,Nat.zero_add] at hix;have hk0 : fS q (l.take (j + 1)) = l.take j := by
      rw [uJ hj,if_pos h2];exact zB.2 fun x hx => by rw [h3 x hx];rfl
    have hkl : (fS q (l.take (j + 1))).length = j := by rw [hk0];simp;omega
    have hka : fS q (l.take (j + 1)) ++ l.drop (fS q (l.take (j + 1))).length = l := by rw [hkl,hk0,bM]
    have hkf : fS q l = fS q (l.take l.length) := by rw [dQ]
    rw [hkf]
    (repeat' (first|refine wS ?_|refine wB ?_|refine wK ?_|refine wU ?_|(refine rg 0 (aV ?_))|(refine rg 1 (dX rfl (vV (by exact eT rfl rfl hix (.cons hvw (.cons (.clo .nil hvc) .nil)) rfl rfl) ?_));refine aV ?_)|(refine rg 2 (mW rfl (vV (dJ rfl rfl) ?_)))|(refine iA 4 rfl rfl rfl (by omega) (by omega) ?_)|refine nZ ?_));all_goals try (exfalso;omega)
    refine dA (X := {m : Nat // m ≤ l.length}) (fun m => [(0,.sl 0 0 l.length 3),(1,.clo (.func F) [] [.pr [.i r] 0,.ptr 1 0]),(5,.i (fS q (l.take m.1)).length),(6,.i m.1)]) (fun m => [.arr (fP (fS q (l.take m.1) ++ l.drop (fS q (l.take m.1)).length)) 3,.cells [.ptr 2 0],.cells L]) (fun m => l.length - m.1) ⟨j + 1,hj⟩ ⟨[0,1,2],rfl,⟨rfl,rfl,by dsimp only;rw [hkl];rfl,rfl,trivial⟩,⟨.inr (aE rfl (by dsimp only;rw [hka]) (bH _)),.inr rfl,.inr (qY rfl hL),trivial⟩,by decide,zI2⟩ ?_
    rintro ⟨m,hm⟩;dsimp only;have hle := FD q l m;by_cases hlt : m < l.length
    · have hs := uJ (q := q) hlt;have hget := IW (G := fS q (l.take m)) (l := l) (m := m) (i := 0 + (m : Int).toNat) hle hlt (by omega)
      have hg2 := IW (G := fS q (l.take m)) (l := l) (m := (fS q (l.take m)).length) (i := 0 + (((fS q (l.take m)).length : Nat) : Int).toNat) (aY _) (by omega) (by omega)
      rw [nU hlt] at hget;have hset := zA4 (G := fS q (l.take m)) (l := l) (x := l[m]) (j := (((fS q (l.take m)).length : Nat) : Int)) (by omega) rfl
      have hc := hF l[m] (aI hlt);have hal := NJ (G := fS q (l.take m)) (l := l) (by omega)
      generalize l[m] = x at *;generalize l.getD (fS q (l.take m)).length w0 = y at *;generalize hG : fS q (l.take m) = G at *;generalize hA : fP (G ++ l.drop G.length) = A at *;cases e : q x
      · rw [e] at hc hs;rw [if_neg (by simp)] at hs
        (repeat' (first|refine wS ?_|refine wB ?_|refine wK ?_|refine wT ?_|(refine wC rfl ?_ ?_<;>(intro hb;(try simp only [nm] at hb);try (exfalso;omega)))|(refine rg 5 (dX rfl (qW T rfl (vV (aO rfl rfl) ?_))))|(refine rg 7 (dX rfl (vV (by exact aK T rfl rfl rfl rfl rfl (by omega) (by omega)) ?_));refine vV (by exact aQ T rfl rfl (bG rfl hget) rfl) ?_;refine bS (bO T rfl) rfl (aT T rfl rfl rfl rfl rfl rfl (by decide) rfl ?_))|(refine rg 8 (mW rfl (vV (aQ T rfl rfl rfl rfl) (vV (by exact eT rfl rfl hc (.cons (AO x) hvc) rfl rfl) ?_)));refine vV (dH rfl) ?_)|(refine rg 9 (dX rfl (vV (aQ T rfl rfl rfl rfl) (vV (by exact aK T rfl rfl rfl rfl rfl (by omega) (by omega)) ?_)));refine aT T rfl rfl rfl rfl rfl rfl (by decide) (lC rfl hg2 rfl) ?_)|(refine iA 10 rfl rfl rfl (by omega) (by omega) ?_)|(refine iA 6 rfl rfl rfl (by omega) (by omega) ?_)|refine nZ ?_));all_goals try (exfalso;omega)
        all_goals exact ⟨⟨m + 1,hlt⟩,by dsimp only;omega,[0,1,2],rfl,⟨rfl,rfl,by rw [hs];simp only [aF];rfl,rfl,trivial⟩,⟨.inr (aE rfl (by rw [hs];exact hset) (bH _)),.inr rfl,.inr (qY rfl hL),trivial⟩,by decide,zI2⟩
      · rw [e] at hc hs;rw [if_pos rfl] at hs
        (repeat' (first|refine wS ?_|refine wB ?_|refine wK ?_|refine wU ?_|(refine wC rfl ?_ ?_<;>(intro hb;(try simp only [nm] at hb);try (exfalso;omega)))|(refine rg 5 (dX rfl (qW T rfl (vV (aO rfl rfl) ?_))))|(refine rg 7 (dX rfl (vV (by exact aK T rfl rfl rfl rfl rfl (by omega) (by omega)) ?_));refine vV (by exact aQ T rfl rfl (bG rfl hget) rfl) ?_;refine bS (bO T rfl) rfl (aT T rfl rfl rfl rfl rfl rfl (by decide) rfl ?_))|(refine rg 8 (mW rfl (vV (aQ T rfl rfl rfl rfl) (vV (by exact eT rfl rfl hc (.cons (AO x) hvc) rfl rfl) ?_)));refine vV (dH rfl) ?_)|(refine iA 6 rfl rfl rfl (by omega) (by omega) ?_)|refine nZ ?_));all_goals try (exfalso;omega)
        all_goals exact ⟨⟨m + 1,hlt⟩,by dsimp only;omega,[0,1,2],rfl,⟨rfl,rfl,by rw [hs];rfl,rfl,trivial⟩,⟨.inr (aE rfl (by rw [hs];exact hA.symm) (bH _)),.inr rfl,.inr (qY rfl hL),trivial⟩,by decide,zI2⟩
    · obtain rfl : m = l.length := by omega
      have hal := NJ (G := fS q (l.take l.length)) (l := l) (by omega)
      have htk := PK (G := fS q (l.take l.length)) (l := l);generalize fS q (l.take l.length) = G at *
      (repeat' (first|refine wS ?_|refine wR ?_|refine wE ?_|(refine wC rfl ?_ ?_<;>(intro hb;(try simp only [nm] at hb);try (exfalso;omega)))|(refine rg 5 (dX rfl (qW T rfl (vV (aO rfl rfl) ?_))))|(refine rg 11 (dX rfl (vV (by exact jZ T rfl rfl rfl rfl rfl rfl (by omega) (by omega) (by omega)) ?_));refine F5 T rfl rfl rfl ⟨rfl,rfl,by decide⟩ rfl (by rw [hal];omega) ?_)|(refine rg 12 (dX rfl (vV (by exact jZ T rfl rfl rfl rfl rfl rfl (by omega) (by omega) (by omega)) ?_));refine aV ?_)|refine nZ ?_));all_goals try (exfalso;omega)
      all_goals exact ⟨.inl rfl,[0,1,2],_,rfl,(by show AV.sl 0 0 ((G.length : Int) - 0).toNat 3 = AV.sl 0 0 G.length 3;rw [show ((G.length : Int) - 0).toNat = G.length by omega]),rfl,⟨.inr (aE rfl htk (bH _)),.inr rfl,.inr (qY rfl hL),trivial⟩,by decide,zI2⟩
end Go.Proofs.YtmmkhmilpeodnaaGreat
namespace Go.Ab
open Go
theorem JC {P : Program} {f : FuncId} {args : List AV} {hin hout : Hp} {es : List (List AV)} {len sz k : Nat} (hk : k = hout.length) (hn : len = es.length) (hi : AV.idfL es.flatten = true) (h : aR P f args hin (.sl k 0 len sz) (hout ++ [.arr es sz])) : aR P f args hin (.rowE es sz) (hout ++ [.gone]) := by
  refine ⟨h.1,fun ρ S w vs hs ha => (h.2 ρ S w vs hs ha).mono ?_⟩;rintro e w' ⟨y,ρ',S',rfl,h2,h3⟩;rw [hn] at h3;have hb : (hout ++ [AB.arr es sz])[k]? = some (.arr es sz) := by subst hk;simp
  have e : (hout ++ [AB.arr es sz]).set k .gone = hout ++ [.gone] := by subst hk;simp
  exact ⟨y,_,_,rfl,e ▸ h2.freeze (k := k) hb,uO hi (h2.blk k _ hb) h3⟩
theorem C5 (L : List Nat) : ∀ i : Nat,i < 1 → (0 :: L)[i]? = some i := fun i hi => by cases i with | zero => rfl | succ i => omega
end Go.Ab
namespace Go.Proofs.YtmmkhmilpeodnaaGreat
open Go Go.Ab Go.Ld
attribute [local irreducible] VC AW cF aR
set_option maxHeartbeats 4000000
theorem VT (c : Cx) (gs all : List G) {n : Nat} (ok : nA n all) (up : GQ all) (hne : ∀ g,g ∈ all → g.2 ≠ []) :
    aR Tryz.prog 50 [.ptr 0 0,.rowE (iY all) 2] [.cells (gS c gs)] (.rowE (iY (B3 c all)) 2) [.cells (gS c gs),.gone] := by
  have h12 : all.length ≤ 12 := cJ ok.len ok.ln;have hal : (iY all).length = all.length := iX _;have hlb : ∀ g,g ∈ all → 0 ≤ iJ g ∧ iJ g ≤ 4000000 := fun g hg => Z1 (ok.ok g hg) (hne g hg);have hsb := AR hlb;refine JC (k := 1) (hout := [.cells (gS c gs)]) rfl (by rw [iX] : (B3 c all).length = (iY (B3 c all)).length) (hC (eC _)) ?_
  refine bQ T Tryz.func50 rfl rfl rfl rfl ?_
  repeat' (first|refine wS ?_|(refine rg 0 (bS (cE rfl rfl) rfl (aV ?_)))|(refine rg 1 (aV ?_))|refine nZ ?_)
  (repeat' (first|refine wB ?_|(refine rg 2 (mW rfl (qW T rfl (mV ?_))))|refine nZ ?_));refine dA (X := {k : Nat // k ≤ all.length}) (fun k => [(1,.rowE (iY all) 2),(2,.ptr 1 0),(5,.i (mR (all.take k.1))),(16,.rowE (iY all) 2),(17,.i (iY all).length),(18,.i k.1)]) (fun _ => [.cells (gS c gs),.cells [.ptr 0 0]]) (fun k => all.length - k.1) ⟨0,cT _⟩ ⟨[0,1],rfl,(by repeat first|exact trivial|refine ⟨rfl,?_⟩),⟨.inr rfl,.inr rfl,trivial⟩,by decide,C5 _⟩ ?_
  rintro ⟨k,hk⟩;dsimp only;by_cases hlt : k < all.length
  · have hg := M7 hlt;have hs := PM hlt;have hb := AR (l := all.take k) fun g hg => hlb g (fF hg);have hkl : (all.take k).length ≤ 12 := by rw [bD];omega
    have hl1 := hlb _ (aI hlt);have hc := KR all[k] (hne _ (aI hlt)) (by have := ok.ws _ (aI hlt);omega)
    generalize all[k] = g at *;generalize mR (all.take k) = S at *;generalize iJ g = v at *
    (repeat' (first|refine wS ?_|refine wB ?_|refine wK ?_|(refine wC rfl ?_ ?_<;>(intro hb;(try simp only [nm] at hb);try (exfalso;omega)))|(refine rg 3 (vV (aO rfl rfl) ?_))|(refine rg 4 (vV (ix T rfl (by omega) (oX _) hg) (lW T rfl (bS (bO T rfl) rfl (aT T rfl rfl rfl rfl rfl rfl (by decide) rfl ?_)))))|(refine rg 5 (mW rfl (lW T rfl (vV (kC (hc)) (vV (bT rfl rfl (by omega) (by omega)) (aV ?_))))))|(refine rg 6 (vV (bT rfl rfl (by omega) (by omega)) (mV ?_)))|refine nZ ?_));all_goals first | (exfalso;omega) | exact ⟨⟨k + 1,hlt⟩,by dsimp only;omega,[0,1],rfl,⟨rfl,rfl,by dsimp only;rw [hs];rfl,rfl,rfl,rfl,trivial⟩,⟨.inr rfl,.inr rfl,trivial⟩,by decide,C5 _⟩
  obtain rfl : k = all.length := by omega
  rw [dQ]
  (repeat' (first|refine wS ?_|refine wB ?_|refine wE ?_|(refine wC rfl ?_ ?_<;>(intro hb;(try simp only [nm] at hb);try (exfalso;omega)))|(refine rg 3 (vV (aO rfl rfl) ?_))|(refine rg 7 (vV (dB rfl) (sK 8 2 rfl (by decide) ?_)))|(refine rg 8 (mW rfl (qW T rfl (mV ?_))))|refine nZ ?_));all_goals try (exfalso;omega)
  refine dA (X := {k : Nat // k ≤ all.length}) (fun k => [(2,.ptr 1 0),(5,.i (mR all)),(8,.sl 2 0 k.1 2),(27,.rowE (iY all) 2),(28,.i (iY all).length),(29,.i k.1)]) (fun k => [.cells (gS c gs),.cells [.ptr 0 0],.arr (iY ((paid c all).take k.1)) 2]) (fun k => all.length - k.1) ⟨0,cT _⟩ ⟨[0,1,2],rfl,(by repeat first|exact trivial|refine ⟨rfl,?_⟩),⟨.inr rfl,.inr rfl,.inr rfl,trivial⟩,by decide,C5 _⟩ ?_
  clear hk hlt;rintro ⟨k,hk⟩;dsimp only;have hpl := RC c all;by_cases hlt : k < all.length
  · have hg := M7 hlt;have hp := MZ (c := c) hlt;have hl1 := hlb _ (aI hlt);have hgo := ok.ok _ (aI hlt);have hgw := ok.ws _ (aI hlt);have hc := KR all[k] (hne _ (aI hlt)) (by omega)
    have htl : ((paid c all).take k).length = k := by rw [bD];omega
    generalize (paid c all).take k = Q at *;generalize all[k] = g at *;obtain ⟨bs,ws⟩ := g;dsimp only at hgw hp;generalize hv : iJ (bs,ws) = v at *;generalize mR all = S at *;have hcl := FX ws (by omega)
    have hd := OD (r := S - v) (L := gS c gs) (q := fun w => decide (w.2.1 + (S - v) > c.m)) ws (by omega) rfl rfl (fun x hx => VV c gs x (S - v) ⟨(hgo.ws x hx).m0,(hgo.ws x hx).m1⟩ (by omega))
    generalize fS (fun w => decide (w.2.1 + (S - v) > c.m)) ws = ws' at *;have hQl : (iY Q).length = k := by rw [iX,htl]
    have hQ : iY (Q ++ [(bs,ws')]) = iY Q ++ [[.rowE (ints bs) 1,.rowE (fP ws') 3]] := by rw [iY,dI];rfl
    rw [← hp] at hQ;generalize iY Q = Q' at *
    (repeat' (first|refine wS ?_|refine wB ?_|refine wK ?_|(refine wC rfl ?_ ?_<;>(intro hb;(try simp only [nm] at hb);try (exfalso;omega)))|(refine rg 9 (vV (aO rfl rfl) ?_))|(refine rg 10 (vV (ix T rfl (by omega) (oX _) hg) (lW T rfl (bS (bO T rfl) rfl (aT T rfl rfl rfl rfl rfl rfl (by decide) rfl ?_)))))|(refine rg 11 (mW rfl (lW T rfl (vV (kC (hc)) (vV (cM rfl rfl (by omega) (by omega)) (bS (bO T rfl) rfl (aT T rfl rfl rfl rfl rfl rfl (by decide) rfl ?_)))))))|refine nZ ?_));all_goals try (exfalso;omega)
    refine fU 11 rfl rfl rfl ?_
    repeat' (first|(refine rg 12 (iL T rfl (bS (by exact fK rfl rfl hcl (.inr ⟨rfl,rfl,by simp⟩)) rfl ?_));refine vV (by exact jG rfl rfl) ?_;refine fQ [5,1,0] rfl rfl (hd) rfl rfl (by decide) ⟨.inr (aE rfl (bU _ (bH _)) (bH _)),.inr rfl,.inr rfl,trivial⟩ (by simp) rfl ?_;refine mE (es := fP ws') 41 rfl (congrArg (fun x=>some (AB.arr x 3)) (bU _ (bH _))) (eS _).symm (hC (bH _)) ?_;refine fW T rfl (aT T rfl rfl rfl rfl rfl rfl (by decide) rfl ?_))|(refine rg 13 (mW rfl (lW T rfl (bS (by exact bB T rfl rfl (by decide) (by decide) rfl rfl rfl) rfl ?_)));refine gE T rfl rfl rfl rfl rfl rfl (by omega) (kV.whole rfl rfl) rfl (by simp;omega) (by simp;omega) rfl ?_;refine aV ?_)|(refine rg 14 (vV (bT rfl rfl (by omega) (by omega)) (mV ?_)))|refine nZ ?_)
    show ∃ x',_;exact ⟨⟨k + 1,hlt⟩,by dsimp only;omega,⟨[0,1,7],rfl,(by repeat first|exact trivial|refine ⟨rfl,?_⟩),⟨.inr rfl,.inr rfl,.inr (aE rfl (by dsimp only;rw [hQ];exact mJ hQl.symm) (eC _)),trivial⟩,by decide,C5 _⟩⟩
  obtain rfl : k = all.length := by omega
  rw [← hpl,dQ,hpl];have pok := ok.paid c;have pst := oC.start pok (JM up (c := c));rw [← hpl];generalize hL : paid c all = L at *;rw [show B3 c all = vD L by rw [← hL];rfl]
  (repeat' (first|refine wS ?_|refine wB ?_|refine wE ?_|(refine wC rfl ?_ ?_<;>(intro hb;(try simp only [nm] at hb);try (exfalso;omega)))|(refine rg 9 (vV (aO rfl rfl) ?_))|(refine rg 15 (aV ?_))|refine nZ ?_));all_goals try (exfalso;omega)
  refine dA (X := {q : List G × Nat // oC n L q.1 q.2}) (fun q => [(8,.sl 1 0 q.1.1.length 2),(12,.i q.1.2)]) (fun q => [.cells (gS c gs),.arr (iY q.1.1) 2]) (fun q => 100 * ZG q.1.1 + (q.1.1.length - q.1.2)) ⟨(L,0),pst⟩ ⟨[0,2],rfl,(by repeat first|exact trivial|refine ⟨rfl,?_⟩),⟨.inr rfl,.inr (aE rfl rfl (eC _)),trivial⟩,by decide,C5 _⟩ ?_
  clear hsb hlb hne h12 hal pok up ok;rintro ⟨⟨o,i⟩,hq⟩;dsimp only at hq ⊢;have hol : (iY o).length = o.length := iX _;have ho12 : o.length ≤ 12 := cJ hq.ok.len hq.ok.ln;have hio := hq.hi;by_cases hlt : i < o.length
  · have hgi : o[i]? = some o[i] := aA hlt;have hgm := aI hlt;generalize o[i] = g at *;have hgo := hq.ok.ok g hgm;have hgw := hq.ok.ws g hgm;have hsz := hgo.sz hgw;have q1 := wO (L := o) (j := (i : Int)) (i := i) hgi rfl;have hcc := OI g hsz;cases hcr : gX g with
    | none =>
      have hk := hq.keep hgi hcr;rw [show xB g = -1 by unfold xB;rw [hcr]] at hcc
      (repeat' (first|refine wS ?_|refine wB ?_|refine wK ?_|refine wU ?_|(refine wC rfl ?_ ?_<;>(intro hb;(try simp only [nm] at hb);try (exfalso;omega)))|(refine rg 16 (dX rfl (qW T rfl (vV (aO rfl rfl) ?_))))|(refine rg 18 (dX rfl (vV (by exact aK T rfl rfl rfl rfl rfl (by omega) (by omega)) ?_));refine vV (by exact aQ T rfl rfl (bG rfl q1) rfl) ?_;refine vV (kC (hcc)) (aV ?_))|(refine rg 19 (mW rfl (vV (jP rfl rfl) ?_)))|(refine iA 17 rfl rfl rfl (by omega) (by omega) ?_)|refine nZ ?_));all_goals try (exfalso;omega)
      exact ⟨⟨(o,i + 1),hk⟩,by dsimp only;omega,⟨[0,1],rfl,(by repeat first|exact trivial|refine ⟨rfl,?_⟩),⟨.inr rfl,.inr (aE rfl rfl (eC _)),trivial⟩,by decide,C5 _⟩⟩
    | some k =>
      have hk := hq.next hgi hcr
      obtain ⟨f1,f2,f3,_⟩ := jB hcr;have hwg := RM hgi hcr;have hno := KO hq.ok hgi hcr;have hsp := WB g hsz f3 f1 f2 (by omega)
      have hll : (o.set i (jL g k) ++ [mM g k]).length = o.length + 1 := by simp
      have hso := WD (o.set i (jL g k) ++ [mM g k]) hno.dist (by have := hno.len;have := hno.ln;omega) hno.hd
      have hw2 : ZG (Y5 o i k g) = ZG (o.set i (jL g k) ++ [mM g k]) := OX (dS _ _);have hl2 : (Y5 o i k g).length = o.length + 1 := by rw [Y5,(dS _ _).length_eq,hll]
      rw [show xB g = (k : Int) by unfold xB;rw [hcr]] at hcc
      have t1 := C8 (L := o) (j := (i : Int)) (i := i) (x := jL g k) rfl;have e1 : iY (o.set i (jL g k) ++ [mM g k]) = (iY o).set (0 + (i : Int).toNat) (gA (jL g k)) ++ [gA (mM g k)] := by rw [t1,iY,dI];rfl
      have e2 : ((iY o).set (0 + (i : Int).toNat) (gA (jL g k))).length = o.length := by rw [gI,hol]
      change aR _ _ _ _ _ [.arr (iY (Y5 o i k g)) 2] at hso;rw [hll] at hso;generalize Y5 o i k g = o' at *;generalize hN : o.set i (jL g k) ++ [mM g k] = N at *;generalize jL g k = r at *;generalize mM g k = u at *;obtain ⟨rb,rw_⟩ := r;obtain ⟨ub,uw⟩ := u
      (repeat' (first|refine wS ?_|refine wB ?_|refine wK ?_|refine wT ?_|(refine wC rfl ?_ ?_<;>(intro hb;(try simp only [nm] at hb);try (exfalso;omega)))|(refine rg 16 (dX rfl (qW T rfl (vV (aO rfl rfl) ?_))))|(refine rg 18 (dX rfl (vV (by exact aK T rfl rfl rfl rfl rfl (by omega) (by omega)) ?_));refine vV (by exact aQ T rfl rfl (bG rfl q1) rfl) ?_;refine vV (kC (hcc)) (aV ?_))|(refine rg 19 (mW rfl (vV (jP rfl rfl) ?_)))|(refine rg 20 (dX rfl (vV (by exact aK T rfl rfl rfl rfl rfl (by omega) (by omega)) ?_));refine vV (by exact aQ T rfl rfl (bG rfl q1) rfl) ?_;refine mW rfl (vV (kC (hsp)) (mW rfl (xW rfl (xW rfl (bS (bO T rfl) rfl (bS (bO T rfl) rfl (aT T rfl rfl rfl rfl rfl rfl (by decide) rfl (aT T rfl rfl rfl rfl rfl rfl (by decide) rfl ?_)))))))))|(refine rg 21 (dX rfl (vV (aQ T rfl rfl rfl rfl) (vV (by exact aK T rfl rfl rfl rfl rfl (by omega) (by omega)) ?_)));refine aT T rfl rfl rfl rfl rfl rfl (by decide) (lC rfl q1 rfl) ?_)|(refine rg 22 (mW rfl (vV (aQ T rfl rfl rfl rfl) (bS (by exact bB T rfl rfl (by decide) (by decide) rfl rfl rfl) rfl ?_)));refine gE T rfl rfl rfl rfl rfl rfl (by simp) (kV.whole rfl rfl) rfl (by simp;omega) (by simp;omega) rfl ?_;refine aV ?_)|refine nZ ?_));all_goals try (exfalso;omega)
      refine fE [(8,.sl 1 0 (o.length + 1) 2),(12,.i i)] [.cells (gS c gs),.arr (iY N) 2] ⟨[0,5],rfl,(by repeat first|exact trivial|refine ⟨rfl,?_⟩),⟨.inr rfl,.inr (aE rfl (by rw [e1];exact mJ e2.symm) (eC _)),trivial⟩,by decide,C5 _⟩ ?_
      (repeat' (first|(refine rg 23 (mW rfl (fQ [1] rfl rfl (hso) rfl rfl (by decide) ⟨.inr (aE rfl rfl (eC _)),trivial⟩ (by simp) rfl ?_)))|(refine rg 24 (aV ?_))|(refine iA 17 rfl rfl rfl (by omega) (by omega) ?_)|refine nZ ?_));all_goals try (exfalso;omega)
      exact ⟨⟨(o',0),hk⟩,by dsimp only;omega,⟨[0,1],rfl,⟨by dsimp only;rw [hl2];rfl,rfl,trivial⟩,⟨.inr rfl,.inr (aE rfl (bU _ (eC _)) (eC _)),trivial⟩,by decide,C5 _⟩⟩
  · have hfin := hq.fin (by omega)
    rw [hfin]
    (repeat' (first|refine wS ?_|refine wR ?_|refine wE ?_|(refine wC rfl ?_ ?_<;>(intro hb;(try simp only [nm] at hb);try (exfalso;omega)))|(refine rg 16 (dX rfl (qW T rfl (vV (aO rfl rfl) ?_))))|(refine rg 25 (mW rfl (aV ?_)))|refine nZ ?_));all_goals first | (exfalso;omega) | exact ⟨.inl rfl,[0,1],_,rfl,rfl,rfl,⟨.inr rfl,.inr (aE rfl rfl (eC _)),trivial⟩,by decide,C5 _⟩
end Go.Proofs.YtmmkhmilpeodnaaGreat
namespace Go.Ld
open Go.Ab Go.Proofs.YtmmkhmilpeodnaaGreat
structure nI (c : Cx) (M : Int) (gs : List G) : Prop where
  out : nA c.bs.length gs
  up : GQ gs
  ne : ∀ g,g ∈ gs → g.2 ≠ []
  ml : ∀ g,g ∈ gs → ∀ w,w ∈ g.2 → w.2.1 ≤ M
  cov : (gs.flatMap (·.1)).Perm (nats (List.range c.bs.length))
  idn : (gs.flatMap fun g => (gY g).1).Perm (nats (List.range c.bs.length))
  wl : ∀ g,g ∈ gs → g.2.length ≤ 1000
structure oA (c : Cx) (gs : List G) : Prop where
  mid : nI c c.m gs
  cer : ∀ g,g ∈ gs → gX g = none
  asc : ∀ g,g ∈ gs → g.2.Pairwise fun a b => nS a b < 0
theorem xO (n : Nat) : (nats (List.range n)).Nodup := List.Pairwise.map (R := fun a b => a ≠ b) _ (fun a b h e => h (Int.ofNat.inj e)) ZC
theorem rC {n : Nat} {b : Int} : b ∈ nats (List.range n) ↔ 0 ≤ b ∧ b < n := by
  constructor
  · intro h;obtain ⟨i,hi,rfl⟩ := bI.1 h;have := eN.1 hi;exact ⟨by omega,by omega⟩
  · intro h;exact bI.2 ⟨b.toNat,eN.2 (by omega),by omega⟩
theorem nI.find {c : Cx} {M : Int} {gs : List G} (h : nI c M gs) {b : Int} (hb : 0 ≤ b ∧ b < c.bs.length) : ∃ g,g ∈ gs ∧ b ∈ g.1 := by
  have := h.cov.mem_iff.2 (rC.2 hb);obtain ⟨g,hg,hbg⟩ := gM.1 this;exact ⟨g,hg,hbg⟩
theorem X9 {α : Type} {A B l : List Int} {x y : List α} {d : α} (hA : A.Nodup) (hB : B.Nodup) (dj : ∀ b,b ∈ A → b ∉ B) (hl : l.Perm (A ++ B)) (hx : x.length = A.length) (hy : y.length = B.length) :
    (l.map fun k => if k ∈ A then x.getD (A.idxOf k) d else y.getD (B.idxOf k) d).Perm (x ++ y) := by
  refine (hl.map _).trans ?_;rw [dI];have e1 : A.map (fun k => if k ∈ A then x.getD (A.idxOf k) d else y.getD (B.idxOf k) d) = x := by
    refine lS (by simp [hx]) fun i h1 h2 => ?_
    rw [lR,if_pos (aI _),hA.idxOf_getElem,aC,aA h2];rfl
  have e2 : B.map (fun k => if k ∈ A then x.getD (A.idxOf k) d else y.getD (B.idxOf k) d) = y := by
    refine lS (by simp [hy]) fun i h1 h2 => ?_
    have hb : B[i]'(by simpa using h1) ∈ B := aI _
    rw [lR,if_neg (fun q => dj _ q hb),hB.idxOf_getElem,aC,aA h2];rfl
  rw [e1,e2]
structure sY (n : Nat) (x y : G) : Prop where
  gx : vR n x
  gy : vR n y
  nx : x.2 ≠ []
  ny : y.2 ≠ []
  dj : ∀ b,b ∈ x.1 → b ∉ y.1
  di : ∀ b,b ∈ (gY x).1 → b ∉ (gY y).1
  ln : x.1.length + y.1.length ≤ 6
theorem xQ {x y : G} {w : W} (h : w ∈ (mB x y).2) : ∃ u v,u ∈ x.2 ∧ v ∈ y.2 ∧ w = yU x y u v (mB x y).1 := by
  obtain ⟨u,hu,h⟩ := gM.1 h;obtain ⟨v,hv,h⟩ := bI.1 h;exact ⟨u,v,hu,hv,h.symm⟩
theorem lL (x y : G) : (mB x y).1.Perm (x.1 ++ y.1) := dS _ _
theorem sY.pair {n : Nat} {x y : G} (h : sY n x y) {u v : W} (hu : u ∈ x.2) (hv : v ∈ y.2) : (yU x y u v (mB x y).1).1.Perm (u.1 ++ v.1) ∧ (yU x y u v (mB x y).1).2.2.Perm (u.2.2 ++ v.2.2) :=
  ⟨X9 h.gx.nd h.gy.nd h.dj (lL x y) (h.gx.ws u hu).pl (h.gy.ws v hv).pl,X9 h.gx.nd h.gy.nd h.dj (lL x y) (h.gx.ws u hu).cl (h.gy.ws v hv).cl⟩
theorem sY.same {n : Nat} {x y : G} (h : sY n x y) {w : W} (hw : w ∈ (mB x y).2) : w.1.Perm ((gY x).1 ++ (gY y).1) := by
  obtain ⟨u,v,hu,hv,rfl⟩ := xQ hw;exact (h.pair hu hv).1.trans ((h.gx.same _ _ hu (iP h.nx)).append (h.gy.same _ _ hv (iP h.ny)))
theorem sY.ok {n : Nat} {x y : G} (h : sY n x y) {M : Int} (h1 : ∀ w, w ∈ x.2 → w.2.1 ≤ M) (h2 : ∀ w, w ∈ y.2 → w.2.1 ≤ M) (hM : M ≤ 2000000) : vR n (mB x y) where
  ne e := by
    have := (lL x y).length_eq;rw [e] at this;have := fC.2 h.gx.ne;simp at *;omega
  up := by
    have h1 := kN oZ (x.1 ++ y.1);have hnd : (mB x y).1.Nodup := (lL x y).nodup_iff.2 (cK.2 ⟨h.gx.nd,h.gy.nd,fun a ha b hb e => h.dj a ha (e ▸ hb)⟩);refine (h1.and hnd).imp fun {a b} h => ?_
    have := h.1;have := h.2;unfold cI at *;by_cases e : a < b
    · exact e
    · rw [if_neg e] at *;by_cases e' : b < a
      · rw [if_pos e'] at *;omega
      · omega
  rg b hb := by
    rcases bF.1 ((lL x y).mem_iff.1 hb) with hb | hb
    · exact h.gx.rg b hb
    · exact h.gy.rg b hb
  ln := by rw [(lL x y).length_eq,aF];exact h.ln
  ws w hw := by
    have hs := h.same hw;obtain ⟨u,v,hu,hv,rfl⟩ := xQ hw;obtain ⟨p1,p2⟩ := h.pair hu hv;have ou := h.gx.ws u hu;have ov := h.gy.ws v hv;refine ⟨bC _,bC _,fun b hb => ?_,hs.nodup_iff.2 (cK.2 ⟨(h.gx.ws _ (iP h.nx)).nd,(h.gy.ws _ (iP h.ny)).nd,fun a ha b hb e => h.di a ha (e ▸ hb)⟩),?_,?_,fun r hr => ?_⟩
    · rcases bF.1 (p1.mem_iff.1 hb) with hb | hb
      · exact ou.pr b hb
      · exact ov.pr b hb
    · have := ou.m0;have := ov.m0;show 0 ≤ u.2.1 + v.2.1;omega
    · have := h1 u hu;have := h2 v hv;show u.2.1 + v.2.1 ≤ 4000000;omega
    · rcases bF.1 (p2.mem_iff.1 hr) with hr | hr
      · exact ou.sp r hr
      · exact ov.sp r hr
  same w v hw hv := (h.same hw).trans (h.same hv).symm
theorem RZ {x y : G} (hx : x.2 ≠ []) (hy : y.2 ≠ []) : (mB x y).2 ≠ [] := by
  show oD x y _ ≠ [];unfold oD;cases hu : x.2 with
  | nil => exact absurd hu hx
  | cons u l =>
    cases hv : y.2 with
    | nil => exact absurd hv hy
    | cons v m => simp
theorem NM (x y : G) : (mB x y).2.length = x.2.length * y.2.length := by
  show (oD x y _).length = _;unfold oD;generalize dW cI (x.1 ++ y.1) = l
  induction x.2 with
  | nil => simp
  | cons u m ih => rw [bE,aF,ih,bC,List.length_cons,Nat.succ_mul,qF]
theorem oK {α : Type} {l : List α} {i k : Nat} {u v : α} (J : α) (hik : i < k) (hi : l[i]? = some u) (hk : l[k]? = some v) : ∃ P Q R,l = P ++ u :: (Q ++ v :: R) ∧ (l.set i J).eraseIdx k = P ++ J :: (Q ++ R) := by
  obtain ⟨hl,e2⟩ := aB.1 hk;have hil : i < l.length := by omega
  have e1 : l[i] = u := (aB.1 hi).2;have d1 : l.drop i = u :: l.drop (i + 1) := by rw [aU hil,e1]
  have d2 : l.drop k = v :: l.drop (k + 1) := by rw [aU hl,e2]
  have d3 : l.drop (i + 1) = (l.drop (i + 1)).take (k - (i + 1)) ++ v :: l.drop (k + 1) := by
    have : l.drop (i + 1) = (l.drop (i + 1)).take (k - (i + 1)) ++ (l.drop (i + 1)).drop (k - (i + 1)) := (bM _ _).symm;rw [GY,show i + 1 + (k - (i + 1)) = k by omega,d2] at this
    exact this
  have e : l = l.take i ++ u :: ((l.drop (i + 1)).take (k - (i + 1)) ++ v :: l.drop (k + 1)) := by
    rw [← d3,← d1,bM]
  refine ⟨_,_,_,e,?_⟩;have ht : (l.take i).length = i := by rw [bD];omega
  have hq : ((l.drop (i + 1)).take (k - (i + 1))).length = k - (i + 1) := by rw [bD,dR];omega
  generalize l.take i = P at *;generalize (l.drop (i + 1)).take (k - (i + 1)) = Q at *;generalize l.drop (k + 1) = R at *;clear d1 d2 d3;subst e;rw [kD _ _ (by omega),show i - P.length = 0 by omega,List.set_cons_zero,List.eraseIdx_append_of_length_le (by omega),show k - P.length = (k - (i + 1)) + 1 by omega,List.eraseIdx_cons_succ,List.eraseIdx_append_of_length_le (by omega),hq,eX,List.eraseIdx_cons_zero]
end Go.Ld
