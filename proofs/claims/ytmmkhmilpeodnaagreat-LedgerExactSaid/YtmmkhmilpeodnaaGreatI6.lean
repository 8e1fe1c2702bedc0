/-
  Texts of the logic and of the layer,in one module (part 6).
-/
import Derived.Test.YtmmkhmilpeodnaaGreatI5
import Derived.Shelf.Spec.SlicesGrow
import Derived.Ground.Names8Prog
set_option linter.unusedVariables false
set_option linter.unusedSimpArgs false
set_option linter.unnecessarySimpa false
namespace Go.Ld
open Go.Ab Go.Proofs.YtmmkhmilpeodnaaGreat
abbrev fT (q : W → Bool) (l : List W) : List W := l.filter fun x => !q x
theorem xA {q : W → Bool} {l : List W} {k : Nat} (h : k < l.length) : fT q (l.take (k + 1)) = if q l[k] then fT q (l.take k) else fT q (l.take k) ++ [l[k]] := by
  unfold fT;rw [aT h,List.filter_append];cases e : q l[k] <;> simp [e]
theorem JF (q : W → Bool) (l : List W) (k : Nat) : (fT q (l.take k)).length ≤ k := bA (qK _ _) (by simp;omega)
theorem O9 {α : Type} (p : α → Bool) : ∀ (l : List α) (k : Nat), (tE p l k = -1 ∧ ∀ x, x ∈ l → p x = false) ∨ ∃ (j : Nat) (hj : j < l.length), tE p l k = ((k + j : Nat) : Int) ∧ p l[j] = true ∧ ∀ x, x ∈ l.take j → p x = false
  | [],k => .inl ⟨rfl,fun x hx => by cases hx⟩
  | y :: l,k => by
    unfold tE;cases hp : p y with
    | true => exact .inr ⟨0,by simp,by rw [if_pos rfl];rfl,by simpa using hp,fun x hx => by simp at hx⟩
    | false =>
      rw [if_neg (by simp)]
      rcases O9 p l (k + 1) with ⟨h1,h2⟩ | ⟨j,hj,h1,h2,h3⟩
      · refine .inl ⟨h1,fun x hx => ?_⟩
        rcases bR.1 hx with rfl | hx
        · exact hp
        · exact h2 x hx
      · refine .inr ⟨j + 1,by simp;omega,by rw [h1];omega,by simpa using h2,fun x hx => ?_⟩
        rw [oL] at hx;rcases bR.1 hx with rfl | hx
        · exact hp
        · exact h3 x hx
def O6 (m x : W) : W := if x.2.1 < m.2.1 then x else m
theorem JB : ∀ (l : List W) (f : W), (l.foldl O6 f).2.1 = l.foldl (fun m x => if x.2.1 < m then x.2.1 else m) f.2.1
  | [],_ => rfl
  | x :: l,f => by
    rw [tW,tW,JB l];congr 1;unfold O6;split <;> rfl
theorem TD {l : List W} {f : W} {k : Nat} (h : k < l.length) : (l.take (k + 1)).foldl O6 f = O6 ((l.take k).foldl O6 f) l[k] := by
  rw [aT h,wL];rfl
end Go.Ld
namespace Go.Proofs.YtmmkhmilpeodnaaGreat
open Go Go.Ab Go.Ld
attribute [local irreducible] VC AW bX aR
set_option maxHeartbeats 4000000
theorem zV5 {F : FuncId} {caps : List AV} {q : W → Bool} (l : List W) (hl : l.length ≤ 1000000) (hi : AV.idfL caps = true) (hp : AV.plnL caps = true) (hF : ∀ x,x ∈ l → aR Tryz.prog F (.agg (wA x) :: caps) [] (.b (q x)) []) :
    aR Tryz.prog 104 [.sl 0 0 l.length 3,.clo (.func F) [] caps] [.arr (fQ l) 3] (.sl 0 0 (fT q l).length 3) [.arr (fQ (fT q l)) 3] := by
  have hll : (fQ l).length = l.length := eV l;have hix := XU hl hi hF;have hvw : oK [.arr (fQ l) 3] (.sl 0 0 l.length 3) (.rowE (fQ l) 3) := vH rfl hll.symm (vP (fun _ => rfl) _);refine bO T Tryz.func104 rfl rfl rfl rfl ?_;rcases O9 q l 0 with ⟨h1,h2⟩ | ⟨j,hj,h1,h2,h3⟩
  · rw [h1] at hix;have hk : fT q l = l := F4.2 fun x hx => by rw [h2 x hx];rfl
    rw [hk]
    (repeat' (first|refine wS ?_|refine wR ?_|refine wT ?_|(refine rg 0 (aV ?_))|(refine rg 1 (dK rfl (vV (by exact fB rfl rfl hix (.cons hvw (.cons (.clo .nil (gM _ hp)) .nil)) rfl rfl) ?_));refine aV ?_)|(refine rg 2 (mW rfl (vV (dR rfl rfl) ?_)))|(refine rg 3 (mW rfl (aV ?_)))|refine nZ ?_));all_goals first | (exfalso;omega) | exact ⟨.inl rfl,[0],_,rfl,rfl,rfl,⟨.inr (aD rfl rfl (bM _)),trivial⟩,by decide,mA⟩
  · rw [h1,Nat.zero_add] at hix;have hk0 : fT q (l.take (j + 1)) = l.take j := by
      rw [xA hj,if_pos h2];exact F4.2 fun x hx => by rw [h3 x hx];rfl
    have hkl : (fT q (l.take (j + 1))).length = j := by rw [hk0];simp;omega
    have hka : fT q (l.take (j + 1)) ++ l.drop (fT q (l.take (j + 1))).length = l := by rw [hkl,hk0,bL]
    have hkf : fT q l = fT q (l.take l.length) := by rw [dS]
    rw [hkf]
    (repeat' (first|refine wS ?_|refine wB ?_|refine wK ?_|refine wU ?_|(refine rg 0 (aV ?_))|(refine rg 1 (dK rfl (vV (by exact fB rfl rfl hix (.cons hvw (.cons (.clo .nil (gM _ hp)) .nil)) rfl rfl) ?_));refine aV ?_)|(refine rg 2 (mW rfl (vV (dR rfl rfl) ?_)))|(refine iA 4 rfl rfl rfl (by omega) (by omega) ?_)|refine nZ ?_));all_goals try (exfalso;omega)
    refine cN (X := {m : Nat // m ≤ l.length}) (fun m => [(0,.sl 0 0 l.length 3),(1,.clo (.func F) [] caps),(5,.i (fT q (l.take m.1)).length),(6,.i m.1)]) (fun m => [.arr (fQ (fT q (l.take m.1) ++ l.drop (fT q (l.take m.1)).length)) 3]) (fun m => l.length - m.1) ⟨j + 1,hj⟩ ⟨[0],rfl,⟨rfl,by rw [mR hi];rfl,by dsimp only;rw [hkl];rfl,rfl,trivial⟩,⟨.inr (aD rfl (by dsimp only;rw [hka]) (bM _)),trivial⟩,by decide,mA⟩ ?_
    rintro ⟨m,hm⟩;dsimp only;have hle := JF q l m;by_cases hlt : m < l.length
    · have hs := xA (q := q) hlt;have hget := NF (G := fT q (l.take m)) (l := l) (m := m) (i := 0 + (m : Int).toNat) hle hlt (by omega)
      have hg2 := NF (G := fT q (l.take m)) (l := l) (m := (fT q (l.take m)).length) (i := 0 + (((fT q (l.take m)).length : Nat) : Int).toNat) (aY _) (by omega) (by omega)
      rw [oT hlt] at hget;have hset := zP8 (G := fT q (l.take m)) (l := l) (x := l[m]) (j := (((fT q (l.take m)).length : Nat) : Int)) (by omega) rfl
      have hc := hF l[m] (aI hlt);have hal := SM (G := fT q (l.take m)) (l := l) (by omega)
      generalize l[m] = x at *;generalize l.getD (fT q (l.take m)).length w0 = y at *;generalize hG : fT q (l.take m) = G at *;generalize hA : fQ (G ++ l.drop G.length) = A at *;cases e : q x
      · rw [e] at hc hs;rw [if_neg (by simp)] at hs
        (repeat' (first|refine wS ?_|refine wB ?_|refine wK ?_|refine wT ?_|(refine wC rfl ?_ ?_<;>(intro hb;(try simp only [nm] at hb);try (exfalso;omega)))|(refine rg 5 (dK rfl (qW T rfl (vV (aL rfl rfl) ?_))))|(refine rg 7 (dK rfl (vV (by exact aJ T rfl rfl rfl rfl rfl (by omega) (by omega)) ?_));refine vV (by exact aP T rfl rfl (bH rfl hget) rfl) ?_;refine bQ (bT T rfl) rfl (aU T rfl rfl rfl rfl rfl rfl (by decide) rfl ?_))|(refine rg 8 (mW rfl (vV (aP T rfl rfl rfl rfl) (vV (by exact eQ rfl rfl hc rfl (by simp [AV.idfL,AV.idf,hi]) rfl) ?_)));refine vV (dX rfl) ?_)|(refine rg 9 (dK rfl (vV (aP T rfl rfl rfl rfl) (vV (by exact aJ T rfl rfl rfl rfl rfl (by omega) (by omega)) ?_)));refine aU T rfl rfl rfl rfl rfl rfl (by decide) (lX rfl hg2 rfl) ?_)|(refine iA 10 rfl rfl rfl (by omega) (by omega) ?_)|(refine iA 6 rfl rfl rfl (by omega) (by omega) ?_)|refine nZ ?_));all_goals try (exfalso;omega)
        all_goals exact ⟨⟨m + 1,hlt⟩,by dsimp only;omega,[0],rfl,⟨rfl,by rw [mR hi];rfl,by rw [hs];simp only [aF];rfl,rfl,trivial⟩,⟨.inr (aD rfl (by rw [hs];exact hset) (bM _)),trivial⟩,by decide,mA⟩
      · rw [e] at hc hs;rw [if_pos rfl] at hs
        (repeat' (first|refine wS ?_|refine wB ?_|refine wK ?_|refine wU ?_|(refine wC rfl ?_ ?_<;>(intro hb;(try simp only [nm] at hb);try (exfalso;omega)))|(refine rg 5 (dK rfl (qW T rfl (vV (aL rfl rfl) ?_))))|(refine rg 7 (dK rfl (vV (by exact aJ T rfl rfl rfl rfl rfl (by omega) (by omega)) ?_));refine vV (by exact aP T rfl rfl (bH rfl hget) rfl) ?_;refine bQ (bT T rfl) rfl (aU T rfl rfl rfl rfl rfl rfl (by decide) rfl ?_))|(refine rg 8 (mW rfl (vV (aP T rfl rfl rfl rfl) (vV (by exact eQ rfl rfl hc rfl (by simp [AV.idfL,AV.idf,hi]) rfl) ?_)));refine vV (dX rfl) ?_)|(refine iA 6 rfl rfl rfl (by omega) (by omega) ?_)|refine nZ ?_));all_goals try (exfalso;omega)
        all_goals exact ⟨⟨m + 1,hlt⟩,by dsimp only;omega,[0],rfl,⟨rfl,by rw [mR hi];rfl,by rw [hs];rfl,rfl,trivial⟩,⟨.inr (aD rfl (by rw [hs];exact hA.symm) (bM _)),trivial⟩,by decide,mA⟩
    · obtain rfl : m = l.length := by omega
      have hal := SM (G := fT q (l.take l.length)) (l := l) (by omega)
      have htk := VA (G := fT q (l.take l.length)) (l := l);generalize fT q (l.take l.length) = G at *
      (repeat' (first|refine wS ?_|refine wR ?_|refine wE ?_|(refine wC rfl ?_ ?_<;>(intro hb;(try simp only [nm] at hb);try (exfalso;omega)))|(refine rg 5 (dK rfl (qW T rfl (vV (aL rfl rfl) ?_))))|(refine rg 11 (dK rfl (vV (by exact kT T rfl rfl rfl rfl rfl rfl (by omega) (by omega) (by omega)) ?_));refine M9 T rfl rfl rfl ⟨rfl,rfl,by decide⟩ rfl (by rw [hal];omega) ?_)|(refine rg 12 (dK rfl (vV (by exact kT T rfl rfl rfl rfl rfl rfl (by omega) (by omega) (by omega)) ?_));refine aV ?_)|refine nZ ?_));all_goals try (exfalso;omega)
      all_goals exact ⟨.inl rfl,[0],_,rfl,(by show AV.sl 0 0 ((G.length : Int) - 0).toNat 3 = AV.sl 0 0 G.length 3;rw [show ((G.length : Int) - 0).toNat = G.length by omega]),rfl,⟨.inr (aD rfl htk (bM _)),trivial⟩,by decide,mA⟩
abbrev zX9 : AV := .clo (.func 138) [] []
theorem UJ {f : W} {l : List W} {k : Nat} (h : k < l.length) : (fQ (f :: l))[((k : Int) + 1).toNat]? = some (wA l[k]) := by
  rw [show ((k : Int) + 1).toNat = k + 1 by omega];simp [h]
theorem zX8 (f : W) (l : List W) (hl : l.length ≤ 1000000) : aR Tryz.prog 137 [.rowE (fQ (f :: l)) 3,zX9] [] (LJ (l.foldl O6 f)) [] := by
  have hll : (fQ (f :: l)).length = l.length + 1 := by simp
  have hg0 : (fQ (f :: l))[(0 : Int).toNat]? = some (wA f) := rfl;refine bO T Tryz.func137 rfl rfl rfl rfl ?_
  (repeat' (first|refine wS ?_|refine wB ?_|refine wK ?_|refine wU ?_|(refine rg 0 (bQ (bT T rfl) rfl ?_))|(refine rg 1 (mW rfl (qW T rfl (vV (aL rfl rfl) ?_))))|(refine rg 3 (mW rfl (vV (ix T rfl (by omega) (lU _) hg0) (lW T rfl (bQ (bT T rfl) rfl (aU T rfl rfl rfl rfl rfl rfl (by decide) rfl ?_))))))|(refine rg 4 (aV ?_))|refine nZ ?_));all_goals try (exfalso;omega)
  refine cN (X := {k : Nat // k ≤ l.length}) (fun k => [(0,.rowE (fQ (f :: l)) 3),(1,zX9),(4,.ptr 0 0),(5,.ptr 1 0),(6,.i ((k.1 : Int) + 1))]) (fun k => [.cells [.nils,.i 0,.nils],.cells (wA ((l.take k.1).foldl O6 f))]) (fun k => l.length - k.1) ⟨0,bU _⟩ ⟨[0,1],rfl,by (repeat (first | exact trivial | refine ⟨rfl,?_⟩)),⟨.inr rfl,.inr rfl,trivial⟩,by decide,kV _⟩ ?_
  rintro ⟨k,hk⟩;dsimp only;by_cases hlt : k < l.length
  · have hs := TD (f := f) hlt;have hg := UJ (f := f) hlt;have hc := XQ l[k] ((l.take k).foldl O6 f);generalize l[k] = x at *;generalize (l.take k).foldl O6 f = m at *;by_cases h0 : x.2.1 < m.2.1
    · have hv : cI x.2.1 m.2.1 = -1 := by unfold cI;rw [if_pos h0]
      rw [hv] at hc;rw [O6,if_pos h0] at hs
      (repeat' (first|refine wS ?_|refine wB ?_|refine wK ?_|refine wT ?_|(refine wC rfl ?_ ?_<;>(intro hb;(try simp only [nm] at hb);try (exfalso;omega)))|(refine rg 5 (dK rfl (qW T rfl (vV (aL rfl rfl) ?_))))|(refine bN (id := 7) 33 [[],[],[],[1,2],[1,2,3],[],rN 6,rN 7] (rM 20 8) [[],[20],[20,21],[20],[20],rM 20 5,[],[]] cJ rfl (by decide +kernel) (dN rfl (dN rfl (dN rfl (dV rfl (ix T rfl (by omega) (lU _) hg) (dO T rfl (dO T rfl (dV rfl (kC (hc)) (dV rfl (aL rfl rfl) (dE ?_))))))))))|(refine rg 8 (dK rfl (vV (ix T rfl (by omega) (lU _) hg) (lW T rfl (aU T rfl rfl rfl rfl rfl rfl (by decide) rfl ?_)))))|(refine iA 6 rfl rfl rfl (by omega) (by omega) ?_)|refine nZ ?_));all_goals try (exfalso;omega)
      all_goals exact ⟨⟨k + 1,hlt⟩,by dsimp only;omega,[0,1],rfl,by (repeat (first | exact trivial | refine ⟨rfl,?_⟩)),⟨.inr rfl,.inr (by dsimp only;rw [hs];rfl),trivial⟩,by decide,kV _⟩
    · have hv : 0 ≤ cI x.2.1 m.2.1 := by unfold cI;rw [if_neg h0];split <;> omega
      rw [O6,if_neg h0] at hs;generalize cI x.2.1 m.2.1 = v at *
      (repeat' (first|refine wS ?_|refine wB ?_|refine wK ?_|(refine wC rfl ?_ ?_<;>(intro hb;(try simp only [nm] at hb);try (exfalso;omega)))|(refine rg 5 (dK rfl (qW T rfl (vV (aL rfl rfl) ?_))))|(refine bN (id := 7) 33 [[],[],[],[1,2],[1,2,3],[],rN 6,rN 7] (rM 20 8) [[],[20],[20,21],[20],[20],rM 20 5,[],[]] cJ rfl (by decide +kernel) (dN rfl (dN rfl (dN rfl (dV rfl (ix T rfl (by omega) (lU _) hg) (dO T rfl (dO T rfl (dV rfl (kC (hc)) (dV rfl (aL rfl rfl) (dE ?_))))))))))|(refine iA 6 rfl rfl rfl (by omega) (by omega) ?_)|refine nZ ?_));all_goals try (exfalso;omega)
      all_goals exact ⟨⟨k + 1,hlt⟩,by dsimp only;omega,[0,1],rfl,by (repeat (first | exact trivial | refine ⟨rfl,?_⟩)),⟨.inr rfl,.inr (by dsimp only;rw [hs];rfl),trivial⟩,by decide,kV _⟩
  · obtain rfl : k = l.length := by omega
    rw [dS];generalize l.foldl O6 f = m at *
    (repeat' (first|refine wS ?_|refine wR ?_|refine wE ?_|(refine wC rfl ?_ ?_<;>(intro hb;(try simp only [nm] at hb);try (exfalso;omega)))|(refine rg 5 (dK rfl (qW T rfl (vV (aL rfl rfl) ?_))))|(refine rg 9 (lW T rfl (aU T rfl rfl rfl rfl rfl rfl (by decide) rfl ?_)))|refine nZ ?_));all_goals first | (exfalso;omega) | exact ⟨.inl rfl,[],_,rfl,rfl,rfl,trivial,by decide,kV _⟩
theorem yE1 : GB Tryz.prog 84 1 = some (3,1) := by kernel_rfl
theorem PB (g : G) (hne : g.2 ≠ []) (hl : g.2.length ≤ 1000000) : aR Tryz.prog 103 [UI g] [] (.i (fX g)) [] := by
  obtain ⟨b,ws⟩ := g;cases ws with
  | nil => exact absurd rfl hne
  | cons f l =>
    have hc := zX8 f l (by simp at hl;omega)
    show aR _ _ _ _ (.i (l.foldl (fun m x => if x.2.1 < m then x.2.1 else m) f.2.1)) []
    rw [← JB];generalize l.foldl O6 f = m at *;refine bO T Tryz.func103 rfl rfl rfl rfl ?_
    (repeat' (first|refine wS ?_|refine wR ?_|(refine rg 0 (bQ (cD rfl rfl) rfl (aV ?_)))|(refine rg 1 (gH T rfl (vV (kC (hc)) (vV (by exact DY T rfl yE1 rfl rfl) ?_)));refine aV ?_)|refine nZ ?_));all_goals first | (exfalso;omega) | exact rQ
end Go.Proofs.YtmmkhmilpeodnaaGreat
namespace Go.Ld
open Go.Ab Go.Proofs.YtmmkhmilpeodnaaGreat
def zZ (g : G) : Int := match iD g with
  | some k => (k : Int)
  | none => -1
theorem KI {g : G} (h : g.1.length < 2 ∨ g.2 = []) : zZ g = -1 := by unfold zZ iD;rw [if_pos h]
theorem ZG {g : G} {k : Nat} (h : ¬ (g.1.length < 2 ∨ g.2 = [])) (hk : k < g.1.length) (h1 : ∀ j,j < k → yZ g j = false) (h2 : yZ g k = true) : zZ g = k := by
  unfold zZ iD;rw [if_neg h,List.find?_range_eq_some.2 ⟨h2,by simpa using hk,fun j hj => by simp [h1 j hj]⟩]
theorem TS {g : G} (h : ¬ (g.1.length < 2 ∨ g.2 = [])) (h1 : ∀ j,j < g.1.length → yZ g j = false) : zZ g = -1 := by
  unfold zZ iD;rw [if_neg h,List.find?_range_eq_none.2 (fun j hj => by simp [h1 j hj])]
def EC (f : W) (i : Nat) (w : W) : Bool := !decide (gP w i = gP f i ∧ gC w i = gC f i)
theorem LX {bs : List Int} {f : W} {l : List W} {i : Nat} : yZ (bs,f :: l) i = !(f :: l).any (EC f i) := by
  show (f :: l).all (fun w => decide (gP w i = gP f i ∧ gC w i = gC f i)) = _;rw [List.not_any_eq_all_not];congr 1;funext w;simp [EC]
end Go.Ld
namespace Go.Proofs.YtmmkhmilpeodnaaGreat
open Go Go.Ab Go.Ld
attribute [local irreducible] VC AW bX aR lL
set_option maxHeartbeats 4000000
theorem zN8 : lL Tryz.prog 48 2 := by unfold lL;kernel_rfl
theorem NB (w f : W) {i : Nat} (h1 : i < w.1.length) (h2 : i < w.2.2.length) (h3 : i < f.1.length) (h4 : i < f.2.2.length) (hs : M7 w) (hf : M7 f) :
    aR Tryz.prog 141 [LJ w,.pr [.i i] 0,.pr (wA f) 0] [] (.b (EC f i w)) [] := by
  obtain ⟨p,m,c⟩ := w;obtain ⟨p',m',c'⟩ := f;dsimp only at h1 h2 h3 h4;unfold M7 at hs hf;dsimp only at hs hf;have hlp : (ints p).length = p.length := dC _;have hlp' : (ints p').length = p'.length := dC _;have hlc : (fA c).length = c.length := gJ _;have hlc' : (fA c').length = c'.length := gJ _;have q1 := nY (l := p) (j := (i : Int)) (i := i) 0 h1 rfl;have q2 := nY (l := p') (j := (i : Int)) (i := i) 0 h3 rfl;have q3 := rE (l := c) (j := (i : Int)) (i := i) h2 rfl;have q4 := rE (l := c') (j := (i : Int)) (i := i) h4 rfl;have hd : EC (p',m',c') i (p,m,c) = !decide (p.getD i 0 = p'.getD i 0 ∧ c.getD i (0,0) = c'.getD i (0,0)) := rfl;rw [hd];generalize p.getD i 0 = x at *;generalize p'.getD i 0 = y at *;generalize hr : c.getD i (0,0) = r at *;generalize hr' : c'.getD i (0,0) = r' at *;obtain ⟨a,b⟩ := r;obtain ⟨a',b'⟩ := r';dsimp only at q3 q4;by_cases h : x = y
  · rw [show (!decide (x = y ∧ (a,b) = (a',b'))) = !decide (a = a' ∧ b = b') by simp [h]]
    refine bO T Tryz.func141 rfl rfl rfl rfl ?_
    (repeat' (first|refine wS ?_|refine wR ?_|(refine rg 0 (bQ (cD rfl rfl) rfl (aV ?_)))|(refine bN (id := 1) 29 yI2 (rM 5 24) yI3 cJ rfl (by decide +kernel) (dP T rfl (dO T rfl (dO T rfl (dV rfl (ix T rfl (by omega) (ints_len p) q1) (dO T rfl (dP T rfl (dO T rfl (dO T rfl (dV rfl (ix T rfl (by omega) (ints_len p') q2) ?_)))))))));refine dO T rfl (dV rfl (rA rfl rfl h) (dN rfl (tP T rfl (tO T rfl (tO T rfl (dT rfl (ix T rfl (by omega) (jI c) q3) (tO T rfl (tP T rfl (tL T ?_)))))))));refine tO T rfl (dT rfl (ix T rfl (by omega) (jI c') q4) (tO T rfl (dT rfl (zI9 zN8 rfl rfl) (dV rfl (iE rfl rfl) (dE ?_)))));refine aV ?_)|refine nZ ?_));all_goals first | (exfalso;omega) | exact rQ
  · rw [show (!decide (x = y ∧ (a,b) = (a',b'))) = true by simp [h]]
    refine bO T Tryz.func141 rfl rfl rfl rfl ?_
    (repeat' (first|refine wS ?_|refine wR ?_|(refine rg 0 (bQ (cD rfl rfl) rfl (aV ?_)))|(refine bN (id := 1) 29 yI2 (rM 5 24) yI3 cJ rfl (by decide +kernel) (dP T rfl (dO T rfl (dO T rfl (dV rfl (ix T rfl (by omega) (ints_len p) q1) (dO T rfl (dP T rfl (dO T rfl (dO T rfl (dV rfl (ix T rfl (by omega) (ints_len p') q2) ?_)))))))));refine dO T rfl (dV rfl (xD rfl rfl h) (dN rfl (tG rfl (tG rfl (tG rfl (tG rfl (tG rfl (tG rfl (dG ?_)))))))));refine tG rfl (tG rfl (tG rfl (tG rfl (dV rfl (iQ rfl rfl) (dE ?_)))));refine aV ?_)|refine nZ ?_));all_goals first | (exfalso;omega) | exact rQ
structure zV0 (g : G) : Prop where
  b : g.1.length ≤ 1000
  w : g.2.length ≤ 1000000
  p : ∀ w,w ∈ g.2 → w.1.length = g.1.length
  c : ∀ w,w ∈ g.2 → w.2.2.length = g.1.length
theorem zV0.sm {g : G} (h : zV0 g) {w : W} (hw : w ∈ g.2) : M7 w := ⟨by have := h.p w hw;have := h.b;omega,by have := h.c w hw;have := h.b;omega⟩
theorem TQ (g : G) (hs : zV0 g) : aR Tryz.prog 106 [UI g] [] (.i (zZ g)) [] := by
  have hsz := hs;obtain ⟨bs,ws⟩ := g;obtain ⟨hb,hw,hp,hc⟩ := hs;dsimp only at hb hw hp hc;have hlb : (ints bs).length = bs.length := dC _;have hlw : (fQ ws).length = ws.length := eV _;by_cases h0 : bs.length < 2
  · rw [KI (.inl h0)];refine bO T Tryz.func106 rfl rfl rfl rfl ?_
    (repeat' (first|refine wS ?_|refine wR ?_|refine wT ?_|(refine rg 0 (bQ (cD rfl rfl) rfl (aV ?_)))|(refine rg 1 (gH T rfl (qW T rfl (vV (aL rfl rfl) (mV ?_))));refine cH rfl rfl ?_ ?_<;>(intro hb;rw [hb];(try simp only [nm] at hb);try (exfalso;omega));(all_goals ((iterate 4 refine gF ?_);refine pV ?_)))|(refine rg 2 (aV ?_))|refine nZ ?_));all_goals first | (exfalso;omega) | exact rQ
  · cases ws with
    | nil =>
      rw [KI (.inr rfl)];refine bO T Tryz.func106 rfl rfl rfl rfl ?_
      (repeat' (first|refine wS ?_|refine wR ?_|refine wT ?_|(refine rg 0 (bQ (cD rfl rfl) rfl (aV ?_)))|(refine rg 1 (gH T rfl (qW T rfl (vV (aL rfl rfl) (mV ?_))));refine cH rfl rfl ?_ ?_<;>(intro hb;rw [hb];(try simp only [nm] at hb);try (exfalso;omega));(all_goals (refine yP T rfl (yO T rfl (gT (qW T rfl (yV (dR rfl rfl) (pV ?_))))))))|(refine rg 2 (aV ?_))|refine nZ ?_));all_goals first | (exfalso;omega) | exact rQ
    | cons f l =>
      have hn : ¬ (bs.length < 2 ∨ f :: l = []) := by rintro (h | h);exact h0 h;cases h
      have hg0 : (fQ (f :: l))[(0 : Int).toNat]? = some (wA f) := rfl;have hl1 : (fQ (f :: l)).length = l.length + 1 := by simp
      refine bO T Tryz.func106 rfl rfl rfl rfl ?_
      (repeat' (first|refine wS ?_|refine wB ?_|refine wK ?_|refine wU ?_|(refine rg 0 (bQ (cD rfl rfl) rfl (aV ?_)))|(refine rg 1 (gH T rfl (qW T rfl (vV (aL rfl rfl) (mV ?_))));refine cH rfl rfl ?_ ?_<;>(intro hb;rw [hb];(try simp only [nm] at hb);try (exfalso;omega));(all_goals (refine yP T rfl (yO T rfl (gT (qW T rfl (yV (dR rfl rfl) (pV ?_))))))))|(refine rg 3 (gH T rfl (qW T rfl (mV ?_))))|refine nZ ?_));all_goals try (exfalso;omega)
      all_goals refine cN (X := {k : Nat // k ≤ bs.length ∧ ∀ j,j < k → yZ (bs,f :: l) j = false}) (fun k => [(1,.ptr 0 0),(17,.i (ints bs).length),(18,.i k.1)]) (fun _ => [.cells [.rowE (ints bs) 1,.rowE (fQ (f :: l)) 3]]) (fun k => bs.length - k.1) ⟨0,bU _,fun j hj => absurd hj (dH _)⟩ (eA [0]) ?_
      all_goals rintro ⟨k,hk,hj⟩
      all_goals dsimp only
      all_goals by_cases hlt : k < bs.length
      · have hlf : k < f.1.length := by rw [hp f aS];exact hlt
        have hlf2 : k < f.2.2.length := by rw [hc f aS];exact hlt
        have hcc := zS0 (caps := [.pr [.i k] 0,.pr (wA f) 0]) (p := EC f k) (l := f :: l) hw rfl (fun x hx => NB x f (by rw [hp x hx];exact hlt) (by rw [hc x hx];exact hlt) hlf hlf2 (hsz.sm hx) (hsz.sm aS))
        have hsa := LX (bs := bs) (f := f) (l := l) (i := k);cases hany : (f :: l).any (EC f k) with
        | false =>
          rw [hany] at hcc hsa;have hci := ZG hn hlt hj hsa;rw [hci]
          (repeat' (first|refine wS ?_|refine wB ?_|refine wK ?_|refine wR ?_|refine wT ?_|(refine wC rfl ?_ ?_<;>(intro hb;(try simp only [nm] at hb);try (exfalso;omega)))|(refine rg 4 (vV (aL rfl rfl) ?_))|(refine rg 5 (mW rfl (bQ (bT T rfl) rfl (aU T rfl rfl rfl rfl rfl rfl (by decide) rfl ?_))))|(refine rg 6 (gH T rfl (vV (ix T rfl (by omega) (lU _) hg0) (lW T rfl (bQ (bT T rfl) rfl (aU T rfl rfl rfl rfl rfl rfl (by decide) rfl ?_))))))|(refine rg 7 (gH T rfl (vV (by exact jK rfl rfl) ?_));refine vV (by exact fB rfl rfl hcc (.cons (.row _ _ _) (.cons (.clo .nil (.cons (.ptr rfl (.cons (.v _) .nil)) (.cons (.ptr rfl (.cons (.row _ _ _) (.cons (.v _) (.cons (.row _ _ _) .nil)))) .nil))) .nil)) rfl rfl) ?_;refine vV (dX rfl) ?_)|(refine rg 8 (lW T rfl (aV ?_)))|refine nZ ?_));all_goals first | (exfalso;omega) | exact rQ
        | true =>
          rw [hany] at hcc hsa
          (repeat' (first|refine wS ?_|refine wB ?_|refine wK ?_|refine wU ?_|(refine wC rfl ?_ ?_<;>(intro hb;(try simp only [nm] at hb);try (exfalso;omega)))|(refine rg 4 (vV (aL rfl rfl) ?_))|(refine rg 5 (mW rfl (bQ (bT T rfl) rfl (aU T rfl rfl rfl rfl rfl rfl (by decide) rfl ?_))))|(refine rg 6 (gH T rfl (vV (ix T rfl (by omega) (lU _) hg0) (lW T rfl (bQ (bT T rfl) rfl (aU T rfl rfl rfl rfl rfl rfl (by decide) rfl ?_))))))|(refine rg 7 (gH T rfl (vV (by exact jK rfl rfl) ?_));refine vV (by exact fB rfl rfl hcc (.cons (.row _ _ _) (.cons (.clo .nil (.cons (.ptr rfl (.cons (.v _) .nil)) (.cons (.ptr rfl (.cons (.row _ _ _) (.cons (.v _) (.cons (.row _ _ _) .nil)))) .nil))) .nil)) rfl rfl) ?_;refine vV (dX rfl) ?_)|(refine rg 9 (vV (bV rfl rfl (by omega) (by omega)) (mV ?_)))|refine nZ ?_));all_goals first | (exfalso;omega) | skip
          all_goals exact ⟨⟨k + 1,by omega,fun j hjk => (hC j k).elim (hj j) (fun h => by obtain rfl : j = k := (by omega);exact hsa)⟩,by dsimp only;omega,eA [0]⟩
      · rw [TS hn (fun j hjl => hj j (by dsimp only at hjl;omega))]
        (repeat' (first|refine wS ?_|refine wR ?_|refine wE ?_|(refine wC rfl ?_ ?_<;>(intro hb;(try simp only [nm] at hb);try (exfalso;omega)))|(refine rg 4 (vV (aL rfl rfl) ?_))|(refine rg 10 (aV ?_))|refine nZ ?_));all_goals first | (exfalso;omega) | exact rQ
end Go.Proofs.YtmmkhmilpeodnaaGreat
namespace Go.Ld
open Go.Ab Go.Proofs.YtmmkhmilpeodnaaGreat
theorem K6 {α : Type} (l : List α) (k : Nat) : l.take k ++ l.drop (k + 1) = l.eraseIdx k := (xT l k).symm
end Go.Ld
namespace Go.Proofs.YtmmkhmilpeodnaaGreat
open Go Go.Ab Go.Ld
attribute [local irreducible] VC AW bX aR lL kY
set_option maxHeartbeats 4000000
theorem zE9 (g : G) {k : Nat} (hs : zV0 g) (hk : k < g.1.length) (h2 : 2 ≤ g.1.length) (hne : g.2 ≠ []) (hsm : g.2.length ≤ 100000) :
    aR Tryz.prog 107 [UI g,.i k] [] (.tup [UI (nE g k),UI (jN g k)]) [] := by
  have hsz := hs;obtain ⟨bs,ws⟩ := g;obtain ⟨hb,hw,hp,hc⟩ := hs;dsimp only at hb hw hp hc hk h2 hsm;cases ws with
  | nil => exact absurd rfl hne
  | cons f l =>
  have hlb : (ints bs).length = bs.length := dC _;have hf1 := hp f aS;have hf2 := hc f aS;have hlp : (ints f.1).length = f.1.length := dC _;have hlc : (fA f.2.2).length = f.2.2.length := gJ _;have hg0 : (fQ (f :: l))[(0 : Int).toNat]? = some (wA f) := rfl;have hl1 : (fQ (f :: l)).length = l.length + 1 := by simp
  have q1 := nY (l := bs) (j := (k : Int)) (i := k) 0 hk rfl;have q2 := nY (l := f.1) (j := (k : Int)) (i := k) 0 (by omega) rfl
  have q3 := rE (l := f.2.2) (j := (k : Int)) (i := k) (by omega) rfl
  have cl := L1 bs (by omega)
  have dl := MS bs k (k + 1) (by omega) (by omega) (by intro h;rw [h] at hk;simp at hk)
  rw [K6,show bs.length - (k + 1 - k) = bs.length - 1 by omega,show ((k + 1 : Nat) : Int) = (k : Int) + 1 by omega] at dl
  have hel : (bs.eraseIdx k).length = bs.length - 1 := by rw [fS,if_pos hk]
  obtain ⟨L,hL⟩ : ∃ L,f :: l = L := ⟨_,rfl⟩;have hp' : ∀ w,w ∈ L → w.1.length = bs.length := by rw [← hL];exact hp
  have hc' : ∀ w,w ∈ L → w.2.2.length = bs.length := by rw [← hL];exact hc
  have hsm' : L.length ≤ 100000 := by rw [← hL];exact hsm
  have hsz' : ∀ w,w ∈ L → M7 w := by rw [← hL];exact fun w h => hsz.sm h
  obtain ⟨R,hR⟩ : ∃ R,R = L.map (zL1 k) := ⟨_,rfl⟩;have hor : jN (bs,f :: l) k = (bs.eraseIdx k,fY R) := by rw [hR,← hL];rfl
  rw [hor]
  have ho := DK R (by rw [hR,bB];exact hsm') (fun w hw' => by
    rw [hR] at hw';obtain ⟨v,hv,rfl⟩ := bE.1 hw';have h1 := hp' v hv;have h2 := hc' v hv;unfold M7 zL1;dsimp only;rw [fS,fS]
    constructor <;> split <;> omega)
  refine H4 (res := .tup [.agg [.sl 0 0 1 1,.sl 3 0 1 3],.agg [.rowE (ints (bs.eraseIdx k)) 1,.rowE (fQ (fY R)) 3]]) (hout := [.arr (ints [bs.getD k 0]) 1,.arr (ints [f.1.getD k 0]) 1,.arr (fA [f.2.2.getD k (0,0)]) 2,.arr [[.sl 1 0 1 1,.i 0,.sl 2 0 1 2]] 3]) ?_ (.tup (.cons (.agg (.cons (M8 rfl rfl) (.cons (.sl rfl (by decide) (.cons (M8 rfl rfl) (.cons (.v _) (.cons (X3 rfl rfl) .nil)))) .nil))) (.cons (.agg (.cons (.row _ _ _) (.cons (.row _ _ _) .nil))) .nil)))
  generalize bs.getD k 0 = x1 at *;generalize f.1.getD k 0 = x2 at *;generalize hr : f.2.2.getD k (0,0) = r at *;obtain ⟨a1,a2⟩ := r;dsimp only at q3;refine bO T Tryz.func107 rfl rfl rfl rfl ?_
  (repeat' (first|refine wS ?_|(refine rg 0 (bQ (cD rfl rfl) rfl (bQ (bT T rfl) rfl (bQ (bT T rfl) rfl ?_))))|(refine rg 1 (gH T rfl (vV (ix T rfl (by omega) (lU _) hg0) (lW T rfl (bQ (bT T rfl) rfl (aU T rfl rfl rfl rfl rfl rfl (by decide) rfl ?_))))))|(refine bN (id := 2) 78 [[],[0],[],[0,1,2],rN 4,rN 5,[],[6],[],[6,7,8],rM 6 4,rM 6 5,[],[12],[],[12,13,14],rM 12 4,rM 12 5,rM 6 12,rM 6 13,rN 20] (rM 13 21) [[],[],[13,14],[],[],[],rM 13 6,rM 13 6,rM 13 8,rM 13 6,rM 13 6,rM 13 6,rM 13 12,rM 13 12,rM 13 14,rM 13 12,rM 13 12,rM 13 12,rM 13 6,rM 13 6,[]] cJ rfl (by decide +kernel) (dP T rfl (dO T rfl (dN rfl (dV rfl (ix T rfl (by omega) (ints_len bs) q1) (dO T rfl (zT rfl rfl rfl (by exact bC T rfl rfl (by decide) (by decide) rfl rfl rfl) rfl ?_))))));refine dP T rfl (dO T rfl (dN rfl (dV rfl (ix T rfl (by omega) (ints_len f.1) q2) (dO T rfl (zT rfl rfl rfl (by exact bC T rfl rfl (by decide) (by decide) rfl rfl rfl) rfl ?_)))));refine dP T rfl (dO T rfl (dN rfl (dV rfl (ix T rfl (by omega) (jI f.2.2) q3) (dO T rfl (zT rfl rfl rfl (by exact bC T rfl rfl (by decide) (by decide) rfl rfl rfl) rfl ?_)))));refine dV rfl (by exact eU T rfl rfl rfl rfl) ?_;refine zT rfl rfl rfl (by exact bC T rfl rfl (by decide) (by decide) rfl rfl rfl) rfl ?_;refine dV rfl (by exact eU T rfl rfl rfl rfl) ?_;refine dE ?_;refine aU T rfl rfl rfl rfl rfl rfl (by decide) rfl ?_)|(refine rg 3 (gH T rfl (bQ (by exact fL rfl rfl cl (.inr ⟨rfl,rfl,by simp⟩)) rfl ?_));refine dK rfl (vV (bV rfl rfl (by omega) (by omega)) (fF [8] rfl rfl (dl) rfl rfl (by decide) ⟨.inr (aD rfl (bY _ (ints_idf _)) (ints_idf _)),trivial⟩ (by simp) rfl ?_));refine fW T rfl (aU T rfl rfl rfl rfl rfl rfl (by decide) rfl ?_))|refine nZ ?_));refine fE [(1, .i k), (2, .ptr 0 0), (4, .ptr 1 0), (5, .ptr 2 0)] [.cells [.rowE (ints bs) 1, .rowE (fQ (f :: l)) 3], .cells [.sl 3 0 1 1, .sl 6 0 1 3], .cells [.sl 7 0 (bs.length - 1) 1, .nils], .arr (ints [x1]) 1, .arr (ints [x2]) 1, .arr (fA [(a1, a2)]) 2, .arr [[.sl 4 0 1 1, .i 0, .sl 5 0 1 2]] 3, .arr (ints (bs.eraseIdx k)) 1]
    ⟨[0,1,2,4,5,6,7,8],rfl,(by repeat first|exact trivial|refine ⟨rfl,?_⟩),⟨.inr rfl,.inr rfl,.inr rfl,.inr rfl,.inr rfl,.inr rfl,.inr rfl,.inr (aD rfl (bY _ (ints_idf _)) (ints_idf _)),trivial⟩,by decide,kV _⟩ ?_
  refine nL 2 0 rfl rfl rfl (by rw [dC,hel]) (iJ (ints_idf _)) ?_
  refine uK 2 1 3 rfl rfl (by decide) ?_
  rw [hL]
  (repeat' (first|refine wB ?_|(refine rg 4 (gH T rfl (qW T rfl (mV ?_))))|refine nZ ?_));refine cN (X := {i : Nat // i ≤ L.length}) (fun i => [(1, .i k), (4, .ptr 0 0), (5, .ptr 1 0), (43, .rowE (fQ L) 3), (44, .i (fQ L).length), (45, .i i.1)]) (fun i => [.cells [.sl 2 0 1 1, .sl 5 0 1 3], .cells [.rowE (ints (bs.eraseIdx k)) 1, .sl 6 0 i.1 3], .arr (ints [x1]) 1, .arr (ints [x2]) 1, .arr (fA [(a1, a2)]) 2, .arr [[.sl 3 0 1 1, .i 0, .sl 4 0 1 2]] 3, .arr (fQ (R.take i.1)) 3]) (fun i => L.length - i.1) ⟨0, bU _⟩
    ⟨[1,2,3,4,5,6,8],rfl,(by repeat first|exact trivial|refine ⟨rfl,?_⟩),⟨.inr rfl,.inr rfl,.inr rfl,.inr rfl,.inr rfl,.inr rfl,.inr rfl,trivial⟩,by decide,kV _⟩ ?_
  rintro ⟨i,hi⟩;dsimp only;have hLl : (fQ L).length = L.length := eV _;have hRl : R.length = L.length := by rw [hR,bB]
  by_cases hlt : i < L.length
  · have hg := rW hlt;have hv1 := hp' L[i] (aI hlt);have hv2 := hc' L[i] (aI hlt);have hRs : R.take (i + 1) = R.take i ++ [zL1 k L[i]] := by rw [aT (by omega)];simp [hR]
    have hwm := hsz' _ (aI hlt);generalize L[i] = v at *;have hcw := GH v hwm;obtain ⟨p,m,c⟩ := v;dsimp only at hv1 hv2 hcw hRs;have e1 := BN (MS p k (k + 1) (by omega) (by omega) (by intro h;rw [h] at hv1;simp at hv1;omega))
    have e2 := BN (zT9 c k (k + 1) (by omega) (by omega) (by intro h;rw [h] at hv2;simp at hv2;omega))
    rw [K6,show p.length - (k + 1 - k) = p.length - 1 by omega,show ((k + 1 : Nat) : Int) = (k : Int) + 1 by omega] at e1
    rw [K6,show c.length - (k + 1 - k) = c.length - 1 by omega,show ((k + 1 : Nat) : Int) = (k : Int) + 1 by omega] at e2
    (repeat' (first|refine wS ?_|refine wB ?_|refine wK ?_|(refine wC rfl ?_ ?_<;>(intro hb;(try simp only [nm] at hb);try (exfalso;omega)))|(refine rg 5 (vV (aL rfl rfl) ?_))|(refine rg 6 (vV (ix T rfl (by omega) (lU _) hg) (lW T rfl (bQ (bT T rfl) rfl (aU T rfl rfl rfl rfl rfl rfl (by decide) rfl ?_)))))|(refine rg 7 (lW T rfl (bQ (by exact fL rfl rfl hcw (.inr ⟨rfl,rfl,by simp⟩)) rfl ?_));refine aU T rfl rfl rfl rfl rfl rfl (by decide) rfl ?_)|refine nZ ?_));all_goals try (exfalso;omega)
    refine fE [(1, .i k), (4, .ptr 0 0), (5, .ptr 1 0), (8, .ptr 7 0), (43, .rowE (fQ L) 3), (44, .i (fQ L).length), (45, .i i)] [.cells [.sl 2 0 1 1, .sl 5 0 1 3], .cells [.rowE (ints (bs.eraseIdx k)) 1, .sl 6 0 i 3], .arr (ints [x1]) 1, .arr (ints [x2]) 1, .arr (fA [(a1, a2)]) 2, .arr [[.sl 3 0 1 1, .i 0, .sl 4 0 1 2]] 3, .arr (fQ (R.take i)) 3, .cells [.sl 8 0 p.length 1, .i m, .sl 9 0 c.length 2], .arr (ints p) 1, .arr (fA c) 2]
      ⟨[0,1,2,3,4,5,6,7,8,9],rfl,(by repeat first|exact trivial|refine ⟨rfl,?_⟩),⟨.inr rfl,.inr rfl,.inr rfl,.inr rfl,.inr rfl,.inr rfl,.inr (aD rfl rfl (bM _)),.inr rfl,.inr (aD rfl (bY _ (ints_idf _)) (ints_idf _)),.inr (aD rfl (bY _ (eZ _)) (eZ _)),trivial⟩,by decide,kV _⟩ ?_
    repeat' (first|(refine wG (id := 8) 78 [[],[0],[],[],[3],rN 5,[],[6],[],[],[9],rN 11,rN 8,rN 13] (rM 51 13) [[],[],[51,52],[51,52,53],[51,52,53],[],rM 51 6,rM 51 6,rM 51 8,rM 51 9,rM 51 9,[],rM 59 4,[]] [(5,8),(11,9),(13,7)] cJ rfl (by decide +kernel) (fP rfl rfl rfl rfl (by exact cE T rfl rfl rfl) ?_);refine fP rfl rfl rfl rfl (by exact aP T rfl rfl rfl rfl) ?_;refine fP rfl rfl rfl rfl (by exact cC rfl) ?_;refine fP rfl rfl rfl rfl (by exact cC rfl) ?_;refine fP rfl rfl rfl rfl (by exact bV rfl rfl (by omega) (by omega)) ?_;refine zS rfl rfl rfl rfl (aN rfl) (by exact KR [8] rfl rfl (e1) (fun _=>rfl) rfl (by decide) (fun _=>⟨.inr (aD rfl rfl (ints_idf _)),trivial⟩) (by simp) rfl (fun _ _=>rfl) rfl rfl) ?_;refine fP rfl rfl rfl rfl (by exact cE T rfl rfl rfl) ?_;refine fP rfl rfl rfl rfl (by exact aP T rfl rfl rfl rfl) ?_;refine fP rfl rfl rfl rfl (by exact cC rfl) ?_;refine fP rfl rfl rfl rfl (by exact cC rfl) ?_;refine fP rfl rfl rfl rfl (by exact bV rfl rfl (by omega) (by omega)) ?_;refine zS rfl rfl rfl rfl (aN rfl) (by exact KR [9] rfl rfl (e2) (fun _=>rfl) rfl (by decide) (fun _=>⟨.inr (aD rfl rfl (eZ _)),trivial⟩) (by simp) rfl (fun _ _=>rfl) rfl rfl) ?_;refine fP rfl rfl rfl rfl (by exact cE T rfl rfl rfl) ?_;refine GF rfl rfl rfl rfl (aN rfl) T rfl rfl rfl rfl rfl rfl (by decide) rfl ?_;refine K9 rfl rfl rfl (by exact rfl) ?_;refine fW T rfl (aU T rfl rfl rfl rfl rfl rfl (by decide) rfl ?_))|refine nZ ?_)
    show AW _ _ _ _ _ _;have l1 : (p.eraseIdx k).length = p.length - 1 := by rw [fS,if_pos (by omega)]
    have l2 : (c.eraseIdx k).length = c.length - 1 := by rw [fS,if_pos (by omega)]
    refine fE [(1, .i k), (4, .ptr 0 0), (5, .ptr 1 0), (8, .ptr 7 0), (43, .rowE (fQ L) 3), (44, .i (fQ L).length), (45, .i i)] [.cells [.sl 2 0 1 1, .sl 5 0 1 3], .cells [.rowE (ints (bs.eraseIdx k)) 1, .sl 6 0 i 3], .arr (ints [x1]) 1, .arr (ints [x2]) 1, .arr (fA [(a1, a2)]) 2, .arr [[.sl 3 0 1 1, .i 0, .sl 4 0 1 2]] 3, .arr (fQ (R.take i)) 3, .cells [.sl 8 0 (p.length - 1) 1, .i m, .sl 9 0 (c.length - 1) 2], .arr (ints (p.eraseIdx k)) 1, .arr (fA (c.eraseIdx k)) 2]
      ⟨[0,1,2,3,4,5,6,7,8,9],rfl,(by repeat first|exact trivial|refine ⟨rfl,?_⟩),⟨.inr rfl,.inr rfl,.inr rfl,.inr rfl,.inr rfl,.inr rfl,.inr (aD rfl rfl (bM _)),.inr rfl,.inr (aD rfl (bY _ (ints_idf _)) (ints_idf _)),.inr (aD rfl (bY _ (eZ _)) (eZ _)),trivial⟩,by decide,kV _⟩ ?_
    refine nL 7 0 rfl rfl rfl (by rw [dC,l1]) (iJ (ints_idf _)) ?_
    refine nL 7 2 rfl rfl rfl (by rw [gJ,l2]) (iJ (eZ _)) ?_
    have hW : fQ (R.take (i + 1)) = fQ (R.take i) ++ [[.rowE (ints (p.eraseIdx k)) 1,.i m,.rowE (fA (c.eraseIdx k)) 2]] := by rw [hRs,fQ,dB];rfl
    have hTl : (fQ (R.take i)).length = i := by rw [eV,bD];omega
    generalize fQ (R.take i) = Q at *
    (repeat' (first|(refine rg 9 (gH T rfl (lW T rfl (bQ (by exact bC T rfl rfl (by decide) (by decide) rfl rfl rfl) rfl ?_)));refine fR T rfl rfl rfl rfl rfl rfl (by omega) (kJ.whole rfl rfl) rfl (by simp;omega) (by simp;omega) rfl ?_;refine fW T rfl (aU T rfl rfl rfl rfl rfl rfl (by decide) rfl ?_))|(refine rg 10 (vV (bV rfl rfl (by omega) (by omega)) (mV ?_)))|refine nZ ?_));all_goals try (exfalso;omega)
    exact ⟨⟨i + 1,hlt⟩,by dsimp only;omega,⟨[0,1,2,3,4,5,11],rfl,(by repeat first|exact trivial|refine ⟨rfl,?_⟩),⟨.inr rfl,.inr rfl,.inr rfl,.inr rfl,.inr rfl,.inr rfl,.inr (aD rfl (by dsimp only;rw [hW];exact lQ hTl.symm) (bM _)),trivial⟩,by decide,kV _⟩⟩
  · obtain rfl : i = L.length := by omega
    rw [show R.take L.length = R by rw [← hRl,dS]]
    show AW _ _ _ _ _ _;refine nL 1 1 rfl rfl rfl (by rw [eV,hRl]) (iJ (bM _)) ?_
    generalize fY R = R' at *
    (repeat' (first|refine wS ?_|refine wR ?_|refine wE ?_|(refine wC rfl ?_ ?_<;>(intro hb;(try simp only [nm] at hb);try (exfalso;omega)))|(refine rg 5 (vV (aL rfl rfl) ?_))|(refine rg 11 (gH T rfl (vV (kC (ho)) (fW T rfl (aU T rfl rfl rfl rfl rfl rfl (by decide) rfl ?_)))))|(refine nD (id := 12) 78 [[],[],[0]] [76,77] [[],[76],[77]] [(2,0)] cJ rfl (by decide +kernel) (cK rfl rfl rfl rfl (by exact aP T rfl rfl rfl rfl) ?_);refine cK rfl rfl rfl rfl (by exact aP T rfl rfl rfl rfl) ?_;refine vB rfl rfl rfl rfl (aN rfl) T rfl rfl rfl rfl rfl rfl (by decide) rfl ?_;refine rB rfl rfl rfl (by exact rfl) ?_;refine aU T rfl rfl rfl rfl rfl rfl (by decide) rfl ?_)|refine nZ ?_));all_goals first | (exfalso;omega) | exact ⟨.inl rfl,[2,3,4,5],_,rfl,rfl,rfl,⟨.inr rfl,.inr rfl,.inr rfl,.inr rfl,trivial⟩,by decide,kV _⟩
end Go.Proofs.YtmmkhmilpeodnaaGreat
namespace Go.Ld
open Go.Ab Go.Proofs.YtmmkhmilpeodnaaGreat
theorem zL {L : List G} {j : Int} {i : Nat} {x : G} (h : L[i]? = some x) (e : j = i) : (jW L)[0 + j.toNat]? = some (gA x) := by
  subst e;simp [h]
theorem J8 {L : List G} {j : Int} {i : Nat} {x : G} (e : j = i) : (jW L).set (0 + j.toNat) (gA x) = jW (L.set i x) := by
  subst e;simp [jW,pP]
abbrev KX (l : List G) : Prop := l.Pairwise (fun a b => cG a b ≤ 0)
def U6 (l : List G) : Prop := ∀ a b,a ∈ l → b ∈ l → cG a b = 0 → a = b
theorem zU2 {a : G} : cG a a = 0 := qA.rfl' _
theorem NC (a b : G) : cG a b = - cG b a := qA.neg _ _
theorem PX {a b d : G} (h1 : cG a b ≤ 0) (h2 : cG b d ≤ 0) : cG a d ≤ 0 := qA.le_tr (a := a.1.headD 0) (b := b.1.headD 0) (d := d.1.headD 0) h1 h2
theorem JI (w : G) : ∀ {l : List G}, KX l → KX (CB cG w l)
  | [],_ => lZ _ _
  | x :: l,hl => by
    have hl' := eR.1 hl;unfold CB;split
    · rename_i hw;refine eR.2 ⟨fun y hy => ?_,hl⟩
      rcases bR.1 hy with rfl | hy
      · exact hw
      · exact PX hw (hl'.1 y hy)
    · rename_i hw;refine eR.2 ⟨fun y hy => ?_,JI w hl'.2⟩
      rcases bR.1 ((C3 cG w l).mem_iff.1 hy) with rfl | hy
      · have := NC x y;omega
      · exact hl'.1 y hy
theorem sJ : ∀ l : List G, KX (dY cG l)
  | [] => .nil
  | x :: l => JI x (sJ l)
theorem HX {l m : List G} (hd : U6 l) (hp : m.Perm l) (h : KX m) : dY cG l = m := by
  refine (List.Perm.eq_of_pairwise (le := fun a b => cG a b ≤ 0) (fun a b ha hb h1 h2 => hd a b (hp.mem_iff.1 ha) ((dD cG l).mem_iff.1 hb) (by have := NC a b;omega)) h (sJ l) (hp.trans (dD cG l).symm)).symm
theorem U6.sub {l m : List G} (h : U6 l) (hs : ∀ x,x ∈ m → x ∈ l) : U6 m := fun a b ha hb e => h a b (hs a ha) (hs b hb) e
theorem U6.perm {l m : List G} (h : U6 l) (hp : m.Perm l) : U6 m := h.sub fun x hx => hp.mem_iff.1 hx
theorem NA {a b : G} (h : cG a b < 0) : cG a b ≤ 0 := by omega
theorem zD5 {S1 S2 : List G} {x : G} (h : KX (S1 ++ S2)) (h1 : ∀ y,y ∈ S1 → cG y x ≤ 0) (h2 : ∀ y,y ∈ S2 → cG x y ≤ 0) : KX (S1 ++ x :: S2) := by
  obtain ⟨a,b,c⟩ := eX.1 h;refine eX.2 ⟨a,eR.2 ⟨h2,b⟩,fun p hp q hq => ?_⟩
  rcases bR.1 hq with rfl | hq
  · exact h1 p hp
  · exact c p hp q hq
theorem UP {A : List G} {y : G} (h : KX (A ++ [y])) : ∀ z,z ∈ A ++ [y] → cG z y ≤ 0 := by
  intro z hz;obtain ⟨a,b,c⟩ := eX.1 h;rcases bI.1 hz with hz | hz
  · exact c z hz y (by simp)
  · rw [bK.1 hz,zU2];exact eP _
theorem yB7 {a b : G} (h : ¬ cG a b < 0) : cG b a ≤ 0 := by have := NC a b;omega
def T8 (l : List G) (a b : Nat) : List G := l.take a ++ (dY cG ((l.drop a).take (b - a)) ++ l.drop b)
theorem X8 {l : List G} : (dY cG l).length = l.length := (dD cG l).length_eq
theorem RG {l : List G} {a : Nat} (h : a ≤ l.length) : T8 l a a = l := by unfold T8;simp [dY]
theorem VJ {l : List G} {a : Nat} (h : a < l.length) : T8 l a (a + 1) = l := by
  unfold T8;rw [show a + 1 - a = 1 by omega,aX h]
  simp only [oL,kQ,dY,CB];rw [List.singleton_append,← aX h,bL]
structure LG (l : List G) (a i : Nat) (x : G) (q : List G × List G) : Prop where
  eq : q.1 ++ q.2 = dY cG ((l.drop a).take (i - a))
  gt : ∀ y,y ∈ q.2 → cG x y < 0
def pJ (l : List G) (a i : Nat) (x : G) (q : List G × List G) : List G := (l.take a ++ q.1) ++ x :: (q.2 ++ l.drop (i + 1))
theorem MN {l : List G} {a i : Nat} {x : G} (h1 : a < i) (h2 : i < l.length) (hx : l[i]? = some x) : LG l a i x (dY cG ((l.drop a).take (i - a)),[]) ∧ T8 l a i = pJ l a i x (dY cG ((l.drop a).take (i - a)),[]) := by
  refine ⟨⟨by simp,fun y hy => by cases hy⟩,?_⟩
  unfold T8 pJ;have : l.drop i = x :: l.drop (i + 1) := by
    rw [aA h2] at hx;rw [aX h2];cases hx;rfl
  simp [this]
theorem JH {l : List G} {a i : Nat} {x : G} {q : List G × List G} (h : LG l a i x q) (h1 : a < i) (h2 : i < l.length) : q.1.length + q.2.length = i - a := by
  have := congrArg List.length h.eq;simp only [aF,X8,bD,dJ] at this;omega
theorem ST {l : List G} {a i : Nat} {x : G} {q : List G × List G} (h : LG l a i x q) (h1 : a < i) (h2 : i < l.length) : (pJ l a i x q).length = l.length := by
  have := JH h h1 h2;unfold pJ;simp only [aF,List.length_cons,bD,dJ];omega
theorem PF {l : List G} (hdl : U6 l) {a i : Nat} {x : G} {q : List G × List G} (h : LG l a i x q) (h1 : a < i) (h2 : i < l.length) (hx : l[i]? = some x) (hs : ∀ y,y ∈ q.1 → cG y x ≤ 0) : pJ l a i x q = T8 l a (i + 1) := by
  unfold pJ T8;have e : (l.drop a).take (i + 1 - a) = (l.drop a).take (i - a) ++ [x] := by
    rw [show i + 1 - a = (i - a) + 1 by omega,zC0]
    rw [eD,show a + (i - a) = i by omega,hx];rfl
  rw [e];have hp : (q.1 ++ x :: q.2).Perm ((l.drop a).take (i - a) ++ [x]) := by
    refine List.perm_middle.trans ?_;rw [h.eq];exact ((dD cG _).cons x).trans (M2 _ _).symm
  have hu : KX (q.1 ++ x :: q.2) := zD5 (by rw [h.eq];exact sJ _) hs (fun y hy => NA (h.gt y hy))
  rw [HX (hdl.sub fun y hy => by rw [← e] at hy;exact eK (eJ hy)) hp hu]
  simp
theorem XY {l : List G} {a i : Nat} {x y : G} {S : List G} {q : List G × List G} (h : LG l a i x q) (e : q.1 = S ++ [y]) (hc : ¬ cG x y < 0) : ∀ z,z ∈ q.1 → cG z x ≤ 0 := by
  have hu : KX (q.1 ++ q.2) := by rw [h.eq];exact sJ _
  have hu1 : KX q.1 := (eX.1 hu).1;rw [e] at hu1;intro z hz;rw [e] at hz;exact PX (UP hu1 z hz) (yB7 hc)
theorem SS {l : List G} {a i : Nat} {x y : G} {S : List G} {q : List G × List G} (h : LG l a i x q) (e : q.1 = S ++ [y]) (hc : cG x y < 0) : LG l a i x (S,y :: q.2) := by
  refine ⟨?_,fun z hz => ?_⟩
  · rw [← h.eq,e];simp
  · rcases bR.1 hz with rfl | hz
    · exact hc
    · exact h.gt z hz
end Go.Ld
namespace Go.Proofs.YtmmkhmilpeodnaaGreat
open Go Go.Ab Go.Ld
attribute [local irreducible] VC AW bX aR
set_option maxHeartbeats 4000000
abbrev MW : AV := .clo (.func 109) [] []
def zV1 (g : G) : Prop := 0 < g.1.length ∧ g.1.length ≤ 1000000
theorem zE3 (a b : G) (ha : zV1 a) (hb : zV1 b) : aR Tryz.prog 109 [UI a,UI b] [] (.i (cG a b)) [] := by
  obtain ⟨p,ws⟩ := a;obtain ⟨q,vs⟩ := b;cases p with
  | nil => exact absurd ha.1 (by simp)
  | cons x p =>
    cases q with
    | nil => exact absurd hb.1 (by simp)
    | cons y q =>
      have hc := EF x y;have h1 : (ints (x :: p)).length = p.length + 1 := by simp
      have h2 : (ints (y :: q)).length = q.length + 1 := by simp
      have g1 : (ints (x :: p))[(0 : Int).toNat]? = some [AV.i x] := rfl;have g2 : (ints (y :: q))[(0 : Int).toNat]? = some [AV.i y] := rfl;refine bO T Tryz.func109 rfl rfl rfl rfl ?_
      (repeat' (first|refine wS ?_|refine wR ?_|(refine rg 0 (bQ (cD rfl rfl) rfl (bQ (cD rfl rfl) rfl (aV ?_))))|(refine bN (id := 1) 14 [[],[0],[0,1],[0,1,2],[],[4],[4,5],[4,5,6],rN 8] (rM 5 9) [[],[],[],[],rM 5 4,rM 5 4,rM 5 4,rM 5 4,[]] cJ rfl (by decide +kernel) (dP T rfl (dO T rfl (dV rfl (ix T rfl (by omega) (ints_len _) g1) (dO T rfl (dP T rfl (dO T rfl (dV rfl (ix T rfl (by omega) (ints_len _) g2) (dO T rfl (dV rfl (kC (hc)) ?_)))))))));refine dE ?_;refine aV ?_)|refine nZ ?_));all_goals first | (exfalso;omega) | exact rQ
theorem SQ (l : List G) (a b : Nat) (hab : a ≤ b) (hb : b ≤ l.length) (hdl : U6 l) (hl : l.length ≤ 100000) (hw : ∀ w,w ∈ l → zV1 w) :
    aR Tryz.prog 163 [.sl 0 0 l.length 2,.i a,.i b,MW] [.arr (jW l) 2] (.tup []) [.arr (jW (T8 l a b)) 2] := by
  rcases hC a b with hlt | hge
  · refine bO T Tryz.func163 rfl rfl rfl rfl ?_
    (repeat' (first|refine wS ?_|refine wB ?_|(refine iA 0 rfl rfl rfl (by omega) (by omega) ?_)|refine nZ ?_));refine cN (X := {i : Nat // a + 1 ≤ i ∧ i ≤ b}) (fun i => [(0,.sl 0 0 l.length 2),(1,.i a),(2,.i b),(3,MW),(8,.i i.1)]) (fun i => [.arr (jW (T8 l a i.1)) 2]) (fun i => b - i.1) ⟨a + 1,by omega,by omega⟩ ⟨[0],rfl,by (repeat (first | exact trivial | refine ⟨rfl,?_⟩)),⟨.inr (aD rfl (by dsimp only;rw [VJ (by omega)]) (eG _)),trivial⟩,by decide,mA⟩ ?_
    rintro ⟨i,h1,h2⟩;dsimp only;by_cases hi : i < b
    · (repeat' (first|refine wS ?_|refine wB ?_|refine wK ?_|(refine wC rfl (fun hb => ?_) (fun hb => ?_) <;> (((try simp only [nm] at hb);try (exfalso;omega))))|(refine rg 1 (dK rfl (vV (aL rfl rfl) ?_)))|(refine rg 3 (mW rfl (aV ?_)))|(refine nZ ?_)));all_goals try (exfalso;omega)
      have hil : i < l.length := by omega
      obtain ⟨x,hx⟩ : ∃ x,l[i]? = some x := ⟨_,aA hil⟩;obtain ⟨s1,s2⟩ := MN (a := a) (by omega) hil hx
      refine cN (X := {q : List G × List G // LG l a i x q}) (fun q => [(0,.sl 0 0 l.length 2),(1,.i a),(2,.i b),(3,MW),(8,.i i),(9,.i ((a + q.1.1.length : Nat) : Int))]) (fun q => [.arr (jW (pJ l a i x q.1)) 2]) (fun q => q.1.1.length) ⟨_,s1⟩ ⟨[0],rfl,⟨rfl,rfl,rfl,rfl,rfl,by dsimp only;rw [X8,bD,dJ,show a + min (i - a) (l.length - a) = i by omega];rfl,trivial⟩,⟨.inr (aD rfl (by dsimp only;rw [s2]) (eG _)),trivial⟩,by decide,mA⟩ ?_
      rintro ⟨⟨S1,S2⟩,hq⟩;dsimp only;have hln := JH hq (by omega) hil
      dsimp only at hln;have hwx : zV1 x := hw x (aQ hx);have hal : (l.take a).length = a := by rw [bD];omega
      rcases List.eq_nil_or_concat S1 with rfl | ⟨S,y,rfl⟩
      · have ee := PF hdl hq (by omega) hil hx (fun y hy => by cases hy)
        have hJ : ((a + ([] : List G).length : Nat) : Int) = a := by simp
        generalize ((a + ([] : List G).length : Nat) : Int) = J at *;generalize pJ l a i x ([],S2) = L at *
        (repeat' (first|refine wS ?_|refine wE ?_|refine wU ?_|(refine bN (id := 4) 53 yG6 (rM 18 17) yG7 cJ rfl (by decide +kernel) (dN rfl (dN rfl (dV rfl (V9 rfl rfl (by omega)) (dN rfl (tG rfl (tG rfl (tG rfl (tG rfl (dG ?_)))))))));refine tG rfl (tG rfl (tG rfl (tG rfl (tG rfl (tG rfl (tG rfl (dV rfl (iE rfl rfl) (dE ?_)))))))))|(refine iA 2 rfl rfl rfl (by omega) (by omega) ?_)|refine nZ ?_));all_goals first | (exfalso;omega) | exact ⟨⟨i + 1,by omega,by omega⟩,by dsimp only;omega,⟨[0],rfl,by (repeat (first | exact trivial | refine ⟨rfl,?_⟩)),⟨.inr (aD rfl (by dsimp only;rw [ee]) (eG _)),trivial⟩,by decide,mA⟩⟩
      · rw [List.concat_eq_append] at *;have hy : y ∈ l := by
          have h3 : y ∈ dY cG ((l.drop a).take (i - a)) := by rw [← hq.eq];simp
          exact eK (eJ ((dD _ _).mem_iff.1 h3))
        have hc := zE3 x y hwx (hw y hy);have hL : pJ l a i x (S ++ [y],S2) = (l.take a ++ S) ++ y :: x :: (S2 ++ l.drop (i + 1)) := by unfold pJ;simp
        have hJ : ((a + (S ++ [y]).length : Nat) : Int) = ((a + S.length + 1 : Nat) : Int) := by simp;omega
        have hAl : a + S.length = (l.take a ++ S).length := by rw [aF,hal]
        have hlen := ST hq (by omega) hil
        by_cases h0 : cG x y < 0
        · have ee := SS hq rfl h0;have q1 := zL (L := pJ l a i x (S ++ [y],S2)) (j := ((a + (S ++ [y]).length : Nat) : Int)) (i := a + S.length + 1) (x := x) (by rw [hL,show (l.take a ++ S) ++ y :: x :: (S2 ++ l.drop (i + 1)) = ((l.take a ++ S) ++ [y]) ++ x :: (S2 ++ l.drop (i + 1)) by simp];exact nM _ _ _ (by simp;omega)) hJ
          have q2 := zL (L := pJ l a i x (S ++ [y],S2)) (j := ((a + (S ++ [y]).length : Nat) : Int) - 1) (i := a + S.length) (x := y) (by rw [hL];exact nM _ _ _ hAl) (by omega)
          have t1 := J8 (L := pJ l a i x (S ++ [y],S2)) (j := ((a + (S ++ [y]).length : Nat) : Int)) (i := a + S.length + 1) (x := y) hJ;have e1 : (pJ l a i x (S ++ [y],S2)).set (a + S.length + 1) y = (l.take a ++ S) ++ y :: y :: (S2 ++ l.drop (i + 1)) := by
            rw [hL,show (l.take a ++ S) ++ y :: x :: (S2 ++ l.drop (i + 1)) = ((l.take a ++ S) ++ [y]) ++ x :: (S2 ++ l.drop (i + 1)) by simp,nW _ _ _ _ (by simp;omega)];simp
          rw [e1] at t1;have q3 := zL (L := (l.take a ++ S) ++ y :: y :: (S2 ++ l.drop (i + 1))) (j := ((a + (S ++ [y]).length : Nat) : Int) - 1) (i := a + S.length) (x := y) (nM _ _ _ hAl) (by omega)
          have t2 := J8 (L := (l.take a ++ S) ++ y :: y :: (S2 ++ l.drop (i + 1))) (j := ((a + (S ++ [y]).length : Nat) : Int) - 1) (i := a + S.length) (x := x) (by omega)
          rw [nW _ _ _ _ hAl,show (l.take a ++ S) ++ x :: y :: (S2 ++ l.drop (i + 1)) = pJ l a i x (S,y :: S2) by unfold pJ;simp,← t1] at t2
          rw [← t1] at q3;have hJ2 : ((a + (S ++ [y]).length : Nat) : Int) - 1 = ((a + S.length : Nat) : Int) := by omega
          have hJ3 : ((a + (S ++ [y]).length : Nat) : Int) < l.length := by omega
          have hJ4 : (a : Int) < ((a + (S ++ [y]).length : Nat) : Int) := by omega
          clear hJ hL;generalize ((a + (S ++ [y]).length : Nat) : Int) = J at *;generalize cG x y = z at *;generalize pJ l a i x (S ++ [y],S2) = L at *
          (repeat' (first|refine wS ?_|refine wB ?_|refine wK ?_|(refine wC rfl ?_ ?_<;>(intro hb;(try simp only [nm] at hb);try (exfalso;omega)))|(refine bN (id := 4) 53 yG6 (rM 18 17) yG7 cJ rfl (by decide +kernel) (dN rfl (dN rfl (dV rfl (fM rfl rfl) (dM ?_))));refine tQ rfl rfl rfl rfl ?_ ?_<;>(intro hb;rw [hb];(try simp only [nm] at hb);try (exfalso;omega))<;>(refine tM ?_);(all_goals (refine tN rfl (tN rfl (dT rfl (by exact aJ T rfl rfl rfl rfl rfl (by omega) (by omega)) ?_));refine dT rfl (by exact aP T rfl rfl (bH rfl q1) rfl) ?_;refine tN rfl (tN rfl (dT rfl (cP rfl rfl (by omega) (by omega)) (dT rfl (by exact aJ T rfl rfl rfl rfl rfl (by omega) (by omega)) ?_)));refine dT rfl (by exact aP T rfl rfl (bH rfl q2) rfl) ?_;refine dT rfl (kC (hc)) (dT rfl (aL rfl rfl) (dV rfl (iQ rfl rfl) (dE ?_))))))|(refine nD (id := 6) 53 yG8 (rM 37 15) yG9 [(15,0)] cJ rfl (by decide +kernel) (cK rfl rfl rfl rfl (by exact cC rfl) ?_);refine cK rfl rfl rfl rfl (by exact cC rfl) ?_;refine cK rfl rfl rfl rfl (by exact cC rfl) ?_;refine cK rfl rfl rfl rfl (by exact cC rfl) ?_;refine cK rfl rfl rfl rfl (by exact cP rfl rfl (by omega) (by omega)) ?_;refine cK rfl rfl rfl rfl (by exact cC rfl) ?_;refine cK rfl rfl rfl rfl (by exact cC rfl) ?_;refine cK rfl rfl rfl rfl (by exact cP rfl rfl (by omega) (by omega)) ?_;refine cK rfl rfl rfl rfl (by exact aJ T rfl rfl rfl rfl rfl (by omega) (by omega)) ?_;refine cK rfl rfl rfl rfl (by exact aP T rfl rfl (bH rfl q2) rfl) ?_;refine cK rfl rfl rfl rfl (by exact cC rfl) ?_;refine cK rfl rfl rfl rfl (by exact cC rfl) ?_;refine cK rfl rfl rfl rfl (by exact aJ T rfl rfl rfl rfl rfl (by omega) (by omega)) ?_;refine cK rfl rfl rfl rfl (by exact aP T rfl rfl (bH rfl q1) rfl) ?_;refine cK rfl rfl rfl rfl (by exact aJ T rfl rfl rfl rfl rfl (by omega) (by omega)) ?_;refine vB rfl rfl rfl rfl (aN rfl) T rfl rfl rfl rfl rfl rfl (by decide) (tZ rfl q1 rfl) ?_;refine rB rfl rfl rfl (by exact rfl) ?_;refine vV (by exact aJ T rfl rfl rfl rfl rfl (by omega) (by omega)) ?_;refine aU T rfl rfl rfl rfl rfl rfl (by decide) (lX rfl q3 rfl) ?_)|(refine rg 5 (mW rfl (vV (cP rfl rfl (by omega) (by omega)) (aV ?_))))|refine nZ ?_));all_goals first | (exfalso;omega) | exact ⟨⟨_,ee⟩,by dsimp only;simp,⟨[0],rfl,⟨rfl,rfl,rfl,rfl,rfl,by dsimp only;rw [← hJ2];try rfl,trivial⟩,⟨.inr (aD rfl (by dsimp only;rw [← t2];try rfl) (eG _)),trivial⟩,by decide,mA⟩⟩
        · have ee := PF hdl hq (by omega) hil hx (XY hq rfl h0)
          have q1 := zL (L := pJ l a i x (S ++ [y],S2)) (j := ((a + (S ++ [y]).length : Nat) : Int)) (i := a + S.length + 1) (x := x) (by rw [hL,show (l.take a ++ S) ++ y :: x :: (S2 ++ l.drop (i + 1)) = ((l.take a ++ S) ++ [y]) ++ x :: (S2 ++ l.drop (i + 1)) by simp];exact nM _ _ _ (by simp;omega)) hJ
          have q2 := zL (L := pJ l a i x (S ++ [y],S2)) (j := ((a + (S ++ [y]).length : Nat) : Int) - 1) (i := a + S.length) (x := y) (by rw [hL];exact nM _ _ _ hAl) (by omega)
          have hJ3 : ((a + (S ++ [y]).length : Nat) : Int) < l.length := by omega
          have hJ4 : (a : Int) < ((a + (S ++ [y]).length : Nat) : Int) := by omega
          clear hJ hL;generalize ((a + (S ++ [y]).length : Nat) : Int) = J at *;generalize cG x y = z at *;generalize pJ l a i x (S ++ [y],S2) = L at *
          (repeat' (first|refine wS ?_|refine wE ?_|(refine wC rfl ?_ ?_<;>(intro hb;(try simp only [nm] at hb);try (exfalso;omega)))|(refine bN (id := 4) 53 yG6 (rM 18 17) yG7 cJ rfl (by decide +kernel) (dN rfl (dN rfl (dV rfl (fM rfl rfl) (dM ?_))));refine tQ rfl rfl rfl rfl ?_ ?_<;>(intro hb;rw [hb];(try simp only [nm] at hb);try (exfalso;omega))<;>(refine tM ?_);(all_goals (refine tN rfl (tN rfl (dT rfl (by exact aJ T rfl rfl rfl rfl rfl (by omega) (by omega)) ?_));refine dT rfl (by exact aP T rfl rfl (bH rfl q1) rfl) ?_;refine tN rfl (tN rfl (dT rfl (cP rfl rfl (by omega) (by omega)) (dT rfl (by exact aJ T rfl rfl rfl rfl rfl (by omega) (by omega)) ?_)));refine dT rfl (by exact aP T rfl rfl (bH rfl q2) rfl) ?_;refine dT rfl (kC (hc)) (dT rfl (aL rfl rfl) (dV rfl (iQ rfl rfl) (dE ?_))))))|(refine iA 2 rfl rfl rfl (by omega) (by omega) ?_)|refine nZ ?_));all_goals first | (exfalso;omega) | exact ⟨⟨i + 1,by omega,by omega⟩,by dsimp only;omega,⟨[0],rfl,by (repeat (first | exact trivial | refine ⟨rfl,?_⟩)),⟨.inr (aD rfl (by dsimp only;rw [ee]) (eG _)),trivial⟩,by decide,mA⟩⟩
    · obtain rfl : i = b := by omega
      (repeat' (first|refine wS ?_|refine wE ?_|(refine wC rfl ?_ ?_<;>(intro hb;(try simp only [nm] at hb);try (exfalso;omega)))|(refine rg 1 (dK rfl (vV (aL rfl rfl) ?_)))|refine nZ ?_));all_goals first | (exfalso;omega) | exact ⟨.inl rfl,[0],_,rfl,rfl,rfl,⟨.inr (aD rfl rfl (eG _)),trivial⟩,by decide,mA⟩ | exact ⟨.inr rfl,[0],_,rfl,rfl,rfl,⟨.inr (aD rfl rfl (eG _)),trivial⟩,by decide,mA⟩
  · obtain rfl : a = b := by omega
    rw [RG hb];refine bO T Tryz.func163 rfl rfl rfl rfl ?_
    (repeat' (first|refine wS ?_|refine wB ?_|(refine iA 0 rfl rfl rfl (by omega) (by omega) ?_)|refine nZ ?_));refine cN (X := Unit) (fun _ => [(0,.sl 0 0 l.length 2),(1,.i a),(2,.i a),(3,MW),(8,.i ((a : Int) + 1))]) (fun _ => [.arr (jW l) 2]) (fun _ => 0) () ⟨[0],rfl,by (repeat (first | exact trivial | refine ⟨rfl,?_⟩)),⟨.inr (aD rfl rfl (eG _)),trivial⟩,by decide,mA⟩ ?_
    intro _;dsimp only
    (repeat' (first|refine wS ?_|refine wE ?_|(refine wC rfl ?_ ?_<;>(intro hb;(try simp only [nm] at hb);try (exfalso;omega)))|(refine rg 1 (dK rfl (vV (aL rfl rfl) ?_)))|refine nZ ?_));all_goals first | (exfalso;omega) | exact ⟨.inl rfl,[0],_,rfl,rfl,rfl,⟨.inr (aD rfl rfl (eG _)),trivial⟩,by decide,mA⟩ | exact ⟨.inr rfl,[0],_,rfl,rfl,rfl,⟨.inr (aD rfl rfl (eG _)),trivial⟩,by decide,mA⟩
end Go.Proofs.YtmmkhmilpeodnaaGreat
namespace Go.Ld
open Go.Ab Go.Proofs.YtmmkhmilpeodnaaGreat
def zH7 (n : Nat) : Int := [0,1,2,2,3,3,3,3,4,4,4,4,4].getD n 0
end Go.Ld
namespace Go.Proofs.YtmmkhmilpeodnaaGreat
open Go Go.Ab Go.Ld
attribute [local irreducible] VC AW bX aR yT zM9
set_option maxHeartbeats 4000000
theorem yA9 : yT Tryz.prog 193 .u64 := by unfold yT;kernel_rfl
theorem yD2 : yT Tryz.prog 5 .u8 := by unfold yT;kernel_rfl
theorem yB0 : zM9 Tryz.prog 9 := by unfold zM9;kernel_rfl
theorem zH8 (n : Nat) (h : n ≤ 12) : aR Tryz.prog 157 [.v (.int .u64 n)] [] (.i (zH7 n)) [] := by
  rcases (by omega : n = 0 ∨ n = 1 ∨ n = 2 ∨ n = 3 ∨ n = 4 ∨ n = 5 ∨ n = 6 ∨ n = 7 ∨ n = 8 ∨ n = 9 ∨ n = 10 ∨ n = 11 ∨ n = 12) with rfl | rfl | rfl | rfl | rfl | rfl | rfl | rfl | rfl | rfl | rfl | rfl | rfl
  all_goals
    refine bO T Tryz.func157 rfl rfl rfl rfl ?_
    (repeat' (first|refine wS ?_|refine wK ?_|refine wR ?_|refine wU ?_|(refine rg 0 (aV ?_))|(refine rg 1 (mW rfl (vV (jX rfl rfl) ?_)))|(refine rg 4 (mW rfl (vV (jX rfl rfl) ?_)))|(refine rg 7 (mW rfl (vV (jX rfl rfl) ?_)))|(refine rg 10 (dK rfl (vV (iM yA9 yD2 rfl rfl) (vV (by exact TA yB0 rfl rfl (by decide) rfl) ?_)));refine vV (iM yD2 yR rfl rfl) (vV (YK rfl rfl) (aV ?_)))|refine nZ ?_));all_goals first | (exfalso;omega) | exact rQ
theorem zR5 (n : Nat) (h : n ≤ 12) : aR Tryz.prog 116 [.v (.int .u64 n)] [] (.i (zH7 n)) [] := by
  have hc := zH8 n h;refine bO T Tryz.func116 rfl rfl rfl rfl ?_
  (repeat' (first|refine wS ?_|refine wK ?_|refine wR ?_|refine wU ?_|(refine rg 0 (aV ?_))|(refine rg 2 (mW rfl (vV (kC (hc)) (aV ?_))))|refine nZ ?_));all_goals first | (exfalso;omega) | exact rQ
theorem zX0 (l : List G) (hdl : U6 l) (hl : l.length ≤ 12) (hw : ∀ g,g ∈ l → zV1 g) (lim : Int) : aR Tryz.prog 144 [.sl 0 0 l.length 2,.i 0,.i l.length,.i lim,MW] [.arr (jW l) 2] (.tup []) [.arr (jW (dY cG l)) 2] := by
  have hc := SQ l 0 l.length (bU _) (aY _) hdl (by omega) hw
  rw [show T8 l 0 l.length = dY cG l by unfold T8;simp] at hc
  refine bO T Tryz.func144 rfl rfl rfl rfl ?_
  (repeat' (first|refine wS ?_|refine wB ?_|(refine rg 0 (aV ?_))|(refine rg 1 (aV ?_))|refine nZ ?_));refine cN (X := Unit) (fun _ => [(0,.sl 0 0 l.length 2),(1,.i 0),(2,.i l.length),(3,.i lim),(4,MW)]) (fun _ => [.arr (jW l) 2]) (fun _ => 0) () ⟨[0],rfl,by (repeat (first | exact trivial | refine ⟨rfl,?_⟩)),⟨.inr (aD rfl rfl (eG _)),trivial⟩,by decide,mA⟩ ?_
  intro _;dsimp only
  (repeat' (first|refine wS ?_|refine wB ?_|refine wR ?_|(refine wC rfl ?_ ?_<;>(intro hb;(try simp only [nm] at hb);try (exfalso;omega)))|(refine rg 2 (dK rfl (vV (cP rfl rfl (by omega) (by omega)) (aV ?_))))|(refine rg 3 (mW rfl (vV (iO rfl rfl) ?_)))|(refine rg 4 (dK rfl (dK rfl (fF [0] rfl rfl (hc) rfl rfl (by decide) ⟨.inr (aD rfl rfl (eG _)),trivial⟩ (by simp) rfl ?_))))|refine nZ ?_));all_goals first | (exfalso;omega) | exact ⟨.inl rfl,[0],_,rfl,rfl,rfl,⟨.inr (aD rfl (bY _ (eG _)) (eG _)),trivial⟩,by decide,mA⟩
theorem zF1 (l : List G) (hdl : U6 l) (hl : l.length ≤ 12) (hw : ∀ g,g ∈ l → zV1 g) : aR Tryz.prog 108 [.sl 0 0 l.length 2,MW] [.arr (jW l) 2] (.tup []) [.arr (jW (dY cG l)) 2] := by
  have h1 := zR5 l.length hl;have h2 := zX0 l hdl hl hw (zH7 l.length);have hw1 : IntKind.u64.wrap (l.length : Int) = (l.length : Int) := W9 (by omega) (by omega)
  generalize zH7 l.length = q at *;refine bO T Tryz.func108 rfl rfl rfl rfl ?_
  (repeat' (first|refine wS ?_|(refine rg 0 (mW rfl (qW T rfl (aV ?_))))|(refine rg 1 (dK rfl (mW rfl (vV (iM yR rD rfl hw1) (vV (by exact eQ rfl rfl h1 rfl rfl rfl) ?_))));refine mW rfl (fF [0] rfl rfl (h2) rfl rfl (by decide) ⟨.inr (aD rfl rfl (eG _)),trivial⟩ (by simp) rfl ?_))|refine nZ ?_));all_goals first | (exfalso;omega) | exact ⟨.inl rfl,[0],_,rfl,rfl,rfl,⟨.inr (aD rfl (bY _ (eG _)) (eG _)),trivial⟩,by decide,mA⟩ | exact ⟨.inr rfl,[0],_,rfl,rfl,rfl,⟨.inr (aD rfl (bY _ (eG _)) (eG _)),trivial⟩,by decide,mA⟩
end Go.Proofs.YtmmkhmilpeodnaaGreat
namespace Go.Ld
open Go.Ab Go.Proofs.YtmmkhmilpeodnaaGreat
def vQ (g : G) : List G := lN g.1.length g
theorem MB {g : G} {k : Nat} (h : iD g = some k) : vQ g = nE g k :: vQ (jN g k) := by
  obtain ⟨h1,_,h3,_⟩ := kB h;have e : (jN g k).1.length = g.1.length - 1 := by show (g.1.eraseIdx k).length = _;rw [fS,if_pos h3]
  unfold vQ;rw [e];obtain ⟨m,hm⟩ : ∃ m,g.1.length = m + 1 := ⟨g.1.length - 1,by omega⟩
  rw [hm,UA,lN,h]
theorem Z8 {g : G} (h : iD g = none) : vQ g = [g] := by
  unfold vQ;cases hl : g.1.length with
  | zero => rfl
  | succ m => rw [lN,h]
theorem KH (g : G) (k : Nat) : iD (nE g k) = none := by unfold iD;rw [if_pos (.inl (by show 1 < 2;omega))]
theorem RY (g : G) (k : Nat) : vQ (nE g k) = [nE g k] := Z8 (KH g k)
structure nP (n : Nat) (o : List G) : Prop where
  ok : ∀ g,g ∈ o → yW n g
  nd : (o.flatMap (·.1)).Nodup
  ln : (o.flatMap (·.1)).length ≤ 12
  ws : ∀ g,g ∈ o → g.2.length ≤ 2000
theorem oU {o : List G} {g : G} {b : Int} (h : g ∈ o) (hb : b ∈ g.1) : b ∈ o.flatMap (·.1) := fN.2 ⟨g,h,hb⟩
theorem V4 : ∀ {o : List G}, (o.flatMap (·.1)).Nodup → ∀ {a b : G} {x : Int}, a ∈ o → b ∈ o → x ∈ a.1 → x ∈ b.1 → a = b
  | [],_,a,b,x,ha,_,_,_ => by cases ha
  | g :: o,h,a,b,x,ha,hb,hxa,hxb => by
    rw [bF] at h;obtain ⟨h1,h2,h3⟩ := cO.1 h;rcases bR.1 ha with e1 | ha' <;> rcases bR.1 hb with e2 | hb'
    · rw [e1,e2]
    · exact absurd rfl (h3 x (e1 ▸ hxa) x (oU hb' hxb))
    · exact absurd rfl (h3 x (e2 ▸ hxb) x (oU ha' hxa))
    · exact V4 h2 ha' hb' hxa hxb
theorem nP.dist {n : Nat} {o : List G} (h : nP n o) : U6 o := by
  intro a b ha hb e;have e' : a.1.headD 0 = b.1.headD 0 := (qA.eq _ _).1 e;have hm : ∀ g : G,g.1 ≠ [] → g.1.headD 0 ∈ g.1 := fun g hg => by
    cases hq : g.1 with
    | nil => exact absurd hq hg
    | cons x l => simp
  exact V4 h.nd ha hb (hm a (h.ok a ha).ne) (e' ▸ hm b (h.ok b hb).ne)
theorem nP.len {n : Nat} {o : List G} (h : nP n o) : o.length ≤ (o.flatMap (·.1)).length := by
  have : ∀ o : List G,(∀ g,g ∈ o → g.1 ≠ []) → o.length ≤ (o.flatMap (·.1)).length := by
    intro o
    induction o with
    | nil => intro _;simp
    | cons g o ih =>
      intro hg;rw [bF,aF,List.length_cons];have := ih fun g h => hg g (aK _ h);have : 0 < g.1.length := dZ.2 (hg g aS);omega
  exact this o fun g hg => (h.ok g hg).ne
theorem nP.hd {n : Nat} {o : List G} (h : nP n o) : ∀ g,g ∈ o → zV1 g := fun g hg => ⟨dZ.2 (h.ok g hg).ne,by have := (h.ok g hg).ln;omega⟩
theorem nP.perm {n : Nat} {o p : List G} (h : nP n o) (hp : p.Perm o) : nP n p where
  ok g hg := h.ok g (hp.mem_iff.1 hg)
  nd := (hp.flatMap_right _).nodup_iff.2 h.nd
  ln := by rw [(hp.flatMap_right _).length_eq];exact h.ln
  ws g hg := h.ws g (hp.mem_iff.1 hg)
theorem yW.sz {n : Nat} {g : G} (h : yW n g) (hw : g.2.length ≤ 2000) : zV0 g := ⟨by have := h.ln;omega,by omega,fun w hw => (h.ws w hw).pl,fun w hw => (h.ws w hw).cl⟩
theorem pH {α : Type} {o : List α} {i : Nat} {x y : α} (h : o[i]? = some x) : ∃ A B,o = A ++ x :: B ∧ o.set i y = A ++ y :: B := by
  obtain ⟨hi,e⟩ := aB.1 h;refine ⟨o.take i,o.drop (i + 1),?_,?_⟩
  · rw [← e,← aX hi,bL]
  · rw [List.set_eq_take_append_cons_drop,if_pos hi]
def DL (o : List G) (i k : Nat) (g : G) : List G := dY cG (o.set i (jN g k) ++ [nE g k])
theorem IY {o : List G} {i k : Nat} {g : G} (h : o[i]? = some g) (hk : k < g.1.length) : ((o.set i (jN g k) ++ [nE g k]).flatMap (·.1)).Perm (o.flatMap (·.1)) := by
  obtain ⟨A,B,e1,e2⟩ := pH (y := jN g k) h;rw [e2,e1];simp only [fI,bF,BU,List.append_nil,bP];refine List.Perm.append_left _ ?_;have h1 : (g.1.getD k 0 :: g.1.eraseIdx k).Perm g.1 := jZ g.1 k 0 hk;have h2 : ((jN g k).1 ++ (B.flatMap (·.1) ++ (nE g k).1)).Perm ((nE g k).1 ++ ((jN g k).1 ++ B.flatMap (·.1))) := by
    rw [← bP];exact yI
  refine h2.trans ?_;rw [← bP];exact List.Perm.append_right _ h1
theorem OS {n : Nat} {o : List G} {i k : Nat} {g : G} (ok : nP n o) (h : o[i]? = some g) (hc : iD g = some k) : nP n (o.set i (jN g k) ++ [nE g k]) := by
  have hg := aQ h;have hk := (kB hc).2.2.1;have hb := IY h hk;have hm : ∀ x,x ∈ o.set i (jN g k) ++ [nE g k] → x ∈ o ∨ x = jN g k ∨ x = nE g k := fun x hx => by
    rcases bI.1 hx with hx | hx
    · rcases fO hx with hx | hx
      · exact .inl hx
      · exact .inr (.inl hx)
    · exact .inr (.inr (bK.1 hx))
  refine ⟨fun x hx => ?_,hb.nodup_iff.2 ok.nd,by rw [hb.length_eq];exact ok.ln,fun x hx => ?_⟩
  · rcases hm x hx with hx | rfl | rfl
    · exact ok.ok x hx
    · exact (ok.ok g hg).rest hc
    · exact (ok.ok g hg).one hc
  · rcases hm x hx with hx | rfl | rfl
    · exact ok.ws x hx
    · have := rG (g.2.map fun w => (w.1.eraseIdx k,w.2.1,w.2.2.eraseIdx k));rw [bB] at this;exact bA this (ok.ws g hg)
    · show 1 ≤ 2000;omega
theorem SF {o : List G} {i k : Nat} {g : G} (h : o[i]? = some g) (hc : iD g = some k) : ((o.set i (jN g k) ++ [nE g k]).flatMap vQ).Perm (o.flatMap vQ) := by
  obtain ⟨A,B,e1,e2⟩ := pH (y := jN g k) h;rw [e2,e1];simp only [fI,bF,BU,List.append_nil,bP,MB hc,RY];refine List.Perm.append_left _ ?_;rw [← bP];exact yI
def zN5 (o : List G) : Nat := (o.map fun g => g.1.length - 1).sum
theorem UL {o p : List G} (h : p.Perm o) : zN5 p = zN5 o := (h.map _).sum_nat
theorem XG {o : List G} {i k : Nat} {g : G} (h : o[i]? = some g) (hc : iD g = some k) : zN5 (o.set i (jN g k) ++ [nE g k]) + 1 = zN5 o := by
  obtain ⟨A,B,e1,e2⟩ := pH (y := jN g k) h;obtain ⟨h1,_,h3,_⟩ := kB hc;have e : (jN g k).1.length = g.1.length - 1 := by show (g.1.eraseIdx k).length = _;rw [fS,if_pos h3]
  rw [e2,e1];unfold zN5;simp only [dB,List.map_cons,List.map_nil,zU9,yC9,List.sum_nil,e];have : (nE g k).1.length = 1 := rfl;omega
structure oY (n : Nat) (L o : List G) (i : Nat) : Prop where
  ok : nP n o
  up : KX o
  fl : (o.flatMap vQ).Perm (L.flatMap vQ)
  hi : i ≤ o.length
  no : ∀ (j : Nat) (g : G),j < i → o[j]? = some g → iD g = none
theorem oY.start {n : Nat} {L : List G} (ok : nP n L) (up : KX L) : oY n L L 0 := ⟨ok,up,.refl _,bU _,fun j g h => absurd h (dH _)⟩
theorem oY.keep {n : Nat} {L o : List G} {i : Nat} {g : G} (p : oY n L o i) (h : o[i]? = some g) (hc : iD g = none) : oY n L o (i + 1) where
  ok := p.ok
  up := p.up
  fl := p.fl
  hi := (aB.1 h).1
  no j x hj hx := by
    rcases hC j i with h' | h'
    · exact p.no j x h' hx
    · obtain rfl : j = i := by omega
      rw [h] at hx;cases hx;exact hc
theorem oY.next {n : Nat} {L o : List G} {i k : Nat} {g : G} (p : oY n L o i) (h : o[i]? = some g) (hc : iD g = some k) : oY n L (DL o i k g) 0 where
  ok := (OS p.ok h hc).perm (dD _ _)
  up := sJ _
  fl := ((dD cG _).flatMap_right _).trans ((SF h hc).trans p.fl)
  hi := bU _
  no j g h := absurd h (dH _)
theorem oY.fin {n : Nat} {L o : List G} {i : Nat} (p : oY n L o i) (hi : o.length ≤ i) : qM L = o := by
  have e : o.flatMap vQ = o := by
    have : ∀ g,g ∈ o → vQ g = [g] := fun g hg => by
      obtain ⟨j,hj,e⟩ := rO.1 hg;exact Z8 (p.no j g (by omega) (by rw [aA hj,e]))
    clear p hi
    induction o with
    | nil => rfl
    | cons g o ih => rw [bF,this g aS,ih fun g h => this g (aK _ h)];rfl
  have hp := p.fl;rw [e] at hp;show dY cG (L.flatMap vQ) = o;exact HX (p.ok.dist.perm hp.symm) hp p.up
theorem VE {l : List G} {k : Nat} (h : k < l.length) : jT (l.take (k + 1)) = jT (l.take k) + fX l[k] := by
  unfold jT;rw [aT h,dB,zU9];simp
theorem EV : ∀ {l : List G}, (∀ g, g ∈ l → 0 ≤ fX g ∧ fX g ≤ 4000000) → 0 ≤ jT l ∧ jT l ≤ 4000000 * l.length
  | [],_ => by simp [jT]
  | g :: l,h => by
    have h1 := h g aS;have h2 := EV (l := l) fun g hg => h g (aK _ hg);have e : jT (g :: l) = fX g + jT l := by simp [jT]
    rw [e,List.length_cons];omega
abbrev gN (c : Cx) (gs : List G) : List AV := [.i c.m,.i c.st,.i c.er,.i c.sl,.rowE (gB c.ks) 2,.rowE (jU c.ls) 3,.rowE (cW c.bs) 3,.rowE (jW gs) 2]
theorem SN (c : Cx) (r : Int) (l : List W) : fT (fun w => decide (w.2.1 + r > c.m)) l = l.filter fun w => decide (w.2.1 + r ≤ c.m) := by
  unfold fT;congr 1;funext w;show (!decide (w.2.1 + r > c.m)) = decide (w.2.1 + r ≤ c.m);by_cases h : w.2.1 + r ≤ c.m
  · rw [decide_eq_true h,decide_eq_false (by omega)];rfl
  · rw [decide_eq_false h,decide_eq_true (by omega)];rfl
theorem SA {c : Cx} {all : List G} {k : Nat} (h : k < all.length) : (paid c all).take (k + 1) = (paid c all).take k ++ [(all[k].1,fT (fun w => decide (w.2.1 + (jT all - fX all[k]) > c.m)) all[k].2)] := by
  rw [SN];unfold paid;rw [← lH,← lH,aT h,dB];rfl
theorem WW (c : Cx) (all : List G) : (paid c all).length = all.length := by unfold paid;rw [bB]
theorem O2 (c : Cx) (all : List G) : (paid c all).flatMap (·.1) = all.flatMap (·.1) := by
  unfold paid;rw [BV]
theorem yW.sub {n : Nat} {g : G} (h : yW n g) {ws : List W} (hs : ∀ w,w ∈ ws → w ∈ g.2) : yW n (g.1,ws) := ⟨h.ne,h.up,h.rg,h.ln,fun w hw => h.ws w (hs w hw),fun w v hw hv => h.same w v (hs w hw) (hs v hv)⟩
theorem nP.paid {n : Nat} {all : List G} (h : nP n all) (c : Cx) : nP n (paid c all) where
  ok g hg := by
    obtain ⟨x,hx,rfl⟩ := bE.1 hg;exact (h.ok x hx).sub fun w hw => (kA.1 hw).1
  nd := by rw [O2];exact h.nd
  ln := by rw [O2];exact h.ln
  ws g hg := by
    obtain ⟨x,hx,rfl⟩ := bE.1 hg;exact bA (qK _ _) (h.ws x hx)
theorem NT {c : Cx} {all : List G} (h : KX all) : KX (paid c all) := by
  unfold paid;refine zC1.2 (h.imp fun h => h)
theorem DS {n : Nat} {g : G} (h : yW n g) (hne : g.2 ≠ []) : 0 ≤ fX g ∧ fX g ≤ 4000000 := by
  obtain ⟨w,hw,e⟩ := sN hne;have := h.ws w hw;rw [← e];exact ⟨this.m0,this.m1⟩
end Go.Ld
namespace Go.Proofs.YtmmkhmilpeodnaaGreat
open Go Go.Ab Go.Ld
attribute [local irreducible] VC AW bX aR
set_option maxHeartbeats 4000000
theorem zE4 (c : Cx) (gs : List G) (w : W) (r : Int) (h1 : 0 ≤ w.2.1 ∧ w.2.1 ≤ 4000000) (h2 : -100000000 ≤ r ∧ r ≤ 100000000) : aR Tryz.prog 105 [LJ w,.pr [.i r] 0,.pr [.pr (gN c gs) 0] 0] [] (.b (decide (w.2.1 + r > c.m))) [] := by
  refine bO T Tryz.func105 rfl rfl rfl rfl ?_
  (repeat' (first|refine wS ?_|refine wR ?_|(refine rg 0 (bQ (cD rfl rfl) rfl (aV ?_)))|(refine bN (id := 1) 15 [[],[0],[],[0,1,2],[],[4],[4,5],[4,5,6],rM 4 4,rN 9] (rM 5 10) [[],[],[5,6],[],rM 5 4,rM 5 4,rM 5 4,rM 5 4,rM 5 4,[]] cJ rfl (by decide +kernel) (dP T rfl (dO T rfl (dO T rfl (dV rfl (bV rfl rfl (by omega) (by omega)) (dO T rfl (dV rfl (by exact eS rfl rfl) ?_))))));refine dP T rfl (dP T rfl (dO T rfl (dV rfl (fM rfl rfl) (dE ?_))));refine aV ?_)|refine nZ ?_));all_goals first | (exfalso;omega) | exact rQ
end Go.Proofs.YtmmkhmilpeodnaaGreat
namespace Go.Ab
open Go
theorem NM {P : Program} {f : FuncId} {n : Nat} (hfn : ∃ fn, P.funcs[f]? = some fn ∧ (fn.name == "runtime.NumGoroutine") = false ∧ fn.body.isNone = false)
    (hs : ∀ w : World,Calls P f #[.slice none 0 0,.int .i64 n] w fun e w' => ∃ (g : Nat) (cs : Array Value) (t : TypeId),e = .returned (.slice (some ⟨w.heap.size,0,none⟩) 0 g) ∧ g ≤ maxLen ∧ g ≤ cs.size ∧ w' = w.drew.alloc (.cells cs t)) :
    aR P f [.nils,.i n] [] (.sl 0 0 0 1) [.arr [] 1] := by
  refine ⟨hfn,fun ρ S w vs s ha => ?_⟩
  simp only [RL,R] at ha;obtain ⟨y,_,rfl,rfl,y2,_,rfl,rfl,rfl⟩ := ha;refine (hs w).mono fun e w' ⟨g,cs,t,he,hg,hgc,hw⟩ => ?_
  subst hw;have hnew : (w.drew.alloc (.cells cs t)).heap[w.heap.size]? = some (.cells cs t (0,0)) := (MapKept.heap_alloc w.drew _).1;obtain ⟨ρ', g1, g2, _⟩ := s.made (x := .sl 0 0 0 1) (b := .arr [] 1) (y := .slice (some ⟨w.heap.size, 0, none⟩) 0 g) (q := some (w.heap.size, 0)) ((mK.drew1 w).trans (pK w.drew (.cells cs t) (fun _ => False)) (fun _ h => h.elim)) (fun p hp => by cases hp; exact ⟨aY _, by rw [World.size_alloc]; exact Nat.lt_succ_self _⟩)
    (fun ρ' e1 e2 l' => ⟨by simp only [R];exact ⟨_,_,rfl,hg,.inr ⟨_,_,e1,rfl,bU _,⟨cs,t,(0,0),hnew,by omega⟩⟩⟩,⟨(fun e he => nomatch he),T0,.inl ⟨rfl,fun b o hbo => by cases hbo;exact ⟨cs,t,hnew⟩⟩⟩⟩)
  exact ⟨_,ρ',S,he,g1,g2⟩
end Go.Ab
namespace Go.Proofs.YtmmkhmilpeodnaaGreat
open Go Go.Ab Go.Ld Go.Shelf Go.Proofs
attribute [local irreducible] VC AW bX aR
set_option maxHeartbeats 4000000
shelf_lay_g Lays8.n4 Nm8 4 at Tryz 126 as laysGrow
theorem zS7 (n : Nat) (h0 : 0 < n) (h1 : n ≤ 1000000) : aR Tryz.prog 126 [.nils,.i n] [] (.sl 0 0 0 1) [.arr [] 1] := by
  obtain ⟨inf,z,t1,t2,t3,t4,t5,t6,t7⟩ := T.tiOk 3 _ rfl;have hz : z.cells.size = 1 := by have := congrArg List.length t5;simpa using this
  refine NM ⟨_,Tryz.func126,by kernel_rfl,by kernel_rfl⟩ (fun w => ?_)
  refine (Any8.slices_Grow_grow laysGrow inf z t1 t4 (by rw [t2];decide) none 0 0 n [] w (aY _) (by omega) (by rw [t3];simp;omega) (by omega) (by simp) (fun _ => rfl) (fun a h => by cases h)).mono ?_
  rintro e w' ⟨rfl,rfl⟩;have hge := grownCap_ge w (0 + n) 0 3;refine ⟨_,_,_,rfl,grownCap_le_maxLen w _ _ _ (by unfold maxLen;omega),?_,rfl⟩
  simp only [Array.size_append,Builtin.zeroCells,Array.size_map,Array.size_range,hz,nR,List.length_nil];omega
theorem ZA (p q : List Int) (hp : 0 < p.length ∧ p.length ≤ 1000) (hq : 0 < q.length ∧ q.length ≤ 1000) : aR Tryz.prog 86 [.rowE [[.rowE (ints p) 1],[.rowE (ints q) 1]] 1] [] (.rowE (ints (p ++ q)) 1) [] := by
  have hgr := zS7 (p.length + q.length) (by omega) (by omega)
  rw [show ((p.length + q.length : Nat) : Int) = (p.length : Int) + q.length by omega] at hgr
  have hlp : (ints p).length = p.length := dC _;have hlq : (ints q).length = q.length := dC _;have hpq : ints (p ++ q) = ints p ++ ints q := dB;have hle : ∀ e,e ∈ [[AV.rowE (ints p) 1],[AV.rowE (ints q) 1]] → e.length = 1 := by intro e he;simp at he;rcases he with rfl | rfl <;> rfl
  have g0 : [[AV.rowE (ints p) 1],[AV.rowE (ints q) 1]][((0 : Nat) : Int).toNat]? = some [AV.rowE (ints p) 1] := rfl;have g1 : [[AV.rowE (ints p) 1],[AV.rowE (ints q) 1]][((1 : Nat) : Int).toNat]? = some [AV.rowE (ints q) 1] := rfl;refine mH (by rw [dC] : (p ++ q).length = (ints (p ++ q)).length) (iJ (ints_idf _)) ?_
  rw [hpq,aF];have o1 := ints_one p;have o2 := ints_one q;have n1 := ints_len p;have n2 := ints_len q;have i1 := ints_idf p;have i2 := ints_idf q;generalize ints p = P' at *;generalize ints q = Q' at *;obtain ⟨sz,s0,s1,s2⟩ : ∃ sz : Nat → Int,sz 0 = 0 ∧ sz 1 = P'.length ∧ sz 2 = P'.length + Q'.length := ⟨fun k => if k = 0 then 0 else if k = 1 then (P'.length : Int) else P'.length + Q'.length,by simp,by simp,by simp⟩
  obtain ⟨cc,c0,c1,c2⟩ : ∃ cc : Nat → List (List AV),cc 0 = [] ∧ cc 1 = P' ∧ cc 2 = P' ++ Q' := ⟨fun k => if k = 0 then [] else if k = 1 then P' else P' ++ Q',by simp,by simp,by simp⟩
  refine bO T Tryz.func86 rfl rfl rfl rfl ?_
  (repeat' (first|refine wS ?_|refine wB ?_|(refine rg 0 (aV ?_))|(refine rg 1 (aV ?_))|(refine rg 2 (mW rfl (qW T rfl (mV ?_))))|refine nZ ?_));refine cN (X := {k : Nat // k ≤ 2}) (fun k => [(0,.rowE [[.rowE P' 1],[.rowE Q' 1]] 1),(3,.i (sz k.1)),(9,.rowE [[.rowE P' 1],[.rowE Q' 1]] 1),(10,.i 2),(11,.i k.1)]) (fun _ => []) (fun k => 2 - k.1) ⟨0,by omega⟩ ⟨[],rfl,⟨rfl,by rw [s0];rfl,rfl,rfl,rfl,trivial⟩,trivial,cQ,kV _⟩ ?_
  rintro ⟨k,hk⟩;dsimp only;rcases (by omega : k = 0 ∨ k = 1 ∨ k = 2) with rfl | rfl | rfl
  · (repeat' (first|refine wS ?_|refine wB ?_|refine wK ?_|refine rL rfl ?_|(refine wC rfl (fun hb => ?_) (fun hb => ?_) <;> (((try simp only [nm] at hb);try (exfalso;omega))))|(refine rg 3 (vV (aL rfl rfl) ?_))|(refine rg 4 (vV (ix T rfl (by omega) hle g0) (lW T rfl (aV ?_))))|(refine rg 5 (dK rfl (qW T rfl (vV (bV rfl rfl (by omega) (by omega)) (aV ?_)))))|(refine rg 6 (mW rfl (vV (aL rfl rfl) ?_)))|(refine rg 8 (vV (bV rfl rfl (by omega) (by omega)) (mV ?_)))|(refine nZ ?_)));all_goals first | (exfalso;omega) | exact ⟨⟨1,by omega⟩,by dsimp only;omega,[],rfl,⟨rfl,by dsimp only;rw [show sz 1 = sz 0 + P'.length by omega];rfl,rfl,rfl,rfl,trivial⟩,trivial,cQ,kV _⟩
  · (repeat' (first|refine wS ?_|refine wB ?_|refine wK ?_|refine rL rfl ?_|(refine wC rfl (fun hb => ?_) (fun hb => ?_) <;> (((try simp only [nm] at hb);try (exfalso;omega))))|(refine rg 3 (vV (aL rfl rfl) ?_))|(refine rg 4 (vV (ix T rfl (by omega) hle g1) (lW T rfl (aV ?_))))|(refine rg 5 (dK rfl (qW T rfl (vV (bV rfl rfl (by omega) (by omega)) (aV ?_)))))|(refine rg 6 (mW rfl (vV (aL rfl rfl) ?_)))|(refine rg 8 (vV (bV rfl rfl (by omega) (by omega)) (mV ?_)))|(refine nZ ?_)));all_goals first | (exfalso;omega) | exact ⟨⟨2,by omega⟩,by dsimp only;omega,[],rfl,⟨rfl,by dsimp only;rw [show sz 2 = sz 1 + Q'.length by omega];rfl,rfl,rfl,rfl,trivial⟩,trivial,cQ,kV _⟩
  · rw [← hlp,← hlq,← s2] at hgr
    (repeat' (first|refine wS ?_|refine wB ?_|refine wE ?_|refine wU ?_|(refine rg 3 (vV (aL rfl rfl) ?_))|(refine rg 9 (mW rfl (bQ (by exact fL rfl rfl hgr (.inr ⟨rfl,rfl,by simp⟩)) rfl ?_));refine aV ?_)|(refine rg 10 (mW rfl (qW T rfl (mV ?_))))|refine nZ ?_));all_goals try (exfalso;omega)
    refine cN (X := {k : Nat // k ≤ 2}) (fun k => [(6,.sl 0 0 (cc k.1).length 1),(25,.rowE [[.rowE P' 1],[.rowE Q' 1]] 1),(26,.i 2),(27,.i k.1)]) (fun k => [.arr (cc k.1) 1]) (fun k => 2 - k.1) ⟨0,by omega⟩ ⟨[0],rfl,⟨by dsimp only;rw [c0];rfl,rfl,rfl,rfl,trivial⟩,⟨.inr (aD rfl (by dsimp only;rw [c0];rfl) (by rw [c0];intro e he;cases he)),trivial⟩,by decide,kV _⟩ ?_
    clear hk;rintro ⟨k,hk⟩;dsimp only;rcases (by omega : k = 0 ∨ k = 1 ∨ k = 2) with rfl | rfl | rfl
    · rw [c0]
      (repeat' (first|refine wS ?_|refine wB ?_|refine wK ?_|refine wT ?_|(refine rg 11 (vV (aL rfl rfl) ?_))|(refine rg 12 (vV (ix T rfl (by omega) hle g0) (lW T rfl (aV ?_))))|(refine rg 13 (dK rfl (fR T rfl rfl rfl rfl rfl rfl (by simp) (.row n1) o1 (by simp;omega) (by simp;omega) rfl ?_));refine aV ?_)|(refine rg 14 (vV (bV rfl rfl (by omega) (by omega)) (mV ?_)))|refine nZ ?_));all_goals first | (exfalso;omega) | skip
      exact ⟨⟨1,by omega⟩,by dsimp only;omega,⟨[1],rfl,⟨by dsimp only;rw [c1];show some (AV.sl 1 0 (0 + P'.length) 1) = some (AV.sl 1 0 P'.length 1);rw [Nat.zero_add],rfl,rfl,rfl,trivial⟩,⟨.inr (aD rfl (by dsimp only;rw [c1];rfl) (by rw [c1];exact i1)),trivial⟩,by decide,kV _⟩⟩
    · rw [c1]
      (repeat' (first|refine wS ?_|refine wB ?_|refine wK ?_|refine wT ?_|(refine rg 11 (vV (aL rfl rfl) ?_))|(refine rg 12 (vV (ix T rfl (by omega) hle g1) (lW T rfl (aV ?_))))|(refine rg 13 (dK rfl (fR T rfl rfl rfl rfl rfl rfl (by omega) (.row n2) o2 (by (simp;omega)) (by omega) rfl ?_));refine aV ?_)|(refine rg 14 (vV (bV rfl rfl (by omega) (by omega)) (mV ?_)))|refine nZ ?_));all_goals first | (exfalso;omega) | skip
      exact ⟨⟨2,by omega⟩,by dsimp only;omega,⟨[1],rfl,⟨by dsimp only;rw [c2,aF];rfl,rfl,rfl,rfl,trivial⟩,⟨.inr (aD rfl (by dsimp only;rw [c2,lT,dS]) (by rw [c2];intro e he;rcases bI.1 he with he | he;exact i1 e he;exact i2 e he)),trivial⟩,by decide,kV _⟩⟩
    · rw [c2,aF]
      (repeat' (first|refine wS ?_|refine wR ?_|refine wE ?_|refine wU ?_|(refine rg 11 (vV (aL rfl rfl) ?_))|(refine rg 15 (mW rfl (aV ?_)))|refine nZ ?_));all_goals first | (exfalso;omega) | exact ⟨.inl rfl,[0],_,rfl,by rw [hlp,hlq];rfl,rfl,⟨.inr (aD rfl rfl (by intro e he;rcases bI.1 he with he | he;exact i1 e he;exact i2 e he)),trivial⟩,by decide,kV _⟩
theorem KG (l : List G) (hl : l.length ≤ 1000000) : aR Tryz.prog 43 [.rowE (jW l) 2] [] (.sl 0 0 l.length 2) [.arr (jW l) 2] := by
  have hll : (jW l).length = l.length := jV l;refine bO T Tryz.func43 rfl rfl rfl rfl ?_
  repeat' (first|refine wS ?_|refine wK ?_|refine wT ?_|refine wU ?_|(refine rg 0 (aV ?_))|(refine rg 1 (mV ?_);refine rC T rfl rfl rfl rfl fun b hb=>?_;cases b)|refine nZ ?_)
  · (repeat' (first|refine wR ?_|(refine rg 3 (bQ (by exact bC T rfl rfl (by decide) (by decide) rfl rfl rfl) rfl ?_);refine mW rfl (fR T rfl rfl rfl rfl rfl rfl (by decide) (.row (pT l)) (YH l) (by simp;omega) (by simp;omega) rfl ?_);refine aV ?_)|(refine nZ ?_)));exact ⟨.inl rfl,[1],_,rfl,(by show AV.sl 1 0 (0 + (jW l).length) 2 = AV.sl 1 0 l.length 2;simp),rfl,⟨.inr (aD rfl rfl (eG _)),trivial⟩,by decide,wX⟩
  · have hl0 : l = [] := eT.1 (Classical.byContradiction fun h => by have := hb (by omega);cases this)
    subst hl0
    (repeat' (first|refine wR ?_|(refine rg 2 (vV (eI rfl) (rP 2 2 rfl (by decide) ?_)))|refine nZ ?_));exact ⟨.inl rfl,[0],_,rfl,rfl,rfl,⟨.inr (aD rfl rfl (eG _)),trivial⟩,by decide,wX⟩
theorem zK5 (g : G) (b : Int) (h : g.1.length ≤ 1000000) : aR Tryz.prog 90 [UI g,.pr [.i b] 0] [] (.b (decide (b ∈ g.1))) [] := by
  have hc := G7 g.1 b (by omega)
  refine bO T Tryz.func90 rfl rfl rfl rfl ?_
  (repeat' (first|refine wS ?_|refine wR ?_|(refine rg 0 (bQ (cD rfl rfl) rfl (aV ?_)))|(refine rg 1 (gH T rfl (lW T rfl (vV (kC (hc)) (aV ?_)))))|refine nZ ?_));all_goals first | (exfalso;omega) | exact rQ
theorem zQ (l : List G) (b : Int) (hl : l.length ≤ 1000000) (hg : ∀ g,g ∈ l → g.1.length ≤ 1000000) : aR Tryz.prog 45 [.rowE (jW l) 2,.i b] [] (.i (pZ l b)) [] := by
  have hc := zO0 (caps := [.pr [.i b] 0]) (p := fun g => decide (b ∈ g.1)) hl rfl (fun x hx => zK5 x b (hg x hx));have e : tE (fun g : G => decide (b ∈ g.1)) l 0 = pZ l b := by
    rw [DX];unfold pZ;cases l.findIdx? fun g => decide (b ∈ g.1) with
    | none => rfl
    | some i => simp
  rw [e] at hc;generalize pZ l b = v at *;refine bO T Tryz.func45 rfl rfl rfl rfl ?_
  (repeat' (first|refine wS ?_|refine wR ?_|(refine rg 0 (bQ (cD rfl rfl) rfl (aV ?_)))|(refine rg 1 (mW rfl (vV (by exact jK rfl rfl) ?_));refine vV (by exact fB rfl rfl hc (.cons (.row _ _ _) (.cons (.clo .nil (.cons (.ptr rfl (.cons (.v _) .nil)) .nil)) .nil)) rfl rfl) ?_;refine aV ?_)|refine nZ ?_));all_goals first | (exfalso;omega) | exact rQ
end Go.Proofs.YtmmkhmilpeodnaaGreat
namespace Go.Ld
open Go.Ab Go.Proofs.YtmmkhmilpeodnaaGreat
theorem JW {α β : Type} {f : α → List β} {n : Nat} : ∀ (l : List α) (hf : ∀ x, x ∈ l → (f x).length = n) (i j : Nat) (hi : i < l.length) (hj : j < n), (l.flatMap f)[n * i + j]? = (f l[i])[j]?
  | [],hf,i,j,hi,hj => by simp at hi
  | x :: l,hf,0,j,hi,hj => by
    rw [bF,Nat.mul_zero,Nat.zero_add,aH (by rw [hf x aS];exact hj)];rfl
  | x :: l,hf,i + 1,j,hi,hj => by
    have h1 := hf x aS;rw [bF,aE (by rw [h1,zB9];omega),h1,show n * (i + 1) + j - n = n * i + j by rw [zB9];omega]
    exact JW l (fun x hx => hf x (aK _ hx)) i j (by simpa using hi) hj
theorem JV {α β : Type} {f : α → List β} {n : Nat} : ∀ (l : List α) (hf : ∀ x, x ∈ l → (f x).length = n), (l.flatMap f).length = n * l.length
  | [],hf => by simp
  | x :: l,hf => by
    rw [bF,aF,hf x aS,JV l (fun x hx => hf x (aK _ hx)),List.length_cons,zB9];omega
theorem DH (a b : G) (l : List Int) : (pA a b l).length = b.2.length * a.2.length := JV _ fun x _ => bB _
theorem RZ {a b : G} {l : List Int} {i j : Nat} (hi : i < a.2.length) (hj : j < b.2.length) : (pA a b l)[b.2.length * i + j]? = some (E9 a b a.2[i] b.2[j] l) := by
  unfold pA;rw [JW _ (fun x _ => bB _) i j hi hj];simp [hj]
theorem C4 : ∀ (l : List Int) (v : Int) (k : Nat), v ∈ l → xC l v k = ((k + l.idxOf v : Nat) : Int)
  | [],v,k,h => by cases h
  | x :: l,v,k,h => by
    unfold xC;by_cases e : v = x
    · rw [if_pos e,e,List.idxOf_cons_self];rfl
    · have e' : (x :: l).idxOf v = l.idxOf v + 1 := by rw [List.idxOf_cons,beq_eq_false_iff_ne.2 (fun h => e h.symm)];rfl
      rw [if_neg e,show ((k : Int) + 1) = ((k + 1 : Nat) : Int) by omega,C4 l v (k + 1) (by rcases bR.1 h with h | h;exact absurd h e;exact h),e']
      omega
theorem PI : ∀ (l : List Int) (v k : Int), v ∉ l → xC l v k = -1
  | [],v,k,h => rfl
  | x :: l,v,k,h => by
    unfold xC;rw [if_neg (fun e : v = x => h (by rw [e];exact aS)),PI l v (k + 1) (fun q => h (aK _ q))]
def Z4 (a b : G) (l : List Int) (k : Nat) : List AV := match (pA a b l)[k]? with
  | some w => [.agg (wA w)]
  | none => []
theorem WM {a b : G} {l : List Int} {i j : Nat} (hi : i < a.2.length) (hj : j < b.2.length) : Z4 a b l (b.2.length * i + j) = [.agg (wA (E9 a b a.2[i] b.2[j] l))] := by
  unfold Z4;rw [RZ hi hj]
theorem HQ {α β : Type} {f : α → β} {l : List α} {m : Nat} (h : m < l.length) : (l.map f).take (m + 1) = (l.map f).take m ++ [f l[m]] := by
  rw [aT (by simpa using h)];simp
end Go.Ld
namespace Go.Proofs.YtmmkhmilpeodnaaGreat
open Go Go.Ab Go.Ld
attribute [local irreducible] VC AW bX aR AY VY F6 kY
set_option maxHeartbeats 4000000
abbrev zQ6 (a b : G) (l : List Int) : AV := .clo (.func 127) [] [.pr (gA a) 0,.pr (gA b) 0,.pr [.rowE (ints l) 1] 0]
theorem zG5 (a b : G) (l : List Int) : aR Tryz.prog 87 [UI a,UI b,.rowE (ints l) 1] [] (zQ6 a b l) [] := by
  refine H4 (res := .clo (.func 127) [] [.ptr 0 0,.ptr 1 0,.ptr 2 0]) (hout := [.cells (gA a),.cells (gA b),.cells [.rowE (ints l) 1]]) ?_ (.clo .nil (.cons (.ptr rfl (.cons (.row _ _ _) (.cons (.row _ _ _) .nil))) (.cons (.ptr rfl (.cons (.row _ _ _) (.cons (.row _ _ _) .nil))) (.cons (.ptr rfl (.cons (.row _ _ _) .nil)) .nil))));refine bO T Tryz.func87 rfl rfl rfl rfl ?_
  (repeat' (first|refine wS ?_|refine wR ?_|(refine rg 0 (bQ (cD rfl rfl) rfl (bQ (cD rfl rfl) rfl (bQ (cD rfl rfl) rfl (aV ?_)))))|(refine rg 1 (vV (by exact jK rfl rfl) ?_);refine aV ?_)|refine nZ ?_));all_goals exact ⟨.inl rfl,[0,1,2],_,rfl,rfl,rfl,⟨.inr rfl,.inr rfl,.inr rfl,trivial⟩,by decide,kV _⟩
theorem WU (a b : G) (l : List Int) (sa : zV0 a) (sb : zV0 b) (hl : l.length ≤ 1000) (hm : ∀ k,k ∈ l → k ∈ a.1 ∨ k ∈ b.1) (h1 : ∀ w,w ∈ a.2 → 0 ≤ w.2.1 ∧ w.2.1 ≤ 4000000) (h2 : ∀ w,w ∈ b.2 → 0 ≤ w.2.1 ∧ w.2.1 ≤ 4000000) :
    F6 Tryz.prog 127 [] [.pr (gA a) 0,.pr (gA b) 0,.pr [.rowE (ints l) 1] 0] [] (Z4 a b l) (pA a b l).length := by
  have hnn := DH a b l;have hla : (fQ a.2).length = a.2.length := eV _;have hlb : (fQ b.2).length = b.2.length := eV _;have hll : (ints l).length = l.length := dC _;have hwa := sa.w;have hwb := sb.w;refine QD T Tryz.func127 rfl rfl rfl rfl ?_;intro J A y hJ hy
  (repeat' (first|(first|(refine qB ?_)|(refine rK ?_))|(((refine lG hJ (dA (id := 0) ?_)));(all_goals (refine TG T ?_;(refine qV T ?_);refine mV ?_)))|refine nZ ?_));refine W6 (X := {i : Nat // i ≤ a.2.length}) (fun i => [(0,.clo (.yield y) [] []),(1,.pr (gA a) 0),(2,.pr (gA b) 0),(3,.pr [.rowE (ints l) 1] 0),(15,.rowE (fQ a.2) 3),(16,.i (fQ a.2).length),(17,.i i.1)]) (fun _ => []) (fun i => (b.2.length * i.1,false)) (fun i => a.2.length - i.1) ⟨0,bU _⟩ rfl (eA []) ?_
  rintro ⟨i,hi⟩;dsimp only;by_cases hlt : i < a.2.length
  · have ga := rW hlt;have hx := sa.p _ (aI hlt);have hx2 := sa.c _ (aI hlt);have hx3 := h1 _ (aI hlt);have hpi := fun (j : Nat) (hj : j < b.2.length) => WM (a := a) (b := b) (l := l) hlt hj;generalize a.2[i] = x at *
    (repeat' (first|(first|(refine qB ?_)|(refine rK ?_)|(refine uI ?_))|((refine oC rfl (fun hb=>?_) (fun hb=>?_)<;>(((try simp only [nm] at hb);try ((exfalso;omega);done)))))|(((refine lG hJ (dA (id := 1) ?_)));(all_goals (refine vV (aL rfl rfl) ?_)))|(((refine lG hJ (dA (id := 2) ?_)));(all_goals (refine vV (ix T rfl (by omega) (lU _) ga) ?_;refine lV T ?_;refine bQ (bT T rfl) rfl ?_;refine aU T rfl rfl rfl rfl rfl rfl (by decide) rfl ?_)))|(((refine lG hJ (dA (id := 3) ?_)));(all_goals (refine TG T ?_;(refine qV T ?_);refine mV ?_)))|refine nZ ?_));all_goals try (exfalso;omega)
    refine W6 (X := {j : Nat // j ≤ b.2.length}) (fun j => [(0,.clo (.yield y) [] []),(1,.pr (gA a) 0),(2,.pr (gA b) 0),(3,.pr [.rowE (ints l) 1] 0),(6,.ptr 0 0),(15,.rowE (fQ a.2) 3),(16,.i (fQ a.2).length),(17,.i i),(22,.rowE (fQ b.2) 3),(23,.i (fQ b.2).length),(24,.i j.1)]) (fun _ => [.cells (wA x)]) (fun j => (b.2.length * i + j.1,false)) (fun j => b.2.length - j.1) ⟨0,bU _⟩ rfl ⟨[0],rfl,(by repeat first|exact trivial|refine ⟨rfl,?_⟩),⟨.inr rfl,trivial⟩,by decide,kV _⟩ ?_
    rintro ⟨j,hj⟩;dsimp only;by_cases hjl : j < b.2.length
    · have gb := rW hjl;have hy1 := sb.p _ (aI hjl);have hy2 := sb.c _ (aI hjl);have hy3 := h2 _ (aI hjl);have hit := hpi j hjl;have hk : b.2.length * i + j < (pA a b l).length := by
        rw [hnn];have := NQ b.2.length (show i + 1 ≤ a.2.length by omega)
        rw [zB9] at this;omega
      generalize b.2[j] = z at *
      (repeat' (first|(first|(refine qB ?_)|(refine rK ?_)|(refine uI ?_))|((refine oC rfl (fun hb=>?_) (fun hb=>?_)<;>(((try simp only [nm] at hb);try ((exfalso;omega);done)))))|(((refine lG hJ (dA (id := 4) ?_)));(all_goals (refine vV (aL rfl rfl) ?_)))|(((refine lG hJ (dA (id := 5) ?_)));(all_goals (refine vV (ix T rfl (by omega) (lU _) gb) ?_;refine lV T ?_;refine bQ (bT T rfl) rfl ?_;refine aU T rfl rfl rfl rfl rfl rfl (by decide) rfl ?_)))|(((refine lG hJ (dA (id := 6) ?_)));(all_goals (refine TG T ?_;refine TG T ?_;refine vV (bV rfl rfl (by omega) (by omega)) ?_;refine vV (by exact eU T rfl rfl rfl rfl) ?_;refine bQ (bT T rfl) rfl ?_;refine aU T rfl rfl rfl rfl rfl rfl (by decide) rfl ?_)))|(((refine lG hJ (dA (id := 7) ?_)));(all_goals (refine lV T ?_;(refine qV T ?_);refine mV ?_)))|refine nZ ?_));all_goals try (exfalso;omega)
      refine lG hJ ?_;refine uK 2 0 1 rfl rfl (by decide) ?_
      refine uK 2 2 2 rfl rfl (by decide) ?_
      let fp : Int → Int := fun k => if k ∈ a.1 then gP x (a.1.idxOf k) else gP z (b.1.idxOf k)
      let fc : Int → SP := fun k => if k ∈ a.1 then gC x (a.1.idxOf k) else gC z (b.1.idxOf k)
      have hw : E9 a b x z l = (l.map fp,x.2.1 + z.2.1,l.map fc) := rfl;rw [hw] at hit;have hplen : (l.map fp).length = l.length := bB _;have hclen : (l.map fc).length = l.length := bB _;have hpt : ∀ m (h : m < l.length),(l.map fp).take (m + 1) = (l.map fp).take m ++ [fp l[m]] := fun m h => HQ h
      have hct : ∀ m (h : m < l.length),(l.map fc).take (m + 1) = (l.map fc).take m ++ [fc l[m]] := fun m h => HQ h
      have hfa : ∀ k,k ∈ a.1 → fp k = x.1.getD (a.1.idxOf k) 0 ∧ fc k = x.2.2.getD (a.1.idxOf k) (0,0) := fun k h => ⟨if_pos h,if_pos h⟩
      have hfb : ∀ k,k ∉ a.1 → fp k = z.1.getD (b.1.idxOf k) 0 ∧ fc k = z.2.2.getD (b.1.idxOf k) (0,0) := fun k h => ⟨if_neg h,if_neg h⟩
      clear_value fp fc
      clear hw;generalize l.map fp = PP at *;generalize l.map fc = CC at *;refine cN (X := {m : Nat // m ≤ l.length}) (fun m => [(0, .clo (.yield y) [] []), (1, .pr (gA a) 0), (2, .pr (gA b) 0), (3, .pr [.rowE (ints l) 1] 0), (6, .ptr 0 0), (8, .ptr 1 0), (9, .ptr 2 0), (15, .rowE (fQ a.2) 3), (16, .i (fQ a.2).length), (17, .i i), (22, .rowE (fQ b.2) 3), (23, .i (fQ b.2).length), (24, .i j), (34, .rowE (ints l) 1), (35, .i (ints l).length), (36, .i m.1)])
        (fun m => [.cells (wA x),.cells (wA z),.cells [.sl 3 0 m.1 1,.i (x.2.1 + z.2.1),.sl 4 0 m.1 2],.arr (ints (PP.take m.1)) 1,.arr (fA (CC.take m.1)) 2]) (fun m => l.length - m.1) ⟨0,bU _⟩ ⟨[0,1,2,3,4],rfl,(by repeat first|exact trivial|refine ⟨rfl,?_⟩),⟨.inr rfl,.inr rfl,.inr rfl,.inr rfl,.inr rfl,trivial⟩,by decide,kV _⟩ ?_
      rintro ⟨m,hm'⟩;dsimp only;have hTp : (ints (PP.take m)).length = m := by rw [dC,bD];omega
      have hTc : (fA (CC.take m)).length = m := by rw [gJ,bD];omega
      by_cases hml : m < l.length
      · have hgl := PD hml;have hkm := hm l[m] (aI hml);have hp1 := hpt m hml;have hc1 := hct m hml;generalize l[m] = k at *;by_cases hka : k ∈ a.1
        · obtain ⟨e1,e2⟩ := hfa k hka;have hix := xB a.1 k (by have := sa.b;omega)
          have hxi : xC a.1 k 0 = ((a.1.idxOf k : Nat) : Int) := by have := C4 a.1 k 0 hka;simpa using this
          rw [hxi] at hix;have hio := iN hka;generalize a.1.idxOf k = ia at *;have qp := nY (l := x.1) (j := (ia : Int)) (i := ia) 0 (by omega) rfl
          have qc := rE (l := x.2.2) (j := (ia : Int)) (i := ia) (by omega) rfl
          have hlp : (ints x.1).length = x.1.length := dC _;have hlc : (fA x.2.2).length = x.2.2.length := gJ _;rw [← e1] at qp;rw [← e2] at qc;have hPs : ints (PP.take (m + 1)) = ints (PP.take m) ++ [[AV.i (fp k)]] := by rw [hp1,C1]
          have hCs : fA (CC.take (m + 1)) = fA (CC.take m) ++ [[AV.i (fc k).1,AV.i (fc k).2]] := by rw [hc1,fA,dB];rfl
          generalize ints (PP.take m) = P0 at *;generalize fA (CC.take m) = C0 at *;generalize fp k = vp at *;generalize fc k = vc at *
          (repeat' (first|refine wS ?_|refine wB ?_|refine wK ?_|refine wU ?_|(refine wC rfl ?_ ?_<;>(intro hb;(try simp only [nm] at hb);try (exfalso;omega)))|(refine rg 8 (vV (aL rfl rfl) ?_))|(refine rg 9 (vV (ix T rfl (by omega) (ints_len _) hgl) (lW T rfl (aV ?_))))|(refine tS (id := 10) 6 79 [[],[],[1],[],[1,2,3],[],rN 6,rN 7] [[],[],[1],[],[1,2,3],[]] [40,41,42,43,44,12] [[],[40],[40],[40,41,42],[40],rM 40 5] cJ rfl (by decide +kernel) (by decide +kernel) ?_;(dsimp only [List.take,List.drop]);refine dO T rfl (dP T rfl (dO T rfl (dN rfl (dV rfl (kC (hix)) (zT rfl rfl rfl (by exact bT T rfl) rfl ?_)))));refine P7 rfl rfl (by ((dsimp only [List.nil_append,List.cons_append,List.append_nil,List.length_cons,List.length_nil,List.set_cons_zero,List.set_cons_succ,List.map_cons,List.map_nil,jO,lY,lA,pE,BY,uS,E5,E3,E2,E4,uR,uU,uQ,uT,Nat.zero_add,Nat.add_zero,Nat.reduceAdd,Bool.not_true,Bool.not_false];done))) ?_;refine fU ?_;refine aU T rfl rfl rfl rfl rfl rfl (by decide) rfl (aV ?_))|(refine rg 11 (mW rfl (vV (aL rfl rfl) ?_)))|(refine wG (id := 13) 79 yI4 (rM 52 19) yI5 [(8,3),(17,4),(19,2)] cJ rfl (by decide +kernel) (fP rfl rfl rfl rfl (by exact cE T rfl rfl rfl) ?_);refine fP rfl rfl rfl rfl (by exact aP T rfl rfl rfl rfl) ?_;refine fP rfl rfl rfl rfl (by exact cE T rfl rfl rfl) ?_;refine fP rfl rfl rfl rfl (by exact aP T rfl rfl rfl rfl) ?_;refine fP rfl rfl rfl rfl (by exact cC rfl) ?_;refine fP rfl rfl rfl rfl (by exact ix T rfl (by omega) (ints_len _) qp) ?_;refine fP rfl rfl rfl rfl (by exact aP T rfl rfl rfl rfl) ?_;refine R9 rfl rfl rfl rfl (by exact bC T rfl rfl (by decide) (by decide) rfl rfl rfl) rfl ?_;refine zS rfl rfl rfl rfl (aN rfl) (by exact sQ T rfl rfl rfl rfl rfl rfl (by omega) (kJ.whole rfl rfl) rfl (by simp;omega) (by simp;omega)) ?_;refine fP rfl rfl rfl rfl (by exact cE T rfl rfl rfl) ?_;refine fP rfl rfl rfl rfl (by exact aP T rfl rfl rfl rfl) ?_;refine fP rfl rfl rfl rfl (by exact cE T rfl rfl rfl) ?_;refine fP rfl rfl rfl rfl (by exact aP T rfl rfl rfl rfl) ?_;refine fP rfl rfl rfl rfl (by exact cC rfl) ?_;refine fP rfl rfl rfl rfl (by exact ix T rfl (by omega) (jI _) qc) ?_;refine fP rfl rfl rfl rfl (by exact aP T rfl rfl rfl rfl) ?_;refine R9 rfl rfl rfl rfl (by exact bC T rfl rfl (by decide) (by decide) rfl rfl rfl) rfl ?_;refine zS rfl rfl rfl rfl (aN rfl) (by exact sQ T rfl rfl rfl rfl rfl rfl (by omega) (kJ.whole rfl rfl) rfl (by simp;omega) (by simp;omega)) ?_;refine fP rfl rfl rfl rfl (by exact cE T rfl rfl rfl) ?_;refine GF rfl rfl rfl rfl (aN rfl) T rfl rfl rfl rfl rfl rfl (by decide) rfl ?_;refine K9 rfl rfl rfl (by exact rfl) ?_;refine fW T rfl (aU T rfl rfl rfl rfl rfl rfl (by decide) rfl ?_))|(refine rg 14 (vV (bV rfl rfl (by omega) (by omega)) (mV ?_)))|refine nZ ?_));all_goals try (exfalso;omega)
          exact ⟨⟨m + 1,hml⟩,by dsimp only;omega,⟨[0,1,2,7,9],rfl,(by repeat first|exact trivial|refine ⟨rfl,?_⟩),⟨.inr rfl,.inr rfl,.inr rfl,.inr (aD rfl (by dsimp only;rw [hPs];exact lQ hTp.symm) (ints_idf _)),.inr (aD rfl (by dsimp only;rw [hCs];exact lQ hTc.symm) (eZ _)),trivial⟩,by decide,kV _⟩⟩
        · obtain ⟨e1,e2⟩ := hfb k hka;have hkb : k ∈ b.1 := hkm.resolve_left hka;have hix := xB a.1 k (by have := sa.b;omega)
          have hiy := xB b.1 k (by have := sb.b;omega)
          have hyi : xC b.1 k 0 = ((b.1.idxOf k : Nat) : Int) := by have := C4 b.1 k 0 hkb;simpa using this
          rw [PI _ _ _ hka] at hix;rw [hyi] at hiy;have hio := iN hkb;generalize b.1.idxOf k = ia at *;have qp := nY (l := z.1) (j := (ia : Int)) (i := ia) 0 (by omega) rfl
          have qc := rE (l := z.2.2) (j := (ia : Int)) (i := ia) (by omega) rfl
          have hlp : (ints z.1).length = z.1.length := dC _;have hlc : (fA z.2.2).length = z.2.2.length := gJ _;rw [← e1] at qp;rw [← e2] at qc;have hPs : ints (PP.take (m + 1)) = ints (PP.take m) ++ [[AV.i (fp k)]] := by rw [hp1,C1]
          have hCs : fA (CC.take (m + 1)) = fA (CC.take m) ++ [[AV.i (fc k).1,AV.i (fc k).2]] := by rw [hc1,fA,dB];rfl
          generalize ints (PP.take m) = P0 at *;generalize fA (CC.take m) = C0 at *;generalize fp k = vp at *;generalize fc k = vc at *
          (repeat' (first|refine wS ?_|refine wB ?_|refine wK ?_|refine wT ?_|(refine wC rfl ?_ ?_<;>(intro hb;(try simp only [nm] at hb);try (exfalso;omega)))|(refine rg 8 (vV (aL rfl rfl) ?_))|(refine rg 9 (vV (ix T rfl (by omega) (ints_len _) hgl) (lW T rfl (aV ?_))))|(refine tS (id := 10) 6 79 [[],[],[1],[],[1,2,3],[],rN 6,rN 7] [[],[],[1],[],[1,2,3],[]] [40,41,42,43,44,12] [[],[40],[40],[40,41,42],[40],rM 40 5] cJ rfl (by decide +kernel) (by decide +kernel) ?_;(dsimp only [List.take,List.drop]);refine dO T rfl (dP T rfl (dO T rfl (dN rfl (dV rfl (kC (hix)) (zT rfl rfl rfl (by exact bT T rfl) rfl ?_)))));refine P7 rfl rfl (by ((dsimp only [List.nil_append,List.cons_append,List.append_nil,List.length_cons,List.length_nil,List.set_cons_zero,List.set_cons_succ,List.map_cons,List.map_nil,jO,lY,lA,pE,BY,uS,E5,E3,E2,E4,uR,uU,uQ,uT,Nat.zero_add,Nat.add_zero,Nat.reduceAdd,Bool.not_true,Bool.not_false];done))) ?_;refine fU ?_;refine aU T rfl rfl rfl rfl rfl rfl (by decide) rfl (aV ?_))|(refine rg 11 (mW rfl (vV (aL rfl rfl) ?_)))|(refine nD (id := 12) 79 [[],[],[1],[],[1,2,3],rN 5] (rM 47 5) [[],[47],[47],[47,48,49],[47],[]] [(5,5)] cJ rfl (by decide +kernel) (cK rfl rfl rfl rfl (by exact aP T rfl rfl rfl rfl) ?_);refine cK rfl rfl rfl rfl (by exact cE T rfl rfl rfl) ?_;refine cK rfl rfl rfl rfl (by exact aP T rfl rfl rfl rfl) ?_;refine cK rfl rfl rfl rfl (by exact cC rfl) ?_;refine cK rfl rfl rfl rfl (by exact kC (hiy)) ?_;refine vB rfl rfl rfl rfl (aN rfl) T rfl rfl rfl rfl rfl rfl (by decide) rfl ?_;refine rB rfl rfl rfl (by exact rfl) ?_;refine aV ?_)|(refine wG (id := 13) 79 yI4 (rM 52 19) yI5 [(8,3),(17,4),(19,2)] cJ rfl (by decide +kernel) (fP rfl rfl rfl rfl (by exact cE T rfl rfl rfl) ?_);refine fP rfl rfl rfl rfl (by exact aP T rfl rfl rfl rfl) ?_;refine fP rfl rfl rfl rfl (by exact cE T rfl rfl rfl) ?_;refine fP rfl rfl rfl rfl (by exact aP T rfl rfl rfl rfl) ?_;refine fP rfl rfl rfl rfl (by exact cC rfl) ?_;refine fP rfl rfl rfl rfl (by exact ix T rfl (by omega) (ints_len _) qp) ?_;refine fP rfl rfl rfl rfl (by exact aP T rfl rfl rfl rfl) ?_;refine R9 rfl rfl rfl rfl (by exact bC T rfl rfl (by decide) (by decide) rfl rfl rfl) rfl ?_;refine zS rfl rfl rfl rfl (aN rfl) (by exact sQ T rfl rfl rfl rfl rfl rfl (by omega) (kJ.whole rfl rfl) rfl (by simp;omega) (by simp;omega)) ?_;refine fP rfl rfl rfl rfl (by exact cE T rfl rfl rfl) ?_;refine fP rfl rfl rfl rfl (by exact aP T rfl rfl rfl rfl) ?_;refine fP rfl rfl rfl rfl (by exact cE T rfl rfl rfl) ?_;refine fP rfl rfl rfl rfl (by exact aP T rfl rfl rfl rfl) ?_;refine fP rfl rfl rfl rfl (by exact cC rfl) ?_;refine fP rfl rfl rfl rfl (by exact ix T rfl (by omega) (jI _) qc) ?_;refine fP rfl rfl rfl rfl (by exact aP T rfl rfl rfl rfl) ?_;refine R9 rfl rfl rfl rfl (by exact bC T rfl rfl (by decide) (by decide) rfl rfl rfl) rfl ?_;refine zS rfl rfl rfl rfl (aN rfl) (by exact sQ T rfl rfl rfl rfl rfl rfl (by omega) (kJ.whole rfl rfl) rfl (by simp;omega) (by simp;omega)) ?_;refine fP rfl rfl rfl rfl (by exact cE T rfl rfl rfl) ?_;refine GF rfl rfl rfl rfl (aN rfl) T rfl rfl rfl rfl rfl rfl (by decide) rfl ?_;refine K9 rfl rfl rfl (by exact rfl) ?_;refine fW T rfl (aU T rfl rfl rfl rfl rfl rfl (by decide) rfl ?_))|(refine rg 14 (vV (bV rfl rfl (by omega) (by omega)) (mV ?_)))|refine nZ ?_));all_goals try (exfalso;omega)
          exact ⟨⟨m + 1,hml⟩,by dsimp only;omega,⟨[0,1,2,7,9],rfl,(by repeat first|exact trivial|refine ⟨rfl,?_⟩),⟨.inr rfl,.inr rfl,.inr rfl,.inr (aD rfl (by dsimp only;rw [hPs];exact lQ hTp.symm) (ints_idf _)),.inr (aD rfl (by dsimp only;rw [hCs];exact lQ hTc.symm) (eZ _)),trivial⟩,by decide,kV _⟩⟩
      · obtain rfl : m = l.length := by omega
        rw [show PP.take l.length = PP by rw [← hplen,dS],show CC.take l.length = CC by rw [← hclen,dS]]
        refine nL 2 0 rfl rfl rfl (by rw [dC,hplen]) (iJ (ints_idf _)) ?_
        refine nL 2 2 rfl rfl rfl (by rw [gJ,hclen]) (iJ (eZ _)) ?_
        (repeat' (first|refine wS ?_|refine wE ?_|(refine wC rfl ?_ ?_<;>(intro hb;(try simp only [nm] at hb);try (exfalso;omega)))|(refine rg 8 (vV (aL rfl rfl) ?_))|refine nZ ?_));all_goals try (exfalso;omega)
        show AY _ _ _ _ _ _ _ _ _
        (repeat' (first|(first|(refine qB ?_)|(refine uI ?_)|(refine BG ?_))|((refine oC rfl (fun hb=>?_) (fun hb=>?_)<;>(((try simp only [nm] at hb);try ((exfalso;omega);done)))))|(((refine P9 (id := 15) ?_));((refine LP 2 hJ ?_));(dsimp only [List.take,List.drop]);(all_goals (refine mV ?_;refine lV T ?_;refine fU ?_;refine yY hJ hy rfl rfl rfl hk hit rfl ?_));(all_goals (intro yes));(all_goals (refine HH hJ ?_;refine vV (dX rfl) ?_;refine I2 (by ((dsimp only [List.nil_append,List.cons_append,List.append_nil,List.length_cons,List.length_nil,List.set_cons_zero,List.set_cons_succ,List.map_cons,List.map_nil,jO,lY,lA,pE,BY,uS,E5,E3,E2,E4,uR,uU,uQ,uT,Nat.zero_add,Nat.add_zero,Nat.reduceAdd,Bool.not_true,Bool.not_false];done))) ?_)))|(((refine lG hJ (dA (id := 16) ?_)));(all_goals (refine vV (bV rfl rfl (by omega) (by omega)) ?_;refine mV ?_)))|refine nZ ?_));all_goals first | (exfalso;omega) | skip
        · exact ⟨.inl rfl,fun h => (by first | (subst hb;cases h) | (cases h;done)),[],rfl⟩
        · obtain rfl := hb;exact ⟨⟨j + 1,hjl⟩,by dsimp only;omega,rfl,⟨[0],rfl,(by repeat first|exact trivial|refine ⟨rfl,?_⟩),⟨.inr rfl,trivial⟩,by decide,kV _⟩⟩
    · obtain rfl : j = b.2.length := by omega
      (repeat' (first|(first|(refine qB ?_)|(refine W7 ?_))|((refine oC rfl (fun hb=>?_) (fun hb=>?_)<;>(((try simp only [nm] at hb);try ((exfalso;omega);done)))))|(((refine lG hJ (dA (id := 4) ?_)));(all_goals (refine vV (aL rfl rfl) ?_)))|(((refine lG hJ (dA (id := 17) ?_)));(all_goals (refine vV (bV rfl rfl (by omega) (by omega)) ?_;refine mV ?_)))|refine nZ ?_));all_goals first | (exfalso;omega) | skip
      exact ⟨⟨i + 1,hlt⟩,by dsimp only;omega,rfl,eA []⟩
  · obtain rfl : i = a.2.length := by omega
    (repeat' (first|(first|(refine qB ?_)|(refine W7 ?_))|((refine oC rfl (fun hb=>?_) (fun hb=>?_)<;>(((try simp only [nm] at hb);try ((exfalso;omega);done)))))|(((refine lG hJ (dA (id := 1) ?_)));(all_goals (refine vV (aL rfl rfl) ?_)))|refine nZ ?_));all_goals first | (exfalso;omega) | skip
    exact ⟨.inr rfl,fun _ => by rw [hnn],[],rfl⟩
end Go.Proofs.YtmmkhmilpeodnaaGreat
namespace Go.Ab
open Go
theorem rY {P : Program} {env : dW} {h : Hp} {d : Option Nat} {ty : TypeId} {pos : String} {af : Array Edge} {g : Option (Nat × Bool)} (T : oG P) {t e sz : Nat} {es : List (List AV)} {c : List AV} {i : TI} {x y : Operand} {kk : IntKind} {j : Int} (hx : evu env x = some (.rowE es sz)) (hy : evu env y = some (.v (.int kk j))) (ha : T.elem t = some e) (he : T.ti e = some i) (hs : i.size = sz) (h0 : 0 ≤ j) (hl : ∀ e,e ∈ es → e.length = sz) (hc : es[j.toNat]? = some c) :
    zB6 P ⟨d,.indexAddr t x y,ty,pos,af,g⟩ env h (.pr c 0) := by
  intro ρ S a w p;have h1 : j < es.length := by have := (aB.1 hc).1;omega
  have h2 := p.evu hx;simp only [R] at h2;obtain ⟨ad,cap,h3,_,_,_,_,h4⟩ := h2;rcases h4 with h4 | ⟨b,o,ys,h5,h6,h7,h8⟩
  · omega
  have h9 := rT (p.evu hy);subst h5;refine ⟨.pointer (some ⟨b,o + j.toNat * sz,none⟩),fun w' => by simp [execOp,h3,h9,Instr.indexAt,asIntOf,run_underlying (T.elemOk _ _ ha),h0,h1,T.sizeOf he,Addr.add_lit,hs],OM hl hc ?_⟩
  simp only [R];exact ⟨b,o,ys,rfl,h6,h7,h8⟩
end Go.Ab
namespace Go.Ld
open Go.Ab Go.Proofs.YtmmkhmilpeodnaaGreat
theorem iR {l : List G} {b : Int} (h : ∃ g,g ∈ l ∧ b ∈ g.1) : ∃ (i : Nat) (g : G),pZ l b = (i : Int) ∧ l[i]? = some g ∧ b ∈ g.1 := by
  obtain ⟨g,hg,hb⟩ := h;unfold pZ;cases hf : l.findIdx? fun g => decide (b ∈ g.1) with
  | none => have := List.findIdx?_eq_none_iff.1 hf g hg;simp at this;exact absurd hb this
  | some i =>
    obtain ⟨h1,h2,_⟩ := List.findIdx?_eq_some_iff_getElem.1 hf;exact ⟨i,l[i],rfl,aA h1,by simpa using h2⟩
theorem qQ (l : List Int) : jE l = dY cI l :=
  F8 qA (Go.Pm.sorted_perm l) ((Go.Pm.sorted_up l).imp fun {a b} h => by unfold cI;split <;> (try split) <;> omega)
theorem RW {a b : G} {l : List Int} {k : Nat} {w : W} (h : (pA a b l)[k]? = some w) : Z4 a b l k = [.agg (wA w)] := by unfold Z4;rw [h]
end Go.Ld
namespace Go.Proofs.YtmmkhmilpeodnaaGreat
open Go Go.Ab Go.Ld
attribute [local irreducible] VC AW bX aR AY VY F6 kY
set_option maxHeartbeats 4000000
theorem yB9 : ∀ i : Nat,i < 1 → ([0,4] : List Nat)[i]? = some i := by decide
theorem zI0 {n : Nat} (l : List G) (a b : Int) (ok : nP n l) (ha : ∃ g,g ∈ l ∧ a ∈ g.1) (hb : ∃ g,g ∈ l ∧ b ∈ g.1) (hs : pZ l a = pZ l b) : aR Tryz.prog 44 [.sl 0 0 l.length 2,.i a,.i b] [.arr (jW l) 2] (.tup [.sl 0 0 l.length 2,.i 0]) [.arr (jW l) 2] := by
  have hl12 : l.length ≤ 12 := bA ok.len ok.ln;have hgl : ∀ g,g ∈ l → g.1.length ≤ 1000000 := fun g hg => by have := (ok.ok g hg).ln;omega
  have f1 := zQ l a (by omega) hgl
  have f2 := zQ l b (by omega) hgl
  obtain ⟨i,x,e1,hx,hax⟩ := iR ha;obtain ⟨k,y,e2,hy,hby⟩ := iR hb;rw [e1] at f1;rw [e2] at f2;have hil := (aB.1 hx).1;have hkl := (aB.1 hy).1;have hll : (jW l).length = l.length := jV _;have qx : (jW l)[(i : Int).toNat]? = some (gA x) := by rw [bJ,bS,hx];rfl
  have qy : (jW l)[(k : Int).toNat]? = some (gA y) := by rw [bJ,bS,hy];rfl
  have ax : lB l (i : Int).toNat = x := by unfold lB;rw [bJ,aC,hx];rfl
  have ay : lB l (k : Int).toNat = y := by unfold lB;rw [bJ,aC,hy];rfl
  have hik : i = k := by omega
  subst hik;have hvw : oK [.arr (jW l) 2] (.sl 0 0 l.length 2) (.rowE (jW l) 2) := vH rfl hll.symm (vP (fun _ => rfl) _);refine bO T Tryz.func44 rfl rfl rfl rfl ?_
  (repeat' (first|refine wS ?_|refine wR ?_|refine wT ?_|(refine rg 0 (qJ ?_))|(refine rg 1 (dK rfl (vV (by exact fB rfl rfl f1 (.cons hvw (.cons (.v _) .nil)) rfl rfl) ?_));refine dK rfl (vV (by exact fB rfl rfl f2 (.cons hvw (.cons (.v _) .nil)) rfl rfl) ?_);refine qJ ?_)|(refine rg 2 (dK rfl (vV (lO rfl rfl rfl) ?_)))|(refine rg 3 (mW rfl (qJ ?_)))|refine nZ ?_));all_goals first | (exfalso;omega) | exact ⟨.inl rfl,[0],_,rfl,rfl,rfl,⟨.inr (aD rfl rfl (eG _)),trivial⟩,by decide,FL⟩
theorem zI2 {n : Nat} (l : List G) (a b : Int) (ok : nP n l) (ha : ∃ g,g ∈ l ∧ a ∈ g.1) (hb : ∃ g,g ∈ l ∧ b ∈ g.1) (hj : join l a b = none) : aR Tryz.prog 44 [.rowE (jW l) 2,.i a,.i b] [] (.tup [.nils,.i 6]) [] := by
  have hl12 : l.length ≤ 12 := bA ok.len ok.ln;have hgl : ∀ g,g ∈ l → g.1.length ≤ 1000000 := fun g hg => by have := (ok.ok g hg).ln;omega
  have f1 := zQ l a (by omega) hgl
  have f2 := zQ l b (by omega) hgl
  obtain ⟨i,x,e1,hx,hax⟩ := iR ha;obtain ⟨k,y,e2,hy,hby⟩ := iR hb;rw [e1] at f1;rw [e2] at f2;have hil := (aB.1 hx).1;have hkl := (aB.1 hy).1;have hll : (jW l).length = l.length := jV _;have qx : (jW l)[(i : Int).toNat]? = some (gA x) := by rw [bJ,bS,hx];rfl
  have qy : (jW l)[(k : Int).toNat]? = some (gA y) := by rw [bJ,bS,hy];rfl
  have ax : lB l (i : Int).toNat = x := by unfold lB;rw [bJ,aC,hx];rfl
  have ay : lB l (k : Int).toNat = y := by unfold lB;rw [bJ,aC,hy];rfl
  unfold join at hj;dsimp only at hj;rw [e1,e2,ax,ay] at hj;clear ha hb;have hik : i ≠ k := fun q => by subst q;rw [if_pos rfl] at hj;cases hj
  rw [if_neg (by omega)] at hj
  have hf : 6 < x.1.length + y.1.length ∨ 1000 < x.2.length * y.2.length := by
    by_cases hf : 6 < x.1.length + y.1.length ∨ 1000 < x.2.length * y.2.length
    · exact hf
    · rw [if_neg hf] at hj;cases hj
  clear hj;have xo := ok.ok x (aQ hx);have yo := ok.ok y (aQ hy);have xw := ok.ws x (aQ hx);have yw := ok.ws y (aQ hy);have xl := xo.ln;have yl := yo.ln;have xp := dZ.2 xo.ne;have yp := dZ.2 yo.ne;have sx := xo.sz xw;have sy := yo.sz yw;have l1 : (ints x.1).length = x.1.length := dC _;have l2 : (ints y.1).length = y.1.length := dC _;have l3 : (fQ x.2).length = x.2.length := eV _;have l4 : (fQ y.2).length = y.2.length := eV _;have hmx : x.2.length * y.2.length ≤ 2000 * 2000 := L9 xw yw;have hml : ((x.2.length : Int) * y.2.length) = ((x.2.length * y.2.length : Nat) : Int) := by push_cast;rfl
  obtain ⟨bx,wx⟩ := x;obtain ⟨by_,wy⟩ := y;have hmI : (((fQ wx).length : Nat) : Int) * ((fQ wy).length : Nat) = ((wx.length * wy.length : Nat) : Int) := by rw [eV,eV];push_cast;rfl
  dsimp only at *;refine bO T Tryz.func44 rfl rfl rfl rfl ?_
  (repeat' (first|refine wS ?_|refine wK ?_|refine wU ?_|(refine rg 0 (qJ ?_))|(refine rg 1 (dK rfl (vV (kC (f1)) (dK rfl (vV (kC (f2)) (qJ ?_))))))|(refine rg 2 (dK rfl (vV (gL rfl rfl (by omega)) ?_)))|refine nZ ?_));refine ZS [(0,.rowE (jW l) 2),(8,.i i),(9,.i k),(10,.ptr 0 0),(11,.ptr 1 0)] [.cells [.rowE (ints bx) 1,.rowE (fQ wx) 3],.cells [.rowE (ints by_) 1,.rowE (fQ wy) 3]] ?_ ?_
  · refine KQ (id := 4) cJ ?_;refine yE 0 rfl rfl (by decide +kernel) (by decide +kernel) (by decide +kernel) (by exact uC rfl) rfl ?_
    refine yE 1 rfl rfl (by decide +kernel) (by decide +kernel) (by decide +kernel) (by exact uC rfl) rfl ?_
    refine yE 2 rfl rfl (by decide +kernel) (by decide +kernel) (by decide +kernel) (by exact rY T rfl rfl rfl rfl rfl (by omega) (pT _) qx) rfl ?_
    refine yE 4 rfl rfl (by decide +kernel) (by decide +kernel) (by decide +kernel) (by exact uC rfl) rfl ?_
    refine yE 5 rfl rfl (by decide +kernel) (by decide +kernel) (by decide +kernel) (by exact uC rfl) rfl ?_
    refine yE 6 rfl rfl (by decide +kernel) (by decide +kernel) (by decide +kernel) (by exact rY T rfl rfl rfl rfl rfl (by omega) (pT _) qy) rfl ?_
    refine QC [(0,[]),(1,[]),(2,[0,1]),(3,[2]),(4,[]),(5,[]),(6,[4,5]),(7,[6]),(8,[]),(9,[]),(10,[8,3,0,1,2,3,8,9]),(11,[9,7,10,0,1,2,3,4,5,6,7,8,9,10])] (by decide +kernel) [true,true,true,false,true,true,true,false,false,false,false,false] rfl rfl ?_
    (repeat' (first|(refine zA2 rfl rfl ?_;(first|(refine lV T ?_)|(refine bQ (bT T rfl) rfl ?_)|(refine aU T rfl rfl rfl rfl rfl rfl (by decide) rfl ?_));refine fU ?_;dsimp only [List.set_cons_zero,List.set_cons_succ])|(refine zA1 rfl rfl rfl ?_ ?_<;>((first|(refine lV T ?_)|(refine bQ (bT T rfl) rfl ?_)|(refine aU T rfl rfl rfl rfl rfl rfl (by decide) rfl ?_));refine fU ?_;dsimp only [List.set_cons_zero,List.set_cons_succ]))|(refine zA0 rfl rfl rfl rfl ?_ ?_ ?_<;>((first|(refine lV T ?_)|(refine bQ (bT T rfl) rfl ?_));refine fU ?_;dsimp only [List.set_cons_zero,List.set_cons_succ]))|(refine ZZ rfl rfl rfl rfl rfl ?_ ?_ ?_ ?_<;>((first|(refine lV T ?_)|(refine bQ (bT T rfl) rfl ?_));refine fU ?_;dsimp only [List.set_cons_zero,List.set_cons_succ]))));all_goals first | exact D6 rfl ⟨rfl,[0,1],rfl,(by repeat first|exact trivial|refine ⟨rfl,?_⟩),⟨.inr rfl,.inr rfl,trivial⟩,by decide,kV _⟩ | exact D6 rfl ⟨rfl,[1,0],rfl,(by repeat first|exact trivial|refine ⟨rfl,?_⟩),⟨.inr rfl,.inr rfl,trivial⟩,by decide,kV _⟩
  intro v g hsub;refine NE hsub ?_
  (repeat' (first|refine wS ?_|refine wR ?_|refine wT ?_|(refine wC rfl ?_ ?_<;>(intro hb;(try simp only [nm] at hb);try (exfalso;omega)))|(refine rg 5 (gH T rfl (qW T rfl (gH T rfl (qW T rfl (vV (bV rfl rfl (by omega) (by omega)) (vV (fM rfl rfl) (mV ?_)))))));refine cH rfl rfl ?_ ?_<;>(intro hb;rw [hb];(try simp only [nm] at hb);try (exfalso;omega));(all_goals first|(refine gT (fW T rfl (gT (lW T rfl (gT (qW T rfl (gT (fW T rfl (gT (lV T ?_)))))))));refine gT (qW T rfl (gT (vV (sE rfl rfl (by omega) (by omega)) (gT (vV (fM rfl rfl) ?_))))))|(iterate 8 refine gF ?_));(all_goals (refine pV ?_)))|(refine rg 6 (qJ ?_))|refine nZ ?_));all_goals first | (exfalso;omega) | exact rQ
theorem zI1 {n : Nat} (l : List G) (a b : Int) (ok : nP n l) (ha : ∃ g,g ∈ l ∧ a ∈ g.1) (hb : ∃ g,g ∈ l ∧ b ∈ g.1) {all : List G} (hj : join l a b = some all) (hne : pZ l a ≠ pZ l b) : aR Tryz.prog 44 [.rowE (jW l) 2,.i a,.i b] [] (.tup [.sl 0 0 all.length 2,.i 0]) [.arr (jW all) 2] := by
  have hl12 : l.length ≤ 12 := bA ok.len ok.ln;have hgl : ∀ g,g ∈ l → g.1.length ≤ 1000000 := fun g hg => by have := (ok.ok g hg).ln;omega
  have f1 := zQ l a (by omega) hgl
  have f2 := zQ l b (by omega) hgl
  obtain ⟨i,x,e1,hx,hax⟩ := iR ha;obtain ⟨k,y,e2,hy,hby⟩ := iR hb;rw [e1] at f1;rw [e2] at f2;have hil := (aB.1 hx).1;have hkl := (aB.1 hy).1;have hll : (jW l).length = l.length := jV _;have qx : (jW l)[(i : Int).toNat]? = some (gA x) := by rw [bJ,bS,hx];rfl
  have qy : (jW l)[(k : Int).toNat]? = some (gA y) := by rw [bJ,bS,hy];rfl
  have ax : lB l (i : Int).toNat = x := by unfold lB;rw [bJ,aC,hx];rfl
  have ay : lB l (k : Int).toNat = y := by unfold lB;rw [bJ,aC,hy];rfl
  unfold join at hj;dsimp only at hj;rw [e1,e2,ax,ay] at hj;clear ha hb;have hik : i ≠ k := fun q => by subst q;exact hne (e1.trans e2.symm)
  rw [if_neg (by omega)] at hj
  have hf : ¬ (6 < x.1.length + y.1.length ∨ 1000 < x.2.length * y.2.length) := fun hf => by rw [if_pos hf] at hj;cases hj
  rw [if_neg hf] at hj
  replace hj := (Option.some.inj hj).symm
  have xo := ok.ok x (aQ hx);have yo := ok.ok y (aQ hy);have xw := ok.ws x (aQ hx);have yw := ok.ws y (aQ hy);have xl := xo.ln;have yl := yo.ln;have xp := dZ.2 xo.ne;have yp := dZ.2 yo.ne;have sx := xo.sz xw;have sy := yo.sz yw;have l1 : (ints x.1).length = x.1.length := dC _;have l2 : (ints y.1).length = y.1.length := dC _;have l3 : (fQ x.2).length = x.2.length := eV _;have l4 : (fQ y.2).length = y.2.length := eV _;have hmx : x.2.length * y.2.length ≤ 2000 * 2000 := L9 xw yw;have hml : ((x.2.length : Int) * y.2.length) = ((x.2.length * y.2.length : Nat) : Int) := by push_cast;rfl
  obtain ⟨bx,wx⟩ := x;obtain ⟨by_,wy⟩ := y;have hmI : (((fQ wx).length : Nat) : Int) * ((fQ wy).length : Nat) = ((wx.length * wy.length : Nat) : Int) := by rw [eV,eV];push_cast;rfl
  have hjG : mP (bx,wx) (by_,wy) = (dY cI (bx ++ by_),pA (bx,wx) (by_,wy) (dY cI (bx ++ by_))) := rfl;rw [hjG,← qQ] at hj;have hbl : (jE (bx ++ by_)).length = bx.length + by_.length := by rw [qP,aF]
  have hmm : ∀ q,q ∈ jE (bx ++ by_) → q ∈ bx ∨ q ∈ by_ := fun q hq => bI.1 ((Go.Pm.sorted_perm _).mem_iff.1 hq);have h1 := ZA bx by_ ⟨by dsimp only at *;omega,by dsimp only at *;omega⟩ ⟨by dsimp only at *;omega,by dsimp only at *;omega⟩
  have h2 := I3 (bx ++ by_);have h3 := X6 (bx ++ by_) (by rw [aF];dsimp only at *;omega)
  have hPl := DH (bx,wx) (by_,wy) (jE (bx ++ by_));generalize jE (bx ++ by_) = bod at *;have h4 := zG5 (bx,wx) (by_,wy) bod;have hit := WU (bx,wx) (by_,wy) bod sx sy (by dsimp only at *;omega) hmm (fun w hw => ⟨(xo.ws w hw).m0,(xo.ws w hw).m1⟩) (fun w hw => ⟨(yo.ws w hw).m0,(yo.ws w hw).m1⟩)
  have hpg : ∀ (q : Nat) (w : W),(pA (bx,wx) (by_,wy) bod)[q]? = some w → Z4 (bx,wx) (by_,wy) bod q = [.agg (wA w)] := fun q w h => RW h
  generalize Z4 (bx,wx) (by_,wy) bod = IT at *;generalize pA (bx,wx) (by_,wy) bod = P at *;have hP : P.length ≤ 1000 := by rw [hPl,pO];dsimp only at *;omega
  clear hPl hmm h2;have h2 := I3 (bx ++ by_);dsimp only at *;have hcl := KG l (by omega)
  have hS : min (i : Int) (k : Int) = ((min i k : Nat) : Int) := by omega
  have hM : max (i : Int) (k : Int) = ((max i k : Nat) : Int) := by omega
  rw [hS,hM,bJ,bJ] at hj;have ts := J8 (L := l) (j := min (i : Int) (k : Int)) (i := min i k) (x := (bod,P)) hS;have qm := zL (L := l) (j := min (i : Int) (k : Int)) (i := min i k) (x := l[min i k]'(by omega)) (aA _) hS
  have hdl := zU0 (l.set (min i k) (bod,P)) (max i k) (max i k + 1) (by omega) (by rw [gG];omega) (by intro h;have := congrArg List.length h;rw [gG,List.length_nil] at this;omega)
  rw [K6,gG,show l.length - (max i k + 1 - max i k) = l.length - 1 by omega,show ((max i k + 1 : Nat) : Int) = max (i : Int) (k : Int) + 1 by omega,← hM] at hdl
  have hel : ((l.set (min i k) (bod,P)).eraseIdx (max i k)).length = l.length - 1 := by rw [fS,gG,if_pos (by omega)]
  generalize l[min i k]'(by omega) = gm at *
  subst hj;rw [hel];refine bO T Tryz.func44 rfl rfl rfl rfl ?_
  (repeat' (first|refine wS ?_|refine wK ?_|refine wU ?_|(refine rg 0 (qJ ?_))|(refine rg 1 (dK rfl (vV (kC (f1)) (dK rfl (vV (kC (f2)) (qJ ?_))))))|(refine rg 2 (dK rfl (vV (gL rfl rfl (by omega)) ?_)))|refine nZ ?_));refine ZS [(0,.rowE (jW l) 2),(8,.i i),(9,.i k),(10,.ptr 0 0),(11,.ptr 1 0)] [.cells [.rowE (ints bx) 1,.rowE (fQ wx) 3],.cells [.rowE (ints by_) 1,.rowE (fQ wy) 3]] ?_ ?_
  · refine KQ (id := 4) cJ ?_;refine yE 0 rfl rfl (by decide +kernel) (by decide +kernel) (by decide +kernel) (by exact uC rfl) rfl ?_
    refine yE 1 rfl rfl (by decide +kernel) (by decide +kernel) (by decide +kernel) (by exact uC rfl) rfl ?_
    refine yE 2 rfl rfl (by decide +kernel) (by decide +kernel) (by decide +kernel) (by exact rY T rfl rfl rfl rfl rfl (by omega) (pT _) qx) rfl ?_
    refine yE 4 rfl rfl (by decide +kernel) (by decide +kernel) (by decide +kernel) (by exact uC rfl) rfl ?_
    refine yE 5 rfl rfl (by decide +kernel) (by decide +kernel) (by decide +kernel) (by exact uC rfl) rfl ?_
    refine yE 6 rfl rfl (by decide +kernel) (by decide +kernel) (by decide +kernel) (by exact rY T rfl rfl rfl rfl rfl (by omega) (pT _) qy) rfl ?_
    refine QC [(0,[]),(1,[]),(2,[0,1]),(3,[2]),(4,[]),(5,[]),(6,[4,5]),(7,[6]),(8,[]),(9,[]),(10,[8,3,0,1,2,3,8,9]),(11,[9,7,10,0,1,2,3,4,5,6,7,8,9,10])] (by decide +kernel) [true,true,true,false,true,true,true,false,false,false,false,false] rfl rfl ?_
    (repeat' (first|(refine zA2 rfl rfl ?_;(first|(refine lV T ?_)|(refine bQ (bT T rfl) rfl ?_)|(refine aU T rfl rfl rfl rfl rfl rfl (by decide) rfl ?_));refine fU ?_;dsimp only [List.set_cons_zero,List.set_cons_succ])|(refine zA1 rfl rfl rfl ?_ ?_<;>((first|(refine lV T ?_)|(refine bQ (bT T rfl) rfl ?_)|(refine aU T rfl rfl rfl rfl rfl rfl (by decide) rfl ?_));refine fU ?_;dsimp only [List.set_cons_zero,List.set_cons_succ]))|(refine zA0 rfl rfl rfl rfl ?_ ?_ ?_<;>((first|(refine lV T ?_)|(refine bQ (bT T rfl) rfl ?_));refine fU ?_;dsimp only [List.set_cons_zero,List.set_cons_succ]))|(refine ZZ rfl rfl rfl rfl rfl ?_ ?_ ?_ ?_<;>((first|(refine lV T ?_)|(refine bQ (bT T rfl) rfl ?_));refine fU ?_;dsimp only [List.set_cons_zero,List.set_cons_succ]))));all_goals first | exact D6 rfl ⟨rfl,[0,1],rfl,(by repeat first|exact trivial|refine ⟨rfl,?_⟩),⟨.inr rfl,.inr rfl,trivial⟩,by decide,kV _⟩ | exact D6 rfl ⟨rfl,[1,0],rfl,(by repeat first|exact trivial|refine ⟨rfl,?_⟩),⟨.inr rfl,.inr rfl,trivial⟩,by decide,kV _⟩
  intro v g hsub;refine NE hsub ?_
  (repeat' (first|refine wS ?_|refine wB ?_|refine wK ?_|(refine wC rfl ?_ ?_<;>(intro hb;(try simp only [nm] at hb);try (exfalso;omega)))|(refine rg 5 (gH T rfl (qW T rfl (gH T rfl (qW T rfl (vV (bV rfl rfl (by omega) (by omega)) (vV (fM rfl rfl) (mV ?_)))))));refine cH rfl rfl ?_ ?_<;>(intro hb;rw [hb];(try simp only [nm] at hb);try (exfalso;omega));(all_goals (refine yP T rfl (yO T rfl (gT (qW T rfl (yP T rfl (yO T rfl (gT (qW T rfl (yV (sE rfl rfl (by omega) (by omega)) (yV (fM rfl rfl) ?_)))))))));refine pV ?_)))|(refine rg 7 (gH T rfl (gH T rfl (bQ (by exact bC T rfl rfl (by decide) (by decide) rfl rfl rfl) rfl ?_)));refine kR 55 rfl rfl rfl rfl ?_;refine vV (kC (h1)) (vV (kC (h2)) (vV (kC (h3)) (vV (by exact eU T rfl rfl rfl rfl) ?_)));refine bQ (bT T rfl) rfl (aU T rfl rfl rfl rfl rfl rfl (by decide) rfl ?_))|(refine rg 8 (lW T rfl (lW T rfl (gH T rfl (vV (kC (h4)) ?_)))))|refine nZ ?_));all_goals try (exfalso;omega)
  refine uK 3 1 3 rfl rfl (by decide) ?_
  refine BH [] [3,4] [(0,.rowE (jW l) 2),(8,.i i),(9,.i k),(12,.ptr 0 0)] (fun m => [.cells [.rowE (ints bod) 1,.sl 1 0 m 3],.arr (fQ (P.take m)) 3]) 1 rfl hit rfl rfl rfl trivial cQ rfl (by repeat first|exact trivial|refine ⟨rfl,?_⟩) ⟨.inr rfl,.inr rfl,trivial⟩ (by decide) (kV _) (by simp) (bU _) (aN rfl) rfl (by decide) (fun m hm => by rw [hpg m P[m] (aA hm)];exact ⟨rfl,rfl⟩) ?_ ?_
  · intro m hm;rw [hpg m P[m] (aA hm)];have hks := aT hm;have hkl' : (fQ (P.take m)).length = m := by rw [eV,bD];omega
    have hW : fQ (P.take (m + 1)) = fQ (P.take m) ++ [wA P[m]] := by rw [hks,fQ,dB];rfl
    generalize P[m] = w at *;obtain ⟨wp,wm,wc⟩ := w;generalize fQ (P.take m) = Q at *;refine dA (id := 9) ?_;refine bQ (by exact bT T rfl) rfl ?_
    refine aU T rfl rfl rfl rfl rfl rfl (by decide) rfl ?_
    refine fU ?_;refine ⟨rfl,?_⟩
    repeat' (first|refine wB ?_|(refine rg 10 (gH T rfl (lW T rfl (bQ (by exact bC T rfl rfl (by decide) (by decide) rfl rfl rfl) rfl ?_)));refine fR T rfl rfl rfl rfl rfl rfl (by omega) (kJ.whole rfl rfl) rfl (by simp;omega) (by simp;omega) rfl ?_;refine fW T rfl (aU T rfl rfl rfl rfl rfl rfl (by decide) rfl ?_))|refine nZ ?_)
    show BW _ _ _ _ [.cells [.rowE (ints bod) 1,.sl 1 0 (m + 1) 3],.arr (fQ (P.take (m + 1))) 3];rw [hW];exact ⟨[0,4],rfl,trivial,⟨.inr (by simp;rfl),.inr (aD rfl (by first | exact lQ hkl'.symm | simp) (by rw [← hW];exact bM _)),trivial⟩,by decide,yB9⟩
  · rw [dS];refine nL 0 1 rfl rfl rfl (eV _).symm (iJ (bM _)) ?_;show AW _ _ _ _ _ _
    (repeat' (first|refine wS ?_|(refine rg 11 (mW rfl (bQ (by exact fL rfl rfl hcl (.inr ⟨rfl,rfl,by simp⟩)) rfl ?_));refine aV ?_)|refine nZ ?_));refine fE [(8,.i i),(9,.i k),(12,.ptr 0 0),(14,.sl 1 0 l.length 2)] [.cells [.rowE (ints bod) 1,.rowE (fQ P) 3],.arr (jW l) 2] ⟨[0,2],rfl,(by repeat first|exact trivial|refine ⟨rfl,?_⟩),⟨.inr rfl,.inr (aD rfl (bY _ (eG _)) (eG _)),trivial⟩,by decide,kV _⟩ ?_
    (repeat' (first|refine wS ?_|(refine rg 12 (dK rfl (mW rfl (vV (AO rfl rfl) (lW T rfl (vV (by exact aJ T rfl rfl rfl rfl rfl (by omega) (by omega)) ?_)))));refine aU T rfl rfl rfl rfl rfl rfl (by decide) (lX rfl qm rfl) ?_)|refine nZ ?_));refine fE [(8,.i i),(9,.i k),(14,.sl 0 0 l.length 2)] [.arr (jW (l.set (min i k) (bod,P))) 2] ⟨[1],rfl,(by repeat first|exact trivial|refine ⟨rfl,?_⟩),⟨.inr (aD rfl ts (eG _)),trivial⟩,by decide,kV _⟩ ?_
    (repeat' (first|refine wR ?_|(refine rg 13 (dK rfl (mW rfl (vV (xF rfl rfl) (dK rfl (vV (xF rfl rfl) (vV (bV rfl rfl (by omega) (by omega)) (fF [0] rfl rfl (hdl) rfl rfl (by decide) ⟨.inr (aD rfl rfl (eG _)),trivial⟩ (by simp) rfl ?_)))))));refine qJ ?_)|refine nZ ?_));all_goals exact ⟨.inl rfl,[0],_,rfl,rfl,rfl,⟨.inr (aD rfl (bY _ (eG _)) (eG _)),trivial⟩,by decide,kV _⟩
end Go.Proofs.YtmmkhmilpeodnaaGreat
namespace Go.Ld
open Go.Ab Go.Proofs.YtmmkhmilpeodnaaGreat
structure qI (c : Cx) : Prop where
  f : zC6 c.ks c.ls (nats (List.range c.bs.length)) c.bs
  s : lR c.m c.st c.er c.sl
theorem qI.unit {c : Cx} (h : qI c) (lot : Int) : 0 ≤ nJ c.ks c.ls lot := by
  unfold nJ;split
  · exact eP _
  · rw [aC];cases hq : c.ks[(c.ls.getD lot.toNat (0,0,false)).1.toNat]? with
    | none => exact eP _
    | some x =>
      obtain ⟨h1,h2⟩ := aB.1 hq;have := (h.f.k _ h1).1;rw [h2] at this;exact this
end Go.Ld
namespace Go.Proofs.YtmmkhmilpeodnaaGreat
open Go Go.Ab Go.Ld
attribute [local irreducible] VC AW bX aR kY
set_option maxHeartbeats 4000000
theorem QO (t u w e : Int) (hu : 0 ≤ u) : aR Tryz.prog 92 [.i t,.i u,.i w,.i e] [] (.tup [lF (UM t u w e).1.1 (UM t u w e).1.2,.b (UM t u w e).2]) [] := by
  unfold UM;by_cases h : GA t u w e
  · rw [if_pos (show EA t u w e = true from decide_eq_true h)]
    by_cases h1 : w + e - t < 0 ∨ u = 0 ∧ 0 < w - e - t
    · rw [if_pos h1];exact HF t u w e h h1
    · rw [if_neg h1];by_cases h2 : u = 0
      · rw [if_pos h2];exact HG t u w e h (by omega) h2 (by omega)
      · rw [if_neg h2];exact LO t u w e h (by omega) (by omega)
  · have h' : ¬ EA t u w e = true := fun q => h (by simpa [EA,GA] using q)
    rw [if_neg h'];exact LN t u w e h
theorem zI3 (r q : SP) : aR Tryz.prog 93 [lF r.1 r.2,lF q.1 q.2] [] (.tup [lF (L0 (max r.1 q.1) (min r.2 q.2)).1.1 (L0 (max r.1 q.1) (min r.2 q.2)).1.2,.b (L0 (max r.1 q.1) (min r.2 q.2)).2]) [] := zI4 r.1 r.2 q.1 q.2
theorem WN (r : SP) (n s : Int) (hf : 0 ≤ r.1 ∧ r.1 ≤ 20001 ∧ 0 ≤ r.2 ∧ r.2 ≤ 20001) : aR Tryz.prog 94 [lF r.1 r.2,.i n,.i s] [] (.tup [lF (zD r n s).1.1 (zD r n s).1.2,.b (zD r n s).2]) [] := by
  unfold zD;by_cases h : 0 ≤ n ∧ n ≤ 1099511627776 ∧ 0 ≤ s ∧ s ≤ 1099511627776
  · rw [if_pos h];exact RX r.1 r.2 n s hf h
  · rw [if_neg h];exact MA r.1 r.2 n s h
abbrev zV4 (s : Ev) : AV := oI s.k s.a s.b s.n s.ids
theorem ZK (c : Cx) (gs : List G) {n q : Nat} (w : W) {i : Nat} (s : Ev) (hc : qI c) (hw : CE n q w) (hn : n = c.bs.length) (hi : i < q) (hq : q ≤ 1000) (hids : s.ids.length ≤ 9223372036854775807) (hsn : 0 ≤ s.n ∧ s.n ≤ 1099511627776) :
    aR Tryz.prog 47 [.pr (gN c gs) 0,LJ w,.i i,zV4 s] [] (.tup [.agg [.sl 0 0 w.1.length 1,.i (kG c w i s).1.2.1,.sl 1 0 w.2.2.length 2],.b (kG c w i s).2]) [.arr (ints w.1) 1,.arr (fA (kG c w i s).1.2.2) 2] := by
  have hpl := hw.pl;have hcl := hw.cl;have hcw := GH w ⟨by omega,by omega⟩
  obtain ⟨g1,g2,g3,g4,g5⟩ := hw.at hi;have hm0 := hw.m0;have hm1 := hw.m1;have hids' : (ints s.ids).length = s.ids.length := dC _;obtain ⟨st1,st2,st3,st4,st5,st6,st7,st8⟩ := hc.s;have hbo : (kG c w i s).1.2.2 = (kG c w i s).1.2.2 := rfl;unfold kG gP gC at *;obtain ⟨p,m,cs⟩ := w;obtain ⟨sk,sa,sb,sn,ids⟩ := s;dsimp only at *;have hlp : (ints p).length = p.length := dC _;have hlc : (fA cs).length = cs.length := gJ _;have qp := J5 (l := p) (j := (i : Int)) (i := i) 0 (by omega) rfl
  have qc := I6 (l := cs) (j := (i : Int)) (i := i) (by omega) rfl
  have ct : ∀ r : SP,_ := fun r => X5 (l := cs) (j := (i : Int)) (i := i) (r := r) rfl;have ctn : ∀ x y : Int,(fA cs).set (0 + (i : Int).toNat) [AV.i x,AV.i y] = fA (cs.set i (x,y)) := fun x y => ct (x,y);clear ct hbo;generalize hx : p.getD i 0 = x at *;generalize hr : cs.getD i (0,0) = r at *;obtain ⟨r1,r2⟩ := r;dsimp only at *;have hbx : c.bs[x.toNat]? = some (c.bs.getD x.toNat (0,0,0)) := by
    rw [aC,aA (by omega)];rfl
  refine bO T Tryz.func47 rfl rfl rfl rfl ?_
  (repeat' (first|refine wS ?_|refine wB ?_|(refine rg 0 (bQ (cD rfl rfl) rfl (bQ (cD rfl rfl) rfl (bQ (bT T rfl) rfl (aV ?_)))))|(refine rg 1 (lW T rfl (bQ (by exact fL rfl rfl hcw (.inr ⟨rfl,rfl,by simp⟩)) rfl ?_));refine aU T rfl rfl rfl rfl rfl rfl (by decide) rfl ?_)|(refine rg 2 (aV ?_))|(refine rg 3 (TG T ?_))|refine nZ ?_));refine fE [(0, .pr (gN c gs) 0), (2, .i i), (5, .ptr 0 0), (7, .ptr 1 0), (8, .ptr 2 0), (10, .b true), (18, .i sk)] [.cells [.sl 3 0 p.length 1, .i m, .sl 4 0 cs.length 2], .cells [.i sk, .i sa, .i sb, .i sn, .rowE (ints ids) 1], .cells [.nils, .i 0, .nils], .arr (ints p) 1, .arr (fA cs) 2]
    ⟨[0,1,2,3,4],rfl,(by repeat first|exact trivial|refine ⟨rfl,?_⟩),⟨.inr rfl,.inr rfl,.inr rfl,.inr (aD rfl (bY _ (ints_idf _)) (ints_idf _)),.inr (aD rfl (bY _ (eZ _)) (eZ _)),trivial⟩,by decide,kV _⟩ ?_
  by_cases k0 : sk = 0
  · rw [if_pos k0];have hct := G7 ids x hids;by_cases hin : x ∈ ids
    · rw [if_pos hin];rw [decide_eq_true hin] at hct;dsimp only
      (repeat' (first|refine wS ?_|refine wR ?_|refine wT ?_|(refine rg 4 (vV (lO rfl rfl (by omega)) (aV ?_)))|(refine rg 5 (fW T rfl (vV (aP T rfl rfl rfl rfl) (qW T rfl (aV ?_)))))|(refine tS (id := 6) 7 153 [[],[0],[],[2],[],[2,3,4],rM 2 4,rN 7] [[],[0],[],[2],[],[2,3,4],rM 2 4] (rM 24 7) yI6 cJ rfl (by decide +kernel) (by decide +kernel) ?_;(dsimp only [List.take,List.drop]);refine dP T rfl (dO T rfl (dP T rfl (dO T rfl (dN rfl (dV rfl (by exact aJ T rfl rfl rfl rfl rfl (by omega) (by omega)) ?_)))));refine dV rfl (by exact aP T rfl rfl (bH rfl qp) rfl) ?_;refine dE ?_;refine fU ?_;refine vV (kC (hct)) ?_)|(refine rg 7 (mW rfl (vV (cP rfl rfl (by omega) (by omega)) (aV ?_))))|(refine rg 9 (dK rfl (nV ?_));refine fW T rfl (fW T rfl (vV (aP T rfl rfl rfl rfl) (vV (iO rfl rfl) (aV ?_)))))|(refine rg 23 (vV (aP T rfl rfl rfl rfl) (mW rfl (aU T rfl rfl rfl rfl rfl rfl (by decide) rfl (aV ?_)))))|refine nZ ?_));all_goals first | (exfalso;omega) | exact ⟨.inl rfl,[3,4],_,rfl,by rw [← hids'];rfl,rfl,⟨.inr (aD rfl rfl (ints_idf _)),.inr (aD rfl rfl (eZ _)),trivial⟩,by decide,kV _⟩
    · rw [if_neg hin];rw [decide_eq_false hin] at hct;dsimp only
      (repeat' (first|refine wS ?_|refine wR ?_|refine wT ?_|refine wU ?_|(refine rg 4 (vV (lO rfl rfl (by omega)) (aV ?_)))|(refine rg 5 (fW T rfl (vV (aP T rfl rfl rfl rfl) (qW T rfl (aV ?_)))))|(refine tS (id := 6) 7 153 [[],[0],[],[2],[],[2,3,4],rM 2 4,rN 7] [[],[0],[],[2],[],[2,3,4],rM 2 4] (rM 24 7) yI6 cJ rfl (by decide +kernel) (by decide +kernel) ?_;(dsimp only [List.take,List.drop]);refine dP T rfl (dO T rfl (dP T rfl (dO T rfl (dN rfl (dV rfl (by exact aJ T rfl rfl rfl rfl rfl (by omega) (by omega)) ?_)))));refine dV rfl (by exact aP T rfl rfl (bH rfl qp) rfl) ?_;refine dE ?_;refine fU ?_;refine vV (kC (hct)) ?_)|(refine rg 8 (fW T rfl (vV (aP T rfl rfl rfl rfl) (vV (bV rfl rfl (by omega) (by omega)) (fW T rfl (aU T rfl rfl rfl rfl rfl rfl (by decide) rfl ?_))))))|(refine rg 9 (dK rfl (nV ?_));refine fW T rfl (fW T rfl (vV (aP T rfl rfl rfl rfl) (vV (iO rfl rfl) (aV ?_)))))|(refine rg 23 (vV (aP T rfl rfl rfl rfl) (mW rfl (aU T rfl rfl rfl rfl rfl rfl (by decide) rfl (aV ?_)))))|refine nZ ?_));all_goals first | (exfalso;omega) | exact ⟨.inl rfl,[3,4],_,rfl,by rw [← hids'];rfl,rfl,⟨.inr (aD rfl rfl (ints_idf _)),.inr (aD rfl rfl (eZ _)),trivial⟩,by decide,kV _⟩
  by_cases k1 : sk = 1
  · rw [if_neg k0,if_pos k1];have hbl := hc.f.b x.toNat (by omega)
    have hgx : c.bs[x.toNat]'(by omega) = c.bs.getD x.toNat (0,0,0) := by rw [aC,aA (by omega)];rfl
    rw [hgx] at hbl;have hbxl : (cW c.bs).length = c.bs.length := bB _;have qb : (cW c.bs)[x.toNat]? = some [.i (c.bs.getD x.toNat (0,0,0)).1,.i (c.bs.getD x.toNat (0,0,0)).2.1,.i (c.bs.getD x.toNat (0,0,0)).2.2] := by rw [bS,hbx];rfl
    generalize c.bs.getD x.toNat (0,0,0) = bx at *;obtain ⟨lot,cnt,ta⟩ := bx;dsimp only at *;have hun := US hc.f (lot := lot) (by omega)
    have hu0 := hc.unit lot;generalize nJ c.ks c.ls lot = u at *;have hwg := QO ta u sn c.er hu0;unfold uP sC;dsimp only;generalize UM ta u sn c.er = z at *;obtain ⟨⟨z1,z2⟩,zb⟩ := z;dsimp only at *;cases zb with
    | true =>
      rw [if_pos rfl];have hin := zI3 (r1,r2) (z1,z2);dsimp only at *;generalize L0 (max r1 z1) (min r2 z2) = y at *;obtain ⟨⟨y1,y2⟩,yb⟩ := y;dsimp only at *
      (repeat' (first|refine wS ?_|refine wR ?_|refine wT ?_|refine wU ?_|(refine rg 4 (vV (gL rfl rfl (by omega)) (aV ?_)))|(refine rg 10 (vV (lO rfl rfl (by omega)) (aV ?_)))|(refine bN (id := 11) 153 yI7 [47,48,49,50,51,52,53,54,55,56,57,12] yI8 cJ rfl (by decide +kernel) (dN rfl (dV rfl (by exact eS rfl rfl) ?_));refine dP T rfl (dO T rfl (dP T rfl (dO T rfl (dN rfl (dV rfl (by exact aJ T rfl rfl rfl rfl rfl (by omega) (by omega)) ?_)))));refine dV rfl (by exact aP T rfl rfl (bH rfl qp) rfl) ?_;refine dV rfl (ix T rfl (by omega) (gV _) qb) (dO T rfl (zT rfl rfl rfl (by exact bT T rfl) rfl ?_));refine dE ?_;refine aU T rfl rfl rfl rfl rfl rfl (by decide) rfl ?_)|(refine L3 (id := 12) 23 25 153 (by (dsimp only [H3];done)) (by decide +kernel) yI9 [59,60,61,62,63,64,65,66,67,68,69,70,71,72,73,74,75,76,77,78,79,58,80,81,13] yJ0 cJ rfl (by decide +kernel) (dP T rfl (dO T rfl (dN rfl (dV rfl (by exact eS rfl rfl) ?_))));refine dP T rfl (dO T rfl (dN rfl (dV rfl (by exact eS rfl rfl) ?_)));refine dP T rfl (dO T rfl (dP T rfl (dO T rfl (dV rfl (kC (hun)) (dP T rfl (dO T rfl (dN rfl (dV rfl (by exact eS rfl rfl) ?_))))))));refine dP T rfl (dP T rfl (dO T rfl (dV rfl (kC (hwg)) (dN rfl (dV rfl (by exact jY rfl rfl) ?_)))));refine dV rfl (by exact jY rfl rfl) ?_;refine zT rfl rfl rfl (by exact bT T rfl) rfl ?_;refine dE ?_;refine aU T rfl rfl rfl rfl rfl rfl (by decide) rfl (aV ?_))|(refine rg 13 (mV ?_))|(refine L3 (id := 14) 9 10 153 (by (dsimp only [H3];done)) (by decide +kernel) [[],[0],[],[0,1,2],rN 4,[],rN 6,rN 7,rN 8,rN 8] [84,85,86,87,88,89,90,83,91,92] [[],[],[84,85],[],[],rM 84 5,[],[],[],[91]] cJ rfl (by decide +kernel) (dP T rfl (dO T rfl (dN rfl (dV rfl (by exact aJ T rfl rfl rfl rfl rfl (by omega) (by omega)) ?_))));refine dV rfl (by exact aP T rfl rfl (bH rfl qc) rfl) ?_;refine dO T rfl (dV rfl (kC (hin)) (dN rfl (dV rfl (by exact jY rfl rfl) ?_)));refine dV rfl (by exact jY rfl rfl) ?_;refine dE ?_;refine aU T rfl rfl rfl rfl rfl rfl (by decide) rfl (aV ?_))|(refine rg 15 (fW T rfl (vV (aP T rfl rfl rfl rfl) (mW rfl (vV (aP T rfl rfl rfl rfl) (mW rfl (vV (by exact aJ T rfl rfl rfl rfl rfl (by omega) (by omega)) ?_))))));refine aU T rfl rfl rfl rfl rfl rfl (by decide) (lX rfl qc rfl) (aV ?_))|(refine rg 23 (vV (aP T rfl rfl rfl rfl) (mW rfl (aU T rfl rfl rfl rfl rfl rfl (by decide) rfl (aV ?_)))))|refine nZ ?_));all_goals first | (exfalso;omega) | exact ⟨.inl rfl,[3,4],_,rfl,rfl,rfl,⟨.inr (aD rfl rfl (ints_idf _)),.inr (aD rfl (ctn y1 y2) (eZ _)),trivial⟩,by decide,kV _⟩
    | false =>
      rw [if_neg (by simp)]
      (repeat' (first|refine wS ?_|refine wK ?_|refine wR ?_|refine wT ?_|refine wU ?_|(refine rg 4 (vV (gL rfl rfl (by omega)) (aV ?_)))|(refine rg 10 (vV (lO rfl rfl (by omega)) (aV ?_)))|(refine bN (id := 11) 153 yI7 [47,48,49,50,51,52,53,54,55,56,57,12] yI8 cJ rfl (by decide +kernel) (dN rfl (dV rfl (by exact eS rfl rfl) ?_));refine dP T rfl (dO T rfl (dP T rfl (dO T rfl (dN rfl (dV rfl (by exact aJ T rfl rfl rfl rfl rfl (by omega) (by omega)) ?_)))));refine dV rfl (by exact aP T rfl rfl (bH rfl qp) rfl) ?_;refine dV rfl (ix T rfl (by omega) (gV _) qb) (dO T rfl (zT rfl rfl rfl (by exact bT T rfl) rfl ?_));refine dE ?_;refine aU T rfl rfl rfl rfl rfl rfl (by decide) rfl ?_)|(refine L3 (id := 12) 23 25 153 (by (dsimp only [H3];done)) (by decide +kernel) yI9 [59,60,61,62,63,64,65,66,67,68,69,70,71,72,73,74,75,76,77,78,79,58,80,81,13] yJ0 cJ rfl (by decide +kernel) (dP T rfl (dO T rfl (dN rfl (dV rfl (by exact eS rfl rfl) ?_))));refine dP T rfl (dO T rfl (dN rfl (dV rfl (by exact eS rfl rfl) ?_)));refine dP T rfl (dO T rfl (dP T rfl (dO T rfl (dV rfl (kC (hun)) (dP T rfl (dO T rfl (dN rfl (dV rfl (by exact eS rfl rfl) ?_))))))));refine dP T rfl (dP T rfl (dO T rfl (dV rfl (kC (hwg)) (dN rfl (dV rfl (by exact jY rfl rfl) ?_)))));refine dV rfl (by exact jY rfl rfl) ?_;refine zT rfl rfl rfl (by exact bT T rfl) rfl ?_;refine dE ?_;refine aU T rfl rfl rfl rfl rfl rfl (by decide) rfl (aV ?_))|(refine rg 13 (mV ?_))|(refine rg 15 (fW T rfl (vV (aP T rfl rfl rfl rfl) (mW rfl (vV (aP T rfl rfl rfl rfl) (mW rfl (vV (by exact aJ T rfl rfl rfl rfl rfl (by omega) (by omega)) ?_))))));refine aU T rfl rfl rfl rfl rfl rfl (by decide) (lX rfl qc rfl) (aV ?_))|(refine rg 23 (vV (aP T rfl rfl rfl rfl) (mW rfl (aU T rfl rfl rfl rfl rfl rfl (by decide) rfl (aV ?_)))))|refine nZ ?_));all_goals first | (exfalso;omega) | exact ⟨.inl rfl,[3,4],_,rfl,rfl,rfl,⟨.inr (aD rfl rfl (ints_idf _)),.inr (aD rfl (ctn z1 z2) (eZ _)),trivial⟩,by decide,kV _⟩
  by_cases k2 : sk = 2
  · have hpk := WN (r1,r2) sn c.sl ⟨by omega,by omega,by omega,by omega⟩
    rw [if_neg k0,if_neg k1,if_pos k2];unfold sC;dsimp only at *;generalize zD (r1,r2) sn c.sl = z at *;obtain ⟨⟨z1,z2⟩,zb⟩ := z;dsimp only at *
    (repeat' (first|refine wS ?_|refine wR ?_|refine wT ?_|refine wU ?_|(refine rg 4 (vV (gL rfl rfl (by omega)) (aV ?_)))|(refine rg 10 (vV (gL rfl rfl (by omega)) (aV ?_)))|(refine rg 16 (vV (lO rfl rfl (by omega)) (aV ?_)))|(refine L3 (id := 17) 18 20 153 (by (dsimp only [H3];done)) (by decide +kernel) [[],[0],[],[],[3],[],[3,4,5],rM 3 4,[],[8],[],[10],[10,11],[10,11,12],rM 10 4,rM 3 12,rM 3 13,rM 3 14,rM 3 14,rN 18] [102,103,104,105,106,107,108,109,110,111,112,113,114,115,116,117,101,118,119,120] [[],[],[102,103],[102,103,104],[102,103,104],rM 102 5,[102,103,104],[102,103,104],rM 102 8,rM 102 8,rM 102 10,rM 102 10,rM 102 10,rM 102 10,rM 102 10,[102,103,104],[102,103,104],[102,103,104],[102,103,104,118],[119]] cJ rfl (by decide +kernel) (dP T rfl (dO T rfl (dN rfl (dP T rfl (dO T rfl (dN rfl (dV rfl (by exact aJ T rfl rfl rfl rfl rfl (by omega) (by omega)) ?_)))))));refine dV rfl (by exact aP T rfl rfl (bH rfl qc) rfl) ?_;refine dP T rfl (dO T rfl (dN rfl (dV rfl (by exact eS rfl rfl) ?_)));refine dP T rfl (dP T rfl (dO T rfl (dV rfl (kC (hpk)) (dN rfl (dV rfl (by exact jY rfl rfl) ?_)))));refine dV rfl (by exact jY rfl rfl) ?_;refine dV rfl (by exact aJ T rfl rfl rfl rfl rfl (by omega) (by omega)) ?_;refine dE ?_;refine aU T rfl rfl rfl rfl rfl rfl (by decide) (lX rfl qc rfl) (aV ?_))|(refine rg 23 (vV (aP T rfl rfl rfl rfl) (mW rfl (aU T rfl rfl rfl rfl rfl rfl (by decide) rfl (aV ?_)))))|refine nZ ?_));all_goals first | (exfalso;omega) | exact ⟨.inl rfl,[3,4],_,rfl,rfl,rfl,⟨.inr (aD rfl rfl (ints_idf _)),.inr (aD rfl (ctn z1 z2) (eZ _)),trivial⟩,by decide,kV _⟩
  by_cases k3 : sk = 3
  · rw [if_neg k0,if_neg k1,if_neg k2,if_pos k3];have hhs := OJ r1 r2 sn;unfold sC;dsimp only;generalize uZ r1 r2 sn = hb' at *
    (repeat' (first|refine wS ?_|refine wR ?_|refine wT ?_|refine wU ?_|(refine rg 4 (vV (gL rfl rfl (by omega)) (aV ?_)))|(refine rg 10 (vV (gL rfl rfl (by omega)) (aV ?_)))|(refine rg 16 (vV (gL rfl rfl (by omega)) (aV ?_)))|(refine rg 18 (vV (lO rfl rfl (by omega)) (aV ?_)))|(refine bN (id := 19) 153 [[],[0],[],[0,1,2],rN 4,[],[5],rN 7] (rM 123 8) [[],[],[123,124],[],[],rM 123 5,rM 123 5,[]] cJ rfl (by decide +kernel) (dP T rfl (dO T rfl (dN rfl (dV rfl (by exact aJ T rfl rfl rfl rfl rfl (by omega) (by omega)) ?_))));refine dV rfl (by exact aP T rfl rfl (bH rfl qc) rfl) ?_;refine dP T rfl (dO T rfl (dV rfl (kC (hhs)) (dE ?_)));refine aV ?_)|(refine rg 20 (fW T rfl (vV (aP T rfl rfl rfl rfl) (mW rfl (fW T rfl (vV (aP T rfl rfl rfl rfl) (fW T rfl (vV (aP T rfl rfl rfl rfl) (vV (bV rfl rfl (by omega) (by omega)) (vV (by exact eU T rfl rfl rfl rfl) ?_)))))))));refine vV (by exact aJ T rfl rfl rfl rfl rfl (by omega) (by omega)) ?_;refine aU T rfl rfl rfl rfl rfl rfl (by decide) (lX rfl qc rfl) ?_)|(refine rg 23 (vV (aP T rfl rfl rfl rfl) (mW rfl (aU T rfl rfl rfl rfl rfl rfl (by decide) rfl (aV ?_)))))|refine nZ ?_));all_goals first | (exfalso;omega) | exact ⟨.inl rfl,[3,4],_,rfl,rfl,rfl,⟨.inr (aD rfl rfl (ints_idf _)),.inr (aD rfl (ctn sn (sn + 1)) (eZ _)),trivial⟩,by decide,kV _⟩
  by_cases k5 : sk = 5
  · rw [if_neg k0,if_neg k1,if_neg k2,if_neg k3,if_pos k5];dsimp only
    (repeat' (first|refine wS ?_|refine wR ?_|refine wT ?_|refine wU ?_|(refine rg 4 (vV (gL rfl rfl (by omega)) (aV ?_)))|(refine rg 10 (vV (gL rfl rfl (by omega)) (aV ?_)))|(refine rg 16 (vV (gL rfl rfl (by omega)) (aV ?_)))|(refine rg 18 (vV (gL rfl rfl (by omega)) (aV ?_)))|(refine rg 21 (vV (lO rfl rfl (by omega)) (aV ?_)))|(refine bN (id := 22) 153 [[],[0],[],[0,1,2],rN 4,[],[5],rN 7] (rM 143 8) [[],[],[143,144],[],[],rM 143 5,rM 143 5,[]] cJ rfl (by decide +kernel) (dP T rfl (dO T rfl (dN rfl (dV rfl (by exact aJ T rfl rfl rfl rfl rfl (by omega) (by omega)) ?_))));refine dV rfl (by exact aP T rfl rfl (bH rfl qp) rfl) ?_;refine dP T rfl (dO T rfl (dV rfl (dR rfl rfl) (dE ?_)));refine aV ?_)|(refine rg 23 (vV (aP T rfl rfl rfl rfl) (mW rfl (aU T rfl rfl rfl rfl rfl rfl (by decide) rfl (aV ?_)))))|refine nZ ?_));all_goals first | (exfalso;omega) | exact ⟨.inl rfl,[3,4],_,rfl,rfl,rfl,⟨.inr (aD rfl rfl (ints_idf _)),.inr (aD rfl rfl (eZ _)),trivial⟩,by decide,kV _⟩
  · rw [if_neg k0,if_neg k1,if_neg k2,if_neg k3,if_neg k5]
    (repeat' (first|refine wS ?_|refine wK ?_|refine wR ?_|refine wU ?_|(refine rg 4 (vV (gL rfl rfl (by omega)) (aV ?_)))|(refine rg 10 (vV (gL rfl rfl (by omega)) (aV ?_)))|(refine rg 16 (vV (gL rfl rfl (by omega)) (aV ?_)))|(refine rg 18 (vV (gL rfl rfl (by omega)) (aV ?_)))|(refine rg 21 (vV (gL rfl rfl (by omega)) (aV ?_)))|(refine rg 23 (lW T rfl (mW rfl (aU T rfl rfl rfl rfl rfl rfl (by decide) rfl (aV ?_)))))|refine nZ ?_));all_goals first | (exfalso;omega) | exact ⟨.inl rfl,[3,4],_,rfl,rfl,rfl,⟨.inr (aD rfl rfl (ints_idf _)),.inr (aD rfl rfl (eZ _)),trivial⟩,by decide,kV _⟩
end Go.Proofs.YtmmkhmilpeodnaaGreat
namespace Go.Ld
open Go.Ab Go.Proofs.YtmmkhmilpeodnaaGreat
theorem GM (c : Cx) (w : W) (i : Nat) (s : Ev) : (kG c w i s).1.1 = w.1 ∧ (kG c w i s).1.2.2.length = w.2.2.length := by
  unfold kG sC;dsimp only
  repeat' split
  all_goals exact ⟨rfl,by first | rfl | exact gG⟩
end Go.Ld
namespace Go.Proofs.YtmmkhmilpeodnaaGreat
open Go Go.Ab Go.Ld
end Go.Proofs.YtmmkhmilpeodnaaGreat
namespace Go.Ld
open Go.Ab Go.Proofs.YtmmkhmilpeodnaaGreat
theorem zY1 : ∀ i : Nat,i < 3 → ([0,1,2] : List Nat)[i]? = some i := by decide
theorem YD {r : Int} {L : List AV} (h : AV.idfL L = true) : AV.idfL [AV.pr [.i r] 0,.pr [.pr L 0] 0] = true := by simp [AV.idfL,AV.idf,h]
theorem sU {h : Hp} {i : Nat} {θ : Nat → Nat} {cs : List AV} (hk : h[i]? = some (.cells cs)) (hi : AV.idfL cs = true) : h[i]? = some ((AB.cells cs).map θ) := by
  rw [hk];show _ = some (AB.cells (AV.mapL θ cs));rw [oS θ cs hi]
theorem ES {h : Hp} (x : W) : oK h (.agg (wA x)) (.agg (wA x)) := .agg (.cons (.row _ _ _) (.cons (.v _) (.cons (.row _ _ _) .nil)))
end Go.Ld
namespace Go.Proofs.YtmmkhmilpeodnaaGreat
open Go Go.Ab Go.Ld
attribute [local irreducible] VC AW bX aR
set_option maxHeartbeats 4000000
theorem TL {F : FuncId} {r : Int} {L : List AV} {q : W → Bool} (l : List W) (hl : l.length ≤ 1000000) (hL : AV.idfL L = true) (hp : AV.plnL L = true) (hF : ∀ x,x ∈ l → aR Tryz.prog F [.agg (wA x),.pr [.i r] 0,.pr [.pr L 0] 0] [] (.b (q x)) []) :
    aR Tryz.prog 104 [.sl 0 0 l.length 3,.clo (.func F) [] [.pr [.i r] 0,.ptr 1 0]] [.arr (fQ l) 3,.cells [.ptr 2 0],.cells L] (.sl 0 0 (fT q l).length 3) [.arr (fQ (fT q l)) 3,.cells [.ptr 2 0],.cells L] := by
  have hll : (fQ l).length = l.length := eV l;have hi : AV.idfL [AV.pr [.i r] 0,.pr [.pr L 0] 0] = true := YD hL;have hix := XU hl hi hF;have hvc : ∀ {X : AB} {Y : Hp},mI (X :: .cells [.ptr 2 0] :: .cells L :: Y) [AV.pr [.i r] 0,.ptr 1 0] [.pr [.i r] 0,.pr [.pr L 0] 0] := fun {X Y} => .cons (.pr _ _) (.cons (.ptr rfl (.cons (.ptr rfl (gM _ hp)) .nil)) .nil);have hvw : oK [.arr (fQ l) 3,.cells [.ptr 2 0],.cells L] (.sl 0 0 l.length 3) (.rowE (fQ l) 3) := vH rfl hll.symm (vP (fun _ => rfl) _);refine bO T Tryz.func104 rfl rfl rfl rfl ?_;rcases O9 q l 0 with ⟨h1,h2⟩ | ⟨j,hj,h1,h2,h3⟩
  · rw [h1] at hix;have hk : fT q l = l := F4.2 fun x hx => by rw [h2 x hx];rfl
    rw [hk]
    (repeat' (first|refine wS ?_|refine wR ?_|refine wT ?_|(refine rg 0 (aV ?_))|(refine rg 1 (dK rfl (vV (by exact fB rfl rfl hix (.cons hvw (.cons (.clo .nil hvc) .nil)) rfl rfl) ?_));refine aV ?_)|(refine rg 2 (mW rfl (vV (dR rfl rfl) ?_)))|(refine rg 3 (mW rfl (aV ?_)))|refine nZ ?_));all_goals first | (exfalso;omega) | exact ⟨.inl rfl,[0,1,2],_,rfl,rfl,rfl,⟨.inr (aD rfl rfl (bM _)),.inr rfl,.inr (sU rfl hL),trivial⟩,by decide,zY1⟩
  · rw [h1,Nat.zero_add] at hix;have hk0 : fT q (l.take (j + 1)) = l.take j := by
      rw [xA hj,if_pos h2];exact F4.2 fun x hx => by rw [h3 x hx];rfl
    have hkl : (fT q (l.take (j + 1))).length = j := by rw [hk0];simp;omega
    have hka : fT q (l.take (j + 1)) ++ l.drop (fT q (l.take (j + 1))).length = l := by rw [hkl,hk0,bL]
    have hkf : fT q l = fT q (l.take l.length) := by rw [dS]
    rw [hkf]
    (repeat' (first|refine wS ?_|refine wB ?_|refine wK ?_|refine wU ?_|(refine rg 0 (aV ?_))|(refine rg 1 (dK rfl (vV (by exact fB rfl rfl hix (.cons hvw (.cons (.clo .nil hvc) .nil)) rfl rfl) ?_));refine aV ?_)|(refine rg 2 (mW rfl (vV (dR rfl rfl) ?_)))|(refine iA 4 rfl rfl rfl (by omega) (by omega) ?_)|refine nZ ?_));all_goals try (exfalso;omega)
    refine cN (X := {m : Nat // m ≤ l.length}) (fun m => [(0,.sl 0 0 l.length 3),(1,.clo (.func F) [] [.pr [.i r] 0,.ptr 1 0]),(5,.i (fT q (l.take m.1)).length),(6,.i m.1)]) (fun m => [.arr (fQ (fT q (l.take m.1) ++ l.drop (fT q (l.take m.1)).length)) 3,.cells [.ptr 2 0],.cells L]) (fun m => l.length - m.1) ⟨j + 1,hj⟩ ⟨[0,1,2],rfl,⟨rfl,rfl,by dsimp only;rw [hkl];rfl,rfl,trivial⟩,⟨.inr (aD rfl (by dsimp only;rw [hka]) (bM _)),.inr rfl,.inr (sU rfl hL),trivial⟩,by decide,zY1⟩ ?_
    rintro ⟨m,hm⟩;dsimp only;have hle := JF q l m;by_cases hlt : m < l.length
    · have hs := xA (q := q) hlt;have hget := NF (G := fT q (l.take m)) (l := l) (m := m) (i := 0 + (m : Int).toNat) hle hlt (by omega)
      have hg2 := NF (G := fT q (l.take m)) (l := l) (m := (fT q (l.take m)).length) (i := 0 + (((fT q (l.take m)).length : Nat) : Int).toNat) (aY _) (by omega) (by omega)
      rw [oT hlt] at hget;have hset := zP8 (G := fT q (l.take m)) (l := l) (x := l[m]) (j := (((fT q (l.take m)).length : Nat) : Int)) (by omega) rfl
      have hc := hF l[m] (aI hlt);have hal := SM (G := fT q (l.take m)) (l := l) (by omega)
      generalize l[m] = x at *;generalize l.getD (fT q (l.take m)).length w0 = y at *;generalize hG : fT q (l.take m) = G at *;generalize hA : fQ (G ++ l.drop G.length) = A at *;cases e : q x
      · rw [e] at hc hs;rw [if_neg (by simp)] at hs
        (repeat' (first|refine wS ?_|refine wB ?_|refine wK ?_|refine wT ?_|(refine wC rfl ?_ ?_<;>(intro hb;(try simp only [nm] at hb);try (exfalso;omega)))|(refine rg 5 (dK rfl (qW T rfl (vV (aL rfl rfl) ?_))))|(refine rg 7 (dK rfl (vV (by exact aJ T rfl rfl rfl rfl rfl (by omega) (by omega)) ?_));refine vV (by exact aP T rfl rfl (bH rfl hget) rfl) ?_;refine bQ (bT T rfl) rfl (aU T rfl rfl rfl rfl rfl rfl (by decide) rfl ?_))|(refine rg 8 (mW rfl (vV (aP T rfl rfl rfl rfl) (vV (by exact fB rfl rfl hc (.cons (ES x) hvc) rfl rfl) ?_)));refine vV (dX rfl) ?_)|(refine rg 9 (dK rfl (vV (aP T rfl rfl rfl rfl) (vV (by exact aJ T rfl rfl rfl rfl rfl (by omega) (by omega)) ?_)));refine aU T rfl rfl rfl rfl rfl rfl (by decide) (lX rfl hg2 rfl) ?_)|(refine iA 10 rfl rfl rfl (by omega) (by omega) ?_)|(refine iA 6 rfl rfl rfl (by omega) (by omega) ?_)|refine nZ ?_));all_goals try (exfalso;omega)
        all_goals exact ⟨⟨m + 1,hlt⟩,by dsimp only;omega,[0,1,2],rfl,⟨rfl,rfl,by rw [hs];simp only [aF];rfl,rfl,trivial⟩,⟨.inr (aD rfl (by rw [hs];exact hset) (bM _)),.inr rfl,.inr (sU rfl hL),trivial⟩,by decide,zY1⟩
      · rw [e] at hc hs;rw [if_pos rfl] at hs
        (repeat' (first|refine wS ?_|refine wB ?_|refine wK ?_|refine wU ?_|(refine wC rfl ?_ ?_<;>(intro hb;(try simp only [nm] at hb);try (exfalso;omega)))|(refine rg 5 (dK rfl (qW T rfl (vV (aL rfl rfl) ?_))))|(refine rg 7 (dK rfl (vV (by exact aJ T rfl rfl rfl rfl rfl (by omega) (by omega)) ?_));refine vV (by exact aP T rfl rfl (bH rfl hget) rfl) ?_;refine bQ (bT T rfl) rfl (aU T rfl rfl rfl rfl rfl rfl (by decide) rfl ?_))|(refine rg 8 (mW rfl (vV (aP T rfl rfl rfl rfl) (vV (by exact fB rfl rfl hc (.cons (ES x) hvc) rfl rfl) ?_)));refine vV (dX rfl) ?_)|(refine iA 6 rfl rfl rfl (by omega) (by omega) ?_)|refine nZ ?_));all_goals try (exfalso;omega)
        all_goals exact ⟨⟨m + 1,hlt⟩,by dsimp only;omega,[0,1,2],rfl,⟨rfl,rfl,by rw [hs];rfl,rfl,trivial⟩,⟨.inr (aD rfl (by rw [hs];exact hA.symm) (bM _)),.inr rfl,.inr (sU rfl hL),trivial⟩,by decide,zY1⟩
    · obtain rfl : m = l.length := by omega
      have hal := SM (G := fT q (l.take l.length)) (l := l) (by omega)
      have htk := VA (G := fT q (l.take l.length)) (l := l);generalize fT q (l.take l.length) = G at *
      (repeat' (first|refine wS ?_|refine wR ?_|refine wE ?_|(refine wC rfl ?_ ?_<;>(intro hb;(try simp only [nm] at hb);try (exfalso;omega)))|(refine rg 5 (dK rfl (qW T rfl (vV (aL rfl rfl) ?_))))|(refine rg 11 (dK rfl (vV (by exact kT T rfl rfl rfl rfl rfl rfl (by omega) (by omega) (by omega)) ?_));refine M9 T rfl rfl rfl ⟨rfl,rfl,by decide⟩ rfl (by rw [hal];omega) ?_)|(refine rg 12 (dK rfl (vV (by exact kT T rfl rfl rfl rfl rfl rfl (by omega) (by omega) (by omega)) ?_));refine aV ?_)|refine nZ ?_));all_goals try (exfalso;omega)
      all_goals exact ⟨.inl rfl,[0,1,2],_,rfl,(by show AV.sl 0 0 ((G.length : Int) - 0).toNat 3 = AV.sl 0 0 G.length 3;rw [show ((G.length : Int) - 0).toNat = G.length by omega]),rfl,⟨.inr (aD rfl htk (bM _)),.inr rfl,.inr (sU rfl hL),trivial⟩,by decide,zY1⟩
end Go.Proofs.YtmmkhmilpeodnaaGreat
namespace Go.Ab
open Go
theorem NN {P : Program} {f : FuncId} {args : List AV} {hin hout : Hp} {es : List (List AV)} {len sz k : Nat} (hk : k = hout.length) (hn : len = es.length) (hi : AV.idfL es.flatten = true) (h : aR P f args hin (.sl k 0 len sz) (hout ++ [.arr es sz])) : aR P f args hin (.rowE es sz) (hout ++ [.gone]) := by
  refine ⟨h.1,fun ρ S w vs hs ha => (h.2 ρ S w vs hs ha).mono ?_⟩;rintro e w' ⟨y,ρ',S',rfl,h2,h3⟩;rw [hn] at h3;have hb : (hout ++ [AB.arr es sz])[k]? = some (.arr es sz) := by subst hk;simp
  have e : (hout ++ [AB.arr es sz]).set k .gone = hout ++ [.gone] := by subst hk;simp
  exact ⟨y,_,_,rfl,e ▸ h2.freeze (k := k) hb,xH hi (h2.blk k _ hb) h3⟩
theorem yA (L : List Nat) : ∀ i : Nat,i < 1 → (0 :: L)[i]? = some i := fun i hi => by cases i with | zero => rfl | succ i => omega
end Go.Ab
namespace Go.Proofs.YtmmkhmilpeodnaaGreat
open Go Go.Ab Go.Ld
attribute [local irreducible] VC AW bX aR
set_option maxHeartbeats 4000000
theorem zE2 (c : Cx) (gs all : List G) {n : Nat} (ok : nP n all) (up : KX all) (hne : ∀ g,g ∈ all → g.2 ≠ []) :
    aR Tryz.prog 50 [.ptr 0 0,.rowE (jW all) 2] [.cells (gN c gs)] (.rowE (jW (uV c all)) 2) [.cells (gN c gs),.gone] := by
  have h12 : all.length ≤ 12 := bA ok.len ok.ln;have hal : (jW all).length = all.length := jV _;have hlb : ∀ g,g ∈ all → 0 ≤ fX g ∧ fX g ≤ 4000000 := fun g hg => DS (ok.ok g hg) (hne g hg);have hsb := EV hlb;refine NN (k := 1) (hout := [.cells (gN c gs)]) rfl (by rw [jV] : (uV c all).length = (jW (uV c all)).length) (iJ (eG _)) ?_
  refine bO T Tryz.func50 rfl rfl rfl rfl ?_
  repeat' (first|refine wS ?_|(refine rg 0 (bQ (cD rfl rfl) rfl (aV ?_)))|(refine rg 1 (aV ?_))|refine nZ ?_)
  (repeat' (first|refine wB ?_|(refine rg 2 (mW rfl (qW T rfl (mV ?_))))|refine nZ ?_));refine cN (X := {k : Nat // k ≤ all.length}) (fun k => [(1,.rowE (jW all) 2),(2,.ptr 1 0),(5,.i (jT (all.take k.1))),(16,.rowE (jW all) 2),(17,.i (jW all).length),(18,.i k.1)]) (fun _ => [.cells (gN c gs),.cells [.ptr 0 0]]) (fun k => all.length - k.1) ⟨0,bU _⟩ ⟨[0,1],rfl,(by repeat first|exact trivial|refine ⟨rfl,?_⟩),⟨.inr rfl,.inr rfl,trivial⟩,by decide,yA _⟩ ?_
  rintro ⟨k,hk⟩;dsimp only;by_cases hlt : k < all.length
  · have hg := V6 hlt;have hs := VE hlt;have hb := EV (l := all.take k) fun g hg => hlb g (eJ hg);have hkl : (all.take k).length ≤ 12 := by rw [bD];omega
    have hl1 := hlb _ (aI hlt);have hc := PB all[k] (hne _ (aI hlt)) (by have := ok.ws _ (aI hlt);omega)
    generalize all[k] = g at *;generalize jT (all.take k) = S at *;generalize fX g = v at *
    (repeat' (first|refine wS ?_|refine wB ?_|refine wK ?_|(refine wC rfl ?_ ?_<;>(intro hb;(try simp only [nm] at hb);try (exfalso;omega)))|(refine rg 3 (vV (aL rfl rfl) ?_))|(refine rg 4 (vV (ix T rfl (by omega) (pT _) hg) (lW T rfl (bQ (bT T rfl) rfl (aU T rfl rfl rfl rfl rfl rfl (by decide) rfl ?_)))))|(refine rg 5 (mW rfl (lW T rfl (vV (kC (hc)) (vV (bV rfl rfl (by omega) (by omega)) (aV ?_))))))|(refine rg 6 (vV (bV rfl rfl (by omega) (by omega)) (mV ?_)))|refine nZ ?_));all_goals first | (exfalso;omega) | exact ⟨⟨k + 1,hlt⟩,by dsimp only;omega,[0,1],rfl,⟨rfl,rfl,by dsimp only;rw [hs];rfl,rfl,rfl,rfl,trivial⟩,⟨.inr rfl,.inr rfl,trivial⟩,by decide,yA _⟩
  obtain rfl : k = all.length := by omega
  rw [dS]
  (repeat' (first|refine wS ?_|refine wB ?_|refine wE ?_|(refine wC rfl ?_ ?_<;>(intro hb;(try simp only [nm] at hb);try (exfalso;omega)))|(refine rg 3 (vV (aL rfl rfl) ?_))|(refine rg 7 (vV (eI rfl) (rP 8 2 rfl (by decide) ?_)))|(refine rg 8 (mW rfl (qW T rfl (mV ?_))))|refine nZ ?_));all_goals try (exfalso;omega)
  refine cN (X := {k : Nat // k ≤ all.length}) (fun k => [(2,.ptr 1 0),(5,.i (jT all)),(8,.sl 2 0 k.1 2),(27,.rowE (jW all) 2),(28,.i (jW all).length),(29,.i k.1)]) (fun k => [.cells (gN c gs),.cells [.ptr 0 0],.arr (jW ((paid c all).take k.1)) 2]) (fun k => all.length - k.1) ⟨0,bU _⟩ ⟨[0,1,2],rfl,(by repeat first|exact trivial|refine ⟨rfl,?_⟩),⟨.inr rfl,.inr rfl,.inr rfl,trivial⟩,by decide,yA _⟩ ?_
  clear hk hlt;rintro ⟨k,hk⟩;dsimp only;have hpl := WW c all;by_cases hlt : k < all.length
  · have hg := V6 hlt;have hp := SA (c := c) hlt;have hl1 := hlb _ (aI hlt);have hgo := ok.ok _ (aI hlt);have hgw := ok.ws _ (aI hlt);have hc := PB all[k] (hne _ (aI hlt)) (by omega)
    have htl : ((paid c all).take k).length = k := by rw [bD];omega
    generalize (paid c all).take k = Q at *;generalize all[k] = g at *;obtain ⟨bs,ws⟩ := g;dsimp only at hgw hp;generalize hv : fX (bs,ws) = v at *;generalize jT all = S at *;have hcl := KF ws (by omega)
    have hd := TL (r := S - v) (L := gN c gs) (q := fun w => decide (w.2.1 + (S - v) > c.m)) ws (by omega) rfl rfl (fun x hx => zE4 c gs x (S - v) ⟨(hgo.ws x hx).m0,(hgo.ws x hx).m1⟩ (by omega))
    generalize fT (fun w => decide (w.2.1 + (S - v) > c.m)) ws = ws' at *;have hQl : (jW Q).length = k := by rw [jV,htl]
    have hQ : jW (Q ++ [(bs,ws')]) = jW Q ++ [[.rowE (ints bs) 1,.rowE (fQ ws') 3]] := by rw [jW,dB];rfl
    rw [← hp] at hQ;generalize jW Q = Q' at *
    (repeat' (first|refine wS ?_|refine wB ?_|refine wK ?_|(refine wC rfl ?_ ?_<;>(intro hb;(try simp only [nm] at hb);try (exfalso;omega)))|(refine rg 9 (vV (aL rfl rfl) ?_))|(refine rg 10 (vV (ix T rfl (by omega) (pT _) hg) (lW T rfl (bQ (bT T rfl) rfl (aU T rfl rfl rfl rfl rfl rfl (by decide) rfl ?_)))))|(refine rg 11 (mW rfl (lW T rfl (vV (kC (hc)) (vV (cP rfl rfl (by omega) (by omega)) (bQ (bT T rfl) rfl (aU T rfl rfl rfl rfl rfl rfl (by decide) rfl ?_)))))))|refine nZ ?_));all_goals try (exfalso;omega)
    refine fC 11 rfl rfl rfl ?_
    repeat' (first|(refine rg 12 (gH T rfl (bQ (by exact fL rfl rfl hcl (.inr ⟨rfl,rfl,by simp⟩)) rfl ?_));refine vV (by exact jK rfl rfl) ?_;refine fF [5,1,0] rfl rfl (hd) rfl rfl (by decide) ⟨.inr (aD rfl (bY _ (bM _)) (bM _)),.inr rfl,.inr rfl,trivial⟩ (by simp) rfl ?_;refine kR (es := fQ ws') 41 rfl (congrArg (fun x=>some (AB.arr x 3)) (bY _ (bM _))) (eV _).symm (iJ (bM _)) ?_;refine fW T rfl (aU T rfl rfl rfl rfl rfl rfl (by decide) rfl ?_))|(refine rg 13 (mW rfl (lW T rfl (bQ (by exact bC T rfl rfl (by decide) (by decide) rfl rfl rfl) rfl ?_)));refine fR T rfl rfl rfl rfl rfl rfl (by omega) (kJ.whole rfl rfl) rfl (by simp;omega) (by simp;omega) rfl ?_;refine aV ?_)|(refine rg 14 (vV (bV rfl rfl (by omega) (by omega)) (mV ?_)))|refine nZ ?_)
    show ∃ x',_;exact ⟨⟨k + 1,hlt⟩,by dsimp only;omega,⟨[0,1,7],rfl,(by repeat first|exact trivial|refine ⟨rfl,?_⟩),⟨.inr rfl,.inr rfl,.inr (aD rfl (by dsimp only;rw [hQ];exact lQ hQl.symm) (eG _)),trivial⟩,by decide,yA _⟩⟩
  obtain rfl : k = all.length := by omega
  rw [← hpl,dS,hpl];have pok := ok.paid c;have pst := oY.start pok (NT up (c := c));rw [← hpl];generalize hL : paid c all = L at *;rw [show uV c all = qM L by rw [← hL];rfl]
  (repeat' (first|refine wS ?_|refine wB ?_|refine wE ?_|(refine wC rfl ?_ ?_<;>(intro hb;(try simp only [nm] at hb);try (exfalso;omega)))|(refine rg 9 (vV (aL rfl rfl) ?_))|(refine rg 15 (aV ?_))|refine nZ ?_));all_goals try (exfalso;omega)
  refine cN (X := {q : List G × Nat // oY n L q.1 q.2}) (fun q => [(8,.sl 1 0 q.1.1.length 2),(12,.i q.1.2)]) (fun q => [.cells (gN c gs),.arr (jW q.1.1) 2]) (fun q => 100 * zN5 q.1.1 + (q.1.1.length - q.1.2)) ⟨(L,0),pst⟩ ⟨[0,2],rfl,(by repeat first|exact trivial|refine ⟨rfl,?_⟩),⟨.inr rfl,.inr (aD rfl rfl (eG _)),trivial⟩,by decide,yA _⟩ ?_
  clear hsb hlb hne h12 hal pok up ok;rintro ⟨⟨o,i⟩,hq⟩;dsimp only at hq ⊢;have hol : (jW o).length = o.length := jV _;have ho12 : o.length ≤ 12 := bA hq.ok.len hq.ok.ln;have hio := hq.hi;by_cases hlt : i < o.length
  · have hgi : o[i]? = some o[i] := aA hlt;have hgm := aI hlt;generalize o[i] = g at *;have hgo := hq.ok.ok g hgm;have hgw := hq.ok.ws g hgm;have hsz := hgo.sz hgw;have q1 := zL (L := o) (j := (i : Int)) (i := i) hgi rfl;have hcc := TQ g hsz;cases hcr : iD g with
    | none =>
      have hk := hq.keep hgi hcr;rw [show zZ g = -1 by unfold zZ;rw [hcr]] at hcc
      (repeat' (first|refine wS ?_|refine wB ?_|refine wK ?_|refine wU ?_|(refine wC rfl ?_ ?_<;>(intro hb;(try simp only [nm] at hb);try (exfalso;omega)))|(refine rg 16 (dK rfl (qW T rfl (vV (aL rfl rfl) ?_))))|(refine rg 18 (dK rfl (vV (by exact aJ T rfl rfl rfl rfl rfl (by omega) (by omega)) ?_));refine vV (by exact aP T rfl rfl (bH rfl q1) rfl) ?_;refine vV (kC (hcc)) (aV ?_))|(refine rg 19 (mW rfl (vV (jX rfl rfl) ?_)))|(refine iA 17 rfl rfl rfl (by omega) (by omega) ?_)|refine nZ ?_));all_goals try (exfalso;omega)
      exact ⟨⟨(o,i + 1),hk⟩,by dsimp only;omega,⟨[0,1],rfl,(by repeat first|exact trivial|refine ⟨rfl,?_⟩),⟨.inr rfl,.inr (aD rfl rfl (eG _)),trivial⟩,by decide,yA _⟩⟩
    | some k =>
      have hk := hq.next hgi hcr
      obtain ⟨f1,f2,f3,_⟩ := kB hcr;have hwg := XG hgi hcr;have hno := OS hq.ok hgi hcr;have hsp := zE9 g hsz f3 f1 f2 (by omega)
      have hll : (o.set i (jN g k) ++ [nE g k]).length = o.length + 1 := by simp
      have hso := zF1 (o.set i (jN g k) ++ [nE g k]) hno.dist (by have := hno.len;have := hno.ln;omega) hno.hd
      have hw2 : zN5 (DL o i k g) = zN5 (o.set i (jN g k) ++ [nE g k]) := UL (dD _ _);have hl2 : (DL o i k g).length = o.length + 1 := by rw [DL,(dD _ _).length_eq,hll]
      rw [show zZ g = (k : Int) by unfold zZ;rw [hcr]] at hcc
      have t1 := J8 (L := o) (j := (i : Int)) (i := i) (x := jN g k) rfl;have e1 : jW (o.set i (jN g k) ++ [nE g k]) = (jW o).set (0 + (i : Int).toNat) (gA (jN g k)) ++ [gA (nE g k)] := by rw [t1,jW,dB];rfl
      have e2 : ((jW o).set (0 + (i : Int).toNat) (gA (jN g k))).length = o.length := by rw [gG,hol]
      change aR _ _ _ _ _ [.arr (jW (DL o i k g)) 2] at hso;rw [hll] at hso;generalize DL o i k g = o' at *;generalize hN : o.set i (jN g k) ++ [nE g k] = N at *;generalize jN g k = r at *;generalize nE g k = u at *;obtain ⟨rb,rw_⟩ := r;obtain ⟨ub,uw⟩ := u
      (repeat' (first|refine wS ?_|refine wB ?_|refine wK ?_|refine wT ?_|(refine wC rfl ?_ ?_<;>(intro hb;(try simp only [nm] at hb);try (exfalso;omega)))|(refine rg 16 (dK rfl (qW T rfl (vV (aL rfl rfl) ?_))))|(refine rg 18 (dK rfl (vV (by exact aJ T rfl rfl rfl rfl rfl (by omega) (by omega)) ?_));refine vV (by exact aP T rfl rfl (bH rfl q1) rfl) ?_;refine vV (kC (hcc)) (aV ?_))|(refine rg 19 (mW rfl (vV (jX rfl rfl) ?_)))|(refine rg 20 (dK rfl (vV (by exact aJ T rfl rfl rfl rfl rfl (by omega) (by omega)) ?_));refine vV (by exact aP T rfl rfl (bH rfl q1) rfl) ?_;refine mW rfl (vV (kC (hsp)) (mW rfl (xW rfl (xW rfl (bQ (bT T rfl) rfl (bQ (bT T rfl) rfl (aU T rfl rfl rfl rfl rfl rfl (by decide) rfl (aU T rfl rfl rfl rfl rfl rfl (by decide) rfl ?_)))))))))|(refine rg 21 (dK rfl (vV (aP T rfl rfl rfl rfl) (vV (by exact aJ T rfl rfl rfl rfl rfl (by omega) (by omega)) ?_)));refine aU T rfl rfl rfl rfl rfl rfl (by decide) (lX rfl q1 rfl) ?_)|(refine rg 22 (mW rfl (vV (aP T rfl rfl rfl rfl) (bQ (by exact bC T rfl rfl (by decide) (by decide) rfl rfl rfl) rfl ?_)));refine fR T rfl rfl rfl rfl rfl rfl (by simp) (kJ.whole rfl rfl) rfl (by simp;omega) (by simp;omega) rfl ?_;refine aV ?_)|refine nZ ?_));all_goals try (exfalso;omega)
      refine fE [(8,.sl 1 0 (o.length + 1) 2),(12,.i i)] [.cells (gN c gs),.arr (jW N) 2] ⟨[0,5],rfl,(by repeat first|exact trivial|refine ⟨rfl,?_⟩),⟨.inr rfl,.inr (aD rfl (by rw [e1];exact lQ e2.symm) (eG _)),trivial⟩,by decide,yA _⟩ ?_
      (repeat' (first|(refine rg 23 (mW rfl (fF [1] rfl rfl (hso) rfl rfl (by decide) ⟨.inr (aD rfl rfl (eG _)),trivial⟩ (by simp) rfl ?_)))|(refine rg 24 (aV ?_))|(refine iA 17 rfl rfl rfl (by omega) (by omega) ?_)|refine nZ ?_));all_goals try (exfalso;omega)
      exact ⟨⟨(o',0),hk⟩,by dsimp only;omega,⟨[0,1],rfl,⟨by dsimp only;rw [hl2];rfl,rfl,trivial⟩,⟨.inr rfl,.inr (aD rfl (bY _ (eG _)) (eG _)),trivial⟩,by decide,yA _⟩⟩
  · have hfin := hq.fin (by omega)
    rw [hfin]
    (repeat' (first|refine wS ?_|refine wR ?_|refine wE ?_|(refine wC rfl ?_ ?_<;>(intro hb;(try simp only [nm] at hb);try (exfalso;omega)))|(refine rg 16 (dK rfl (qW T rfl (vV (aL rfl rfl) ?_))))|(refine rg 25 (mW rfl (aV ?_)))|refine nZ ?_));all_goals first | (exfalso;omega) | exact ⟨.inl rfl,[0,1],_,rfl,rfl,rfl,⟨.inr rfl,.inr (aD rfl rfl (eG _)),trivial⟩,by decide,yA _⟩
end Go.Proofs.YtmmkhmilpeodnaaGreat
