/-
  Texts of the logic and of the layer,in one module (part 6).
-/
import Derived.Test.YtbialaoigijlgaaGreatDoorG5
import Derived.Shelf.Spec.SlicesGrow
import Derived.Ground.Names8Prog
set_option linter.unusedVariables false
set_option linter.unusedSimpArgs false
set_option linter.unnecessarySimpa false
namespace Go.Ld
open Go.Ab Go.Proofs.YtbialaoigijlgaaGreatDoor
theorem vS {L : List G} {j : Int} {i : Nat} {x : G} (h : L[i]? = some x) (e : j = i) : (iB L)[0 + j.toNat]? = some (gA x) := by
  subst e;simp [h]
theorem zQ {L : List G} {j : Int} {i : Nat} {x : G} (e : j = i) : (iB L).set (0 + j.toNat) (gA x) = iB (L.set i x) := by
  subst e;simp [iB,R8]
abbrev ER (l : List G) : Prop := l.Pairwise (fun a b => cG a b ≤ 0)
def I6 (l : List G) : Prop := ∀ a b,a ∈ l → b ∈ l → cG a b = 0 → a = b
theorem ZB {a : G} : cG a a = 0 := oE.rfl' _
theorem GX (a b : G) : cG a b = - cG b a := oE.neg _ _
theorem IY {a b d : G} (h1 : cG a b ≤ 0) (h2 : cG b d ≤ 0) : cG a d ≤ 0 := oE.le_tr (a := a.1.headD 0) (b := b.1.headD 0) (d := d.1.headD 0) h1 h2
theorem DJ (w : G) : ∀ {l : List G}, ER l → ER (R4 cG w l)
  | [],_ => kM _ _
  | x :: l,hl => by
    have hl' := eS.1 hl;unfold R4;split
    · rename_i hw;refine eS.2 ⟨fun y hy => ?_,hl⟩
      rcases bX.1 hy with rfl | hy
      · exact hw
      · exact IY hw (hl'.1 y hy)
    · rename_i hw;refine eS.2 ⟨fun y hy => ?_,DJ w hl'.2⟩
      rcases bX.1 ((xC cG w l).mem_iff.1 hy) with rfl | hy
      · have := GX x y;omega
      · exact hl'.1 y hy
theorem pX : ∀ l : List G, ER (dW cG l)
  | [] => .nil
  | x :: l => DJ x (pX l)
theorem CL {l m : List G} (hd : I6 l) (hp : m.Perm l) (h : ER m) : dW cG l = m := by
  refine (List.Perm.eq_of_pairwise (le := fun a b => cG a b ≤ 0) (fun a b ha hb h1 h2 => hd a b (hp.mem_iff.1 ha) ((dU cG l).mem_iff.1 hb) (by have := GX a b;omega)) h (pX l) (hp.trans (dU cG l).symm)).symm
theorem I6.sub {l m : List G} (h : I6 l) (hs : ∀ x,x ∈ m → x ∈ l) : I6 m := fun a b ha hb e => h a b (hs a ha) (hs b hb) e
theorem I6.perm {l m : List G} (h : I6 l) (hp : m.Perm l) : I6 m := h.sub fun x hx => hp.mem_iff.1 hx
theorem GV {a b : G} (h : cG a b < 0) : cG a b ≤ 0 := by omega
theorem SQ {S1 S2 : List G} {x : G} (h : ER (S1 ++ S2)) (h1 : ∀ y,y ∈ S1 → cG y x ≤ 0) (h2 : ∀ y,y ∈ S2 → cG x y ≤ 0) : ER (S1 ++ x :: S2) := by
  obtain ⟨a,b,c⟩ := eU.1 h;refine eU.2 ⟨a,eS.2 ⟨h2,b⟩,fun p hp q hq => ?_⟩
  rcases bX.1 hq with rfl | hq
  · exact h1 p hp
  · exact c p hp q hq
theorem MN {A : List G} {y : G} (h : ER (A ++ [y])) : ∀ z,z ∈ A ++ [y] → cG z y ≤ 0 := by
  intro z hz;obtain ⟨a,b,c⟩ := eU.1 h;rcases bQ.1 hz with hz | hz
  · exact c z hz y (by simp)
  · rw [dR.1 hz,ZB];exact kJ _
theorem zG7 {a b : G} (h : ¬ cG a b < 0) : cG b a ≤ 0 := by have := GX a b;omega
def H6 (l : List G) (a b : Nat) : List G := l.take a ++ (dW cG ((l.drop a).take (b - a)) ++ l.drop b)
theorem L0 {l : List G} : (dW cG l).length = l.length := (dU cG l).length_eq
theorem JO {l : List G} {a : Nat} (h : a ≤ l.length) : H6 l a a = l := by unfold H6;simp [dW]
theorem NC {l : List G} {a : Nat} (h : a < l.length) : H6 l a (a + 1) = l := by
  unfold H6;rw [show a + 1 - a = 1 by omega,aS h]
  simp only [mY,lL,dW,R4];rw [List.singleton_append,← aS h,bG]
structure FA (l : List G) (a i : Nat) (x : G) (q : List G × List G) : Prop where
  eq : q.1 ++ q.2 = dW cG ((l.drop a).take (i - a))
  gt : ∀ y,y ∈ q.2 → cG x y < 0
def nU (l : List G) (a i : Nat) (x : G) (q : List G × List G) : List G := (l.take a ++ q.1) ++ x :: (q.2 ++ l.drop (i + 1))
theorem GC {l : List G} {a i : Nat} {x : G} (h1 : a < i) (h2 : i < l.length) (hx : l[i]? = some x) : FA l a i x (dW cG ((l.drop a).take (i - a)),[]) ∧ H6 l a i = nU l a i x (dW cG ((l.drop a).take (i - a)),[]) := by
  refine ⟨⟨by simp,fun y hy => by cases hy⟩,?_⟩
  unfold H6 nU;have : l.drop i = x :: l.drop (i + 1) := by
    rw [aB h2] at hx;rw [aS h2];cases hx;rfl
  simp [this]
theorem DI {l : List G} {a i : Nat} {x : G} {q : List G × List G} (h : FA l a i x q) (h1 : a < i) (h2 : i < l.length) : q.1.length + q.2.length = i - a := by
  have := congrArg List.length h.eq;simp only [aD,L0,aU,dD] at this;omega
theorem KX {l : List G} {a i : Nat} {x : G} {q : List G × List G} (h : FA l a i x q) (h1 : a < i) (h2 : i < l.length) : (nU l a i x q).length = l.length := by
  have := DI h h1 h2;unfold nU;simp only [aD,List.length_cons,aU,dD];omega
theorem IK {l : List G} (hdl : I6 l) {a i : Nat} {x : G} {q : List G × List G} (h : FA l a i x q) (h1 : a < i) (h2 : i < l.length) (hx : l[i]? = some x) (hs : ∀ y,y ∈ q.1 → cG y x ≤ 0) : nU l a i x q = H6 l a (i + 1) := by
  unfold nU H6;have e : (l.drop a).take (i + 1 - a) = (l.drop a).take (i - a) ++ [x] := by
    rw [show i + 1 - a = (i - a) + 1 by omega,SE]
    rw [eC,show a + (i - a) = i by omega,hx];rfl
  rw [e];have hp : (q.1 ++ x :: q.2).Perm ((l.drop a).take (i - a) ++ [x]) := by
    refine List.perm_middle.trans ?_;rw [h.eq];exact ((dU cG _).cons x).trans (B2 _ _).symm
  have hu : ER (q.1 ++ x :: q.2) := SQ (by rw [h.eq];exact pX _) hs (fun y hy => GV (h.gt y hy))
  rw [CL (hdl.sub fun y hy => by rw [← e] at hy;exact eV (eG hy)) hp hu]
  simp
theorem PF {l : List G} {a i : Nat} {x y : G} {S : List G} {q : List G × List G} (h : FA l a i x q) (e : q.1 = S ++ [y]) (hc : ¬ cG x y < 0) : ∀ z,z ∈ q.1 → cG z x ≤ 0 := by
  have hu : ER (q.1 ++ q.2) := by rw [h.eq];exact pX _
  have hu1 : ER q.1 := (eU.1 hu).1;rw [e] at hu1;intro z hz;rw [e] at hz;exact IY (MN hu1 z hz) (zG7 hc)
theorem KW {l : List G} {a i : Nat} {x y : G} {S : List G} {q : List G × List G} (h : FA l a i x q) (e : q.1 = S ++ [y]) (hc : cG x y < 0) : FA l a i x (S,y :: q.2) := by
  refine ⟨?_,fun z hz => ?_⟩
  · rw [← h.eq,e];simp
  · rcases bX.1 hz with rfl | hz
    · exact hc
    · exact h.gt z hz
end Go.Ld
namespace Go.Proofs.YtbialaoigijlgaaGreatDoor
open Go Go.Ab Go.Ld
attribute [local irreducible] VC AW bV aO
set_option maxHeartbeats 4000000
abbrev GQ : AV := .clo (.func 96) [] []
def ZP (g : G) : Prop := 0 < g.1.length ∧ g.1.length ≤ 1000000
theorem SX (a b : G) (ha : ZP a) (hb : ZP b) : aO Tryz.prog 96 [MH a,MH b] [] (.i (cG a b)) [] := by
  obtain ⟨p,ws⟩ := a;obtain ⟨q,vs⟩ := b;cases p with
  | nil => exact absurd ha.1 (by simp)
  | cons x p =>
    cases q with
    | nil => exact absurd hb.1 (by simp)
    | cons y q =>
      have hc := V9 x y;have h1 : (ints (x :: p)).length = p.length + 1 := by simp
      have h2 : (ints (y :: q)).length = q.length + 1 := by simp
      have g1 : (ints (x :: p))[(0 : Int).toNat]? = some [AV.i x] := rfl;have g2 : (ints (y :: q))[(0 : Int).toNat]? = some [AV.i y] := rfl;refine bK T Tryz.func96 rfl rfl rfl rfl ?_
      (repeat' (first|refine wS ?_|refine wR ?_|(refine rg 0 (bT (cQ rfl rfl) rfl (bT (cQ rfl rfl) rfl (aV ?_))))|(refine cJ (id := 1) 14 [[],[0],[0,1],[0,1,2],[],[4],[4,5],[4,5,6],rN 8] (rM 5 9) [[],[],[],[],rM 5 4,rM 5 4,rM 5 4,rM 5 4,[]] cN rfl (by decide +kernel) (dP T rfl (dO T rfl (dV rfl (ix T rfl (by omega) (bZ _) g1) (dO T rfl (dP T rfl (dO T rfl (dV rfl (ix T rfl (by omega) (bZ _) g2) (dO T rfl (dV rfl (kC (hc)) ?_)))))))));refine dE ?_;refine aV ?_)|refine nZ ?_));all_goals first | (exfalso;omega) | exact rQ
theorem KU (l : List G) (a b : Nat) (hab : a ≤ b) (hb : b ≤ l.length) (hdl : I6 l) (hl : l.length ≤ 100000) (hw : ∀ w,w ∈ l → ZP w) :
    aO Tryz.prog 141 [.sl 0 0 l.length 2,.i a,.i b,GQ] [.arr (iB l) 2] (.tup []) [.arr (iB (H6 l a b)) 2] := by
  rcases gO a b with hlt | hge
  · refine bK T Tryz.func141 rfl rfl rfl rfl ?_
    (repeat' (first|refine wS ?_|refine wB ?_|(refine iA 0 rfl rfl rfl (by omega) (by omega) ?_)|refine nZ ?_));refine cK (X := {i : Nat // a + 1 ≤ i ∧ i ≤ b}) (fun i => [(0,.sl 0 0 l.length 2),(1,.i a),(2,.i b),(3,GQ),(8,.i i.1)]) (fun i => [.arr (iB (H6 l a i.1)) 2]) (fun i => b - i.1) ⟨a + 1,by omega,by omega⟩ ⟨[0],rfl,by (repeat (first | exact trivial | refine ⟨rfl,?_⟩)),⟨.inr (aG rfl (by dsimp only;rw [NC (by omega)]) (eA _)),trivial⟩,by decide,kN⟩ ?_
    rintro ⟨i,h1,h2⟩;dsimp only;by_cases hi : i < b
    · (repeat' (first|refine wS ?_|refine wB ?_|refine wK ?_|(refine wC rfl (fun hb => ?_) (fun hb => ?_) <;> (((try simp only [nm] at hb);try (exfalso;omega))))|(refine rg 1 (dQ rfl (vV (aJ rfl rfl) ?_)))|(refine rg 3 (mW rfl (aV ?_)))|(refine nZ ?_)));all_goals try (exfalso;omega)
      have hil : i < l.length := by omega
      obtain ⟨x,hx⟩ : ∃ x,l[i]? = some x := ⟨_,aB hil⟩;obtain ⟨s1,s2⟩ := GC (a := a) (by omega) hil hx
      refine cK (X := {q : List G × List G // FA l a i x q}) (fun q => [(0,.sl 0 0 l.length 2),(1,.i a),(2,.i b),(3,GQ),(8,.i i),(9,.i ((a + q.1.1.length : Nat) : Int))]) (fun q => [.arr (iB (nU l a i x q.1)) 2]) (fun q => q.1.1.length) ⟨_,s1⟩ ⟨[0],rfl,⟨rfl,rfl,rfl,rfl,rfl,by dsimp only;rw [L0,aU,dD,show a + min (i - a) (l.length - a) = i by omega];rfl,trivial⟩,⟨.inr (aG rfl (by dsimp only;rw [s2]) (eA _)),trivial⟩,by decide,kN⟩ ?_
      rintro ⟨⟨S1,S2⟩,hq⟩;dsimp only;have hln := DI hq (by omega) hil
      dsimp only at hln;have hwx : ZP x := hw x (aM hx);have hal : (l.take a).length = a := by rw [aU];omega
      rcases List.eq_nil_or_concat S1 with rfl | ⟨S,y,rfl⟩
      · have ee := IK hdl hq (by omega) hil hx (fun y hy => by cases hy)
        have hJ : ((a + ([] : List G).length : Nat) : Int) = a := by simp
        generalize ((a + ([] : List G).length : Nat) : Int) = J at *;generalize nU l a i x ([],S2) = L at *
        (repeat' (first|refine wS ?_|refine wE ?_|refine wU ?_|(refine cJ (id := 4) 53 zL9 (rM 18 17) zM0 cN rfl (by decide +kernel) (dN rfl (dN rfl (dV rfl (rF rfl rfl (by omega)) (dN rfl (tG rfl (tG rfl (tG rfl (tG rfl (dG ?_)))))))));refine tG rfl (tG rfl (tG rfl (tG rfl (tG rfl (tG rfl (tG rfl (dV rfl (jF rfl rfl) (dE ?_)))))))))|(refine iA 2 rfl rfl rfl (by omega) (by omega) ?_)|refine nZ ?_));all_goals first | (exfalso;omega) | exact ⟨⟨i + 1,by omega,by omega⟩,by dsimp only;omega,⟨[0],rfl,by (repeat (first | exact trivial | refine ⟨rfl,?_⟩)),⟨.inr (aG rfl (by dsimp only;rw [ee]) (eA _)),trivial⟩,by decide,kN⟩⟩
      · rw [List.concat_eq_append] at *;have hy : y ∈ l := by
          have h3 : y ∈ dW cG ((l.drop a).take (i - a)) := by rw [← hq.eq];simp
          exact eV (eG ((dU _ _).mem_iff.1 h3))
        have hc := SX x y hwx (hw y hy);have hL : nU l a i x (S ++ [y],S2) = (l.take a ++ S) ++ y :: x :: (S2 ++ l.drop (i + 1)) := by unfold nU;simp
        have hJ : ((a + (S ++ [y]).length : Nat) : Int) = ((a + S.length + 1 : Nat) : Int) := by simp;omega
        have hAl : a + S.length = (l.take a ++ S).length := by rw [aD,hal]
        have hlen := KX hq (by omega) hil
        by_cases h0 : cG x y < 0
        · have ee := KW hq rfl h0;have q1 := vS (L := nU l a i x (S ++ [y],S2)) (j := ((a + (S ++ [y]).length : Nat) : Int)) (i := a + S.length + 1) (x := x) (by rw [hL,show (l.take a ++ S) ++ y :: x :: (S2 ++ l.drop (i + 1)) = ((l.take a ++ S) ++ [y]) ++ x :: (S2 ++ l.drop (i + 1)) by simp];exact mD _ _ _ (by simp;omega)) hJ
          have q2 := vS (L := nU l a i x (S ++ [y],S2)) (j := ((a + (S ++ [y]).length : Nat) : Int) - 1) (i := a + S.length) (x := y) (by rw [hL];exact mD _ _ _ hAl) (by omega)
          have t1 := zQ (L := nU l a i x (S ++ [y],S2)) (j := ((a + (S ++ [y]).length : Nat) : Int)) (i := a + S.length + 1) (x := y) hJ;have e1 : (nU l a i x (S ++ [y],S2)).set (a + S.length + 1) y = (l.take a ++ S) ++ y :: y :: (S2 ++ l.drop (i + 1)) := by
            rw [hL,show (l.take a ++ S) ++ y :: x :: (S2 ++ l.drop (i + 1)) = ((l.take a ++ S) ++ [y]) ++ x :: (S2 ++ l.drop (i + 1)) by simp,mI _ _ _ _ (by simp;omega)];simp
          rw [e1] at t1;have q3 := vS (L := (l.take a ++ S) ++ y :: y :: (S2 ++ l.drop (i + 1))) (j := ((a + (S ++ [y]).length : Nat) : Int) - 1) (i := a + S.length) (x := y) (mD _ _ _ hAl) (by omega)
          have t2 := zQ (L := (l.take a ++ S) ++ y :: y :: (S2 ++ l.drop (i + 1))) (j := ((a + (S ++ [y]).length : Nat) : Int) - 1) (i := a + S.length) (x := x) (by omega)
          rw [mI _ _ _ _ hAl,show (l.take a ++ S) ++ x :: y :: (S2 ++ l.drop (i + 1)) = nU l a i x (S,y :: S2) by unfold nU;simp,← t1] at t2
          rw [← t1] at q3;have hJ2 : ((a + (S ++ [y]).length : Nat) : Int) - 1 = ((a + S.length : Nat) : Int) := by omega
          have hJ3 : ((a + (S ++ [y]).length : Nat) : Int) < l.length := by omega
          have hJ4 : (a : Int) < ((a + (S ++ [y]).length : Nat) : Int) := by omega
          clear hJ hL;generalize ((a + (S ++ [y]).length : Nat) : Int) = J at *;generalize cG x y = z at *;generalize nU l a i x (S ++ [y],S2) = L at *
          (repeat' (first|refine wS ?_|refine wB ?_|refine wK ?_|(refine wC rfl ?_ ?_<;>(intro hb;(try simp only [nm] at hb);try (exfalso;omega)))|(refine cJ (id := 4) 53 zL9 (rM 18 17) zM0 cN rfl (by decide +kernel) (dN rfl (dN rfl (dV rfl (fU rfl rfl) (dM ?_))));refine qN rfl rfl rfl rfl ?_ ?_<;>(intro hb;rw [hb];(try simp only [nm] at hb);try (exfalso;omega))<;>(refine tM ?_);(all_goals (refine tN rfl (tN rfl (dT rfl (by exact aL T rfl rfl rfl rfl rfl (by omega) (by omega)) ?_));refine dT rfl (by exact aT T rfl rfl (bJ rfl q1) rfl) ?_;refine tN rfl (tN rfl (dT rfl (cO rfl rfl (by omega) (by omega)) (dT rfl (by exact aL T rfl rfl rfl rfl rfl (by omega) (by omega)) ?_)));refine dT rfl (by exact aT T rfl rfl (bJ rfl q2) rfl) ?_;refine dT rfl (kC (hc)) (dT rfl (aJ rfl rfl) (dV rfl (jO rfl rfl) (dE ?_))))))|(refine mN (id := 6) 53 zM1 (rM 37 15) zM2 [(15,0)] cN rfl (by decide +kernel) (cM rfl rfl rfl rfl (by exact bU rfl) ?_);refine cM rfl rfl rfl rfl (by exact bU rfl) ?_;refine cM rfl rfl rfl rfl (by exact bU rfl) ?_;refine cM rfl rfl rfl rfl (by exact bU rfl) ?_;refine cM rfl rfl rfl rfl (by exact cO rfl rfl (by omega) (by omega)) ?_;refine cM rfl rfl rfl rfl (by exact bU rfl) ?_;refine cM rfl rfl rfl rfl (by exact bU rfl) ?_;refine cM rfl rfl rfl rfl (by exact cO rfl rfl (by omega) (by omega)) ?_;refine cM rfl rfl rfl rfl (by exact aL T rfl rfl rfl rfl rfl (by omega) (by omega)) ?_;refine cM rfl rfl rfl rfl (by exact aT T rfl rfl (bJ rfl q2) rfl) ?_;refine cM rfl rfl rfl rfl (by exact bU rfl) ?_;refine cM rfl rfl rfl rfl (by exact bU rfl) ?_;refine cM rfl rfl rfl rfl (by exact aL T rfl rfl rfl rfl rfl (by omega) (by omega)) ?_;refine cM rfl rfl rfl rfl (by exact aT T rfl rfl (bJ rfl q1) rfl) ?_;refine cM rfl rfl rfl rfl (by exact aL T rfl rfl rfl rfl rfl (by omega) (by omega)) ?_;refine uA rfl rfl rfl rfl (aN rfl) T rfl rfl rfl rfl rfl rfl (by decide) (tD rfl q1 rfl) ?_;refine pT rfl rfl rfl (by exact rfl) ?_;refine vV (by exact aL T rfl rfl rfl rfl rfl (by omega) (by omega)) ?_;refine aQ T rfl rfl rfl rfl rfl rfl (by decide) (lP rfl q3 rfl) ?_)|(refine rg 5 (mW rfl (vV (cO rfl rfl (by omega) (by omega)) (aV ?_))))|refine nZ ?_));all_goals first | (exfalso;omega) | exact ⟨⟨_,ee⟩,by dsimp only;simp,⟨[0],rfl,⟨rfl,rfl,rfl,rfl,rfl,by dsimp only;rw [← hJ2];try rfl,trivial⟩,⟨.inr (aG rfl (by dsimp only;rw [← t2];try rfl) (eA _)),trivial⟩,by decide,kN⟩⟩
        · have ee := IK hdl hq (by omega) hil hx (PF hq rfl h0)
          have q1 := vS (L := nU l a i x (S ++ [y],S2)) (j := ((a + (S ++ [y]).length : Nat) : Int)) (i := a + S.length + 1) (x := x) (by rw [hL,show (l.take a ++ S) ++ y :: x :: (S2 ++ l.drop (i + 1)) = ((l.take a ++ S) ++ [y]) ++ x :: (S2 ++ l.drop (i + 1)) by simp];exact mD _ _ _ (by simp;omega)) hJ
          have q2 := vS (L := nU l a i x (S ++ [y],S2)) (j := ((a + (S ++ [y]).length : Nat) : Int) - 1) (i := a + S.length) (x := y) (by rw [hL];exact mD _ _ _ hAl) (by omega)
          have hJ3 : ((a + (S ++ [y]).length : Nat) : Int) < l.length := by omega
          have hJ4 : (a : Int) < ((a + (S ++ [y]).length : Nat) : Int) := by omega
          clear hJ hL;generalize ((a + (S ++ [y]).length : Nat) : Int) = J at *;generalize cG x y = z at *;generalize nU l a i x (S ++ [y],S2) = L at *
          (repeat' (first|refine wS ?_|refine wE ?_|(refine wC rfl ?_ ?_<;>(intro hb;(try simp only [nm] at hb);try (exfalso;omega)))|(refine cJ (id := 4) 53 zL9 (rM 18 17) zM0 cN rfl (by decide +kernel) (dN rfl (dN rfl (dV rfl (fU rfl rfl) (dM ?_))));refine qN rfl rfl rfl rfl ?_ ?_<;>(intro hb;rw [hb];(try simp only [nm] at hb);try (exfalso;omega))<;>(refine tM ?_);(all_goals (refine tN rfl (tN rfl (dT rfl (by exact aL T rfl rfl rfl rfl rfl (by omega) (by omega)) ?_));refine dT rfl (by exact aT T rfl rfl (bJ rfl q1) rfl) ?_;refine tN rfl (tN rfl (dT rfl (cO rfl rfl (by omega) (by omega)) (dT rfl (by exact aL T rfl rfl rfl rfl rfl (by omega) (by omega)) ?_)));refine dT rfl (by exact aT T rfl rfl (bJ rfl q2) rfl) ?_;refine dT rfl (kC (hc)) (dT rfl (aJ rfl rfl) (dV rfl (jO rfl rfl) (dE ?_))))))|(refine iA 2 rfl rfl rfl (by omega) (by omega) ?_)|refine nZ ?_));all_goals first | (exfalso;omega) | exact ⟨⟨i + 1,by omega,by omega⟩,by dsimp only;omega,⟨[0],rfl,by (repeat (first | exact trivial | refine ⟨rfl,?_⟩)),⟨.inr (aG rfl (by dsimp only;rw [ee]) (eA _)),trivial⟩,by decide,kN⟩⟩
    · obtain rfl : i = b := by omega
      (repeat' (first|refine wS ?_|refine wE ?_|(refine wC rfl ?_ ?_<;>(intro hb;(try simp only [nm] at hb);try (exfalso;omega)))|(refine rg 1 (dQ rfl (vV (aJ rfl rfl) ?_)))|refine nZ ?_));all_goals first | (exfalso;omega) | exact ⟨.inl rfl,[0],_,rfl,rfl,rfl,⟨.inr (aG rfl rfl (eA _)),trivial⟩,by decide,kN⟩ | exact ⟨.inr rfl,[0],_,rfl,rfl,rfl,⟨.inr (aG rfl rfl (eA _)),trivial⟩,by decide,kN⟩
  · obtain rfl : a = b := by omega
    rw [JO hb];refine bK T Tryz.func141 rfl rfl rfl rfl ?_
    (repeat' (first|refine wS ?_|refine wB ?_|(refine iA 0 rfl rfl rfl (by omega) (by omega) ?_)|refine nZ ?_));refine cK (X := Unit) (fun _ => [(0,.sl 0 0 l.length 2),(1,.i a),(2,.i a),(3,GQ),(8,.i ((a : Int) + 1))]) (fun _ => [.arr (iB l) 2]) (fun _ => 0) () ⟨[0],rfl,by (repeat (first | exact trivial | refine ⟨rfl,?_⟩)),⟨.inr (aG rfl rfl (eA _)),trivial⟩,by decide,kN⟩ ?_
    intro _;dsimp only
    (repeat' (first|refine wS ?_|refine wE ?_|(refine wC rfl ?_ ?_<;>(intro hb;(try simp only [nm] at hb);try (exfalso;omega)))|(refine rg 1 (dQ rfl (vV (aJ rfl rfl) ?_)))|refine nZ ?_));all_goals first | (exfalso;omega) | exact ⟨.inl rfl,[0],_,rfl,rfl,rfl,⟨.inr (aG rfl rfl (eA _)),trivial⟩,by decide,kN⟩ | exact ⟨.inr rfl,[0],_,rfl,rfl,rfl,⟨.inr (aG rfl rfl (eA _)),trivial⟩,by decide,kN⟩
end Go.Proofs.YtbialaoigijlgaaGreatDoor
namespace Go.Ld
open Go.Ab Go.Proofs.YtbialaoigijlgaaGreatDoor
def UD (n : Nat) : Int := [0,1,2,2,3,3,3,3,4,4,4,4,4].getD n 0
end Go.Ld
namespace Go.Proofs.YtbialaoigijlgaaGreatDoor
open Go Go.Ab Go.Ld
attribute [local irreducible] VC AW bV aO E4 HH
set_option maxHeartbeats 4000000
theorem zF9 : E4 Tryz.prog 179 .u64 := by unfold E4;kernel_rfl
theorem zI4 : E4 Tryz.prog 5 .u8 := by unfold E4;kernel_rfl
theorem zG0 : HH Tryz.prog 9 := by unfold HH;kernel_rfl
theorem UE (n : Nat) (h : n ≤ 12) : aO Tryz.prog 136 [.v (.int .u64 n)] [] (.i (UD n)) [] := by
  rcases (by omega : n = 0 ∨ n = 1 ∨ n = 2 ∨ n = 3 ∨ n = 4 ∨ n = 5 ∨ n = 6 ∨ n = 7 ∨ n = 8 ∨ n = 9 ∨ n = 10 ∨ n = 11 ∨ n = 12) with rfl | rfl | rfl | rfl | rfl | rfl | rfl | rfl | rfl | rfl | rfl | rfl | rfl
  all_goals
    refine bK T Tryz.func136 rfl rfl rfl rfl ?_
    (repeat' (first|refine wS ?_|refine wK ?_|refine wR ?_|refine wU ?_|(refine rg 0 (aV ?_))|(refine rg 1 (mW rfl (vV (jD rfl rfl) ?_)))|(refine rg 4 (mW rfl (vV (jD rfl rfl) ?_)))|(refine rg 7 (mW rfl (vV (jD rfl rfl) ?_)))|(refine rg 10 (dQ rfl (vV (iG zF9 zI4 rfl rfl) (vV (by exact LF zG0 rfl rfl (by decide) rfl) ?_)));refine vV (iG zI4 uU rfl rfl) (vV (PU rfl rfl) (aV ?_)))|refine nZ ?_));all_goals first | (exfalso;omega) | exact rQ
theorem XY (n : Nat) (h : n ≤ 12) : aO Tryz.prog 99 [.v (.int .u64 n)] [] (.i (UD n)) [] := by
  have hc := UE n h;refine bK T Tryz.func99 rfl rfl rfl rfl ?_
  (repeat' (first|refine wS ?_|refine wK ?_|refine wR ?_|refine wU ?_|(refine rg 0 (aV ?_))|(refine rg 2 (mW rfl (vV (kC (hc)) (aV ?_))))|refine nZ ?_));all_goals first | (exfalso;omega) | exact rQ
theorem zB1 (l : List G) (hdl : I6 l) (hl : l.length ≤ 12) (hw : ∀ g,g ∈ l → ZP g) (lim : Int) : aO Tryz.prog 125 [.sl 0 0 l.length 2,.i 0,.i l.length,.i lim,GQ] [.arr (iB l) 2] (.tup []) [.arr (iB (dW cG l)) 2] := by
  have hc := KU l 0 l.length (bP _) (aX _) hdl (by omega) hw
  rw [show H6 l 0 l.length = dW cG l by unfold H6;simp] at hc
  refine bK T Tryz.func125 rfl rfl rfl rfl ?_
  (repeat' (first|refine wS ?_|refine wB ?_|(refine rg 0 (aV ?_))|(refine rg 1 (aV ?_))|refine nZ ?_));refine cK (X := Unit) (fun _ => [(0,.sl 0 0 l.length 2),(1,.i 0),(2,.i l.length),(3,.i lim),(4,GQ)]) (fun _ => [.arr (iB l) 2]) (fun _ => 0) () ⟨[0],rfl,by (repeat (first | exact trivial | refine ⟨rfl,?_⟩)),⟨.inr (aG rfl rfl (eA _)),trivial⟩,by decide,kN⟩ ?_
  intro _;dsimp only
  (repeat' (first|refine wS ?_|refine wB ?_|refine wR ?_|(refine wC rfl ?_ ?_<;>(intro hb;(try simp only [nm] at hb);try (exfalso;omega)))|(refine rg 2 (dQ rfl (vV (cO rfl rfl (by omega) (by omega)) (aV ?_))))|(refine rg 3 (mW rfl (vV (iP rfl rfl) ?_)))|(refine rg 4 (dQ rfl (dQ rfl (eJ [0] rfl rfl (hc) rfl rfl (by decide) ⟨.inr (aG rfl rfl (eA _)),trivial⟩ (by simp) rfl ?_))))|refine nZ ?_));all_goals first | (exfalso;omega) | exact ⟨.inl rfl,[0],_,rfl,rfl,rfl,⟨.inr (aG rfl (cE _ (eA _)) (eA _)),trivial⟩,by decide,kN⟩
theorem TF (l : List G) (hdl : I6 l) (hl : l.length ≤ 12) (hw : ∀ g,g ∈ l → ZP g) : aO Tryz.prog 95 [.sl 0 0 l.length 2,GQ] [.arr (iB l) 2] (.tup []) [.arr (iB (dW cG l)) 2] := by
  have h1 := XY l.length hl;have h2 := zB1 l hdl hl hw (UD l.length);have hw1 : IntKind.u64.wrap (l.length : Int) = (l.length : Int) := BT (by omega) (by omega)
  generalize UD l.length = q at *;refine bK T Tryz.func95 rfl rfl rfl rfl ?_
  (repeat' (first|refine wS ?_|(refine rg 0 (mW rfl (qW T rfl (aV ?_))))|(refine rg 1 (dQ rfl (mW rfl (vV (iG uU oY rfl hw1) (vV (by exact eQ rfl rfl h1 rfl rfl rfl) ?_))));refine mW rfl (eJ [0] rfl rfl (h2) rfl rfl (by decide) ⟨.inr (aG rfl rfl (eA _)),trivial⟩ (by simp) rfl ?_))|refine nZ ?_));all_goals first | (exfalso;omega) | exact ⟨.inl rfl,[0],_,rfl,rfl,rfl,⟨.inr (aG rfl (cE _ (eA _)) (eA _)),trivial⟩,by decide,kN⟩ | exact ⟨.inr rfl,[0],_,rfl,rfl,rfl,⟨.inr (aG rfl (cE _ (eA _)) (eA _)),trivial⟩,by decide,kN⟩
end Go.Proofs.YtbialaoigijlgaaGreatDoor
namespace Go.Ld
open Go.Ab Go.Proofs.YtbialaoigijlgaaGreatDoor
def sH (g : G) : List G := mJ g.1.length g
theorem FW {g : G} {k : Nat} (h : gL g = some k) : sH g = mR g k :: sH (jM g k) := by
  obtain ⟨h1,_,h3,_⟩ := jJ h;have e : (jM g k).1.length = g.1.length - 1 := by show (g.1.eraseIdx k).length = _;rw [fL,if_pos h3]
  unfold sH;rw [e];obtain ⟨m,hm⟩ : ∃ m,g.1.length = m + 1 := ⟨g.1.length - 1,by omega⟩
  rw [hm,MB,mJ,h]
theorem M3 {g : G} (h : gL g = none) : sH g = [g] := by
  unfold sH;cases hl : g.1.length with
  | zero => rfl
  | succ m => rw [mJ,h]
theorem EG (g : G) (k : Nat) : gL (mR g k) = none := by unfold gL;rw [if_pos (.inl (by show 1 < 2;omega))]
theorem KC (g : G) (k : Nat) : sH (mR g k) = [mR g k] := M3 (EG g k)
structure mF (n : Nat) (o : List G) : Prop where
  ok : ∀ g,g ∈ o → H4 n g
  nd : (o.flatMap (·.1)).Nodup
  ln : (o.flatMap (·.1)).length ≤ 12
  ws : ∀ g,g ∈ o → g.2.length ≤ 2000
theorem vU {o : List G} {g : G} {b : Int} (h : g ∈ o) (hb : b ∈ g.1) : b ∈ o.flatMap (·.1) := nF.2 ⟨g,h,hb⟩
theorem zF : ∀ {o : List G}, (o.flatMap (·.1)).Nodup → ∀ {a b : G} {x : Int}, a ∈ o → b ∈ o → x ∈ a.1 → x ∈ b.1 → a = b
  | [],_,a,b,x,ha,_,_,_ => by cases ha
  | g :: o,h,a,b,x,ha,hb,hxa,hxb => by
    rw [cD] at h;obtain ⟨h1,h2,h3⟩ := gI.1 h;rcases bX.1 ha with e1 | ha' <;> rcases bX.1 hb with e2 | hb'
    · rw [e1,e2]
    · exact absurd rfl (h3 x (e1 ▸ hxa) x (vU hb' hxb))
    · exact absurd rfl (h3 x (e2 ▸ hxb) x (vU ha' hxa))
    · exact zF h2 ha' hb' hxa hxb
theorem mF.dist {n : Nat} {o : List G} (h : mF n o) : I6 o := by
  intro a b ha hb e;have e' : a.1.headD 0 = b.1.headD 0 := (oE.eq _ _).1 e;have hm : ∀ g : G,g.1 ≠ [] → g.1.headD 0 ∈ g.1 := fun g hg => by
    cases hq : g.1 with
    | nil => exact absurd hq hg
    | cons x l => simp
  exact zF h.nd ha hb (hm a (h.ok a ha).ne) (e' ▸ hm b (h.ok b hb).ne)
theorem mF.len {n : Nat} {o : List G} (h : mF n o) : o.length ≤ (o.flatMap (·.1)).length := by
  have : ∀ o : List G,(∀ g,g ∈ o → g.1 ≠ []) → o.length ≤ (o.flatMap (·.1)).length := by
    intro o
    induction o with
    | nil => intro _;simp
    | cons g o ih =>
      intro hg;rw [cD,aD,List.length_cons];have := ih fun g h => hg g (aY _ h);have : 0 < g.1.length := dY.2 (hg g bA);omega
  exact this o fun g hg => (h.ok g hg).ne
theorem mF.hd {n : Nat} {o : List G} (h : mF n o) : ∀ g,g ∈ o → ZP g := fun g hg => ⟨dY.2 (h.ok g hg).ne,by have := (h.ok g hg).ln;omega⟩
theorem mF.perm {n : Nat} {o p : List G} (h : mF n o) (hp : p.Perm o) : mF n p where
  ok g hg := h.ok g (hp.mem_iff.1 hg)
  nd := (hp.flatMap_right _).nodup_iff.2 h.nd
  ln := by rw [(hp.flatMap_right _).length_eq];exact h.ln
  ws g hg := h.ws g (hp.mem_iff.1 hg)
theorem H4.sz {n : Nat} {g : G} (h : H4 n g) (hw : g.2.length ≤ 2000) : ZO g := ⟨by have := h.ln;omega,by omega,fun w hw => (h.ws w hw).pl,fun w hw => (h.ws w hw).cl⟩
theorem sA {α : Type} {o : List α} {i : Nat} {x y : α} (h : o[i]? = some x) : ∃ A B,o = A ++ x :: B ∧ o.set i y = A ++ y :: B := by
  obtain ⟨hi,e⟩ := aA.1 h;refine ⟨o.take i,o.drop (i + 1),?_,?_⟩
  · rw [← e,← aS hi,bG]
  · rw [List.set_eq_take_append_cons_drop,if_pos hi]
def U1 (o : List G) (i k : Nat) (g : G) : List G := dW cG (o.set i (jM g k) ++ [mR g k])
theorem DC {o : List G} {i k : Nat} {g : G} (h : o[i]? = some g) (hk : k < g.1.length) : ((o.set i (jM g k) ++ [mR g k]).flatMap (·.1)).Perm (o.flatMap (·.1)) := by
  obtain ⟨A,B,e1,e2⟩ := sA (y := jM g k) h;rw [e2,e1];simp only [fR,cD,WH,List.append_nil,bD];refine List.Perm.append_left _ ?_;have h1 : (g.1.getD k 0 :: g.1.eraseIdx k).Perm g.1 := iS g.1 k 0 hk;have h2 : ((jM g k).1 ++ (B.flatMap (·.1) ++ (mR g k).1)).Perm ((mR g k).1 ++ ((jM g k).1 ++ B.flatMap (·.1))) := by
    rw [← bD];exact uS
  refine h2.trans ?_;rw [← bD];exact List.Perm.append_right _ h1
theorem IE {n : Nat} {o : List G} {i k : Nat} {g : G} (ok : mF n o) (h : o[i]? = some g) (hc : gL g = some k) : mF n (o.set i (jM g k) ++ [mR g k]) := by
  have hg := aM h;have hk := (jJ hc).2.2.1;have hb := DC h hk;have hm : ∀ x,x ∈ o.set i (jM g k) ++ [mR g k] → x ∈ o ∨ x = jM g k ∨ x = mR g k := fun x hx => by
    rcases bQ.1 hx with hx | hx
    · rcases iK hx with hx | hx
      · exact .inl hx
      · exact .inr (.inl hx)
    · exact .inr (.inr (dR.1 hx))
  refine ⟨fun x hx => ?_,hb.nodup_iff.2 ok.nd,by rw [hb.length_eq];exact ok.ln,fun x hx => ?_⟩
  · rcases hm x hx with hx | rfl | rfl
    · exact ok.ok x hx
    · exact (ok.ok g hg).rest hc
    · exact (ok.ok g hg).one hc
  · rcases hm x hx with hx | rfl | rfl
    · exact ok.ws x hx
    · have := vP (g.2.map fun w => (w.1.eraseIdx k,w.2.1,w.2.2.eraseIdx k));rw [bF] at this;exact bW this (ok.ws g hg)
    · show 1 ≤ 2000;omega
theorem KG {o : List G} {i k : Nat} {g : G} (h : o[i]? = some g) (hc : gL g = some k) : ((o.set i (jM g k) ++ [mR g k]).flatMap sH).Perm (o.flatMap sH) := by
  obtain ⟨A,B,e1,e2⟩ := sA (y := jM g k) h;rw [e2,e1];simp only [fR,cD,WH,List.append_nil,bD,FW hc,KC];refine List.Perm.append_left _ ?_;rw [← bD];exact uS
def WJ (o : List G) : Nat := (o.map fun g => g.1.length - 1).sum
theorem MJ {o p : List G} (h : p.Perm o) : WJ p = WJ o := (h.map _).sum_nat
theorem OQ {o : List G} {i k : Nat} {g : G} (h : o[i]? = some g) (hc : gL g = some k) : WJ (o.set i (jM g k) ++ [mR g k]) + 1 = WJ o := by
  obtain ⟨A,B,e1,e2⟩ := sA (y := jM g k) h;obtain ⟨h1,_,h3,_⟩ := jJ hc;have e : (jM g k).1.length = g.1.length - 1 := by show (g.1.eraseIdx k).length = _;rw [fL,if_pos h3]
  rw [e2,e1];unfold WJ;simp only [dB,List.map_cons,List.map_nil,ZL,List.sum_cons,List.sum_nil,e];have : (mR g k).1.length = 1 := rfl;omega
structure nK (n : Nat) (L o : List G) (i : Nat) : Prop where
  ok : mF n o
  up : ER o
  fl : (o.flatMap sH).Perm (L.flatMap sH)
  hi : i ≤ o.length
  no : ∀ (j : Nat) (g : G),j < i → o[j]? = some g → gL g = none
theorem nK.start {n : Nat} {L : List G} (ok : mF n L) (up : ER L) : nK n L L 0 := ⟨ok,up,.refl _,bP _,fun j g h => absurd h (dI _)⟩
theorem nK.keep {n : Nat} {L o : List G} {i : Nat} {g : G} (p : nK n L o i) (h : o[i]? = some g) (hc : gL g = none) : nK n L o (i + 1) where
  ok := p.ok
  up := p.up
  fl := p.fl
  hi := (aA.1 h).1
  no j x hj hx := by
    rcases gO j i with h' | h'
    · exact p.no j x h' hx
    · obtain rfl : j = i := by omega
      rw [h] at hx;cases hx;exact hc
theorem nK.next {n : Nat} {L o : List G} {i k : Nat} {g : G} (p : nK n L o i) (h : o[i]? = some g) (hc : gL g = some k) : nK n L (U1 o i k g) 0 where
  ok := (IE p.ok h hc).perm (dU _ _)
  up := pX _
  fl := ((dU cG _).flatMap_right _).trans ((KG h hc).trans p.fl)
  hi := bP _
  no j g h := absurd h (dI _)
theorem nK.fin {n : Nat} {L o : List G} {i : Nat} (p : nK n L o i) (hi : o.length ≤ i) : xQ L = o := by
  have e : o.flatMap sH = o := by
    have : ∀ g,g ∈ o → sH g = [g] := fun g hg => by
      obtain ⟨j,hj,e⟩ := pI.1 hg;exact M3 (p.no j g (by omega) (by rw [aB hj,e]))
    clear p hi
    induction o with
    | nil => rfl
    | cons g o ih => rw [cD,this g bA,ih fun g h => this g (aY _ h)];rfl
  have hp := p.fl;rw [e] at hp;show dW cG (L.flatMap sH) = o;exact CL (p.ok.dist.perm hp.symm) hp p.up
theorem MW {l : List G} {k : Nat} (h : k < l.length) : tE (l.take (k + 1)) = tE (l.take k) + jN l[k] := by
  unfold tE;rw [aR h,dB,ZL];simp
theorem X7 : ∀ {l : List G}, (∀ g, g ∈ l → 0 ≤ jN g ∧ jN g ≤ 4000000) → 0 ≤ tE l ∧ tE l ≤ 4000000 * l.length
  | [],_ => by simp [tE]
  | g :: l,h => by
    have h1 := h g bA;have h2 := X7 (l := l) fun g hg => h g (aY _ hg);have e : tE (g :: l) = jN g + tE l := by simp [tE]
    rw [e,List.length_cons];omega
abbrev fT (c : Cx) (gs : List G) : List AV := [.i c.m,.i c.st,.i c.er,.i c.sl,.rowE (iC c.ks) 2,.rowE (kZ c.ls) 3,.rowE (fS c.bs) 3,.rowE (iB gs) 2]
theorem KP (c : Cx) (r : Int) (l : List W) : fM (fun w => decide (w.2.1 + r > c.m)) l = l.filter fun w => decide (w.2.1 + r ≤ c.m) := by
  unfold fM;congr 1;funext w;show (!decide (w.2.1 + r > c.m)) = decide (w.2.1 + r ≤ c.m);by_cases h : w.2.1 + r ≤ c.m
  · rw [decide_eq_true h,decide_eq_false (by omega)];rfl
  · rw [decide_eq_false h,decide_eq_true (by omega)];rfl
theorem KF {c : Cx} {all : List G} {k : Nat} (h : k < all.length) : (paid c all).take (k + 1) = (paid c all).take k ++ [(all[k].1,fM (fun w => decide (w.2.1 + (tE all - jN all[k]) > c.m)) all[k].2)] := by
  rw [KP];unfold paid;rw [← jY,← jY,aR h,dB];rfl
theorem OH (c : Cx) (all : List G) : (paid c all).length = all.length := by unfold paid;rw [bF]
theorem C5 (c : Cx) (all : List G) : (paid c all).flatMap (·.1) = all.flatMap (·.1) := by
  unfold paid;rw [Q4]
theorem H4.sub {n : Nat} {g : G} (h : H4 n g) {ws : List W} (hs : ∀ w,w ∈ ws → w ∈ g.2) : H4 n (g.1,ws) := ⟨h.ne,h.up,h.rg,h.ln,fun w hw => h.ws w (hs w hw),fun w v hw hv => h.same w v (hs w hw) (hs v hv)⟩
theorem mF.paid {n : Nat} {all : List G} (h : mF n all) (c : Cx) : mF n (paid c all) where
  ok g hg := by
    obtain ⟨x,hx,rfl⟩ := bM.1 hg;exact (h.ok x hx).sub fun w hw => (ZM.1 hw).1
  nd := by rw [C5];exact h.nd
  ln := by rw [C5];exact h.ln
  ws g hg := by
    obtain ⟨x,hx,rfl⟩ := bM.1 hg;exact bW (BN _ _) (h.ws x hx)
theorem HL {c : Cx} {all : List G} (h : ER all) : ER (paid c all) := by
  unfold paid;refine SF.2 (h.imp fun h => h)
theorem U7 {n : Nat} {g : G} (h : H4 n g) (hne : g.2 ≠ []) : 0 ≤ jN g ∧ jN g ≤ 4000000 := by
  obtain ⟨w,hw,e⟩ := KO hne;have := h.ws w hw;rw [← e];exact ⟨this.m0,this.m1⟩
end Go.Ld
namespace Go.Proofs.YtbialaoigijlgaaGreatDoor
open Go Go.Ab Go.Ld
attribute [local irreducible] VC AW bV aO
set_option maxHeartbeats 4000000
theorem SY (c : Cx) (gs : List G) (w : W) (r : Int) (h1 : 0 ≤ w.2.1 ∧ w.2.1 ≤ 4000000) (h2 : -100000000 ≤ r ∧ r ≤ 100000000) : aO Tryz.prog 92 [S6 w,.pr [.i r] 0,.pr [.pr (fT c gs) 0] 0] [] (.b (decide (w.2.1 + r > c.m))) [] := by
  refine bK T Tryz.func92 rfl rfl rfl rfl ?_
  (repeat' (first|refine wS ?_|refine wR ?_|(refine rg 0 (bT (cQ rfl rfl) rfl (aV ?_)))|(refine cJ (id := 1) 15 [[],[0],[],[0,1,2],[],[4],[4,5],[4,5,6],rM 4 4,rN 9] (rM 5 10) [[],[],[5,6],[],rM 5 4,rM 5 4,rM 5 4,rM 5 4,rM 5 4,[]] cN rfl (by decide +kernel) (dP T rfl (dO T rfl (dO T rfl (dV rfl (bS rfl rfl (by omega) (by omega)) (dO T rfl (dV rfl (by exact eE rfl rfl) ?_))))));refine dP T rfl (dP T rfl (dO T rfl (dV rfl (fU rfl rfl) (dE ?_))));refine aV ?_)|refine nZ ?_));all_goals first | (exfalso;omega) | exact rQ
end Go.Proofs.YtbialaoigijlgaaGreatDoor
namespace Go.Ab
open Go
theorem HD {P : Program} {f : FuncId} {n : Nat} (hfn : ∃ fn, P.funcs[f]? = some fn ∧ (fn.name == "runtime.NumGoroutine") = false ∧ fn.body.isNone = false)
    (hs : ∀ w : World,Calls P f #[.slice none 0 0,.int .i64 n] w fun e w' => ∃ (g : Nat) (cs : Array Value) (t : TypeId),e = .returned (.slice (some ⟨w.heap.size,0,none⟩) 0 g) ∧ g ≤ maxLen ∧ g ≤ cs.size ∧ w' = w.drew.alloc (.cells cs t)) :
    aO P f [.nils,.i n] [] (.sl 0 0 0 1) [.arr [] 1] := by
  refine ⟨hfn,fun ρ S w vs s ha => ?_⟩
  simp only [RL,R] at ha;obtain ⟨y,_,rfl,rfl,y2,_,rfl,rfl,rfl⟩ := ha;refine (hs w).mono fun e w' ⟨g,cs,t,he,hg,hgc,hw⟩ => ?_
  subst hw;have hnew : (w.drew.alloc (.cells cs t)).heap[w.heap.size]? = some (.cells cs t (0,0)) := (MapKept.heap_alloc w.drew _).1;obtain ⟨ρ', g1, g2, _⟩ := s.made (x := .sl 0 0 0 1) (b := .arr [] 1) (y := .slice (some ⟨w.heap.size, 0, none⟩) 0 g) (q := some (w.heap.size, 0)) ((lC.drew1 w).trans (lM w.drew (.cells cs t) (fun _ => False)) (fun _ h => h.elim)) (fun p hp => by cases hp; exact ⟨aX _, by rw [World.size_alloc]; exact Nat.lt_succ_self _⟩)
    (fun ρ' e1 e2 l' => ⟨by simp only [R];exact ⟨_,_,rfl,hg,.inr ⟨_,_,e1,rfl,bP _,⟨cs,t,(0,0),hnew,by omega⟩⟩⟩,⟨(fun e he => nomatch he),WZ,.inl ⟨rfl,fun b o hbo => by cases hbo;exact ⟨cs,t,hnew⟩⟩⟩⟩)
  exact ⟨_,ρ',S,he,g1,g2⟩
end Go.Ab
namespace Go.Proofs.YtbialaoigijlgaaGreatDoor
open Go Go.Ab Go.Ld Go.Shelf Go.Proofs
attribute [local irreducible] VC AW bV aO
set_option maxHeartbeats 4000000
shelf_lay_g Lays8.n4 Nm8 4 at Tryz 108 as laysGrow
theorem YJ (n : Nat) (h0 : 0 < n) (h1 : n ≤ 1000000) : aO Tryz.prog 108 [.nils,.i n] [] (.sl 0 0 0 1) [.arr [] 1] := by
  obtain ⟨inf,z,t1,t2,t3,t4,t5,t6,t7⟩ := T.tiOk 3 _ rfl;have hz : z.cells.size = 1 := by have := congrArg List.length t5;simpa using this
  refine HD ⟨_,Tryz.func108,by kernel_rfl,by kernel_rfl⟩ (fun w => ?_)
  refine (Any8.slices_Grow_grow laysGrow inf z t1 t4 (by rw [t2];decide) none 0 0 n [] w (aX _) (by omega) (by rw [t3];simp;omega) (by omega) (by simp) (fun _ => rfl) (fun a h => by cases h)).mono ?_
  rintro e w' ⟨rfl,rfl⟩;have hge := grownCap_ge w (0 + n) 0 3;refine ⟨_,_,_,rfl,grownCap_le_maxLen w _ _ _ (by unfold maxLen;omega),?_,rfl⟩
  simp only [SL,Builtin.zeroCells,Array.size_map,Array.size_range,hz,kL,List.length_nil];omega
theorem QI (p q : List Int) (hp : 0 < p.length ∧ p.length ≤ 1000) (hq : 0 < q.length ∧ q.length ≤ 1000) : aO Tryz.prog 72 [.rowE [[.rowE (ints p) 1],[.rowE (ints q) 1]] 1] [] (.rowE (ints (p ++ q)) 1) [] := by
  have hgr := YJ (p.length + q.length) (by omega) (by omega)
  rw [show ((p.length + q.length : Nat) : Int) = (p.length : Int) + q.length by omega] at hgr
  have hlp : (ints p).length = p.length := cW _;have hlq : (ints q).length = q.length := cW _;have hpq : ints (p ++ q) = ints p ++ ints q := dB;have hle : ∀ e,e ∈ [[AV.rowE (ints p) 1],[AV.rowE (ints q) 1]] → e.length = 1 := by intro e he;simp at he;rcases he with rfl | rfl <;> rfl
  have g0 : [[AV.rowE (ints p) 1],[AV.rowE (ints q) 1]][((0 : Nat) : Int).toNat]? = some [AV.rowE (ints p) 1] := rfl;have g1 : [[AV.rowE (ints p) 1],[AV.rowE (ints q) 1]][((1 : Nat) : Int).toNat]? = some [AV.rowE (ints q) 1] := rfl;refine kU (by rw [cW] : (p ++ q).length = (ints (p ++ q)).length) (gD (bO _)) ?_
  rw [hpq,aD];have o1 := zN p;have o2 := zN q;have n1 := bZ p;have n2 := bZ q;have i1 := bO p;have i2 := bO q;generalize ints p = P' at *;generalize ints q = Q' at *;obtain ⟨sz,s0,s1,s2⟩ : ∃ sz : Nat → Int,sz 0 = 0 ∧ sz 1 = P'.length ∧ sz 2 = P'.length + Q'.length := ⟨fun k => if k = 0 then 0 else if k = 1 then (P'.length : Int) else P'.length + Q'.length,by simp,by simp,by simp⟩
  obtain ⟨cc,c0,c1,c2⟩ : ∃ cc : Nat → List (List AV),cc 0 = [] ∧ cc 1 = P' ∧ cc 2 = P' ++ Q' := ⟨fun k => if k = 0 then [] else if k = 1 then P' else P' ++ Q',by simp,by simp,by simp⟩
  refine bK T Tryz.func72 rfl rfl rfl rfl ?_
  (repeat' (first|refine wS ?_|refine wB ?_|(refine rg 0 (aV ?_))|(refine rg 1 (aV ?_))|(refine rg 2 (mW rfl (qW T rfl (mV ?_))))|refine nZ ?_));refine cK (X := {k : Nat // k ≤ 2}) (fun k => [(0,.rowE [[.rowE P' 1],[.rowE Q' 1]] 1),(3,.i (sz k.1)),(9,.rowE [[.rowE P' 1],[.rowE Q' 1]] 1),(10,.i 2),(11,.i k.1)]) (fun _ => []) (fun k => 2 - k.1) ⟨0,by omega⟩ ⟨[],rfl,⟨rfl,by rw [s0];rfl,rfl,rfl,rfl,trivial⟩,trivial,cX,jT _⟩ ?_
  rintro ⟨k,hk⟩;dsimp only;rcases (by omega : k = 0 ∨ k = 1 ∨ k = 2) with rfl | rfl | rfl
  · (repeat' (first|refine wS ?_|refine wB ?_|refine wK ?_|refine qP rfl ?_|(refine wC rfl (fun hb => ?_) (fun hb => ?_) <;> (((try simp only [nm] at hb);try (exfalso;omega))))|(refine rg 3 (vV (aJ rfl rfl) ?_))|(refine rg 4 (vV (ix T rfl (by omega) hle g0) (lW T rfl (aV ?_))))|(refine rg 5 (dQ rfl (qW T rfl (vV (bS rfl rfl (by omega) (by omega)) (aV ?_)))))|(refine rg 6 (mW rfl (vV (aJ rfl rfl) ?_)))|(refine rg 8 (vV (bS rfl rfl (by omega) (by omega)) (mV ?_)))|(refine nZ ?_)));all_goals first | (exfalso;omega) | exact ⟨⟨1,by omega⟩,by dsimp only;omega,[],rfl,⟨rfl,by dsimp only;rw [show sz 1 = sz 0 + P'.length by omega];rfl,rfl,rfl,rfl,trivial⟩,trivial,cX,jT _⟩
  · (repeat' (first|refine wS ?_|refine wB ?_|refine wK ?_|refine qP rfl ?_|(refine wC rfl (fun hb => ?_) (fun hb => ?_) <;> (((try simp only [nm] at hb);try (exfalso;omega))))|(refine rg 3 (vV (aJ rfl rfl) ?_))|(refine rg 4 (vV (ix T rfl (by omega) hle g1) (lW T rfl (aV ?_))))|(refine rg 5 (dQ rfl (qW T rfl (vV (bS rfl rfl (by omega) (by omega)) (aV ?_)))))|(refine rg 6 (mW rfl (vV (aJ rfl rfl) ?_)))|(refine rg 8 (vV (bS rfl rfl (by omega) (by omega)) (mV ?_)))|(refine nZ ?_)));all_goals first | (exfalso;omega) | exact ⟨⟨2,by omega⟩,by dsimp only;omega,[],rfl,⟨rfl,by dsimp only;rw [show sz 2 = sz 1 + Q'.length by omega];rfl,rfl,rfl,rfl,trivial⟩,trivial,cX,jT _⟩
  · rw [← hlp,← hlq,← s2] at hgr
    (repeat' (first|refine wS ?_|refine wB ?_|refine wE ?_|refine wU ?_|(refine rg 3 (vV (aJ rfl rfl) ?_))|(refine rg 9 (mW rfl (bT (by exact fZ rfl rfl hgr (.inr ⟨rfl,rfl,by simp⟩)) rfl ?_));refine aV ?_)|(refine rg 10 (mW rfl (qW T rfl (mV ?_))))|refine nZ ?_));all_goals try (exfalso;omega)
    refine cK (X := {k : Nat // k ≤ 2}) (fun k => [(6,.sl 0 0 (cc k.1).length 1),(25,.rowE [[.rowE P' 1],[.rowE Q' 1]] 1),(26,.i 2),(27,.i k.1)]) (fun k => [.arr (cc k.1) 1]) (fun k => 2 - k.1) ⟨0,by omega⟩ ⟨[0],rfl,⟨by dsimp only;rw [c0];rfl,rfl,rfl,rfl,trivial⟩,⟨.inr (aG rfl (by dsimp only;rw [c0];rfl) (by rw [c0];intro e he;cases he)),trivial⟩,by decide,jT _⟩ ?_
    clear hk;rintro ⟨k,hk⟩;dsimp only;rcases (by omega : k = 0 ∨ k = 1 ∨ k = 2) with rfl | rfl | rfl
    · rw [c0]
      (repeat' (first|refine wS ?_|refine wB ?_|refine wK ?_|refine wT ?_|(refine rg 11 (vV (aJ rfl rfl) ?_))|(refine rg 12 (vV (ix T rfl (by omega) hle g0) (lW T rfl (aV ?_))))|(refine rg 13 (dQ rfl (gR T rfl rfl rfl rfl rfl rfl (by simp) (.row n1) o1 (by simp;omega) (by simp;omega) rfl ?_));refine aV ?_)|(refine rg 14 (vV (bS rfl rfl (by omega) (by omega)) (mV ?_)))|refine nZ ?_));all_goals first | (exfalso;omega) | skip
      exact ⟨⟨1,by omega⟩,by dsimp only;omega,⟨[1],rfl,⟨by dsimp only;rw [c1];show some (AV.sl 1 0 (0 + P'.length) 1) = some (AV.sl 1 0 P'.length 1);rw [Nat.zero_add],rfl,rfl,rfl,trivial⟩,⟨.inr (aG rfl (by dsimp only;rw [c1];rfl) (by rw [c1];exact i1)),trivial⟩,by decide,jT _⟩⟩
    · rw [c1]
      (repeat' (first|refine wS ?_|refine wB ?_|refine wK ?_|refine wT ?_|(refine rg 11 (vV (aJ rfl rfl) ?_))|(refine rg 12 (vV (ix T rfl (by omega) hle g1) (lW T rfl (aV ?_))))|(refine rg 13 (dQ rfl (gR T rfl rfl rfl rfl rfl rfl (by omega) (.row n2) o2 (by (simp;omega)) (by omega) rfl ?_));refine aV ?_)|(refine rg 14 (vV (bS rfl rfl (by omega) (by omega)) (mV ?_)))|refine nZ ?_));all_goals first | (exfalso;omega) | skip
      exact ⟨⟨2,by omega⟩,by dsimp only;omega,⟨[1],rfl,⟨by dsimp only;rw [c2,aD];rfl,rfl,rfl,rfl,trivial⟩,⟨.inr (aG rfl (by dsimp only;rw [c2,nH,dA]) (by rw [c2];intro e he;rcases bQ.1 he with he | he;exact i1 e he;exact i2 e he)),trivial⟩,by decide,jT _⟩⟩
    · rw [c2,aD]
      (repeat' (first|refine wS ?_|refine wR ?_|refine wE ?_|refine wU ?_|(refine rg 11 (vV (aJ rfl rfl) ?_))|(refine rg 15 (mW rfl (aV ?_)))|refine nZ ?_));all_goals first | (exfalso;omega) | exact ⟨.inl rfl,[0],_,rfl,by rw [hlp,hlq];rfl,rfl,⟨.inr (aG rfl rfl (by intro e he;rcases bQ.1 he with he | he;exact i1 e he;exact i2 e he)),trivial⟩,by decide,jT _⟩
theorem O6 (l : List G) (hl : l.length ≤ 1000000) : aO Tryz.prog 35 [.rowE (iB l) 2] [] (.sl 0 0 l.length 2) [.arr (iB l) 2] := by
  have hll : (iB l).length = l.length := gZ l;refine bK T Tryz.func35 rfl rfl rfl rfl ?_
  repeat' (first|refine wS ?_|refine wK ?_|refine wT ?_|refine wU ?_|(refine rg 0 (aV ?_))|(refine rg 1 (mV ?_);refine qE T rfl rfl rfl rfl fun b hb=>?_;cases b)|refine nZ ?_)
  · (repeat' (first|refine wR ?_|(refine rg 3 (bT (by exact bC T rfl rfl (by decide) (by decide) rfl rfl rfl) rfl ?_);refine mW rfl (gR T rfl rfl rfl rfl rfl rfl (by decide) (.row (mS l)) (PO l) (by simp;omega) (by simp;omega) rfl ?_);refine aV ?_)|(refine nZ ?_)));exact ⟨.inl rfl,[1],_,rfl,(by show AV.sl 1 0 (0 + (iB l).length) 2 = AV.sl 1 0 l.length 2;simp),rfl,⟨.inr (aG rfl rfl (eA _)),trivial⟩,by decide,I1⟩
  · have hl0 : l = [] := fH.1 (Classical.byContradiction fun h => by have := hb (by omega);cases this)
    subst hl0
    (repeat' (first|refine wR ?_|(refine rg 2 (vV (fG rfl) (rL 2 2 rfl (by decide) ?_)))|refine nZ ?_));exact ⟨.inl rfl,[0],_,rfl,rfl,rfl,⟨.inr (aG rfl rfl (eA _)),trivial⟩,by decide,I1⟩
theorem VH (g : G) (b : Int) (h : g.1.length ≤ 1000000) : aO Tryz.prog 76 [MH g,.pr [.i b] 0] [] (.b (decide (b ∈ g.1))) [] := by
  have hc := O5 g.1 b (by omega)
  refine bK T Tryz.func76 rfl rfl rfl rfl ?_
  (repeat' (first|refine wS ?_|refine wR ?_|(refine rg 0 (bT (cQ rfl rfl) rfl (aV ?_)))|(refine rg 1 (hO T rfl (lW T rfl (vV (kC (hc)) (aV ?_)))))|refine nZ ?_));all_goals first | (exfalso;omega) | exact rQ
theorem vW (l : List G) (b : Int) (hl : l.length ≤ 1000000) (hg : ∀ g,g ∈ l → g.1.length ≤ 1000000) : aO Tryz.prog 37 [.rowE (iB l) 2,.i b] [] (.i (nE l b)) [] := by
  have hc := WR (caps := [.pr [.i b] 0]) (p := fun g => decide (b ∈ g.1)) hl rfl (fun x hx => VH x b (hg x hx));have e : qK (fun g : G => decide (b ∈ g.1)) l 0 = nE l b := by
    rw [U8];unfold nE;cases l.findIdx? fun g => decide (b ∈ g.1) with
    | none => rfl
    | some i => simp
  rw [e] at hc;generalize nE l b = v at *;refine bK T Tryz.func37 rfl rfl rfl rfl ?_
  (repeat' (first|refine wS ?_|refine wR ?_|(refine rg 0 (bT (cQ rfl rfl) rfl (aV ?_)))|(refine rg 1 (mW rfl (vV (by exact iX rfl rfl) ?_));refine vV (by exact eN rfl rfl hc (.cons (.row _ _ _) (.cons (.clo .nil (.cons (.ptr rfl (.cons (.v _) .nil)) .nil)) .nil)) rfl rfl) ?_;refine aV ?_)|refine nZ ?_));all_goals first | (exfalso;omega) | exact rQ
end Go.Proofs.YtbialaoigijlgaaGreatDoor
namespace Go.Ld
open Go.Ab Go.Proofs.YtbialaoigijlgaaGreatDoor
theorem DU {α β : Type} {f : α → List β} {n : Nat} : ∀ (l : List α) (hf : ∀ x, x ∈ l → (f x).length = n) (i j : Nat) (hi : i < l.length) (hj : j < n), (l.flatMap f)[n * i + j]? = (f l[i])[j]?
  | [],hf,i,j,hi,hj => by simp at hi
  | x :: l,hf,0,j,hi,hj => by
    rw [cD,Nat.mul_zero,Nat.zero_add,aF (by rw [hf x bA];exact hj)];rfl
  | x :: l,hf,i + 1,j,hi,hj => by
    have h1 := hf x bA;rw [cD,aE (by rw [h1,SC];omega),h1,show n * (i + 1) + j - n = n * i + j by rw [SC];omega]
    exact DU l (fun x hx => hf x (aY _ hx)) i j (by simpa using hi) hj
theorem DT {α β : Type} {f : α → List β} {n : Nat} : ∀ (l : List α) (hf : ∀ x, x ∈ l → (f x).length = n), (l.flatMap f).length = n * l.length
  | [],hf => by simp
  | x :: l,hf => by
    rw [cD,aD,hf x bA,DT l (fun x hx => hf x (aY _ hx)),List.length_cons,SC];omega
theorem T8 (a b : G) (l : List Int) : (nL a b l).length = b.2.length * a.2.length := DT _ fun x _ => bF _
theorem KE {a b : G} {l : List Int} {i j : Nat} (hi : i < a.2.length) (hj : j < b.2.length) : (nL a b l)[b.2.length * i + j]? = some (M4 a b a.2[i] b.2[j] l) := by
  unfold nL;rw [DU _ (fun x _ => bF _) i j hi hj];simp [hj]
theorem xD : ∀ (l : List Int) (v : Int) (k : Nat), v ∈ l → tU l v k = ((k + l.idxOf v : Nat) : Int)
  | [],v,k,h => by cases h
  | x :: l,v,k,h => by
    unfold tU;by_cases e : v = x
    · rw [if_pos e,e,List.idxOf_cons_self];rfl
    · have e' : (x :: l).idxOf v = l.idxOf v + 1 := by rw [List.idxOf_cons,beq_eq_false_iff_ne.2 (fun h => e h.symm)];rfl
      rw [if_neg e,show ((k : Int) + 1) = ((k + 1 : Nat) : Int) by omega,xD l v (k + 1) (by rcases bX.1 h with h | h;exact absurd h e;exact h),e']
      omega
theorem IN : ∀ (l : List Int) (v k : Int), v ∉ l → tU l v k = -1
  | [],v,k,h => rfl
  | x :: l,v,k,h => by
    unfold tU;rw [if_neg (fun e : v = x => h (by rw [e];exact bA)),IN l v (k + 1) (fun q => h (aY _ q))]
def M1 (a b : G) (l : List Int) (k : Nat) : List AV := match (nL a b l)[k]? with
  | some w => [.agg (wA w)]
  | none => []
theorem NX {a b : G} {l : List Int} {i j : Nat} (hi : i < a.2.length) (hj : j < b.2.length) : M1 a b l (b.2.length * i + j) = [.agg (wA (M4 a b a.2[i] b.2[j] l))] := by
  unfold M1;rw [KE hi hj]
theorem CE {α β : Type} {f : α → β} {l : List α} {m : Nat} (h : m < l.length) : (l.map f).take (m + 1) = (l.map f).take m ++ [f l[m]] := by
  rw [aR (by simpa using h)];simp
end Go.Ld
namespace Go.Proofs.YtbialaoigijlgaaGreatDoor
open Go Go.Ab Go.Ld
attribute [local irreducible] VC AW bV aO AY VY Q7 jR
set_option maxHeartbeats 4000000
abbrev XQ (a b : G) (l : List Int) : AV := .clo (.func 109) [] [.pr (gA a) 0,.pr (gA b) 0,.pr [.rowE (ints l) 1] 0]
theorem TV (a b : G) (l : List Int) : aO Tryz.prog 73 [MH a,MH b,.rowE (ints l) 1] [] (XQ a b l) [] := by
  refine uH (res := .clo (.func 109) [] [.ptr 0 0,.ptr 1 0,.ptr 2 0]) (hout := [.cells (gA a),.cells (gA b),.cells [.rowE (ints l) 1]]) ?_ (.clo .nil (.cons (.ptr rfl (.cons (.row _ _ _) (.cons (.row _ _ _) .nil))) (.cons (.ptr rfl (.cons (.row _ _ _) (.cons (.row _ _ _) .nil))) (.cons (.ptr rfl (.cons (.row _ _ _) .nil)) .nil))));refine bK T Tryz.func73 rfl rfl rfl rfl ?_
  (repeat' (first|refine wS ?_|refine wR ?_|(refine rg 0 (bT (cQ rfl rfl) rfl (bT (cQ rfl rfl) rfl (bT (cQ rfl rfl) rfl (aV ?_)))))|(refine rg 1 (vV (by exact iX rfl rfl) ?_);refine aV ?_)|refine nZ ?_));all_goals exact ⟨.inl rfl,[0,1,2],_,rfl,rfl,rfl,⟨.inr rfl,.inr rfl,.inr rfl,trivial⟩,by decide,jT _⟩
theorem OF (a b : G) (l : List Int) (sa : ZO a) (sb : ZO b) (hl : l.length ≤ 1000) (hm : ∀ k,k ∈ l → k ∈ a.1 ∨ k ∈ b.1) (h1 : ∀ w,w ∈ a.2 → 0 ≤ w.2.1 ∧ w.2.1 ≤ 4000000) (h2 : ∀ w,w ∈ b.2 → 0 ≤ w.2.1 ∧ w.2.1 ≤ 4000000) :
    Q7 Tryz.prog 109 [] [.pr (gA a) 0,.pr (gA b) 0,.pr [.rowE (ints l) 1] 0] [] (M1 a b l) (nL a b l).length := by
  have hnn := T8 a b l;have hla : (eY a.2).length = a.2.length := eD _;have hlb : (eY b.2).length = b.2.length := eD _;have hll : (ints l).length = l.length := cW _;have hwa := sa.w;have hwb := sb.w;refine WY T Tryz.func109 rfl rfl rfl rfl ?_;intro J A y hJ hy
  (repeat' (first|(first|(refine uD ?_)|(refine wH ?_))|(((refine oL hJ (eK (id := 0) ?_)));(all_goals (refine PW T ?_;(refine qV T ?_);refine mV ?_)))|refine nZ ?_));refine AX (X := {i : Nat // i ≤ a.2.length}) (fun i => [(0,.clo (.yield y) [] []),(1,.pr (gA a) 0),(2,.pr (gA b) 0),(3,.pr [.rowE (ints l) 1] 0),(15,.rowE (eY a.2) 3),(16,.i (eY a.2).length),(17,.i i.1)]) (fun _ => []) (fun i => (b.2.length * i.1,false)) (fun i => a.2.length - i.1) ⟨0,bP _⟩ rfl (dS []) ?_
  rintro ⟨i,hi⟩;dsimp only;by_cases hlt : i < a.2.length
  · have ga := mH hlt;have hx := sa.p _ (aI hlt);have hx2 := sa.c _ (aI hlt);have hx3 := h1 _ (aI hlt);have hpi := fun (j : Nat) (hj : j < b.2.length) => NX (a := a) (b := b) (l := l) hlt hj;generalize a.2[i] = x at *
    (repeat' (first|(first|(refine uD ?_)|(refine wH ?_)|(refine J8 ?_))|((refine uE rfl (fun hb=>?_) (fun hb=>?_)<;>(((try simp only [nm] at hb);try ((exfalso;omega);done)))))|(((refine oL hJ (eK (id := 1) ?_)));(all_goals (refine vV (aJ rfl rfl) ?_)))|(((refine oL hJ (eK (id := 2) ?_)));(all_goals (refine vV (ix T rfl (by omega) (jB _) ga) ?_;refine lV T ?_;refine bT (bH T rfl) rfl ?_;refine aQ T rfl rfl rfl rfl rfl rfl (by decide) rfl ?_)))|(((refine oL hJ (eK (id := 3) ?_)));(all_goals (refine PW T ?_;(refine qV T ?_);refine mV ?_)))|refine nZ ?_));all_goals try (exfalso;omega)
    refine AX (X := {j : Nat // j ≤ b.2.length}) (fun j => [(0,.clo (.yield y) [] []),(1,.pr (gA a) 0),(2,.pr (gA b) 0),(3,.pr [.rowE (ints l) 1] 0),(6,.ptr 0 0),(15,.rowE (eY a.2) 3),(16,.i (eY a.2).length),(17,.i i),(22,.rowE (eY b.2) 3),(23,.i (eY b.2).length),(24,.i j.1)]) (fun _ => [.cells (wA x)]) (fun j => (b.2.length * i + j.1,false)) (fun j => b.2.length - j.1) ⟨0,bP _⟩ rfl ⟨[0],rfl,(by repeat first|exact trivial|refine ⟨rfl,?_⟩),⟨.inr rfl,trivial⟩,by decide,jT _⟩ ?_
    rintro ⟨j,hj⟩;dsimp only;by_cases hjl : j < b.2.length
    · have gb := mH hjl;have hy1 := sb.p _ (aI hjl);have hy2 := sb.c _ (aI hjl);have hy3 := h2 _ (aI hjl);have hit := hpi j hjl;have hk : b.2.length * i + j < (nL a b l).length := by
        rw [hnn];have := Nat.mul_le_mul_left b.2.length (show i + 1 ≤ a.2.length by omega)
        rw [SC] at this;omega
      generalize b.2[j] = z at *
      (repeat' (first|(first|(refine uD ?_)|(refine wH ?_)|(refine J8 ?_))|((refine uE rfl (fun hb=>?_) (fun hb=>?_)<;>(((try simp only [nm] at hb);try ((exfalso;omega);done)))))|(((refine oL hJ (eK (id := 4) ?_)));(all_goals (refine vV (aJ rfl rfl) ?_)))|(((refine oL hJ (eK (id := 5) ?_)));(all_goals (refine vV (ix T rfl (by omega) (jB _) gb) ?_;refine lV T ?_;refine bT (bH T rfl) rfl ?_;refine aQ T rfl rfl rfl rfl rfl rfl (by decide) rfl ?_)))|(((refine oL hJ (eK (id := 6) ?_)));(all_goals (refine PW T ?_;refine PW T ?_;refine vV (bS rfl rfl (by omega) (by omega)) ?_;refine vV (by exact fB T rfl rfl rfl rfl) ?_;refine bT (bH T rfl) rfl ?_;refine aQ T rfl rfl rfl rfl rfl rfl (by decide) rfl ?_)))|(((refine oL hJ (eK (id := 7) ?_)));(all_goals (refine lV T ?_;(refine qV T ?_);refine mV ?_)))|refine nZ ?_));all_goals try (exfalso;omega)
      refine oL hJ ?_;refine uF 2 0 1 rfl rfl (by decide) ?_
      refine uF 2 2 2 rfl rfl (by decide) ?_
      let fp : Int → Int := fun k => if k ∈ a.1 then gP x (a.1.idxOf k) else gP z (b.1.idxOf k)
      let fc : Int → SP := fun k => if k ∈ a.1 then gC x (a.1.idxOf k) else gC z (b.1.idxOf k)
      have hw : M4 a b x z l = (l.map fp,x.2.1 + z.2.1,l.map fc) := rfl;rw [hw] at hit;have hplen : (l.map fp).length = l.length := bF _;have hclen : (l.map fc).length = l.length := bF _;have hpt : ∀ m (h : m < l.length),(l.map fp).take (m + 1) = (l.map fp).take m ++ [fp l[m]] := fun m h => CE h
      have hct : ∀ m (h : m < l.length),(l.map fc).take (m + 1) = (l.map fc).take m ++ [fc l[m]] := fun m h => CE h
      have hfa : ∀ k,k ∈ a.1 → fp k = x.1.getD (a.1.idxOf k) 0 ∧ fc k = x.2.2.getD (a.1.idxOf k) (0,0) := fun k h => ⟨if_pos h,if_pos h⟩
      have hfb : ∀ k,k ∉ a.1 → fp k = z.1.getD (b.1.idxOf k) 0 ∧ fc k = z.2.2.getD (b.1.idxOf k) (0,0) := fun k h => ⟨if_neg h,if_neg h⟩
      clear_value fp fc
      clear hw;generalize l.map fp = PP at *;generalize l.map fc = CC at *;refine cK (X := {m : Nat // m ≤ l.length}) (fun m => [(0, .clo (.yield y) [] []), (1, .pr (gA a) 0), (2, .pr (gA b) 0), (3, .pr [.rowE (ints l) 1] 0), (6, .ptr 0 0), (8, .ptr 1 0), (9, .ptr 2 0), (15, .rowE (eY a.2) 3), (16, .i (eY a.2).length), (17, .i i), (22, .rowE (eY b.2) 3), (23, .i (eY b.2).length), (24, .i j), (34, .rowE (ints l) 1), (35, .i (ints l).length), (36, .i m.1)])
        (fun m => [.cells (wA x),.cells (wA z),.cells [.sl 3 0 m.1 1,.i (x.2.1 + z.2.1),.sl 4 0 m.1 2],.arr (ints (PP.take m.1)) 1,.arr (eO (CC.take m.1)) 2]) (fun m => l.length - m.1) ⟨0,bP _⟩ ⟨[0,1,2,3,4],rfl,(by repeat first|exact trivial|refine ⟨rfl,?_⟩),⟨.inr rfl,.inr rfl,.inr rfl,.inr rfl,.inr rfl,trivial⟩,by decide,jT _⟩ ?_
      rintro ⟨m,hm'⟩;dsimp only;have hTp : (ints (PP.take m)).length = m := by rw [cW,aU];omega
      have hTc : (eO (CC.take m)).length = m := by rw [fO,aU];omega
      by_cases hml : m < l.length
      · have hgl := IH hml;have hkm := hm l[m] (aI hml);have hp1 := hpt m hml;have hc1 := hct m hml;generalize l[m] = k at *;by_cases hka : k ∈ a.1
        · obtain ⟨e1,e2⟩ := hfa k hka;have hix := tT a.1 k (by have := sa.b;omega)
          have hxi : tU a.1 k 0 = ((a.1.idxOf k : Nat) : Int) := by have := xD a.1 k 0 hka;simpa using this
          rw [hxi] at hix;have hio := lB hka;generalize a.1.idxOf k = ia at *;have qp := lD (l := x.1) (j := (ia : Int)) (i := ia) 0 (by omega) rfl
          have qc := oZ (l := x.2.2) (j := (ia : Int)) (i := ia) (by omega) rfl
          have hlp : (ints x.1).length = x.1.length := cW _;have hlc : (eO x.2.2).length = x.2.2.length := fO _;rw [← e1] at qp;rw [← e2] at qc;have hPs : ints (PP.take (m + 1)) = ints (PP.take m) ++ [[AV.i (fp k)]] := by rw [hp1,D4]
          have hCs : eO (CC.take (m + 1)) = eO (CC.take m) ++ [[AV.i (fc k).1,AV.i (fc k).2]] := by rw [hc1,eO,dB];rfl
          generalize ints (PP.take m) = P0 at *;generalize eO (CC.take m) = C0 at *;generalize fp k = vp at *;generalize fc k = vc at *
          (repeat' (first|refine wS ?_|refine wB ?_|refine wK ?_|refine wU ?_|(refine wC rfl ?_ ?_<;>(intro hb;(try simp only [nm] at hb);try (exfalso;omega)))|(refine rg 8 (vV (aJ rfl rfl) ?_))|(refine rg 9 (vV (ix T rfl (by omega) (bZ _) hgl) (lW T rfl (aV ?_))))|(refine mC (id := 10) 6 79 [[],[],[1],[],[1,2,3],[],rN 6,rN 7] [[],[],[1],[],[1,2,3],[]] [40,41,42,43,44,12] [[],[40],[40],[40,41,42],[40],rM 40 5] cN rfl (by decide +kernel) (by decide +kernel) ?_;(dsimp only [List.take,List.drop]);refine dO T rfl (dP T rfl (dO T rfl (dN rfl (dV rfl (kC (hix)) (yH rfl rfl rfl (by exact bH T rfl) rfl ?_)))));refine AO rfl rfl (by ((dsimp only [List.nil_append,List.cons_append,List.append_nil,List.length_cons,List.length_nil,List.set_cons_zero,List.set_cons_succ,List.map_cons,List.map_nil,iW,kY,kO,oT,CB,vB,F0,E8,E7,E9,vA,vD,uZ,vC,Nat.zero_add,Nat.add_zero,Nat.reduceAdd,Bool.not_true,Bool.not_false];done))) ?_;refine gB ?_;refine aQ T rfl rfl rfl rfl rfl rfl (by decide) rfl (aV ?_))|(refine rg 11 (mW rfl (vV (aJ rfl rfl) ?_)))|(refine pY (id := 13) 79 zN7 (rM 52 19) zN8 [(8,3),(17,4),(19,2)] cN rfl (by decide +kernel) (eT rfl rfl rfl rfl (by exact bY T rfl rfl rfl) ?_);refine eT rfl rfl rfl rfl (by exact aT T rfl rfl rfl rfl) ?_;refine eT rfl rfl rfl rfl (by exact bY T rfl rfl rfl) ?_;refine eT rfl rfl rfl rfl (by exact aT T rfl rfl rfl rfl) ?_;refine eT rfl rfl rfl rfl (by exact bU rfl) ?_;refine eT rfl rfl rfl rfl (by exact ix T rfl (by omega) (bZ _) qp) ?_;refine eT rfl rfl rfl rfl (by exact aT T rfl rfl rfl rfl) ?_;refine G5 rfl rfl rfl rfl (by exact bC T rfl rfl (by decide) (by decide) rfl rfl rfl) rfl ?_;refine vY rfl rfl rfl rfl (aN rfl) (by exact pZ T rfl rfl rfl rfl rfl rfl (by omega) (kX.whole rfl rfl) rfl (by simp;omega) (by simp;omega)) ?_;refine eT rfl rfl rfl rfl (by exact bY T rfl rfl rfl) ?_;refine eT rfl rfl rfl rfl (by exact aT T rfl rfl rfl rfl) ?_;refine eT rfl rfl rfl rfl (by exact bY T rfl rfl rfl) ?_;refine eT rfl rfl rfl rfl (by exact aT T rfl rfl rfl rfl) ?_;refine eT rfl rfl rfl rfl (by exact bU rfl) ?_;refine eT rfl rfl rfl rfl (by exact ix T rfl (by omega) (gX _) qc) ?_;refine eT rfl rfl rfl rfl (by exact aT T rfl rfl rfl rfl) ?_;refine G5 rfl rfl rfl rfl (by exact bC T rfl rfl (by decide) (by decide) rfl rfl rfl) rfl ?_;refine vY rfl rfl rfl rfl (aN rfl) (by exact pZ T rfl rfl rfl rfl rfl rfl (by omega) (kX.whole rfl rfl) rfl (by simp;omega) (by simp;omega)) ?_;refine eT rfl rfl rfl rfl (by exact bY T rfl rfl rfl) ?_;refine AN rfl rfl rfl rfl (aN rfl) T rfl rfl rfl rfl rfl rfl (by decide) rfl ?_;refine xH rfl rfl rfl (by exact rfl) ?_;refine fW T rfl (aQ T rfl rfl rfl rfl rfl rfl (by decide) rfl ?_))|(refine rg 14 (vV (bS rfl rfl (by omega) (by omega)) (mV ?_)))|refine nZ ?_));all_goals try (exfalso;omega)
          exact ⟨⟨m + 1,hml⟩,by dsimp only;omega,⟨[0,1,2,7,9],rfl,(by repeat first|exact trivial|refine ⟨rfl,?_⟩),⟨.inr rfl,.inr rfl,.inr rfl,.inr (aG rfl (by dsimp only;rw [hPs];exact lT hTp.symm) (bO _)),.inr (aG rfl (by dsimp only;rw [hCs];exact lT hTc.symm) (eZ _)),trivial⟩,by decide,jT _⟩⟩
        · obtain ⟨e1,e2⟩ := hfb k hka;have hkb : k ∈ b.1 := hkm.resolve_left hka;have hix := tT a.1 k (by have := sa.b;omega)
          have hiy := tT b.1 k (by have := sb.b;omega)
          have hyi : tU b.1 k 0 = ((b.1.idxOf k : Nat) : Int) := by have := xD b.1 k 0 hkb;simpa using this
          rw [IN _ _ _ hka] at hix;rw [hyi] at hiy;have hio := lB hkb;generalize b.1.idxOf k = ia at *;have qp := lD (l := z.1) (j := (ia : Int)) (i := ia) 0 (by omega) rfl
          have qc := oZ (l := z.2.2) (j := (ia : Int)) (i := ia) (by omega) rfl
          have hlp : (ints z.1).length = z.1.length := cW _;have hlc : (eO z.2.2).length = z.2.2.length := fO _;rw [← e1] at qp;rw [← e2] at qc;have hPs : ints (PP.take (m + 1)) = ints (PP.take m) ++ [[AV.i (fp k)]] := by rw [hp1,D4]
          have hCs : eO (CC.take (m + 1)) = eO (CC.take m) ++ [[AV.i (fc k).1,AV.i (fc k).2]] := by rw [hc1,eO,dB];rfl
          generalize ints (PP.take m) = P0 at *;generalize eO (CC.take m) = C0 at *;generalize fp k = vp at *;generalize fc k = vc at *
          (repeat' (first|refine wS ?_|refine wB ?_|refine wK ?_|refine wT ?_|(refine wC rfl ?_ ?_<;>(intro hb;(try simp only [nm] at hb);try (exfalso;omega)))|(refine rg 8 (vV (aJ rfl rfl) ?_))|(refine rg 9 (vV (ix T rfl (by omega) (bZ _) hgl) (lW T rfl (aV ?_))))|(refine mC (id := 10) 6 79 [[],[],[1],[],[1,2,3],[],rN 6,rN 7] [[],[],[1],[],[1,2,3],[]] [40,41,42,43,44,12] [[],[40],[40],[40,41,42],[40],rM 40 5] cN rfl (by decide +kernel) (by decide +kernel) ?_;(dsimp only [List.take,List.drop]);refine dO T rfl (dP T rfl (dO T rfl (dN rfl (dV rfl (kC (hix)) (yH rfl rfl rfl (by exact bH T rfl) rfl ?_)))));refine AO rfl rfl (by ((dsimp only [List.nil_append,List.cons_append,List.append_nil,List.length_cons,List.length_nil,List.set_cons_zero,List.set_cons_succ,List.map_cons,List.map_nil,iW,kY,kO,oT,CB,vB,F0,E8,E7,E9,vA,vD,uZ,vC,Nat.zero_add,Nat.add_zero,Nat.reduceAdd,Bool.not_true,Bool.not_false];done))) ?_;refine gB ?_;refine aQ T rfl rfl rfl rfl rfl rfl (by decide) rfl (aV ?_))|(refine rg 11 (mW rfl (vV (aJ rfl rfl) ?_)))|(refine mN (id := 12) 79 [[],[],[1],[],[1,2,3],rN 5] (rM 47 5) [[],[47],[47],[47,48,49],[47],[]] [(5,5)] cN rfl (by decide +kernel) (cM rfl rfl rfl rfl (by exact aT T rfl rfl rfl rfl) ?_);refine cM rfl rfl rfl rfl (by exact bY T rfl rfl rfl) ?_;refine cM rfl rfl rfl rfl (by exact aT T rfl rfl rfl rfl) ?_;refine cM rfl rfl rfl rfl (by exact bU rfl) ?_;refine cM rfl rfl rfl rfl (by exact kC (hiy)) ?_;refine uA rfl rfl rfl rfl (aN rfl) T rfl rfl rfl rfl rfl rfl (by decide) rfl ?_;refine pT rfl rfl rfl (by exact rfl) ?_;refine aV ?_)|(refine pY (id := 13) 79 zN7 (rM 52 19) zN8 [(8,3),(17,4),(19,2)] cN rfl (by decide +kernel) (eT rfl rfl rfl rfl (by exact bY T rfl rfl rfl) ?_);refine eT rfl rfl rfl rfl (by exact aT T rfl rfl rfl rfl) ?_;refine eT rfl rfl rfl rfl (by exact bY T rfl rfl rfl) ?_;refine eT rfl rfl rfl rfl (by exact aT T rfl rfl rfl rfl) ?_;refine eT rfl rfl rfl rfl (by exact bU rfl) ?_;refine eT rfl rfl rfl rfl (by exact ix T rfl (by omega) (bZ _) qp) ?_;refine eT rfl rfl rfl rfl (by exact aT T rfl rfl rfl rfl) ?_;refine G5 rfl rfl rfl rfl (by exact bC T rfl rfl (by decide) (by decide) rfl rfl rfl) rfl ?_;refine vY rfl rfl rfl rfl (aN rfl) (by exact pZ T rfl rfl rfl rfl rfl rfl (by omega) (kX.whole rfl rfl) rfl (by simp;omega) (by simp;omega)) ?_;refine eT rfl rfl rfl rfl (by exact bY T rfl rfl rfl) ?_;refine eT rfl rfl rfl rfl (by exact aT T rfl rfl rfl rfl) ?_;refine eT rfl rfl rfl rfl (by exact bY T rfl rfl rfl) ?_;refine eT rfl rfl rfl rfl (by exact aT T rfl rfl rfl rfl) ?_;refine eT rfl rfl rfl rfl (by exact bU rfl) ?_;refine eT rfl rfl rfl rfl (by exact ix T rfl (by omega) (gX _) qc) ?_;refine eT rfl rfl rfl rfl (by exact aT T rfl rfl rfl rfl) ?_;refine G5 rfl rfl rfl rfl (by exact bC T rfl rfl (by decide) (by decide) rfl rfl rfl) rfl ?_;refine vY rfl rfl rfl rfl (aN rfl) (by exact pZ T rfl rfl rfl rfl rfl rfl (by omega) (kX.whole rfl rfl) rfl (by simp;omega) (by simp;omega)) ?_;refine eT rfl rfl rfl rfl (by exact bY T rfl rfl rfl) ?_;refine AN rfl rfl rfl rfl (aN rfl) T rfl rfl rfl rfl rfl rfl (by decide) rfl ?_;refine xH rfl rfl rfl (by exact rfl) ?_;refine fW T rfl (aQ T rfl rfl rfl rfl rfl rfl (by decide) rfl ?_))|(refine rg 14 (vV (bS rfl rfl (by omega) (by omega)) (mV ?_)))|refine nZ ?_));all_goals try (exfalso;omega)
          exact ⟨⟨m + 1,hml⟩,by dsimp only;omega,⟨[0,1,2,7,9],rfl,(by repeat first|exact trivial|refine ⟨rfl,?_⟩),⟨.inr rfl,.inr rfl,.inr rfl,.inr (aG rfl (by dsimp only;rw [hPs];exact lT hTp.symm) (bO _)),.inr (aG rfl (by dsimp only;rw [hCs];exact lT hTc.symm) (eZ _)),trivial⟩,by decide,jT _⟩⟩
      · obtain rfl : m = l.length := by omega
        rw [show PP.take l.length = PP by rw [← hplen,dA],show CC.take l.length = CC by rw [← hclen,dA]]
        refine mB 2 0 rfl rfl rfl (by rw [cW,hplen]) (gD (bO _)) ?_
        refine mB 2 2 rfl rfl rfl (by rw [fO,hclen]) (gD (eZ _)) ?_
        (repeat' (first|refine wS ?_|refine wE ?_|(refine wC rfl ?_ ?_<;>(intro hb;(try simp only [nm] at hb);try (exfalso;omega)))|(refine rg 8 (vV (aJ rfl rfl) ?_))|refine nZ ?_));all_goals try (exfalso;omega)
        show AY _ _ _ _ _ _ _ _ _
        (repeat' (first|(first|(refine uD ?_)|(refine J8 ?_)|(refine QY ?_))|((refine uE rfl (fun hb=>?_) (fun hb=>?_)<;>(((try simp only [nm] at hb);try ((exfalso;omega);done)))))|(((refine W4 (id := 15) ?_));((refine MK 2 hJ ?_));(dsimp only [List.take,List.drop]);(all_goals (refine mV ?_;refine lV T ?_;refine gB ?_;refine BW hJ hy rfl rfl rfl hk hit rfl ?_));(all_goals (intro yes));(all_goals (refine WL hJ ?_;refine vV (eL rfl) ?_;refine I9 (by ((dsimp only [List.nil_append,List.cons_append,List.append_nil,List.length_cons,List.length_nil,List.set_cons_zero,List.set_cons_succ,List.map_cons,List.map_nil,iW,kY,kO,oT,CB,vB,F0,E8,E7,E9,vA,vD,uZ,vC,Nat.zero_add,Nat.add_zero,Nat.reduceAdd,Bool.not_true,Bool.not_false];done))) ?_)))|(((refine oL hJ (eK (id := 16) ?_)));(all_goals (refine vV (bS rfl rfl (by omega) (by omega)) ?_;refine mV ?_)))|refine nZ ?_));all_goals first | (exfalso;omega) | skip
        · exact ⟨.inl rfl,fun h => (by first | (subst hb;cases h) | (cases h;done)),[],rfl⟩
        · obtain rfl := hb;exact ⟨⟨j + 1,hjl⟩,by dsimp only;omega,rfl,⟨[0],rfl,(by repeat first|exact trivial|refine ⟨rfl,?_⟩),⟨.inr rfl,trivial⟩,by decide,jT _⟩⟩
    · obtain rfl : j = b.2.length := by omega
      (repeat' (first|(first|(refine uD ?_)|(refine AZ ?_))|((refine uE rfl (fun hb=>?_) (fun hb=>?_)<;>(((try simp only [nm] at hb);try ((exfalso;omega);done)))))|(((refine oL hJ (eK (id := 4) ?_)));(all_goals (refine vV (aJ rfl rfl) ?_)))|(((refine oL hJ (eK (id := 17) ?_)));(all_goals (refine vV (bS rfl rfl (by omega) (by omega)) ?_;refine mV ?_)))|refine nZ ?_));all_goals first | (exfalso;omega) | skip
      exact ⟨⟨i + 1,hlt⟩,by dsimp only;omega,rfl,dS []⟩
  · obtain rfl : i = a.2.length := by omega
    (repeat' (first|(first|(refine uD ?_)|(refine AZ ?_))|((refine uE rfl (fun hb=>?_) (fun hb=>?_)<;>(((try simp only [nm] at hb);try ((exfalso;omega);done)))))|(((refine oL hJ (eK (id := 1) ?_)));(all_goals (refine vV (aJ rfl rfl) ?_)))|refine nZ ?_));all_goals first | (exfalso;omega) | skip
    exact ⟨.inr rfl,fun _ => by rw [hnn],[],rfl⟩
end Go.Proofs.YtbialaoigijlgaaGreatDoor
namespace Go.Ab
open Go
theorem pO {P : Program} {env : dK} {h : Hp} {d : Option Nat} {ty : TypeId} {pos : String} {af : Array Edge} {g : Option (Nat × Bool)} (T : nQ P) {t e sz : Nat} {es : List (List AV)} {c : List AV} {i : TI} {x y : Operand} {kk : IntKind} {j : Int} (hx : evu env x = some (.rowE es sz)) (hy : evu env y = some (.v (.int kk j))) (ha : T.elem t = some e) (he : T.ti e = some i) (hs : i.size = sz) (h0 : 0 ≤ j) (hl : ∀ e,e ∈ es → e.length = sz) (hc : es[j.toNat]? = some c) :
    SA P ⟨d,.indexAddr t x y,ty,pos,af,g⟩ env h (.pr c 0) := by
  intro ρ S a w p;have h1 : j < es.length := by have := (aA.1 hc).1;omega
  have h2 := p.evu hx;simp only [R] at h2;obtain ⟨ad,cap,h3,_,_,_,_,h4⟩ := h2;rcases h4 with h4 | ⟨b,o,ys,h5,h6,h7,h8⟩
  · omega
  have h9 := pH (p.evu hy);subst h5;refine ⟨.pointer (some ⟨b,o + j.toNat * sz,none⟩),fun w' => by simp [execOp,h3,h9,Instr.indexAt,asIntOf,run_underlying (T.elemOk _ _ ha),h0,h1,T.sizeOf he,Addr.add_lit,hs],HY hl hc ?_⟩
  simp only [R];exact ⟨b,o,ys,rfl,h6,h7,h8⟩
end Go.Ab
namespace Go.Ld
open Go.Ab Go.Proofs.YtbialaoigijlgaaGreatDoor
theorem kB {l : List G} {b : Int} (h : ∃ g,g ∈ l ∧ b ∈ g.1) : ∃ (i : Nat) (g : G),nE l b = (i : Int) ∧ l[i]? = some g ∧ b ∈ g.1 := by
  obtain ⟨g,hg,hb⟩ := h;unfold nE;cases hf : l.findIdx? fun g => decide (b ∈ g.1) with
  | none => have := List.findIdx?_eq_none_iff.1 hf g hg;simp at this;exact absurd hb this
  | some i =>
    obtain ⟨h1,h2,_⟩ := List.findIdx?_eq_some_iff_getElem.1 hf;exact ⟨i,l[i],rfl,aB h1,by simpa using h2⟩
theorem oP (l : List Int) : iD l = dW cI l :=
  xZ oE (Go.Pm.sorted_perm l) ((Go.Pm.sorted_up l).imp fun {a b} h => by unfold cI;split <;> (try split) <;> omega)
theorem KA {a b : G} {l : List Int} {k : Nat} {w : W} (h : (nL a b l)[k]? = some w) : M1 a b l k = [.agg (wA w)] := by unfold M1;rw [h]
end Go.Ld
namespace Go.Proofs.YtbialaoigijlgaaGreatDoor
open Go Go.Ab Go.Ld
attribute [local irreducible] VC AW bV aO AY VY Q7 jR
set_option maxHeartbeats 4000000
theorem zG8 : ∀ i : Nat,i < 1 → ([0,4] : List Nat)[i]? = some i := by decide
theorem UH {n : Nat} (l : List G) (a b : Int) (ok : mF n l) (ha : ∃ g,g ∈ l ∧ a ∈ g.1) (hb : ∃ g,g ∈ l ∧ b ∈ g.1) (hs : nE l a = nE l b) : aO Tryz.prog 36 [.sl 0 0 l.length 2,.i a,.i b] [.arr (iB l) 2] (.tup [.sl 0 0 l.length 2,.i 0]) [.arr (iB l) 2] := by
  have hl12 : l.length ≤ 12 := bW ok.len ok.ln;have hgl : ∀ g,g ∈ l → g.1.length ≤ 1000000 := fun g hg => by have := (ok.ok g hg).ln;omega
  have f1 := vW l a (by omega) hgl
  have f2 := vW l b (by omega) hgl
  obtain ⟨i,x,e1,hx,hax⟩ := kB ha;obtain ⟨k,y,e2,hy,hby⟩ := kB hb;rw [e1] at f1;rw [e2] at f2;have hil := (aA.1 hx).1;have hkl := (aA.1 hy).1;have hll : (iB l).length = l.length := gZ _;have qx : (iB l)[(i : Int).toNat]? = some (gA x) := by rw [bR,bI,hx];rfl
  have qy : (iB l)[(k : Int).toNat]? = some (gA y) := by rw [bR,bI,hy];rfl
  have ax : mX l (i : Int).toNat = x := by unfold mX;rw [bR,aC,hx];rfl
  have ay : mX l (k : Int).toNat = y := by unfold mX;rw [bR,aC,hy];rfl
  have hik : i = k := by omega
  subst hik;have hvw : mT [.arr (iB l) 2] (.sl 0 0 l.length 2) (.rowE (iB l) 2) := rX rfl hll.symm (sG (fun _ => rfl) _);refine bK T Tryz.func36 rfl rfl rfl rfl ?_
  (repeat' (first|refine wS ?_|refine wR ?_|refine wT ?_|(refine rg 0 (qA ?_))|(refine rg 1 (dQ rfl (vV (by exact eN rfl rfl f1 (.cons hvw (.cons (.v _) .nil)) rfl rfl) ?_));refine dQ rfl (vV (by exact eN rfl rfl f2 (.cons hvw (.cons (.v _) .nil)) rfl rfl) ?_);refine qA ?_)|(refine rg 2 (dQ rfl (vV (kE rfl rfl rfl) ?_)))|(refine rg 3 (mW rfl (qA ?_)))|refine nZ ?_));all_goals first | (exfalso;omega) | exact ⟨.inl rfl,[0],_,rfl,rfl,rfl,⟨.inr (aG rfl rfl (eA _)),trivial⟩,by decide,R3⟩
theorem UJ {n : Nat} (l : List G) (a b : Int) (ok : mF n l) (ha : ∃ g,g ∈ l ∧ a ∈ g.1) (hb : ∃ g,g ∈ l ∧ b ∈ g.1) (hj : join l a b = none) : aO Tryz.prog 36 [.rowE (iB l) 2,.i a,.i b] [] (.tup [.nils,.i 6]) [] := by
  have hl12 : l.length ≤ 12 := bW ok.len ok.ln;have hgl : ∀ g,g ∈ l → g.1.length ≤ 1000000 := fun g hg => by have := (ok.ok g hg).ln;omega
  have f1 := vW l a (by omega) hgl
  have f2 := vW l b (by omega) hgl
  obtain ⟨i,x,e1,hx,hax⟩ := kB ha;obtain ⟨k,y,e2,hy,hby⟩ := kB hb;rw [e1] at f1;rw [e2] at f2;have hil := (aA.1 hx).1;have hkl := (aA.1 hy).1;have hll : (iB l).length = l.length := gZ _;have qx : (iB l)[(i : Int).toNat]? = some (gA x) := by rw [bR,bI,hx];rfl
  have qy : (iB l)[(k : Int).toNat]? = some (gA y) := by rw [bR,bI,hy];rfl
  have ax : mX l (i : Int).toNat = x := by unfold mX;rw [bR,aC,hx];rfl
  have ay : mX l (k : Int).toNat = y := by unfold mX;rw [bR,aC,hy];rfl
  unfold join at hj;dsimp only at hj;rw [e1,e2,ax,ay] at hj;clear ha hb;have hik : i ≠ k := fun q => by subst q;rw [if_pos rfl] at hj;cases hj
  rw [if_neg (by omega)] at hj
  have hf : 6 < x.1.length + y.1.length ∨ 1000 < x.2.length * y.2.length := by
    by_cases hf : 6 < x.1.length + y.1.length ∨ 1000 < x.2.length * y.2.length
    · exact hf
    · rw [if_neg hf] at hj;cases hj
  clear hj;have xo := ok.ok x (aM hx);have yo := ok.ok y (aM hy);have xw := ok.ws x (aM hx);have yw := ok.ws y (aM hy);have xl := xo.ln;have yl := yo.ln;have xp := dY.2 xo.ne;have yp := dY.2 yo.ne;have sx := xo.sz xw;have sy := yo.sz yw;have l1 : (ints x.1).length = x.1.length := cW _;have l2 : (ints y.1).length = y.1.length := cW _;have l3 : (eY x.2).length = x.2.length := eD _;have l4 : (eY y.2).length = y.2.length := eD _;have hmx : x.2.length * y.2.length ≤ 2000 * 2000 := Nat.mul_le_mul xw yw;have hml : ((x.2.length : Int) * y.2.length) = ((x.2.length * y.2.length : Nat) : Int) := by push_cast;rfl
  obtain ⟨bx,wx⟩ := x;obtain ⟨by_,wy⟩ := y;have hmI : (((eY wx).length : Nat) : Int) * ((eY wy).length : Nat) = ((wx.length * wy.length : Nat) : Int) := by rw [eD,eD];push_cast;rfl
  dsimp only at *;refine bK T Tryz.func36 rfl rfl rfl rfl ?_
  (repeat' (first|refine wS ?_|refine wK ?_|refine wU ?_|(refine rg 0 (qA ?_))|(refine rg 1 (dQ rfl (vV (kC (f1)) (dQ rfl (vV (kC (f2)) (qA ?_))))))|(refine rg 2 (dQ rfl (vV (fP rfl rfl (by omega)) ?_)))|refine nZ ?_));refine RE [(0,.rowE (iB l) 2),(8,.i i),(9,.i k),(10,.ptr 0 0),(11,.ptr 1 0)] [.cells [.rowE (ints bx) 1,.rowE (eY wx) 3],.cells [.rowE (ints by_) 1,.rowE (eY wy) 3]] ?_ ?_
  · refine EN (id := 4) cN ?_;refine uR 0 rfl rfl (by decide +kernel) (by decide +kernel) (by decide +kernel) (by exact qZ rfl) rfl ?_
    refine uR 1 rfl rfl (by decide +kernel) (by decide +kernel) (by decide +kernel) (by exact qZ rfl) rfl ?_
    refine uR 2 rfl rfl (by decide +kernel) (by decide +kernel) (by decide +kernel) (by exact pO T rfl rfl rfl rfl rfl (by omega) (mS _) qx) rfl ?_
    refine uR 4 rfl rfl (by decide +kernel) (by decide +kernel) (by decide +kernel) (by exact qZ rfl) rfl ?_
    refine uR 5 rfl rfl (by decide +kernel) (by decide +kernel) (by decide +kernel) (by exact qZ rfl) rfl ?_
    refine uR 6 rfl rfl (by decide +kernel) (by decide +kernel) (by decide +kernel) (by exact pO T rfl rfl rfl rfl rfl (by omega) (mS _) qy) rfl ?_
    refine JD [(0,[]),(1,[]),(2,[0,1]),(3,[2]),(4,[]),(5,[]),(6,[4,5]),(7,[6]),(8,[]),(9,[]),(10,[8,3,0,1,2,3,8,9]),(11,[9,7,10,0,1,2,3,4,5,6,7,8,9,10])] (by decide +kernel) [true,true,true,false,true,true,true,false,false,false,false,false] rfl rfl ?_
    (repeat' (first|(refine RP rfl rfl ?_;(first|(refine lV T ?_)|(refine bT (bH T rfl) rfl ?_)|(refine aQ T rfl rfl rfl rfl rfl rfl (by decide) rfl ?_));refine gB ?_;dsimp only [List.set_cons_zero,List.set_cons_succ])|(refine RO rfl rfl rfl ?_ ?_<;>((first|(refine lV T ?_)|(refine bT (bH T rfl) rfl ?_)|(refine aQ T rfl rfl rfl rfl rfl rfl (by decide) rfl ?_));refine gB ?_;dsimp only [List.set_cons_zero,List.set_cons_succ]))|(refine RN rfl rfl rfl rfl ?_ ?_ ?_<;>((first|(refine lV T ?_)|(refine bT (bH T rfl) rfl ?_));refine gB ?_;dsimp only [List.set_cons_zero,List.set_cons_succ]))|(refine RM rfl rfl rfl rfl rfl ?_ ?_ ?_ ?_<;>((first|(refine lV T ?_)|(refine bT (bH T rfl) rfl ?_));refine gB ?_;dsimp only [List.set_cons_zero,List.set_cons_succ]))));all_goals first | exact xK rfl ⟨rfl,[0,1],rfl,(by repeat first|exact trivial|refine ⟨rfl,?_⟩),⟨.inr rfl,.inr rfl,trivial⟩,by decide,jT _⟩ | exact xK rfl ⟨rfl,[1,0],rfl,(by repeat first|exact trivial|refine ⟨rfl,?_⟩),⟨.inr rfl,.inr rfl,trivial⟩,by decide,jT _⟩
  intro v g hsub;refine GZ hsub ?_
  (repeat' (first|refine wS ?_|refine wR ?_|refine wT ?_|(refine wC rfl ?_ ?_<;>(intro hb;(try simp only [nm] at hb);try (exfalso;omega)))|(refine rg 5 (hO T rfl (qW T rfl (hO T rfl (qW T rfl (vV (bS rfl rfl (by omega) (by omega)) (vV (fU rfl rfl) (mV ?_)))))));refine cC rfl rfl ?_ ?_<;>(intro hb;rw [hb];(try simp only [nm] at hb);try (exfalso;omega));(all_goals first|(refine gT (fW T rfl (gT (lW T rfl (gT (qW T rfl (gT (fW T rfl (gT (lV T ?_)))))))));refine gT (qW T rfl (gT (vV (xE rfl rfl (by omega) (by omega)) (gT (vV (fU rfl rfl) ?_))))))|(iterate 8 refine gF ?_));(all_goals (refine pV ?_)))|(refine rg 6 (qA ?_))|refine nZ ?_));all_goals first | (exfalso;omega) | exact rQ
theorem UI {n : Nat} (l : List G) (a b : Int) (ok : mF n l) (ha : ∃ g,g ∈ l ∧ a ∈ g.1) (hb : ∃ g,g ∈ l ∧ b ∈ g.1) {all : List G} (hj : join l a b = some all) (hne : nE l a ≠ nE l b) : aO Tryz.prog 36 [.rowE (iB l) 2,.i a,.i b] [] (.tup [.sl 0 0 all.length 2,.i 0]) [.arr (iB all) 2] := by
  have hl12 : l.length ≤ 12 := bW ok.len ok.ln;have hgl : ∀ g,g ∈ l → g.1.length ≤ 1000000 := fun g hg => by have := (ok.ok g hg).ln;omega
  have f1 := vW l a (by omega) hgl
  have f2 := vW l b (by omega) hgl
  obtain ⟨i,x,e1,hx,hax⟩ := kB ha;obtain ⟨k,y,e2,hy,hby⟩ := kB hb;rw [e1] at f1;rw [e2] at f2;have hil := (aA.1 hx).1;have hkl := (aA.1 hy).1;have hll : (iB l).length = l.length := gZ _;have qx : (iB l)[(i : Int).toNat]? = some (gA x) := by rw [bR,bI,hx];rfl
  have qy : (iB l)[(k : Int).toNat]? = some (gA y) := by rw [bR,bI,hy];rfl
  have ax : mX l (i : Int).toNat = x := by unfold mX;rw [bR,aC,hx];rfl
  have ay : mX l (k : Int).toNat = y := by unfold mX;rw [bR,aC,hy];rfl
  unfold join at hj;dsimp only at hj;rw [e1,e2,ax,ay] at hj;clear ha hb;have hik : i ≠ k := fun q => by subst q;exact hne (e1.trans e2.symm)
  rw [if_neg (by omega)] at hj
  have hf : ¬ (6 < x.1.length + y.1.length ∨ 1000 < x.2.length * y.2.length) := fun hf => by rw [if_pos hf] at hj;cases hj
  rw [if_neg hf] at hj
  replace hj := (Option.some.inj hj).symm
  have xo := ok.ok x (aM hx);have yo := ok.ok y (aM hy);have xw := ok.ws x (aM hx);have yw := ok.ws y (aM hy);have xl := xo.ln;have yl := yo.ln;have xp := dY.2 xo.ne;have yp := dY.2 yo.ne;have sx := xo.sz xw;have sy := yo.sz yw;have l1 : (ints x.1).length = x.1.length := cW _;have l2 : (ints y.1).length = y.1.length := cW _;have l3 : (eY x.2).length = x.2.length := eD _;have l4 : (eY y.2).length = y.2.length := eD _;have hmx : x.2.length * y.2.length ≤ 2000 * 2000 := Nat.mul_le_mul xw yw;have hml : ((x.2.length : Int) * y.2.length) = ((x.2.length * y.2.length : Nat) : Int) := by push_cast;rfl
  obtain ⟨bx,wx⟩ := x;obtain ⟨by_,wy⟩ := y;have hmI : (((eY wx).length : Nat) : Int) * ((eY wy).length : Nat) = ((wx.length * wy.length : Nat) : Int) := by rw [eD,eD];push_cast;rfl
  have hjG : pE (bx,wx) (by_,wy) = (dW cI (bx ++ by_),nL (bx,wx) (by_,wy) (dW cI (bx ++ by_))) := rfl;rw [hjG,← oP] at hj;have hbl : (iD (bx ++ by_)).length = bx.length + by_.length := by rw [oO,aD]
  have hmm : ∀ q,q ∈ iD (bx ++ by_) → q ∈ bx ∨ q ∈ by_ := fun q hq => bQ.1 ((Go.Pm.sorted_perm _).mem_iff.1 hq);have h1 := QI bx by_ ⟨by dsimp only at *;omega,by dsimp only at *;omega⟩ ⟨by dsimp only at *;omega,by dsimp only at *;omega⟩
  have h2 := yW (bx ++ by_);have h3 := K8 (bx ++ by_) (by rw [aD];dsimp only at *;omega)
  have hPl := T8 (bx,wx) (by_,wy) (iD (bx ++ by_));generalize iD (bx ++ by_) = bod at *;have h4 := TV (bx,wx) (by_,wy) bod;have hit := OF (bx,wx) (by_,wy) bod sx sy (by dsimp only at *;omega) hmm (fun w hw => ⟨(xo.ws w hw).m0,(xo.ws w hw).m1⟩) (fun w hw => ⟨(yo.ws w hw).m0,(yo.ws w hw).m1⟩)
  have hpg : ∀ (q : Nat) (w : W),(nL (bx,wx) (by_,wy) bod)[q]? = some w → M1 (bx,wx) (by_,wy) bod q = [.agg (wA w)] := fun q w h => KA h
  generalize M1 (bx,wx) (by_,wy) bod = IT at *;generalize nL (bx,wx) (by_,wy) bod = P at *;have hP : P.length ≤ 1000 := by rw [hPl,Nat.mul_comm];dsimp only at *;omega
  clear hPl hmm h2;have h2 := yW (bx ++ by_);dsimp only at *;have hcl := O6 l (by omega)
  have hS : min (i : Int) (k : Int) = ((min i k : Nat) : Int) := by omega
  have hM : max (i : Int) (k : Int) = ((max i k : Nat) : Int) := by omega
  rw [hS,hM,bR,bR] at hj;have ts := zQ (L := l) (j := min (i : Int) (k : Int)) (i := min i k) (x := (bod,P)) hS;have qm := vS (L := l) (j := min (i : Int) (k : Int)) (i := min i k) (x := l[min i k]'(by omega)) (aB _) hS
  have hdl := YX (l.set (min i k) (bod,P)) (max i k) (max i k + 1) (by omega) (by rw [fX];omega) (by intro h;have := congrArg List.length h;rw [fX,List.length_nil] at this;omega)
  rw [zY,fX,show l.length - (max i k + 1 - max i k) = l.length - 1 by omega,show ((max i k + 1 : Nat) : Int) = max (i : Int) (k : Int) + 1 by omega,← hM] at hdl
  have hel : ((l.set (min i k) (bod,P)).eraseIdx (max i k)).length = l.length - 1 := by rw [fL,fX,if_pos (by omega)]
  generalize l[min i k]'(by omega) = gm at *
  subst hj;rw [hel];refine bK T Tryz.func36 rfl rfl rfl rfl ?_
  (repeat' (first|refine wS ?_|refine wK ?_|refine wU ?_|(refine rg 0 (qA ?_))|(refine rg 1 (dQ rfl (vV (kC (f1)) (dQ rfl (vV (kC (f2)) (qA ?_))))))|(refine rg 2 (dQ rfl (vV (fP rfl rfl (by omega)) ?_)))|refine nZ ?_));refine RE [(0,.rowE (iB l) 2),(8,.i i),(9,.i k),(10,.ptr 0 0),(11,.ptr 1 0)] [.cells [.rowE (ints bx) 1,.rowE (eY wx) 3],.cells [.rowE (ints by_) 1,.rowE (eY wy) 3]] ?_ ?_
  · refine EN (id := 4) cN ?_;refine uR 0 rfl rfl (by decide +kernel) (by decide +kernel) (by decide +kernel) (by exact qZ rfl) rfl ?_
    refine uR 1 rfl rfl (by decide +kernel) (by decide +kernel) (by decide +kernel) (by exact qZ rfl) rfl ?_
    refine uR 2 rfl rfl (by decide +kernel) (by decide +kernel) (by decide +kernel) (by exact pO T rfl rfl rfl rfl rfl (by omega) (mS _) qx) rfl ?_
    refine uR 4 rfl rfl (by decide +kernel) (by decide +kernel) (by decide +kernel) (by exact qZ rfl) rfl ?_
    refine uR 5 rfl rfl (by decide +kernel) (by decide +kernel) (by decide +kernel) (by exact qZ rfl) rfl ?_
    refine uR 6 rfl rfl (by decide +kernel) (by decide +kernel) (by decide +kernel) (by exact pO T rfl rfl rfl rfl rfl (by omega) (mS _) qy) rfl ?_
    refine JD [(0,[]),(1,[]),(2,[0,1]),(3,[2]),(4,[]),(5,[]),(6,[4,5]),(7,[6]),(8,[]),(9,[]),(10,[8,3,0,1,2,3,8,9]),(11,[9,7,10,0,1,2,3,4,5,6,7,8,9,10])] (by decide +kernel) [true,true,true,false,true,true,true,false,false,false,false,false] rfl rfl ?_
    (repeat' (first|(refine RP rfl rfl ?_;(first|(refine lV T ?_)|(refine bT (bH T rfl) rfl ?_)|(refine aQ T rfl rfl rfl rfl rfl rfl (by decide) rfl ?_));refine gB ?_;dsimp only [List.set_cons_zero,List.set_cons_succ])|(refine RO rfl rfl rfl ?_ ?_<;>((first|(refine lV T ?_)|(refine bT (bH T rfl) rfl ?_)|(refine aQ T rfl rfl rfl rfl rfl rfl (by decide) rfl ?_));refine gB ?_;dsimp only [List.set_cons_zero,List.set_cons_succ]))|(refine RN rfl rfl rfl rfl ?_ ?_ ?_<;>((first|(refine lV T ?_)|(refine bT (bH T rfl) rfl ?_));refine gB ?_;dsimp only [List.set_cons_zero,List.set_cons_succ]))|(refine RM rfl rfl rfl rfl rfl ?_ ?_ ?_ ?_<;>((first|(refine lV T ?_)|(refine bT (bH T rfl) rfl ?_));refine gB ?_;dsimp only [List.set_cons_zero,List.set_cons_succ]))));all_goals first | exact xK rfl ⟨rfl,[0,1],rfl,(by repeat first|exact trivial|refine ⟨rfl,?_⟩),⟨.inr rfl,.inr rfl,trivial⟩,by decide,jT _⟩ | exact xK rfl ⟨rfl,[1,0],rfl,(by repeat first|exact trivial|refine ⟨rfl,?_⟩),⟨.inr rfl,.inr rfl,trivial⟩,by decide,jT _⟩
  intro v g hsub;refine GZ hsub ?_
  (repeat' (first|refine wS ?_|refine wB ?_|refine wK ?_|(refine wC rfl ?_ ?_<;>(intro hb;(try simp only [nm] at hb);try (exfalso;omega)))|(refine rg 5 (hO T rfl (qW T rfl (hO T rfl (qW T rfl (vV (bS rfl rfl (by omega) (by omega)) (vV (fU rfl rfl) (mV ?_)))))));refine cC rfl rfl ?_ ?_<;>(intro hb;rw [hb];(try simp only [nm] at hb);try (exfalso;omega));(all_goals (refine yP T rfl (yO T rfl (gT (qW T rfl (yP T rfl (yO T rfl (gT (qW T rfl (yV (xE rfl rfl (by omega) (by omega)) (yV (fU rfl rfl) ?_)))))))));refine pV ?_)))|(refine rg 7 (hO T rfl (hO T rfl (bT (by exact bC T rfl rfl (by decide) (by decide) rfl rfl rfl) rfl ?_)));refine lO 55 rfl rfl rfl rfl ?_;refine vV (kC (h1)) (vV (kC (h2)) (vV (kC (h3)) (vV (by exact fB T rfl rfl rfl rfl) ?_)));refine bT (bH T rfl) rfl (aQ T rfl rfl rfl rfl rfl rfl (by decide) rfl ?_))|(refine rg 8 (lW T rfl (lW T rfl (hO T rfl (vV (kC (h4)) ?_)))))|refine nZ ?_));all_goals try (exfalso;omega)
  refine uF 3 1 3 rfl rfl (by decide) ?_
  refine EK [] [3,4] [(0,.rowE (iB l) 2),(8,.i i),(9,.i k),(12,.ptr 0 0)] (fun m => [.cells [.rowE (ints bod) 1,.sl 1 0 m 3],.arr (eY (P.take m)) 3]) 1 rfl hit rfl rfl rfl trivial cX rfl (by repeat first|exact trivial|refine ⟨rfl,?_⟩) ⟨.inr rfl,.inr rfl,trivial⟩ (by decide) (jT _) (by simp) (bP _) (aN rfl) rfl (by decide) (fun m hm => by rw [hpg m P[m] (aB hm)];exact ⟨rfl,rfl⟩) ?_ ?_
  · intro m hm;rw [hpg m P[m] (aB hm)];have hks := aR hm;have hkl' : (eY (P.take m)).length = m := by rw [eD,aU];omega
    have hW : eY (P.take (m + 1)) = eY (P.take m) ++ [wA P[m]] := by rw [hks,eY,dB];rfl
    generalize P[m] = w at *;obtain ⟨wp,wm,wc⟩ := w;generalize eY (P.take m) = Q at *;refine eK (id := 9) ?_;refine bT (by exact bH T rfl) rfl ?_
    refine aQ T rfl rfl rfl rfl rfl rfl (by decide) rfl ?_
    refine gB ?_;refine ⟨rfl,?_⟩
    repeat' (first|refine wB ?_|(refine rg 10 (hO T rfl (lW T rfl (bT (by exact bC T rfl rfl (by decide) (by decide) rfl rfl rfl) rfl ?_)));refine gR T rfl rfl rfl rfl rfl rfl (by omega) (kX.whole rfl rfl) rfl (by simp;omega) (by simp;omega) rfl ?_;refine fW T rfl (aQ T rfl rfl rfl rfl rfl rfl (by decide) rfl ?_))|refine nZ ?_)
    show BQ _ _ _ _ [.cells [.rowE (ints bod) 1,.sl 1 0 (m + 1) 3],.arr (eY (P.take (m + 1))) 3];rw [hW];exact ⟨[0,4],rfl,trivial,⟨.inr (by simp;rfl),.inr (aG rfl (by first | exact lT hkl'.symm | simp) (by rw [← hW];exact bE _)),trivial⟩,by decide,zG8⟩
  · rw [dA];refine mB 0 1 rfl rfl rfl (eD _).symm (gD (bE _)) ?_;show AW _ _ _ _ _ _
    (repeat' (first|refine wS ?_|(refine rg 11 (mW rfl (bT (by exact fZ rfl rfl hcl (.inr ⟨rfl,rfl,by simp⟩)) rfl ?_));refine aV ?_)|refine nZ ?_));refine eP [(8,.i i),(9,.i k),(12,.ptr 0 0),(14,.sl 1 0 l.length 2)] [.cells [.rowE (ints bod) 1,.rowE (eY P) 3],.arr (iB l) 2] ⟨[0,2],rfl,(by repeat first|exact trivial|refine ⟨rfl,?_⟩),⟨.inr rfl,.inr (aG rfl (cE _ (eA _)) (eA _)),trivial⟩,by decide,jT _⟩ ?_
    (repeat' (first|refine wS ?_|(refine rg 12 (dQ rfl (mW rfl (vV (AG rfl rfl) (lW T rfl (vV (by exact aL T rfl rfl rfl rfl rfl (by omega) (by omega)) ?_)))));refine aQ T rfl rfl rfl rfl rfl rfl (by decide) (lP rfl qm rfl) ?_)|refine nZ ?_));refine eP [(8,.i i),(9,.i k),(14,.sl 0 0 l.length 2)] [.arr (iB (l.set (min i k) (bod,P))) 2] ⟨[1],rfl,(by repeat first|exact trivial|refine ⟨rfl,?_⟩),⟨.inr (aG rfl ts (eA _)),trivial⟩,by decide,jT _⟩ ?_
    (repeat' (first|refine wR ?_|(refine rg 13 (dQ rfl (mW rfl (vV (tV rfl rfl) (dQ rfl (vV (tV rfl rfl) (vV (bS rfl rfl (by omega) (by omega)) (eJ [0] rfl rfl (hdl) rfl rfl (by decide) ⟨.inr (aG rfl rfl (eA _)),trivial⟩ (by simp) rfl ?_)))))));refine qA ?_)|refine nZ ?_));all_goals exact ⟨.inl rfl,[0],_,rfl,rfl,rfl,⟨.inr (aG rfl (cE _ (eA _)) (eA _)),trivial⟩,by decide,jT _⟩
end Go.Proofs.YtbialaoigijlgaaGreatDoor
namespace Go.Ld
open Go.Ab Go.Proofs.YtbialaoigijlgaaGreatDoor
structure E5 (c : Cx) : Prop where
  f : zE2 c.ks c.ls (nats (List.range c.bs.length)) c.bs
  s : qR c.m c.st c.er c.sl
theorem E5.unit {c : Cx} (h : E5 c) (lot : Int) : 0 ≤ rY c.ks c.ls lot := by
  unfold rY;split
  · exact kJ _
  · rw [aC];cases hq : c.ks[(c.ls.getD lot.toNat (0,0,false)).1.toNat]? with
    | none => exact kJ _
    | some x =>
      obtain ⟨h1,h2⟩ := aA.1 hq;have := (h.f.k _ h1).1;rw [h2] at this;exact this
end Go.Ld
namespace Go.Proofs.YtbialaoigijlgaaGreatDoor
open Go Go.Ab Go.Ld
attribute [local irreducible] VC AW bV aO jR
set_option maxHeartbeats 4000000
theorem JH (t u w e : Int) (hu : 0 ≤ u) : aO Tryz.prog 78 [.i t,.i u,.i w,.i e] [] (.tup [jW (ZT t u w e).1.1 (ZT t u w e).1.2,.b (ZT t u w e).2]) [] := by
  unfold ZT;by_cases h : AJ t u w e
  · rw [if_pos (show IS t u w e = true from decide_eq_true h)]
    by_cases h1 : w + e - t < 0 ∨ u = 0 ∧ 0 < w - e - t
    · rw [if_pos h1];exact BU t u w e h h1
    · rw [if_neg h1];by_cases h2 : u = 0
      · rw [if_pos h2];exact BV t u w e h (by omega) h2 (by omega)
      · rw [if_neg h2];exact FI t u w e h (by omega) (by omega)
  · have h' : ¬ IS t u w e = true := fun q => h (by simpa [IS,AJ] using q)
    rw [if_neg h'];exact FH t u w e h
theorem UL (r q : SP) : aO Tryz.prog 80 [jW r.1 r.2,jW q.1 q.2] [] (.tup [jW (R5 (max r.1 q.1) (min r.2 q.2)).1.1 (R5 (max r.1 q.1) (min r.2 q.2)).1.2,.b (R5 (max r.1 q.1) (min r.2 q.2)).2]) [] := UM r.1 r.2 q.1 q.2
theorem NY (r : SP) (n s : Int) (hf : 0 ≤ r.1 ∧ r.1 ≤ 20001 ∧ 0 ≤ r.2 ∧ r.2 ≤ 20001) : aO Tryz.prog 81 [jW r.1 r.2,.i n,.i s] [] (.tup [jW (zE r n s).1.1 (zE r n s).1.2,.b (zE r n s).2]) [] := by
  unfold zE;by_cases h : 0 ≤ n ∧ n ≤ 1099511627776 ∧ 0 ≤ s ∧ s ≤ 1099511627776
  · rw [if_pos h];exact KB r.1 r.2 n s hf h
  · rw [if_neg h];exact FV r.1 r.2 n s h
abbrev zJ2 (s : Ev) : AV := NF s.k s.a s.b s.n s.ids
theorem QW (c : Cx) (gs : List G) {n q : Nat} (w : W) {i : Nat} (s : Ev) (hc : E5 c) (hw : BF n q w) (hn : n = c.bs.length) (hi : i < q) (hq : q ≤ 1000) (hids : s.ids.length ≤ 9223372036854775807) (hsn : 0 ≤ s.n ∧ s.n ≤ 1099511627776) :
    aO Tryz.prog 39 [.pr (fT c gs) 0,S6 w,.i i,zJ2 s] [] (.tup [.agg [.sl 0 0 w.1.length 1,.i (jP c w i s).1.2.1,.sl 1 0 w.2.2.length 2],.b (jP c w i s).2]) [.arr (ints w.1) 1,.arr (eO (jP c w i s).1.2.2) 2] := by
  have hpl := hw.pl;have hcl := hw.cl;have hcw := J7 w ⟨by omega,by omega⟩
  obtain ⟨g1,g2,g3,g4,g5⟩ := hw.at hi;have hm0 := hw.m0;have hm1 := hw.m1;have hids' : (ints s.ids).length = s.ids.length := cW _;obtain ⟨st1,st2,st3,st4,st5,st6,st7,st8⟩ := hc.s;have hbo : (jP c w i s).1.2.2 = (jP c w i s).1.2.2 := rfl;unfold jP gP gC at *;obtain ⟨p,m,cs⟩ := w;obtain ⟨sk,sa,sb,sn,ids⟩ := s;dsimp only at *;have hlp : (ints p).length = p.length := cW _;have hlc : (eO cs).length = cs.length := fO _;have qp := zO (l := p) (j := (i : Int)) (i := i) 0 (by omega) rfl
  have qc := yZ (l := cs) (j := (i : Int)) (i := i) (by omega) rfl
  have ct : ∀ r : SP,_ := fun r => K6 (l := cs) (j := (i : Int)) (i := i) (r := r) rfl;have ctn : ∀ x y : Int,(eO cs).set (0 + (i : Int).toNat) [AV.i x,AV.i y] = eO (cs.set i (x,y)) := fun x y => ct (x,y);clear ct hbo;generalize hx : p.getD i 0 = x at *;generalize hr : cs.getD i (0,0) = r at *;obtain ⟨r1,r2⟩ := r;dsimp only at *;have hbx : c.bs[x.toNat]? = some (c.bs.getD x.toNat (0,0,0)) := by
    rw [aC,aB (by omega)];rfl
  refine bK T Tryz.func39 rfl rfl rfl rfl ?_
  (repeat' (first|refine wS ?_|refine wB ?_|(refine rg 0 (bT (cQ rfl rfl) rfl (bT (cQ rfl rfl) rfl (bT (bH T rfl) rfl (aV ?_)))))|(refine rg 1 (lW T rfl (bT (by exact fZ rfl rfl hcw (.inr ⟨rfl,rfl,by simp⟩)) rfl ?_));refine aQ T rfl rfl rfl rfl rfl rfl (by decide) rfl ?_)|(refine rg 2 (aV ?_))|(refine rg 3 (PW T ?_))|refine nZ ?_));refine eP [(0, .pr (fT c gs) 0), (2, .i i), (5, .ptr 0 0), (7, .ptr 1 0), (8, .ptr 2 0), (10, .b true), (18, .i sk)] [.cells [.sl 3 0 p.length 1, .i m, .sl 4 0 cs.length 2], .cells [.i sk, .i sa, .i sb, .i sn, .rowE (ints ids) 1], .cells [.nils, .i 0, .nils], .arr (ints p) 1, .arr (eO cs) 2]
    ⟨[0,1,2,3,4],rfl,(by repeat first|exact trivial|refine ⟨rfl,?_⟩),⟨.inr rfl,.inr rfl,.inr rfl,.inr (aG rfl (cE _ (bO _)) (bO _)),.inr (aG rfl (cE _ (eZ _)) (eZ _)),trivial⟩,by decide,jT _⟩ ?_
  by_cases k0 : sk = 0
  · rw [if_pos k0];have hct := O5 ids x hids;by_cases hin : x ∈ ids
    · rw [if_pos hin];rw [decide_eq_true hin] at hct;dsimp only
      (repeat' (first|refine wS ?_|refine wR ?_|refine wT ?_|(refine rg 4 (vV (kE rfl rfl (by omega)) (aV ?_)))|(refine rg 5 (fW T rfl (vV (aT T rfl rfl rfl rfl) (qW T rfl (aV ?_)))))|(refine mC (id := 6) 7 153 [[],[0],[],[2],[],[2,3,4],rM 2 4,rN 7] [[],[0],[],[2],[],[2,3,4],rM 2 4] (rM 24 7) zN9 cN rfl (by decide +kernel) (by decide +kernel) ?_;(dsimp only [List.take,List.drop]);refine dP T rfl (dO T rfl (dP T rfl (dO T rfl (dN rfl (dV rfl (by exact aL T rfl rfl rfl rfl rfl (by omega) (by omega)) ?_)))));refine dV rfl (by exact aT T rfl rfl (bJ rfl qp) rfl) ?_;refine dE ?_;refine gB ?_;refine vV (kC (hct)) ?_)|(refine rg 7 (mW rfl (vV (cO rfl rfl (by omega) (by omega)) (aV ?_))))|(refine rg 9 (dQ rfl (nV ?_));refine fW T rfl (fW T rfl (vV (aT T rfl rfl rfl rfl) (vV (iP rfl rfl) (aV ?_)))))|(refine rg 23 (vV (aT T rfl rfl rfl rfl) (mW rfl (aQ T rfl rfl rfl rfl rfl rfl (by decide) rfl (aV ?_)))))|refine nZ ?_));all_goals first | (exfalso;omega) | exact ⟨.inl rfl,[3,4],_,rfl,by rw [← hids'];rfl,rfl,⟨.inr (aG rfl rfl (bO _)),.inr (aG rfl rfl (eZ _)),trivial⟩,by decide,jT _⟩
    · rw [if_neg hin];rw [decide_eq_false hin] at hct;dsimp only
      (repeat' (first|refine wS ?_|refine wR ?_|refine wT ?_|refine wU ?_|(refine rg 4 (vV (kE rfl rfl (by omega)) (aV ?_)))|(refine rg 5 (fW T rfl (vV (aT T rfl rfl rfl rfl) (qW T rfl (aV ?_)))))|(refine mC (id := 6) 7 153 [[],[0],[],[2],[],[2,3,4],rM 2 4,rN 7] [[],[0],[],[2],[],[2,3,4],rM 2 4] (rM 24 7) zN9 cN rfl (by decide +kernel) (by decide +kernel) ?_;(dsimp only [List.take,List.drop]);refine dP T rfl (dO T rfl (dP T rfl (dO T rfl (dN rfl (dV rfl (by exact aL T rfl rfl rfl rfl rfl (by omega) (by omega)) ?_)))));refine dV rfl (by exact aT T rfl rfl (bJ rfl qp) rfl) ?_;refine dE ?_;refine gB ?_;refine vV (kC (hct)) ?_)|(refine rg 8 (fW T rfl (vV (aT T rfl rfl rfl rfl) (vV (bS rfl rfl (by omega) (by omega)) (fW T rfl (aQ T rfl rfl rfl rfl rfl rfl (by decide) rfl ?_))))))|(refine rg 9 (dQ rfl (nV ?_));refine fW T rfl (fW T rfl (vV (aT T rfl rfl rfl rfl) (vV (iP rfl rfl) (aV ?_)))))|(refine rg 23 (vV (aT T rfl rfl rfl rfl) (mW rfl (aQ T rfl rfl rfl rfl rfl rfl (by decide) rfl (aV ?_)))))|refine nZ ?_));all_goals first | (exfalso;omega) | exact ⟨.inl rfl,[3,4],_,rfl,by rw [← hids'];rfl,rfl,⟨.inr (aG rfl rfl (bO _)),.inr (aG rfl rfl (eZ _)),trivial⟩,by decide,jT _⟩
  by_cases k1 : sk = 1
  · rw [if_neg k0,if_pos k1];have hbl := hc.f.b x.toNat (by omega)
    have hgx : c.bs[x.toNat]'(by omega) = c.bs.getD x.toNat (0,0,0) := by rw [aC,aB (by omega)];rfl
    rw [hgx] at hbl;have hbxl : (fS c.bs).length = c.bs.length := bF _;have qb : (fS c.bs)[x.toNat]? = some [.i (c.bs.getD x.toNat (0,0,0)).1,.i (c.bs.getD x.toNat (0,0,0)).2.1,.i (c.bs.getD x.toNat (0,0,0)).2.2] := by rw [bI,hbx];rfl
    generalize c.bs.getD x.toNat (0,0,0) = bx at *;obtain ⟨lot,cnt,ta⟩ := bx;dsimp only at *;have hun := XF hc.f (lot := lot) (by omega)
    have hu0 := hc.unit lot;generalize rY c.ks c.ls lot = u at *;have hwg := JH ta u sn c.er hu0;unfold K1 sC;dsimp only;generalize ZT ta u sn c.er = z at *;obtain ⟨⟨z1,z2⟩,zb⟩ := z;dsimp only at *;cases zb with
    | true =>
      rw [if_pos rfl];have hin := UL (r1,r2) (z1,z2);dsimp only at *;generalize R5 (max r1 z1) (min r2 z2) = y at *;obtain ⟨⟨y1,y2⟩,yb⟩ := y;dsimp only at *
      (repeat' (first|refine wS ?_|refine wR ?_|refine wT ?_|refine wU ?_|(refine rg 4 (vV (fP rfl rfl (by omega)) (aV ?_)))|(refine rg 10 (vV (kE rfl rfl (by omega)) (aV ?_)))|(refine cJ (id := 11) 153 zO0 [47,48,49,50,51,52,53,54,55,56,57,12] zO1 cN rfl (by decide +kernel) (dN rfl (dV rfl (by exact eE rfl rfl) ?_));refine dP T rfl (dO T rfl (dP T rfl (dO T rfl (dN rfl (dV rfl (by exact aL T rfl rfl rfl rfl rfl (by omega) (by omega)) ?_)))));refine dV rfl (by exact aT T rfl rfl (bJ rfl qp) rfl) ?_;refine dV rfl (ix T rfl (by omega) (oS _) qb) (dO T rfl (yH rfl rfl rfl (by exact bH T rfl) rfl ?_));refine dE ?_;refine aQ T rfl rfl rfl rfl rfl rfl (by decide) rfl ?_)|(refine A6 (id := 12) 23 25 153 (by (dsimp only [yK];done)) (by decide +kernel) zO2 [59,60,61,62,63,64,65,66,67,68,69,70,71,72,73,74,75,76,77,78,79,58,80,81,13] zO3 cN rfl (by decide +kernel) (dP T rfl (dO T rfl (dN rfl (dV rfl (by exact eE rfl rfl) ?_))));refine dP T rfl (dO T rfl (dN rfl (dV rfl (by exact eE rfl rfl) ?_)));refine dP T rfl (dO T rfl (dP T rfl (dO T rfl (dV rfl (kC (hun)) (dP T rfl (dO T rfl (dN rfl (dV rfl (by exact eE rfl rfl) ?_))))))));refine dP T rfl (dP T rfl (dO T rfl (dV rfl (kC (hwg)) (dN rfl (dV rfl (by exact iQ rfl rfl) ?_)))));refine dV rfl (by exact iQ rfl rfl) ?_;refine yH rfl rfl rfl (by exact bH T rfl) rfl ?_;refine dE ?_;refine aQ T rfl rfl rfl rfl rfl rfl (by decide) rfl (aV ?_))|(refine rg 13 (mV ?_))|(refine A6 (id := 14) 9 10 153 (by (dsimp only [yK];done)) (by decide +kernel) [[],[0],[],[0,1,2],rN 4,[],rN 6,rN 7,rN 8,rN 8] [84,85,86,87,88,89,90,83,91,92] [[],[],[84,85],[],[],rM 84 5,[],[],[],[91]] cN rfl (by decide +kernel) (dP T rfl (dO T rfl (dN rfl (dV rfl (by exact aL T rfl rfl rfl rfl rfl (by omega) (by omega)) ?_))));refine dV rfl (by exact aT T rfl rfl (bJ rfl qc) rfl) ?_;refine dO T rfl (dV rfl (kC (hin)) (dN rfl (dV rfl (by exact iQ rfl rfl) ?_)));refine dV rfl (by exact iQ rfl rfl) ?_;refine dE ?_;refine aQ T rfl rfl rfl rfl rfl rfl (by decide) rfl (aV ?_))|(refine rg 15 (fW T rfl (vV (aT T rfl rfl rfl rfl) (mW rfl (vV (aT T rfl rfl rfl rfl) (mW rfl (vV (by exact aL T rfl rfl rfl rfl rfl (by omega) (by omega)) ?_))))));refine aQ T rfl rfl rfl rfl rfl rfl (by decide) (lP rfl qc rfl) (aV ?_))|(refine rg 23 (vV (aT T rfl rfl rfl rfl) (mW rfl (aQ T rfl rfl rfl rfl rfl rfl (by decide) rfl (aV ?_)))))|refine nZ ?_));all_goals first | (exfalso;omega) | exact ⟨.inl rfl,[3,4],_,rfl,rfl,rfl,⟨.inr (aG rfl rfl (bO _)),.inr (aG rfl (ctn y1 y2) (eZ _)),trivial⟩,by decide,jT _⟩
    | false =>
      rw [if_neg (by simp)]
      (repeat' (first|refine wS ?_|refine wK ?_|refine wR ?_|refine wT ?_|refine wU ?_|(refine rg 4 (vV (fP rfl rfl (by omega)) (aV ?_)))|(refine rg 10 (vV (kE rfl rfl (by omega)) (aV ?_)))|(refine cJ (id := 11) 153 zO0 [47,48,49,50,51,52,53,54,55,56,57,12] zO1 cN rfl (by decide +kernel) (dN rfl (dV rfl (by exact eE rfl rfl) ?_));refine dP T rfl (dO T rfl (dP T rfl (dO T rfl (dN rfl (dV rfl (by exact aL T rfl rfl rfl rfl rfl (by omega) (by omega)) ?_)))));refine dV rfl (by exact aT T rfl rfl (bJ rfl qp) rfl) ?_;refine dV rfl (ix T rfl (by omega) (oS _) qb) (dO T rfl (yH rfl rfl rfl (by exact bH T rfl) rfl ?_));refine dE ?_;refine aQ T rfl rfl rfl rfl rfl rfl (by decide) rfl ?_)|(refine A6 (id := 12) 23 25 153 (by (dsimp only [yK];done)) (by decide +kernel) zO2 [59,60,61,62,63,64,65,66,67,68,69,70,71,72,73,74,75,76,77,78,79,58,80,81,13] zO3 cN rfl (by decide +kernel) (dP T rfl (dO T rfl (dN rfl (dV rfl (by exact eE rfl rfl) ?_))));refine dP T rfl (dO T rfl (dN rfl (dV rfl (by exact eE rfl rfl) ?_)));refine dP T rfl (dO T rfl (dP T rfl (dO T rfl (dV rfl (kC (hun)) (dP T rfl (dO T rfl (dN rfl (dV rfl (by exact eE rfl rfl) ?_))))))));refine dP T rfl (dP T rfl (dO T rfl (dV rfl (kC (hwg)) (dN rfl (dV rfl (by exact iQ rfl rfl) ?_)))));refine dV rfl (by exact iQ rfl rfl) ?_;refine yH rfl rfl rfl (by exact bH T rfl) rfl ?_;refine dE ?_;refine aQ T rfl rfl rfl rfl rfl rfl (by decide) rfl (aV ?_))|(refine rg 13 (mV ?_))|(refine rg 15 (fW T rfl (vV (aT T rfl rfl rfl rfl) (mW rfl (vV (aT T rfl rfl rfl rfl) (mW rfl (vV (by exact aL T rfl rfl rfl rfl rfl (by omega) (by omega)) ?_))))));refine aQ T rfl rfl rfl rfl rfl rfl (by decide) (lP rfl qc rfl) (aV ?_))|(refine rg 23 (vV (aT T rfl rfl rfl rfl) (mW rfl (aQ T rfl rfl rfl rfl rfl rfl (by decide) rfl (aV ?_)))))|refine nZ ?_));all_goals first | (exfalso;omega) | exact ⟨.inl rfl,[3,4],_,rfl,rfl,rfl,⟨.inr (aG rfl rfl (bO _)),.inr (aG rfl (ctn z1 z2) (eZ _)),trivial⟩,by decide,jT _⟩
  by_cases k2 : sk = 2
  · have hpk := NY (r1,r2) sn c.sl ⟨by omega,by omega,by omega,by omega⟩
    rw [if_neg k0,if_neg k1,if_pos k2];unfold sC;dsimp only at *;generalize zE (r1,r2) sn c.sl = z at *;obtain ⟨⟨z1,z2⟩,zb⟩ := z;dsimp only at *
    (repeat' (first|refine wS ?_|refine wR ?_|refine wT ?_|refine wU ?_|(refine rg 4 (vV (fP rfl rfl (by omega)) (aV ?_)))|(refine rg 10 (vV (fP rfl rfl (by omega)) (aV ?_)))|(refine rg 16 (vV (kE rfl rfl (by omega)) (aV ?_)))|(refine A6 (id := 17) 18 20 153 (by (dsimp only [yK];done)) (by decide +kernel) [[],[0],[],[],[3],[],[3,4,5],rM 3 4,[],[8],[],[10],[10,11],[10,11,12],rM 10 4,rM 3 12,rM 3 13,rM 3 14,rM 3 14,rN 18] [102,103,104,105,106,107,108,109,110,111,112,113,114,115,116,117,101,118,119,120] [[],[],[102,103],[102,103,104],[102,103,104],rM 102 5,[102,103,104],[102,103,104],rM 102 8,rM 102 8,rM 102 10,rM 102 10,rM 102 10,rM 102 10,rM 102 10,[102,103,104],[102,103,104],[102,103,104],[102,103,104,118],[119]] cN rfl (by decide +kernel) (dP T rfl (dO T rfl (dN rfl (dP T rfl (dO T rfl (dN rfl (dV rfl (by exact aL T rfl rfl rfl rfl rfl (by omega) (by omega)) ?_)))))));refine dV rfl (by exact aT T rfl rfl (bJ rfl qc) rfl) ?_;refine dP T rfl (dO T rfl (dN rfl (dV rfl (by exact eE rfl rfl) ?_)));refine dP T rfl (dP T rfl (dO T rfl (dV rfl (kC (hpk)) (dN rfl (dV rfl (by exact iQ rfl rfl) ?_)))));refine dV rfl (by exact iQ rfl rfl) ?_;refine dV rfl (by exact aL T rfl rfl rfl rfl rfl (by omega) (by omega)) ?_;refine dE ?_;refine aQ T rfl rfl rfl rfl rfl rfl (by decide) (lP rfl qc rfl) (aV ?_))|(refine rg 23 (vV (aT T rfl rfl rfl rfl) (mW rfl (aQ T rfl rfl rfl rfl rfl rfl (by decide) rfl (aV ?_)))))|refine nZ ?_));all_goals first | (exfalso;omega) | exact ⟨.inl rfl,[3,4],_,rfl,rfl,rfl,⟨.inr (aG rfl rfl (bO _)),.inr (aG rfl (ctn z1 z2) (eZ _)),trivial⟩,by decide,jT _⟩
  by_cases k3 : sk = 3
  · rw [if_neg k0,if_neg k1,if_neg k2,if_pos k3];have hhs := HW r1 r2 sn;unfold sC;dsimp only;generalize DM r1 r2 sn = hb' at *
    (repeat' (first|refine wS ?_|refine wR ?_|refine wT ?_|refine wU ?_|(refine rg 4 (vV (fP rfl rfl (by omega)) (aV ?_)))|(refine rg 10 (vV (fP rfl rfl (by omega)) (aV ?_)))|(refine rg 16 (vV (fP rfl rfl (by omega)) (aV ?_)))|(refine rg 18 (vV (kE rfl rfl (by omega)) (aV ?_)))|(refine cJ (id := 19) 153 [[],[0],[],[0,1,2],rN 4,[],[5],rN 7] (rM 123 8) [[],[],[123,124],[],[],rM 123 5,rM 123 5,[]] cN rfl (by decide +kernel) (dP T rfl (dO T rfl (dN rfl (dV rfl (by exact aL T rfl rfl rfl rfl rfl (by omega) (by omega)) ?_))));refine dV rfl (by exact aT T rfl rfl (bJ rfl qc) rfl) ?_;refine dP T rfl (dO T rfl (dV rfl (kC (hhs)) (dE ?_)));refine aV ?_)|(refine rg 20 (fW T rfl (vV (aT T rfl rfl rfl rfl) (mW rfl (fW T rfl (vV (aT T rfl rfl rfl rfl) (fW T rfl (vV (aT T rfl rfl rfl rfl) (vV (bS rfl rfl (by omega) (by omega)) (vV (by exact fB T rfl rfl rfl rfl) ?_)))))))));refine vV (by exact aL T rfl rfl rfl rfl rfl (by omega) (by omega)) ?_;refine aQ T rfl rfl rfl rfl rfl rfl (by decide) (lP rfl qc rfl) ?_)|(refine rg 23 (vV (aT T rfl rfl rfl rfl) (mW rfl (aQ T rfl rfl rfl rfl rfl rfl (by decide) rfl (aV ?_)))))|refine nZ ?_));all_goals first | (exfalso;omega) | exact ⟨.inl rfl,[3,4],_,rfl,rfl,rfl,⟨.inr (aG rfl rfl (bO _)),.inr (aG rfl (ctn sn (sn + 1)) (eZ _)),trivial⟩,by decide,jT _⟩
  by_cases k5 : sk = 5
  · rw [if_neg k0,if_neg k1,if_neg k2,if_neg k3,if_pos k5];dsimp only
    (repeat' (first|refine wS ?_|refine wR ?_|refine wT ?_|refine wU ?_|(refine rg 4 (vV (fP rfl rfl (by omega)) (aV ?_)))|(refine rg 10 (vV (fP rfl rfl (by omega)) (aV ?_)))|(refine rg 16 (vV (fP rfl rfl (by omega)) (aV ?_)))|(refine rg 18 (vV (fP rfl rfl (by omega)) (aV ?_)))|(refine rg 21 (vV (kE rfl rfl (by omega)) (aV ?_)))|(refine cJ (id := 22) 153 [[],[0],[],[0,1,2],rN 4,[],[5],rN 7] (rM 143 8) [[],[],[143,144],[],[],rM 143 5,rM 143 5,[]] cN rfl (by decide +kernel) (dP T rfl (dO T rfl (dN rfl (dV rfl (by exact aL T rfl rfl rfl rfl rfl (by omega) (by omega)) ?_))));refine dV rfl (by exact aT T rfl rfl (bJ rfl qp) rfl) ?_;refine dP T rfl (dO T rfl (dV rfl (eW rfl rfl) (dE ?_)));refine aV ?_)|(refine rg 23 (vV (aT T rfl rfl rfl rfl) (mW rfl (aQ T rfl rfl rfl rfl rfl rfl (by decide) rfl (aV ?_)))))|refine nZ ?_));all_goals first | (exfalso;omega) | exact ⟨.inl rfl,[3,4],_,rfl,rfl,rfl,⟨.inr (aG rfl rfl (bO _)),.inr (aG rfl rfl (eZ _)),trivial⟩,by decide,jT _⟩
  · rw [if_neg k0,if_neg k1,if_neg k2,if_neg k3,if_neg k5]
    (repeat' (first|refine wS ?_|refine wK ?_|refine wR ?_|refine wU ?_|(refine rg 4 (vV (fP rfl rfl (by omega)) (aV ?_)))|(refine rg 10 (vV (fP rfl rfl (by omega)) (aV ?_)))|(refine rg 16 (vV (fP rfl rfl (by omega)) (aV ?_)))|(refine rg 18 (vV (fP rfl rfl (by omega)) (aV ?_)))|(refine rg 21 (vV (fP rfl rfl (by omega)) (aV ?_)))|(refine rg 23 (lW T rfl (mW rfl (aQ T rfl rfl rfl rfl rfl rfl (by decide) rfl (aV ?_)))))|refine nZ ?_));all_goals first | (exfalso;omega) | exact ⟨.inl rfl,[3,4],_,rfl,rfl,rfl,⟨.inr (aG rfl rfl (bO _)),.inr (aG rfl rfl (eZ _)),trivial⟩,by decide,jT _⟩
end Go.Proofs.YtbialaoigijlgaaGreatDoor
namespace Go.Ld
open Go.Ab Go.Proofs.YtbialaoigijlgaaGreatDoor
theorem AU (c : Cx) (w : W) (i : Nat) (s : Ev) : (jP c w i s).1.1 = w.1 ∧ (jP c w i s).1.2.2.length = w.2.2.length := by
  unfold jP sC;dsimp only
  repeat' split
  all_goals exact ⟨rfl,by first | rfl | exact fX⟩
end Go.Ld
namespace Go.Proofs.YtbialaoigijlgaaGreatDoor
open Go Go.Ab Go.Ld
end Go.Proofs.YtbialaoigijlgaaGreatDoor
namespace Go.Ld
open Go.Ab Go.Proofs.YtbialaoigijlgaaGreatDoor
theorem zC3 : ∀ i : Nat,i < 3 → ([0,1,2] : List Nat)[i]? = some i := by decide
theorem PK {r : Int} {L : List AV} (h : AV.idfL L = true) : AV.idfL [AV.pr [.i r] 0,.pr [.pr L 0] 0] = true := by simp [AV.idfL,AV.idf,h]
theorem qG {h : Hp} {i : Nat} {θ : Nat → Nat} {cs : List AV} (hk : h[i]? = some (.cells cs)) (hi : AV.idfL cs = true) : h[i]? = some ((AB.cells cs).map θ) := by
  rw [hk];show _ = some (AB.cells (AV.mapL θ cs));rw [nB θ cs hi]
theorem X4 {h : Hp} (x : W) : mT h (.agg (wA x)) (.agg (wA x)) := .agg (.cons (.row _ _ _) (.cons (.v _) (.cons (.row _ _ _) .nil)))
end Go.Ld
namespace Go.Proofs.YtbialaoigijlgaaGreatDoor
open Go Go.Ab Go.Ld
attribute [local irreducible] VC AW bV aO
set_option maxHeartbeats 4000000
theorem LN {F : FuncId} {r : Int} {L : List AV} {q : W → Bool} (l : List W) (hl : l.length ≤ 1000000) (hL : AV.idfL L = true) (hp : AV.plnL L = true) (hF : ∀ x,x ∈ l → aO Tryz.prog F [.agg (wA x),.pr [.i r] 0,.pr [.pr L 0] 0] [] (.b (q x)) []) :
    aO Tryz.prog 91 [.sl 0 0 l.length 3,.clo (.func F) [] [.pr [.i r] 0,.ptr 1 0]] [.arr (eY l) 3,.cells [.ptr 2 0],.cells L] (.sl 0 0 (fM q l).length 3) [.arr (eY (fM q l)) 3,.cells [.ptr 2 0],.cells L] := by
  have hll : (eY l).length = l.length := eD l;have hi : AV.idfL [AV.pr [.i r] 0,.pr [.pr L 0] 0] = true := PK hL;have hix := PB hl hi hF;have hvc : ∀ {X : AB} {Y : Hp},kV (X :: .cells [.ptr 2 0] :: .cells L :: Y) [AV.pr [.i r] 0,.ptr 1 0] [.pr [.i r] 0,.pr [.pr L 0] 0] := fun {X Y} => .cons (.pr _ _) (.cons (.ptr rfl (.cons (.ptr rfl (fK _ hp)) .nil)) .nil);have hvw : mT [.arr (eY l) 3,.cells [.ptr 2 0],.cells L] (.sl 0 0 l.length 3) (.rowE (eY l) 3) := rX rfl hll.symm (sG (fun _ => rfl) _);refine bK T Tryz.func91 rfl rfl rfl rfl ?_;rcases D5 q l 0 with ⟨h1,h2⟩ | ⟨j,hj,h1,h2,h3⟩
  · rw [h1] at hix;have hk : fM q l = l := xU.2 fun x hx => by rw [h2 x hx];rfl
    rw [hk]
    (repeat' (first|refine wS ?_|refine wR ?_|refine wT ?_|(refine rg 0 (aV ?_))|(refine rg 1 (dQ rfl (vV (by exact eN rfl rfl hix (.cons hvw (.cons (.clo .nil hvc) .nil)) rfl rfl) ?_));refine aV ?_)|(refine rg 2 (mW rfl (vV (eW rfl rfl) ?_)))|(refine rg 3 (mW rfl (aV ?_)))|refine nZ ?_));all_goals first | (exfalso;omega) | exact ⟨.inl rfl,[0,1,2],_,rfl,rfl,rfl,⟨.inr (aG rfl rfl (bE _)),.inr rfl,.inr (qG rfl hL),trivial⟩,by decide,zC3⟩
  · rw [h1,Nat.zero_add] at hix;have hk0 : fM q (l.take (j + 1)) = l.take j := by
      rw [tR hj,if_pos h2];exact xU.2 fun x hx => by rw [h3 x hx];rfl
    have hkl : (fM q (l.take (j + 1))).length = j := by rw [hk0];simp;omega
    have hka : fM q (l.take (j + 1)) ++ l.drop (fM q (l.take (j + 1))).length = l := by rw [hkl,hk0,bG]
    have hkf : fM q l = fM q (l.take l.length) := by rw [dA]
    rw [hkf]
    (repeat' (first|refine wS ?_|refine wB ?_|refine wK ?_|refine wU ?_|(refine rg 0 (aV ?_))|(refine rg 1 (dQ rfl (vV (by exact eN rfl rfl hix (.cons hvw (.cons (.clo .nil hvc) .nil)) rfl rfl) ?_));refine aV ?_)|(refine rg 2 (mW rfl (vV (eW rfl rfl) ?_)))|(refine iA 4 rfl rfl rfl (by omega) (by omega) ?_)|refine nZ ?_));all_goals try (exfalso;omega)
    refine cK (X := {m : Nat // m ≤ l.length}) (fun m => [(0,.sl 0 0 l.length 3),(1,.clo (.func F) [] [.pr [.i r] 0,.ptr 1 0]),(5,.i (fM q (l.take m.1)).length),(6,.i m.1)]) (fun m => [.arr (eY (fM q (l.take m.1) ++ l.drop (fM q (l.take m.1)).length)) 3,.cells [.ptr 2 0],.cells L]) (fun m => l.length - m.1) ⟨j + 1,hj⟩ ⟨[0,1,2],rfl,⟨rfl,rfl,by dsimp only;rw [hkl];rfl,rfl,trivial⟩,⟨.inr (aG rfl (by dsimp only;rw [hka]) (bE _)),.inr rfl,.inr (qG rfl hL),trivial⟩,by decide,zC3⟩ ?_
    rintro ⟨m,hm⟩;dsimp only;have hle := DG q l m;by_cases hlt : m < l.length
    · have hs := tR (q := q) hlt;have hget := HB (G := fM q (l.take m)) (l := l) (m := m) (i := 0 + (m : Int).toNat) hle hlt (by omega)
      have hg2 := HB (G := fM q (l.take m)) (l := l) (m := (fM q (l.take m)).length) (i := 0 + (((fM q (l.take m)).length : Nat) : Int).toNat) (aX _) (by omega) (by omega)
      rw [nD hlt] at hget;have hset := XK (G := fM q (l.take m)) (l := l) (x := l[m]) (j := (((fM q (l.take m)).length : Nat) : Int)) (by omega) rfl
      have hc := hF l[m] (aI hlt);have hal := KN (G := fM q (l.take m)) (l := l) (by omega)
      generalize l[m] = x at *;generalize l.getD (fM q (l.take m)).length w0 = y at *;generalize hG : fM q (l.take m) = G at *;generalize hA : eY (G ++ l.drop G.length) = A at *;cases e : q x
      · rw [e] at hc hs;rw [if_neg (by simp)] at hs
        (repeat' (first|refine wS ?_|refine wB ?_|refine wK ?_|refine wT ?_|(refine wC rfl ?_ ?_<;>(intro hb;(try simp only [nm] at hb);try (exfalso;omega)))|(refine rg 5 (dQ rfl (qW T rfl (vV (aJ rfl rfl) ?_))))|(refine rg 7 (dQ rfl (vV (by exact aL T rfl rfl rfl rfl rfl (by omega) (by omega)) ?_));refine vV (by exact aT T rfl rfl (bJ rfl hget) rfl) ?_;refine bT (bH T rfl) rfl (aQ T rfl rfl rfl rfl rfl rfl (by decide) rfl ?_))|(refine rg 8 (mW rfl (vV (aT T rfl rfl rfl rfl) (vV (by exact eN rfl rfl hc (.cons (X4 x) hvc) rfl rfl) ?_)));refine vV (eL rfl) ?_)|(refine rg 9 (dQ rfl (vV (aT T rfl rfl rfl rfl) (vV (by exact aL T rfl rfl rfl rfl rfl (by omega) (by omega)) ?_)));refine aQ T rfl rfl rfl rfl rfl rfl (by decide) (lP rfl hg2 rfl) ?_)|(refine iA 10 rfl rfl rfl (by omega) (by omega) ?_)|(refine iA 6 rfl rfl rfl (by omega) (by omega) ?_)|refine nZ ?_));all_goals try (exfalso;omega)
        all_goals exact ⟨⟨m + 1,hlt⟩,by dsimp only;omega,[0,1,2],rfl,⟨rfl,rfl,by rw [hs];simp only [aD];rfl,rfl,trivial⟩,⟨.inr (aG rfl (by rw [hs];exact hset) (bE _)),.inr rfl,.inr (qG rfl hL),trivial⟩,by decide,zC3⟩
      · rw [e] at hc hs;rw [if_pos rfl] at hs
        (repeat' (first|refine wS ?_|refine wB ?_|refine wK ?_|refine wU ?_|(refine wC rfl ?_ ?_<;>(intro hb;(try simp only [nm] at hb);try (exfalso;omega)))|(refine rg 5 (dQ rfl (qW T rfl (vV (aJ rfl rfl) ?_))))|(refine rg 7 (dQ rfl (vV (by exact aL T rfl rfl rfl rfl rfl (by omega) (by omega)) ?_));refine vV (by exact aT T rfl rfl (bJ rfl hget) rfl) ?_;refine bT (bH T rfl) rfl (aQ T rfl rfl rfl rfl rfl rfl (by decide) rfl ?_))|(refine rg 8 (mW rfl (vV (aT T rfl rfl rfl rfl) (vV (by exact eN rfl rfl hc (.cons (X4 x) hvc) rfl rfl) ?_)));refine vV (eL rfl) ?_)|(refine iA 6 rfl rfl rfl (by omega) (by omega) ?_)|refine nZ ?_));all_goals try (exfalso;omega)
        all_goals exact ⟨⟨m + 1,hlt⟩,by dsimp only;omega,[0,1,2],rfl,⟨rfl,rfl,by rw [hs];rfl,rfl,trivial⟩,⟨.inr (aG rfl (by rw [hs];exact hA.symm) (bE _)),.inr rfl,.inr (qG rfl hL),trivial⟩,by decide,zC3⟩
    · obtain rfl : m = l.length := by omega
      have hal := KN (G := fM q (l.take l.length)) (l := l) (by omega)
      have htk := MU (G := fM q (l.take l.length)) (l := l);generalize fM q (l.take l.length) = G at *
      (repeat' (first|refine wS ?_|refine wR ?_|refine wE ?_|(refine wC rfl ?_ ?_<;>(intro hb;(try simp only [nm] at hb);try (exfalso;omega)))|(refine rg 5 (dQ rfl (qW T rfl (vV (aJ rfl rfl) ?_))))|(refine rg 11 (dQ rfl (vV (by exact jL T rfl rfl rfl rfl rfl rfl (by omega) (by omega) (by omega)) ?_));refine B8 T rfl rfl rfl ⟨rfl,rfl,by decide⟩ rfl (by rw [hal];omega) ?_)|(refine rg 12 (dQ rfl (vV (by exact jL T rfl rfl rfl rfl rfl rfl (by omega) (by omega) (by omega)) ?_));refine aV ?_)|refine nZ ?_));all_goals try (exfalso;omega)
      all_goals exact ⟨.inl rfl,[0,1,2],_,rfl,(by show AV.sl 0 0 ((G.length : Int) - 0).toNat 3 = AV.sl 0 0 G.length 3;rw [show ((G.length : Int) - 0).toNat = G.length by omega]),rfl,⟨.inr (aG rfl htk (bE _)),.inr rfl,.inr (qG rfl hL),trivial⟩,by decide,zC3⟩
end Go.Proofs.YtbialaoigijlgaaGreatDoor
namespace Go.Ab
open Go
theorem HE {P : Program} {f : FuncId} {args : List AV} {hin hout : Hp} {es : List (List AV)} {len sz k : Nat} (hk : k = hout.length) (hn : len = es.length) (hi : AV.idfL es.flatten = true) (h : aO P f args hin (.sl k 0 len sz) (hout ++ [.arr es sz])) : aO P f args hin (.rowE es sz) (hout ++ [.gone]) := by
  refine ⟨h.1,fun ρ S w vs hs ha => (h.2 ρ S w vs hs ha).mono ?_⟩;rintro e w' ⟨y,ρ',S',rfl,h2,h3⟩;rw [hn] at h3;have hb : (hout ++ [AB.arr es sz])[k]? = some (.arr es sz) := by subst hk;simp
  have e : (hout ++ [AB.arr es sz]).set k .gone = hout ++ [.gone] := by subst hk;simp
  exact ⟨y,_,_,rfl,e ▸ h2.freeze (k := k) hb,zW hi (h2.blk k _ hb) h3⟩
theorem yS (L : List Nat) : ∀ i : Nat,i < 1 → (0 :: L)[i]? = some i := fun i hi => by cases i with | zero => rfl | succ i => omega
end Go.Ab
namespace Go.Proofs.YtbialaoigijlgaaGreatDoor
open Go Go.Ab Go.Ld
attribute [local irreducible] VC AW bV aO
set_option maxHeartbeats 4000000
theorem SW (c : Cx) (gs all : List G) {n : Nat} (ok : mF n all) (up : ER all) (hne : ∀ g,g ∈ all → g.2 ≠ []) :
    aO Tryz.prog 42 [.ptr 0 0,.rowE (iB all) 2] [.cells (fT c gs)] (.rowE (iB (K5 c all)) 2) [.cells (fT c gs),.gone] := by
  have h12 : all.length ≤ 12 := bW ok.len ok.ln;have hal : (iB all).length = all.length := gZ _;have hlb : ∀ g,g ∈ all → 0 ≤ jN g ∧ jN g ≤ 4000000 := fun g hg => U7 (ok.ok g hg) (hne g hg);have hsb := X7 hlb;refine HE (k := 1) (hout := [.cells (fT c gs)]) rfl (by rw [gZ] : (K5 c all).length = (iB (K5 c all)).length) (gD (eA _)) ?_
  refine bK T Tryz.func42 rfl rfl rfl rfl ?_
  repeat' (first|refine wS ?_|(refine rg 0 (bT (cQ rfl rfl) rfl (aV ?_)))|(refine rg 1 (aV ?_))|refine nZ ?_)
  (repeat' (first|refine wB ?_|(refine rg 2 (mW rfl (qW T rfl (mV ?_))))|refine nZ ?_));refine cK (X := {k : Nat // k ≤ all.length}) (fun k => [(1,.rowE (iB all) 2),(2,.ptr 1 0),(5,.i (tE (all.take k.1))),(16,.rowE (iB all) 2),(17,.i (iB all).length),(18,.i k.1)]) (fun _ => [.cells (fT c gs),.cells [.ptr 0 0]]) (fun k => all.length - k.1) ⟨0,bP _⟩ ⟨[0,1],rfl,(by repeat first|exact trivial|refine ⟨rfl,?_⟩),⟨.inr rfl,.inr rfl,trivial⟩,by decide,yS _⟩ ?_
  rintro ⟨k,hk⟩;dsimp only;by_cases hlt : k < all.length
  · have hg := zR hlt;have hs := MW hlt;have hb := X7 (l := all.take k) fun g hg => hlb g (eG hg);have hkl : (all.take k).length ≤ 12 := by rw [aU];omega
    have hl1 := hlb _ (aI hlt);have hc := IG all[k] (hne _ (aI hlt)) (by have := ok.ws _ (aI hlt);omega)
    generalize all[k] = g at *;generalize tE (all.take k) = S at *;generalize jN g = v at *
    (repeat' (first|refine wS ?_|refine wB ?_|refine wK ?_|(refine wC rfl ?_ ?_<;>(intro hb;(try simp only [nm] at hb);try (exfalso;omega)))|(refine rg 3 (vV (aJ rfl rfl) ?_))|(refine rg 4 (vV (ix T rfl (by omega) (mS _) hg) (lW T rfl (bT (bH T rfl) rfl (aQ T rfl rfl rfl rfl rfl rfl (by decide) rfl ?_)))))|(refine rg 5 (mW rfl (lW T rfl (vV (kC (hc)) (vV (bS rfl rfl (by omega) (by omega)) (aV ?_))))))|(refine rg 6 (vV (bS rfl rfl (by omega) (by omega)) (mV ?_)))|refine nZ ?_));all_goals first | (exfalso;omega) | exact ⟨⟨k + 1,hlt⟩,by dsimp only;omega,[0,1],rfl,⟨rfl,rfl,by dsimp only;rw [hs];rfl,rfl,rfl,rfl,trivial⟩,⟨.inr rfl,.inr rfl,trivial⟩,by decide,yS _⟩
  obtain rfl : k = all.length := by omega
  rw [dA]
  (repeat' (first|refine wS ?_|refine wB ?_|refine wE ?_|(refine wC rfl ?_ ?_<;>(intro hb;(try simp only [nm] at hb);try (exfalso;omega)))|(refine rg 3 (vV (aJ rfl rfl) ?_))|(refine rg 7 (vV (fG rfl) (rL 8 2 rfl (by decide) ?_)))|(refine rg 8 (mW rfl (qW T rfl (mV ?_))))|refine nZ ?_));all_goals try (exfalso;omega)
  refine cK (X := {k : Nat // k ≤ all.length}) (fun k => [(2,.ptr 1 0),(5,.i (tE all)),(8,.sl 2 0 k.1 2),(27,.rowE (iB all) 2),(28,.i (iB all).length),(29,.i k.1)]) (fun k => [.cells (fT c gs),.cells [.ptr 0 0],.arr (iB ((paid c all).take k.1)) 2]) (fun k => all.length - k.1) ⟨0,bP _⟩ ⟨[0,1,2],rfl,(by repeat first|exact trivial|refine ⟨rfl,?_⟩),⟨.inr rfl,.inr rfl,.inr rfl,trivial⟩,by decide,yS _⟩ ?_
  clear hk hlt;rintro ⟨k,hk⟩;dsimp only;have hpl := OH c all;by_cases hlt : k < all.length
  · have hg := zR hlt;have hp := KF (c := c) hlt;have hl1 := hlb _ (aI hlt);have hgo := ok.ok _ (aI hlt);have hgw := ok.ws _ (aI hlt);have hc := IG all[k] (hne _ (aI hlt)) (by omega)
    have htl : ((paid c all).take k).length = k := by rw [aU];omega
    generalize (paid c all).take k = Q at *;generalize all[k] = g at *;obtain ⟨bs,ws⟩ := g;dsimp only at hgw hp;generalize hv : jN (bs,ws) = v at *;generalize tE all = S at *;have hcl := EF ws (by omega)
    have hd := LN (r := S - v) (L := fT c gs) (q := fun w => decide (w.2.1 + (S - v) > c.m)) ws (by omega) rfl rfl (fun x hx => SY c gs x (S - v) ⟨(hgo.ws x hx).m0,(hgo.ws x hx).m1⟩ (by omega))
    generalize fM (fun w => decide (w.2.1 + (S - v) > c.m)) ws = ws' at *;have hQl : (iB Q).length = k := by rw [gZ,htl]
    have hQ : iB (Q ++ [(bs,ws')]) = iB Q ++ [[.rowE (ints bs) 1,.rowE (eY ws') 3]] := by rw [iB,dB];rfl
    rw [← hp] at hQ;generalize iB Q = Q' at *
    (repeat' (first|refine wS ?_|refine wB ?_|refine wK ?_|(refine wC rfl ?_ ?_<;>(intro hb;(try simp only [nm] at hb);try (exfalso;omega)))|(refine rg 9 (vV (aJ rfl rfl) ?_))|(refine rg 10 (vV (ix T rfl (by omega) (mS _) hg) (lW T rfl (bT (bH T rfl) rfl (aQ T rfl rfl rfl rfl rfl rfl (by decide) rfl ?_)))))|(refine rg 11 (mW rfl (lW T rfl (vV (kC (hc)) (vV (cO rfl rfl (by omega) (by omega)) (bT (bH T rfl) rfl (aQ T rfl rfl rfl rfl rfl rfl (by decide) rfl ?_)))))))|refine nZ ?_));all_goals try (exfalso;omega)
    refine fC 11 rfl rfl rfl ?_
    repeat' (first|(refine rg 12 (hO T rfl (bT (by exact fZ rfl rfl hcl (.inr ⟨rfl,rfl,by simp⟩)) rfl ?_));refine vV (by exact iX rfl rfl) ?_;refine eJ [5,1,0] rfl rfl (hd) rfl rfl (by decide) ⟨.inr (aG rfl (cE _ (bE _)) (bE _)),.inr rfl,.inr rfl,trivial⟩ (by simp) rfl ?_;refine lO (es := eY ws') 41 rfl (congrArg (fun x=>some (AB.arr x 3)) (cE _ (bE _))) (eD _).symm (gD (bE _)) ?_;refine fW T rfl (aQ T rfl rfl rfl rfl rfl rfl (by decide) rfl ?_))|(refine rg 13 (mW rfl (lW T rfl (bT (by exact bC T rfl rfl (by decide) (by decide) rfl rfl rfl) rfl ?_)));refine gR T rfl rfl rfl rfl rfl rfl (by omega) (kX.whole rfl rfl) rfl (by simp;omega) (by simp;omega) rfl ?_;refine aV ?_)|(refine rg 14 (vV (bS rfl rfl (by omega) (by omega)) (mV ?_)))|refine nZ ?_)
    show ∃ x',_;exact ⟨⟨k + 1,hlt⟩,by dsimp only;omega,⟨[0,1,7],rfl,(by repeat first|exact trivial|refine ⟨rfl,?_⟩),⟨.inr rfl,.inr rfl,.inr (aG rfl (by dsimp only;rw [hQ];exact lT hQl.symm) (eA _)),trivial⟩,by decide,yS _⟩⟩
  obtain rfl : k = all.length := by omega
  rw [← hpl,dA,hpl];have pok := ok.paid c;have pst := nK.start pok (HL up (c := c));rw [← hpl];generalize hL : paid c all = L at *;rw [show K5 c all = xQ L by rw [← hL];rfl]
  (repeat' (first|refine wS ?_|refine wB ?_|refine wE ?_|(refine wC rfl ?_ ?_<;>(intro hb;(try simp only [nm] at hb);try (exfalso;omega)))|(refine rg 9 (vV (aJ rfl rfl) ?_))|(refine rg 15 (aV ?_))|refine nZ ?_));all_goals try (exfalso;omega)
  refine cK (X := {q : List G × Nat // nK n L q.1 q.2}) (fun q => [(8,.sl 1 0 q.1.1.length 2),(12,.i q.1.2)]) (fun q => [.cells (fT c gs),.arr (iB q.1.1) 2]) (fun q => 100 * WJ q.1.1 + (q.1.1.length - q.1.2)) ⟨(L,0),pst⟩ ⟨[0,2],rfl,(by repeat first|exact trivial|refine ⟨rfl,?_⟩),⟨.inr rfl,.inr (aG rfl rfl (eA _)),trivial⟩,by decide,yS _⟩ ?_
  clear hsb hlb hne h12 hal pok up ok;rintro ⟨⟨o,i⟩,hq⟩;dsimp only at hq ⊢;have hol : (iB o).length = o.length := gZ _;have ho12 : o.length ≤ 12 := bW hq.ok.len hq.ok.ln;have hio := hq.hi;by_cases hlt : i < o.length
  · have hgi : o[i]? = some o[i] := aB hlt;have hgm := aI hlt;generalize o[i] = g at *;have hgo := hq.ok.ok g hgm;have hgw := hq.ok.ws g hgm;have hsz := hgo.sz hgw;have q1 := vS (L := o) (j := (i : Int)) (i := i) hgi rfl;have hcc := LS g hsz;cases hcr : gL g with
    | none =>
      have hk := hq.keep hgi hcr;rw [show wG g = -1 by unfold wG;rw [hcr]] at hcc
      (repeat' (first|refine wS ?_|refine wB ?_|refine wK ?_|refine wU ?_|(refine wC rfl ?_ ?_<;>(intro hb;(try simp only [nm] at hb);try (exfalso;omega)))|(refine rg 16 (dQ rfl (qW T rfl (vV (aJ rfl rfl) ?_))))|(refine rg 18 (dQ rfl (vV (by exact aL T rfl rfl rfl rfl rfl (by omega) (by omega)) ?_));refine vV (by exact aT T rfl rfl (bJ rfl q1) rfl) ?_;refine vV (kC (hcc)) (aV ?_))|(refine rg 19 (mW rfl (vV (jD rfl rfl) ?_)))|(refine iA 17 rfl rfl rfl (by omega) (by omega) ?_)|refine nZ ?_));all_goals try (exfalso;omega)
      exact ⟨⟨(o,i + 1),hk⟩,by dsimp only;omega,⟨[0,1],rfl,(by repeat first|exact trivial|refine ⟨rfl,?_⟩),⟨.inr rfl,.inr (aG rfl rfl (eA _)),trivial⟩,by decide,yS _⟩⟩
    | some k =>
      have hk := hq.next hgi hcr
      obtain ⟨f1,f2,f3,_⟩ := jJ hcr;have hwg := OQ hgi hcr;have hno := IE hq.ok hgi hcr;have hsp := TD g hsz f3 f1 f2 (by omega)
      have hll : (o.set i (jM g k) ++ [mR g k]).length = o.length + 1 := by simp
      have hso := TF (o.set i (jM g k) ++ [mR g k]) hno.dist (by have := hno.len;have := hno.ln;omega) hno.hd
      have hw2 : WJ (U1 o i k g) = WJ (o.set i (jM g k) ++ [mR g k]) := MJ (dU _ _);have hl2 : (U1 o i k g).length = o.length + 1 := by rw [U1,(dU _ _).length_eq,hll]
      rw [show wG g = (k : Int) by unfold wG;rw [hcr]] at hcc
      have t1 := zQ (L := o) (j := (i : Int)) (i := i) (x := jM g k) rfl;have e1 : iB (o.set i (jM g k) ++ [mR g k]) = (iB o).set (0 + (i : Int).toNat) (gA (jM g k)) ++ [gA (mR g k)] := by rw [t1,iB,dB];rfl
      have e2 : ((iB o).set (0 + (i : Int).toNat) (gA (jM g k))).length = o.length := by rw [fX,hol]
      change aO _ _ _ _ _ [.arr (iB (U1 o i k g)) 2] at hso;rw [hll] at hso;generalize U1 o i k g = o' at *;generalize hN : o.set i (jM g k) ++ [mR g k] = N at *;generalize jM g k = r at *;generalize mR g k = u at *;obtain ⟨rb,rw_⟩ := r;obtain ⟨ub,uw⟩ := u
      (repeat' (first|refine wS ?_|refine wB ?_|refine wK ?_|refine wT ?_|(refine wC rfl ?_ ?_<;>(intro hb;(try simp only [nm] at hb);try (exfalso;omega)))|(refine rg 16 (dQ rfl (qW T rfl (vV (aJ rfl rfl) ?_))))|(refine rg 18 (dQ rfl (vV (by exact aL T rfl rfl rfl rfl rfl (by omega) (by omega)) ?_));refine vV (by exact aT T rfl rfl (bJ rfl q1) rfl) ?_;refine vV (kC (hcc)) (aV ?_))|(refine rg 19 (mW rfl (vV (jD rfl rfl) ?_)))|(refine rg 20 (dQ rfl (vV (by exact aL T rfl rfl rfl rfl rfl (by omega) (by omega)) ?_));refine vV (by exact aT T rfl rfl (bJ rfl q1) rfl) ?_;refine mW rfl (vV (kC (hsp)) (mW rfl (xW rfl (xW rfl (bT (bH T rfl) rfl (bT (bH T rfl) rfl (aQ T rfl rfl rfl rfl rfl rfl (by decide) rfl (aQ T rfl rfl rfl rfl rfl rfl (by decide) rfl ?_)))))))))|(refine rg 21 (dQ rfl (vV (aT T rfl rfl rfl rfl) (vV (by exact aL T rfl rfl rfl rfl rfl (by omega) (by omega)) ?_)));refine aQ T rfl rfl rfl rfl rfl rfl (by decide) (lP rfl q1 rfl) ?_)|(refine rg 22 (mW rfl (vV (aT T rfl rfl rfl rfl) (bT (by exact bC T rfl rfl (by decide) (by decide) rfl rfl rfl) rfl ?_)));refine gR T rfl rfl rfl rfl rfl rfl (by simp) (kX.whole rfl rfl) rfl (by simp;omega) (by simp;omega) rfl ?_;refine aV ?_)|refine nZ ?_));all_goals try (exfalso;omega)
      refine eP [(8,.sl 1 0 (o.length + 1) 2),(12,.i i)] [.cells (fT c gs),.arr (iB N) 2] ⟨[0,5],rfl,(by repeat first|exact trivial|refine ⟨rfl,?_⟩),⟨.inr rfl,.inr (aG rfl (by rw [e1];exact lT e2.symm) (eA _)),trivial⟩,by decide,yS _⟩ ?_
      (repeat' (first|(refine rg 23 (mW rfl (eJ [1] rfl rfl (hso) rfl rfl (by decide) ⟨.inr (aG rfl rfl (eA _)),trivial⟩ (by simp) rfl ?_)))|(refine rg 24 (aV ?_))|(refine iA 17 rfl rfl rfl (by omega) (by omega) ?_)|refine nZ ?_));all_goals try (exfalso;omega)
      exact ⟨⟨(o',0),hk⟩,by dsimp only;omega,⟨[0,1],rfl,⟨by dsimp only;rw [hl2];rfl,rfl,trivial⟩,⟨.inr rfl,.inr (aG rfl (cE _ (eA _)) (eA _)),trivial⟩,by decide,yS _⟩⟩
  · have hfin := hq.fin (by omega)
    rw [hfin]
    (repeat' (first|refine wS ?_|refine wR ?_|refine wE ?_|(refine wC rfl ?_ ?_<;>(intro hb;(try simp only [nm] at hb);try (exfalso;omega)))|(refine rg 16 (dQ rfl (qW T rfl (vV (aJ rfl rfl) ?_))))|(refine rg 25 (mW rfl (aV ?_)))|refine nZ ?_));all_goals first | (exfalso;omega) | exact ⟨.inl rfl,[0,1],_,rfl,rfl,rfl,⟨.inr rfl,.inr (aG rfl rfl (eA _)),trivial⟩,by decide,yS _⟩
end Go.Proofs.YtbialaoigijlgaaGreatDoor
namespace Go.Ld
open Go.Ab Go.Proofs.YtbialaoigijlgaaGreatDoor
structure oM (c : Cx) (M : Int) (gs : List G) : Prop where
  out : mF c.bs.length gs
  up : ER gs
  ne : ∀ g,g ∈ gs → g.2 ≠ []
  ml : ∀ g,g ∈ gs → ∀ w,w ∈ g.2 → w.2.1 ≤ M
  cov : (gs.flatMap (·.1)).Perm (nats (List.range c.bs.length))
  idn : (gs.flatMap fun g => (iH g).1).Perm (nats (List.range c.bs.length))
  wl : ∀ g,g ∈ gs → g.2.length ≤ 1000
structure oU (c : Cx) (gs : List G) : Prop where
  mid : oM c c.m gs
  cer : ∀ g,g ∈ gs → gL g = none
  asc : ∀ g,g ∈ gs → g.2.Pairwise fun a b => mK a b < 0
theorem Z3 (n : Nat) : (nats (List.range n)).Nodup := List.Pairwise.map (R := fun a b => a ≠ b) _ (fun a b h e => h (Int.ofNat.inj e)) WG
theorem zG {n : Nat} {b : Int} : b ∈ nats (List.range n) ↔ 0 ≤ b ∧ b < n := by
  constructor
  · intro h;obtain ⟨i,hi,rfl⟩ := bM.1 h;have := fN.1 hi;exact ⟨by omega,by omega⟩
  · intro h;exact bM.2 ⟨b.toNat,fN.2 (by omega),by omega⟩
theorem oM.find {c : Cx} {M : Int} {gs : List G} (h : oM c M gs) {b : Int} (hb : 0 ≤ b ∧ b < c.bs.length) : ∃ g,g ∈ gs ∧ b ∈ g.1 := by
  have := h.cov.mem_iff.2 (zG.2 hb);obtain ⟨g,hg,hbg⟩ := nF.1 this;exact ⟨g,hg,hbg⟩
theorem T9 {α : Type} {A B l : List Int} {x y : List α} {d : α} (hA : A.Nodup) (hB : B.Nodup) (dj : ∀ b,b ∈ A → b ∉ B) (hl : l.Perm (A ++ B)) (hx : x.length = A.length) (hy : y.length = B.length) :
    (l.map fun k => if k ∈ A then x.getD (A.idxOf k) d else y.getD (B.idxOf k) d).Perm (x ++ y) := by
  refine (hl.map _).trans ?_;rw [dB];have e1 : A.map (fun k => if k ∈ A then x.getD (A.idxOf k) d else y.getD (B.idxOf k) d) = x := by
    refine WI (by simp [hx]) fun i h1 h2 => ?_
    rw [Q3,if_pos (aI _),hA.idxOf_getElem,aC,aB h2];rfl
  have e2 : B.map (fun k => if k ∈ A then x.getD (A.idxOf k) d else y.getD (B.idxOf k) d) = y := by
    refine WI (by simp [hy]) fun i h1 h2 => ?_
    have hb : B[i]'(by simpa using h1) ∈ B := aI _
    rw [Q3,if_neg (fun q => dj _ q hb),hB.idxOf_getElem,aC,aB h2];rfl
  rw [e1,e2]
structure yQ (n : Nat) (x y : G) : Prop where
  gx : H4 n x
  gy : H4 n y
  nx : x.2 ≠ []
  ny : y.2 ≠ []
  dj : ∀ b,b ∈ x.1 → b ∉ y.1
  di : ∀ b,b ∈ (iH x).1 → b ∉ (iH y).1
  ln : x.1.length + y.1.length ≤ 6
theorem D1 {x y : G} {w : W} (h : w ∈ (pE x y).2) : ∃ u v,u ∈ x.2 ∧ v ∈ y.2 ∧ w = M4 x y u v (pE x y).1 := by
  obtain ⟨u,hu,h⟩ := nF.1 h;obtain ⟨v,hv,h⟩ := bM.1 h;exact ⟨u,v,hu,hv,h.symm⟩
theorem mA (x y : G) : (pE x y).1.Perm (x.1 ++ y.1) := dU _ _
theorem yQ.pair {n : Nat} {x y : G} (h : yQ n x y) {u v : W} (hu : u ∈ x.2) (hv : v ∈ y.2) : (M4 x y u v (pE x y).1).1.Perm (u.1 ++ v.1) ∧ (M4 x y u v (pE x y).1).2.2.Perm (u.2.2 ++ v.2.2) :=
  ⟨T9 h.gx.nd h.gy.nd h.dj (mA x y) (h.gx.ws u hu).pl (h.gy.ws v hv).pl,T9 h.gx.nd h.gy.nd h.dj (mA x y) (h.gx.ws u hu).cl (h.gy.ws v hv).cl⟩
theorem yQ.same {n : Nat} {x y : G} (h : yQ n x y) {w : W} (hw : w ∈ (pE x y).2) : w.1.Perm ((iH x).1 ++ (iH y).1) := by
  obtain ⟨u,v,hu,hv,rfl⟩ := D1 hw;exact (h.pair hu hv).1.trans ((h.gx.same _ _ hu (iR h.nx)).append (h.gy.same _ _ hv (iR h.ny)))
theorem yQ.ok {n : Nat} {x y : G} (h : yQ n x y) {M : Int} (h1 : ∀ w, w ∈ x.2 → w.2.1 ≤ M) (h2 : ∀ w, w ∈ y.2 → w.2.1 ≤ M) (hM : M ≤ 2000000) : H4 n (pE x y) where
  ne e := by
    have := (mA x y).length_eq;rw [e] at this;have := dY.2 h.gx.ne;simp at *;omega
  up := by
    have h1 := kD oE (x.1 ++ y.1);have hnd : (pE x y).1.Nodup := (mA x y).nodup_iff.2 (gI.2 ⟨h.gx.nd,h.gy.nd,fun a ha b hb e => h.dj a ha (e ▸ hb)⟩);refine (h1.and hnd).imp fun {a b} h => ?_
    have := h.1;have := h.2;unfold cI at *;by_cases e : a < b
    · exact e
    · rw [if_neg e] at *;by_cases e' : b < a
      · rw [if_pos e'] at *;omega
      · omega
  rg b hb := by
    rcases bQ.1 ((mA x y).mem_iff.1 hb) with hb | hb
    · exact h.gx.rg b hb
    · exact h.gy.rg b hb
  ln := by rw [(mA x y).length_eq,aD];exact h.ln
  ws w hw := by
    have hs := h.same hw;obtain ⟨u,v,hu,hv,rfl⟩ := D1 hw;obtain ⟨p1,p2⟩ := h.pair hu hv;have ou := h.gx.ws u hu;have ov := h.gy.ws v hv;refine ⟨bF _,bF _,fun b hb => ?_,hs.nodup_iff.2 (gI.2 ⟨(h.gx.ws _ (iR h.nx)).nd,(h.gy.ws _ (iR h.ny)).nd,fun a ha b hb e => h.di a ha (e ▸ hb)⟩),?_,?_,fun r hr => ?_⟩
    · rcases bQ.1 (p1.mem_iff.1 hb) with hb | hb
      · exact ou.pr b hb
      · exact ov.pr b hb
    · have := ou.m0;have := ov.m0;show 0 ≤ u.2.1 + v.2.1;omega
    · have := h1 u hu;have := h2 v hv;show u.2.1 + v.2.1 ≤ 4000000;omega
    · rcases bQ.1 (p2.mem_iff.1 hr) with hr | hr
      · exact ou.sp r hr
      · exact ov.sp r hr
  same w v hw hv := (h.same hw).trans (h.same hv).symm
theorem PA {x y : G} (hx : x.2 ≠ []) (hy : y.2 ≠ []) : (pE x y).2 ≠ [] := by
  show nL x y _ ≠ [];unfold nL;cases hu : x.2 with
  | nil => exact absurd hu hx
  | cons u l =>
    cases hv : y.2 with
    | nil => exact absurd hv hy
    | cons v m => simp
theorem KR (x y : G) : (pE x y).2.length = x.2.length * y.2.length := by
  show (nL x y _).length = _;unfold nL;generalize dW cI (x.1 ++ y.1) = l
  induction x.2 with
  | nil => simp
  | cons u m ih => rw [cD,aD,ih,bF,List.length_cons,Nat.succ_mul,pL]
theorem wW {α : Type} {l : List α} {i k : Nat} {u v : α} (J : α) (hik : i < k) (hi : l[i]? = some u) (hk : l[k]? = some v) : ∃ P Q R,l = P ++ u :: (Q ++ v :: R) ∧ (l.set i J).eraseIdx k = P ++ J :: (Q ++ R) := by
  obtain ⟨hl,e2⟩ := aA.1 hk;have hil : i < l.length := by omega
  have e1 : l[i] = u := (aA.1 hi).2;have d1 : l.drop i = u :: l.drop (i + 1) := by rw [aS hil,e1]
  have d2 : l.drop k = v :: l.drop (k + 1) := by rw [aS hl,e2]
  have d3 : l.drop (i + 1) = (l.drop (i + 1)).take (k - (i + 1)) ++ v :: l.drop (k + 1) := by
    have : l.drop (i + 1) = (l.drop (i + 1)).take (k - (i + 1)) ++ (l.drop (i + 1)).drop (k - (i + 1)) := (bG _ _).symm;rw [EZ,show i + 1 + (k - (i + 1)) = k by omega,d2] at this
    exact this
  have e : l = l.take i ++ u :: ((l.drop (i + 1)).take (k - (i + 1)) ++ v :: l.drop (k + 1)) := by
    rw [← d3,← d1,bG]
  refine ⟨_,_,_,e,?_⟩;have ht : (l.take i).length = i := by rw [aU];omega
  have hq : ((l.drop (i + 1)).take (k - (i + 1))).length = k - (i + 1) := by rw [aU,dD];omega
  generalize l.take i = P at *;generalize (l.drop (i + 1)).take (k - (i + 1)) = Q at *;generalize l.drop (k + 1) = R at *;clear d1 d2 d3;subst e;rw [jQ _ _ (by omega),show i - P.length = 0 by omega,List.set_cons_zero,List.eraseIdx_append_of_length_le (by omega),show k - P.length = (k - (i + 1)) + 1 by omega,List.eraseIdx_cons_succ,List.eraseIdx_append_of_length_le (by omega),hq,eX,List.eraseIdx_cons_zero]
theorem WC (l : List Int) (n : Int) : WD l n = BB l n := by
  by_cases h : ∀ i,i < l.length → I0 l n i
  · rw [P4 h];unfold WD;exact bB.2 fun i hi => decide_eq_true (h i (fN.1 hi))
  · obtain ⟨i,hi⟩ := Classical.not_forall.1 h;obtain ⟨hi,ho⟩ := Classical.not_forall.1 hi;rw [BA hi ho];unfold WD;unfold I0 at ho;exact H3.2 ⟨i,fN.2 hi,fun q => ho (of_decide_eq_true q)⟩
theorem VO {p q : Prop} [Decidable p] [Decidable q] : decide (p ∧ q) = (decide p && decide q) := by simp
theorem oR (n k a b m : Int) (ids : List Int) : lZ n ⟨k,a,b,m,ids⟩ = (jS a 0 (n - 1) && decide (k = 0 ∨ ids.length = 0) && decide (k = 4 ∨ b = 0) && (if k = 0 then decide (m = 0) && BB ids n else if k = 1 ∨ k = 2 ∨ k = 3 then jS m 0 1099511627776 else if k = 4 then decide (m = 0) && jS b (a + 1) (n - 1) else if k = 5 then jS m 0 (n - 1) else false)) := by
  unfold lZ jS;simp only [VO,WC]
end Go.Ld
namespace Go.Proofs.YtbialaoigijlgaaGreatDoor
open Go Go.Ab Go.Ld
attribute [local irreducible] VC AW bV aO
set_option maxHeartbeats 4000000
theorem NK (n k a b m : Int) (ids : List Int) (hl : ids.length ≤ 9223372036854775807) (hn : 0 ≤ n ∧ n ≤ 1000) :
    aO Tryz.prog 34 [.i n,NF k a b m ids] [] (.b (lZ n ⟨k,a,b,m,ids⟩)) [] := by
  have hil : (ints ids).length = ids.length := by simp
  have ca := qC a 0 (n - 1);have cs := W6 ids n hl hn;cases hA : jS a 0 (n - 1)
  · rw [hA] at ca;have e : lZ n ⟨k,a,b,m,ids⟩ = (false) := by rw [oR];first | (rw [hA];rfl) | (rw [hAb];rcases h1 with h | h;(rw [decide_eq_false (by omega : ¬ (k = 0 ∨ ids.length = 0))];simp);(rw [decide_eq_false (by omega : ¬ (k = 4 ∨ b = 0))];simp)) | (rw [hAb,decide_eq_true hid,decide_eq_true hbz];simp only [iO];first | rw [if_pos k0] | rw [if_neg k0,if_pos k1] | rw [if_neg k0,if_neg k1,if_pos k4] | rw [if_neg k0,if_neg k1,if_neg k4,if_pos k5] | rw [if_neg k0,if_neg k1,if_neg k4,if_neg k5])
    rw [e];refine bK T Tryz.func34 rfl rfl rfl rfl ?_
    (repeat' (first|refine wS ?_|refine wR ?_|refine wT ?_|(refine rg 0 (bT (cQ rfl rfl) rfl (aV ?_)))|(refine rg 1 (hO T rfl (mW rfl (vV (cO rfl rfl (by omega) (by omega)) (vV (kC (ca)) (vV (eL rfl) (mV ?_))))));(iterate 4 refine gF ?_);(iterate 4 refine gU ?_);refine gF (pW rfl (mV ?_));(iterate 4 refine gF ?_);(iterate 3 refine gU ?_);refine gF (pV ?_))|(refine rg 2 (aV ?_))|refine nZ ?_));exact rQ
  · rw [hA] at ca;have hAb := hA;simp only [jS,aP,decide_eq_true_eq] at hA;by_cases h1 : k ≠ 0 ∧ 0 < ids.length ∨ k ≠ 4 ∧ b ≠ 0
    · have e : lZ n ⟨k,a,b,m,ids⟩ = (false) := by rw [oR];first | (rw [hA];rfl) | (rw [hAb];rcases h1 with h | h;(rw [decide_eq_false (by omega : ¬ (k = 0 ∨ ids.length = 0))];simp);(rw [decide_eq_false (by omega : ¬ (k = 4 ∨ b = 0))];simp)) | (rw [hAb,decide_eq_true hid,decide_eq_true hbz];simp only [iO];first | rw [if_pos k0] | rw [if_neg k0,if_pos k1] | rw [if_neg k0,if_neg k1,if_pos k4] | rw [if_neg k0,if_neg k1,if_neg k4,if_pos k5] | rw [if_neg k0,if_neg k1,if_neg k4,if_neg k5])
      rw [e];refine bK T Tryz.func34 rfl rfl rfl rfl ?_
      (repeat' (first|refine wS ?_|refine wR ?_|refine wT ?_|(refine wC rfl ?_ ?_<;>(intro hb;(try simp only [nm] at hb);try (exfalso;omega)))|(refine rg 0 (bT (cQ rfl rfl) rfl (aV ?_)))|(refine rg 1 (hO T rfl (mW rfl (vV (cO rfl rfl (by omega) (by omega)) (vV (kC (ca)) (vV (eL rfl) (mW rfl (yP T rfl (yO T rfl (yV (fF rfl rfl) ?_)))))))));refine yM ?_;refine cC rfl rfl ?_ ?_<;>(intro hb;rw [hb];(try simp only [nm] at hb);try (exfalso;omega));(all_goals first|(refine gT (fW T rfl (gT (lW T rfl (gT (qW T rfl (gT (vV (fU rfl rfl) ?_))))))))|(iterate 4 refine gF ?_));(all_goals (refine gT (pW rfl (pW rfl (mV ?_)))));(all_goals first|(refine gK ?_)|(refine cC rfl rfl ?_ ?_<;>(intro hb;rw [hb];(try simp only [nm] at hb);try (exfalso;omega))));(all_goals first|(refine gT (fW T rfl (gT (lW T rfl (gT (vV (fF rfl rfl) (gT (mV ?_))))))))|(iterate 4 refine gF ?_));(all_goals first|(refine gK ?_)|(refine cC rfl rfl ?_ ?_<;>(intro hb;rw [hb];(try simp only [nm] at hb);try (exfalso;omega))));(all_goals first|(refine gT (fW T rfl (gT (lW T rfl (gT (vV (fF rfl rfl) ?_))))))|(iterate 3 refine gU ?_));(all_goals first|(refine gT (pV ?_))|(refine gF ?_));(all_goals (refine pV ?_)))|(refine rg 2 (aV ?_))|refine nZ ?_));all_goals exact rQ
    · have hid : k = 0 ∨ ids.length = 0 := by omega
      have hbz : k = 4 ∨ b = 0 := by omega
      by_cases k0 : k = 0
      · have e : lZ n ⟨k,a,b,m,ids⟩ = (decide (m = 0) && BB ids n) := by rw [oR];first | (rw [hA];rfl) | (rw [hAb];rcases h1 with h | h;(rw [decide_eq_false (by omega : ¬ (k = 0 ∨ ids.length = 0))];simp);(rw [decide_eq_false (by omega : ¬ (k = 4 ∨ b = 0))];simp)) | (rw [hAb,decide_eq_true hid,decide_eq_true hbz];simp only [iO];first | rw [if_pos k0] | rw [if_neg k0,if_pos k1] | rw [if_neg k0,if_neg k1,if_pos k4] | rw [if_neg k0,if_neg k1,if_neg k4,if_pos k5] | rw [if_neg k0,if_neg k1,if_neg k4,if_neg k5])
        rw [e];refine bK T Tryz.func34 rfl rfl rfl rfl ?_
        (repeat' (first|refine wS ?_|refine wB ?_|refine wK ?_|refine wR ?_|(refine wC rfl ?_ ?_<;>(intro hb;(try simp only [nm] at hb);try (exfalso;omega)))|(refine rg 0 (bT (cQ rfl rfl) rfl (aV ?_)))|(refine rg 1 (hO T rfl (mW rfl (vV (cO rfl rfl (by omega) (by omega)) (vV (kC (ca)) (vV (eL rfl) (mW rfl (yP T rfl (yO T rfl (yV (fF rfl rfl) ?_)))))))));refine yM ?_;refine cC rfl rfl ?_ ?_<;>(intro hb;rw [hb];(try simp only [nm] at hb);try (exfalso;omega));(all_goals ((iterate 4 refine gF ?_);refine gT (pW rfl (pW rfl (mW rfl (yP T rfl (yO T rfl (yV (fF rfl rfl) (yM ?_)))))));refine cC rfl rfl ?_ ?_<;>(intro hb;rw [hb];(try simp only [nm] at hb);try (exfalso;omega))));(all_goals (refine yP T rfl (yO T rfl (yV (fF rfl rfl) (gT (pW rfl (pV ?_))))))))|(refine rg 3 (PW T ?_))|(refine rg 4 (vV (eW rfl rfl) (aV ?_)))|(refine rg 5 (hO T rfl (vV (eW rfl rfl) (mV ?_)));refine cC rfl rfl ?_ ?_<;>(intro hb;rw [hb];(try simp only [nm] at hb);try (exfalso;omega));(all_goals first|(refine gT (fW T rfl (gT (lW T rfl (gT (mW rfl (gT (vV (kC (cs)) ?_))))))))|(iterate 4 refine gF ?_));(all_goals (refine pW rfl (aV ?_))))|refine nZ ?_));all_goals first | (exfalso;omega) | (refine cY (.inl rfl) rfl (lS ?_);simp [*])
      · by_cases k1 : k = 1 ∨ k = 2 ∨ k = 3
        · have e : lZ n ⟨k,a,b,m,ids⟩ = (jS m 0 1099511627776) := by rw [oR];first | (rw [hA];rfl) | (rw [hAb];rcases h1 with h | h;(rw [decide_eq_false (by omega : ¬ (k = 0 ∨ ids.length = 0))];simp);(rw [decide_eq_false (by omega : ¬ (k = 4 ∨ b = 0))];simp)) | (rw [hAb,decide_eq_true hid,decide_eq_true hbz];simp only [iO];first | rw [if_pos k0] | rw [if_neg k0,if_pos k1] | rw [if_neg k0,if_neg k1,if_pos k4] | rw [if_neg k0,if_neg k1,if_neg k4,if_pos k5] | rw [if_neg k0,if_neg k1,if_neg k4,if_neg k5])
          rw [e];refine bK T Tryz.func34 rfl rfl rfl rfl ?_
          (repeat' (first|refine wS ?_|refine wB ?_|refine wK ?_|refine wR ?_|(refine wC rfl ?_ ?_<;>(intro hb;(try simp only [nm] at hb);try (exfalso;omega)))|(refine rg 0 (bT (cQ rfl rfl) rfl (aV ?_)))|(refine rg 1 (hO T rfl (mW rfl (vV (cO rfl rfl (by omega) (by omega)) (vV (kC (ca)) (vV (eL rfl) (mW rfl (yP T rfl (yO T rfl (yV (fF rfl rfl) ?_)))))))));refine yM ?_;refine cC rfl rfl ?_ ?_<;>(intro hb;rw [hb];(try simp only [nm] at hb);try (exfalso;omega));(all_goals (refine yP T rfl (yO T rfl (gT (qW T rfl (yV (fU rfl rfl) (gT (pW rfl (pW rfl (mV ?_))))))));refine cC rfl rfl ?_ ?_<;>(intro hb;rw [hb];(try simp only [nm] at hb);try (exfalso;omega))));(all_goals (refine yP T rfl (yO T rfl (yV (fF rfl rfl) (yM ?_)));refine cC rfl rfl ?_ ?_<;>(intro hb;rw [hb];(try simp only [nm] at hb);try (exfalso;omega))));(all_goals (refine yP T rfl (yO T rfl (yV (fF rfl rfl) (gT (pW rfl (pV ?_))))))))|(refine rg 3 (PW T ?_))|(refine rg 4 (vV (eW rfl rfl) (aV ?_)))|(refine rg 6 (vV (eW rfl rfl) (aV ?_)))|(refine rg 7 (vV (eW rfl rfl) (aV ?_)))|(refine rg 8 (vV (eW rfl rfl) (aV ?_)))|(refine rg 9 (hO T rfl (vV (by exact eQ rfl rfl (qC _ _ _) rfl rfl rfl) ?_));refine aV ?_)|refine nZ ?_));all_goals first | (exfalso;omega) | exact rQ
        · by_cases k4 : k = 4
          · have e : lZ n ⟨k,a,b,m,ids⟩ = (decide (m = 0) && jS b (a + 1) (n - 1)) := by rw [oR];first | (rw [hA];rfl) | (rw [hAb];rcases h1 with h | h;(rw [decide_eq_false (by omega : ¬ (k = 0 ∨ ids.length = 0))];simp);(rw [decide_eq_false (by omega : ¬ (k = 4 ∨ b = 0))];simp)) | (rw [hAb,decide_eq_true hid,decide_eq_true hbz];simp only [iO];first | rw [if_pos k0] | rw [if_neg k0,if_pos k1] | rw [if_neg k0,if_neg k1,if_pos k4] | rw [if_neg k0,if_neg k1,if_neg k4,if_pos k5] | rw [if_neg k0,if_neg k1,if_neg k4,if_neg k5])
            rw [e];refine bK T Tryz.func34 rfl rfl rfl rfl ?_
            (repeat' (first|refine wS ?_|refine wB ?_|refine wK ?_|refine wR ?_|refine wU ?_|(refine wC rfl ?_ ?_<;>(intro hb;(try simp only [nm] at hb);try (exfalso;omega)))|(refine rg 0 (bT (cQ rfl rfl) rfl (aV ?_)))|(refine rg 1 (hO T rfl (mW rfl (vV (cO rfl rfl (by omega) (by omega)) (vV (kC (ca)) (vV (eL rfl) (mW rfl (yP T rfl (yO T rfl (yV (fF rfl rfl) ?_)))))))));refine yM ?_;refine cC rfl rfl ?_ ?_<;>(intro hb;rw [hb];(try simp only [nm] at hb);try (exfalso;omega));(all_goals (refine yP T rfl (yO T rfl (gT (qW T rfl (yV (fU rfl rfl) (gT (pW rfl (pW rfl (mV ?_))))))));refine cC rfl rfl ?_ ?_<;>(intro hb;rw [hb];(try simp only [nm] at hb);try (exfalso;omega))));(all_goals (refine yP T rfl (yO T rfl (yV (fF rfl rfl) (yM ?_)));refine cC rfl rfl ?_ ?_<;>(intro hb;rw [hb];(try simp only [nm] at hb);try (exfalso;omega))));(all_goals ((iterate 3 refine gF ?_);refine gT (pW rfl (pV ?_)))))|(refine rg 3 (PW T ?_))|(refine rg 4 (vV (eW rfl rfl) (aV ?_)))|(refine rg 6 (vV (eW rfl rfl) (aV ?_)))|(refine rg 7 (vV (eW rfl rfl) (aV ?_)))|(refine rg 8 (vV (eW rfl rfl) (aV ?_)))|(refine rg 10 (vV (eW rfl rfl) (aV ?_)))|(refine rg 11 (hO T rfl (vV (eW rfl rfl) (mV ?_)));refine cC rfl rfl ?_ ?_<;>(intro hb;rw [hb];(try simp only [nm] at hb);try (exfalso;omega));(all_goals first|(refine gT (fW T rfl (gT (lW T rfl (gT (fW T rfl (gT (lW T rfl (gT (vV (bS rfl rfl (by omega) (by omega)) ?_)))))))));refine gT (mW rfl (gT (vV (cO rfl rfl (by omega) (by omega)) (gT (vV (by exact eQ rfl rfl (qC _ _ _) rfl rfl rfl) ?_))))))|(iterate 8 refine gF ?_));(all_goals (refine pW rfl (aV ?_))))|refine nZ ?_));all_goals first | (exfalso;omega) | (refine cY (.inl rfl) rfl (lS ?_);simp [*])
          · by_cases k5 : k = 5
            · have e : lZ n ⟨k,a,b,m,ids⟩ = (jS m 0 (n - 1)) := by rw [oR];first | (rw [hA];rfl) | (rw [hAb];rcases h1 with h | h;(rw [decide_eq_false (by omega : ¬ (k = 0 ∨ ids.length = 0))];simp);(rw [decide_eq_false (by omega : ¬ (k = 4 ∨ b = 0))];simp)) | (rw [hAb,decide_eq_true hid,decide_eq_true hbz];simp only [iO];first | rw [if_pos k0] | rw [if_neg k0,if_pos k1] | rw [if_neg k0,if_neg k1,if_pos k4] | rw [if_neg k0,if_neg k1,if_neg k4,if_pos k5] | rw [if_neg k0,if_neg k1,if_neg k4,if_neg k5])
              rw [e];refine bK T Tryz.func34 rfl rfl rfl rfl ?_
              (repeat' (first|refine wS ?_|refine wB ?_|refine wK ?_|refine wR ?_|(refine wC rfl ?_ ?_<;>(intro hb;(try simp only [nm] at hb);try (exfalso;omega)))|(refine rg 0 (bT (cQ rfl rfl) rfl (aV ?_)))|(refine rg 1 (hO T rfl (mW rfl (vV (cO rfl rfl (by omega) (by omega)) (vV (kC (ca)) (vV (eL rfl) (mW rfl (yP T rfl (yO T rfl (yV (fF rfl rfl) ?_)))))))));refine yM ?_;refine cC rfl rfl ?_ ?_<;>(intro hb;rw [hb];(try simp only [nm] at hb);try (exfalso;omega));(all_goals (refine yP T rfl (yO T rfl (gT (qW T rfl (yV (fU rfl rfl) (gT (pW rfl (pW rfl (mV ?_))))))));refine cC rfl rfl ?_ ?_<;>(intro hb;rw [hb];(try simp only [nm] at hb);try (exfalso;omega))));(all_goals (refine yP T rfl (yO T rfl (yV (fF rfl rfl) (yM ?_)));refine cC rfl rfl ?_ ?_<;>(intro hb;rw [hb];(try simp only [nm] at hb);try (exfalso;omega))));(all_goals (refine yP T rfl (yO T rfl (yV (fF rfl rfl) (gT (pW rfl (pV ?_))))))))|(refine rg 3 (PW T ?_))|(refine rg 4 (vV (eW rfl rfl) (aV ?_)))|(refine rg 6 (vV (eW rfl rfl) (aV ?_)))|(refine rg 7 (vV (eW rfl rfl) (aV ?_)))|(refine rg 8 (vV (eW rfl rfl) (aV ?_)))|(refine rg 10 (vV (eW rfl rfl) (aV ?_)))|(refine rg 12 (vV (eW rfl rfl) (aV ?_)))|(refine rg 13 (hO T rfl (mW rfl (vV (cO rfl rfl (by omega) (by omega)) (vV (by exact eQ rfl rfl (qC _ _ _) rfl rfl rfl) ?_))));refine aV ?_)|refine nZ ?_));all_goals first | (exfalso;omega) | exact rQ
            · have e : lZ n ⟨k,a,b,m,ids⟩ = (false) := by rw [oR];first | (rw [hA];rfl) | (rw [hAb];rcases h1 with h | h;(rw [decide_eq_false (by omega : ¬ (k = 0 ∨ ids.length = 0))];simp);(rw [decide_eq_false (by omega : ¬ (k = 4 ∨ b = 0))];simp)) | (rw [hAb,decide_eq_true hid,decide_eq_true hbz];simp only [iO];first | rw [if_pos k0] | rw [if_neg k0,if_pos k1] | rw [if_neg k0,if_neg k1,if_pos k4] | rw [if_neg k0,if_neg k1,if_neg k4,if_pos k5] | rw [if_neg k0,if_neg k1,if_neg k4,if_neg k5])
              rw [e];refine bK T Tryz.func34 rfl rfl rfl rfl ?_
              (repeat' (first|refine wS ?_|refine wB ?_|refine wK ?_|refine wR ?_|(refine wC rfl ?_ ?_<;>(intro hb;(try simp only [nm] at hb);try (exfalso;omega)))|(refine rg 0 (bT (cQ rfl rfl) rfl (aV ?_)))|(refine rg 1 (hO T rfl (mW rfl (vV (cO rfl rfl (by omega) (by omega)) (vV (kC (ca)) (vV (eL rfl) (mW rfl (yP T rfl (yO T rfl (yV (fF rfl rfl) ?_)))))))));refine yM ?_;refine cC rfl rfl ?_ ?_<;>(intro hb;rw [hb];(try simp only [nm] at hb);try (exfalso;omega));(all_goals (refine yP T rfl (yO T rfl (gT (qW T rfl (yV (fU rfl rfl) (gT (pW rfl (pW rfl (mV ?_))))))));refine cC rfl rfl ?_ ?_<;>(intro hb;rw [hb];(try simp only [nm] at hb);try (exfalso;omega))));(all_goals (refine yP T rfl (yO T rfl (yV (fF rfl rfl) (yM ?_)));refine cC rfl rfl ?_ ?_<;>(intro hb;rw [hb];(try simp only [nm] at hb);try (exfalso;omega))));(all_goals (refine yP T rfl (yO T rfl (yV (fF rfl rfl) (gT (pW rfl (pV ?_))))))))|(refine rg 3 (PW T ?_))|(refine rg 4 (vV (eW rfl rfl) (aV ?_)))|(refine rg 6 (vV (eW rfl rfl) (aV ?_)))|(refine rg 7 (vV (eW rfl rfl) (aV ?_)))|(refine rg 8 (vV (eW rfl rfl) (aV ?_)))|(refine rg 10 (vV (eW rfl rfl) (aV ?_)))|(refine rg 12 (vV (eW rfl rfl) (aV ?_)))|(refine rg 14 (aV ?_))|refine nZ ?_));all_goals first | (exfalso;omega) | exact rQ
end Go.Proofs.YtbialaoigijlgaaGreatDoor
namespace Go.Ld
open Go.Ab Go.Proofs.YtbialaoigijlgaaGreatDoor
theorem AD {l : List Int} (h : l ≠ []) : l.headD 0 ∈ l := by
  cases l with
  | nil => exact absurd rfl h
  | cons x l => exact bA
theorem PM {l : List Int} (h : l.Pairwise (· < ·)) {z : Int} (hz : z ∈ l) : l.headD 0 ≤ z := by
  cases l with
  | nil => cases hz
  | cons x l =>
    rcases bX.1 hz with rfl | hz
    · exact kJ _
    · have := (eS.1 h).1 z hz;show x ≤ z;omega
theorem WX {a b : Int} : cI a b ≤ 0 ↔ a ≤ b := by unfold cI;split <;> (try split) <;> omega
theorem yX {l : List G} : ER l ↔ (l.map fun g => g.1.headD 0).Pairwise (fun a b => a ≤ b) := by
  rw [SF];exact ⟨fun h => h.imp fun {a b} h => WX.1 h,fun h => h.imp fun {a b} h => WX.2 h⟩
theorem HP {c : Cx} {M : Int} {gs P Q R : List G} {u v J : G} (h : oM c M gs) (e : gs = P ++ u :: (Q ++ v :: R)) (hM : 0 ≤ M) {M' : Int} (hMM : M ≤ M')
    (hp : J.1.Perm (u.1 ++ v.1)) (hJ : H4 c.bs.length J) (hne : J.2 ≠ []) (hf : (iH J).1.Perm ((iH u).1 ++ (iH v).1)) (hm : ∀ w,w ∈ J.2 → w.2.1 ≤ M') (hl : J.2.length ≤ 1000) : oM c M' (P ++ J :: (Q ++ R)) := by
  have hmem : ∀ g,g ∈ P ++ J :: (Q ++ R) → g = J ∨ g ∈ gs := fun g hg => by
    subst e;simp only [bQ,bX] at hg ⊢;rcases hg with hg | hg | hg | hg
    · exact .inr (.inl hg)
    · exact .inl hg
    · exact .inr (.inr (.inr (.inl hg)))
    · exact .inr (.inr (.inr (.inr (.inr hg))))
  have fl : ∀ F : G → List Int,(F J).Perm (F u ++ F v) → ((P ++ J :: (Q ++ R)).flatMap F).Perm (gs.flatMap F) := fun F hF => by
    subst e;simp only [fR,cD,bD];refine List.Perm.append_left _ ?_;refine (hF.append_right _).trans ?_;rw [bD];refine List.Perm.append_left _ ?_;rw [← bD,← bD];exact List.perm_append_comm.append_right _
  have cov := (fl (·.1) hp).trans h.cov;have hlen : (gs.flatMap (·.1)).length = ((P ++ J :: (Q ++ R)).flatMap (·.1)).length := (fl (·.1) hp).length_eq.symm;refine ⟨⟨fun g hg => ?_,(fl (·.1) hp).nodup_iff.2 h.out.nd,by rw [← hlen];exact h.out.ln,fun g hg => ?_⟩,?_,fun g hg => ?_,fun g hg => ?_,cov,(fl _ hf).trans h.idn,fun g hg => ?_⟩
  · rcases hmem g hg with rfl | hg
    · exact hJ
    · exact h.out.ok g hg
  · rcases hmem g hg with rfl | hg
    · omega
    · exact h.out.ws g hg
  · have hu : u ∈ gs := by subst e;simp
    have hv : v ∈ gs := by subst e;simp
    have hup := yX.1 h.up;have ou := h.out.ok u hu;have ov := h.out.ok v hv;have huv : u.1.headD 0 ≤ v.1.headD 0 := by
      subst e;simp only [dB,List.map_cons] at hup;exact (eS.1 (eU.1 hup).2.1).1 _ (by simp)
    have hh : J.1.headD 0 = u.1.headD 0 := by
      have h1 : J.1.headD 0 ≤ u.1.headD 0 := PM hJ.up (hp.mem_iff.2 (bQ.2 (.inl (AD ou.ne))));have h2 : u.1.headD 0 ≤ J.1.headD 0 := by
        rcases bQ.1 (hp.mem_iff.1 (AD hJ.ne)) with hq | hq
        · exact PM ou.up hq
        · have := PM ov.up hq;omega
      omega
    refine yX.2 (hup.sublist ?_);subst e;simp only [dB,List.map_cons,hh];refine List.Sublist.append_left (List.Sublist.cons_cons _ (List.Sublist.append_left (List.sublist_cons_self _ _) _)) _
  · rcases hmem g hg with rfl | hg
    · exact hne
    · exact h.ne g hg
  · rcases hmem g hg with rfl | hg
    · exact hm
    · exact fun w hw => Int.le_trans (h.ml g hg w hw) hMM
  · rcases hmem g hg with rfl | hg
    · exact hl
    · exact h.wl g hg
theorem OZ {c : Cx} {gs all : List G} {a b : Int} (h : oM c c.m gs) (hm0 : 0 ≤ c.m) (hm1 : c.m ≤ 1048576) (ha : 0 ≤ a ∧ a < c.bs.length) (hb : 0 ≤ b ∧ b < c.bs.length) (e : join gs a b = some all) :
    oM c (2 * c.m) all ∧ ∃ g,g ∈ all ∧ a ∈ g.1 ∧ b ∈ g.1 := by
  obtain ⟨i,x,hi,hix,hax⟩ := kB (h.find ha);obtain ⟨k,y,hk,hky,hby⟩ := kB (h.find hb);have hx := aM hix;have hy := aM hky;unfold join at e;dsimp only at e;rw [hi,hk] at e;split at e
  · rename_i hik;obtain rfl : i = k := by omega
    cases e;have : x = y := by rw [hix] at hky;exact Option.some.inj hky
    subst this;exact ⟨⟨h.out,h.up,h.ne,fun g hg w hw => by have := h.ml g hg w hw;omega,h.cov,h.idn,h.wl⟩,x,hx,hax,hby⟩
  · rename_i hik;have hxy : x ≠ y := fun q => by
      subst q;have h1 := (aA.1 hix).2;have h2 := (aA.1 hky).2;have l1 := (aA.1 hix).1;have l2 := (aA.1 hky).1;have nd : (gs.map fun g => g.1.headD 0).Nodup := by
        have := h.out.nd;have aux : ∀ o : List G,(∀ g,g ∈ o → g.1 ≠ []) → (o.flatMap (·.1)).Nodup → (o.map fun g => g.1.headD 0).Nodup := by
          intro o
          induction o with
          | nil => intro _ _;exact cX
          | cons g o ih =>
            intro hg hn;rw [cD] at hn;obtain ⟨n1,n2,n3⟩ := gI.1 hn;rw [List.map_cons,fD];refine ⟨fun hc => ?_,ih (fun g h => hg g (aY _ h)) n2⟩;obtain ⟨g',hg',e'⟩ := bM.1 hc;exact n3 _ (AD (hg g bA)) _ (vU hg' (e' ▸ AD (hg g' (aY _ hg')))) rfl
        exact aux gs (fun g hg => (h.out.ok g hg).ne) this
      have e1 : (gs.map fun g => g.1.headD 0)[i]'(by simpa using l1) = (gs.map fun g => g.1.headD 0)[k]'(by simpa using l2) := by rw [Q3,Q3,h1,h2]
      have := (List.getElem_inj nd).1 e1;omega
    have gi : mX gs ((i : Int)).toNat = x := by unfold mX;rw [aC];show (gs[i]?).getD _ = x;rw [hix];rfl
    have gk : mX gs ((k : Int)).toNat = y := by unfold mX;rw [aC];show (gs[k]?).getD _ = y;rw [hky];rfl
    rw [gi,gk] at e;split at e
    · cases e
    · rename_i hsz;have hln : x.1.length + y.1.length ≤ 6 := by omega
      have hwl : x.2.length * y.2.length ≤ 1000 := by omega
      cases e;have dj : ∀ (u v : G),u ∈ gs → v ∈ gs → u ≠ v → ∀ b,b ∈ u.1 → b ∉ v.1 := fun u v hu hv huv b h1 h2 => huv (zF h.out.nd hu hv h1 h2);have ndi : (gs.flatMap fun g => (iH g).1).Nodup := h.idn.nodup_iff.2 (Z3 _);have ndi' : ((gs.map fun g => ((iH g).1,g.2)).flatMap (·.1)).Nodup := by rw [Q4];exact ndi
      have jo : yQ c.bs.length x y := by
        refine ⟨h.out.ok x hx,h.out.ok y hy,h.ne x hx,h.ne y hy,dj x y hx hy hxy,fun b h1 h2 => ?_,hln⟩
        have l1 := (aA.1 hix).1;have l2 := (aA.1 hky).1;rcases nY (show i ≠ k by omega) with hlt | hlt
        · obtain ⟨P,Q,R,e1,-⟩ := wW x hlt hix hky;rw [e1] at ndi;simp only [fR,cD] at ndi;exact (gI.1 (gI.1 ndi).2.1).2.2 b h1 b (by simp [h2]) rfl
        · obtain ⟨P,Q,R,e1,-⟩ := wW y hlt hky hix;rw [e1] at ndi;simp only [fR,cD] at ndi;exact (gI.1 (gI.1 ndi).2.1).2.2 b h2 b (by simp [h1]) rfl
      have hJ := jo.ok (h.ml x hx) (h.ml y hy) (by omega)
      have hJn := PA (h.ne x hx) (h.ne y hy);have hJf := jo.same (iR hJn);have hJm : ∀ w,w ∈ (pE x y).2 → w.2.1 ≤ 2 * c.m := fun w hw => by
        obtain ⟨u,v,hu,hv,rfl⟩ := D1 hw;have := h.ml x hx u hu;have := h.ml y hy v hv;show u.2.1 + v.2.1 ≤ _;omega
      have hJp := mA x y;have hJl : (pE x y).2.length ≤ 1000 := by rw [KR];exact hwl
      have hJa : a ∈ (pE x y).1 := hJp.mem_iff.2 (bQ.2 (.inl hax));have hJb : b ∈ (pE x y).1 := hJp.mem_iff.2 (bQ.2 (.inr hby));generalize pE x y = J at *;rcases nY (show i ≠ k by omega) with hlt | hlt
      · obtain ⟨P,Q,R,e1,e2⟩ := wW J hlt hix hky;rw [show (min (i : Int) (k : Int)).toNat = i by omega,show (max (i : Int) (k : Int)).toNat = k by omega,e2]
        exact ⟨HP h e1 hm0 (by omega) hJp hJ hJn hJf hJm hJl,J,by simp,hJa,hJb⟩
      · obtain ⟨P,Q,R,e1,e2⟩ := wW J hlt hky hix;rw [show (min (i : Int) (k : Int)).toNat = k by omega,show (max (i : Int) (k : Int)).toNat = i by omega,e2]
        exact ⟨HP h e1 hm0 (by omega) (hJp.trans uS) hJ hJn (hJf.trans uS) hJm hJl,J,by simp,hJa,hJb⟩
theorem IV {f t : Int} (h : (R5 f t).2 = true) : RU (R5 f t).1 := by
  have := EB f t;unfold R5 at h ⊢;unfold RU;dsimp only at h ⊢;rcases this with ⟨h1,h2,h3,h4⟩ | ⟨h1,_⟩
  · rw [h2,h3];omega
  · rw [h1] at h;cases h
theorem JI {t u w e : Int} {r : SP} (h : (K1 t u w e r).2 = true) : RU (K1 t u w e r).1 := by
  unfold K1 at h ⊢;dsimp only at h ⊢;split at h
  · rename_i hq;rw [if_pos hq];exact IV h
  · rename_i hq;exact absurd h hq
theorem NZ {n s : Int} {r : SP} (h : (zE r n s).2 = true) : RU (zE r n s).1 := by
  unfold zE at h ⊢;split at h
  · rename_i hq;rw [if_pos hq];exact IV h
  · cases h
theorem BF.sC {n q : Nat} {w : W} (h : BF n q w) {i : Nat} {r : SP} (hr : RU r) : BF n q (sC w i r) where
  pl := h.pl
  cl := by show (w.2.2.set i r).length = q;rw [fX];exact h.cl
  pr := h.pr
  nd := h.nd
  m0 := h.m0
  m1 := h.m1
  sp x hx := by
    rcases iK hx with hx | rfl
    · exact h.sp x hx
    · exact hr
theorem LX {c : Cx} {n q : Nat} {w : W} {i : Nat} {s : Ev} (h : BF n q w) (hi : i < q) (hs : 0 ≤ s.n) (hm : w.2.1 ≤ 3000000) (hb : (jP c w i s).2 = true) : BF n q (jP c w i s).1 ∧ (jP c w i s).1.1 = w.1 ∧ (jP c w i s).1.2.1 ≤ w.2.1 + 1 := by
  obtain ⟨g1,g2,g3⟩ := h.at hi;unfold jP at hb ⊢;by_cases k0 : s.k = 0
  · rw [if_pos k0] at hb ⊢;split
    · exact ⟨h,rfl,by dsimp only;omega⟩
    · exact ⟨⟨h.pl,h.cl,h.pr,h.nd,by have := h.m0;dsimp only;omega,by dsimp only;omega,h.sp⟩,rfl,by dsimp only;omega⟩
  rw [if_neg k0] at hb ⊢;by_cases k1 : s.k = 1
  · rw [if_pos k1] at hb ⊢;dsimp only at hb ⊢;exact ⟨h.sC (JI hb),rfl,by show w.2.1 ≤ _;omega⟩
  rw [if_neg k1] at hb ⊢;by_cases k2 : s.k = 2
  · rw [if_pos k2] at hb ⊢;dsimp only at hb ⊢;exact ⟨h.sC (NZ hb),rfl,by show w.2.1 ≤ _;omega⟩
  rw [if_neg k2] at hb ⊢;by_cases k3 : s.k = 3
  · rw [if_pos k3] at hb ⊢;dsimp only at hb ⊢;unfold DM at hb;simp only [aP,decide_eq_true_eq] at hb;unfold RU at g3;exact ⟨h.sC (show RU (s.n,s.n + 1) from ⟨by dsimp only;omega,by dsimp only;omega,by dsimp only;omega⟩),rfl,by show w.2.1 ≤ _;omega⟩
  rw [if_neg k3] at hb ⊢;split
  · exact ⟨h,rfl,by dsimp only;omega⟩
  · exact ⟨h,rfl,by dsimp only;omega⟩
theorem S9 {α : Type} {l : List α} {i k : Nat} {d : α} (hi : i < l.length) (hk : k < l.length) : ((l.set i (l.getD k d)).set k (l.getD i d)).Perm l := by
  have e1 : l.getD k d = l[k] := by rw [aC,aB hk];rfl
  have e2 : l.getD i d = l[i] := by rw [aC,aB hi];rfl
  rw [e1,e2];exact List.set_set_perm hi hk
theorem VI {n q : Nat} {w : W} {i k : Nat} (h : BF n q w) (hi : i < q) (hk : k < q) : BF n q (D7 w i k) ∧ (D7 w i k).1.Perm w.1 := by
  have p1 : (D7 w i k).1.Perm w.1 := S9 (by rw [h.pl];exact hi) (by rw [h.pl];exact hk)
  have p2 : (D7 w i k).2.2.Perm w.2.2 := S9 (by rw [h.cl];exact hi) (by rw [h.cl];exact hk)
  exact ⟨⟨p1.length_eq.trans h.pl,p2.length_eq.trans h.cl,fun x hx => h.pr x (p1.mem_iff.1 hx),p1.nodup_iff.2 h.nd,h.m0,h.m1,fun r hr => h.sp r (p2.mem_iff.1 hr)⟩,p1⟩
theorem DB {c : Cx} {M : Int} {gs : List G} (h : oM c M gs) (hM : M ≤ 2200000) {g : G} (hg : g ∈ gs) {s : Ev} (hs : 0 ≤ s.n) (ha : s.a ∈ g.1) (hb : s.k = 4 → s.b ∈ g.1) {w : W} (hw : w ∈ pC c s g) : BF c.bs.length g.1.length w ∧ w.1.Perm (iH g).1 ∧ w.2.1 ≤ M + 1 := by
  have og := h.out.ok g hg;obtain ⟨v,hv,hw⟩ := nF.1 hw;have ov := og.ws v hv;have hvm := h.ml g hg v hv;have hp := og.same v _ hv (iR (h.ne g hg));obtain ⟨hi,_⟩ := Z7 ha;rcases bQ.1 hw with hw | hw
  · split at hw
    · rename_i hbt;obtain rfl := dR.1 hw;obtain ⟨h1,h2,h3⟩ := LX ov hi hs (by omega) hbt
      exact ⟨h1,h2 ▸ hp,by omega⟩
    · cases hw
  · split at hw
    · rename_i hk;obtain rfl := dR.1 hw;obtain ⟨hj,_⟩ := Z7 (hb hk);obtain ⟨h1,h2⟩ := VI ov hi hj;exact ⟨h1,h2.trans hp,by show v.2.1 ≤ _;omega⟩
    · cases hw
theorem KH {c : Cx} {s : Ev} {g : G} : (pC c s g).length ≤ 2 * g.2.length := by
  unfold pC;dsimp only
  induction g.2 with
  | nil => simp
  | cons w l ih =>
    rw [cD,aD,List.length_cons,aD];have h1 : ∀ {p : Prop} [Decidable p] {x : W},(if p then [x] else []).length ≤ 1 := by
      intro p _ x;split <;> simp
    have := @h1 ((jP c w (g.1.idxOf s.a) s).2 = true) _ (jP c w (g.1.idxOf s.a) s).1;have := @h1 (s.k = 4) _ (D7 w (g.1.idxOf s.a) (g.1.idxOf s.b));omega
theorem TQ {c : Cx} {M M' : Int} {gs : List G} (h : oM c M gs) {i : Nat} {g : G} (hi : gs[i]? = some g) {ws : List W} (hne : ws ≠ []) (hl : ws.length ≤ 1000) (hM : M ≤ M')
    (hw : ∀ w,w ∈ ws → BF c.bs.length g.1.length w ∧ w.1.Perm (iH g).1 ∧ w.2.1 ≤ M') : oM c M' (gs.set i (g.1,ws)) := by
  have hg := aM hi;have og := h.out.ok g hg;obtain ⟨A,B,e1,e2⟩ := sA (y := (g.1,ws)) hi;rw [e2];subst e1;have hmem : ∀ x,x ∈ A ++ (g.1,ws) :: B → x = (g.1,ws) ∨ x ∈ A ++ g :: B := fun x hx => by
    simp only [bQ,bX] at hx ⊢;rcases hx with hx | hx | hx
    · exact .inr (.inl hx)
    · exact .inl hx
    · exact .inr (.inr (.inr hx))
  have hbod : ((A ++ (g.1,ws) :: B).flatMap (·.1)) = ((A ++ g :: B).flatMap (·.1)) := by simp only [fR,cD]
  have hf := (hw _ (iR (g := (g.1,ws)) hne)).2.1;have ok : H4 c.bs.length (g.1,ws) := ⟨og.ne,og.up,og.rg,og.ln,fun w h => (hw w h).1,fun w v h1 h2 => (hw w h1).2.1.trans (hw v h2).2.1.symm⟩;refine ⟨⟨fun x hx => ?_,by rw [hbod];exact h.out.nd,by rw [hbod];exact h.out.ln,fun x hx => ?_⟩,?_,fun x hx => ?_,fun x hx => ?_,by rw [hbod];exact h.cov,?_,fun x hx => ?_⟩
  · rcases hmem x hx with rfl | hx
    · exact ok
    · exact h.out.ok x hx
  · rcases hmem x hx with rfl | hx
    · show ws.length ≤ 2000;omega
    · exact h.out.ws x hx
  · have := yX.1 h.up;refine yX.2 ?_;simp only [dB,List.map_cons] at this ⊢;exact this
  · rcases hmem x hx with rfl | hx
    · exact hne
    · exact h.ne x hx
  · rcases hmem x hx with rfl | hx
    · exact fun w hw' => (hw w hw').2.2
    · exact fun w hw' => Int.le_trans (h.ml x hx w hw') hM
  · refine List.Perm.trans ?_ h.idn;simp only [fR,cD];exact List.Perm.append_left _ (hf.append_right _)
  · rcases hmem x hx with rfl | hx
    · exact hl
    · exact h.wl x hx
theorem CR {g : G} {k : Nat} {w : W} (h : w ∈ (jM g k).2) : ∃ v,v ∈ g.2 ∧ w = ZV k v := by
  obtain ⟨v,hv,e⟩ := bM.1 (vO h);exact ⟨v,hv,e.symm⟩
theorem TM {g : G} {k : Nat} (h : g.2 ≠ []) : (jM g k).2 ≠ [] := fun e => h (by
  have := F3.1 e
  exact kW.1 this)
theorem TU {m : Nat} {M : Int} (hM : 0 ≤ M) : ∀ {g : G},(∀ w,w ∈ g.2 → w.2.1 ≤ M) → ∀ x,x ∈ mJ m g → ∀ w,w ∈ x.2 → w.2.1 ≤ M := by
  induction m with
  | zero => intro g h x hx;simp [mJ] at hx;subst hx;exact h
  | succ m ih =>
    intro g h x hx;unfold mJ at hx;split at hx
    · simp at hx;subst hx;exact h
    · rename_i k hk;rcases bX.1 hx with rfl | hx
      · intro w hw;obtain rfl := dR.1 hw;exact hM
      · refine ih (fun w hw => ?_) x hx;obtain ⟨v,hv,rfl⟩ := CR hw;exact h v hv
theorem OC {m : Nat} : ∀ {g : G},g.2.Pairwise (fun a b => mK a b < 0) → ∀ x,x ∈ mJ m g → x.2.Pairwise (fun a b => mK a b < 0) := by
  induction m with
  | zero => intro g h x hx;simp [mJ] at hx;subst hx;exact h
  | succ m ih =>
    intro g h x hx;unfold mJ at hx;split at hx
    · simp at hx;subst hx;exact h
    · rcases bX.1 hx with rfl | hx
      · exact kM _ _
      · exact ih (M5 _) x hx
theorem CY {n : Nat} : ∀ (m : Nat) {g : G}, H4 n g → g.2 ≠ [] → ((mJ m g).flatMap fun x => (iH x).1).Perm (iH g).1
  | 0,g,h,hne => by simp [mJ]
  | m + 1,g,h,hne => by
    unfold mJ;split
    · simp
    · rename_i k hk;have hr := TM (k := k) hne;obtain ⟨v,hv,e⟩ := CR (iR hr);have ih := CY m (h.rest hk) hr;rw [cD];have ofw := h.ws _ (iR hne);have ov := h.ws v hv;obtain ⟨_,_,hkl,hs⟩ := jJ hk;have hgv := (hs v hv).1;refine (List.Perm.append_left _ ih).trans ?_;rw [e];show (gP (iH g) k :: (v.1.eraseIdx k)).Perm _;rw [← hgv];exact (iS v.1 k 0 (by rw [ov.pl];exact hkl)).trans (h.same _ _ hv (iR hne))
theorem pS {α β γ : Type} {F : β → List γ} {F' : α → List γ} {P : α → List β} : ∀ {l : List α}, (∀ g, g ∈ l → ((P g).flatMap F).Perm (F' g)) → ((l.flatMap P).flatMap F).Perm (l.flatMap F')
  | [],_ => .refl _
  | g :: l,h => by
    rw [cD,fR,cD];exact (h g bA).append (pS fun x hx => h x (aY _ hx))
theorem F5 {α β γ : Type} {F : β → List γ} {F' : α → List γ} {f : α → β} : ∀ {l : List α}, (∀ g, g ∈ l → (F (f g)).Perm (F' g)) → ((l.map f).flatMap F).Perm (l.flatMap F')
  | [],_ => .refl _
  | g :: l,h => by
    rw [List.map_cons,cD,cD];exact (h g bA).append (F5 fun x hx => h x (aY _ hx))
theorem MX : ∀ {l : List G}, (∀ g, g ∈ l → 0 ≤ jN g) → 0 ≤ tE l
  | [],_ => kJ _
  | g :: l,h => by
    have := MX fun x hx => h x (aY _ hx);have := h g bA;show 0 ≤ jN g + tE l;omega
theorem MY : ∀ {l : List G}, (∀ g, g ∈ l → 0 ≤ jN g) → ∀ {g : G}, g ∈ l → jN g ≤ tE l
  | x :: l,h,g,hg => by
    have h0 := MX fun x hx => h x (aY _ hx);have h1 := h x bA;show jN g ≤ jN x + tE l;rcases bX.1 hg with rfl | hg
    · omega
    · have := MY (fun x hx => h x (aY _ hx)) hg;omega
theorem OD {c : Cx} {L : List G} (h : oM c c.m L) (hm0 : 0 ≤ c.m) (hasc : ∀ g,g ∈ L → g.2.Pairwise fun a b => mK a b < 0) : oU c (xQ L) := by
  have hp := dU cG (L.flatMap fun g => mJ g.1.length g);have hmem : ∀ x,x ∈ xQ L → ∃ g,g ∈ L ∧ x ∈ mJ g.1.length g := fun x hx => nF.1 (hp.mem_iff.1 hx);have bod : ((xQ L).flatMap (·.1)).Perm (L.flatMap (·.1)) := (hp.flatMap_right _).trans (pS fun g hg => vM _ (h.out.ok g hg));have idn : ((xQ L).flatMap fun g => (iH g).1).Perm (L.flatMap fun g => (iH g).1) := (hp.flatMap_right _).trans (pS fun g hg => CY _ (h.out.ok g hg) (h.ne g hg));have wl : ∀ x,x ∈ xQ L → x.2.length ≤ 1000 := fun x hx => by
    obtain ⟨g,hg,hx⟩ := hmem x hx;exact CX (by omega) (h.wl g hg) x hx
  refine ⟨⟨⟨fun x hx => ?_,bod.nodup_iff.2 h.out.nd,by rw [bod.length_eq];exact h.out.ln,fun x hx => by have := wl x hx;omega⟩,pX _,fun x hx => ?_,fun x hx => ?_,bod.trans h.cov,idn.trans h.idn,wl⟩,fun x hx => ?_,fun x hx => ?_⟩
  all_goals obtain ⟨g,hg,hx⟩ := hmem x hx
  · exact Y6 _ (h.out.ok g hg) x hx
  · exact TT (h.ne g hg) x hx
  · exact TU hm0 (h.ml g hg) x hx
  · exact T7 _ (h.out.ok g hg) (aX _) x hx
  · exact OC (hasc g hg) x hx
theorem OG {c : Cx} {M : Int} {gs : List G} (h : oM c M gs) (hne : ∀ g,g ∈ paid c gs → g.2 ≠ []) : oM c c.m (paid c gs) := by
  have h0 : ∀ g,g ∈ gs → 0 ≤ jN g := fun g hg => (U7 (h.out.ok g hg) (h.ne g hg)).1;refine ⟨h.out.paid c,HL h.up,hne,fun g hg w hw => ?_,by rw [C5];exact h.cov,?_,fun g hg => ?_⟩
  · obtain ⟨x,hx,rfl⟩ := bM.1 hg;have := of_decide_eq_true (ZM.1 hw).2;have := MY h0 hx;omega
  · refine List.Perm.trans (F5 (F' := fun g => (iH g).1) fun g hg => ?_) h.idn;have h1 := hne _ (bM.2 ⟨g,hg,rfl⟩);have h2 := iR h1;exact (h.out.ok g hg).same _ _ (ZM.1 h2).1 (iR (h.ne g hg))
  · obtain ⟨x,hx,rfl⟩ := bM.1 hg;exact bW (BN _ _) (h.wl x hx)
theorem SV {c : Cx} {M : Int} {gs : List G} (h : oM c M gs) (hm0 : 0 ≤ c.m) (hasc : ∀ g,g ∈ gs → g.2.Pairwise fun a b => mK a b < 0) (hne : ∀ g,g ∈ K5 c gs → g.2 ≠ []) : oU c (K5 c gs) := by
  refine OD (OG h fun g hg e => ?_) hm0 fun g hg => ?_
  · refine hne g ?_ e;refine (dU cG _).mem_iff.2 (nF.2 ⟨g,hg,?_⟩);rw [OB e];exact dR.2 rfl
  · obtain ⟨x,hx,rfl⟩ := bM.1 hg;exact (hasc x hx).sublist List.filter_sublist
theorem vI {n : Int} {s : Ev} (h : lZ n s = true) (hn : n ≤ 1000000) : (0 ≤ s.a ∧ s.a < n) ∧ (s.k = 4 → s.a < s.b ∧ s.b < n) ∧ 0 ≤ s.n ∧ s.n ≤ 1099511627776 := by
  obtain ⟨k,a,b,m,ids⟩ := s;unfold lZ at h;simp only [aP,decide_eq_true_eq] at h;obtain ⟨⟨⟨h1,h2⟩,h3⟩,h4⟩ := h;dsimp only;refine ⟨by omega,fun hk => ?_,?_⟩
  · subst hk;simp at h4;omega
  · by_cases k0 : k = 0
    · subst k0;simp at h4;omega
    · rw [if_neg k0] at h4;split at h4
      · simp at h4;omega
      · split at h4
        · simp at h4;omega
        · split at h4
          · simp at h4;omega
          · cases h4
theorem KQ {gs all : List G} {a b : Int} (e : join gs a b = some all) (ha : ∃ g,g ∈ gs ∧ a ∈ g.1) : ∀ g,g ∈ all → g ∈ gs ∨ a ∈ g.1 := by
  intro g hg;obtain ⟨i,x,hi,hix,hax⟩ := kB ha;unfold join at e;dsimp only at e;split at e
  · cases e;exact .inl hg
  · split at e
    · cases e
    · cases e;rcases iK (List.mem_of_mem_eraseIdx hg) with hg | rfl
      · exact .inl hg
      · refine .inr ((mA _ _).mem_iff.2 (bQ.2 (.inl ?_)));rw [hi];unfold mX;rw [aC,show ((i : Int)).toNat = i from rfl,hix]
        exact hax
structure G9 (c : Cx) (M : Int) (all : List G) (s : Ev) : Prop where
  mid : oM c M all
  asc : ∀ g,g ∈ all → (g.2.Pairwise fun a b => mK a b < 0) ∨ s.a ∈ g.1
  a : 0 ≤ s.a ∧ s.a < c.bs.length
  b : s.k = 4 → ∃ g,g ∈ all ∧ s.a ∈ g.1 ∧ s.b ∈ g.1
  n0 : 0 ≤ s.n
  n1 : s.n ≤ 1099511627776
theorem G9.at {c : Cx} {M : Int} {all : List G} {s : Ev} (h : G9 c M all s) : ∃ (i : Nat) (g : G),nE all s.a = (i : Int) ∧ all[i]? = some g ∧ g ∈ all ∧ mX all (nE all s.a).toNat = g ∧ s.a ∈ g.1 ∧ (s.k = 4 → s.b ∈ g.1) := by
  obtain ⟨i,g,hi,hg,ha⟩ := kB (h.mid.find h.a);have hm := aM hg;refine ⟨i,g,hi,hg,hm,?_,ha,fun hk => ?_⟩
  · rw [hi];unfold mX;rw [aC,show ((i : Int)).toNat = i from rfl,hg];rfl
  · obtain ⟨x,hx,h1,h2⟩ := h.b hk;rw [zF h.mid.out.nd hm hx ha h1];exact h2
theorem G9.next {c : Cx} {M : Int} {all : List G} {s : Ev} (h : G9 c M all s) (hM : M ≤ 2200000) {i : Nat} {g : G} (hi : all[i]? = some g) (ha : s.a ∈ g.1) (hb : s.k = 4 → s.b ∈ g.1) (hne : iE (pC c s g) ≠ []) (hl : (iE (pC c s g)).length ≤ 1000) :
    oM c (M + 1) (all.set i (g.1,iE (pC c s g))) ∧ ∀ x,x ∈ all.set i (g.1,iE (pC c s g)) → x.2.Pairwise fun a b => mK a b < 0 := by
  have hg := aM hi;refine ⟨TQ h.mid hi hne hl (by omega) fun w hw => DB h.mid hM hg h.n0 ha hb (vO hw),fun x hx => ?_⟩
  obtain ⟨A,B,e1,e2⟩ := sA (y := (g.1,iE (pC c s g))) hi;rw [e2] at hx;have nd := h.mid.out.nd;have hall : x = (g.1,iE (pC c s g)) ∨ x ∈ all ∧ s.a ∉ x.1 := by
    subst e1;simp only [fR,cD] at nd;obtain ⟨_,n1,n2⟩ := gI.1 nd;obtain ⟨_,_,n3⟩ := gI.1 n1;simp only [bQ,bX] at hx ⊢;rcases hx with hx | hx | hx
    · exact .inr ⟨.inl hx,fun q => n2 _ (vU hx q) _ (bQ.2 (.inl ha)) rfl⟩
    · exact .inl hx
    · exact .inr ⟨.inr (.inr hx),fun q => n3 _ ha _ (vU hx q) rfl⟩
  rcases hall with rfl | ⟨h1,h2⟩
  · exact M5 _
  · exact (h.asc x h1).resolve_right h2
theorem HU {c : Cx} {M : Int} {l all : List G} {s : Ev} (h : G9 c M all s) (hM : M ≤ 2200000) (hm0 : 0 ≤ c.m) (hl : oU c l) : oU c (H8 c l all s).2 := by
  obtain ⟨i,g,hi,hg,hgm,hat,ha,hb⟩ := h.at;unfold H8;dsimp only;rw [hat];split
  · exact hl
  · rename_i hne;split
    · exact hl
    · rename_i hwl;split
      · exact hl
      · rename_i hany;obtain ⟨hm,hasc⟩ := h.next hM hg ha hb hne (by omega)
        rw [hi] at hany ⊢;refine SV hm hm0 hasc fun x hx e => hany (nI.2 ⟨x,hx,by rw [e];rfl⟩)
theorem T4 {c : Cx} {gs : List G} {s : Ev} (h : oU c gs) (hn : c.bs.length ≤ 1000) (hm0 : 0 ≤ c.m) (hr : lZ c.bs.length s = true) (hk : s.k ≠ 4) : G9 c c.m gs s := by
  obtain ⟨h1,h2,h3,h4⟩ := vI hr (by omega)
  exact ⟨h.mid,fun g hg => .inl (h.asc g hg),h1,fun q => absurd q hk,h3,h4⟩
theorem L2 {c : Cx} {gs all : List G} {s : Ev} (h : oU c gs) (hn : c.bs.length ≤ 1000) (hm0 : 0 ≤ c.m) (hm1 : c.m ≤ 1048576) (hr : lZ c.bs.length s = true) (hk : s.k = 4) (e : join gs s.a s.b = some all) : G9 c (2 * c.m) all s := by
  obtain ⟨h1,h2,h3,h4⟩ := vI hr (by omega)
  have h2 := h2 hk;obtain ⟨j1,j2⟩ := OZ h.mid hm0 hm1 h1 ⟨by omega,by omega⟩ e
  exact ⟨j1,fun g hg => (KQ e (h.mid.find h1) g hg).imp_left fun hg => h.asc g hg,h1,fun _ => j2,h3,h4⟩
theorem oM.n12 {c : Cx} {M : Int} {gs : List G} (h : oM c M gs) : c.bs.length ≤ 12 := by
  have := h.cov.length_eq;have := h.out.ln;simp at *;omega
theorem Y0 {c : Cx} {gs : List G} {s : Ev} (h : oU c gs) (hm0 : 0 ≤ c.m) (hm1 : c.m ≤ 1048576) : oU c (yA c gs s).2 := by
  have hn := h.mid.n12;unfold yA;split
  · rename_i hr;split
    · rename_i hk;split
      · exact h
      · rename_i all e;exact HU (L2 h (by omega) hm0 hm1 hr hk e) (by omega) hm0 h
    · rename_i hk;exact HU (T4 h (by omega) hm0 hr hk) (by omega) hm0 h
  · exact h
end Go.Ld
