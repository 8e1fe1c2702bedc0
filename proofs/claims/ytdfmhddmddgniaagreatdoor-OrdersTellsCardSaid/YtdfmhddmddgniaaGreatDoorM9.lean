/-
  Texts of the logic and of the layer,in one module (part 9).
-/
import Derived.Test.YtdfmhddmddgniaaGreatDoorM8
import Derived.Test.YtdfmhddmddgniaaGreatDoorRows
import Derived.Deep.DeepHandedRow
import Derived.Lib.LaidTab
import Derived.Stop.LaidErr
set_option linter.unusedVariables false
set_option linter.unusedSimpArgs false
set_option linter.unnecessarySimpa false
namespace Go.Or
open Go Go.Ab Go.Wr Go.Proofs.YtdfmhddmddgniaaGreatDoor
abbrev J2 (L : NO) : List (List AV) := L.map fun e => iT e.1 e.2
theorem DD {L : NO} (h : ∀ e,e ∈ L → zH4 e) : ∀ x,x ∈ J2 L → AV.idfL x = true := fun x hx => by
  obtain ⟨e,he,rfl⟩ := aK.1 hx;rcases h e he with h1 | ⟨h1,_⟩ <;> rw [h1] <;> rfl
def yQ (l : List UInt8) (r : AV) (o : Hp) : Prop := match xT l with
  | some bk => ∃ po,r = .tup [.ptr 1 0,.b true] ∧ G8 o 1 po bk
  | none => r = .tup [.v (.pointer none),.b false]
def Q8 (N : List (List Tk)) : Nat := (N.map List.length).sum
theorem FG {N : List (List Tk)} {l : List Tk} : Q8 (N ++ [l]) = Q8 N + l.length := by unfold Q8;simp
theorem AQ : ∀ N : List (List Tk), N.all (·.isEmpty) = decide (Q8 N = 0)
  | [] => rfl
  | l :: N => by
    rw [P0,AQ N];unfold Q8;rw [List.map_cons,lE,qD];simp only [aN,List.isEmpty_iff,decide_eq_true_eq];constructor
    · rintro ⟨rfl,h⟩;rw [h];rfl
    · intro h;exact ⟨iR.1 (by omega),by omega⟩
theorem XG {s : St} (h : 0 < (s.getD []).length) : ((fI s 59 0).2.getD []).length + 1 ≤ (s.getD []).length := by
  rcases KL (s := s) (e := 59) (lo := 0) with h1 | h1
  · rw [h1];exact h
  · omega
theorem R9 : ∀ (k : Nat) (s : St) {l : List Tk} {s' : St}, gZ k s = some (l, s') → l.length + (s'.getD []).length ≤ (s.getD []).length
  | 0,s,l,s',h => by cases h;simp
  | k + 1,s,l,s',h => by
    rw [gZ] at h;split at h
    · cases h;simp
    · rename_i h0;split at h
      · cases h
      · obtain ⟨⟨l2,s2⟩,h2,h3⟩ := bX.1 h;cases h3;have h1 := yC (s := s) (by omega)
        have h3 := lA (s := (cE s).2);have h4 := R9 k _ h2;rw [List.length_cons];dsimp only;omega
theorem RO (L : NO) (e : Od × AV) : List.take L.length (List.drop 0 (J2 L)) ++ [iT e.1 e.2] = J2 (L ++ [e]) := by
  rw [cP,aQ (by simp)];simp
theorem WH (N : List (List Tk)) (l : List Tk) : List.take N.length (List.drop 0 (xK N)) ++ [[AV.rowE (eZ l) 2]] = xK (N ++ [l]) := by
  rw [cP,aQ (by simp)];simp
theorem GG {s : St} {N : List (List Tk)} : (lH [] s).map (fun y => (N ++ y.1,y.2)) = some (N,s) := by simp [lH]
end Go.Or
namespace Go.Proofs.YtdfmhddmddgniaaGreatDoor
open Go Go.Ab Go.Or Go.Wr
attribute [local irreducible] VC AW bJ bI eO jT rZ nB qB
set_option maxHeartbeats 4000000
theorem WO (l : List UInt8) (hl : l.length ≤ 1000000) : eO Tryz.prog 30 [.s l] [] (yQ l) := by
  have c0 := WT l;have c1 := DI (some l) (by rw [nF];omega)
  have hb0 := nT (some l) 59 0;have hn0 := zF (some l) 59;have hn1 := (nI (some l) 59 0).2;rw [nF] at hb0;have hro : xT l = (kA (fI (some l) 59 0).1.toNat (fI (some l) 59 0).2 []).bind fun x => if x.2 = some [] ∧ (x.1.length : Int) = (fI (some l) 59 0).1 ∧ (fI (some l) 59 0).1 ≤ 1000 then some x.1 else none := rfl
  generalize (fI (some l) 59 0).1 = n at *;generalize (fI (some l) 59 0).2 = s2 at *;have hnoR : xT l = none → ∀ o,yQ l (.tup [.v (.pointer none),.b false]) o := fun h o => by unfold yQ;rw [h]
  refine jS T Tryz.func30 rfl rfl rfl rfl ?_
  (repeat' (first|refine wS ?_|refine wB ?_|(refine rg 0 (kJ ?_))|(refine rg 1 (mW rfl (bR [] rfl rfl c0 rfl rfl (by decide) trivial (by simp) rfl ?_));refine aV ?_)|(refine rg 2 (bR [] rfl rfl RN rfl rfl (by decide) trivial (by simp) rfl ?_);refine aV ?_)|(refine rg 3 (mW rfl (bR [0] rfl rfl c1 rfl rfl (by decide) ⟨.inr rfl,trivial⟩ (by simp) rfl ?_));refine aV ?_)|(refine rg 4 (aV ?_))|refine nZ ?_));refine rY 1 0 4 rfl rfl (by decide) ?_
  refine dR (X := {x : Nat × St × NO // kA n.toNat s2 [] = kA x.1 x.2.1 (x.2.2.map (·.1)) ∧ (x.1 : Int) ≤ n ∧ x.2.2.length + (x.2.1.getD []).length ≤ (s2.getD []).length ∧ ∀ e, e ∈ x.2.2 → zH4 e}) (fun x => [(4, .ptr 0 0), (5, .ptr 1 0), (6, .i n), (7, .i (n - (x.1.1 : Int)))]) (fun x => [oG x.1.2.1, .cells [.sl 2 0 x.1.2.2.length 4], .arr (J2 x.1.2.2) 4]) (fun x => x.1.1)
    ⟨(n.toNat,s2,[]),rfl,by dsimp only;omega,by dsimp only;simp,fun e he => (nomatch he)⟩ ⟨[0,1,2],rfl,⟨rfl,rfl,rfl,congrArg (fun z : Int => some (AV.i z)) (by dsimp only;omega),trivial⟩,⟨.inr rfl,.inr rfl,.inr rfl,trivial⟩,by decide,iK _⟩ ?_
  rintro ⟨⟨k,s,L⟩,g1,g2,g3,g4⟩;dsimp only at g1 g2 g3 g4 ⊢;have hLi := DD g4;have hLl : (J2 L).length = L.length := bF _;have cL := DJ s;by_cases hk2 : 0 < k ∧ 0 < (s.getD []).length
  · obtain ⟨k,rfl⟩ : ∃ k',k = k' + 1 := ⟨k - 1,by omega⟩
    have hrb : kA (k + 1) s (L.map (·.1)) = (mD s).bind fun x => kA k x.2 (L.map (·.1) ++ [x.1]) := by rw [kA,if_neg (by omega)]
    have hfail : mD s = none → ∀ o,yQ l (.tup [.v (.pointer none),.b false]) o := fun h => hnoR (by rw [hro,g1,hrb,h];rfl)
    have hod : mD s = mD s := rfl
    conv at hod => rhs;unfold mD
    have hhd : gN s = iJ (fI s 59 0).1.toNat (fI s 59 0).2 := rfl;have d1 := DI s (by omega)
    have e1 := XG hk2.2;have hm0 := zF s 59;have hm1 := (nI s 59 0).2;generalize (fI s 59 0).1 = m at *;generalize (fI s 59 0).2 = s3 at *
    (repeat' (first|refine wS ?_|refine wB ?_|refine wK ?_|refine wT ?_|(refine rg 5 (dS rfl (vV (cJ rfl rfl (by omega)) (mW rfl (yN rfl (gT (bR [0] rfl rfl cL rfl rfl (by decide) ⟨.inr rfl,trivial⟩ (by simp) rfl ?_))))));refine yV (iE rfl rfl (by omega)) (pV ?_))|(refine rg 7 (dQ (dC T rfl) rfl ?_))|(refine rg 8 (mW rfl (bR [0] rfl rfl d1 rfl rfl (by decide) ⟨.inr rfl,trivial⟩ (by simp) rfl ?_));refine aV ?_)|(refine rg 9 (aV ?_))|refine nZ ?_));all_goals try (exfalso;omega)
    refine fY [(4,.ptr 0 0),(5,.ptr 1 0),(6,.i n),(7,.i (n - ((k + 1 : Nat) : Int))),(8,.ptr 3 0),(9,.i m),(10,.i 0)] [oG s3,.cells [.sl 2 0 L.length 4],.arr (J2 L) 4,.cells [.nils,.i 0,.i 0,.nils]] ⟨[0,1,2,3],rfl,(by repeat first|exact trivial|refine ⟨rfl,?_⟩),⟨.inr rfl,.inr rfl,.inr (bM rfl rfl hLi),.inr rfl,trivial⟩,by decide,iK _⟩ ?_
    refine rY 3 0 3 rfl rfl (by decide) ?_
    refine dR (X := {p : Nat × St × List Wt // iJ m.toNat s3 = (p.2.2 ++ (iJ p.1 p.2.1).1,(iJ p.1 p.2.1).2) ∧ (p.1 : Int) + p.2.2.length = m ∧ p.2.2.length + (p.2.1.getD []).length ≤ (s3.getD []).length}) (fun p => [(4,.ptr 0 0),(5,.ptr 1 0),(6,.i n),(7,.i (n - ((k + 1 : Nat) : Int))),(8,.ptr 3 0),(9,.i m),(10,.i (p.1.2.2.length : Int))]) (fun p => [oG p.1.2.1,.cells [.sl 2 0 L.length 4],.arr (J2 L) 4,.cells [.sl 4 0 p.1.2.2.length 3,.i 0,.i 0,.nils],.arr (bV p.1.2.2) 3]) (fun p => p.1.1) ⟨(m.toNat,s3,[]),rfl,by dsimp only;simp;omega,by dsimp only;simp⟩ ⟨[0,1,2,3,4],rfl,⟨rfl,rfl,rfl,rfl,rfl,rfl,rfl,trivial⟩,⟨.inr rfl,.inr rfl,.inr (bM rfl rfl hLi),.inr rfl,.inr rfl,trivial⟩,by decide,iK _⟩ ?_
    rintro ⟨⟨j,u,W⟩,h1,h2,h3⟩;dsimp only at h1 h2 h3 ⊢;have hwl := gD W;have cU := DJ u;by_cases hj2 : 0 < j ∧ 0 < (u.getD []).length
    · obtain ⟨j,rfl⟩ : ∃ j',j = j' + 1 := ⟨j - 1,by omega⟩
      have q1 := wH u (by omega)
      have f1 := yC hj2.2;have q2 := wH (cE u).2 (by omega)
      have f2 := lA (s := (cE u).2);have q3 := wH (cE (cE u).2).2 (by omega)
      have f3 := lA (s := (cE (cE u).2).2);have hrec : iJ (j + 1) u = (((cE u).1,(cE (cE u).2).1,(cE (cE (cE u).2).2).1) :: (iJ j (cE (cE (cE u).2).2).2).1,(iJ j (cE (cE (cE u).2).2).2).2) := by rw [iJ,if_neg (by omega)]
      rw [hrec] at h1;clear hod hhd hro hrec hfail hnoR;generalize (cE u).1 = wk at *;generalize (cE u).2 = t1 at *;generalize (cE t1).1 = wc at *;generalize (cE t1).2 = t2 at *;generalize (cE t2).1 = wu at *;generalize (cE t2).2 = t3 at *
      (repeat' (first|refine wS ?_|refine wB ?_|refine wK ?_|refine wT ?_|(refine rg 10 (dS rfl (vV (cJ rfl rfl (by omega)) (mW rfl (yN rfl (gT (bR [0] rfl rfl cU rfl rfl (by decide) ⟨.inr rfl,trivial⟩ (by simp) rfl ?_))))));refine yV (iE rfl rfl (by omega)) (pV ?_))|(refine rg 12 (mW rfl (bR [0] rfl rfl q1 rfl rfl (by decide) ⟨.inr rfl,trivial⟩ (by simp) rfl ?_));refine vV (by exact gS T rfl rfl rfl rfl) ?_;refine dQ (dC T rfl) rfl (bA T rfl rfl rfl rfl rfl rfl (by decide) rfl ?_))|refine nZ ?_));all_goals try (exfalso;omega)
      refine fY [(4,.ptr 0 0),(5,.ptr 1 0),(6,.i n),(7,.i (n - ((k + 1 : Nat) : Int))),(8,.ptr 3 0),(9,.i m),(10,.i (W.length : Int)),(11,.ptr 5 0)] [oG t1,.cells [.sl 2 0 L.length 4],.arr (J2 L) 4,.cells [.sl 4 0 W.length 3,.i 0,.i 0,.nils],.arr (bV W) 3,.cells [.i wk,.i 0,.i 0]] ⟨[0,1,2,3,4,5],rfl,(by repeat first|exact trivial|refine ⟨rfl,?_⟩),⟨.inr rfl,.inr rfl,.inr (bM rfl rfl hLi),.inr rfl,.inr (bM rfl rfl (oV _)),.inr rfl,trivial⟩,by decide,iK _⟩ ?_
      (repeat' (first|refine wS ?_|(refine rg 13 (mW rfl (bR [0] rfl rfl q2 rfl rfl (by decide) ⟨.inr rfl,trivial⟩ (by simp) rfl ?_));refine fW T rfl (bA T rfl rfl rfl rfl rfl rfl (by decide) rfl ?_))|refine nZ ?_));refine fY [(4,.ptr 0 0),(5,.ptr 1 0),(6,.i n),(7,.i (n - ((k + 1 : Nat) : Int))),(8,.ptr 3 0),(9,.i m),(10,.i (W.length : Int)),(11,.ptr 5 0)] [oG t2,.cells [.sl 2 0 L.length 4],.arr (J2 L) 4,.cells [.sl 4 0 W.length 3,.i 0,.i 0,.nils],.arr (bV W) 3,.cells [.i wk,.i wc,.i 0]] ⟨[0,1,2,3,4,5],rfl,(by repeat first|exact trivial|refine ⟨rfl,?_⟩),⟨.inr rfl,.inr rfl,.inr (bM rfl rfl hLi),.inr rfl,.inr (bM rfl rfl (oV _)),.inr rfl,trivial⟩,by decide,iK _⟩ ?_
      (repeat' (first|(refine rg 14 (mW rfl (bR [0] rfl rfl q3 rfl rfl (by decide) ⟨.inr rfl,trivial⟩ (by simp) rfl ?_));refine fW T rfl (bA T rfl rfl rfl rfl rfl rfl (by decide) rfl ?_))|refine nZ ?_));refine fY [(4,.ptr 0 0),(5,.ptr 1 0),(6,.i n),(7,.i (n - ((k + 1 : Nat) : Int))),(8,.ptr 3 0),(9,.i m),(10,.i (W.length : Int)),(11,.ptr 5 0)] [oG t3,.cells [.sl 2 0 L.length 4],.arr (J2 L) 4,.cells [.sl 4 0 W.length 3,.i 0,.i 0,.nils],.arr (bV W) 3,.cells [.i wk,.i wc,.i wu]] ⟨[0,1,2,3,4,5],rfl,(by repeat first|exact trivial|refine ⟨rfl,?_⟩),⟨.inr rfl,.inr rfl,.inr (bM rfl rfl hLi),.inr rfl,.inr (bM rfl rfl (oV _)),.inr rfl,trivial⟩,by decide,iK _⟩ ?_
      (repeat' (first|(refine rg 15 (fW T rfl (eT T rfl (lW T rfl (dQ (by exact bO T rfl rfl (by decide) (by decide) rfl rfl rfl) rfl ?_))));refine fH T rfl rfl rfl rfl rfl rfl (by simp) (jA.whole rfl rfl) rfl (by simp;omega) (by simp;omega) rfl ?_;refine fW T rfl (fW T rfl (bA T rfl rfl rfl rfl rfl rfl (by decide) rfl ?_)))|(refine iA 11 rfl rfl rfl (by omega) (by omega) ?_)|refine nZ ?_));all_goals try (exfalso;omega)
      have hln : (W ++ [(wk,wc,wu)]).length = W.length + 1 := by simp
      all_goals exact ⟨⟨(j,t3,W ++ [(wk,wc,wu)]),by dsimp only;rw [h1];simp,by dsimp only;rw [hln];omega,by dsimp only;rw [hln];omega⟩,mG j,[0,1,2,3,7],rfl,⟨rfl,rfl,rfl,rfl,rfl,rfl,(by dsimp only;rw [hln];rfl),trivial⟩,⟨.inr rfl,.inr rfl,.inr (bM rfl rfl hLi),.inr (congrArg (fun n : Nat => some (AB.cells [.sl 7 0 n 3,.i 0,.i 0,.nils])) hln).symm,.inr (bM rfl (QL W (wk,wc,wu)) (oV _)),trivial⟩,by decide,iK _⟩
    · have hrec : iJ j u = ([],u) := by
        cases j with
        | zero => rfl
        | succ j => rw [iJ,if_pos (by omega)]
      rw [hrec,List.append_nil] at h1;rw [h1] at hhd;rw [hhd] at hod;dsimp only at hod;have q1 := wH u (by omega)
      have f1 := lA (s := u);have q2 := wH (cE u).2 (by omega)
      have f2 := lA (s := (cE u).2);have i1 := nI u 59 (-9223372036854775808);have i2 := nI (cE u).2 59 (-9223372036854775808);change _ ≤ (cE u).1 ∧ (cE u).1 ≤ _ at i1;change _ ≤ (cE (cE u).2).1 ∧ (cE (cE u).2).1 ≤ _ at i2;generalize (cE u).1 = due at *;generalize (cE u).2 = t1 at *;generalize (cE t1).1 = st at *;generalize (cE t1).2 = t2 at *;apply uI (I := Unit) (fun _ => [(4,.ptr 0 0),(5,.ptr 1 0),(6,.i n),(7,.i (n - ((k + 1 : Nat) : Int))),(8,.ptr 3 0),(9,.i m)]) (fun _ => [oG u,.cells [.sl 2 0 L.length 4],.arr (J2 L) 4,.cells [.sl 4 0 W.length 3,.i 0,.i 0,.nils],.arr (bV W) 3]) (fun _ => True)
      case h1 =>
        intro rest;by_cases hj0 : 0 < j
        · (repeat' (first|refine wS ?_|refine wE ?_|refine kN rfl ?_|(refine rg 10 (dS rfl (vV (cJ rfl rfl (by omega)) (mW rfl (yN rfl (gT (bR [0] rfl rfl cU rfl rfl (by decide) ⟨.inr rfl,trivial⟩ (by simp) rfl ?_))))));refine yV (iU rfl rfl (by omega)) (pV ?_))|(refine nZ ?_)));all_goals try (exfalso;omega)
          all_goals exact fY [(4,.ptr 0 0),(5,.ptr 1 0),(6,.i n),(7,.i (n - ((k + 1 : Nat) : Int))),(8,.ptr 3 0),(9,.i m)] [oG u,.cells [.sl 2 0 L.length 4],.arr (J2 L) 4,.cells [.sl 4 0 W.length 3,.i 0,.i 0,.nils],.arr (bV W) 3] ⟨[0,1,2,3,4],rfl,(by repeat first|exact trivial|refine ⟨rfl,?_⟩),⟨.inr rfl,.inr rfl,.inr (bM rfl rfl hLi),.inr rfl,.inr (bM rfl rfl (oV _)),trivial⟩,by decide,iK _⟩ (rest () trivial)
        · (repeat' (first|refine wS ?_|refine wE ?_|refine kN rfl ?_|(refine rg 10 (dS rfl (vV (cX rfl rfl (by omega)) (mV ?_)));(iterate 3 refine gF ?_);refine pV ?_)|(refine nZ ?_)));all_goals try (exfalso;omega)
          all_goals exact fY [(4,.ptr 0 0),(5,.ptr 1 0),(6,.i n),(7,.i (n - ((k + 1 : Nat) : Int))),(8,.ptr 3 0),(9,.i m)] [oG u,.cells [.sl 2 0 L.length 4],.arr (J2 L) 4,.cells [.sl 4 0 W.length 3,.i 0,.i 0,.nils],.arr (bV W) 3] ⟨[0,1,2,3,4],rfl,(by repeat first|exact trivial|refine ⟨rfl,?_⟩),⟨.inr rfl,.inr rfl,.inr (bM rfl rfl hLi),.inr rfl,.inr (bM rfl rfl (oV _)),trivial⟩,by decide,iK _⟩ (rest () trivial)
      rintro _ _
      (repeat' (first|refine wS ?_|(refine rg 16 (mW rfl (bR [0] rfl rfl q1 rfl rfl (by decide) ⟨.inr rfl,trivial⟩ (by simp) rfl ?_));refine fW T rfl (fW T rfl (bA T rfl rfl rfl rfl rfl rfl (by decide) rfl ?_)))|refine nZ ?_));refine fY [(4,.ptr 0 0),(5,.ptr 1 0),(6,.i n),(7,.i (n - ((k + 1 : Nat) : Int))),(8,.ptr 3 0),(9,.i m)] [oG t1,.cells [.sl 2 0 L.length 4],.arr (J2 L) 4,.cells [.sl 4 0 W.length 3,.i due,.i 0,.nils],.arr (bV W) 3] ⟨[0,1,2,3,4],rfl,(by repeat first|exact trivial|refine ⟨rfl,?_⟩),⟨.inr rfl,.inr rfl,.inr (bM rfl rfl hLi),.inr rfl,.inr (bM rfl rfl (oV _)),trivial⟩,by decide,iK _⟩ ?_
      (repeat' (first|refine wS ?_|(refine rg 17 (mW rfl (bR [0] rfl rfl q2 rfl rfl (by decide) ⟨.inr rfl,trivial⟩ (by simp) rfl ?_));refine fW T rfl (fW T rfl (bA T rfl rfl rfl rfl rfl rfl (by decide) rfl ?_)))|refine nZ ?_));refine fY [(4,.ptr 0 0),(5,.ptr 1 0),(6,.i n),(7,.i (n - ((k + 1 : Nat) : Int))),(8,.ptr 3 0),(9,.i m)] [oG t2,.cells [.sl 2 0 L.length 4],.arr (J2 L) 4,.cells [.sl 4 0 W.length 3,.i due,.i st,.nils],.arr (bV W) 3] ⟨[0,1,2,3,4],rfl,(by repeat first|exact trivial|refine ⟨rfl,?_⟩),⟨.inr rfl,.inr rfl,.inr (bM rfl rfl hLi),.inr rfl,.inr (bM rfl rfl (oV _)),trivial⟩,by decide,iK _⟩ ?_
      refine W9 3 0 rfl rfl rfl hwl.symm (N7 W) ?_;have hrw := GB W due (by omega)
      refine fY [(4,.ptr 0 0),(5,.ptr 1 0),(6,.i n),(7,.i (n - ((k + 1 : Nat) : Int))),(8,.ptr 3 0),(9,.i m)] [oG t2,.cells [.sl 2 0 L.length 4],.arr (J2 L) 4,.cells [.rowE (bV W) 3,.i due,.i st,.nils]] ⟨[0,1,2,3],rfl,(by repeat first|exact trivial|refine ⟨rfl,?_⟩),⟨.inr rfl,.inr rfl,.inr (bM rfl rfl hLi),.inr rfl,trivial⟩,by decide,iK _⟩ ?_
      by_cases hA : (W.length : Int) ≠ m
      · rw [if_pos (.inl hA)] at hod
        (repeat' (first|refine wS ?_|refine wR ?_|refine wT ?_|(refine rg 18 (fW T rfl (eT T rfl (qW T rfl (mW rfl (vV (qQ rfl rfl (by omega)) (mV ?_))))));(iterate 8 refine gF ?_);refine pW rfl (mV ?_);(iterate 4 refine gF ?_);refine pW rfl (mV ?_);(iterate 4 refine gF ?_);refine pV ?_)|(refine rg 19 (kJ ?_))|refine nZ ?_));all_goals first | (exfalso;omega) | exact ⟨.inl rfl,_,rfl,hfail hod _⟩
      have hA2 : (W.length : Int) = m := Classical.not_not.1 hA;cases hr : iW W due with
      | false =>
        rw [hr] at hrw hod;rw [if_pos (.inr (.inl rfl))] at hod
        (repeat' (first|refine wS ?_|refine wR ?_|refine wT ?_|(refine rg 18 (fW T rfl (eT T rfl (qW T rfl (mW rfl (vV (iC rfl rfl (by omega)) (mW rfl (yP T rfl (yP T rfl (yL T ?_)))))))));refine yP T rfl (yP T rfl (yO T rfl (yV (kC (hrw)) (yV (cV rfl) (pW rfl (mV ?_))))));(iterate 4 refine gF ?_);refine pW rfl (mV ?_);(iterate 4 refine gF ?_);refine pV ?_)|(refine rg 19 (kJ ?_))|refine nZ ?_));all_goals first | (exfalso;omega) | exact ⟨.inl rfl,_,rfl,hfail hod _⟩
      | true =>
        rw [hr] at hrw hod;by_cases hst : st < 0 ∨ 5 ≤ st
        · rw [if_pos (.inr (.inr hst))] at hod
          (repeat' (first|refine wS ?_|refine wR ?_|refine wT ?_|(refine wC rfl ?_ ?_<;>(intro hb;(try simp only [nm] at hb);try (exfalso;omega)))|(refine rg 18 (fW T rfl (eT T rfl (qW T rfl (mW rfl (vV (iC rfl rfl (by omega)) (mW rfl (yP T rfl (yP T rfl (yL T ?_)))))))));refine yP T rfl (yP T rfl (yO T rfl (yV (kC (hrw)) (yV (cV rfl) (pW rfl (mW rfl (yP T rfl (yP T rfl (yL T ?_)))))))));refine yV (bE rfl rfl) (pW rfl (mV ?_));refine bP rfl rfl ?_ ?_<;>(intro hb;rw [hb];(try simp only [nm] at hb);try (exfalso;omega));(all_goals first|(refine gT (fW T rfl (gT (fW T rfl (gT (lW T rfl (gT (vV (eN rfl rfl) ?_))))))))|(iterate 4 refine gF ?_));(all_goals (refine pV ?_)))|(refine rg 19 (kJ ?_))|refine nZ ?_));all_goals first | (exfalso;omega) | exact ⟨.inl rfl,_,rfl,hfail hod _⟩
        rw [if_neg (fun h => h.elim hA fun h => h.elim (fun h => Bool.noConfusion h) hst)] at hod;have hr20 := (qS hr).1;have hnext : ∀ {o : Od} {s' : St},mD s = some (o,s') → kA n.toNat s2 [] = kA k s' (L.map (·.1) ++ [o]) := fun h => by rw [g1,hrb,h];rfl
        by_cases hs1 : st = 1
        · subst hs1;rw [if_neg (by decide)] at hod
          (repeat' (first|refine wS ?_|refine wB ?_|refine wK ?_|refine wU ?_|(refine rg 18 (fW T rfl (eT T rfl (qW T rfl (mW rfl (vV (iC rfl rfl (by omega)) (mW rfl (yP T rfl (yP T rfl (yL T ?_)))))))));refine yP T rfl (yP T rfl (yO T rfl (yV (kC (hrw)) (yV (cV rfl) (pW rfl (mW rfl (yP T rfl (yP T rfl (yL T ?_)))))))));refine yV (bE rfl rfl) (pW rfl (mW rfl (yP T rfl (yP T rfl (yO T rfl (yV (eN rfl rfl) (pV ?_))))))))|(refine rg 20 (aV ?_))|(refine rg 21 (aV ?_))|refine nZ ?_));all_goals try (exfalso;omega)
          refine rY 3 3 1 rfl rfl (by decide) ?_
          refine dR (X := {x : St × List (List Tk) // x.2.length ≤ W.length ∧ lH W t2 = ((lH (W.drop x.2.length) x.1).map fun y => (x.2 ++ y.1,y.2)) ∧ Q8 x.2 + (x.1.getD []).length ≤ (t2.getD []).length}) (fun x => [(4,.ptr 0 0),(5,.ptr 1 0),(6,.i n),(7,.i (n - ((k + 1 : Nat) : Int))),(8,.ptr 3 0),(9,.i m),(12,.i (Q8 x.1.2 : Int)),(13,.i (x.1.2.length : Int))]) (fun x => [oG x.1.1,.cells [.sl 2 0 L.length 4],.arr (J2 L) 4,.cells [.rowE (bV W) 3,.i due,.i 1,.sl 4 0 x.1.2.length 1],.arr (xK x.1.2) 1]) (fun x => W.length - x.1.2.length) ⟨(t2,[]),bG _,(by dsimp only;rw [List.length_nil,cP];cases lH W t2 <;> rfl),(by dsimp only;unfold Q8;simp)⟩ ⟨[0,1,2,3,4],rfl,⟨rfl,rfl,rfl,rfl,rfl,rfl,rfl,rfl,trivial⟩,⟨.inr rfl,.inr rfl,.inr (bM rfl rfl hLi),.inr rfl,.inr rfl,trivial⟩,by decide,iK _⟩ ?_
          rintro ⟨⟨s4,N⟩,o1,o2,o3⟩;dsimp only at o1 o2 o3 ⊢;have hNl := kD N;by_cases hil : N.length < W.length
          · have hg := yX hil;have hdr : lH (W.drop N.length) s4 = lH (W[N.length] :: W.drop (N.length + 1)) s4 := by rw [← aO hil]
            rw [lH] at hdr;have hT := RI s4 (W[N.length]).2.1 (by omega)
            have hb4 := nT s4 59 0;generalize (fI s4 59 0).1 = n4 at *;generalize (fI s4 59 0).2 = s5 at *;generalize W[N.length] = w at *;obtain ⟨wk,wc,wu⟩ := w;dsimp only at hg hdr hT;cases hrt : gZ n4.toNat s5 with
            | none =>
              rw [hrt] at hT hdr;have hno : mD s = none := by rw [hod,o2,hdr];rfl
              generalize AG n4.toNat s5 = s6 at *;have hT2 : bI Tryz.prog 77 [.ptr 0 0,.i wc] (A7 s4) (.tup [.nils,.b false]) (A7 s6) := hT
              (repeat' (first|refine wS ?_|refine wB ?_|refine wK ?_|refine wR ?_|refine wT ?_|(refine rg 22 (dS rfl (vV (cJ rfl rfl (by omega)) (mW rfl (yP T rfl (yP T rfl (yO T rfl (yV (lS rfl rfl rfl) (pV ?_)))))))))|(refine rg 24 (mW rfl (fW T rfl (eT T rfl (mW rfl (vV (ix T rfl (by omega) (jW W) hg) (eT T rfl (bR [0] rfl rfl hT2 rfl rfl (by decide) ⟨.inr rfl,trivial⟩ (by simp) rfl ?_)))))));refine mW rfl (xW rfl (xW rfl (kJ ?_))))|(refine rg 25 (mW rfl (vV (cV rfl) ?_)))|(refine rg 26 (kJ ?_))|refine nZ ?_));all_goals first | (exfalso;omega) | exact ⟨.inl rfl,_,rfl,hfail hno _⟩
            | some y =>
              obtain ⟨lt,s6⟩ := y;have hes := K9 _ _ hrt;have htt := R9 _ _ hrt;have htl := kT lt;rw [hrt,← hes] at hT;rw [hrt,Option.bind_some] at hdr;dsimp only at hdr;by_cases hbd : (lt.length : Int) ≠ n4 ∨ wc < jB lt
              · rw [if_pos hbd] at hdr;have hno : mD s = none := by rw [hod,o2,hdr];rfl
                rw [Q9 (decide_eq_false (by omega))] at hT
                have hT2 := hT
                (repeat' (first|refine wS ?_|refine wB ?_|refine wK ?_|refine wR ?_|refine wT ?_|(refine rg 22 (dS rfl (vV (cJ rfl rfl (by omega)) (mW rfl (yP T rfl (yP T rfl (yO T rfl (yV (lS rfl rfl rfl) (pV ?_)))))))))|(refine rg 24 (mW rfl (fW T rfl (eT T rfl (mW rfl (vV (ix T rfl (by omega) (jW W) hg) (eT T rfl (bR [0] rfl rfl hT2 rfl rfl (by decide) ⟨.inr rfl,trivial⟩ (by simp) rfl ?_)))))));refine mW rfl (xW rfl (xW rfl (kJ ?_))))|(refine rg 25 (mW rfl (vV (cV rfl) ?_)))|(refine rg 26 (kJ ?_))|refine nZ ?_));all_goals first | (exfalso;omega) | exact ⟨.inl rfl,_,rfl,hfail hno _⟩
              · rw [if_neg hbd] at hdr;rw [Q9 (decide_eq_true (by omega))] at hT
                have hT2 := hT
                (repeat' (first|refine wS ?_|refine wB ?_|refine wK ?_|refine wT ?_|refine wU ?_|(refine rg 22 (dS rfl (vV (cJ rfl rfl (by omega)) (mW rfl (yP T rfl (yP T rfl (yO T rfl (yV (lS rfl rfl rfl) (pV ?_)))))))))|(refine rg 24 (mW rfl (fW T rfl (eT T rfl (mW rfl (vV (ix T rfl (by omega) (jW W) hg) (eT T rfl (bR [0] rfl rfl hT2 rfl rfl (by decide) ⟨.inr rfl,trivial⟩ (by simp) rfl ?_)))))));refine mW rfl (xW rfl (xW rfl (kJ ?_))))|(refine rg 25 (mW rfl (vV (cV rfl) ?_)))|refine nZ ?_));all_goals try (exfalso;omega)
                refine fY [(4,.ptr 0 0),(5,.ptr 1 0),(6,.i n),(7,.i (n - ((k + 1 : Nat) : Int))),(8,.ptr 3 0),(9,.i m),(12,.i (Q8 N : Int)),(13,.i (N.length : Int)),(14,.rowE (eZ lt) 2)] [oG s6,.cells [.sl 2 0 L.length 4],.arr (J2 L) 4,.cells [.rowE (bV W) 3,.i due,.i 1,.sl 4 0 N.length 1],.arr (xK N) 1] ⟨[0,1,2,3,4],rfl,(by repeat first|exact trivial|refine ⟨rfl,?_⟩),⟨.inr rfl,.inr rfl,.inr (bM rfl rfl hLi),.inr rfl,.inr (bM rfl rfl (C6 _)),trivial⟩,by decide,iK _⟩ ?_
                (repeat' (first|(refine rg 27 (dS rfl (qW T rfl (vV (eD rfl rfl (by omega) (by omega)) (aV ?_)))))|(refine rg 28 (eT T rfl (mW rfl (dQ (by exact bO T rfl rfl (by decide) (by decide) rfl rfl rfl) rfl ?_)));refine fH T rfl rfl rfl rfl rfl rfl (by simp) (jA.whole rfl rfl) rfl (by simp;omega) (by simp;omega) rfl ?_;refine fW T rfl (bA T rfl rfl rfl rfl rfl rfl (by decide) rfl ?_))|(refine iA 23 rfl rfl rfl (by omega) (by omega) ?_)|refine nZ ?_));all_goals try (exfalso;omega)
                have hln : (N ++ [lt]).length = N.length + 1 := by simp
                all_goals exact ⟨⟨(s6,N ++ [lt]),(by dsimp only;rw [hln];exact hil),(by dsimp only;rw [o2,hdr,hln,IU];congr 1;funext z;simp),(by dsimp only;rw [FG];omega)⟩,(by dsimp only;rw [hln];omega),[0,1,2,3,6],rfl,⟨rfl,rfl,rfl,rfl,rfl,rfl,congrArg (fun z : Int => some (AV.i z)) (by dsimp only;rw [FG];omega),(by dsimp only;rw [hln];rfl),trivial⟩,⟨.inr rfl,.inr rfl,.inr (bM rfl rfl hLi),.inr (congrArg (fun n : Nat => some (AB.cells [.rowE (bV W) 3,.i due,.i 1,.sl 6 0 n 1])) hln).symm,.inr (bM rfl (WH N lt) (C6 _)),trivial⟩,by decide,iK _⟩
          · have hrn : lH W t2 = some (N,s4) := by rw [o2,dH (by omega),GG]
            rw [hrn,Option.bind_some] at hod;dsimp only at hod;rw [AQ] at hod;refine W9 3 3 rfl rfl rfl hNl.symm (TW N) ?_;refine fY [(4,.ptr 0 0),(5,.ptr 1 0),(6,.i n),(7,.i (n - ((k + 1 : Nat) : Int))),(8,.ptr 3 0),(9,.i m),(12,.i (Q8 N : Int)),(13,.i (N.length : Int))] [oG s4,.cells [.sl 2 0 L.length 4],.arr (J2 L) 4,.cells (iT ⟨W,due,1,N⟩ (mA N))] ⟨[0,1,2,3],rfl,(by repeat first|exact trivial|refine ⟨rfl,?_⟩),⟨.inr rfl,.inr rfl,.inr (bM rfl rfl hLi),.inr rfl,trivial⟩,by decide,iK _⟩ ?_
            by_cases hz : Q8 N = 0
            · rw [decide_eq_true hz,if_pos rfl] at hod
              (repeat' (first|refine wS ?_|refine wR ?_|refine wE ?_|refine wT ?_|refine wU ?_|(refine rg 22 (dS rfl (vV (cX rfl rfl (by omega)) (mV ?_)));(iterate 4 refine gF ?_);refine pV ?_)|(refine rg 29 (fW T rfl (eT T rfl (vV (lS rfl rfl rfl) (mW rfl (yN rfl (yV (lS rfl rfl (by omega)) (pV ?_))))))))|(refine rg 30 (kJ ?_))|refine nZ ?_));all_goals first | (exfalso;omega) | exact ⟨.inl rfl,_,rfl,hfail hod _⟩
            · rw [decide_eq_false hz,if_neg (by decide)] at hod
              have hnx := hnext hod
              (repeat' (first|refine wS ?_|refine wK ?_|refine wE ?_|refine wU ?_|(refine rg 22 (dS rfl (vV (cX rfl rfl (by omega)) (mV ?_)));(iterate 4 refine gF ?_);refine pV ?_)|(refine rg 29 (fW T rfl (eT T rfl (vV (lS rfl rfl rfl) (mW rfl (yN rfl (yV (oT rfl rfl (by omega)) (pV ?_))))))))|refine nZ ?_));all_goals try (exfalso;omega)
              refine fY [(4,.ptr 0 0),(5,.ptr 1 0),(6,.i n),(7,.i (n - ((k + 1 : Nat) : Int))),(8,.ptr 3 0)] [oG s4,.cells [.sl 2 0 L.length 4],.arr (J2 L) 4,.cells (iT ⟨W,due,1,N⟩ (mA N))] ⟨[0,1,2,3],rfl,(by repeat first|exact trivial|refine ⟨rfl,?_⟩),⟨.inr rfl,.inr rfl,.inr (bM rfl rfl hLi),.inr rfl,trivial⟩,by decide,iK _⟩ ?_
              (repeat' (first|(refine pM (id := 31) 166 zS8 (rM 139 10) zT8 [(7,2),(10,1)] dZ rfl (by decide +kernel) (eI rfl rfl rfl rfl (by exact fD rfl) ?_);refine eI rfl rfl rfl rfl (by exact fD rfl) ?_;refine eI rfl rfl rfl rfl (by exact cO rfl rfl) ?_;refine eI rfl rfl rfl rfl (by exact eA T rfl rfl rfl) ?_;refine eI rfl rfl rfl rfl (by exact aX T rfl rfl rfl rfl) ?_;refine eI rfl rfl rfl rfl (by exact aX T rfl rfl rfl rfl) ?_;refine V9 rfl rfl rfl rfl (by exact bO T rfl rfl (by decide) (by decide) rfl rfl rfl) rfl ?_;refine uU rfl rfl rfl rfl (bC rfl) (by exact sK T rfl rfl rfl rfl rfl rfl (by simp) (jA.whole rfl rfl) rfl (by simp;omega) (by simp;omega)) ?_;refine eI rfl rfl rfl rfl (by exact cO rfl rfl) ?_;refine eI rfl rfl rfl rfl (by exact eA T rfl rfl rfl) ?_;refine L1 rfl rfl rfl rfl (bC rfl) T rfl rfl rfl rfl rfl rfl (by decide) rfl ?_;refine uG rfl rfl rfl (by exact rfl) ?_)|(refine iA 6 rfl rfl rfl (by omega) (by omega) ?_)|refine nZ ?_));all_goals try (exfalso;omega)
              have hle : (L ++ [((⟨W,due,1,N⟩ : Od),(mA N : AV))]).length = L.length + 1 := by simp
              all_goals exact ⟨⟨(k,s4,L ++ [((⟨W,due,1,N⟩ : Od),(mA N : AV))]),(by dsimp only;rw [hnx,dI];rfl),(by dsimp only;omega),(by dsimp only;rw [hle];omega),fun e he => (by
                rcases bH.1 he with he | he
                · exact g4 e he
                · rw [bK.1 he];exact .inl rfl)⟩,mG k,[0,1,5],rfl,⟨rfl,rfl,rfl,congrArg (fun z : Int => some (AV.i z)) (by dsimp only;omega),trivial⟩,⟨.inr rfl,.inr (congrArg (fun n : Nat => some (AB.cells [.sl 5 0 n 4])) hle).symm,.inr (bM rfl (RO L ((⟨W,due,1,N⟩ : Od),(mA N : AV))) (DD fun e he => (by
                rcases bH.1 he with he | he
                · exact g4 e he
                · rw [bK.1 he];exact .inl rfl))),trivial⟩,by decide,iK _⟩
        · rw [if_pos hs1] at hod;have hnx := hnext hod
          (repeat' (first|refine wS ?_|refine wB ?_|refine wK ?_|(refine wC rfl ?_ ?_<;>(intro hb;(try simp only [nm] at hb);try (exfalso;omega)))|(refine rg 18 (fW T rfl (eT T rfl (qW T rfl (mW rfl (vV (iC rfl rfl (by omega)) (mW rfl (yP T rfl (yP T rfl (yL T ?_)))))))));refine yP T rfl (yP T rfl (yO T rfl (yV (kC (hrw)) (yV (cV rfl) (pW rfl (mW rfl (yP T rfl (yP T rfl (yL T ?_)))))))));refine yV (bE rfl rfl) (pW rfl (mV ?_));refine bP rfl rfl ?_ ?_<;>(intro hb;rw [hb];(try simp only [nm] at hb);try (exfalso;omega));(all_goals (refine yP T rfl (yP T rfl (yO T rfl (yV (eN rfl rfl) (pV ?_)))))))|(refine rg 20 (aV ?_))|(refine rg 21 (aV ?_))|refine nZ ?_));all_goals try (exfalso;omega)
          refine dR (X := Unit) (fun _ => [(4,.ptr 0 0),(5,.ptr 1 0),(6,.i n),(7,.i (n - ((k + 1 : Nat) : Int))),(8,.ptr 3 0),(9,.i m),(13,.i 0)]) (fun _ => [oG t2,.cells [.sl 2 0 L.length 4],.arr (J2 L) 4,.cells (iT ⟨W,due,st,[]⟩ .nils)]) (fun _ => 0) () ⟨[0,1,2,3],rfl,(by repeat first|exact trivial|refine ⟨rfl,?_⟩),⟨.inr rfl,.inr rfl,.inr (bM rfl rfl hLi),.inr rfl,trivial⟩,by decide,iK _⟩ ?_
          rintro _
          (repeat' (first|refine wS ?_|refine wK ?_|refine wE ?_|refine wU ?_|(refine rg 22 (dS rfl (vV (cJ rfl rfl (by omega)) (mW rfl (yP T rfl (yP T rfl (yO T rfl (yV (oT rfl rfl hs1) (pV ?_)))))))))|(refine rg 29 (fW T rfl (eT T rfl (vV (oT rfl rfl hs1) (mV ?_))));(iterate 2 refine gF ?_);refine pV ?_)|refine nZ ?_));all_goals try (exfalso;omega)
          refine fY [(4,.ptr 0 0),(5,.ptr 1 0),(6,.i n),(7,.i (n - ((k + 1 : Nat) : Int))),(8,.ptr 3 0)] [oG t2,.cells [.sl 2 0 L.length 4],.arr (J2 L) 4,.cells (iT ⟨W,due,st,[]⟩ .nils)] ⟨[0,1,2,3],rfl,(by repeat first|exact trivial|refine ⟨rfl,?_⟩),⟨.inr rfl,.inr rfl,.inr (bM rfl rfl hLi),.inr rfl,trivial⟩,by decide,iK _⟩ ?_
          (repeat' (first|(refine pM (id := 31) 166 zS8 (rM 139 10) zT8 [(7,2),(10,1)] dZ rfl (by decide +kernel) (eI rfl rfl rfl rfl (by exact fD rfl) ?_);refine eI rfl rfl rfl rfl (by exact fD rfl) ?_;refine eI rfl rfl rfl rfl (by exact cO rfl rfl) ?_;refine eI rfl rfl rfl rfl (by exact eA T rfl rfl rfl) ?_;refine eI rfl rfl rfl rfl (by exact aX T rfl rfl rfl rfl) ?_;refine eI rfl rfl rfl rfl (by exact aX T rfl rfl rfl rfl) ?_;refine V9 rfl rfl rfl rfl (by exact bO T rfl rfl (by decide) (by decide) rfl rfl rfl) rfl ?_;refine uU rfl rfl rfl rfl (bC rfl) (by exact sK T rfl rfl rfl rfl rfl rfl (by simp) (jA.whole rfl rfl) rfl (by simp;omega) (by simp;omega)) ?_;refine eI rfl rfl rfl rfl (by exact cO rfl rfl) ?_;refine eI rfl rfl rfl rfl (by exact eA T rfl rfl rfl) ?_;refine L1 rfl rfl rfl rfl (bC rfl) T rfl rfl rfl rfl rfl rfl (by decide) rfl ?_;refine uG rfl rfl rfl (by exact rfl) ?_)|(refine iA 6 rfl rfl rfl (by omega) (by omega) ?_)|refine nZ ?_));all_goals try (exfalso;omega)
          have hle : (L ++ [((⟨W,due,st,[]⟩ : Od),(AV.nils : AV))]).length = L.length + 1 := by simp
          all_goals exact ⟨⟨(k,t2,L ++ [((⟨W,due,st,[]⟩ : Od),(AV.nils : AV))]),(by dsimp only;rw [hnx,dI];rfl),(by dsimp only;omega),(by dsimp only;rw [hle];omega),fun e he => (by
            rcases bH.1 he with he | he
            · exact g4 e he
            · rw [bK.1 he];exact .inr ⟨rfl,rfl⟩)⟩,mG k,[0,1,5],rfl,⟨rfl,rfl,rfl,congrArg (fun z : Int => some (AV.i z)) (by dsimp only;omega),trivial⟩,⟨.inr rfl,.inr (congrArg (fun n : Nat => some (AB.cells [.sl 5 0 n 4])) hle).symm,.inr (bM rfl (RO L ((⟨W,due,st,[]⟩ : Od),(AV.nils : AV))) (DD fun e he => (by
            rcases bH.1 he with he | he
            · exact g4 e he
            · rw [bK.1 he];exact .inr ⟨rfl,rfl⟩))),trivial⟩,by decide,iK _⟩
  · have hrb : kA k s (L.map (·.1)) = some (L.map (·.1),s) := by
      cases k with
      | zero => rfl
      | succ k => rw [kA,if_pos (by omega)]
    rw [g1,hrb,Option.bind_some] at hro;dsimp only at hro;rw [bF] at hro;have cD := WU s;apply uI (I := Unit) (fun _ => [(4,.ptr 0 0),(5,.ptr 1 0),(6,.i n)]) (fun _ => [oG s,.cells [.sl 2 0 L.length 4],.arr (J2 L) 4]) (fun _ => True)
    case h1 =>
      intro rest;by_cases hk0 : 0 < k
      · (repeat' (first|refine wS ?_|refine wE ?_|refine kN rfl ?_|(refine rg 5 (dS rfl (vV (cJ rfl rfl (by omega)) (mW rfl (yN rfl (gT (bR [0] rfl rfl cL rfl rfl (by decide) ⟨.inr rfl,trivial⟩ (by simp) rfl ?_))))));refine yV (iU rfl rfl (by omega)) (pV ?_))|(refine nZ ?_)));all_goals try (exfalso;omega)
        all_goals exact fY [(4,.ptr 0 0),(5,.ptr 1 0),(6,.i n)] [oG s,.cells [.sl 2 0 L.length 4],.arr (J2 L) 4] ⟨[0,1,2],rfl,(by repeat first|exact trivial|refine ⟨rfl,?_⟩),⟨.inr rfl,.inr rfl,.inr (bM rfl rfl hLi),trivial⟩,by decide,iK _⟩ (rest () trivial)
      · (repeat' (first|refine wS ?_|refine wE ?_|refine kN rfl ?_|(refine rg 5 (dS rfl (vV (cX rfl rfl (by omega)) (mV ?_)));(iterate 3 refine gF ?_);refine pV ?_)|(refine nZ ?_)));all_goals try (exfalso;omega)
        all_goals exact fY [(4,.ptr 0 0),(5,.ptr 1 0),(6,.i n)] [oG s,.cells [.sl 2 0 L.length 4],.arr (J2 L) 4] ⟨[0,1,2],rfl,(by repeat first|exact trivial|refine ⟨rfl,?_⟩),⟨.inr rfl,.inr rfl,.inr (bM rfl rfl hLi),trivial⟩,by decide,iK _⟩ (rest () trivial)
    rintro _ _;by_cases hs : s = some []
    · rw [decide_eq_true hs] at cD;by_cases hgood : (L.length : Int) = n ∧ n ≤ 1000
      · rw [if_pos ⟨hs,hgood.1,hgood.2⟩] at hro;obtain ⟨gd1,gd2⟩ := hgood;have key : yQ l (.tup [.ptr 1 0,.b true]) [oG s,.cells [.sl 2 0 L.length 4],.arr (J2 L) 4] := by unfold yQ;rw [hro];exact ⟨2,rfl,L,⟨rfl,rfl,g4⟩,rfl⟩
        (repeat' (first|refine wS ?_|refine wK ?_|refine wR ?_|refine wU ?_|(refine rg 32 (mW rfl (bR [0] rfl rfl cD rfl rfl (by decide) ⟨.inr rfl,trivial⟩ (by simp) rfl ?_));refine vV (cV rfl) (mW rfl (yN rfl (gT (nV ?_))));refine yP T rfl (yO T rfl (gT (qW T rfl (yN rfl (yV (iC rfl rfl (by omega)) (pW rfl (mW rfl (yN rfl (yV (iU rfl rfl (by omega)) ?_)))))))));refine pV ?_)|(refine rg 34 (mW rfl (kJ ?_)))|refine nZ ?_));all_goals first | (exfalso;omega) | exact ⟨.inl rfl,_,rfl,key⟩
      · rw [if_neg (fun h => hgood ⟨h.2.1,h.2.2⟩)] at hro;by_cases hgl : (L.length : Int) = n
        · have hgn : 1000 < n := Int.not_le.1 fun h => hgood ⟨hgl,h⟩
          (repeat' (first|refine wS ?_|refine wR ?_|refine wT ?_|(refine rg 32 (mW rfl (bR [0] rfl rfl cD rfl rfl (by decide) ⟨.inr rfl,trivial⟩ (by simp) rfl ?_));refine vV (cV rfl) (mW rfl (yN rfl (gT (nV ?_))));refine yP T rfl (yO T rfl (gT (qW T rfl (yN rfl (yV (iC rfl rfl (by omega)) (pW rfl (mW rfl (yN rfl (yV (iE rfl rfl (by omega)) ?_)))))))));refine pV ?_)|(refine rg 33 (kJ ?_))|refine nZ ?_));all_goals first | (exfalso;omega) | exact ⟨.inl rfl,_,rfl,hnoR hro _⟩
        · (repeat' (first|refine wS ?_|refine wR ?_|refine tE rfl ?_|(refine rg 32 (mW rfl (bR [0] rfl rfl cD rfl rfl (by decide) ⟨.inr rfl,trivial⟩ (by simp) rfl ?_));refine vV (cV rfl) (mW rfl (yN rfl (gT (nV ?_))));refine yP T rfl (yO T rfl (gT (qW T rfl (yN rfl (yV (qQ rfl rfl (by omega)) (pW rfl (mV ?_)))))));(iterate 2 refine gF ?_);refine pV ?_)|(refine rg 33 (kJ ?_))|(refine nZ ?_)));all_goals first | (exfalso;omega) | exact ⟨.inl rfl,_,rfl,hnoR hro _⟩
    · rw [decide_eq_false hs] at cD;rw [if_neg (fun h => hs h.1)] at hro
      (repeat' (first|refine wS ?_|refine wR ?_|refine wT ?_|(refine rg 32 (mW rfl (bR [0] rfl rfl cD rfl rfl (by decide) ⟨.inr rfl,trivial⟩ (by simp) rfl ?_));refine vV (cV rfl) (mV ?_);(iterate 7 refine gF ?_);refine pW rfl (mV ?_);(iterate 2 refine gF ?_);refine pV ?_)|(refine rg 33 (kJ ?_))|refine nZ ?_));all_goals first | (exfalso;omega) | exact ⟨.inl rfl,_,rfl,hnoR hro _⟩
end Go.Proofs.YtdfmhddmddgniaaGreatDoor
namespace Go.Or
open Go Go.Ab Go.Wr Go.Proofs.YtdfmhddmddgniaaGreatDoor
theorem G9.shift {H o : Hp} {pb po : Nat} {L : NO} (h : G9 o pb po L) : G9 (H ++ o.map (AB.map (· + H.length))) (pb + H.length) (po + H.length) L := by
  refine ⟨?_,?_,h.t⟩
  · rw [K6 h.b];rfl
  · rw [K6 h.o];show some (AB.arr ((J2 L).map (AV.mapL (· + H.length))) 4) = _;rw [jI _ (DD h.t)]
theorem G8.shift {H o : Hp} {pb po : Nat} {bk : Bk} (h : G8 o pb po bk) : G8 (H ++ o.map (AB.map (· + H.length))) (pb + H.length) (po + H.length) bk := by
  obtain ⟨L,h1,h2⟩ := h;exact ⟨L,h1.shift,h2⟩
end Go.Or
namespace Go.Proofs.YtdfmhddmddgniaaGreatDoor
open Go Go.Ab Go.Or Go.Wr
attribute [local irreducible] VC AW bJ bI eO jT rZ nB qB
set_option maxHeartbeats 4000000
theorem U4 (l : List Int) (hl : l.length ≤ 1000000) : bI Tryz.prog 24 [.rowE (fQ l) 1,.rowE (fQ l) 1] [] (.b true) [] := by
  have hll : (fQ l).length = l.length := bF _;refine dA T Tryz.func24 rfl rfl rfl rfl ?_
  (repeat' (first|refine wS ?_|refine wB ?_|refine wK ?_|refine wU ?_|(refine rg 0 (aV ?_))|(refine rg 1 (mW rfl (qW T rfl (mW rfl (qW T rfl (vV (iC rfl rfl rfl) ?_))))))|(refine rg 3 (aV ?_))|refine nZ ?_));all_goals try first | (exfalso;omega;done) | exact absurd trivial hb
  refine dR (X := {k : Nat // k ≤ l.length}) (fun k => [(0,.rowE (fQ l) 1),(1,.rowE (fQ l) 1),(5,.i k.1)]) (fun _ => []) (fun k => l.length - k.1) ⟨0,bG _⟩ ⟨[],rfl,by (repeat (first | exact trivial | refine ⟨rfl,?_⟩)),trivial,aI,iK _⟩ ?_
  rintro ⟨k,hk⟩;dsimp only;by_cases hlt : k < l.length
  · have hg : (fQ l)[(k : Int).toNat]? = some [AV.i l[k]] := by simp [hlt]
    generalize l[k] = w at *;have hnl : ∀ e,e ∈ fQ l → e.length = 1 := fun e he => by obtain ⟨x,_,rfl⟩ := aK.1 he;rfl
    (repeat' (first|refine wS ?_|refine wB ?_|refine wK ?_|refine wT ?_|refine wU ?_|(refine rg 4 (dS rfl (qW T rfl (vV (cJ rfl rfl (by omega)) ?_))))|(refine cS (id := 6) 26 zS9 (rM 17 9) zT0 dZ rfl (by decide +kernel) (dN rfl (dN rfl (dV rfl (ix T rfl (by omega) hnl hg) (dO T rfl (dN rfl (dN rfl (dV rfl (ix T rfl (by omega) hnl hg) (dO T rfl (dV rfl (iC rfl rfl rfl) ?_)))))))));refine dE ?_)|(refine iA 5 rfl rfl rfl (by omega) (by omega) ?_)|refine nZ ?_));all_goals first | (exfalso;omega) | exact ⟨⟨k + 1,hlt⟩,by dsimp only;omega,[],rfl,by (repeat (first | exact trivial | refine ⟨rfl,?_⟩)),trivial,aI,iK _⟩
  · obtain rfl : k = l.length := by omega
    (repeat' (first|refine wS ?_|refine wR ?_|refine wE ?_|refine wU ?_|(refine rg 4 (dS rfl (qW T rfl (vV (cX rfl rfl (by omega)) ?_))))|(refine rg 8 (aV ?_))|refine nZ ?_));all_goals first | (exfalso;omega) | exact rQ
theorem zI6 {H : Hp} {pb po : Nat} {bk : Bk} (hB : G8 H pb po bk) (ok : oS bk) (hlen : bk.length ≤ 50) (ls : List Lo) (sure : List Bo) (hs : wW ls sure) (o : Or.Op) (hw : o.ws.length ≤ 1000000) :
    eO Tryz.prog 11 [.ptr pb 0,.agg (zJ0 o),.rowE (iX ls) 3,.rowE (eY sure) 3] H (zG2 H pb po (.tup [.i (Z4 ls sure bk o).1.1,.i (Z4 ls sure bk o).1.2]) (Z4 ls sure bk o).2) := by
  obtain ⟨d,no,b,n,t,ws⟩ := o;dsimp only at hw;have hB1 := hB.app [.gone];have hz := ok.sz;have hst : ∀ o,o ∈ bk → 0 ≤ o.st := fun o ho => (ok.od o ho).st0;have fin : ∀ {x : AV} {bk' : Bk} {o : Hp},(∃ po',G8 o pb po' bk' ∧ Fr (H ++ [.gone]) [pb,po] o [pb,po']) → zG2 H pb po x bk' x o := fun {x bk' o} ⟨po',h1,h2⟩ => ⟨rfl,po',h1,(Fr.app H _ _).trans h2⟩;have hask := zA9 hB1 ws t (by omega) hw
  have hpro := JW hB1 hz hst ls sure hs no;have hsrv := RJ hB1 ok no b n t;have hwdr := FY hB1 no (by omega) hst
  have hgiv := OH hB1 no (by omega) hst
  have hid : ∃ po',G8 (H ++ [.gone]) pb po' bk ∧ Fr (H ++ [.gone]) [pb,po] (H ++ [.gone]) [pb,po'] := ⟨po,hB1,Fr.refl _ _⟩;refine jS T Tryz.func11 rfl rfl rfl rfl ?_;unfold Z4;dsimp only
  (repeat' (first|refine wS ?_|(refine rg 0 (dQ (fE rfl rfl) rfl (kJ ?_)))|refine nZ ?_));refine fK 5 (cs := [.i d,.i no,.i b,.i n,.i t,.rowE (bV ws) 3]) rfl bY rfl ?_
  rw [jR];by_cases h0 : d = 0
  · rw [if_pos h0]
    (repeat' (first|refine wS ?_|refine wB ?_|refine wR ?_|(refine wC rfl ?_ ?_<;>(intro hb;(try simp only [nm] at hb);try (exfalso;omega)))|(refine rg 1 (IA T ?_))|(refine rg 2 (vV (cW rfl rfl) (aV ?_)))|(refine rg 3 (mW rfl (eT T rfl (eT T rfl (eU rfl rfl hask rfl ?_))));rintro _ _ ⟨rfl,hq⟩;dsimp only [fR];refine xW rfl (xW rfl (kJ ?_)))|refine nZ ?_));all_goals first | (exfalso;omega) | exact ⟨.inl rfl,_,rfl,fin hq⟩
  rw [if_neg h0];by_cases h1 : d = 1
  · rw [if_pos h1]
    (repeat' (first|refine wS ?_|refine wB ?_|refine wR ?_|(refine wC rfl ?_ ?_<;>(intro hb;(try simp only [nm] at hb);try (exfalso;omega)))|(refine rg 1 (IA T ?_))|(refine rg 2 (vV (cW rfl rfl) (aV ?_)))|(refine rg 4 (vV (cW rfl rfl) (aV ?_)))|(refine rg 5 (mW rfl (eT T rfl (dS rfl (eU rfl rfl hpro rfl ?_))));rintro _ _ ⟨rfl,hq⟩;dsimp only [fR];refine kJ ?_)|refine nZ ?_));all_goals first | (exfalso;omega) | exact ⟨.inl rfl,_,rfl,fin hq⟩
  rw [if_neg h1];by_cases h2 : d = 2
  · rw [if_pos h2]
    (repeat' (first|refine wS ?_|refine wB ?_|refine wR ?_|(refine wC rfl ?_ ?_<;>(intro hb;(try simp only [nm] at hb);try (exfalso;omega)))|(refine rg 1 (IA T ?_))|(refine rg 2 (vV (cW rfl rfl) (aV ?_)))|(refine rg 4 (vV (cW rfl rfl) (aV ?_)))|(refine rg 6 (vV (cW rfl rfl) (aV ?_)))|(refine rg 7 (mW rfl (eT T rfl (eT T rfl (eT T rfl (eT T rfl (eU rfl rfl hsrv rfl ?_))))));rintro _ _ ⟨rfl,hq⟩;dsimp only [fR];refine kJ ?_)|refine nZ ?_));all_goals first | (exfalso;omega) | exact ⟨.inl rfl,_,rfl,fin hq⟩
  rw [if_neg h2];by_cases h3 : d = 3
  · rw [if_pos h3]
    (repeat' (first|refine wS ?_|refine wB ?_|refine wR ?_|(refine wC rfl ?_ ?_<;>(intro hb;(try simp only [nm] at hb);try (exfalso;omega)))|(refine rg 1 (IA T ?_))|(refine rg 2 (vV (cW rfl rfl) (aV ?_)))|(refine rg 4 (vV (cW rfl rfl) (aV ?_)))|(refine rg 6 (vV (cW rfl rfl) (aV ?_)))|(refine rg 8 (vV (cW rfl rfl) (aV ?_)))|(refine rg 9 (mW rfl (eT T rfl (eU rfl rfl hwdr rfl ?_)));rintro _ _ ⟨rfl,hq⟩;dsimp only [fR];refine kJ ?_)|refine nZ ?_));all_goals first | (exfalso;omega) | exact ⟨.inl rfl,_,rfl,fin hq⟩
  rw [if_neg h3];by_cases h4 : d = 4
  · rw [if_pos h4]
    (repeat' (first|refine wS ?_|refine wB ?_|refine wR ?_|(refine wC rfl ?_ ?_<;>(intro hb;(try simp only [nm] at hb);try (exfalso;omega)))|(refine rg 1 (IA T ?_))|(refine rg 2 (vV (cW rfl rfl) (aV ?_)))|(refine rg 4 (vV (cW rfl rfl) (aV ?_)))|(refine rg 6 (vV (cW rfl rfl) (aV ?_)))|(refine rg 8 (vV (cW rfl rfl) (aV ?_)))|(refine rg 10 (vV (cW rfl rfl) (aV ?_)))|(refine rg 11 (mW rfl (eT T rfl (eU rfl rfl hgiv rfl ?_)));rintro _ _ ⟨rfl,hq⟩;dsimp only [fR];refine kJ ?_)|refine nZ ?_));all_goals first | (exfalso;omega) | exact ⟨.inl rfl,_,rfl,fin hq⟩
  rw [if_neg h4]
  (repeat' (first|refine wS ?_|refine wB ?_|refine wK ?_|refine wR ?_|(refine wC rfl ?_ ?_<;>(intro hb;(try simp only [nm] at hb);try (exfalso;omega)))|(refine rg 1 (IA T ?_))|(refine rg 2 (vV (cW rfl rfl) (aV ?_)))|(refine rg 4 (vV (cW rfl rfl) (aV ?_)))|(refine rg 6 (vV (cW rfl rfl) (aV ?_)))|(refine rg 8 (vV (cW rfl rfl) (aV ?_)))|(refine rg 10 (vV (cW rfl rfl) (aV ?_)))|(refine rg 12 (kJ ?_))|refine nZ ?_));all_goals first | (exfalso;omega) | exact ⟨.inl rfl,_,rfl,fin hid⟩
end Go.Proofs.YtdfmhddmddgniaaGreatDoor
namespace Go.Or
open Go Go.Ab Go.Wr Go.Proofs.YtdfmhddmddgniaaGreatDoor
structure YW (X : Hp) (pb pr : Nat) (bk : Bk) (A : List Nat) (po : Nat) : Prop where
  b : zR X pb bk A
  r : G8 X pr po bk
  d1 : pr ∉ A
  d2 : po ∉ A
theorem YW.app {X : Hp} {pb pr po : Nat} {bk : Bk} {A : List Nat} (h : YW X pb pr bk A po) (Z : Hp) : YW (X ++ Z) pb pr bk A po := ⟨h.b.app Z,h.r.app Z,h.d1,h.d2⟩
theorem YW.mid {X Y : Hp} {pb pb2 pr po : Nat} {bk bk' : Bk} {A A2 : List Nat} (h : YW X pb pr bk A po) (hb : zR Y pb2 bk' A2) (hF : Fr X A Y A2) : G8 Y pr po bk ∧ pr ∉ A2 ∧ po ∉ A2 := by
  have hlt := h.r.lt
  have hO := hF.other (B := [pr,po]) (fun k hk => by
    simp only [aT,cG,or_false] at hk;rcases hk with rfl | rfl
    · exact h.d1
    · exact h.d2) hlt
  exact ⟨h.r.frame (hO.1 pr (by simp)) (hO.1 po (by simp)),hO.2 pr (by simp),hO.2 po (by simp)⟩
theorem YW.next {Y V : Hp} {pb2 pr po po' : Nat} {bk' : Bk} {A2 : List Nat} (hb : zR Y pb2 bk' A2) (d1 : pr ∉ A2) (d2 : po ∉ A2) (hr : G8 V pr po' bk') (hF : Fr Y [pr,po] V [pr,po']) : YW V pb2 pr bk' A2 po' := by
  have hlt := hb.lt
  have hO := hF.other (B := A2) (fun k hk hm => by
    simp only [aT,cG,or_false] at hm;rcases hm with rfl | rfl
    · exact d1 hk
    · exact d2 hk) hlt
  exact ⟨hb.frame hO.1,hr,fun hk => hO.2 _ hk (by simp),fun hk => hO.2 _ hk (by simp)⟩
theorem pC.wsT {o : Od} (h : pC o) : o.tk.length ≤ o.ws.length ∧ o.ws.length ≤ 1000000 := by
  have hw := (tX h.ws).2.1;by_cases h1 : o.st = 1
  · have := h.len h1;omega
  · rw [h.tk0 h1];exact ⟨bG _,by omega⟩
end Go.Or
namespace Go.Proofs.YtdfmhddmddgniaaGreatDoor
open Go Go.Ab Go.Or Go.Wr
theorem HL {P : Program} {env : dD} {h : Hp} {d : Option Nat} {ty : TypeId} {pos : String} {af : Array Edge} {g : Option (Nat × Bool)} {t t2 te : TypeId} {x y : Operand} (ht : P.underlying t = some (.pointer te)) (hx : evu env x = some (.v (.pointer none))) (hy : evu env y = some (.v (.pointer none))) :
    bJ P ⟨d,.binOp .neq t x y t2,ty,pos,af,g⟩ env h 0 (fun _ => .b false) (fun _ => []) := by
  refine fL fun ρ S a w p => ⟨.bool false,?_,by simp [R]⟩
  have h1 := pZ (p.evu hx);have h2 := pZ (p.evu hy);have ht' : P.underlying t = some (.pointer (P.pointee t)) := by simp [Program.pointee,ht]
  have hq : eqGuard .neq t x y (.pointer none) (.pointer none) = pure () := by rfl
  have hr : (binOp .neq t (.pointer none) (.pointer none)).run P w = .ok (.bool false) w := by rw [run_neq_pointer_nil (P := P) w t none ht'];rfl
  simp [execOp,h1,h2,hq,hr]
section
variable {P : Program} {env : dD} {h : Hp} {d : Option Nat} {ty : TypeId} {pos : String} {af : Array Edge} {g : Option (Nat × Bool)} {t t2 te : TypeId} {x y : Operand} {u z : AV}
theorem YA (ht : rZ P t te) (hx : evu env x = some u) (hz : u.plus 0 = some z) (hy : evu env y = some (.v (.pointer none))) : bJ P ⟨d,.binOp .neq t x y t2,ty,pos,af,g⟩ env h 0 (fun _ => .b true) (fun _ => []) := AE ht hx hz hy
theorem YB (ht : rZ P t te) (hx : evu env x = some (.v (.pointer none))) (hy : evu env y = some (.v (.pointer none))) : bJ P ⟨d,.binOp .neq t x y t2,ty,pos,af,g⟩ env h 0 (fun _ => .b false) (fun _ => []) := HL ht hx hy
end
attribute [local irreducible] VC AW bJ bI eO jT rZ nB qB
set_option maxHeartbeats 4000000
theorem TS {env : dD} {h : Hp} {d : Option Nat} {t t2 : TypeId} {ty : TypeId} {pos : String} {af : Array Edge} {g : Option (Nat × Bool)} {x y : Operand} {a : List UInt8} {P : Program} (hx : evu env x = some (.s a)) (hy : evu env y = some (.s a)) : bJ P ⟨d,.binOp .eql t x y t2,ty,pos,af,g⟩ env h 0 (fun _ => .b true) (fun _ => []) := by
  have := F7 (P := P) (d := d) (ty := ty) (pos := pos) (af := af) (g := g) (h := h) (t := t) (t2 := t2) hx hy;simpa using this
theorem zB0 : rZ Tryz.prog 30 46 := by unfold rZ;kernel_rfl
theorem WI (ls : List Lo) (sure : List Bo) (l : List Or.Op) (tick : Int) (s : List UInt8) (hl : ls.length ≤ 9223372036854775807) (hbs : sure.length ≤ 9223372036854775807) (ho : l.length ≤ 9223372036854775807) (hI : ∀ o,o ∈ l → ∀ w,w ∈ o.ws → qH w.1) :
    eO Tryz.prog 3 [.rowE (iX ls) 3,.rowE (eY sure) 3,.rowE (A8 l) 6,.i tick,.s s] [] (fun r _ => r = .b true) := by
  have hfew := YJ l 40 ho;have hgiv := XW ls sure hl hbs;refine jS T Tryz.func3 rfl rfl rfl rfl ?_;cases hf : NE l 40 with
  | false =>
    rw [hf] at hfew
    (repeat' (first|refine wS ?_|refine wR ?_|refine wT ?_|(refine rg 0 (aV ?_))|(refine rg 1 (vV (kC (D0)) (aV ?_)))|(refine rg 2 (mW rfl (vV (kC (hfew)) (vV (cV rfl) (mV ?_))));(iterate 3 refine gF ?_);refine pW rfl (mV ?_);(iterate 4 refine gF ?_);refine pV ?_)|(refine rg 3 (mW rfl (aV ?_)))|refine nZ ?_));all_goals first | (exfalso;omega) | exact ⟨.inl rfl,_,rfl,rfl⟩
  | true =>
    rw [hf] at hfew;by_cases hs : 400 < s.length
    · (repeat' (first|refine wS ?_|refine wR ?_|refine tE rfl ?_|(refine rg 0 (aV ?_))|(refine rg 1 (vV (kC (D0)) (aV ?_)))|(refine rg 2 (mW rfl (vV (kC (hfew)) (vV (cV rfl) (mW rfl (yN rfl (yV (fF eK rfl) (yV (iE rfl rfl (by omega)) (pW rfl (mV ?_)))))))));(iterate 4 refine gF ?_);refine pV ?_)|(refine rg 3 (mW rfl (aV ?_)))|(refine nZ ?_)));all_goals first | (exfalso;omega) | exact ⟨.inl rfl,_,rfl,rfl⟩
    cases hg : K5 ls sure with
    | false =>
      rw [hg] at hgiv
      (repeat' (first|refine wS ?_|refine wR ?_|refine wT ?_|(refine rg 0 (aV ?_))|(refine rg 1 (vV (kC (D0)) (aV ?_)))|(refine rg 2 (mW rfl (vV (kC (hfew)) (vV (cV rfl) (mW rfl (yN rfl (yV (fF eK rfl) (yV (iU rfl rfl (by omega)) (pW rfl (mV ?_)))))))));refine yN rfl (yN rfl (yV (kC (hgiv)) (yV (cV rfl) (pV ?_)))))|(refine rg 3 (mW rfl (aV ?_)))|refine nZ ?_));all_goals first | (exfalso;omega) | exact ⟨.inl rfl,_,rfl,rfl⟩
    | true =>
      rw [hg] at hgiv;have hso := U9 hg;have hlen : l.length ≤ 40 ∧ ∀ o,o ∈ l → o.ws.length ≤ 6 := by
        unfold NE at hf;simp only [aN,decide_eq_true_eq,bD] at hf;exact ⟨hf.2,fun o h => hf.1 o h⟩
      have hol := BS l;have hll := hso.ll;have hsl := hso.sl;have hbl0 := fM sure
      (repeat' (first|refine wS ?_|refine wB ?_|refine wK ?_|refine wU ?_|(refine rg 0 (aV ?_))|(refine rg 1 (vV (kC (D0)) (aV ?_)))|(refine rg 2 (mW rfl (vV (kC (hfew)) (vV (cV rfl) (mW rfl (yN rfl (yV (fF eK rfl) (yV (iU rfl rfl (by omega)) (pW rfl (mV ?_)))))))));refine yN rfl (yN rfl (yV (kC (hgiv)) (yV (cV rfl) (pV ?_)))))|(refine rg 4 (bR [] rfl rfl SR rfl rfl (by decide) trivial (by simp) rfl ?_);refine aV ?_)|(refine rg 5 (bR [] rfl rfl RN rfl rfl (by decide) trivial (by simp) rfl ?_);refine aV ?_)|(refine rg 6 (mW rfl (vV (by exact V1 KG rfl rfl rfl) ?_)))|(refine rg 8 (aV ?_))|refine nZ ?_));all_goals try (exfalso;omega)
      refine rY 0 0 4 rfl rfl (by decide) ?_
      refine rY 1 0 4 rfl rfl (by decide) ?_
      refine lK (X := {x : Nat × Bk × Nat × List Nat × Nat × Hp // x.1 ≤ l.length ∧ oS x.2.1 ∧ QI x.2.1 ∧ x.2.1.length ≤ x.1 ∧ YW x.2.2.2.2.2 x.2.2.1 1 x.2.1 x.2.2.2.1 x.2.2.2.2.1}) (fun x => [(0, .rowE (iX ls) 3), (1, .rowE (eY sure) 3), (2, .rowE (A8 l) 6), (3, .i tick), (4, .s s), (11, .b true), (12, .ptr x.1.2.2.1 0), (13, .ptr 1 0), (14, .i (x.1.1 : Int))]) (fun x => x.1.2.2.2.2.2) (fun x => l.length - x.1.1)
        ⟨(0,[],0,[0,2],3,[.cells [.sl 2 0 0 4],.cells [.sl 3 0 0 4],.arr [] 4,.arr [] 4]),bG _,oS.nil,fun o ho => (nomatch ho),aU _,⟨⟨2,[],⟨rfl,rfl,fun e he => (nomatch he),by show ([0,2] : List Nat).Nodup;decide⟩,rfl,rfl⟩,⟨[],⟨rfl,rfl,fun e he => (nomatch he)⟩,rfl⟩,(by show 1 ∉ ([0,2] : List Nat);decide),(by show 3 ∉ ([0,2] : List Nat);decide)⟩⟩ (mP.of rfl (by repeat first|exact trivial|refine ⟨rfl,?_⟩)) ?_
      rintro ⟨⟨i,bk,pb,A,po,X⟩,g1,g2,g3,g4,g5⟩;dsimp only at g1 g2 g3 g4 g5 ⊢;by_cases hlt : i < l.length
      · have hgo := SI hlt;have hmem := aH hlt;have c2 := zO3 g5.b g2 g3 (by omega) ls sure hso l[i] (by have := hlen.2 _ hmem;omega) (.rowE (eY sure) 3) (.inl rfl)
        have c3 := fun {Y : Hp} (hr : G8 Y 1 po bk) => zI6 hr g2 (by omega) ls sure hso l[i] (by have := hlen.2 _ hmem;omega)
        have hok := zE4 (ls := ls) (sure := sure) (o := l[i]) g2;have hkn := zE5 (ls := ls) (sure := sure) (o := l[i]) g3 (hI _ hmem);have hle := YM (ls := ls) (sure := sure) (bk := bk) (o := l[i]);generalize l[i] = o at *;generalize (Z4 ls sure bk o).1.1 = n at *;generalize (Z4 ls sure bk o).1.2 = e at *;generalize (Z4 ls sure bk o).2 = bk' at *;obtain ⟨d,no,b,nn,t,ws⟩ := o;change (A8 l)[(i : Int).toNat]? = some [.i d,.i no,.i b,.i nn,.i t,.rowE (bV ws) 3] at hgo
        (repeat' (first|refine wS ?_|refine wB ?_|refine wK ?_|refine wT ?_|(refine rg 9 (dS rfl (qW T rfl (vV (cJ rfl rfl (by omega)) ?_))))|(refine rg 11 (dS rfl (mW rfl (vV (ix T rfl (by omega) (lN _) hgo) (lW T rfl (dS rfl (eU rfl rfl c2 rfl ?_))))));rintro _ Y ⟨pb2,A2,rfl,hB2,hF2⟩;dsimp only [fR];refine mW rfl (xW rfl (xW rfl (xW rfl (VV rfl (aV ?_))))))|refine nZ ?_));all_goals try (exfalso;omega)
        obtain ⟨m1,m2,m3⟩ := g5.mid hB2 hF2;have c4 := c3 m1
        (repeat' (first|refine wS ?_|(refine rg 12 (dS rfl (mW rfl (vV (ix T rfl (by omega) (lN _) hgo) (lW T rfl (dS rfl (eU rfl rfl c4 rfl ?_))))));rintro _ V ⟨rfl,po2,hR2,hF3⟩;dsimp only [fR];refine mW rfl (xW rfl (xW rfl (kJ ?_))))|refine nZ ?_));have hT := YW.next hB2 m2 m3 hR2 hF3
        refine jH [(0,.rowE (iX ls) 3),(1,.rowE (eY sure) 3),(2,.rowE (A8 l) 6),(3,.i tick),(4,.s s),(11,.b true),(13,.ptr 1 0),(14,.i (i : Int)),(15,.ptr pb2 0),(16,.i n),(17,.i e),(18,.i n),(19,.i e)] V (mP.of rfl (by repeat first|exact trivial|refine ⟨rfl,?_⟩)) ?_
        clear hB2 m1 m2 m3 hR2 hF2 hF3 c2 c4
        (repeat' (first|refine wS ?_|refine wK ?_|refine wU ?_|(refine rg 13 (mW rfl (vV (by exact V1 KG rfl rfl rfl) ?_));refine mW rfl (yN rfl (yN rfl (yV (iC rfl rfl rfl) (pW rfl (mW rfl (yN rfl (yN rfl (yV (iC rfl rfl rfl) (pV ?_))))))))))|(refine rg 15 (mW rfl (aV ?_)))|refine nZ ?_));all_goals try (exfalso;omega)
        have hok2 := hok (by omega)
        have hz := hok2.sz;have hv0 := hT.b.view;have cg1 := zD0 bk' no (by omega) fun o ho => by have := hz.ws o ho;omega
        have ct1 := QW bk' no (by omega) hz.tk
        have hbb := zM (fun o ho => ⟨hok2.od o ho,hkn o ho⟩) (by omega : bk'.length ≤ 1000000)
        have hby := P7 bk' (by omega) (fun o ho => (hok2.od o ho).odI (hkn o ho)) (by omega)
        have hrb := GI bk' (by omega) (fun o ho => (hok2.od o ho).odI (hkn o ho)) (by omega)
        have hrs := R7 bk' b (by omega) hz.tk hz.sum.bk
        have hrr := xQ bk' b (by omega) hz.tk hz.sum.bk
        have cl1 := zJ7 bk';by_cases hin : no < 0 ∨ (bk'.length : Int) ≤ no
        · rw [KW,if_pos hin] at cg1
          (repeat' (first|refine wS ?_|(refine rg 16 (dS rfl (mW rfl (vV (ix T rfl (by omega) (lN _) hgo) (eT T rfl (vV (by exact sF rfl rfl cg1 (.cons hv0 (.cons (.v _) .nil))) ?_)))));refine mW rfl (xW rfl (xW rfl (dQ (dC T rfl) rfl (bA T rfl rfl rfl rfl rfl rfl (by decide) (oC bY rfl rfl) (aV ?_))))))|refine nZ ?_));refine jH [(0,.rowE (iX ls) 3),(1,.rowE (eY sure) 3),(2,.rowE (A8 l) 6),(3,.i tick),(4,.s s),(11,.b true),(12,.ptr pb2 0),(13,.ptr 1 0),(14,.i (i : Int)),(20,.ptr V.length 0),(21,.b false)] (V ++ [.cells [.nils,.i 0,.i 0]]) (mP.of jU (by repeat first|exact trivial|refine ⟨rfl,?_⟩)) ?_
          refine fK 20 (cs := [.nils,.i 0,.i 0]) rfl bY rfl ?_;rw [jR];have hT1 := hT.app [.gone];clear hT hv0;generalize V ++ [AB.gone] = W at *;have hv := hT1.b.view;have hr := hT1.r.view;obtain ⟨L,hat,hLm⟩ := hT1.r;have hlm : bk'.length = L.length := by rw [hLm,bF]
          apply Go.Ab.cutT
          · intro rest;by_cases hn0 : no < 0
            · (repeat' (first|refine wS ?_|(refine cS (id := 17) 258 zT9 (rM 99 19) zU0 dZ rfl (by decide +kernel) (dN rfl (dN rfl (dV rfl (ix T rfl (by omega) (lN _) hgo) (dP T rfl (dO T rfl (dV rfl (eN rfl rfl) (dM ?_)))))));refine tC rfl rfl rfl rfl (fun hb => ?_) (fun hb => ?_) <;> ((rw [hb];(try simp only [nm] at hb);try ((exfalso;omega);done))) <;> (refine dG ?_);(all_goals (refine tG rfl (tG rfl (tG rfl (tG rfl (tG rfl (tG rfl (tG rfl (tG rfl (tG rfl (dG ?_)))))))));refine dV rfl (fS rfl rfl) (dE ?_);refine aV ?_)))|(refine nZ ?_)));all_goals try (exfalso;omega)
              all_goals exact jH [(0,.rowE (iX ls) 3),(1,.rowE (eY sure) 3),(2,.rowE (A8 l) 6),(3,.i tick),(4,.s s),(11,.b true),(12,.ptr pb2 0),(13,.ptr 1 0),(14,.i (i : Int)),(20,.pr [.nils,.i 0,.i 0] 0),(21,.b false),(22,.b false)] W (mP.of (List.append_nil _) (by repeat first|exact trivial|refine ⟨rfl,?_⟩)) rest.get
            · (repeat' (first|refine wS ?_|(refine cS (id := 17) 258 zT9 (rM 99 19) zU0 dZ rfl (by decide +kernel) (dN rfl (dN rfl (dV rfl (ix T rfl (by omega) (lN _) hgo) (dP T rfl (dO T rfl (dV rfl (eN rfl rfl) (dM ?_)))))));refine tC rfl rfl rfl rfl (fun hb => ?_) (fun hb => ?_) <;> ((rw [hb];(try simp only [nm] at hb);try ((exfalso;omega);done))) <;> (refine tM ?_);(all_goals (refine tN rfl (dT rfl (ix T rfl (by omega) (lN _) hgo) (tP T rfl (tO T rfl (tN rfl (dT rfl (by exact cO rfl rfl) ?_)))));refine tP T rfl (dT rfl (by exact aX T rfl rfl (bW (bL hat.b)) rfl) ?_);refine dT rfl (sG T rfl rfl) (dT rfl (cX rfl rfl (by omega)) (dV rfl (kM rfl rfl) (dE ?_)));refine aV ?_)))|(refine nZ ?_)));all_goals try (exfalso;omega)
              all_goals exact jH [(0,.rowE (iX ls) 3),(1,.rowE (eY sure) 3),(2,.rowE (A8 l) 6),(3,.i tick),(4,.s s),(11,.b true),(12,.ptr pb2 0),(13,.ptr 1 0),(14,.i (i : Int)),(20,.pr [.nils,.i 0,.i 0] 0),(21,.b false),(22,.b false)] W (mP.of (List.append_nil _) (by repeat first|exact trivial|refine ⟨rfl,?_⟩)) rest.get
          (repeat' (first|refine wS ?_|refine wK ?_|refine wU ?_|(refine cS (id := 18) 258 zU1 (rM 118 37) zU2 dZ rfl (by decide +kernel) (dN rfl (dN rfl (dV rfl (vO zL rfl rfl) (dN rfl (tN rfl (dT rfl (by exact cM rfl rfl cl1 (.cons (Go.Or.View.more hv _) .nil) rfl rfl) ?_))))));refine tN rfl (dT rfl (by exact cO rfl rfl) ?_);refine tP T rfl (dT rfl (by exact aX T rfl rfl (bW (bL hat.b)) rfl) ?_);refine dT rfl (sG T rfl rfl) (dT rfl (iC rfl rfl (by omega)) (dV rfl (fS rfl rfl) (dN rfl (tN rfl (tN rfl (tN rfl (dT rfl (ix T rfl (by omega) (lN _) hgo) (tP T rfl (tL T ?_)))))))));refine dT rfl (by exact cM rfl rfl hrs (.cons (Go.Or.View.more hv _) (.cons (.v _) .nil)) rfl rfl) ?_;refine tN rfl (tN rfl (tN rfl (dT rfl (ix T rfl (by omega) (lN _) hgo) (tP T rfl (tO T rfl (dT rfl (by exact cM rfl rfl hrr (.cons (Go.Or.View.more hr _) (.cons (.v _) .nil)) rfl rfl) ?_))))));refine dT rfl (iC rfl rfl (by omega)) (dV rfl (fS rfl rfl) (dN rfl (tN rfl (dT rfl (by exact cM rfl rfl hby (.cons (Go.Or.View.more hv _) .nil) rfl rfl) ?_))));refine tN rfl (dT rfl (by exact cM rfl rfl hrb (.cons (Go.Or.View.more hr _) .nil) rfl rfl) ?_);refine dT rfl (yE rfl rfl rfl) (dV rfl (fS rfl rfl) (dE ?_)))|(refine rg 20 (mV ?_))|(refine iA 10 rfl rfl rfl (by omega) (by omega) ?_)|refine nZ ?_));all_goals try (exfalso;omega)
          all_goals exact ⟨⟨(i + 1,bk',pb2,A2,po2,W),hlt,hok2,hkn,by dsimp only;omega,hT1⟩,by dsimp only;omega,mP.of (by first | rfl | exact List.append_nil _) (by repeat first|exact trivial|refine ⟨rfl,?_⟩)⟩
        · rw [KW,if_neg hin] at cg1;rw [if_neg hin] at ct1;obtain ⟨o1,ho1⟩ : ∃ o1,bk'.getD no.toNat jC = o1 := ⟨_,rfl⟩;have hm1 : bk'.getD no.toNat jC ∈ bk' := by rw [aD,aC (by omega : no.toNat < bk'.length)];exact aH (by omega : no.toNat < bk'.length)
          rw [ho1] at cg1 ct1 hm1;have hws1 := hz.ws _ hm1;have htk1 := hz.tk _ hm1;have hso1 := FW o1 (by omega)
          have hsp1 := FV o1.tk htk1.1 htk1.2;obtain ⟨ws1,due1,st1,tk1⟩ := o1;dsimp only at cg1 ct1 hso1 hsp1
          (repeat' (first|refine wS ?_|(refine rg 16 (dS rfl (mW rfl (vV (ix T rfl (by omega) (lN _) hgo) (eT T rfl (vV (by exact sF rfl rfl cg1 (.cons hv0 (.cons (.v _) .nil))) ?_)))));refine mW rfl (xW rfl (xW rfl (dQ (dC T rfl) rfl (bA T rfl rfl rfl rfl rfl rfl (by decide) (oC bY rfl rfl) (aV ?_))))))|refine nZ ?_));refine jH [(0,.rowE (iX ls) 3),(1,.rowE (eY sure) 3),(2,.rowE (A8 l) 6),(3,.i tick),(4,.s s),(11,.b true),(12,.ptr pb2 0),(13,.ptr 1 0),(14,.i (i : Int)),(20,.ptr V.length 0),(21,.b true)] (V ++ [.cells [.rowE (bV ws1) 3,.i due1,.i st1]]) (mP.of jU (by repeat first|exact trivial|refine ⟨rfl,?_⟩)) ?_
          refine fK 20 (cs := [.rowE (bV ws1) 3,.i due1,.i st1]) rfl bY rfl ?_;rw [jR];have hT1 := hT.app [.gone];clear hT hv0;generalize V ++ [AB.gone] = W at *;have hv := hT1.b.view;have hr := hT1.r.view;obtain ⟨L,hat,hLm⟩ := hT1.r;have hlm : bk'.length = L.length := by rw [hLm,bF]
          obtain ⟨e0,he,hge⟩ := R5 (L := L) (i := no.toNat) (by omega)
          have he1 : e0.1 = ⟨ws1,due1,st1,tk1⟩ := by rw [← hge,← hLm];exact ho1
          have hgd := T0 he;have htf := hat.t _ (aJ he);obtain ⟨o2,x1⟩ := e0;dsimp only at he1 hgd;subst he1
          (repeat' (first|refine wS ?_|(refine cS (id := 17) 258 zT9 (rM 99 19) zU0 dZ rfl (by decide +kernel) (dN rfl (dN rfl (dV rfl (ix T rfl (by omega) (lN _) hgo) (dP T rfl (dO T rfl (dV rfl (eN rfl rfl) (dM ?_)))))));refine tC rfl rfl rfl rfl ?_ ?_<;>(intro hb;rw [hb];(try simp only [nm] at hb);try (exfalso;omega))<;>(refine tM ?_);(all_goals (refine tN rfl (dT rfl (ix T rfl (by omega) (lN _) hgo) (tP T rfl (tO T rfl (tN rfl (dT rfl (by exact cO rfl rfl) ?_)))));refine tP T rfl (dT rfl (by exact aX T rfl rfl (bW (bL hat.b)) rfl) ?_);refine dT rfl (sG T rfl rfl) (dT rfl (cJ rfl rfl (by omega)) (dV rfl (kM rfl rfl) (dE ?_)));refine aV ?_)))|refine nZ ?_));all_goals try (exfalso;omega)
          refine jH [(0,.rowE (iX ls) 3),(1,.rowE (eY sure) 3),(2,.rowE (A8 l) 6),(3,.i tick),(4,.s s),(11,.b true),(12,.ptr pb2 0),(13,.ptr 1 0),(14,.i (i : Int)),(20,.pr [.rowE (bV ws1) 3,.i due1,.i st1] 0),(21,.b true),(22,.b true)] W (mP.of (List.append_nil _) (by repeat first|exact trivial|refine ⟨rfl,?_⟩)) ?_
          (repeat' (first|refine wS ?_|refine wK ?_|refine wT ?_|refine wU ?_|(refine cS (id := 18) 258 zU1 (rM 118 37) zU2 dZ rfl (by decide +kernel) (dN rfl (dN rfl (dV rfl (vO zL rfl rfl) (dN rfl (tN rfl (dT rfl (by exact cM rfl rfl cl1 (.cons (Go.Or.View.more hv _) .nil) rfl rfl) ?_))))));refine tN rfl (dT rfl (by exact cO rfl rfl) ?_);refine tP T rfl (dT rfl (by exact aX T rfl rfl (bW (bL hat.b)) rfl) ?_);refine dT rfl (sG T rfl rfl) (dT rfl (iC rfl rfl (by omega)) (dV rfl (fS rfl rfl) (dN rfl (tN rfl (tN rfl (tN rfl (dT rfl (ix T rfl (by omega) (lN _) hgo) (tP T rfl (tL T ?_)))))))));refine dT rfl (by exact cM rfl rfl hrs (.cons (Go.Or.View.more hv _) (.cons (.v _) .nil)) rfl rfl) ?_;refine tN rfl (tN rfl (tN rfl (dT rfl (ix T rfl (by omega) (lN _) hgo) (tP T rfl (tO T rfl (dT rfl (by exact cM rfl rfl hrr (.cons (Go.Or.View.more hr _) (.cons (.v _) .nil)) rfl rfl) ?_))))));refine dT rfl (iC rfl rfl (by omega)) (dV rfl (fS rfl rfl) (dN rfl (tN rfl (dT rfl (by exact cM rfl rfl hby (.cons (Go.Or.View.more hv _) .nil) rfl rfl) ?_))));refine tN rfl (dT rfl (by exact cM rfl rfl hrb (.cons (Go.Or.View.more hr _) .nil) rfl rfl) ?_);refine dT rfl (yE rfl rfl rfl) (dV rfl (fS rfl rfl) (dE ?_)))|(refine rg 20 (mV ?_))|refine nZ ?_));all_goals try (exfalso;omega)
          refine jH [(0,.rowE (iX ls) 3),(1,.rowE (eY sure) 3),(2,.rowE (A8 l) 6),(3,.i tick),(4,.s s),(11,.b true),(12,.ptr pb2 0),(13,.ptr 1 0),(14,.i (i : Int)),(20,.pr [.rowE (bV ws1) 3,.i due1,.i st1] 0)] W (mP.of (by first | rfl | exact List.append_nil _) (by repeat first|exact trivial|refine ⟨rfl,?_⟩)) ?_
          rcases htf with htf | ⟨htf,htn⟩
          · dsimp only at htf;subst htf
            (repeat' (first|refine wK ?_|refine wU ?_|(refine cS (id := 21) 258 zU3 (rM 156 38) zU4 dZ rfl (by decide +kernel) (dO T rfl (dN rfl (dV rfl (by exact cO rfl rfl) ?_)));refine dP T rfl (dV rfl (by exact aX T rfl rfl (bW (bL hat.b)) rfl) ?_);refine dN rfl (dN rfl (dV rfl (ix T rfl (by omega) (lN _) hgo) (dP T rfl (dO T rfl (dV rfl (by exact bQ T rfl rfl rfl rfl rfl (by omega) (by omega)) ?_)))));refine dP T rfl (dV rfl (by exact aX T rfl rfl (eJ (bL hat.o) hgd) rfl) ?_);refine dV rfl (kC (hso1)) (dV rfl (cV rfl) (dN rfl (tN rfl (tN rfl (tN rfl (dT rfl (ix T rfl (by omega) (lN _) hgo) (tP T rfl (tO T rfl (dT rfl (by exact sF rfl rfl ct1 (.cons (Go.Or.View.more hv _) (.cons (.v _) .nil))) ?_)))))))));refine tN rfl (dT rfl (by exact cO rfl rfl) ?_);refine tP T rfl (dT rfl (by exact aX T rfl rfl (bW (bL hat.b)) rfl) ?_);refine tN rfl (tN rfl (dT rfl (ix T rfl (by omega) (lN _) hgo) (tP T rfl (tO T rfl (dT rfl (by exact bQ T rfl rfl rfl rfl rfl (by omega) (by omega)) ?_)))));refine tP T rfl (dT rfl (by exact aX T rfl rfl (eJ (bL hat.o) hgd) rfl) ?_);refine dT rfl (kC (hsp1)) (dT rfl (cV rfl) (dV rfl (fS rfl rfl) (dE ?_))))|(refine iA 10 rfl rfl rfl (by omega) (by omega) ?_)|refine nZ ?_));all_goals try (exfalso;omega)
            all_goals exact ⟨⟨(i + 1,bk',pb2,A2,po2,W),hlt,hok2,hkn,by dsimp only;omega,hT1⟩,by dsimp only;omega,mP.of (by first | rfl | exact List.append_nil _) (by repeat first|exact trivial|refine ⟨rfl,?_⟩)⟩
          · dsimp only at htf htn;subst htf htn
            (repeat' (first|refine wK ?_|refine wU ?_|(refine cS (id := 21) 258 zU3 (rM 156 38) zU4 dZ rfl (by decide +kernel) (dO T rfl (dN rfl (dV rfl (by exact cO rfl rfl) ?_)));refine dP T rfl (dV rfl (by exact aX T rfl rfl (bW (bL hat.b)) rfl) ?_);refine dN rfl (dN rfl (dV rfl (ix T rfl (by omega) (lN _) hgo) (dP T rfl (dO T rfl (dV rfl (by exact bQ T rfl rfl rfl rfl rfl (by omega) (by omega)) ?_)))));refine dP T rfl (dV rfl (by exact aX T rfl rfl (eJ (bL hat.o) hgd) rfl) ?_);refine dV rfl (kC (hso1)) (dV rfl (cV rfl) (dN rfl (tN rfl (tN rfl (tN rfl (dT rfl (ix T rfl (by omega) (lN _) hgo) (tP T rfl (tO T rfl (dT rfl (by exact sF rfl rfl ct1 (.cons (Go.Or.View.more hv _) (.cons (.v _) .nil))) ?_)))))))));refine tN rfl (dT rfl (by exact cO rfl rfl) ?_);refine tP T rfl (dT rfl (by exact aX T rfl rfl (bW (bL hat.b)) rfl) ?_);refine tN rfl (tN rfl (dT rfl (ix T rfl (by omega) (lN _) hgo) (tP T rfl (tO T rfl (dT rfl (by exact bQ T rfl rfl rfl rfl rfl (by omega) (by omega)) ?_)))));refine tP T rfl (dT rfl (by exact aX T rfl rfl (eJ (bL hat.o) hgd) rfl) ?_);refine dT rfl (by exact cM rfl rfl hsp1 (.cons (.row _ _ _) (.cons (Go.Ab.View.nils 1) .nil)) rfl rfl) ?_;refine dT rfl (cV rfl) (dV rfl (fS rfl rfl) (dE ?_)))|(refine iA 10 rfl rfl rfl (by omega) (by omega) ?_)|refine nZ ?_));all_goals try (exfalso;omega)
            all_goals exact ⟨⟨(i + 1,bk',pb2,A2,po2,W),hlt,hok2,hkn,by dsimp only;omega,hT1⟩,by dsimp only;omega,mP.of (by first | rfl | exact List.append_nil _) (by repeat first|exact trivial|refine ⟨rfl,?_⟩)⟩
      · have hz := g2.sz;have hv := g5.b.view;have hr := g5.r.view;have hspc := MB bk sure (by omega) hz.tk hz.sum (by omega) hso.cn
        have hspr := GA bk sure (by omega) hz.tk hz.sum.bk (fun b => hz.sum.bd b) (by omega) hso.cn
        have hbr := UI ls sure bk (by omega) hz.tk hz.sum (fun o ho => (g2.od o ho).wsT) hso.ll (by omega) (fun i hi => (hso.lot i hi).2)
        have hrb := ON ls sure bk (by omega) hz.tk hz.sum.bk (fun o ho l hl t ht => ((g2.od o ho).ok l hl t ht).1) (fun o ho => (g2.od o ho).wsT) hso.ll (by omega) (fun i hi => (hso.lot i hi).2)
        have hov := OR bk tick (by omega)
        have hro := JX bk tick (by omega)
        have hsb := FX (gY bk sure) (by rw [kE];omega)
        have l1 : (pX ls sure bk).length ≤ bk.length := vC (p := rW ls sure bk);have l2 : (E2 bk tick).length ≤ bk.length := vC (p := mB tick);have hi1 := U4 (pX ls sure bk) (by omega)
        have hi2 := U4 (E2 bk tick) (by omega)
        generalize gY bk sure = sp at *;generalize pX ls sure bk = bf at *;generalize E2 bk tick = vf at *
        (repeat' (first|refine wS ?_|refine wK ?_|refine wE ?_|refine wU ?_|(refine rg 9 (dS rfl (qW T rfl (vV (cX rfl rfl (by omega)) ?_))))|(refine rg 23 (dS rfl (vV (by exact kX rfl rfl hspc (.cons hv (.cons (.row _ _ _) .nil)) (fM _).symm (xR _) (V5 _)) ?_));refine dS rfl (vV (by exact kX rfl rfl hspr (.cons hr (.cons (.row _ _ _) .nil)) (fM _).symm (xR _) (V5 _)) ?_);refine vV (kC (hsb)) (vV (cV rfl) (mW rfl (yN rfl (yN rfl (yN rfl (yV (by exact kX rfl rfl hbr (.cons hv (.cons (.row _ _ _) (.cons (.row _ _ _) .nil))) (lG _).symm (GF _) (CM _)) ?_))))));refine yN rfl (yN rfl (yN rfl (yV (by exact kX rfl rfl hrb (.cons hr (.cons (.row _ _ _) (.cons (.row _ _ _) .nil))) (lG _).symm (GF _) (CM _)) ?_)));refine yV (kC (hi1)) (yV (cV rfl) (pW rfl (mW rfl (yN rfl (yN rfl (yV (by exact kX rfl rfl hov (.cons hv (.cons (.v _) .nil)) (lG _).symm (GF _) (CM _)) ?_))))));refine yN rfl (yN rfl (yV (by exact kX rfl rfl hro (.cons hr (.cons (.v _) .nil)) (lG _).symm (GF _) (CM _)) ?_));refine yV (kC (hi2)) (yV (cV rfl) (pV ?_)))|refine nZ ?_));all_goals try (exfalso;omega)
        refine jH [(4,.s s),(11,.b true)] X (mP.of (by first | rfl | exact List.append_nil _) (by repeat first|exact trivial|refine ⟨rfl,?_⟩)) ?_
        have hrd := RV s (by omega)
        have hrr := WO s (by omega)
        have hfe := OM s;cases hrf : vE s with
        | none =>
          rw [hrf] at hfe
          (repeat' (first|refine wS ?_|(refine rg 25 (mW rfl (pF [] rfl rfl hrd rfl rfl aI trivial (by simp) rfl ?_));rintro res hout hΦ;unfold tI at hΦ;rw [hrf] at hΦ;dsimp only at hΦ;subst hΦ;dsimp only [fR];refine mW rfl (xW rfl (xW rfl (kJ ?_))))|refine nZ ?_));all_goals
            refine jH [(4,.s s),(11,.b true),(23,.v (.pointer none)),(24,.b false)] _ (mP.of rfl (by repeat first|exact trivial|refine ⟨rfl,?_⟩)) ?_
            (repeat' (first|refine wS ?_|(refine rg 26 (mW rfl (pF [] rfl rfl hrr rfl rfl aI trivial (by simp) rfl ?_));rintro res hout2 hΦ;unfold yQ at hΦ;rw [hfe] at hΦ;dsimp only at hΦ;subst hΦ;dsimp only [fR];refine mW rfl (xW rfl (xW rfl (kJ ?_))))|refine nZ ?_));refine jH [(11,.b true),(23,.v (.pointer none)),(24,.b false),(25,.v (.pointer none)),(26,.b false)] _ (mP.of rfl (by repeat first|exact trivial|refine ⟨rfl,?_⟩)) ?_
            repeat' (first|refine wS ?_|refine wK ?_|refine wR ?_|refine wT ?_|refine wU ?_|(refine rg 27 (dS rfl (vV (vO zL rfl rfl) (mW rfl (yN rfl (yN rfl (yV (by exact YB KG rfl rfl) ?_))))));refine yV (vO zL rfl rfl) (pV ?_))|(refine rg 29 (mW rfl (vV (by exact zD4 KG rfl rfl) ?_));refine mV ?_;(iterate 2 refine gF ?_);refine pV ?_)|(refine rg 30 (mW rfl (aV ?_)))|refine nZ ?_)
          all_goals first | (exfalso;omega) | exact ⟨.inl rfl,_,rfl,rfl⟩
        | some YO =>
          rw [hrf] at hfe;obtain ⟨f1,f2,f3⟩ := S7 hrf;have f0 := f1.le;have hbb := zM (fun o ho => ⟨f1.od o ho,f2 o ho⟩) (by omega : YO.length ≤ 1000000)
          have hby := P7 YO (by omega) (fun o ho => (f1.od o ho).odI (f2 o ho)) (by omega)
          have hry := GI YO (by omega) (fun o ho => (f1.od o ho).odI (f2 o ho)) (by omega)
          (repeat' (first|refine wS ?_|(refine rg 25 (mW rfl (pF [] rfl rfl hrd rfl rfl aI trivial (by simp) rfl ?_));rintro res hout hΦ;unfold tI at hΦ;rw [hrf] at hΦ;dsimp only at hΦ;obtain ⟨A2,rfl,hq⟩ := hΦ;dsimp only [fR];refine mW rfl (xW rfl (xW rfl (kJ ?_))))|refine nZ ?_));all_goals
            obtain ⟨A3,hq3,_⟩ := hq.shift (H := X);refine jH [(4,.s s),(11,.b true),(23,.ptr (1 + X.length) 0),(24,.b true)] (X ++ hout.map (AB.map (· + X.length))) (mP.of (by rw [nO,cP];rfl) ⟨rfl,rfl,by rw [nO];rfl,rfl,trivial⟩) ?_
            generalize X ++ hout.map (AB.map (· + X.length)) = Y at *;generalize 1 + X.length = p1 at *
            (repeat' (first|refine wS ?_|(refine rg 26 (mW rfl (pF [] rfl rfl hrr rfl rfl aI trivial (by simp) rfl ?_));rintro res hout2 hΦ;unfold yQ at hΦ;rw [hfe] at hΦ;dsimp only at hΦ;obtain ⟨po2,rfl,hw⟩ := hΦ;dsimp only [fR];refine mW rfl (xW rfl (xW rfl (kJ ?_))))|refine nZ ?_));have hw3 := hw.shift (H := Y)
            have hq4 := hq3.app (hout2.map (AB.map (· + Y.length)));refine jH [(11,.b true),(23,.ptr p1 0),(24,.b true),(25,.ptr (1 + Y.length) 0),(26,.b true)] (Y ++ hout2.map (AB.map (· + Y.length))) (mP.of (by rw [nO,cP];rfl) ⟨rfl,rfl,rfl,by rw [nO];rfl,rfl,trivial⟩) ?_
            have v1 := hq4.view;have v2 := hw3.view;generalize Y ++ hout2.map (AB.map (· + Y.length)) = Z at *;generalize 1 + Y.length = p2 at *
            repeat' (first|refine wS ?_|refine wK ?_|refine wR ?_|refine wU ?_|(refine rg 27 (dS rfl (vV (vO zL rfl rfl) (mW rfl (yN rfl (yN rfl (yV (by exact YA KG rfl rfl rfl) ?_))))));refine yV (vO zL rfl rfl) (pV ?_))|(refine rg 29 (mW rfl (vV (by exact V1 KG rfl rfl rfl) ?_));refine mW rfl (yN rfl (yV (by exact V1 zB0 rfl rfl rfl) ?_));refine pV ?_)|(refine rg 31 (dS rfl (yN rfl (yV (by exact cM rfl rfl hby (.cons v1 .nil) rfl rfl) ?_)));refine yN rfl (yV (by exact cM rfl rfl hry (.cons v2 .nil) rfl rfl) ?_);refine yV (TS rfl rfl) (pW rfl (aV ?_)))|refine nZ ?_)
          all_goals first | (exfalso;omega) | exact ⟨.inl rfl,_,rfl,rfl⟩
end Go.Proofs.YtdfmhddmddgniaaGreatDoor
namespace Go.Proofs.YtdfmhddmddgniaaGreatDoor
open Go Go.Ab Go.Or Go.Wr Go.ChangeShapes Go.WideShapes Go.ChangeAt Go.RowKit
def O6 (n : Int) : Prop := (Lit.int .i64 n).wf = true
theorem XE {n : Int} (h : O6 n) : qH n := by
  have e1 : IntKind.i64.min = -9223372036854775808 := rfl;have e2 : IntKind.i64.max = 9223372036854775807 := rfl;simp only [O6,Lit.wf,aN,decide_eq_true_eq,e1,e2] at h;exact h
theorem E9 {P : Program} {W : World} {name : String} {d : DataW Unit} : ∀ {l : List (String × DataW Unit)} {ps : List MemPlace},DataW.LaidVars P W l ps → (name,d) ∈ l →
    ∃ g t cs fuel p,P.globalNamed name = some g ∧ (P.globals[g]?).map (·.type) = some t ∧ W.var? P name = some cs ∧ DataW.trod (fun _ => ()) P W 0 (fun _ => true) false fuel t cs.toList = some (d,p)
  | [],_,_,h => by cases h
  | (n,d') :: r,ps,h,hm => by
    obtain ⟨g,t,cs,fuel,p,q,h1,h2,h3,h4,h5,_⟩ := h;rcases aT.1 hm with e | hm
    · cases e;exact ⟨g,t,cs,fuel,p,h1,h2,h3,h4⟩
    · exact E9 h5 hm
def KH : List Int := (List.range 20).map fun i => ((10 ^ i : Nat) : Int)
theorem zK4 : Tryz.prog.globalNamed "internal/strconv.uint64pow10" = some 0 := by kernel_rfl
theorem TN : (Tryz.prog.globals[0]?).map (·.type) = some 314 := by kernel_rfl
theorem zN0 : Tryz.prog.underlying 285 = some (.int .u64) := by kernel_rfl
theorem zO5 : Tryz.prog.underlying 314 = some (.array 20 285) := by kernel_rfl
theorem zE9 : Tryz.prog.cellsOf 285 = 1 := by kernel_rfl
theorem zF2 : Tryz.prog.cellsOf 314 = 20 := by kernel_rfl
theorem WW : (Rows.laid_internal_strconv_uint64pow10 : DataW Unit) = Lib.tabData .u64 KH := by kernel_rfl
theorem zP4 : Tryz.prog.globalNamed "strconv.ErrSyntax" = some 2 := by kernel_rfl
theorem zP5 : Tryz.prog.globalNamed "strconv.ErrRange" = some 3 := by kernel_rfl
theorem XX : (Tryz.prog.globals[2]?).map (·.type) = some 110 := by kernel_rfl
theorem XY : (Tryz.prog.globals[3]?).map (·.type) = some 110 := by kernel_rfl
theorem ZF : "*" ++ "errors.errorString" = "*errors.errorString" := by decide
theorem rowE (u : TypeId) (h : Tryz.prog.typeName? 3 u = some "*errors.errorString") : u = 329 :=
  typeName_ptr_named (nm := "errors.errorString") (by rw [ZF]; kernel_rfl) (by kernel_rfl) (by decide) u (by rw [ZF]; exact h)
theorem zN8 : Tryz.prog.underlying 110 = some (.interface #[("Error", 49)]) := by kernel_rfl
theorem zN4 : Tryz.prog.underlying 329 = some (.pointer 331) := by kernel_rfl
theorem zF1 : Tryz.prog.cellsOf 331 = 1 := by kernel_rfl
theorem zF0 : Tryz.prog.cellsOf 9 = 1 := by kernel_rfl
theorem ZO {n : String} {text : List UInt8} {r : List (String × DataW Unit)} {W : World} {g : Nat} (h : laidMet Tryz.prog ((n, .iface "*errors.errorString" (.ptr (.agg [.lit (.string text)]))) :: r) W)
    (hg : Tryz.prog.globalNamed n = some g) (ht : (Tryz.prog.globals[g]?).map (·.type) = some 110) : ∃ p,W.var? Tryz.prog n = some #[.iface 329 p] := by
  obtain ⟨a,s,hv,_⟩ := laid_sentinel h hg ht zN8 rowE zN4 Tryz.underlying331 rfl rfl Tryz.underlying9 zF1 zF0;exact ⟨_,hv⟩
theorem N2 {W : World} {n : String} {g : Nat} {p : Value} (hg : Tryz.prog.globalNamed n = some g) (hv : W.var? Tryz.prog n = some #[.iface 329 p]) :
    g < W.heap.size ∧ ∃ ys t fz,W.heap[g]? = some (.cells ys t fz) ∧ RL (fun b => b < W.heap.size) W [AV.ifc 329 .any] (fun _ => none) ys.toList := by
  unfold World.var? at hv;rw [hg] at hv;simp only [Option.bind_some] at hv;split at hv
  · rename_i c ty fz hh;cases hv;refine ⟨(aR.1 hh).1,_,ty,fz,hh,?_⟩;simp only [RL,R];exact ⟨_,_,rfl,⟨p,rfl,trivial⟩,rfl⟩
  · cases hv
theorem PD {W : World} {l : List (String × DataW Unit)} {a b : String × DataW Unit} (hl : l = [a, b, ("internal/strconv.uint64pow10", (Rows.laid_internal_strconv_uint64pow10 : DataW Unit)), ("strconv.ErrRange", (Rows.laid_strconv_ErrRange : DataW Unit)), ("strconv.ErrSyntax", (Rows.laid_strconv_ErrSyntax : DataW Unit))]) (h0 : laidMet Tryz.prog l W) : mX (fun b => b < W.heap.size) W := by
  subst hl;obtain ⟨pr, hr⟩ := ZO (n := "strconv.ErrRange") h0.tail.tail.tail zP5 XY
  obtain ⟨pe, he⟩ := ZO (n := "strconv.ErrSyntax") h0.tail.tail.tail.tail zP4 XX
  obtain ⟨ps,hv,_⟩ := h0;obtain ⟨g,t,cs,fuel,p,h1,h2,h3,h4⟩ := E9 hv (.tail _ (.tail _ (.head _)));obtain rfl := Option.some.inj (zK4.symm.trans h1);obtain rfl := Option.some.inj (TN.symm.trans h2);rw [WW] at h4;have e := Lib.cells_of_tab zO5 zN0 zE9 zF2 h4;unfold World.var? at h3;rw [zK4] at h3;simp only [Option.bind_some] at h3;intro g cs' hg;have hg' : (g = 0 ∧ cs' = (KH.map fun z => Value.int .u64 z).map .v) ∨ (g = 2 ∧ cs' = [AV.ifc 329 .any]) ∨ (g = 3 ∧ cs' = [AV.ifc 329 .any]) := by
    simp only [uE,aT,cG,or_false,Prod.mk.injEq] at hg;rcases hg with hg | hg | hg
    · refine .inl ⟨hg.1,hg.2.trans ?_⟩;simp [KH,nR,Function.comp_def]
    · exact .inr (.inl hg)
    · exact .inr (.inr hg)
  rcases hg' with ⟨rfl,rfl⟩ | ⟨rfl,rfl⟩ | ⟨rfl,rfl⟩
  · split at h3
    · rename_i c ty fz hh;cases h3;refine ⟨(aR.1 hh).1,cs,ty,fz,hh,?_⟩;rw [e];exact Y6 _
    · cases h3
  · exact N2 zP4 he
  · exact N2 zP5 hr
noncomputable def low (os : Os) : Nat := (World.holding Tryz.prog os ⟨#[],#[],[]⟩).heap.size
noncomputable def K0 (os : Os) : World :=
  { World.holding Tryz.prog os ⟨#[.cells #[.string ⟨#[118, 97, 108, 117, 101, 32, 111, 117, 116, 32, 111, 102, 32, 114, 97, 110, 103, 101]⟩] 331, .cells #[.string ⟨#[105, 110, 118, 97, 108, 105, 100, 32, 115, 121, 110, 116, 97, 120]⟩] 331], #[], []⟩ with heap := ((((((World.holding Tryz.prog os ⟨#[.cells #[.string ⟨#[118, 97, 108, 117, 101, 32, 111, 117, 116, 32, 111, 102, 32, 114, 97, 110, 103, 101]⟩] 331, .cells #[.string ⟨#[105, 110, 118, 97, 108, 105, 100, 32, 115, 121, 110, 116, 97, 120]⟩] 331], #[], []⟩).heap.modify 0 fun
      | .cells _ t frozen => .cells #[.int .u64 1,.int .u64 10,.int .u64 100,.int .u64 1000,.int .u64 10000,.int .u64 100000,.int .u64 1000000,.int .u64 10000000,.int .u64 100000000,.int .u64 1000000000,.int .u64 10000000000,.int .u64 100000000000,.int .u64 1000000000000,.int .u64 10000000000000,.int .u64 100000000000000,.int .u64 1000000000000000,.int .u64 10000000000000000,.int .u64 100000000000000000,.int .u64 1000000000000000000,.int .u64 10000000000000000000] t frozen
      | o => o).modify 4 fun
      | .cells _ t frozen => .cells #[.int .u8 0,.int .u8 1,.int .u8 28,.int .u8 2,.int .u8 29,.int .u8 14,.int .u8 24,.int .u8 3,.int .u8 30,.int .u8 22,.int .u8 20,.int .u8 15,.int .u8 25,.int .u8 17,.int .u8 4,.int .u8 8,.int .u8 31,.int .u8 27,.int .u8 13,.int .u8 23,.int .u8 21,.int .u8 19,.int .u8 16,.int .u8 7,.int .u8 26,.int .u8 12,.int .u8 18,.int .u8 6,.int .u8 11,.int .u8 5,.int .u8 10,.int .u8 9] t frozen
      | o => o).modify 5 fun
      | .cells _ t frozen => .cells #[.int .u8 0,.int .u8 1,.int .u8 56,.int .u8 2,.int .u8 57,.int .u8 49,.int .u8 28,.int .u8 3,.int .u8 61,.int .u8 58,.int .u8 42,.int .u8 50,.int .u8 38,.int .u8 29,.int .u8 17,.int .u8 4,.int .u8 62,.int .u8 47,.int .u8 59,.int .u8 36,.int .u8 45,.int .u8 43,.int .u8 51,.int .u8 22,.int .u8 53,.int .u8 39,.int .u8 33,.int .u8 30,.int .u8 24,.int .u8 18,.int .u8 12,.int .u8 5,.int .u8 63,.int .u8 55,.int .u8 48,.int .u8 27,.int .u8 60,.int .u8 41,.int .u8 37,.int .u8 16,.int .u8 46,.int .u8 35,.int .u8 44,.int .u8 21,.int .u8 52,.int .u8 32,.int .u8 23,.int .u8 11,.int .u8 54,.int .u8 26,.int .u8 40,.int .u8 15,.int .u8 34,.int .u8 20,.int .u8 31,.int .u8 10,.int .u8 25,.int .u8 14,.int .u8 19,.int .u8 9,.int .u8 13,.int .u8 8,.int .u8 7,.int .u8 6] t frozen
      | o => o).modify 3 fun
      | .cells _ t frozen => .cells #[.iface 329 (.pointer (some ⟨low os,0,none⟩))] t frozen
      | o => o).modify 2 fun
      | .cells _ t frozen => .cells #[.iface 329 (.pointer (some ⟨low os + 1,0,none⟩))] t frozen
      | o => o) }
theorem uA : iI Tryz.prog 3 O6 (fun n => [AV.i n]) := iI.int Tryz.underlying3 (by kernel_rfl)
theorem zB8 : iI Tryz.prog 4 (fun _ => True) (fun b => [AV.b b]) := iI.bool Tryz.underlying4 (by kernel_rfl)
theorem zI8 : iI Tryz.prog 92 (fun p : Lo => O6 p.1 ∧ O6 p.2.1) (fun p => [AV.i p.1,AV.i p.2.1,AV.b p.2.2]) :=
  iI.struct (fs := [(3, 0), (3, 1), (4, 2)]) (by kernel_rfl) (by kernel_rfl)
    (fun e W fuel css hl hx => by
      obtain ⟨a,h1,h2,h3⟩ := kH.cons uA (kH.cons uA (kH.cons zB8 kH.nil)) e W fuel css hl hx
      exact ⟨(a.1,a.2.1,a.2.2.1),⟨h1.1,h1.2.1⟩,by simpa using h2,by simpa using h3⟩)
    (fun _ => by kernel_rfl)
theorem zI9 : iI Tryz.prog 79 (fun p : Bo => O6 p.1 ∧ O6 p.2.1 ∧ O6 p.2.2) (fun p => [AV.i p.1,AV.i p.2.1,AV.i p.2.2]) :=
  iI.struct (fs := [(3, 0), (3, 1), (3, 2)]) (by kernel_rfl) (by kernel_rfl)
    (fun e W fuel css hl hx => by
      obtain ⟨a,h1,h2,h3⟩ := kH.cons uA (kH.cons uA (kH.cons uA kH.nil)) e W fuel css hl hx
      exact ⟨(a.1,a.2.1,a.2.2.1),⟨h1.1,h1.2.1,h1.2.2.1⟩,by simpa using h2,by simpa using h3⟩)
    (fun _ => by kernel_rfl)
theorem zB3 : iI Tryz.prog 89 (fun p : Wt => O6 p.1 ∧ O6 p.2.1 ∧ O6 p.2.2) (fun p => [AV.i p.1,AV.i p.2.1,AV.i p.2.2]) :=
  iI.struct (fs := [(3, 0), (3, 1), (3, 2)]) (by kernel_rfl) (by kernel_rfl)
    (fun e W fuel css hl hx => by
      obtain ⟨a,h1,h2,h3⟩ := kH.cons uA (kH.cons uA (kH.cons uA kH.nil)) e W fuel css hl hx
      exact ⟨(a.1,a.2.1,a.2.2.1),⟨h1.1,h1.2.1,h1.2.2.1⟩,by simpa using h2,by simpa using h3⟩)
    (fun _ => by kernel_rfl)
abbrev zM0 (l : List Lo) : Prop := l.length ≤ maxLen ∧ ∀ a,a ∈ l → O6 a.1 ∧ O6 a.2.1
abbrev zM1 (l : List Bo) : Prop := l.length ≤ maxLen ∧ ∀ a,a ∈ l → O6 a.1 ∧ O6 a.2.1 ∧ O6 a.2.2
abbrev zL9 (l : List Wt) : Prop := l.length ≤ maxLen ∧ ∀ a,a ∈ l → O6 a.1 ∧ O6 a.2.1 ∧ O6 a.2.2
theorem zB7 : iI Tryz.prog 22 zM0 (fun l => [.rowE (iX l) 3]) :=
  iI.slice Tryz.underlying22 (by kernel_rfl) (by kernel_rfl) (by decide) zI8
theorem XD : iI Tryz.prog 23 zM1 (fun l => [.rowE (eY l) 3]) :=
  iI.slice Tryz.underlying23 (by kernel_rfl) (by kernel_rfl) (by decide) zI9
theorem XB : iI Tryz.prog 35 zL9 (fun l => [.rowE (bV l) 3]) :=
  iI.slice Tryz.underlying35 (by kernel_rfl) (by kernel_rfl) (by decide) zB3
abbrev zG5 := Int × Int × Int × Int × Int × List Wt
abbrev zP9 (p : zG5) : Prop := O6 p.1 ∧ O6 p.2.1 ∧ O6 p.2.2.1 ∧ O6 p.2.2.2.1 ∧ O6 p.2.2.2.2.1 ∧ zL9 p.2.2.2.2.2
abbrev zH2 (p : zG5) : List AV := [.i p.1,.i p.2.1,.i p.2.2.1,.i p.2.2.2.1,.i p.2.2.2.2.1,.rowE (bV p.2.2.2.2.2) 3]
theorem zB4 : iI Tryz.prog 37 zP9 zH2 :=
  iI.struct (fs := [(3, 0), (3, 1), (3, 2), (3, 3), (3, 4), (35, 5)]) (by kernel_rfl) (by kernel_rfl)
    (fun e W fuel css hl hx => by
      obtain ⟨a,h1,h2,h3⟩ := kH.cons uA (kH.cons uA (kH.cons uA (kH.cons uA (kH.cons uA (kH.cons XB kH.nil))))) e W fuel css hl hx
      exact ⟨(a.1,a.2.1,a.2.2.1,a.2.2.2.1,a.2.2.2.2.1,a.2.2.2.2.2.1),⟨h1.1,h1.2.1,h1.2.2.1,h1.2.2.2.1,h1.2.2.2.2.1,h1.2.2.2.2.2.1⟩,by simpa [zH2] using h2,by simpa [zH2] using h3⟩)
    (fun _ => by kernel_rfl)
abbrev zG6 (l : List zG5) : Prop := l.length ≤ maxLen ∧ ∀ p,p ∈ l → zP9 p
theorem XC : iI Tryz.prog 24 zG6 (fun l => [.rowE (l.map zH2) 6]) :=
  iI.slice Tryz.underlying24 (by kernel_rfl) (by kernel_rfl) (by decide) zB4
abbrev zN5 (p : zG5) : Or.Op := ⟨p.1,p.2.1,p.2.2.1,p.2.2.2.1,p.2.2.2.2.1,p.2.2.2.2.2⟩
theorem zB6 (l : List zG5) : l.map zH2 = (l.map zN5).map zJ0 := by rw [nR];rfl
theorem zB5 {l : List zG5} (h : zG6 l) : ∀ o,o ∈ l.map zN5 → ∀ w,w ∈ o.ws → qH w.1 := by
  intro o ho w hw;obtain ⟨p,hp,rfl⟩ := aK.1 ho;exact XE ((h.2 p hp).2.2.2.2.2.2 w hw).1
theorem zC2 {α : Type} {l : List α} (h : l.length ≤ maxLen) : l.length ≤ 9223372036854775807 := h
end Go.Proofs.YtdfmhddmddgniaaGreatDoor
namespace Go.Proofs.YtdfmhddmddgniaaGreatDoor
open Go Go.Ab Go.Or Go.Wr Go.ChangeShapes Go.WideShapes Go.ChangeAt Go.RowKit
attribute [local irreducible] VC AW bJ bI eO
theorem zI7 : iI Tryz.prog 9 (fun l : List UInt8 => l.length ≤ maxLen) (fun l => [AV.s l]) :=
  iI.iso (iI.string (by kernel_rfl) (by kernel_rfl)) (fun s : ByteArray => s.data.toList) fun s hs => ⟨by simpa using hs,rfl⟩
theorem FI (ls : List Lo) (h1 : zM0 ls) (sure : List Bo) (h2 : zM1 sure) (l : List zG5) (h3 : zG6 l) (tick : Int) (h4 : O6 tick) (s : List UInt8) (h5 : s.length ≤ maxLen) :
    bI Tryz.prog 3 [.rowE (iX ls) 3,.rowE (eY sure) 3,.rowE (l.map zH2) 6,.i tick,.s s] [] (.b true) [] := by
  rw [zB6];exact yJ rfl (WI ls sure (l.map zN5) tick s (zC2 h1.1) (zC2 h2.1) (by rw [bF];exact zC2 h3.1) (zB5 h3))
end Go.Proofs.YtdfmhddmddgniaaGreatDoor
