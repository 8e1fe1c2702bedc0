/-
  Texts of the logic and of the layer,in one module (part 5).
-/
import Derived.Test.YtmmkhmilpeodnaaGreatK4
import Derived.Lib.SlicesDelete
import Derived.Deep.RegionLaw
import Derived.Sort.EncStr
import Derived.Shelf.RegionOpenPlain
import Derived.Deep.LoopGhost
import Derived.Lib.Walk
import Derived.Sort.WalkB12
import Derived.Shelf.Slices.Delete
import Derived.Ground.Names2Prog
set_option linter.unusedVariables false
set_option linter.unusedSimpArgs false
set_option linter.unnecessarySimpa false
namespace Go.Proofs.YtmmkhmilpeodnaaGreat
open Go Go.Ab Go.Ld
attribute [local irreducible] VC AW cF aR
set_option maxHeartbeats 4000000
theorem ZW (l : List W) : (fP l).flatten.all AV.one = true := by
  induction l with
  | nil => rfl
  | cons x l ih => simp only [List.map_cons,eH,List.all_append,ih];rfl
theorem bH (l : List W) : ∀ e,e ∈ fP l → AV.idfL e = true := by
  intro e he;obtain ⟨x,_,rfl⟩ := bI.1 he;rfl
theorem lA : ∀ i : Nat,i < 1 → ([0] : List Nat)[i]? = some i := by decide
abbrev qB : AV := .clo (.func 97) [] []
theorem FE (l : List W) (a b : Nat) (hab : a ≤ b) (hb : b ≤ l.length) (hl : l.length ≤ 100000) (hw : ∀ w,w ∈ l → F3 w) :
    aR Tryz.prog 161 [.sl 0 0 l.length 3,.i a,.i b,qB] [.arr (fP l) 3] (.tup []) [.arr (fP (OT l a b)) 3] := by
  rcases iD a b with hlt | hge
  · refine bQ T Tryz.func161 rfl rfl rfl rfl ?_
    (repeat' (first|refine wS ?_|refine wB ?_|(refine iA 0 rfl rfl rfl (by omega) (by omega) ?_)|refine nZ ?_));refine dA (X := {i : Nat // a + 1 ≤ i ∧ i ≤ b}) (fun i => [(0,.sl 0 0 l.length 3),(1,.i a),(2,.i b),(3,qB),(8,.i i.1)]) (fun i => [.arr (fP (OT l a i.1)) 3]) (fun i => b - i.1) ⟨a + 1,by omega,by omega⟩ ⟨[0],rfl,by (repeat (first | exact trivial | refine ⟨rfl,?_⟩)),⟨.inr (aE rfl (by dsimp only;rw [WA (by omega)]) (bH _)),trivial⟩,by decide,lA⟩ ?_
    rintro ⟨i,h1,h2⟩;dsimp only;by_cases hi : i < b
    · (repeat' (first|refine wS ?_|refine wB ?_|refine wK ?_|(refine wC rfl (fun hb => ?_) (fun hb => ?_) <;> (((try simp only [nm] at hb);try (exfalso;omega))))|(refine rg 1 (dX rfl (vV (aO rfl rfl) ?_)))|(refine rg 3 (mW rfl (aV ?_)))|(refine nZ ?_)));all_goals try (exfalso;omega)
      have hil : i < l.length := by omega
      obtain ⟨x,hx⟩ : ∃ x,l[i]? = some x := ⟨_,aA hil⟩;obtain ⟨s1,s2⟩ := NO (a := a) (by omega) hil hx
      refine dA (X := {q : List W × List W // ZV l a i x q}) (fun q => [(0,.sl 0 0 l.length 3),(1,.i a),(2,.i b),(3,qB),(8,.i i),(9,.i ((a + q.1.1.length : Nat) : Int))]) (fun q => [.arr (fP (tS l a i x q.1)) 3]) (fun q => q.1.1.length) ⟨_,s1⟩ ⟨[0],rfl,⟨rfl,rfl,rfl,rfl,rfl,by dsimp only;rw [iF,bD,dR,show a + min (i - a) (l.length - a) = i by omega];rfl,trivial⟩,⟨.inr (aE rfl (by dsimp only;rw [s2]) (bH _)),trivial⟩,by decide,lA⟩ ?_
      rintro ⟨⟨S1,S2⟩,hq⟩;dsimp only;have hln := KW hq (by omega) hil
      dsimp only at hln;have hwx : F3 x := hw x (aM hx);have hal : (l.take a).length = a := by rw [bD];omega
      rcases List.eq_nil_or_concat S1 with rfl | ⟨S,y,rfl⟩
      · have ee := SB hq (by omega) hil hx (fun y hy => by cases hy)
        have hJ : ((a + ([] : List W).length : Nat) : Int) = a := by simp
        generalize ((a + ([] : List W).length : Nat) : Int) = J at *;generalize tS l a i x ([],S2) = L at *
        (repeat' (first|refine wS ?_|refine wE ?_|refine wU ?_|(refine bL (id := 4) 53 zQ6 (rM 18 17) zQ7 cC rfl (by decide +kernel) (dN rfl (dN rfl (dV rfl (xY rfl rfl (by omega)) (dN rfl (tG rfl (tG rfl (tG rfl (tG rfl (dG ?_)))))))));refine tG rfl (tG rfl (tG rfl (tG rfl (tG rfl (tG rfl (tG rfl (dV rfl (fX rfl rfl) (dE ?_)))))))))|(refine iA 2 rfl rfl rfl (by omega) (by omega) ?_)|refine nZ ?_));all_goals first | (exfalso;omega) | exact ⟨⟨i + 1,by omega,by omega⟩,by dsimp only;omega,⟨[0],rfl,by (repeat (first | exact trivial | refine ⟨rfl,?_⟩)),⟨.inr (aE rfl (by dsimp only;rw [ee]) (bH _)),trivial⟩,by decide,lA⟩⟩
      · rw [List.concat_eq_append] at *;have hy : y ∈ l := by
          have h3 : y ∈ dW eI ((l.drop a).take (i - a)) := by rw [← hq.eq];simp
          exact eV (fF ((dS _ _).mem_iff.1 h3))
        have hc := uH x y hwx (hw y hy);have hL : tS l a i x (S ++ [y],S2) = (l.take a ++ S) ++ y :: x :: (S2 ++ l.drop (i + 1)) := by unfold tS;simp
        have hJ : ((a + (S ++ [y]).length : Nat) : Int) = ((a + S.length + 1 : Nat) : Int) := by simp;omega
        have hAl : a + S.length = (l.take a ++ S).length := by rw [aF,hal]
        have hlen := SE hq (by omega) hil
        by_cases h0 : eI x y < 0
        · have ee := SC hq rfl h0;have q1 := oJ (L := tS l a i x (S ++ [y],S2)) (j := ((a + (S ++ [y]).length : Nat) : Int)) (i := a + S.length + 1) (x := x) (by rw [hL,show (l.take a ++ S) ++ y :: x :: (S2 ++ l.drop (i + 1)) = ((l.take a ++ S) ++ [y]) ++ x :: (S2 ++ l.drop (i + 1)) by simp];exact mY _ _ _ (by simp;omega)) hJ
          have q2 := oJ (L := tS l a i x (S ++ [y],S2)) (j := ((a + (S ++ [y]).length : Nat) : Int) - 1) (i := a + S.length) (x := y) (by rw [hL];exact mY _ _ _ hAl) (by omega)
          have t1 := uD (L := tS l a i x (S ++ [y],S2)) (j := ((a + (S ++ [y]).length : Nat) : Int)) (i := a + S.length + 1) (x := y) hJ;have e1 : (tS l a i x (S ++ [y],S2)).set (a + S.length + 1) y = (l.take a ++ S) ++ y :: y :: (S2 ++ l.drop (i + 1)) := by
            rw [hL,show (l.take a ++ S) ++ y :: x :: (S2 ++ l.drop (i + 1)) = ((l.take a ++ S) ++ [y]) ++ x :: (S2 ++ l.drop (i + 1)) by simp,nD _ _ _ _ (by simp;omega)];simp
          rw [e1] at t1;have q3 := oJ (L := (l.take a ++ S) ++ y :: y :: (S2 ++ l.drop (i + 1))) (j := ((a + (S ++ [y]).length : Nat) : Int) - 1) (i := a + S.length) (x := y) (mY _ _ _ hAl) (by omega)
          have t2 := uD (L := (l.take a ++ S) ++ y :: y :: (S2 ++ l.drop (i + 1))) (j := ((a + (S ++ [y]).length : Nat) : Int) - 1) (i := a + S.length) (x := x) (by omega)
          rw [nD _ _ _ _ hAl,show (l.take a ++ S) ++ x :: y :: (S2 ++ l.drop (i + 1)) = tS l a i x (S,y :: S2) by unfold tS;simp,← t1] at t2
          rw [← t1] at q3;have hJ2 : ((a + (S ++ [y]).length : Nat) : Int) - 1 = ((a + S.length : Nat) : Int) := by omega
          have hJ3 : ((a + (S ++ [y]).length : Nat) : Int) < l.length := by omega
          have hJ4 : (a : Int) < ((a + (S ++ [y]).length : Nat) : Int) := by omega
          clear hJ hL;generalize ((a + (S ++ [y]).length : Nat) : Int) = J at *;generalize eI x y = z at *;generalize tS l a i x (S ++ [y],S2) = L at *
          (repeat' (first|refine wS ?_|refine wB ?_|refine wK ?_|(refine wC rfl ?_ ?_<;>(intro hb;(try simp only [nm] at hb);try (exfalso;omega)))|(refine bL (id := 4) 53 zQ6 (rM 18 17) zQ7 cC rfl (by decide +kernel) (dN rfl (dN rfl (dV rfl (fT rfl rfl) (dM ?_))));refine mU rfl rfl rfl rfl ?_ ?_<;>(intro hb;rw [hb];(try simp only [nm] at hb);try (exfalso;omega))<;>(refine tM ?_);(all_goals (refine tN rfl (tN rfl (dT rfl (by exact aK T rfl rfl rfl rfl rfl (by omega) (by omega)) ?_));refine dT rfl (by exact aQ T rfl rfl (bG rfl q1) rfl) ?_;refine tN rfl (tN rfl (dT rfl (cM rfl rfl (by omega) (by omega)) (dT rfl (by exact aK T rfl rfl rfl rfl rfl (by omega) (by omega)) ?_)));refine dT rfl (by exact aQ T rfl rfl (bG rfl q2) rfl) ?_;refine dT rfl (kC (hc)) (dT rfl (aO rfl rfl) (dV rfl (jF rfl rfl) (dE ?_))))))|(refine mD (id := 6) 53 zQ8 (rM 37 15) zQ9 [(15,0)] cC rfl (by decide +kernel) (bZ rfl rfl rfl rfl (by exact bX rfl) ?_);refine bZ rfl rfl rfl rfl (by exact bX rfl) ?_;refine bZ rfl rfl rfl rfl (by exact bX rfl) ?_;refine bZ rfl rfl rfl rfl (by exact bX rfl) ?_;refine bZ rfl rfl rfl rfl (by exact cM rfl rfl (by omega) (by omega)) ?_;refine bZ rfl rfl rfl rfl (by exact bX rfl) ?_;refine bZ rfl rfl rfl rfl (by exact bX rfl) ?_;refine bZ rfl rfl rfl rfl (by exact cM rfl rfl (by omega) (by omega)) ?_;refine bZ rfl rfl rfl rfl (by exact aK T rfl rfl rfl rfl rfl (by omega) (by omega)) ?_;refine bZ rfl rfl rfl rfl (by exact aQ T rfl rfl (bG rfl q2) rfl) ?_;refine bZ rfl rfl rfl rfl (by exact bX rfl) ?_;refine bZ rfl rfl rfl rfl (by exact bX rfl) ?_;refine bZ rfl rfl rfl rfl (by exact aK T rfl rfl rfl rfl rfl (by omega) (by omega)) ?_;refine bZ rfl rfl rfl rfl (by exact aQ T rfl rfl (bG rfl q1) rfl) ?_;refine bZ rfl rfl rfl rfl (by exact aK T rfl rfl rfl rfl rfl (by omega) (by omega)) ?_;refine sU rfl rfl rfl rfl (aP rfl) T rfl rfl rfl rfl rfl rfl (by decide) (rV rfl q1 rfl) ?_;refine pS rfl rfl rfl (by exact rfl) ?_;refine vV (by exact aK T rfl rfl rfl rfl rfl (by omega) (by omega)) ?_;refine aT T rfl rfl rfl rfl rfl rfl (by decide) (lC rfl q3 rfl) ?_)|(refine rg 5 (mW rfl (vV (cM rfl rfl (by omega) (by omega)) (aV ?_))))|refine nZ ?_));all_goals first | (exfalso;omega) | exact ⟨⟨_,ee⟩,by dsimp only;simp,⟨[0],rfl,⟨rfl,rfl,rfl,rfl,rfl,by dsimp only;rw [← hJ2];try rfl,trivial⟩,⟨.inr (aE rfl (by dsimp only;rw [← t2];try rfl) (bH _)),trivial⟩,by decide,lA⟩⟩
        · have ee := SB hq (by omega) hil hx (XM hq rfl h0)
          have q1 := oJ (L := tS l a i x (S ++ [y],S2)) (j := ((a + (S ++ [y]).length : Nat) : Int)) (i := a + S.length + 1) (x := x) (by rw [hL,show (l.take a ++ S) ++ y :: x :: (S2 ++ l.drop (i + 1)) = ((l.take a ++ S) ++ [y]) ++ x :: (S2 ++ l.drop (i + 1)) by simp];exact mY _ _ _ (by simp;omega)) hJ
          have q2 := oJ (L := tS l a i x (S ++ [y],S2)) (j := ((a + (S ++ [y]).length : Nat) : Int) - 1) (i := a + S.length) (x := y) (by rw [hL];exact mY _ _ _ hAl) (by omega)
          have hJ3 : ((a + (S ++ [y]).length : Nat) : Int) < l.length := by omega
          have hJ4 : (a : Int) < ((a + (S ++ [y]).length : Nat) : Int) := by omega
          clear hJ hL;generalize ((a + (S ++ [y]).length : Nat) : Int) = J at *;generalize eI x y = z at *;generalize tS l a i x (S ++ [y],S2) = L at *
          (repeat' (first|refine wS ?_|refine wE ?_|(refine wC rfl ?_ ?_<;>(intro hb;(try simp only [nm] at hb);try (exfalso;omega)))|(refine bL (id := 4) 53 zQ6 (rM 18 17) zQ7 cC rfl (by decide +kernel) (dN rfl (dN rfl (dV rfl (fT rfl rfl) (dM ?_))));refine mU rfl rfl rfl rfl ?_ ?_<;>(intro hb;rw [hb];(try simp only [nm] at hb);try (exfalso;omega))<;>(refine tM ?_);(all_goals (refine tN rfl (tN rfl (dT rfl (by exact aK T rfl rfl rfl rfl rfl (by omega) (by omega)) ?_));refine dT rfl (by exact aQ T rfl rfl (bG rfl q1) rfl) ?_;refine tN rfl (tN rfl (dT rfl (cM rfl rfl (by omega) (by omega)) (dT rfl (by exact aK T rfl rfl rfl rfl rfl (by omega) (by omega)) ?_)));refine dT rfl (by exact aQ T rfl rfl (bG rfl q2) rfl) ?_;refine dT rfl (kC (hc)) (dT rfl (aO rfl rfl) (dV rfl (jF rfl rfl) (dE ?_))))))|(refine iA 2 rfl rfl rfl (by omega) (by omega) ?_)|refine nZ ?_));all_goals first | (exfalso;omega) | exact ⟨⟨i + 1,by omega,by omega⟩,by dsimp only;omega,⟨[0],rfl,by (repeat (first | exact trivial | refine ⟨rfl,?_⟩)),⟨.inr (aE rfl (by dsimp only;rw [ee]) (bH _)),trivial⟩,by decide,lA⟩⟩
    · obtain rfl : i = b := by omega
      (repeat' (first|refine wS ?_|refine wE ?_|(refine wC rfl ?_ ?_<;>(intro hb;(try simp only [nm] at hb);try (exfalso;omega)))|(refine rg 1 (dX rfl (vV (aO rfl rfl) ?_)))|refine nZ ?_));all_goals first | (exfalso;omega) | exact ⟨.inl rfl,[0],_,rfl,rfl,rfl,⟨.inr (aE rfl rfl (bH _)),trivial⟩,by decide,lA⟩ | exact ⟨.inr rfl,[0],_,rfl,rfl,rfl,⟨.inr (aE rfl rfl (bH _)),trivial⟩,by decide,lA⟩
  · obtain rfl : a = b := by omega
    rw [PS hb];refine bQ T Tryz.func161 rfl rfl rfl rfl ?_
    (repeat' (first|refine wS ?_|refine wB ?_|(refine iA 0 rfl rfl rfl (by omega) (by omega) ?_)|refine nZ ?_));refine dA (X := Unit) (fun _ => [(0,.sl 0 0 l.length 3),(1,.i a),(2,.i a),(3,qB),(8,.i ((a : Int) + 1))]) (fun _ => [.arr (fP l) 3]) (fun _ => 0) () ⟨[0],rfl,by (repeat (first | exact trivial | refine ⟨rfl,?_⟩)),⟨.inr (aE rfl rfl (bH _)),trivial⟩,by decide,lA⟩ ?_
    intro _;dsimp only
    (repeat' (first|refine wS ?_|refine wE ?_|(refine wC rfl ?_ ?_<;>(intro hb;(try simp only [nm] at hb);try (exfalso;omega)))|(refine rg 1 (dX rfl (vV (aO rfl rfl) ?_)))|refine nZ ?_));all_goals first | (exfalso;omega) | exact ⟨.inl rfl,[0],_,rfl,rfl,rfl,⟨.inr (aE rfl rfl (bH _)),trivial⟩,by decide,lA⟩ | exact ⟨.inr rfl,[0],_,rfl,rfl,rfl,⟨.inr (aE rfl rfl (bH _)),trivial⟩,by decide,lA⟩
end Go.Proofs.YtmmkhmilpeodnaaGreat
namespace Go.Ld
open Go.Ab Go.Proofs.YtmmkhmilpeodnaaGreat
def DT (P X Q Y R : List W) (k : Nat) : List W := P ++ ((Y.take k ++ X.drop k) ++ (Q ++ ((X.take k ++ Y.drop k) ++ R)))
theorem zG6 (P X Q Y R : List W) : DT P X Q Y R 0 = P ++ (X ++ (Q ++ (Y ++ R))) := by simp [DT]
theorem zG5 {P X Q Y R : List W} {n : Nat} (h1 : X.length = n) (h2 : Y.length = n) : DT P X Q Y R n = P ++ (Y ++ (Q ++ (X ++ R))) := by
  unfold DT;rw [cW (by omega),cW (by omega),cX (by omega),cX (by omega)];simp
theorem zL1 {X1 X2 : List W} {x : W} {k : Nat} (h : X1.length = k) : (X1 ++ x :: X2).take k = X1 ∧ (X1 ++ x :: X2).drop k = x :: X2 ∧ (X1 ++ x :: X2).take (k + 1) = X1 ++ [x] ∧ (X1 ++ x :: X2).drop (k + 1) = X2 := by
  subst h;refine ⟨uA,uB,?_,?_⟩
  · rw [show X1 ++ x :: X2 = (X1 ++ [x]) ++ X2 by simp,show X1.length + 1 = (X1 ++ [x]).length by simp,uA]
  · rw [show X1 ++ x :: X2 = (X1 ++ [x]) ++ X2 by simp,show X1.length + 1 = (X1 ++ [x]).length by simp,uB]
theorem HN {X : List W} {k : Nat} (h : k < X.length) : ∃ X1 x X2,X = X1 ++ x :: X2 ∧ X1.length = k := ⟨X.take k,X[k],X.drop (k + 1),by simp,by simp;omega⟩
theorem PL {P X Q Y R : List W} {n k : Nat} (h1 : X.length = n) (h2 : Y.length = n) (hk : k < n) : ∃ x y,x ∈ X ∧ y ∈ Y ∧ (DT P X Q Y R k)[P.length + k]? = some x ∧ (DT P X Q Y R k)[P.length + n + Q.length + k]? = some y ∧
    ((DT P X Q Y R k).set (P.length + k) y)[P.length + n + Q.length + k]? = some y ∧ ((DT P X Q Y R k).set (P.length + k) y).set (P.length + n + Q.length + k) x = DT P X Q Y R (k + 1) := by
  obtain ⟨X1,x,X2,rfl,hx⟩ := HN (show k < X.length by omega)
  obtain ⟨Y1,y,Y2,rfl,hy⟩ := HN (show k < Y.length by omega)
  obtain ⟨a1,a2,a3,a4⟩ := zL1 (x := x) (X2 := X2) hx;obtain ⟨b1,b2,b3,b4⟩ := zL1 (x := y) (X2 := Y2) hy;simp only [aF,List.length_cons] at h1 h2;have e : DT P (X1 ++ x :: X2) Q (Y1 ++ y :: Y2) R k = (P ++ Y1) ++ x :: (X2 ++ (Q ++ (X1 ++ y :: (Y2 ++ R)))) := by
    unfold DT;rw [a1,a2,b1,b2];simp
  have e1 : (DT P (X1 ++ x :: X2) Q (Y1 ++ y :: Y2) R k).set (P.length + k) y = ((P ++ Y1) ++ y :: (X2 ++ (Q ++ X1))) ++ y :: (Y2 ++ R) := by
    rw [e,nD _ _ _ _ (by simp;omega)];simp
  have l1 : P.length + n + Q.length + k = ((P ++ Y1) ++ y :: (X2 ++ (Q ++ X1))).length := by
    simp only [aF,List.length_cons];omega
  refine ⟨x,y,by simp,by simp,?_,?_,?_,?_⟩
  · rw [e];exact mY _ _ _ (by simp;omega)
  · rw [e,show (P ++ Y1) ++ x :: (X2 ++ (Q ++ (X1 ++ y :: (Y2 ++ R)))) = ((P ++ Y1) ++ x :: (X2 ++ (Q ++ X1))) ++ y :: (Y2 ++ R) by simp]
    exact mY _ _ _ (by simp only [aF,List.length_cons];omega)
  · rw [e1];exact mY _ _ _ l1
  · rw [e1,nD _ _ _ _ l1];unfold DT;rw [a3,a4,b3,b4];simp
end Go.Ld
namespace Go.Proofs.YtmmkhmilpeodnaaGreat
open Go Go.Ab Go.Ld
attribute [local irreducible] VC AW cF aR
set_option maxHeartbeats 4000000
theorem AQ (P X Q Y R : List W) {n a b N : Nat} (h1 : X.length = n) (h2 : Y.length = n) (ha : a = P.length) (hb : b = P.length + n + Q.length) (hN : N = P.length + (n + (Q.length + (n + R.length)))) (hl : N ≤ 100000) :
    aR Tryz.prog 181 [.sl 0 0 N 3,.i a,.i b,.i n,qB] [.arr (fP (P ++ (X ++ (Q ++ (Y ++ R))))) 3] (.tup []) [.arr (fP (P ++ (Y ++ (Q ++ (X ++ R))))) 3] := by
  refine bQ T Tryz.func181 rfl rfl rfl rfl ?_
  (repeat' (first|refine wS ?_|refine wB ?_|(refine rg 0 (aV ?_))|refine nZ ?_));refine dA (X := {k : Nat // k ≤ n}) (fun k => [(0,.sl 0 0 N 3),(1,.i a),(2,.i b),(3,.i n),(4,qB),(10,.i k.1)]) (fun k => [.arr (fP (DT P X Q Y R k.1)) 3]) (fun k => n - k.1) ⟨0,by omega⟩ ⟨[0],rfl,by (repeat (first | exact trivial | refine ⟨rfl,?_⟩)),⟨.inr (aE rfl (by dsimp only;rw [zG6]) (bH _)),trivial⟩,by decide,lA⟩ ?_
  rintro ⟨k,hk⟩;dsimp only;by_cases hlt : k < n
  · obtain ⟨x,y,_,_,p1,p2,p3,p4⟩ := PL (P := P) (Q := Q) (R := R) h1 h2 hlt;have q1 := oJ (j := (a : Int) + (k : Int)) p1 (by omega)
    have q2 := oJ (j := (b : Int) + (k : Int)) p2 (by omega)
    have t1 := uD (L := DT P X Q Y R k) (j := (a : Int) + (k : Int)) (i := P.length + k) (x := y) (by omega)
    have q3 := oJ (j := (b : Int) + (k : Int)) p3 (by omega)
    have t2 := uD (L := (DT P X Q Y R k).set (P.length + k) y) (j := (b : Int) + (k : Int)) (i := P.length + n + Q.length + k) (x := x) (by omega)
    rw [← t1] at q3 t2;rw [p4] at t2;clear p1 p2 p3 p4 t1;generalize DT P X Q Y R k = L at *
    (repeat' (first|refine wS ?_|refine wB ?_|refine wK ?_|(refine wC rfl ?_ ?_<;>(intro hb;(try simp only [nm] at hb);try (exfalso;omega)))|(refine rg 1 (dX rfl (vV (aO rfl rfl) ?_)))|(refine mD (id := 3) 38 [[],[],[],[1,2],[],[],[],[5,6],[],[],[],[9,10],rM 8 4,rM 8 5,[],[],[],[15,16],rM 14 4,rM 14 5,[0,1,2,3,8,9,10,11,12,13,14,15,16,17,18,19],[0,1,2,3,8,9,10,11,12,13,14,15,16,17,18,19,20]] (rM 16 21) [[],[16],[16,17],[16],rM 16 4,rM 16 5,rM 16 6,rM 16 5,rM 16 8,rM 16 9,rM 16 10,rM 16 9,rM 16 8,rM 16 8,rM 16 14,rM 16 15,rM 16 16,rM 16 15,rM 16 14,rM 16 14,rM 20 4,rM 20 4] [(21,0)] cC rfl (by decide +kernel) (bZ rfl rfl rfl rfl (by exact bX rfl) ?_);refine bZ rfl rfl rfl rfl (by exact bX rfl) ?_;refine bZ rfl rfl rfl rfl (by exact bX rfl) ?_;refine bZ rfl rfl rfl rfl (by exact bT rfl rfl (by omega) (by omega)) ?_;refine bZ rfl rfl rfl rfl (by exact bX rfl) ?_;refine bZ rfl rfl rfl rfl (by exact bX rfl) ?_;refine bZ rfl rfl rfl rfl (by exact bX rfl) ?_;refine bZ rfl rfl rfl rfl (by exact bT rfl rfl (by omega) (by omega)) ?_;refine bZ rfl rfl rfl rfl (by exact bX rfl) ?_;refine bZ rfl rfl rfl rfl (by exact bX rfl) ?_;refine bZ rfl rfl rfl rfl (by exact bX rfl) ?_;refine bZ rfl rfl rfl rfl (by exact bT rfl rfl (by omega) (by omega)) ?_;refine bZ rfl rfl rfl rfl (by exact aK T rfl rfl rfl rfl rfl (by omega) (by omega)) ?_;refine bZ rfl rfl rfl rfl (by exact aQ T rfl rfl (bG rfl q2) rfl) ?_;refine bZ rfl rfl rfl rfl (by exact bX rfl) ?_;refine bZ rfl rfl rfl rfl (by exact bX rfl) ?_;refine bZ rfl rfl rfl rfl (by exact bX rfl) ?_;refine bZ rfl rfl rfl rfl (by exact bT rfl rfl (by omega) (by omega)) ?_;refine bZ rfl rfl rfl rfl (by exact aK T rfl rfl rfl rfl rfl (by omega) (by omega)) ?_;refine bZ rfl rfl rfl rfl (by exact aQ T rfl rfl (bG rfl q1) rfl) ?_;refine bZ rfl rfl rfl rfl (by exact aK T rfl rfl rfl rfl rfl (by omega) (by omega)) ?_;refine sU rfl rfl rfl rfl (aP rfl) T rfl rfl rfl rfl rfl rfl (by decide) (rV rfl q1 rfl) ?_;refine pS rfl rfl rfl (by exact rfl) ?_;refine vV (by exact aK T rfl rfl rfl rfl rfl (by omega) (by omega)) ?_;refine aT T rfl rfl rfl rfl rfl rfl (by decide) (lC rfl q3 rfl) ?_)|(refine iA 2 rfl rfl rfl (by omega) (by omega) ?_)|refine nZ ?_));all_goals first | (exfalso;omega) | exact ⟨⟨k + 1,by omega⟩,by dsimp only;omega,⟨[0],rfl,by (repeat (first | exact trivial | refine ⟨rfl,?_⟩)),⟨.inr (aE rfl (by dsimp only;rw [← t2];try rfl) (bH _)),trivial⟩,by decide,lA⟩⟩
  · obtain rfl : k = n := by omega
    have e := zG5 (P := P) (Q := Q) (R := R) h1 h2
    (repeat' (first|refine wS ?_|refine wE ?_|(refine wC rfl ?_ ?_<;>(intro hb;(try simp only [nm] at hb);try (exfalso;omega)))|(refine rg 1 (dX rfl (vV (aO rfl rfl) ?_)))|refine nZ ?_));all_goals first | (exfalso;omega) | exact ⟨.inl rfl,[0],_,rfl,rfl,rfl,⟨.inr (aE rfl (by rw [e]) (bH _)),trivial⟩,by decide,lA⟩ | exact ⟨.inr rfl,[0],_,rfl,rfl,rfl,⟨.inr (aE rfl (by rw [e]) (bH _)),trivial⟩,by decide,lA⟩
theorem QB (P X Y R : List W) {a m b N : Nat} (ha : a = P.length) (hm : m = P.length + X.length) (hb : b = P.length + X.length + Y.length) (hN : N = b + R.length) (hl : N ≤ 100000) (hX : 0 < X.length) (hY : 0 < Y.length) :
    aR Tryz.prog 176 [.sl 0 0 N 3,.i a,.i m,.i b,qB] [.arr (fP (P ++ (X ++ (Y ++ R)))) 3] (.tup []) [.arr (fP (P ++ (Y ++ (X ++ R)))) 3] := by
  refine bQ T Tryz.func176 rfl rfl rfl rfl ?_
  (repeat' (first|refine wS ?_|refine wB ?_|(refine rg 0 (dX rfl (vV (cM rfl rfl (by omega) (by omega)) (aV ?_))))|(refine rg 1 (dX rfl (vV (cM rfl rfl (by omega) (by omega)) (aV ?_))))|refine nZ ?_));refine dA (X := {q : List W × List W × List W × List W // q.1 ++ (q.2.2.1 ++ (q.2.1 ++ q.2.2.2)) = P ++ (Y ++ (X ++ R)) ∧ q.1.length + q.2.1.length = m ∧ m + q.2.2.1.length + q.2.2.2.length = N ∧ 0 < q.2.1.length ∧ 0 < q.2.2.1.length})
    (fun q => [(0,.sl 0 0 N 3),(1,.i a),(2,.i m),(3,.i b),(4,qB),(10,.i q.1.2.1.length),(11,.i q.1.2.2.1.length)]) (fun q => [.arr (fP (q.1.1 ++ (q.1.2.1 ++ (q.1.2.2.1 ++ q.1.2.2.2)))) 3]) (fun q => q.1.2.1.length + q.1.2.2.1.length) ⟨(P,X,Y,R),by dsimp only;exact ⟨rfl,by omega,by omega,hX,hY⟩⟩
    ⟨[0],rfl,⟨rfl,rfl,rfl,rfl,rfl,by dsimp only;rw [show (X.length : Int) = (m : Int) - (a : Int) by omega];rfl,by dsimp only;rw [show (Y.length : Int) = (b : Int) - (m : Int) by omega];rfl,trivial⟩,⟨.inr (aE rfl rfl (bH _)),trivial⟩,by decide,lA⟩ ?_
  rintro ⟨⟨P1,X1,Y1,R1⟩,h1,h2,h3,h4,h5⟩;dsimp only at h1 h2 h3 h4 h5 ⊢;have hsb : ((P1.length : Nat) : Int) = (m : Int) - (X1.length : Int) := by omega
  by_cases hij : X1.length = Y1.length
  · have hc := AQ P1 X1 [] Y1 R1 (n := X1.length) (a := P1.length) (b := m) (N := N) rfl hij.symm rfl (by simp;omega) (by simp;omega) hl
    rw [List.nil_append,List.nil_append,hsb,h1] at hc
    (repeat' (first|refine wS ?_|refine wE ?_|refine wU ?_|(refine rg 2 (dX rfl (vV (pR rfl rfl (by omega)) ?_)))|(refine rg 8 (dX rfl (mW rfl (vV (cM rfl rfl (by omega) (by omega)) (dX rfl (mW rfl (fQ [0] rfl rfl (hc) rfl rfl (by decide) ⟨.inr (aE rfl rfl (bH _)),trivial⟩ (by simp) rfl ?_)))))))|refine nZ ?_));all_goals first | (exfalso;omega) | exact ⟨.inl rfl,[0],_,rfl,rfl,rfl,⟨.inr (aE rfl (bU _ (bH _)) (bH _)),trivial⟩,by decide,lA⟩ | exact ⟨.inr rfl,[0],_,rfl,rfl,rfl,⟨.inr (aE rfl (bU _ (bH _)) (bH _)),trivial⟩,by decide,lA⟩
  · by_cases hgt : Y1.length < X1.length
    · -- a part of the left side goes to the end
      obtain ⟨A,B,rfl,hA⟩ : ∃ A B,X1 = A ++ B ∧ A.length = Y1.length := ⟨X1.take Y1.length,X1.drop Y1.length,by simp,by simp;omega⟩
      rw [aF] at *;have hc := AQ P1 A B Y1 R1 (n := Y1.length) (a := P1.length) (b := m) (N := N) hA rfl rfl (by omega) (by omega) hl
      rw [hsb] at hc;rw [bK]
      (repeat' (first|refine wS ?_|refine wB ?_|refine wK ?_|refine wT ?_|(refine rg 2 (dX rfl (vV (uM rfl rfl (by omega)) ?_)))|(refine rg 3 (dX rfl (vV (LD rfl rfl (by omega)) ?_)))|(refine rg 4 (dX rfl (mW rfl (vV (cM rfl rfl (by omega) (by omega)) (dX rfl (mW rfl (fQ [0] rfl rfl (hc) rfl rfl (by decide) ⟨.inr (aE rfl rfl (bH _)),trivial⟩ (by simp) rfl ?_)))))))|(refine rg 5 (dX rfl (vV (cM rfl rfl (by omega) (by omega)) (aV ?_))))|refine nZ ?_));all_goals first | (exfalso;omega) | skip
      refine ⟨⟨(P1 ++ Y1,B,A,R1),by dsimp only;refine ⟨by rw [← h1];simp,?_,?_,?_,?_⟩ <;> (try simp only [aF]) <;> omega⟩,by dsimp only;omega,⟨[0],rfl,⟨rfl,rfl,rfl,rfl,rfl,by dsimp only;rw [show (B.length : Int) = ((A.length + B.length : Nat) : Int) - (Y1.length : Int) by omega];rfl,by dsimp only;rw [hA];rfl,trivial⟩,⟨.inr (aE rfl (by rw [bU _ (bH _)];simp) (bH _)),trivial⟩,by decide,lA⟩⟩
    · -- a part of the right side goes to the front
      obtain ⟨A,B,rfl,hA⟩ : ∃ A B,Y1 = A ++ B ∧ B.length = X1.length := ⟨Y1.take (Y1.length - X1.length),Y1.drop (Y1.length - X1.length),by simp,by simp;omega⟩
      rw [aF] at *;have hc := AQ P1 X1 A B R1 (n := X1.length) (a := P1.length) (b := m + A.length) (N := N) rfl hA rfl (by omega) (by omega) hl
      rw [hsb,show ((m + A.length : Nat) : Int) = (m : Int) + ((A.length + B.length : Nat) : Int) - (X1.length : Int) by omega] at hc
      rw [bK]
      (repeat' (first|refine wS ?_|refine wB ?_|refine wK ?_|refine wT ?_|refine wU ?_|(refine rg 2 (dX rfl (vV (uM rfl rfl (by omega)) ?_)))|(refine rg 3 (dX rfl (vV (xY rfl rfl (by omega)) ?_)))|(refine rg 6 (dX rfl (mW rfl (vV (cM rfl rfl (by omega) (by omega)) (dX rfl (vV (bT rfl rfl (by omega) (by omega)) (mW rfl (vV (cM rfl rfl (by omega) (by omega)) (dX rfl (fQ [0] rfl rfl (hc) rfl rfl (by decide) ⟨.inr (aE rfl rfl (bH _)),trivial⟩ (by simp) rfl ?_))))))))))|(refine rg 7 (dX rfl (vV (cM rfl rfl (by omega) (by omega)) (aV ?_))))|refine nZ ?_));all_goals first | (exfalso;omega) | skip
      refine ⟨⟨(P1,B,A,X1 ++ R1),by dsimp only;refine ⟨by rw [← h1];simp,?_,?_,?_,?_⟩ <;> (try simp only [aF]) <;> omega⟩,by dsimp only;omega,⟨[0],rfl,⟨rfl,rfl,rfl,rfl,rfl,by dsimp only;rw [hA];rfl,by dsimp only;rw [show (A.length : Int) = ((A.length + B.length : Nat) : Int) - (X1.length : Int) by omega];rfl,trivial⟩,⟨.inr (aE rfl (by rw [bU _ (bH _)]) (bH _)),trivial⟩,by decide,lA⟩⟩
end Go.Proofs.YtmmkhmilpeodnaaGreat
namespace Go.Ld
open Go.Ab Go.Proofs.YtmmkhmilpeodnaaGreat
theorem MF {V : List W} {i : Nat} {z : W} (h0 : 0 < i) (h : V[i - 1]? = some z) : V.take i = V.take (i - 1) ++ [z] := by
  conv => lhs;rw [show i = (i - 1) + 1 by omega]
  rw [UX,h];rfl
theorem YK {V : List W} {i : Nat} {z : W} (h : V[i]? = some z) : V.drop i = z :: V.drop (i + 1) := by
  obtain ⟨hi,e⟩ := aB.1 h;rw [aU hi,e]
theorem JN {V : List W} {i : Nat} (hu : Up V) {x y z : W} (h0 : 0 < i) (h : V[i - 1]? = some z) (hy : y ∈ V.take i) (hz : eI z x ≤ 0) : eI y x ≤ 0 := by
  have h1 : Up (V.take i) := hu.sublist (List.take_sublist _ _);rw [MF h0 h] at h1 hy;exact iR.le_tr (JO h1 y hy) hz
theorem JP {V : List W} {i : Nat} (hu : Up V) {x y z : W} (h : V[i]? = some z) (hy : y ∈ V.drop i) (hz : eI x z ≤ 0) : eI x y ≤ 0 := by
  have h1 : Up (V.drop i) := hu.sublist (List.drop_sublist _ _);rw [YK h] at h1 hy;exact iR.le_tr hz (VN h1 y hy)
theorem qJ {V : List W} {i : Nat} {y : W} (h : y ∈ V.take i) (hi : i ≤ V.length) : 0 < i ∧ ∃ z,V[i - 1]? = some z := by
  have : 0 < i := by
    rcases E7 i with rfl | h0
    · simp at h
    · exact h0
  exact ⟨this,_,aA (by omega)⟩
theorem sA {V : List W} {i : Nat} {y : W} (h : y ∈ V.drop i) : ∃ z,V[i]? = some z := by
  have : i < V.length := by
    rcases iD i V.length with h0 | h0
    · exact h0
    · rw [cX h0] at h;cases h
  exact ⟨_,aA this⟩
theorem zB6 {u : W} {V : List W} {i : Nat} (hi : i ≤ V.length) (hu : Up V) (h1 : ∀ z,0 < i → V[i - 1]? = some z → eI z u < 0) (h2 : ∀ z,V[i]? = some z → ¬ eI z u < 0) : dW eI ([u] ++ V) = V.take i ++ u :: V.drop i := by
  refine B6 ?_ (HI (by rw [bM];exact hu) (fun y hy => ?_) (fun y hy => ?_))
  · refine List.perm_middle.trans ?_;rw [bM];exact .refl _
  · obtain ⟨h0,z,hz⟩ := qJ hy hi;exact JN hu h0 hz hy (yC (h1 z h0 hz))
  · obtain ⟨z,hz⟩ := sA hy;exact JP hu hz hy (zK2 (h2 z hz))
theorem zB5 {v : W} {U : List W} {i : Nat} (hi : i ≤ U.length) (hu : Up U) (h1 : ∀ z,0 < i → U[i - 1]? = some z → ¬ eI v z < 0) (h2 : ∀ z,U[i]? = some z → eI v z < 0) : dW eI (U ++ [v]) = U.take i ++ v :: U.drop i := by
  refine B6 ?_ (HI (by rw [bM];exact hu) (fun y hy => ?_) (fun y hy => ?_))
  · refine List.perm_middle.trans ?_;rw [bM];exact (E8 _ _).symm
  · obtain ⟨h0,z,hz⟩ := qJ hy hi;exact JN hu h0 hz hy (zK2 (h1 z h0 hz))
  · obtain ⟨z,hz⟩ := sA hy;exact JP hu hz hy (yC (h2 z hz))
theorem zJ1 {U V : List W} {i e : Nat} (hU : Up U) (hV : Up V) (hi : i ≤ U.length) (he : e ≤ V.length) (h1 : ∀ x y,0 < i → U[i - 1]? = some x → V[e]? = some y → ¬ eI y x < 0) (h2 : ∀ x y,0 < e → U[i]? = some x → V[e - 1]? = some y → eI y x < 0) :
    dW eI (U ++ V) = dW eI (U.take i ++ V.take e) ++ dW eI (U.drop i ++ V.drop e) := by
  have hU1 : Up (U.take i ++ U.drop i) := by rw [bM];exact hU
  have hV1 : Up (V.take e ++ V.drop e) := by rw [bM];exact hV
  have cU := (eU.1 hU1).2.2;have cV := (eU.1 hV1).2.2;refine B6 ?_ (zA0 (kN iR _) (kN iR _) fun x y hx hy => ?_)
  · refine ((dS _ _).append (dS _ _)).trans ?_;have e1 : (U.take i ++ V.take e ++ (U.drop i ++ V.drop e)).Perm (U.take i ++ U.drop i ++ (V.take e ++ V.drop e)) := by
      rw [bK,bK];refine List.Perm.append_left _ ?_;rw [← bK,← bK];exact List.perm_append_comm.append_right _
    rw [bM,bM] at e1;exact e1
  · have hx := (dS _ _).mem_iff.1 hx;have hy := (dS _ _).mem_iff.1 hy;rcases bF.1 hx with hx | hx <;> rcases bF.1 hy with hy | hy
    · exact cU x hx y hy
    · obtain ⟨h0,z,hz⟩ := qJ hx hi;obtain ⟨q,hq⟩ := sA hy;exact JP hV hq hy (JN hU h0 hz hx (zK2 (h1 z q h0 hz hq)))
    · obtain ⟨h0,z,hz⟩ := qJ hx he;obtain ⟨q,hq⟩ := sA hy;exact JP hU hq hy (JN hV h0 hz hx (yC (h2 q z h0 hq hz)))
    · exact cV x hx y hy
def F1 (P V : List W) (u : W) (R : List W) (k : Nat) : List W := (P ++ V.take k) ++ u :: (V.drop k ++ R)
theorem DP {P V : List W} {u : W} {R : List W} {k : Nat} (h : k < V.length) : ∃ y,(F1 P V u R k)[P.length + k]? = some u ∧ (F1 P V u R k)[P.length + k + 1]? = some y ∧
    ((F1 P V u R k).set (P.length + k) y)[P.length + k + 1]? = some y ∧ ((F1 P V u R k).set (P.length + k) y).set (P.length + k + 1) u = F1 P V u R (k + 1) ∧
    (F1 P V u R (k + 1))[P.length + k + 1]? = some u ∧ (F1 P V u R (k + 1))[P.length + k]? = some y ∧ ((F1 P V u R (k + 1)).set (P.length + k + 1) y)[P.length + k]? = some y ∧ ((F1 P V u R (k + 1)).set (P.length + k + 1) y).set (P.length + k) u = F1 P V u R k := by
  obtain ⟨V1,y,V2,rfl,hk⟩ := HN h;obtain ⟨a1,a2,a3,a4⟩ := zL1 (x := y) (X2 := V2) hk;have e : F1 P (V1 ++ y :: V2) u R k = (P ++ V1) ++ u :: y :: (V2 ++ R) := by unfold F1;rw [a1,a2];simp
  have e' : F1 P (V1 ++ y :: V2) u R (k + 1) = (P ++ V1) ++ y :: u :: (V2 ++ R) := by unfold F1;rw [a3,a4];simp
  have l0 : P.length + k = (P ++ V1).length := by simp;omega
  have s1 : ∀ (p q : W),((P ++ V1) ++ p :: q :: (V2 ++ R))[P.length + k + 1]? = some q := fun p q => by
    rw [show (P ++ V1) ++ p :: q :: (V2 ++ R) = ((P ++ V1) ++ [p]) ++ q :: (V2 ++ R) by simp];exact mY _ _ _ (by simp;omega)
  have s2 : ∀ (p q z : W),((P ++ V1) ++ p :: q :: (V2 ++ R)).set (P.length + k + 1) z = (P ++ V1) ++ p :: z :: (V2 ++ R) := fun p q z => by
    rw [show (P ++ V1) ++ p :: q :: (V2 ++ R) = ((P ++ V1) ++ [p]) ++ q :: (V2 ++ R) by simp,nD _ _ _ _ (by simp;omega)];simp
  rw [e,e'];refine ⟨y,mY _ _ _ l0,s1 _ _,?_,?_,s1 _ _,mY _ _ _ l0,?_,?_⟩
  · rw [nD _ _ _ _ l0];exact s1 _ _
  · rw [nD _ _ _ _ l0,s2]
  · rw [s2];exact mY _ _ _ l0
  · rw [s2,nD _ _ _ _ l0]
theorem TY {P U V R : List W} {i k : Nat} (h : i = P.length + U.length + k) (hk : k < V.length) : (P ++ (U ++ (V ++ R)))[i]? = V[k]? := by
  subst h;rw [aD (by omega),aD (by omega),aG (by omega)]
  congr 1;omega
theorem TZ {P U V R : List W} {i k : Nat} (h : i = P.length + k) (hk : k < U.length) : (P ++ (U ++ (V ++ R)))[i]? = U[k]? := by
  subst h;rw [aD (by omega),aG (by omega)]
  congr 1;omega
end Go.Ld
namespace Go.Proofs.YtmmkhmilpeodnaaGreat
open Go Go.Ab Go.Ld
attribute [local irreducible] VC AW cF aR
set_option maxHeartbeats 4000000
theorem vP : I8 Tryz.prog 3 .i64 := by unfold I8;kernel_rfl
theorem pX : I8 Tryz.prog 119 .u64 := by unfold I8;kernel_rfl
attribute [local irreducible] I8
theorem zA3 (P : List W) (u : W) (V R : List W) {a m b N : Nat} (ha : a = P.length) (hm : m = a + 1) (hb : b = m + V.length) (hN : N = b + R.length) (hl : N ≤ 100000) (hV : Up V) (hu : F3 u) (hw : ∀ w,w ∈ V → F3 w) :
    aR Tryz.prog 162 [.sl 0 0 N 3,.i a,.i m,.i b,qB] [.arr (fP (P ++ ([u] ++ (V ++ R)))) 3] (.tup []) [.arr (fP (P ++ (dW eI ([u] ++ V) ++ R))) 3] := by
  refine bQ T Tryz.func162 rfl rfl rfl rfl ?_
  (repeat' (first|refine wS ?_|refine wB ?_|refine wT ?_|(refine rg 0 (dX rfl (vV (cM rfl rfl (by omega) (by omega)) (vV (kO rfl rfl (by omega)) ?_))))|(refine rg 1 (mW rfl (aV ?_)))|(refine rg 2 (mW rfl (aV ?_)))|refine nZ ?_));refine dA (X := {q : Nat × Nat // m ≤ q.1 ∧ q.1 ≤ q.2 ∧ q.2 ≤ b ∧ (∀ z, 0 < q.1 - m → V[q.1 - m - 1]? = some z → eI z u < 0) ∧ (∀ z, V[q.2 - m]? = some z → ¬ eI z u < 0)})
    (fun q => [(0,.sl 0 0 N 3),(1,.i a),(4,qB),(10,.i q.1.1),(11,.i q.1.2)]) (fun _ => [.arr (fP (P ++ ([u] ++ (V ++ R)))) 3]) (fun q => q.1.2 - q.1.1) ⟨(m,b),by dsimp only;exact ⟨by omega,by omega,by omega,fun z h => by omega,fun z h => by rw [cO (by omega)] at h;cases h⟩⟩
    ⟨[0],rfl,by (repeat (first | exact trivial | refine ⟨rfl,?_⟩)),⟨.inr (aE rfl rfl (bH _)),trivial⟩,by decide,lA⟩ ?_
  rintro ⟨⟨i,j⟩,h1,h2,h3,h4,h5⟩;dsimp only at h1 h2 h3 h4 h5 ⊢;by_cases hij : i < j
  · have hP : ((i : Int) + j) / 2 ^ (1 : Int).toNat = (((i + j) / 2 : Nat) : Int) := by rw [show (2 : Int) ^ (1 : Int).toNat = 2 from rfl];omega
    have hw1 : IntKind.u64.wrap ((i : Int) + j) = (i : Int) + j := DJ (by omega) (by omega)
    have hw2 : IntKind.i64.wrap (((i + j) / 2 : Nat) : Int) = (((i + j) / 2 : Nat) : Int) := IntWalk.i64_in _ (by omega)
    have hh : i ≤ (i + j) / 2 ∧ (i + j) / 2 < j := by omega
    generalize hq : (i + j) / 2 = q at *;obtain ⟨z,hz⟩ : ∃ z,V[q - m]? = some z := ⟨_,aA (by omega)⟩
    have q1 := oJ (L := P ++ ([u] ++ (V ++ R))) (j := (q : Int)) (i := q) (x := z) (by rw [TY (k := q - m) (by simp;omega) (by omega)];exact hz) rfl
    have q2 := oJ (L := P ++ ([u] ++ (V ++ R))) (j := (a : Int)) (i := a) (x := u) (by rw [TZ (k := 0) (by omega) (by simp)];rfl) rfl
    have hc := uH z u (hw z (aM hz)) hu;by_cases h0 : eI z u < 0
    · generalize hx : eI z u = x at *
      (repeat' (first|refine wS ?_|refine wB ?_|refine wK ?_|(refine wC rfl ?_ ?_<;>(intro hb;(try simp only [nm] at hb);try (exfalso;omega)))|(refine rg 3 (dX rfl (vV (aO rfl rfl) ?_)))|(refine rg 4 (dX rfl (vV (bT rfl rfl (by omega) (by omega)) (vV (iO vP pX rfl hw1) (vV (by exact hP ▸ sD rfl rfl (by decide) (by decide)) ?_))));refine vV (iO pX vP rfl hw2) (aV ?_))|(refine bL (id := 5) 220 zR0 (rM 40 11) zR1 cC rfl (by decide +kernel) (dN rfl (dN rfl (dN rfl (dV rfl (by exact aK T rfl rfl rfl rfl rfl (by omega) (by omega)) ?_))));refine dV rfl (by exact aQ T rfl rfl (bG rfl q1) rfl) ?_;refine dN rfl (dN rfl (dV rfl (by exact aK T rfl rfl rfl rfl rfl (by omega) (by omega)) ?_));refine dV rfl (by exact aQ T rfl rfl (bG rfl q2) rfl) ?_;refine dV rfl (kC (hc)) (dV rfl (aO rfl rfl) (dE ?_)))|(refine iA 6 rfl rfl rfl (by omega) (by omega) ?_)|refine nZ ?_));all_goals first | (exfalso;omega) | skip
      exact ⟨⟨(q + 1,j),by dsimp only;exact ⟨by omega,by omega,by omega,fun z' _ hz' => by rw [show q + 1 - m - 1 = q - m by omega,hz] at hz';cases hz';omega,h5⟩⟩,by dsimp only;omega,⟨[0],rfl,by (repeat (first | exact trivial | refine ⟨rfl,?_⟩)),⟨.inr (aE rfl rfl (bH _)),trivial⟩,by decide,lA⟩⟩
    · generalize hx : eI z u = x at *
      (repeat' (first|refine wS ?_|refine wB ?_|refine wK ?_|(refine wC rfl ?_ ?_<;>(intro hb;(try simp only [nm] at hb);try (exfalso;omega)))|(refine rg 3 (dX rfl (vV (aO rfl rfl) ?_)))|(refine rg 4 (dX rfl (vV (bT rfl rfl (by omega) (by omega)) (vV (iO vP pX rfl hw1) (vV (by exact hP ▸ sD rfl rfl (by decide) (by decide)) ?_))));refine vV (iO pX vP rfl hw2) (aV ?_))|(refine bL (id := 5) 220 zR0 (rM 40 11) zR1 cC rfl (by decide +kernel) (dN rfl (dN rfl (dN rfl (dV rfl (by exact aK T rfl rfl rfl rfl rfl (by omega) (by omega)) ?_))));refine dV rfl (by exact aQ T rfl rfl (bG rfl q1) rfl) ?_;refine dN rfl (dN rfl (dV rfl (by exact aK T rfl rfl rfl rfl rfl (by omega) (by omega)) ?_));refine dV rfl (by exact aQ T rfl rfl (bG rfl q2) rfl) ?_;refine dV rfl (kC (hc)) (dV rfl (aO rfl rfl) (dE ?_)))|(refine rg 7 (mW rfl (aV ?_)))|refine nZ ?_));all_goals first | (exfalso;omega) | skip
      exact ⟨⟨(i,q),by dsimp only;exact ⟨by omega,by omega,by omega,h4,fun z' hz' => by rw [hz] at hz';cases hz';omega⟩⟩,by dsimp only;omega,⟨[0],rfl,by (repeat (first | exact trivial | refine ⟨rfl,?_⟩)),⟨.inr (aE rfl rfl (bH _)),trivial⟩,by decide,lA⟩⟩
  · obtain rfl : i = j := by omega
    have hmg := zB6 (u := u) (i := i - m) (by omega) hV h4 h5
    (repeat' (first|refine wS ?_|refine wB ?_|refine wE ?_|(refine wC rfl ?_ ?_<;>(intro hb;(try simp only [nm] at hb);try (exfalso;omega)))|(refine rg 3 (dX rfl (vV (aO rfl rfl) ?_)))|(refine rg 8 (mW rfl (aV ?_)))|refine nZ ?_));all_goals first | (exfalso;omega) | skip
    refine dA (X := {t : Nat // t ≤ i - m}) (fun t => [(0,.sl 0 0 N 3),(10,.i i),(13,.i ((a + t.1 : Nat) : Int))]) (fun t => [.arr (fP (F1 P V u R t.1)) 3]) (fun t => i - m - t.1) ⟨0,by omega⟩ ⟨[0],rfl,⟨rfl,rfl,by dsimp only;rfl,trivial⟩,⟨.inr (aE rfl (by dsimp only;unfold F1;simp) (bH _)),trivial⟩,by decide,lA⟩ ?_
    rintro ⟨t,ht⟩;dsimp only;by_cases hlt : t < i - m
    · obtain ⟨y,p1,p2,p3,p4,_⟩ := DP (P := P) (u := u) (R := R) (show t < V.length by omega)
      have q1 := oJ (j := ((a + t : Nat) : Int)) p1 (by omega)
      have q2 := oJ (j := ((a + t : Nat) : Int) + 1) p2 (by omega)
      have t1 := uD (L := F1 P V u R t) (j := ((a + t : Nat) : Int)) (i := P.length + t) (x := y) (by omega)
      have q3 := oJ (j := ((a + t : Nat) : Int) + 1) p3 (by omega)
      have t2 := uD (L := (F1 P V u R t).set (P.length + t) y) (j := ((a + t : Nat) : Int) + 1) (i := P.length + t + 1) (x := u) (by omega)
      rw [← t1] at q3 t2;rw [p4] at t2;have hJ : ((a + t : Nat) : Int) + 1 = ((a + (t + 1) : Nat) : Int) := by omega
      have hJ1 : ((a + t : Nat) : Int) < (i : Int) - 1 := by omega
      have hJ2 : 0 ≤ ((a + t : Nat) : Int) := by omega
      clear p1 p2 p3 p4 t1;generalize ((a + t : Nat) : Int) = J at *;generalize F1 P V u R t = L at *
      (repeat' (first|refine wS ?_|refine wB ?_|refine wK ?_|(refine wC rfl ?_ ?_<;>(intro hb;(try simp only [nm] at hb);try (exfalso;omega)))|(refine rg 9 (dX rfl (vV (cM rfl rfl (by omega) (by omega)) (vV (aO rfl rfl) ?_))))|(refine mD (id := 11) 220 zQ8 (rM 61 15) [[],[61],[61,62],[61,62,63],[61,62,63],rM 61 5,rM 61 6,rM 61 6,rM 61 5,rM 61 5,rM 61 10,rM 61 11,rM 61 10,rM 61 10,[63,64,65],[63,64,65]] [(15,0)] cC rfl (by decide +kernel) (bZ rfl rfl rfl rfl (by exact bX rfl) ?_);refine bZ rfl rfl rfl rfl (by exact bX rfl) ?_;refine bZ rfl rfl rfl rfl (by exact bX rfl) ?_;refine bZ rfl rfl rfl rfl (by exact bX rfl) ?_;refine bZ rfl rfl rfl rfl (by exact bT rfl rfl (by omega) (by omega)) ?_;refine bZ rfl rfl rfl rfl (by exact bX rfl) ?_;refine bZ rfl rfl rfl rfl (by exact bX rfl) ?_;refine bZ rfl rfl rfl rfl (by exact bT rfl rfl (by omega) (by omega)) ?_;refine bZ rfl rfl rfl rfl (by exact aK T rfl rfl rfl rfl rfl (by omega) (by omega)) ?_;refine bZ rfl rfl rfl rfl (by exact aQ T rfl rfl (bG rfl q2) rfl) ?_;refine bZ rfl rfl rfl rfl (by exact bX rfl) ?_;refine bZ rfl rfl rfl rfl (by exact bX rfl) ?_;refine bZ rfl rfl rfl rfl (by exact aK T rfl rfl rfl rfl rfl (by omega) (by omega)) ?_;refine bZ rfl rfl rfl rfl (by exact aQ T rfl rfl (bG rfl q1) rfl) ?_;refine bZ rfl rfl rfl rfl (by exact aK T rfl rfl rfl rfl rfl (by omega) (by omega)) ?_;refine sU rfl rfl rfl rfl (aP rfl) T rfl rfl rfl rfl rfl rfl (by decide) (rV rfl q1 rfl) ?_;refine pS rfl rfl rfl (by exact rfl) ?_;refine vV (by exact aK T rfl rfl rfl rfl rfl (by omega) (by omega)) ?_;refine aT T rfl rfl rfl rfl rfl rfl (by decide) (lC rfl q3 rfl) ?_)|(refine iA 10 rfl rfl rfl (by omega) (by omega) ?_)|refine nZ ?_));all_goals first | (exfalso;omega) | skip
      exact ⟨⟨t + 1,by omega⟩,by dsimp only;omega,⟨[0],rfl,⟨rfl,rfl,by dsimp only;rw [← hJ];try rfl,trivial⟩,⟨.inr (aE rfl (by dsimp only;rw [← t2];try rfl) (bH _)),trivial⟩,by decide,lA⟩⟩
    · obtain rfl : t = i - m := by omega
      have ee : F1 P V u R (i - m) = P ++ (dW eI ([u] ++ V) ++ R) := by rw [hmg];unfold F1;simp
      have hJ1 : ¬ ((a + (i - m) : Nat) : Int) < (i : Int) - 1 := by omega
      generalize ((a + (i - m) : Nat) : Int) = J at *
      (repeat' (first|refine wS ?_|refine wR ?_|refine wE ?_|(refine wC rfl ?_ ?_<;>(intro hb;(try simp only [nm] at hb);try (exfalso;omega)))|(refine rg 9 (dX rfl (vV (cM rfl rfl (by omega) (by omega)) (vV (aO rfl rfl) ?_))))|refine nZ ?_));all_goals first | (exfalso;omega) | exact ⟨.inl rfl,[0],_,rfl,rfl,rfl,⟨.inr (aE rfl (by rw [ee]) (bH _)),trivial⟩,by decide,lA⟩ | exact ⟨.inr rfl,[0],_,rfl,rfl,rfl,⟨.inr (aE rfl (by rw [ee]) (bH _)),trivial⟩,by decide,lA⟩
theorem zA2 (P U : List W) (v : W) (R : List W) {a m b N : Nat} (ha : a = P.length) (hm : m = a + U.length) (hb : b = m + 1) (hN : N = b + R.length) (hl : N ≤ 100000) (hU2 : 2 ≤ U.length) (hU : Up U) (hv : F3 v) (hw : ∀ w,w ∈ U → F3 w) :
    aR Tryz.prog 162 [.sl 0 0 N 3,.i a,.i m,.i b,qB] [.arr (fP (P ++ (U ++ ([v] ++ R)))) 3] (.tup []) [.arr (fP (P ++ (dW eI (U ++ [v]) ++ R))) 3] := by
  refine bQ T Tryz.func162 rfl rfl rfl rfl ?_
  (repeat' (first|refine wS ?_|refine wB ?_|refine wK ?_|refine wT ?_|refine wU ?_|(refine rg 0 (dX rfl (vV (cM rfl rfl (by omega) (by omega)) (vV (gL rfl rfl (by omega)) ?_))))|(refine rg 12 (dX rfl (vV (cM rfl rfl (by omega) (by omega)) (vV (kO rfl rfl (by omega)) ?_))))|(refine rg 13 (mW rfl (aV ?_)))|(refine rg 14 (mW rfl (aV ?_)))|refine nZ ?_));refine dA (X := {q : Nat × Nat // a ≤ q.1 ∧ q.1 ≤ q.2 ∧ q.2 ≤ m ∧ (∀ z, 0 < q.1 - a → U[q.1 - a - 1]? = some z → ¬ eI v z < 0) ∧ (∀ z, U[q.2 - a]? = some z → eI v z < 0)})
    (fun q => [(0,.sl 0 0 N 3),(2,.i m),(4,qB),(14,.i q.1.1),(15,.i q.1.2)]) (fun _ => [.arr (fP (P ++ (U ++ ([v] ++ R)))) 3]) (fun q => q.1.2 - q.1.1) ⟨(a,m),by dsimp only;exact ⟨by omega,by omega,by omega,fun z h => by omega,fun z h => by rw [cO (by omega)] at h;cases h⟩⟩
    ⟨[0],rfl,by (repeat (first | exact trivial | refine ⟨rfl,?_⟩)),⟨.inr (aE rfl rfl (bH _)),trivial⟩,by decide,lA⟩ ?_
  rintro ⟨⟨i,j⟩,h1,h2,h3,h4,h5⟩;dsimp only at h1 h2 h3 h4 h5 ⊢;by_cases hij : i < j
  · have hP : ((i : Int) + j) / 2 ^ (1 : Int).toNat = (((i + j) / 2 : Nat) : Int) := by rw [show (2 : Int) ^ (1 : Int).toNat = 2 from rfl];omega
    have hw1 : IntKind.u64.wrap ((i : Int) + j) = (i : Int) + j := DJ (by omega) (by omega)
    have hw2 : IntKind.i64.wrap (((i + j) / 2 : Nat) : Int) = (((i + j) / 2 : Nat) : Int) := IntWalk.i64_in _ (by omega)
    have hh : i ≤ (i + j) / 2 ∧ (i + j) / 2 < j := by omega
    generalize hq : (i + j) / 2 = q at *;obtain ⟨z,hz⟩ : ∃ z,U[q - a]? = some z := ⟨_,aA (by omega)⟩
    have q1 := oJ (L := P ++ (U ++ ([v] ++ R))) (j := (m : Int)) (i := m) (x := v) (by rw [TY (k := 0) (by omega) (by simp)];rfl) rfl
    have q2 := oJ (L := P ++ (U ++ ([v] ++ R))) (j := (q : Int)) (i := q) (x := z) (by rw [TZ (k := q - a) (by omega) (by omega)];exact hz) rfl
    have hc := uH v z hv (hw z (aM hz));by_cases h0 : eI v z < 0
    · generalize hx : eI v z = x at *
      (repeat' (first|refine wS ?_|refine wB ?_|refine wK ?_|(refine wC rfl ?_ ?_<;>(intro hb;(try simp only [nm] at hb);try (exfalso;omega)))|(refine rg 15 (dX rfl (vV (aO rfl rfl) ?_)))|(refine rg 16 (dX rfl (vV (bT rfl rfl (by omega) (by omega)) (vV (iO vP pX rfl hw1) (vV (by exact hP ▸ sD rfl rfl (by decide) (by decide)) ?_))));refine vV (iO pX vP rfl hw2) (aV ?_))|(refine bL (id := 17) 220 zR2 (rM 92 12) zR3 cC rfl (by decide +kernel) (dN rfl (dN rfl (dN rfl (dV rfl (by exact aK T rfl rfl rfl rfl rfl (by omega) (by omega)) ?_))));refine dV rfl (by exact aQ T rfl rfl (bG rfl q1) rfl) ?_;refine dN rfl (dN rfl (dV rfl (by exact aK T rfl rfl rfl rfl rfl (by omega) (by omega)) ?_));refine dV rfl (by exact aQ T rfl rfl (bG rfl q2) rfl) ?_;refine dV rfl (kC (hc)) (dV rfl (aO rfl rfl) (dV rfl (dH rfl) (dE ?_))))|(refine rg 19 (mW rfl (aV ?_)))|refine nZ ?_));all_goals first | (exfalso;omega) | skip
      exact ⟨⟨(i,q),by dsimp only;exact ⟨by omega,by omega,by omega,h4,fun z' hz' => by rw [hz] at hz';cases hz';omega⟩⟩,by dsimp only;omega,⟨[0],rfl,by (repeat (first | exact trivial | refine ⟨rfl,?_⟩)),⟨.inr (aE rfl rfl (bH _)),trivial⟩,by decide,lA⟩⟩
    · generalize hx : eI v z = x at *
      (repeat' (first|refine wS ?_|refine wB ?_|refine wK ?_|(refine wC rfl ?_ ?_<;>(intro hb;(try simp only [nm] at hb);try (exfalso;omega)))|(refine rg 15 (dX rfl (vV (aO rfl rfl) ?_)))|(refine rg 16 (dX rfl (vV (bT rfl rfl (by omega) (by omega)) (vV (iO vP pX rfl hw1) (vV (by exact hP ▸ sD rfl rfl (by decide) (by decide)) ?_))));refine vV (iO pX vP rfl hw2) (aV ?_))|(refine bL (id := 17) 220 zR2 (rM 92 12) zR3 cC rfl (by decide +kernel) (dN rfl (dN rfl (dN rfl (dV rfl (by exact aK T rfl rfl rfl rfl rfl (by omega) (by omega)) ?_))));refine dV rfl (by exact aQ T rfl rfl (bG rfl q1) rfl) ?_;refine dN rfl (dN rfl (dV rfl (by exact aK T rfl rfl rfl rfl rfl (by omega) (by omega)) ?_));refine dV rfl (by exact aQ T rfl rfl (bG rfl q2) rfl) ?_;refine dV rfl (kC (hc)) (dV rfl (aO rfl rfl) (dV rfl (dH rfl) (dE ?_))))|(refine iA 18 rfl rfl rfl (by omega) (by omega) ?_)|refine nZ ?_));all_goals first | (exfalso;omega) | skip
      exact ⟨⟨(q + 1,j),by dsimp only;exact ⟨by omega,by omega,by omega,fun z' _ hz' => by rw [show q + 1 - a - 1 = q - a by omega,hz] at hz';cases hz';omega,h5⟩⟩,by dsimp only;omega,⟨[0],rfl,by (repeat (first | exact trivial | refine ⟨rfl,?_⟩)),⟨.inr (aE rfl rfl (bH _)),trivial⟩,by decide,lA⟩⟩
  · obtain rfl : i = j := by omega
    have hmg := zB5 (v := v) (i := i - a) (by omega) hU h4 h5
    (repeat' (first|refine wS ?_|refine wB ?_|refine wE ?_|(refine wC rfl ?_ ?_<;>(intro hb;(try simp only [nm] at hb);try (exfalso;omega)))|(refine rg 15 (dX rfl (vV (aO rfl rfl) ?_)))|(refine rg 20 (mW rfl (aV ?_)))|refine nZ ?_));all_goals first | (exfalso;omega) | skip
    refine dA (X := {t : Nat // i - a ≤ t ∧ t ≤ U.length}) (fun t => [(0,.sl 0 0 N 3),(14,.i i),(17,.i ((a + t.1 : Nat) : Int))]) (fun t => [.arr (fP (F1 P U v R t.1)) 3]) (fun t => t.1) ⟨U.length,by omega⟩ ⟨[0],rfl,⟨rfl,rfl,by dsimp only;rw [← hm];rfl,trivial⟩,⟨.inr (aE rfl (by dsimp only;unfold F1;simp) (bH _)),trivial⟩,by decide,lA⟩ ?_
    rintro ⟨t,ht,ht2⟩;dsimp only;by_cases hlt : i - a < t
    · obtain ⟨t,rfl⟩ : ∃ t',t = t' + 1 := ⟨t - 1,by omega⟩
      obtain ⟨y,_,_,_,_,p1,p2,p3,p4⟩ := DP (P := P) (u := v) (R := R) (show t < U.length by omega)
      have q1 := oJ (j := ((a + (t + 1) : Nat) : Int)) p1 (by omega)
      have q2 := oJ (j := ((a + (t + 1) : Nat) : Int) - 1) p2 (by omega)
      have t1 := uD (L := F1 P U v R (t + 1)) (j := ((a + (t + 1) : Nat) : Int)) (i := P.length + t + 1) (x := y) (by omega)
      have q3 := oJ (j := ((a + (t + 1) : Nat) : Int) - 1) p3 (by omega)
      have t2 := uD (L := (F1 P U v R (t + 1)).set (P.length + t + 1) y) (j := ((a + (t + 1) : Nat) : Int) - 1) (i := P.length + t) (x := v) (by omega)
      rw [← t1] at q3 t2;rw [p4] at t2;have hJ : ((a + (t + 1) : Nat) : Int) - 1 = ((a + t : Nat) : Int) := by omega
      have hJ1 : ((a + (t + 1) : Nat) : Int) > (i : Int) := by omega
      have hJ2 : 1 ≤ ((a + (t + 1) : Nat) : Int) := by omega
      have hJ3 : ((a + (t + 1) : Nat) : Int) < N := by omega
      clear p1 p2 p3 p4 t1;generalize ((a + (t + 1) : Nat) : Int) = J at *;generalize F1 P U v R (t + 1) = L at *
      (repeat' (first|refine wS ?_|refine wB ?_|refine wK ?_|(refine wC rfl ?_ ?_<;>(intro hb;(try simp only [nm] at hb);try (exfalso;omega)))|(refine rg 21 (dX rfl (vV (fT rfl rfl) ?_)))|(refine mD (id := 23) 220 zQ8 (rM 113 15) [[],[113],[113,114],[113,114,115],[113,114,115],rM 113 5,rM 113 6,rM 113 6,rM 113 5,rM 113 5,rM 113 10,rM 113 11,rM 113 10,rM 113 10,[115,116,117],[115,116,117]] [(15,0)] cC rfl (by decide +kernel) (bZ rfl rfl rfl rfl (by exact bX rfl) ?_);refine bZ rfl rfl rfl rfl (by exact bX rfl) ?_;refine bZ rfl rfl rfl rfl (by exact bX rfl) ?_;refine bZ rfl rfl rfl rfl (by exact bX rfl) ?_;refine bZ rfl rfl rfl rfl (by exact cM rfl rfl (by omega) (by omega)) ?_;refine bZ rfl rfl rfl rfl (by exact bX rfl) ?_;refine bZ rfl rfl rfl rfl (by exact bX rfl) ?_;refine bZ rfl rfl rfl rfl (by exact cM rfl rfl (by omega) (by omega)) ?_;refine bZ rfl rfl rfl rfl (by exact aK T rfl rfl rfl rfl rfl (by omega) (by omega)) ?_;refine bZ rfl rfl rfl rfl (by exact aQ T rfl rfl (bG rfl q2) rfl) ?_;refine bZ rfl rfl rfl rfl (by exact bX rfl) ?_;refine bZ rfl rfl rfl rfl (by exact bX rfl) ?_;refine bZ rfl rfl rfl rfl (by exact aK T rfl rfl rfl rfl rfl (by omega) (by omega)) ?_;refine bZ rfl rfl rfl rfl (by exact aQ T rfl rfl (bG rfl q1) rfl) ?_;refine bZ rfl rfl rfl rfl (by exact aK T rfl rfl rfl rfl rfl (by omega) (by omega)) ?_;refine sU rfl rfl rfl rfl (aP rfl) T rfl rfl rfl rfl rfl rfl (by decide) (rV rfl q1 rfl) ?_;refine pS rfl rfl rfl (by exact rfl) ?_;refine vV (by exact aK T rfl rfl rfl rfl rfl (by omega) (by omega)) ?_;refine aT T rfl rfl rfl rfl rfl rfl (by decide) (lC rfl q3 rfl) ?_)|(refine rg 22 (mW rfl (vV (cM rfl rfl (by omega) (by omega)) (aV ?_))))|refine nZ ?_));all_goals first | (exfalso;omega) | skip
      exact ⟨⟨t,by omega⟩,by dsimp only;omega,⟨[0],rfl,⟨rfl,rfl,by dsimp only;rw [← hJ];try rfl,trivial⟩,⟨.inr (aE rfl (by dsimp only;rw [← t2];try rfl) (bH _)),trivial⟩,by decide,lA⟩⟩
    · obtain rfl : t = i - a := by omega
      have ee : F1 P U v R (i - a) = P ++ (dW eI (U ++ [v]) ++ R) := by rw [hmg];unfold F1;simp
      have hJ1 : ¬ ((a + (i - a) : Nat) : Int) > (i : Int) := by omega
      generalize ((a + (i - a) : Nat) : Int) = J at *
      (repeat' (first|refine wS ?_|refine wR ?_|refine wE ?_|(refine wC rfl ?_ ?_<;>(intro hb;(try simp only [nm] at hb);try (exfalso;omega)))|(refine rg 21 (dX rfl (vV (fT rfl rfl) ?_)))|refine nZ ?_));all_goals first | (exfalso;omega) | exact ⟨.inl rfl,[0],_,rfl,rfl,rfl,⟨.inr (aE rfl (by rw [ee]) (bH _)),trivial⟩,by decide,lA⟩ | exact ⟨.inr rfl,[0],_,rfl,rfl,rfl,⟨.inr (aE rfl (by rw [ee]) (bH _)),trivial⟩,by decide,lA⟩
end Go.Proofs.YtmmkhmilpeodnaaGreat
namespace Go.Ab
open Go
set_option maxHeartbeats 1000000
theorem oV {z : Array Value} {zs : List Value} (hz : z.toList = zs) (hn : zs ≠ []) (m : Nat) : (∀ v,v ∈ (Builtin.zeroCells z m).toList → v ∈ zs) ∧ (Builtin.zeroCells z m).toList.length = m * zs.length := by
  subst hz;have h0 : 0 < z.size := by
    rcases E7 z.size with h | h
    · exact absurd (by simpa using Array.size_eq_zero_iff.1 h) hn
    · exact h
  unfold Builtin.zeroCells;constructor
  · intro v hv;simp only [bI,Array.toList_ofFn,List.mem_ofFn,Array.toList_map,Array.toList_range] at hv;rcases hv with ⟨i,hi⟩
    first
      | (have hlt := Nat.mod_lt i.1 h0;rw [getElem!_pos z _ hlt] at hi;rw [← hi];exact Array.mem_toList_iff.2 (Array.getElem_mem _))
      | (have hlt := Nat.mod_lt i h0;rw [getElem!_pos z _ hlt] at hi;rw [← hi.2];exact Array.mem_toList_iff.2 (Array.getElem_mem _))
  · simp
section
variable {P : Program} {env : dU} {h : Hp} {n : Nat × Nat} {ops : Array Oper} {rest : List Oper} {K : dU → Hp → Prop} {ty : TypeId} {pos : String} {af : Array Edge}
theorem F5 (T : oS P) {t e k off len sz : Nat} {i : TI} {x : Operand} {es : List (List AV)} (hx : evu env x = some (.sl k off len sz)) (ht : T.elem t = some e) (he : T.ti e = some i) (hz : i.zero.length = sz ∧ i.zero.all Value.oneCell' = true ∧ 0 < sz) (hkk : h[k]? = some (.arr es sz)) (hle : off + len ≤ es.length)
    (hk : VC P n ops rest env (h.set k (.arr (es.take off) sz)) K) : VC P n ops (⟨none,.call { callee := .builtin .clear,args := #[x],argTypes := #[t] },ty,pos,af,none⟩ :: rest) env h K := by
  intro c ρ S a w Q s hQ;refine wpList_plain rfl fun K' hK' => ?_
  have p := s.pre;have hxv := p.evu hx;simp only [R] at hxv;obtain ⟨ad,cap,hev,_,hxv⟩ := hxv;obtain ⟨inf,z,t1,t2,t3,t4,t5,t6,t7⟩ := T.tiOk e i he;have hund : P.underlying t = some (.slice e) := T.elemOk _ _ ht;have hzv : ∀ w,(zeroValue e).run P w = .ok z w := fun w => by simp [zeroValue,typeInfo,t1,t4]
  obtain ⟨hz1,hz2,hz3⟩ := hz;have hzc := oV (z := z.cells) t5 (fun h0 => by rw [h0] at hz1;simp at hz1;omega)
  have ev1 : ∀ r w',(Builtin.clear_ #[t] ty #[a.eval x]).run P w = .ok r w' → (execOp a.eval ⟨none,.call { callee := .builtin .clear,args := #[x],argTypes := #[t] },ty,pos,af,none⟩).run P w = .ok (.value r) w' := fun r w' hr => by
    simp [execOp,resolve,invoke,builtin,hr]
  have fin : ∀ {r : Value} {w' : World},(Builtin.clear_ #[t] ty #[a.eval x]).run P w = .ok r w' → HS c ρ S (h.set k (.arr (es.take off) sz)) w' ∧ hO ρ ρ S S w w' → Oper.wp P ⟨none,.call { callee := .builtin .clear,args := #[x],argTypes := #[t] },ty,pos,af,none⟩ a w K' Q := fun {r w'} hr ⟨g1,g2⟩ => by
    unfold Oper.wp;rw [ev1 r w' hr];exact hK' _ _ (hk c ρ S _ _ Q ⟨by rw [lX];exact s.size,by rw [jQ];exact s.defers.later g2,fun tt uu huu => (s.env tt uu huu).later g2,g1,s.cm⟩ hQ)
  have stay : HS c ρ S (h.set k (.arr (es.take off) sz)) w ∧ hO ρ ρ S S w w := ⟨s.hs.alter hkk (DA off) (by simp),⟨fun _ _ h => h,fun _ h => h,fun _ _ => rfl,fun _ _ _ _ _ h => h⟩⟩
  cases len with
  | zero =>
    refine fin (r := .tuple #[]) ?_ stay;rw [hev];cases ad <;> simp [Builtin.clear_,run_underlying hund]
  | succ m =>
    rcases hxv with ⟨h0,_⟩ | ⟨b,o,hp,ha,hlc,hroom⟩
    · cases h0
    · have hB := p.blk k _ hkk;obtain ⟨hes,hs0,hB⟩ := hB;rcases hB with hB | ⟨b',o',ys,h4,⟨cc,ct,h5,h6⟩,h7⟩
      · obtain ⟨hB,_⟩ := hB;subst hB;simp at hle
      rw [hp] at h4;cases h4;have hyl := fL h7;have hfl := fA hes;have hmul : (off + (m + 1)) * sz ≤ es.length * sz := gR _ hle;rw [eG] at hmul;have hpos : 0 < (m + 1) * sz := Nat.mul_pos (by omega) hz3
      have hlast := h6 (ys.length - 1) (ys[ys.length - 1]'(by omega)) (aA _)
      have hsz := (aH.1 hlast).1;obtain ⟨hzm,hzl⟩ := hzc (m + 1);rw [hz1] at hzl;generalize hZ : (Builtin.zeroCells z.cells (m + 1)).toList = Z at *;have hst := run_storeCells_at P b (o + off * sz) ct Z 0 cc w h5 (by rw [hzl];omega) (by intro v hv;exact (bA.1 hz2) v (hzm v hv))
      subst ha;refine fin (r := .tuple #[]) (w' := w.setRow b (cc.toList.take (o + off * sz + 0) ++ Z ++ cc.toList.drop (o + off * sz + 0 + Z.length)).toArray) ?_ (s.hs.upd hkk (by simp) hp (pN h5 ?_) fun l => ?_)
      · rw [hev];simp only [Builtin.clear_];simp [run_underlying hund,hzv,hZ,hst]
      · simp;omega
      · refine ⟨fun e he => hes e (fF he),hz3,.inr ⟨b,o,ys.take (off * sz),rfl,⟨_,ct,setRow_heap w b cc _ ct _ h5,fun j y hj => ?_⟩,?_⟩⟩
        · rw [bW] at hj;split at hj
          · rename_i hjo;have := h6 j y hj;have hjl := (aH.1 this).1;rw [iC,bK,aG (by simp;omega),bW,if_pos (by omega)]
            simpa using this
          · cases hj
        · rw [xZ hes];exact pU (h7.later l) _
end
end Go.Ab
namespace Go.Ld
open Go.Ab Go.Proofs.YtmmkhmilpeodnaaGreat
theorem VX {P U V R : List W} {a m b mid n lo hi s : Nat} (ha : a = P.length) (hm : m = a + U.length) (hb : b = m + V.length) (hmid : mid = (a + b) / 2) (hn : n = mid + m) (hU : Up U) (hV : Up V)
    (hc : mid < m ∧ lo = n - b ∧ hi = mid ∨ m ≤ mid ∧ lo = a ∧ hi = m) (hs1 : lo ≤ s) (hs2 : s ≤ hi)
    (h1 : ∀ x y,lo < s → (P ++ (U ++ (V ++ R)))[s - 1]? = some x → (P ++ (U ++ (V ++ R)))[n - s]? = some y → ¬ eI y x < 0)
    (h2 : ∀ x y,s < hi → (P ++ (U ++ (V ++ R)))[s]? = some x → (P ++ (U ++ (V ++ R)))[n - 1 - s]? = some y → eI y x < 0) :
    ∃ X1 X2 Y1 Y2,U = X1 ++ X2 ∧ V = Y1 ++ Y2 ∧ s = a + X1.length ∧ n = (m + Y1.length) + s ∧ mid = a + X1.length + Y1.length ∧ dW eI (U ++ V) = dW eI (X1 ++ Y1) ++ dW eI (X2 ++ Y2) := by
  have f1 : a ≤ s ∧ s ≤ m ∧ m + s ≤ n ∧ n ≤ b + s := by rcases hc with ⟨c1,c2,c3⟩ | ⟨c1,c2,c3⟩ <;> omega
  obtain ⟨f1,f2,f3,f4⟩ := f1;refine ⟨U.take (s - a),U.drop (s - a),V.take (n - s - m),V.drop (n - s - m),by simp,by simp,by rw [bD];omega,by rw [bD];omega,by rw [bD,bD];omega,?_⟩
  refine zJ1 hU hV (by omega) (by omega) (fun x y h0 hx hy => ?_) (fun x y h0 hx hy => ?_)
  · have i1 := (aB.1 hy).1;refine h1 x y (by rcases hc with ⟨c1,c2,c3⟩ | ⟨c1,c2,c3⟩ <;> omega) ?_ ?_
    · rw [TZ (k := s - a - 1) (by omega) (by omega)];exact hx
    · rw [TY (k := n - s - m) (by omega) (by omega)];exact hy
  · have i1 := (aB.1 hx).1;refine h2 x y (by rcases hc with ⟨c1,c2,c3⟩ | ⟨c1,c2,c3⟩ <;> omega) ?_ ?_
    · rw [TZ (k := s - a) (by omega) (by omega)];exact hx
    · rw [TY (k := n - s - m - 1) (by omega) (by omega)];exact hy
theorem zG3 {A B : List W} (h : Up (A ++ B)) : Up A := (eU.1 h).1
theorem zG2 {A B : List W} (h : Up (A ++ B)) : Up B := (eU.1 h).2.1
def bs (k : Nat) (l : List W) : List W := if h : l.length ≤ k ∨ k = 0 then dW eI l else dW eI (l.take k) ++ bs k (l.drop k)
  termination_by l.length
  decreasing_by simp only [dR];omega
theorem K4 {k : Nat} {l : List W} (h : l.length ≤ k) : bs k l = dW eI l := by unfold bs;rw [dif_pos (.inl h)]
theorem zJ5 {k : Nat} {l : List W} (h : k < l.length) (h0 : 0 < k) : bs k l = dW eI (l.take k) ++ bs k (l.drop k) := by rw [bs,dif_neg (by omega)]
theorem T3 {k : Nat} {a b : List W} (h : a.length = k) (h0 : 0 < k) : bs k (a ++ b) = dW eI a ++ bs k b := by
  subst h;cases b with
  | nil => rw [List.append_nil,K4 (aY _),K4 (cT _)];simp [dW]
  | cons x b => rw [zJ5 (by simp) h0,uA,uB]
theorem zE4 (k : Nat) (l : List W) : (bs k l).length = l.length := by
  induction hn : l.length using Nat.strongRecOn generalizing l with
  | _ n ih =>
    unfold bs;split
    · rw [iF,hn]
    · rw [aF,iF,bD,ih (l.drop k).length (by rw [dR];omega) _ rfl,dR];omega
theorem DY (a b : List W) : dW eI (dW eI a ++ dW eI b) = dW eI (a ++ b) :=
  B6 ((dS _ _).trans ((dS _ _).append (dS _ _)).symm) (kN iR _)
end Go.Ld
namespace Go.Proofs.YtmmkhmilpeodnaaGreat
open Go Go.Ab Go.Ld
attribute [local irreducible] VC AW cF aR I8
set_option maxHeartbeats 4000000
theorem ZJ : ∀ (k : Nat) (P U V R : List W) {a m b N : Nat},b - a ≤ k → 0 < U.length → 0 < V.length → a = P.length → m = a + U.length → b = m + V.length → N = b + R.length → N ≤ 100000 → Up U → Up V → (∀ w,w ∈ U → F3 w) → (∀ w,w ∈ V → F3 w) →
    aR Tryz.prog 162 [.sl 0 0 N 3,.i a,.i m,.i b,qB] [.arr (fP (P ++ (U ++ (V ++ R)))) 3] (.tup []) [.arr (fP (P ++ (dW eI (U ++ V) ++ R))) 3] := by
  intro k
  induction k with
  | zero => intros;exfalso;omega
  | succ k ih =>
    intro P U V R a m b N hk hU0 hV0 ha hm hb hN hl hU hV hwU hwV;by_cases hu1 : U.length = 1
    · obtain ⟨u,rfl⟩ := List.length_eq_one_iff.1 hu1;exact zA3 P u V R ha hm hb hN hl hV (hwU u (by simp)) hwV
    by_cases hv1 : V.length = 1
    · obtain ⟨v,rfl⟩ := List.length_eq_one_iff.1 hv1;exact zA2 P U v R ha hm hb hN hl (by omega) hU (hwV v (by simp)) hwU
    have hP : ((a : Int) + b) / 2 ^ (1 : Int).toNat = (((a + b) / 2 : Nat) : Int) := by rw [show (2 : Int) ^ (1 : Int).toNat = 2 from rfl];omega
    have hw1 : IntKind.u64.wrap ((a : Int) + b) = (a : Int) + b := DJ (by omega) (by omega)
    have hw2 : IntKind.i64.wrap (((a + b) / 2 : Nat) : Int) = (((a + b) / 2 : Nat) : Int) := IntWalk.i64_in _ (by omega)
    obtain ⟨mid,hmid⟩ : ∃ mid,mid = (a + b) / 2 := ⟨_,rfl⟩;rw [← hmid] at hP hw2;have hD1 : ∀ i,a ≤ i → i < m → (P ++ (U ++ (V ++ R)))[i]? = U[i - a]? := fun i h1 h2 => TZ (by omega) (by omega)
    have hD2 : ∀ i,m ≤ i → i < b → (P ++ (U ++ (V ++ R)))[i]? = V[i - m]? := fun i h1 h2 => TY (by omega) (by omega)
    have hcut : ∀ {lo hi s : Nat},_ := @VX P U V R a m b mid (mid + m);generalize hDe : P ++ (U ++ (V ++ R)) = D at *;refine bQ T Tryz.func162 rfl rfl rfl rfl ?_;apply Go.Ab.cutT (T := ∀ lo hi : Nat,(mid < m ∧ lo = mid + m - b ∧ hi = mid ∨ m ≤ mid ∧ lo = a ∧ hi = m) → _)
    · intro rest;by_cases h : mid < m
      · obtain ⟨lo,hlo⟩ : ∃ lo : Nat,lo = mid + m - b := ⟨_,rfl⟩;obtain ⟨hi,hhi⟩ : ∃ hi : Nat,hi = mid := ⟨_,rfl⟩
        (repeat' (first|refine wS ?_|refine wB ?_|refine wK ?_|refine wU ?_|(refine wC rfl ?_ ?_<;>(intro hb;(try simp only [nm] at hb);try (exfalso;omega)))|(refine rg 0 (dX rfl (vV (cM rfl rfl (by omega) (by omega)) (vV (gL rfl rfl (by omega)) ?_))))|(refine rg 12 (dX rfl (vV (cM rfl rfl (by omega) (by omega)) (vV (gL rfl rfl (by omega)) ?_))))|(refine rg 24 (dX rfl (vV (bT rfl rfl (by omega) (by omega)) (vV (iO vP pX rfl hw1) (vV (by exact hP ▸ sD rfl rfl (by decide) (by decide)) ?_))));refine vV (iO pX vP rfl hw2) (aV ?_))|(refine rg 25 (dX rfl (vV (bT rfl rfl (by omega) (by omega)) (aV ?_))))|(refine rg 26 (pT ?_))|(refine rg 27 (dX rfl (vV (fT rfl rfl) ?_)))|(refine rg 28 (dX rfl (vV (cM rfl rfl (by omega) (by omega)) (aV ?_))))|(refine rg 29 (mW rfl (aV ?_)))|(refine rg 32 (mW rfl (vV (cM rfl rfl (by omega) (by omega)) (aV ?_))))|refine nZ ?_));all_goals first | (exfalso;omega) | exact fE [(0,.sl 0 0 N 3),(1,.i a),(2,.i m),(3,.i b),(4,qB),(18,.i mid),(19,.i ((mid : Int) + m)),(20,.i lo),(21,.i hi),(22,.i ((mid : Int) + m - 1))] [.arr (fP D) 3] ⟨[0],rfl,⟨rfl,rfl,rfl,rfl,rfl,rfl,rfl,by rw [show (lo : Int) = (mid : Int) + m - b by omega];rfl,by rw [hhi];rfl,rfl,trivial⟩,⟨.inr (aE rfl rfl (bH _)),trivial⟩,by decide,lA⟩ (rest.get lo hi (by omega))
      · obtain ⟨lo,hlo⟩ : ∃ lo : Nat,lo = a := ⟨_,rfl⟩;obtain ⟨hi,hhi⟩ : ∃ hi : Nat,hi = m := ⟨_,rfl⟩
        (repeat' (first|refine wS ?_|refine wB ?_|refine wK ?_|refine wU ?_|(refine wC rfl ?_ ?_<;>(intro hb;(try simp only [nm] at hb);try (exfalso;omega)))|(refine rg 0 (dX rfl (vV (cM rfl rfl (by omega) (by omega)) (vV (gL rfl rfl (by omega)) ?_))))|(refine rg 12 (dX rfl (vV (cM rfl rfl (by omega) (by omega)) (vV (gL rfl rfl (by omega)) ?_))))|(refine rg 24 (dX rfl (vV (bT rfl rfl (by omega) (by omega)) (vV (iO vP pX rfl hw1) (vV (by exact hP ▸ sD rfl rfl (by decide) (by decide)) ?_))));refine vV (iO pX vP rfl hw2) (aV ?_))|(refine rg 25 (dX rfl (vV (bT rfl rfl (by omega) (by omega)) (aV ?_))))|(refine rg 26 (pT ?_))|(refine rg 27 (dX rfl (vV (fT rfl rfl) ?_)))|(refine rg 30 (mW rfl (aV ?_)))|(refine rg 31 (mW rfl (aV ?_)))|(refine rg 32 (mW rfl (vV (cM rfl rfl (by omega) (by omega)) (aV ?_))))|refine nZ ?_));all_goals first | (exfalso;omega) | exact fE [(0,.sl 0 0 N 3),(1,.i a),(2,.i m),(3,.i b),(4,qB),(18,.i mid),(19,.i ((mid : Int) + m)),(20,.i lo),(21,.i hi),(22,.i ((mid : Int) + m - 1))] [.arr (fP D) 3] ⟨[0],rfl,⟨rfl,rfl,rfl,rfl,rfl,rfl,rfl,by rw [hlo];rfl,by rw [hhi];rfl,rfl,trivial⟩,⟨.inr (aE rfl rfl (bH _)),trivial⟩,by decide,lA⟩ (rest.get lo hi (by omega))
    intro lo hi hc;have hcut := fun s => @hcut lo hi s ha hm hb hmid rfl hU hV hc
    refine dA (X := {q : Nat × Nat // lo ≤ q.1 ∧ q.1 ≤ q.2 ∧ q.2 ≤ hi ∧ (∀ x y, lo < q.1 → D[q.1 - 1]? = some x → D[mid + m - q.1]? = some y → ¬ eI y x < 0) ∧ (∀ x y, q.2 < hi → D[q.2]? = some x → D[mid + m - 1 - q.2]? = some y → eI y x < 0)})
      (fun q => [(0,.sl 0 0 N 3),(1,.i a),(2,.i m),(3,.i b),(4,qB),(18,.i mid),(19,.i ((mid : Int) + m)),(20,.i q.1.1),(21,.i q.1.2),(22,.i ((mid : Int) + m - 1))]) (fun _ => [.arr (fP D) 3]) (fun q => q.1.2 - q.1.1) ⟨(lo,hi),by dsimp only;exact ⟨by omega,by omega,by omega,fun x y h => by omega,fun x y h => by omega⟩⟩
      ⟨[0],rfl,by (repeat (first | exact trivial | refine ⟨rfl,?_⟩)),⟨.inr (aE rfl rfl (bH _)),trivial⟩,by decide,lA⟩ ?_
    rintro ⟨⟨i,j⟩,h1,h2,h3,h4,h5⟩;dsimp only at h1 h2 h3 h4 h5 ⊢;have hlo : a ≤ lo ∧ hi ≤ m ∧ m ≤ mid + m - hi ∧ mid + m - lo ≤ b ∧ lo ≤ mid + m := by omega
    by_cases hij : i < j
    · clear hP hw1 hw2;have hP : ((i : Int) + j) / 2 ^ (1 : Int).toNat = (((i + j) / 2 : Nat) : Int) := by rw [show (2 : Int) ^ (1 : Int).toNat = 2 from rfl];omega
      have hw1 : IntKind.u64.wrap ((i : Int) + j) = (i : Int) + j := DJ (by omega) (by omega)
      have hw2 : IntKind.i64.wrap (((i + j) / 2 : Nat) : Int) = (((i + j) / 2 : Nat) : Int) := IntWalk.i64_in _ (by omega)
      have hh : i ≤ (i + j) / 2 ∧ (i + j) / 2 < j := by omega
      generalize hq : (i + j) / 2 = q at *;obtain ⟨x,hx⟩ : ∃ x,U[q - a]? = some x := ⟨_,aA (by omega)⟩
      obtain ⟨y,hy⟩ : ∃ y,V[mid + m - 1 - q - m]? = some y := ⟨_,aA (by omega)⟩
      have wx := hwU x (aM hx);have wy := hwV y (aM hy);rw [← hD1 q (by omega) (by omega)] at hx
      rw [← hD2 (mid + m - 1 - q) (by omega) (by omega)] at hy
      have q1 := oJ (j := (mid : Int) + m - 1 - q) hy (by omega)
      have q2 := oJ (j := (q : Int)) hx rfl;have hc' := uH y x wy wx;by_cases h0 : eI y x < 0
      · generalize hz : eI y x = z at *
        (repeat' (first|refine wS ?_|refine wB ?_|refine wK ?_|(refine wC rfl ?_ ?_<;>(intro hb;(try simp only [nm] at hb);try (exfalso;omega)))|(refine rg 33 (dX rfl (vV (aO rfl rfl) ?_)))|(refine rg 34 (dX rfl (vV (bT rfl rfl (by omega) (by omega)) (vV (iO vP pX rfl hw1) (vV (by exact hP ▸ sD rfl rfl (by decide) (by decide)) ?_))));refine vV (iO pX vP rfl hw2) (aV ?_))|(refine bL (id := 35) 220 zR4 (rM 158 14) zR5 cC rfl (by decide +kernel) (dN rfl (dN rfl (dN rfl (dN rfl (dV rfl (cM rfl rfl (by omega) (by omega)) (dV rfl (by exact aK T rfl rfl rfl rfl rfl (by omega) (by omega)) ?_))))));refine dV rfl (by exact aQ T rfl rfl (bG rfl q1) rfl) ?_;refine dN rfl (dN rfl (dV rfl (by exact aK T rfl rfl rfl rfl rfl (by omega) (by omega)) ?_));refine dV rfl (by exact aQ T rfl rfl (bG rfl q2) rfl) ?_;refine dV rfl (kC (hc')) (dV rfl (aO rfl rfl) (dV rfl (dH rfl) (dE ?_))))|(refine rg 37 (mW rfl (aV ?_)))|refine nZ ?_));all_goals first | (exfalso;omega) | skip
        exact ⟨⟨(i,q),by dsimp only;exact ⟨by omega,by omega,by omega,h4,fun x' y' _ hx' hy' => by rw [hx] at hx';rw [hy] at hy';cases hx';cases hy';omega⟩⟩,by dsimp only;omega,⟨[0],rfl,by (repeat (first | exact trivial | refine ⟨rfl,?_⟩)),⟨.inr (aE rfl rfl (bH _)),trivial⟩,by decide,lA⟩⟩
      · generalize hz : eI y x = z at *
        (repeat' (first|refine wS ?_|refine wB ?_|refine wK ?_|(refine wC rfl ?_ ?_<;>(intro hb;(try simp only [nm] at hb);try (exfalso;omega)))|(refine rg 33 (dX rfl (vV (aO rfl rfl) ?_)))|(refine rg 34 (dX rfl (vV (bT rfl rfl (by omega) (by omega)) (vV (iO vP pX rfl hw1) (vV (by exact hP ▸ sD rfl rfl (by decide) (by decide)) ?_))));refine vV (iO pX vP rfl hw2) (aV ?_))|(refine bL (id := 35) 220 zR4 (rM 158 14) zR5 cC rfl (by decide +kernel) (dN rfl (dN rfl (dN rfl (dN rfl (dV rfl (cM rfl rfl (by omega) (by omega)) (dV rfl (by exact aK T rfl rfl rfl rfl rfl (by omega) (by omega)) ?_))))));refine dV rfl (by exact aQ T rfl rfl (bG rfl q1) rfl) ?_;refine dN rfl (dN rfl (dV rfl (by exact aK T rfl rfl rfl rfl rfl (by omega) (by omega)) ?_));refine dV rfl (by exact aQ T rfl rfl (bG rfl q2) rfl) ?_;refine dV rfl (kC (hc')) (dV rfl (aO rfl rfl) (dV rfl (dH rfl) (dE ?_))))|(refine iA 36 rfl rfl rfl (by omega) (by omega) ?_)|refine nZ ?_));all_goals first | (exfalso;omega) | skip
        exact ⟨⟨(q + 1,j),by dsimp only;exact ⟨by omega,by omega,by omega,fun x' y' _ hx' hy' => by rw [show q + 1 - 1 = q by omega,hx] at hx';rw [show mid + m - (q + 1) = mid + m - 1 - q by omega,hy] at hy';cases hx';cases hy';omega,h5⟩⟩,by dsimp only;omega,⟨[0],rfl,by (repeat (first | exact trivial | refine ⟨rfl,?_⟩)),⟨.inr (aE rfl rfl (bH _)),trivial⟩,by decide,lA⟩⟩
    · obtain rfl : i = j := by omega
      obtain ⟨X1,X2,Y1,Y2,rfl,rfl,e1,e2,e3,hsrt⟩ := hcut i (by omega) (by omega) h4 h5
      clear hcut h4 h5 hD1 hD2 hP hw1 hw2;rw [hsrt];obtain ⟨e,he⟩ : ∃ e,e = m + Y1.length := ⟨_,rfl⟩;simp only [aF] at hm hb hU0 hV0 hu1 hv1;have uX1 := zG3 hU;have uX2 := zG2 hU;have uY1 := zG3 hV;have uY2 := zG2 hV;have w1 := ih P X1 Y1 (X2 ++ (Y2 ++ R)) (a := a) (m := i) (b := mid) (N := N);have w2 := ih (P ++ dW eI (X1 ++ Y1)) X2 Y2 R (a := mid) (m := e) (b := b) (N := N);have hsl : (dW eI (X1 ++ Y1)).length = X1.length + Y1.length := by rw [iF,aF]
      have w0 := QB (P ++ X1) X2 Y1 (Y2 ++ R) (a := i) (m := m) (b := e) (N := N);simp only [aF,hsl] at w0 w1 w2;have c0 : i < m → m < e → _ := fun h h' => w0 (by omega) (by omega) (by omega) (by omega) hl (by omega) (by omega)
      have c1 : a < i → i < mid → _ := fun h h' => w1 (by omega) (by omega) (by omega) ha (by omega) (by omega) (by omega) hl uX1 uY1 (fun w hw => hwU w (by simp [hw])) (fun w hw => hwV w (by simp [hw]))
      have c2 : mid < e → e < b → _ := fun h h' => w2 (by omega) (by omega) (by omega) (by omega) (by omega) (by omega) (by omega) hl uX2 uY2 (fun w hw => hwU w (by simp [hw])) (fun w hw => hwV w (by simp [hw]))
      have d0 : ¬ (i < m ∧ m < e) → D = P ++ (X1 ++ (Y1 ++ (X2 ++ (Y2 ++ R)))) := fun h => by
        rw [← hDe];by_cases h' : X2.length = 0
        · rw [bP h'];simp
        · rw [bP (show Y1.length = 0 by omega)];simp
      have d1 : ¬ (a < i ∧ i < mid) → P ++ (X1 ++ (Y1 ++ (X2 ++ (Y2 ++ R)))) = P ++ (dW eI (X1 ++ Y1) ++ (X2 ++ (Y2 ++ R))) := fun h => by
        by_cases h' : X1.length = 0
        · rw [bP h',List.nil_append,List.nil_append,M1 uY1]
        · rw [bP (show Y1.length = 0 by omega),List.nil_append,List.append_nil,M1 uX1]
      have d2 : ¬ (mid < e ∧ e < b) → P ++ (dW eI (X1 ++ Y1) ++ (X2 ++ (Y2 ++ R))) = P ++ (dW eI (X1 ++ Y1) ++ dW eI (X2 ++ Y2) ++ R) := fun h => by
        by_cases h' : X2.length = 0
        · rw [bP h',List.nil_append,List.nil_append,M1 uY2];simp
        · rw [bP (show Y2.length = 0 by omega),List.nil_append,List.append_nil,M1 uX2];simp
      have g0 : (P ++ X1) ++ (X2 ++ (Y1 ++ (Y2 ++ R))) = D := by rw [← hDe];simp
      have g1 : (P ++ X1) ++ (Y1 ++ (X2 ++ (Y2 ++ R))) = P ++ (X1 ++ (Y1 ++ (X2 ++ (Y2 ++ R)))) := by simp
      have g2 : (P ++ dW eI (X1 ++ Y1)) ++ (X2 ++ (Y2 ++ R)) = P ++ (dW eI (X1 ++ Y1) ++ (X2 ++ (Y2 ++ R))) := by simp
      have g3 : (P ++ dW eI (X1 ++ Y1)) ++ (dW eI (X2 ++ Y2) ++ R) = P ++ (dW eI (X1 ++ Y1) ++ dW eI (X2 ++ Y2) ++ R) := by simp
      rw [g0,g1] at c0;rw [g2,g3] at c2;clear w0 w1 w2 ih g0 g1 g2 g3 hDe hwU hwV;generalize P ++ (dW eI (X1 ++ Y1) ++ dW eI (X2 ++ Y2) ++ R) = A3 at *;generalize P ++ (dW eI (X1 ++ Y1) ++ (X2 ++ (Y2 ++ R))) = A2 at *;generalize P ++ (X1 ++ (Y1 ++ (X2 ++ (Y2 ++ R)))) = A1 at *;apply Go.Ab.cutT
      · intro rest;by_cases h : i < m ∧ m < e
        · have hc' := c0 h.1 h.2;rw [show (e : Int) = (mid : Int) + m - i by omega] at hc'
          (repeat' (first|refine wS ?_|refine wE ?_|(refine wC rfl ?_ ?_<;>(intro hb;(try simp only [nm] at hb);try (exfalso;omega)))|(refine rg 33 (dX rfl (vV (aO rfl rfl) ?_)))|(refine rg 38 (dX rfl (vV (cM rfl rfl (by omega) (by omega)) (aV ?_))))|(refine rg 39 (dX rfl (vV (aO rfl rfl) (mV ?_)));refine cN rfl rfl ?_ ?_<;>(intro hb;rw [hb];(try simp only [nm] at hb);try (exfalso;omega));(all_goals (refine yN rfl (yN rfl (yV (aO rfl rfl) (pV ?_))))))|(refine rg 40 (dX rfl (dX rfl (mW rfl (fQ [0] rfl rfl (hc') rfl rfl (by decide) ⟨.inr (aE rfl rfl (bH _)),trivial⟩ (by simp) rfl ?_)))))|refine nZ ?_));all_goals first | (exfalso;omega) | exact fE [(0,.sl 0 0 N 3),(1,.i a),(3,.i b),(4,qB),(18,.i mid),(20,.i i),(24,.i e)] [.arr (fP A1) 3] ⟨[0],rfl,⟨rfl,rfl,rfl,rfl,rfl,rfl,by rw [show (e : Int) = (mid : Int) + m - i by omega];rfl,trivial⟩,⟨.inr (aE rfl (bU _ (bH _)) (bH _)),trivial⟩,by decide,lA⟩ rest.get
        · obtain rfl := d0 h
          (repeat' (first|refine wS ?_|refine wK ?_|refine wE ?_|refine wU ?_|(refine wC rfl ?_ ?_<;>(intro hb;(try simp only [nm] at hb);try (exfalso;omega)))|(refine rg 33 (dX rfl (vV (aO rfl rfl) ?_)))|(refine rg 38 (dX rfl (vV (cM rfl rfl (by omega) (by omega)) (aV ?_))))|(refine rg 39 (dX rfl (vV (aO rfl rfl) (mV ?_)));refine cN rfl rfl ?_ ?_<;>(intro hb;rw [hb];(try simp only [nm] at hb);try (exfalso;omega));(all_goals first|(refine gT (mW rfl (gT (mW rfl (gT (vV (aO rfl rfl) ?_))))))|(iterate 3 refine gF ?_));(all_goals (refine pV ?_)))|refine nZ ?_));all_goals first | (exfalso;omega) | exact fE [(0,.sl 0 0 N 3),(1,.i a),(3,.i b),(4,qB),(18,.i mid),(20,.i i),(24,.i e)] [.arr (fP D) 3] ⟨[0],rfl,⟨rfl,rfl,rfl,rfl,rfl,rfl,by rw [show (e : Int) = (mid : Int) + m - i by omega];rfl,trivial⟩,⟨.inr (aE rfl rfl (bH _)),trivial⟩,by decide,lA⟩ rest.get
      clear c0 d0;apply Go.Ab.cutT
      · intro rest;by_cases h : a < i ∧ i < mid
        · have hc' := c1 h.1 h.2
          (repeat' (first|refine wS ?_|(refine wC rfl ?_ ?_<;>(intro hb;(try simp only [nm] at hb);try (exfalso;omega)))|(refine rg 41 (dX rfl (vV (aO rfl rfl) (mV ?_)));refine cN rfl rfl ?_ ?_<;>(intro hb;rw [hb];(try simp only [nm] at hb);try (exfalso;omega));(all_goals (refine yN rfl (yN rfl (yV (aO rfl rfl) (pV ?_))))))|(refine rg 42 (dX rfl (dX rfl (mW rfl (fQ [0] rfl rfl (hc') rfl rfl (by decide) ⟨.inr (aE rfl rfl (bH _)),trivial⟩ (by simp) rfl ?_)))))|refine nZ ?_));all_goals first | (exfalso;omega) | exact fE [(0,.sl 0 0 N 3),(1,.i a),(3,.i b),(4,qB),(18,.i mid),(24,.i e)] [.arr (fP A2) 3] ⟨[0],rfl,(by repeat first|exact trivial|refine ⟨rfl,?_⟩),⟨.inr (aE rfl (bU _ (bH _)) (bH _)),trivial⟩,by decide,lA⟩ rest.get
        · obtain rfl := d1 h
          (repeat' (first|refine wS ?_|refine wK ?_|refine wU ?_|(refine wC rfl ?_ ?_<;>(intro hb;(try simp only [nm] at hb);try (exfalso;omega)))|(refine rg 41 (dX rfl (vV (aO rfl rfl) (mV ?_)));refine cN rfl rfl ?_ ?_<;>(intro hb;rw [hb];(try simp only [nm] at hb);try (exfalso;omega));(all_goals first|(refine gT (mW rfl (gT (mW rfl (gT (vV (aO rfl rfl) ?_))))))|(iterate 3 refine gF ?_));(all_goals (refine pV ?_)))|refine nZ ?_));all_goals first | (exfalso;omega) | exact fE [(0,.sl 0 0 N 3),(1,.i a),(3,.i b),(4,qB),(18,.i mid),(24,.i e)] [.arr (fP A1) 3] ⟨[0],rfl,(by repeat first|exact trivial|refine ⟨rfl,?_⟩),⟨.inr (aE rfl rfl (bH _)),trivial⟩,by decide,lA⟩ rest.get
      clear c1 d1;by_cases h : mid < e ∧ e < b
      · have hc' := c2 h.1 h.2
        (repeat' (first|(refine wC rfl ?_ ?_<;>(intro hb;(try simp only [nm] at hb);try (exfalso;omega)))|(refine rg 43 (dX rfl (vV (aO rfl rfl) (mV ?_)));refine cN rfl rfl ?_ ?_<;>(intro hb;rw [hb];(try simp only [nm] at hb);try (exfalso;omega));(all_goals (refine yN rfl (yN rfl (yV (aO rfl rfl) (pV ?_))))))|(refine rg 44 (dX rfl (dX rfl (mW rfl (fQ [0] rfl rfl (hc') rfl rfl (by decide) ⟨.inr (aE rfl rfl (bH _)),trivial⟩ (by simp) rfl ?_)))))|refine nZ ?_));all_goals first | (exfalso;omega) | exact ⟨.inl rfl,[0],_,rfl,rfl,rfl,⟨.inr (aE rfl (bU _ (bH _)) (bH _)),trivial⟩,by decide,lA⟩ | exact ⟨.inr rfl,[0],_,rfl,rfl,rfl,⟨.inr (aE rfl (bU _ (bH _)) (bH _)),trivial⟩,by decide,lA⟩
      · obtain rfl := d2 h
        (repeat' (first|refine wK ?_|refine wU ?_|(refine wC rfl ?_ ?_<;>(intro hb;(try simp only [nm] at hb);try (exfalso;omega)))|(refine rg 43 (dX rfl (vV (aO rfl rfl) (mV ?_)));refine cN rfl rfl ?_ ?_<;>(intro hb;rw [hb];(try simp only [nm] at hb);try (exfalso;omega));(all_goals first|(refine gT (mW rfl (gT (mW rfl (gT (vV (aO rfl rfl) ?_))))))|(iterate 3 refine gF ?_));(all_goals (refine pV ?_)))|refine nZ ?_));all_goals first | (exfalso;omega) | exact ⟨.inl rfl,[0],_,rfl,rfl,rfl,⟨.inr (aE rfl rfl (bH _)),trivial⟩,by decide,lA⟩ | exact ⟨.inr rfl,[0],_,rfl,rfl,rfl,⟨.inr (aE rfl rfl (bH _)),trivial⟩,by decide,lA⟩
end Go.Proofs.YtmmkhmilpeodnaaGreat
namespace Go.Ld
open Go.Ab Go.Proofs.YtmmkhmilpeodnaaGreat
theorem JW {Q r1 r2 : List W} {a b : Nat} (ha : a = Q.length) (hb : b = a + r1.length) : OT (Q ++ (r1 ++ r2)) a b = Q ++ (dW eI r1 ++ r2) := by
  subst ha hb;unfold OT;rw [uA,uB,show Q.length + r1.length - Q.length = r1.length by omega,uA,← GY,uB,uB]
theorem KQ {Q r1 r2 : List W} {w : W} (h : w ∈ (Q ++ dW eI r1) ++ r2) : w ∈ Q ++ (r1 ++ r2) := by
  rw [bK] at h;rcases bF.1 h with h | h
  · exact bF.2 (.inl h)
  · rcases bF.1 h with h | h
    · exact bF.2 (.inr (bF.2 (.inl ((dS _ _).mem_iff.1 h))))
    · exact bF.2 (.inr (bF.2 (.inr h)))
end Go.Ld
namespace Go.Proofs.YtmmkhmilpeodnaaGreat
open Go Go.Ab Go.Ld
attribute [local irreducible] VC AW cF aR
set_option maxHeartbeats 4000000
theorem PR (l : List W) {N : Nat} (hN : N = l.length) (hl : N ≤ 100000) (hw : ∀ w,w ∈ l → F3 w) :
    aR Tryz.prog 132 [.sl 0 0 N 3,.i N,qB] [.arr (fP l) 3] (.tup []) [.arr (fP (dW eI l)) 3] := by
  refine bQ T Tryz.func132 rfl rfl rfl rfl ?_;apply Go.Ab.cutT
  · intro rest
    (repeat' (first|refine wS ?_|refine wB ?_|(refine rg 0 (aV ?_))|(refine rg 1 (mW rfl (pT ?_)))|refine nZ ?_));refine dA (X := {q : Nat × List W × List W // q.2.1.length = q.1 ∧ q.1 + q.2.2.length = N ∧ bs 20 l = q.2.1 ++ bs 20 q.2.2 ∧ ∀ w, w ∈ q.2.1 ++ q.2.2 → w ∈ l})
      (fun q => [(0,.sl 0 0 N 3),(1,.i N),(2,qB),(6,.i 20),(7,.i q.1.1),(8,.i ((q.1.1 : Int) + 20))]) (fun q => [.arr (fP (q.1.2.1 ++ q.1.2.2)) 3]) (fun q => q.1.2.2.length) ⟨(0,[],l),by simp;omega⟩
      ⟨[0],rfl,by (repeat (first | exact trivial | refine ⟨rfl,?_⟩)),⟨.inr (aE rfl rfl (bH _)),trivial⟩,by decide,lA⟩ ?_
    rintro ⟨⟨a,Q,r⟩,h1,h2,h3,h4⟩;dsimp only at h1 h2 h3 h4 ⊢;by_cases hlt : a + 20 ≤ N
    · obtain ⟨r1,r2,rfl,hr⟩ : ∃ r1 r2,r = r1 ++ r2 ∧ r1.length = 20 := ⟨r.take 20,r.drop 20,by simp,by simp;omega⟩
      rw [aF] at h2;have hc := FE (Q ++ (r1 ++ r2)) a (a + 20) (by omega) (by simp;omega) (by simp;omega) (fun w hw' => hw w (h4 w hw'))
      rw [JW h1.symm (by omega),show (Q ++ (r1 ++ r2)).length = N by simp;omega,show ((a + 20 : Nat) : Int) = (a : Int) + 20 by omega] at hc
      rw [T3 hr (by omega)] at h3
      (repeat' (first|refine wS ?_|refine wB ?_|refine wK ?_|(refine wC rfl ?_ ?_<;>(intro hb;(try simp only [nm] at hb);try (exfalso;omega)))|(refine rg 2 (dX rfl (vV (kJ rfl rfl) ?_)))|(refine rg 3 (dX rfl (dX rfl (fQ [0] rfl rfl (hc) rfl rfl (by decide) ⟨.inr (aE rfl rfl (bH _)),trivial⟩ (by simp) rfl ?_))))|(refine rg 4 (mW rfl (aV ?_)))|(refine rg 5 (dX rfl (vV (bT rfl rfl (by omega) (by omega)) (aV ?_))))|refine nZ ?_));all_goals first | (exfalso;omega) | skip
      exact ⟨⟨(a + 20,Q ++ dW eI r1,r2),by dsimp only;exact ⟨by rw [aF,iF];omega,by omega,by rw [h3];simp,fun w hw' => h4 w (KQ hw')⟩⟩,by dsimp only;rw [aF];omega,⟨[0],rfl,by (repeat (first | exact trivial | refine ⟨rfl,?_⟩)),⟨.inr (aE rfl (by rw [bU _ (bH _),bK]) (bH _)),trivial⟩,by decide,lA⟩⟩
    · have hc := FE (Q ++ (r ++ [])) a N (by omega) (by simp;omega) (by simp;omega) (fun w hw' => hw w (h4 w (by simpa using hw')))
      rw [JW h1.symm (by omega),List.append_nil,List.append_nil,show (Q ++ r).length = N by simp;omega,← K4 (k := 20) (by omega),← h3] at hc
      (repeat' (first|refine wS ?_|refine wB ?_|refine wE ?_|(refine wC rfl ?_ ?_<;>(intro hb;(try simp only [nm] at hb);try (exfalso;omega)))|(refine rg 2 (dX rfl (vV (kJ rfl rfl) ?_)))|(refine rg 6 (dX rfl (dX rfl (fQ [0] rfl rfl (hc) rfl rfl (by decide) ⟨.inr (aE rfl rfl (bH _)),trivial⟩ (by simp) rfl ?_))))|refine nZ ?_));all_goals first | (exfalso;omega) | exact fE [(0,.sl 0 0 N 3),(1,.i N),(2,qB),(6,.i 20)] [.arr (fP (bs 20 l)) 3] ⟨[0],rfl,by (repeat (first | exact trivial | refine ⟨rfl,?_⟩)),⟨.inr (aE rfl (bU _ (bH _)) (bH _)),trivial⟩,by decide,lA⟩ rest.get
  refine dA (X := {k : Nat // 20 ≤ k ∧ k ≤ 200000}) (fun k => [(0, .sl 0 0 N 3), (1, .i N), (2, qB), (6, .i k.1)]) (fun k => [.arr (fP (bs k.1 l)) 3]) (fun k => N - k.1) ⟨20, by omega, by omega⟩
    ⟨[0],rfl,by (repeat (first | exact trivial | refine ⟨rfl,?_⟩)),⟨.inr (aE rfl rfl (bH _)),trivial⟩,by decide,lA⟩ ?_
  rintro ⟨k,hk,hk2⟩;dsimp only;by_cases hkN : k < N
  · (repeat' (first|refine wS ?_|refine wB ?_|refine wK ?_|(refine wC rfl (fun hb => ?_) (fun hb => ?_) <;> (((try simp only [nm] at hb);try (exfalso;omega))))|(refine rg 7 (dX rfl (vV (aO rfl rfl) ?_)))|(refine rg 8 (mW rfl (vV (uN rfl rfl (by omega) (by omega)) (pT ?_))))|(refine nZ ?_)));all_goals try (exfalso;omega)
    refine dA (X := {q : Nat × List W × List W // q.2.1.length = q.1 ∧ q.1 + q.2.2.length = N ∧ bs (2 * k) l = q.2.1 ++ bs (2 * k) q.2.2 ∧ ∀ w, w ∈ q.2.1 ++ q.2.2 → w ∈ l})
      (fun q => [(0,.sl 0 0 N 3),(1,.i N),(2,qB),(6,.i k),(7,.i q.1.1),(8,.i ((q.1.1 : Int) + 2 * k))]) (fun q => [.arr (fP (q.1.2.1 ++ bs k q.1.2.2)) 3]) (fun q => q.1.2.2.length) ⟨(0,[],l),by simp;omega⟩
      ⟨[0],rfl,⟨rfl,rfl,rfl,rfl,rfl,by dsimp only;rw [show ((0 : Nat) : Int) + 2 * (k : Int) = 2 * k by omega];rfl,trivial⟩,⟨.inr (aE rfl rfl (bH _)),trivial⟩,by decide,lA⟩ ?_
    rintro ⟨⟨a,Q,r⟩,h1,h2,h3,h4⟩;dsimp only at h1 h2 h3 h4 ⊢;by_cases hlt : a + 2 * k ≤ N
    · obtain ⟨r1,r2,r3,rfl,hr1,hr2⟩ : ∃ r1 r2 r3,r = r1 ++ (r2 ++ r3) ∧ r1.length = k ∧ r2.length = k := ⟨r.take k,(r.drop k).take k,(r.drop k).drop k,by simp only [bM],by simp;omega,by simp;omega⟩
      simp only [aF] at h2;have hc := ZJ (2 * k) Q (dW eI r1) (dW eI r2) (bs k r3) (a := a) (m := a + k) (b := a + 2 * k) (N := N) (by omega) (by rw [iF]; omega) (by rw [iF]; omega) h1.symm (by rw [iF]; omega) (by rw [iF]; omega) (by rw [zE4]; omega) hl (kN iR _) (kN iR _)
        (fun w hw' => hw w (h4 w (by have := (dS eI _).mem_iff.1 hw';simp [this]))) (fun w hw' => hw w (h4 w (by have := (dS eI _).mem_iff.1 hw';simp [this])))
      rw [DY,← T3 hr2 (by omega),← T3 hr1 (by omega),show ((a + 2 * k : Nat) : Int) = (a : Int) + 2 * k by omega,show ((a + k : Nat) : Int) = (a : Int) + k by omega] at hc
      rw [← bK r1,T3 (k := 2 * k) (by rw [aF];omega) (by omega)] at h3
      (repeat' (first|refine wS ?_|refine wB ?_|refine wK ?_|(refine wC rfl ?_ ?_<;>(intro hb;(try simp only [nm] at hb);try (exfalso;omega)))|(refine rg 9 (dX rfl (vV (kJ rfl rfl) ?_)))|(refine rg 10 (dX rfl (dX rfl (vV (bT rfl rfl (by omega) (by omega)) (dX rfl (fQ [0] rfl rfl (hc) rfl rfl (by decide) ⟨.inr (aE rfl rfl (bH _)),trivial⟩ (by simp) rfl ?_))))))|(refine rg 11 (mW rfl (aV ?_)))|(refine rg 12 (dX rfl (vV (uN rfl rfl (by omega) (by omega)) (vV (bT rfl rfl (by omega) (by omega)) (aV ?_)))))|refine nZ ?_));all_goals first | (exfalso;omega) | skip
      exact ⟨⟨(a + 2 * k,Q ++ dW eI (r1 ++ r2),r3),by dsimp only;exact ⟨by rw [aF,iF,aF];omega,by omega,by rw [h3];simp,fun w hw' => h4 w (by have := KQ hw';rwa [bK] at this)⟩⟩,by dsimp only;simp only [aF];omega,⟨[0],rfl,by (repeat (first | exact trivial | refine ⟨rfl,?_⟩)),⟨.inr (aE rfl (by rw [bU _ (bH _),bK]) (bH _)),trivial⟩,by decide,lA⟩⟩
    · by_cases hm : a + k < N
      · obtain ⟨r1,r2,rfl,hr1⟩ : ∃ r1 r2,r = r1 ++ r2 ∧ r1.length = k := ⟨r.take k,r.drop k,by simp,by simp;omega⟩
        simp only [aF] at h2;have hc := ZJ (2 * k) Q (dW eI r1) (dW eI r2) [] (a := a) (m := a + k) (b := N) (N := N) (by omega) (by rw [iF]; omega) (by rw [iF]; omega) h1.symm (by rw [iF]; omega) (by rw [iF]; omega) (by simp) hl (kN iR _) (kN iR _)
          (fun w hw' => hw w (h4 w (by have := (dS eI _).mem_iff.1 hw';simp [this]))) (fun w hw' => hw w (h4 w (by have := (dS eI _).mem_iff.1 hw';simp [this])))
        rw [DY,List.append_nil,List.append_nil,← K4 (k := 2 * k) (l := r1 ++ r2) (by rw [aF];omega),← h3,← K4 (k := k) (l := r2) (by omega),← T3 hr1 (by omega),show ((a + k : Nat) : Int) = (a : Int) + k by omega] at hc
        (repeat' (first|refine wS ?_|refine wE ?_|(refine wC rfl ?_ ?_<;>(intro hb;(try simp only [nm] at hb);try (exfalso;omega)))|(refine rg 9 (dX rfl (vV (kJ rfl rfl) ?_)))|(refine rg 13 (dX rfl (vV (bT rfl rfl (by omega) (by omega)) (aV ?_))))|(refine rg 14 (dX rfl (vV (aO rfl rfl) ?_)))|(refine rg 15 (dX rfl (dX rfl (mW rfl (fQ [0] rfl rfl (hc) rfl rfl (by decide) ⟨.inr (aE rfl rfl (bH _)),trivial⟩ (by simp) rfl ?_)))))|(refine rg 16 (mW rfl (vV (uN rfl rfl (by omega) (by omega)) (aV ?_))))|refine nZ ?_));all_goals first | (exfalso;omega) | skip
        exact ⟨⟨2 * k,by omega,by omega⟩,by dsimp only;omega,⟨[0],rfl,⟨rfl,rfl,rfl,by dsimp only;rw [show ((2 * k : Nat) : Int) = (k : Int) * 2 by omega];rfl,trivial⟩,⟨.inr (aE rfl (bU _ (bH _)) (bH _)),trivial⟩,by decide,lA⟩⟩
      · rw [K4 (k := 2 * k) (l := r) (by omega),← K4 (k := k) (l := r) (by omega)] at h3
        rw [← h3]
        (repeat' (first|refine wS ?_|refine wK ?_|refine wE ?_|(refine wC rfl ?_ ?_<;>(intro hb;(try simp only [nm] at hb);try (exfalso;omega)))|(refine rg 9 (dX rfl (vV (kJ rfl rfl) ?_)))|(refine rg 13 (dX rfl (vV (bT rfl rfl (by omega) (by omega)) (aV ?_))))|(refine rg 14 (dX rfl (vV (aO rfl rfl) ?_)))|(refine rg 16 (mW rfl (vV (uN rfl rfl (by omega) (by omega)) (aV ?_))))|refine nZ ?_));all_goals first | (exfalso;omega) | skip
        exact ⟨⟨2 * k,by omega,by omega⟩,by dsimp only;omega,⟨[0],rfl,⟨rfl,rfl,rfl,by dsimp only;rw [show ((2 * k : Nat) : Int) = (k : Int) * 2 by omega];rfl,trivial⟩,⟨.inr (aE rfl rfl (bH _)),trivial⟩,by decide,lA⟩⟩
  · rw [K4 (k := k) (l := l) (by omega)]
    (repeat' (first|refine wS ?_|refine wE ?_|(refine wC rfl ?_ ?_<;>(intro hb;(try simp only [nm] at hb);try (exfalso;omega)))|(refine rg 7 (dX rfl (vV (aO rfl rfl) ?_)))|refine nZ ?_));all_goals first | (exfalso;omega) | exact ⟨.inl rfl,[0],_,rfl,rfl,rfl,⟨.inr (aE rfl rfl (bH _)),trivial⟩,by decide,lA⟩ | exact ⟨.inr rfl,[0],_,rfl,rfl,rfl,⟨.inr (aE rfl rfl (bH _)),trivial⟩,by decide,lA⟩
theorem WC (l : List W) {N : Nat} (hN : N = l.length) (hl : N ≤ 100000) (hw : ∀ w,w ∈ l → F3 w) :
    aR Tryz.prog 96 [.sl 0 0 N 3,qB] [.arr (fP l) 3] (.tup []) [.arr (fP (dW eI l)) 3] := by
  have hc := PR l hN hl hw;refine bQ T Tryz.func96 rfl rfl rfl rfl ?_
  (repeat' (first|(refine rg 0 (dX rfl (qW T rfl (mW rfl (fQ [0] rfl rfl (hc) rfl rfl (by decide) ⟨.inr (aE rfl rfl (bH _)),trivial⟩ (by simp) rfl ?_)))))|refine nZ ?_));all_goals first | (exfalso;omega) | exact ⟨.inl rfl,[0],_,rfl,rfl,rfl,⟨.inr (aE rfl (bU _ (bH _)) (bH _)),trivial⟩,by decide,lA⟩ | exact ⟨.inr rfl,[0],_,rfl,rfl,rfl,⟨.inr (aE rfl (bU _ (bH _)) (bH _)),trivial⟩,by decide,lA⟩
end Go.Proofs.YtmmkhmilpeodnaaGreat
namespace Go.Ld
open Go.Ab Go.Proofs.YtmmkhmilpeodnaaGreat
abbrev w0 : W := ([],0,[])
def wZ (l : List W) : Nat → List W
  | 0 => []
  | m + 1 => if 0 < m ∧ yY (l.getD m w0) (l.getD (m - 1) w0) = true then wZ l m else wZ l m ++ [l.getD m w0]
theorem IP {l : List W} {m : Nat} (h : 0 < m) (e : yY (l.getD m w0) (l.getD (m - 1) w0) = true) : wZ l (m + 1) = wZ l m := by
  rw [wZ,if_pos ⟨h,e⟩]
theorem IN {l : List W} {m : Nat} (e : yY (l.getD m w0) (l.getD (m - 1) w0) = false) : wZ l (m + 1) = wZ l m ++ [l.getD m w0] := by
  rw [wZ,if_neg (fun q => by rw [e] at q;cases q.2)]
theorem IM (l : List W) : wZ l 1 = [l.getD 0 w0] := by
  rw [wZ,if_neg (fun q => Nat.lt_irrefl _ q.1)];rfl
theorem AF (y : W) : ∀ (A : List W) (p : W), jS yY p (A ++ [y]) = jS yY p A ++ (if yY y ((p :: A).getLastD w0) = true then [] else [y])
  | [],p => by
    show (if yY y p = true then [] else [y]) = _
    simp [jS]
  | x :: A,p => by
    rw [List.cons_append,jS,jS,AF y A x];have e : ((p :: x :: A).getLastD w0) = ((x :: A).getLastD w0) := by simp [List.getLastD]
    rw [e];split <;> simp
theorem TF (y : W) (A : List W) (h : A ≠ []) : wY yY (A ++ [y]) = wY yY A ++ (if yY y (A.getLastD w0) = true then [] else [y]) := by
  cases A with
  | nil => exact absurd rfl h
  | cons x A => rw [List.cons_append];show x :: jS yY x (A ++ [y]) = _;rw [AF];rfl
theorem nU {l : List W} {m : Nat} (h : m < l.length) : l.getD m w0 = l[m] := by rw [aC,aA h];rfl
theorem LK (l : List W) : ∀ m, m ≤ l.length → wZ l m = wY yY (l.take m)
  | 0,_ => by rw [jU];rfl
  | m + 1,h => by
    have e : l.take (m + 1) = l.take m ++ [l.getD m w0] := by rw [nU (by omega),aX (by omega)]
    rcases E7 m with rfl | h0
    · rw [IM,e];rfl
    · have hne : l.take m ≠ [] := fun q => by have := congrArg List.length q;rw [bD,List.length_nil] at this;omega
      rw [e,TF _ _ hne,← LK l m (by omega)]
      have hl : (l.take m).getLastD w0 = l.getD (m - 1) w0 := by
        rw [List.getLastD_eq_getLast?,List.getLast?_eq_getElem?,bD,zF0 (by omega),List.getElem?_take_of_lt (by omega),aC]
      rw [hl];cases hq : yY (l.getD m w0) (l.getD (m - 1) w0) with
      | true => rw [IP h0 hq,if_pos rfl,List.append_nil]
      | false => rw [IN hq,if_neg (by simp)]
theorem zE1 (l : List W) : wZ l l.length = wY yY l := by rw [LK l _ (aY _),dQ]
theorem zO0 {l : List W} {m i : Nat} (hm : m < l.length) (hi : i = m) : (fP l)[i]? = some (wA (l.getD m w0)) := by
  subst hi;simp [hm]
theorem IW {G l : List W} {m : Nat} {i : Nat} (hg : G.length ≤ m) (hm : m < l.length) (hi : i = m) : (fP (G ++ l.drop G.length))[i]? = some (wA (l.getD m w0)) := by
  subst hi;rw [bR,aD hg,eF,show G.length + (i - G.length) = i by omega,aA hm,nU hm];rfl
theorem zA4 {G l : List W} {x : W} {j : Int} (h : G.length < l.length) (hj : j = G.length) : (fP (G ++ l.drop G.length)).set (0 + j.toNat) (wA x) = fP ((G ++ [x]) ++ l.drop (G ++ [x]).length) := by
  rw [uD (i := G.length) hj,aU h,nD _ _ _ _ rfl];simp
theorem NJ {G l : List W} (h : G.length ≤ l.length) : (fP (G ++ l.drop G.length)).length = l.length := by simp;omega
theorem PK {G : List W} {l : List W} : (fP (G ++ l.drop G.length)).take (0 + (G.length : Int).toNat) = fP G := by
  rw [Nat.zero_add,bV,← kK,uA]
end Go.Ld
namespace Go.Proofs.YtmmkhmilpeodnaaGreat
open Go Go.Ab Go.Ld
attribute [local irreducible] VC AW cF aR
set_option maxHeartbeats 4000000
abbrev zM3 : AV := .clo (.func 102) [] []
theorem IK (l : List W) (hl : l.length ≤ 1000000) (hw : ∀ w,w ∈ l → F3 w) : aR Tryz.prog 101 [.sl 0 0 l.length 3,zM3] [.arr (fP l) 3] (.sl 0 0 (wY yY l).length 3) [.arr (fP (wY yY l)) 3] := by
  rw [← zE1];have hll : (fP l).length = l.length := eS l;refine bQ T Tryz.func101 rfl rfl rfl rfl ?_;by_cases h2 : l.length < 2
  · have hk : wZ l l.length = l := by
      match l,h2 with
      | [],_ => rfl
      | [a],_ => exact IM _
      | _ :: _ :: _,h => exact absurd h (by simp)
    rw [hk]
    (repeat' (first|refine wS ?_|refine wR ?_|(refine wC rfl ?_ ?_<;>(intro hb;(try simp only [nm] at hb);try (exfalso;omega)))|(refine rg 0 (aV ?_))|(refine rg 1 (mW rfl (qW T rfl (vV (aO rfl rfl) ?_))))|(refine rg 2 (mW rfl (aV ?_)))|refine nZ ?_));all_goals first | (exfalso;omega) | exact ⟨.inl rfl,[0],_,rfl,rfl,rfl,⟨.inr (aE rfl rfl (bH _)),trivial⟩,by decide,lA⟩
  · (repeat' (first|refine wS ?_|refine wB ?_|refine wK ?_|(refine wC rfl (fun hb => ?_) (fun hb => ?_) <;> (((try simp only [nm] at hb);try (exfalso;omega))))|(refine rg 0 (aV ?_))|(refine rg 1 (mW rfl (qW T rfl (vV (aO rfl rfl) ?_))))|(refine rg 3 (aV ?_))|(refine nZ ?_)));all_goals try (exfalso;omega)
    refine dA (X := {k : Nat // 1 ≤ k ∧ k ≤ l.length ∧ wZ l k = l.take k}) (fun k => [(0,.sl 0 0 l.length 3),(1,zM3),(5,.i k.1)]) (fun _ => [.arr (fP l) 3]) (fun k => l.length - k.1) ⟨1,by omega,by omega,by rw [IM,nU (by omega),aX (by omega)];rfl⟩ ⟨[0],rfl,by (repeat (first | exact trivial | refine ⟨rfl,?_⟩)),⟨.inr (aE rfl rfl (bH _)),trivial⟩,by decide,lA⟩ ?_
    rintro ⟨k,hk1,hk,hkc⟩;dsimp only;by_cases hlt : k < l.length
    · have e1 := zO0 (i := 0 + (k : Int).toNat) hlt (by omega)
      have e2 := zO0 (l := l) (m := k - 1) (i := 0 + ((k : Int) - 1).toNat) (by omega) (by omega)
      have hc := Q3 (l.getD k w0) (l.getD (k - 1) w0) (hw _ (by rw [nU hlt];exact aI _)) (hw _ (by rw [nU (by omega)];exact aI _))
      cases hd : yY (l.getD k w0) (l.getD (k - 1) w0) with
      | true =>
        have hc1 := IP (l := l) hk1 hd;rw [hkc] at hc1;rw [hd] at hc;clear hd;generalize l.getD k w0 = a at *;generalize l.getD (k - 1) w0 = b at *
        (repeat' (first|refine wS ?_|refine wB ?_|refine wK ?_|refine wT ?_|(refine wC rfl ?_ ?_<;>(intro hb;(try simp only [nm] at hb);try (exfalso;omega)))|(refine rg 4 (dX rfl (qW T rfl (vV (aO rfl rfl) ?_))))|(refine rK (id := 6) 10 66 zR6 zR7 (rM 18 10) zR8 cC rfl (by decide +kernel) (by decide +kernel) ?_;(dsimp only [List.take,List.drop]);refine dN rfl (dN rfl (dN rfl (dV rfl (by exact aK T rfl rfl rfl rfl rfl (by omega) (by omega)) ?_)));refine dV rfl (by exact aQ T rfl rfl (bG rfl e1) rfl) ?_;refine dN rfl (dN rfl (dV rfl (cM rfl rfl (by omega) (by omega)) (dV rfl (by exact aK T rfl rfl rfl rfl rfl (by omega) (by omega)) ?_)));refine dV rfl (by exact aQ T rfl rfl (bG rfl e2) rfl) ?_;refine dE ?_;refine gV ?_;refine vV (kC (hc)) ?_)|(refine rg 7 (dX rfl (vV (by exact jZ T rfl rfl rfl rfl rfl rfl (by omega) (by omega) (by omega)) ?_));refine aV ?_)|(refine rg 8 (aV ?_))|refine nZ ?_));all_goals try (exfalso;omega)
        have hl1 : (wZ l (k + 1)).length = k := by rw [hc1];simp;omega
        refine dA (X := {j : Nat // 1 ≤ j ∧ k + j ≤ l.length ∧ (wZ l (k + j)).length + 1 ≤ k + j}) (fun j => [(0,.sl 0 0 l.length 3),(1,zM3),(5,.i (wZ l (k + j.1)).length),(6,.sl 0 (0 + (k : Int).toNat) ((l.length : Int) - (k : Int)).toNat 3),(7,.i j.1)]) (fun j => [.arr (fP (wZ l (k + j.1) ++ l.drop (wZ l (k + j.1)).length)) 3]) (fun j => l.length - (k + j.1)) ⟨1,by omega,by omega,by omega⟩ ⟨[0],rfl,⟨rfl,rfl,by dsimp only;rw [hl1];rfl,rfl,rfl,trivial⟩,⟨.inr (aE rfl (by dsimp only;rw [hl1,hc1,bM]) (bH _)),trivial⟩,by decide,lA⟩ ?_
        clear e1 e2 hl1 hc1 hc a b;rintro ⟨j,hj1,hj,hjc⟩;dsimp only;by_cases hjl : k + j < l.length
        · have e1 := IW (G := wZ l (k + j)) (l := l) (m := k + j) (i := 0 + (k : Int).toNat + (j : Int).toNat) (by omega) hjl (by omega)
          have e2 := IW (G := wZ l (k + j)) (l := l) (m := k + j - 1) (i := 0 + (k : Int).toNat + ((j : Int) - 1).toNat) (by omega) (by omega) (by omega)
          have e3 := IW (G := wZ l (k + j)) (l := l) (m := (wZ l (k + j)).length) (i := 0 + (((wZ l (k + j)).length : Nat) : Int).toNat) (aY _) (by omega) (by omega)
          have hset := zA4 (G := wZ l (k + j)) (l := l) (x := l.getD (k + j) w0) (j := (((wZ l (k + j)).length : Nat) : Int)) (by omega) rfl
          have hal := NJ (G := wZ l (k + j)) (l := l) (by omega)
          have hdup := IP (l := l) (m := k + j) (by omega)
          have hnew := IN (l := l) (m := k + j);have hc := Q3 (l.getD (k + j) w0) (l.getD (k + j - 1) w0) (hw _ (by rw [nU hjl];exact aI _)) (hw _ (by rw [nU (by omega)];exact aI _))
          have hnl : ∀ G : List W,(G ++ [l.getD (k + j) w0]).length = G.length + 1 := fun G => by simp
          rw [show k + j + 1 = k + (j + 1) by omega] at hdup hnew
          generalize l.getD (k + j) w0 = a at *;generalize l.getD (k + j - 1) w0 = b at *;generalize l.getD (wZ l (k + j)).length w0 = y at *;generalize wZ l (k + j) = G at *;cases hd : yY a b with
          | true =>
            have hdup := hdup hd;rw [hd] at hc;generalize hA : fP (G ++ l.drop G.length) = A at *
            (repeat' (first|refine wS ?_|refine wB ?_|refine wK ?_|refine wU ?_|(refine wC rfl ?_ ?_<;>(intro hb;(try simp only [nm] at hb);try (exfalso;omega)))|(refine rg 9 (dX rfl (qW T rfl (vV (aO rfl rfl) ?_))))|(refine bL (id := 11) 66 zR9 (rM 38 12) zS0 cC rfl (by decide +kernel) (dN rfl (dN rfl (dN rfl (dV rfl (by exact aK T rfl rfl rfl rfl rfl (by omega) (by omega)) ?_))));refine dV rfl (by exact aQ T rfl rfl (bG rfl e1) rfl) ?_;refine dN rfl (dN rfl (dV rfl (cM rfl rfl (by omega) (by omega)) (dV rfl (by exact aK T rfl rfl rfl rfl rfl (by omega) (by omega)) ?_)));refine dV rfl (by exact aQ T rfl rfl (bG rfl e2) rfl) ?_;refine dV rfl (kC (hc)) (dV rfl (dH rfl) (dE ?_)))|(refine iA 10 rfl rfl rfl (by omega) (by omega) ?_)|refine nZ ?_));all_goals try (exfalso;omega)
            all_goals exact ⟨⟨j + 1,by omega,by omega,by rw [hdup];omega⟩,by dsimp only;omega,[0],rfl,⟨rfl,rfl,by dsimp only;rw [hdup];rfl,rfl,rfl,trivial⟩,⟨.inr (aE rfl (by dsimp only;rw [hdup];exact hA.symm) (bH _)),trivial⟩,by decide,lA⟩
          | false =>
            have hnew := hnew hd;have hgl := hnl G;rw [hd] at hc;generalize hA : fP (G ++ l.drop G.length) = A at *
            (repeat' (first|refine wS ?_|refine wB ?_|refine wK ?_|refine wT ?_|(refine wC rfl ?_ ?_<;>(intro hb;(try simp only [nm] at hb);try (exfalso;omega)))|(refine rg 9 (dX rfl (qW T rfl (vV (aO rfl rfl) ?_))))|(refine bL (id := 11) 66 zR9 (rM 38 12) zS0 cC rfl (by decide +kernel) (dN rfl (dN rfl (dN rfl (dV rfl (by exact aK T rfl rfl rfl rfl rfl (by omega) (by omega)) ?_))));refine dV rfl (by exact aQ T rfl rfl (bG rfl e1) rfl) ?_;refine dN rfl (dN rfl (dV rfl (cM rfl rfl (by omega) (by omega)) (dV rfl (by exact aK T rfl rfl rfl rfl rfl (by omega) (by omega)) ?_)));refine dV rfl (by exact aQ T rfl rfl (bG rfl e2) rfl) ?_;refine dV rfl (kC (hc)) (dV rfl (dH rfl) (dE ?_)))|(refine rg 12 (dX rfl (dX rfl (vV (by exact aK T rfl rfl rfl rfl rfl (by omega) (by omega)) ?_)));refine vV (by exact aQ T rfl rfl (bG rfl e1) rfl) ?_;refine vV (by exact aK T rfl rfl rfl rfl rfl (by omega) (by omega)) ?_;refine aT T rfl rfl rfl rfl rfl rfl (by decide) (lC rfl e3 rfl) ?_)|(refine iA 13 rfl rfl rfl (by omega) (by omega) ?_)|(refine iA 10 rfl rfl rfl (by omega) (by omega) ?_)|refine nZ ?_));all_goals try (exfalso;omega)
            all_goals exact ⟨⟨j + 1,by omega,by omega,by rw [hnew];omega⟩,by dsimp only;omega,[0],rfl,⟨rfl,rfl,by dsimp only;rw [hnew,hgl];rfl,rfl,rfl,trivial⟩,⟨.inr (aE rfl (by dsimp only;rw [hnew];exact hset) (bH _)),trivial⟩,by decide,lA⟩
        · have hkj : k + j = l.length := by omega
          have hcm : wZ l l.length = wZ l (k + j) := by rw [hkj]
          have hal := NJ (G := wZ l (k + j)) (l := l) (by omega)
          have htk := PK (G := wZ l (k + j)) (l := l);rw [hcm];generalize wZ l (k + j) = G at *
          (repeat' (first|refine wS ?_|refine wR ?_|refine wE ?_|(refine wC rfl ?_ ?_<;>(intro hb;(try simp only [nm] at hb);try (exfalso;omega)))|(refine rg 9 (dX rfl (qW T rfl (vV (aO rfl rfl) ?_))))|(refine rg 14 (dX rfl (vV (by exact jZ T rfl rfl rfl rfl rfl rfl (by omega) (by omega) (by omega)) ?_));refine F5 T rfl rfl rfl ⟨rfl,rfl,by decide⟩ rfl (by rw [hal];omega) ?_)|(refine rg 15 (dX rfl (vV (by exact jZ T rfl rfl rfl rfl rfl rfl (by omega) (by omega) (by omega)) ?_));refine aV ?_)|refine nZ ?_));all_goals try (exfalso;omega)
          all_goals exact ⟨.inl rfl,[0],_,rfl,(by show AV.sl 0 0 ((G.length : Int) - 0).toNat 3 = AV.sl 0 0 G.length 3;rw [show ((G.length : Int) - 0).toNat = G.length by omega]),rfl,⟨.inr (aE rfl htk (bH _)),trivial⟩,by decide,lA⟩
      | false =>
        have hnew := IN (l := l) hd;rw [hkc,nU hlt,← aX hlt] at hnew;rw [hd] at hc;clear hd;generalize l.getD k w0 = a at *;generalize l.getD (k - 1) w0 = b at *
        (repeat' (first|refine wS ?_|refine wB ?_|refine wK ?_|refine wU ?_|(refine wC rfl ?_ ?_<;>(intro hb;(try simp only [nm] at hb);try (exfalso;omega)))|(refine rg 4 (dX rfl (qW T rfl (vV (aO rfl rfl) ?_))))|(refine rK (id := 6) 10 66 zR6 zR7 (rM 18 10) zR8 cC rfl (by decide +kernel) (by decide +kernel) ?_;(dsimp only [List.take,List.drop]);refine dN rfl (dN rfl (dN rfl (dV rfl (by exact aK T rfl rfl rfl rfl rfl (by omega) (by omega)) ?_)));refine dV rfl (by exact aQ T rfl rfl (bG rfl e1) rfl) ?_;refine dN rfl (dN rfl (dV rfl (cM rfl rfl (by omega) (by omega)) (dV rfl (by exact aK T rfl rfl rfl rfl rfl (by omega) (by omega)) ?_)));refine dV rfl (by exact aQ T rfl rfl (bG rfl e2) rfl) ?_;refine dE ?_;refine gV ?_;refine vV (kC (hc)) ?_)|(refine iA 5 rfl rfl rfl (by omega) (by omega) ?_)|refine nZ ?_));all_goals try (exfalso;omega)
        all_goals exact ⟨⟨k + 1,by omega,hlt,hnew⟩,by dsimp only;omega,[0],rfl,by (repeat (first | exact trivial | refine ⟨rfl,?_⟩)),⟨.inr (aE rfl rfl (bH _)),trivial⟩,by decide,lA⟩
    · obtain rfl : k = l.length := by omega
      have hcm : wZ l l.length = l := by rw [hkc,dQ]
      rw [hcm]
      (repeat' (first|refine wS ?_|refine wR ?_|refine wE ?_|(refine wC rfl ?_ ?_<;>(intro hb;(try simp only [nm] at hb);try (exfalso;omega)))|(refine rg 4 (dX rfl (qW T rfl (vV (aO rfl rfl) ?_))))|(refine rg 16 (mW rfl (aV ?_)))|refine nZ ?_));all_goals first | (exfalso;omega) | exact ⟨.inl rfl,[0],_,rfl,rfl,rfl,⟨.inr (aE rfl rfl (bH _)),trivial⟩,by decide,lA⟩
theorem FX (l : List W) (hl : l.length ≤ 1000000) : aR Tryz.prog 95 [.rowE (fP l) 3] [] (.sl 0 0 l.length 3) [.arr (fP l) 3] := by
  have hll : (fP l).length = l.length := eS l;refine bQ T Tryz.func95 rfl rfl rfl rfl ?_
  repeat' (first|refine wS ?_|refine wK ?_|refine wT ?_|refine wU ?_|(refine rg 0 (aV ?_))|(refine rg 1 (mV ?_);refine qU T rfl rfl rfl rfl fun b hb=>?_;cases b)|refine nZ ?_)
  · (repeat' (first|refine wR ?_|(refine rg 3 (bS (by exact bB T rfl rfl (by decide) (by decide) rfl rfl rfl) rfl ?_);refine mW rfl (gE T rfl rfl rfl rfl rfl rfl (by decide) (.row (kW l)) (ZW l) (by simp;omega) (by simp;omega) rfl ?_);refine aV ?_)|(refine nZ ?_)));exact ⟨.inl rfl,[1],_,rfl,(by show AV.sl 1 0 (0 + (fP l).length) 3 = AV.sl 1 0 l.length 3;simp),rfl,⟨.inr (aE rfl rfl (bH _)),trivial⟩,by decide,F2⟩
  · have hl0 : l = [] := fJ.1 (Classical.byContradiction fun h => by have := hb (by omega);cases this)
    subst hl0
    (repeat' (first|refine wR ?_|(refine rg 2 (vV (dB rfl) (sK 2 3 rfl (by decide) ?_)))|refine nZ ?_));exact ⟨.inl rfl,[0],_,rfl,rfl,rfl,⟨.inr (aE rfl rfl (bH _)),trivial⟩,by decide,F2⟩
theorem hC : ∀ {es : List (List AV)}, (∀ e, e ∈ es → AV.idfL e = true) → AV.idfL es.flatten = true
  | [],_ => rfl
  | e :: es,h => by
    have h1 := h e aS;have h2 := hC (es := es) fun q hq => h q (aN _ hq);rw [eH];generalize es.flatten = F at *;clear h
    induction e with
    | nil => exact h2
    | cons x e ih =>
      simp only [List.cons_append,AV.idfL,aL] at h1 ⊢;exact ⟨h1.1,ih h1.2⟩
theorem Y3 (l : List W) (hl : l.length ≤ 100000) (hw : ∀ w,w ∈ l → F3 w) : aR Tryz.prog 49 [.rowE (fP l) 3] [] (.rowE (fP (gD l)) 3) [] := by
  refine oR (by simp : (gD l).length = (fP (gD l)).length) (hC (bH _)) ?_
  have h1 := FX l (by omega)
  have h2 := WC l rfl hl hw;have h3 := IK (dW eI l) (by rw [iF];omega) (fun w h => hw w ((dS _ _).mem_iff.1 h))
  rw [iF] at h3;show aR _ _ _ _ (.sl 0 0 (wY yY (dW eI l)).length 3) [.arr (fP (wY yY (dW eI l))) 3];generalize wY yY (dW eI l) = R at *;refine bQ T Tryz.func49 rfl rfl rfl rfl ?_
  (repeat' (first|refine wS ?_|refine wR ?_|(refine rg 0 (aV ?_))|(refine rg 1 (mW rfl (bS (by exact fK rfl rfl h1 (.inr ⟨rfl,rfl,by simp⟩)) rfl ?_));refine aV ?_)|(refine rg 2 (mW rfl (fQ [0] rfl rfl (h2) rfl rfl (by decide) ⟨.inr (aE rfl (bU _ (bH _)) (bH _)),trivial⟩ (by simp) rfl ?_)))|(refine rg 3 (mW rfl (fQ [0] rfl rfl (h3) rfl rfl (by decide) ⟨.inr (aE rfl (bU _ (bH _)) (bH _)),trivial⟩ (by simp) rfl ?_));refine aV ?_)|refine nZ ?_));all_goals exact ⟨.inl rfl,[0],_,rfl,rfl,rfl,⟨.inr (aE rfl (bU _ (bH _)) (bH _)),trivial⟩,by decide,fun i h => absurd h (eA _)⟩
end Go.Proofs.YtmmkhmilpeodnaaGreat
namespace Go.Ab
open Go
mutual
def AV.pln : AV → Bool
  | .v _ => true
  | .any => true
  | .row .. => true
  | .mrow .. => true
  | .pr .. => true
  | .agg cs => AV.plnL cs
  | _ => false
def AV.plnL : List AV → Bool
  | [] => true
  | x :: l => AV.pln x && AV.plnL l
end
mutual
theorem MD {h : Hp} : ∀ (x : AV), x.pln = true → nM h x x
  | .v x,_ => .v x
  | .any,_ => .any
  | .row cs l s,_ => .row cs l s
  | .mrow ks vs,_ => .mrow ks vs
  | .pr cs o,_ => .pr cs o
  | .agg cs,e => .agg (fZ cs (by simpa [AV.pln] using e))
  | .ptr ..,e | .ep ..,e | .sl ..,e | .mp ..,e | .tup ..,e | .clo ..,e | .cond ..,e | .ifc ..,e => by simp [AV.pln] at e
theorem fZ {h : Hp} : ∀ (xs : List AV), AV.plnL xs = true → lF h xs xs
  | [],_ => .nil
  | x :: l,e => by
    simp only [AV.plnL,aL] at e;exact .cons (MD x e.1) (fZ l e.2)
end
theorem I9 : ∀ (a b : List AV), AV.plnL (a ++ b) = (AV.plnL a && AV.plnL b)
  | [],b => by simp [AV.plnL]
  | x :: a,b => by simp [AV.plnL,I9 a b,Bool.and_assoc]
theorem tH {α : Type} {g : α → List AV} (hg : ∀ a, AV.plnL (g a) = true) : ∀ l : List α, AV.plnL (l.map g).flatten = true
  | [] => rfl
  | a :: l => by rw [List.map_cons,eH,I9,hg a,tH hg l];rfl
theorem tB {h : Hp} {k n sz : Nat} {es : List (List AV)} (hk : h[k]? = some (.arr es sz)) (hn : n = es.length) (hp : AV.plnL es.flatten = true) : nM h (.sl k 0 n sz) (.rowE es sz) := by
  subst hn;refine nM.sl hk (by omega) ?_
  rw [kU,dQ];exact fZ _ hp
end Go.Ab
namespace Go.Ld
open Go.Ab Go.Proofs.YtmmkhmilpeodnaaGreat
theorem gB (l : List SP) : (eZ l).length = l.length := bC _
theorem eY (l : List SP) : ∀ e,e ∈ eZ l → AV.idfL e = true := by intro e he;obtain ⟨i,_,rfl⟩ := bI.1 he;rfl
theorem W8 (l : List SP) : (eZ l).flatten.all AV.one = true := by
  induction l with
  | nil => rfl
  | cons x l ih => exact ih
theorem pY {l : List SP} {j : Int} {i : Nat} (h : i < l.length) (e : j = i) : (eZ l)[j.toNat]? = some [AV.i (l.getD i (0,0)).1,AV.i (l.getD i (0,0)).2] := by
  subst e;rw [bV,bR,aA h,aC,aA h];rfl
theorem B5 {l : List SP} {j : Int} {i : Nat} (h : i < l.length) (e : j = i) : (eZ l)[0 + j.toNat]? = some [AV.i (l.getD i (0,0)).1,AV.i (l.getD i (0,0)).2] := by
  rw [Nat.zero_add];exact pY h e
theorem O2 {l : List SP} {j : Int} {i : Nat} {r : SP} (e : j = i) : (eZ l).set (0 + j.toNat) [AV.i r.1,AV.i r.2] = eZ (l.set i r) := by
  subst e;rw [Nat.zero_add,bV];show _ = List.map (fun p : SP => [AV.i p.1,AV.i p.2]) (l.set i r);rw [qG]
end Go.Ld
namespace Go.Proofs.YtmmkhmilpeodnaaGreat
open Go Go.Ab Go.Ld
attribute [local irreducible] VC AW cF aR
set_option maxHeartbeats 4000000
theorem lH (l : List Nat) : ∀ i : Nat,i < 0 → l[i]? = some i := fun i h => absurd h (eA _)
theorem TG (l : List SP) (hl : l.length ≤ 1000000) : aR Tryz.prog 128 [.rowE (eZ l) 2] [] (.sl 0 0 l.length 2) [.arr (eZ l) 2] := by
  have hll : (eZ l).length = l.length := gB l;refine bQ T Tryz.func128 rfl rfl rfl rfl ?_
  repeat' (first|refine wS ?_|refine wK ?_|refine wT ?_|refine wU ?_|(refine rg 0 (aV ?_))|(refine rg 1 (mV ?_);refine qU T rfl rfl rfl rfl fun b hb=>?_;cases b)|refine nZ ?_)
  · (repeat' (first|refine wR ?_|(refine rg 3 (bS (by exact bB T rfl rfl (by decide) (by decide) rfl rfl rfl) rfl ?_);refine mW rfl (gE T rfl rfl rfl rfl rfl rfl (by decide) (.row (iS l)) (W8 l) (by simp;omega) (by simp;omega) rfl ?_);refine aV ?_)|(refine nZ ?_)));exact ⟨.inl rfl,[1],_,rfl,(by show AV.sl 1 0 (0 + (eZ l).length) 2 = AV.sl 1 0 l.length 2;simp),rfl,⟨.inr (aE rfl rfl (eY _)),trivial⟩,by decide,lH _⟩
  · have hl0 : l = [] := fJ.1 (Classical.byContradiction fun h => by have := hb (by omega);cases this)
    subst hl0
    (repeat' (first|refine wR ?_|(refine rg 2 (vV (dB rfl) (sK 2 2 rfl (by decide) ?_)))|refine nZ ?_));exact ⟨.inl rfl,[0],_,rfl,rfl,rfl,⟨.inr (aE rfl rfl (eY _)),trivial⟩,by decide,lH _⟩
theorem CJ (w : W) (hw : F3 w) : aR Tryz.prog 91 [HC w] [] (.agg [.sl 0 0 w.1.length 1,.i w.2.1,.sl 1 0 w.2.2.length 2]) [.arr (ints w.1) 1,.arr (eZ w.2.2) 2] := by
  obtain ⟨p,m,c⟩ := w;have h1 := CK p (by have := hw.1;dsimp only at this;omega)
  have h2 := TG c hw.2;dsimp only;refine bQ T Tryz.func91 rfl rfl rfl rfl ?_
  (repeat' (first|refine wS ?_|refine wR ?_|(refine rg 0 (bS (cE rfl rfl) rfl (bS (bO T rfl) rfl ?_)))|(refine bL (id := 1) 12 [[],[0],[0,1],[],[3],[],[5],[0,1,2,5,6],rN 8] (rM 3 9) [[],[],[],[3,4,5],[3,4,5],rM 3 5,rM 3 5,[6,7],[]] cC rfl (by decide +kernel) (dP T rfl (dO T rfl (zO rfl rfl rfl (by exact fK rfl rfl h1 (.inr ⟨rfl,rfl,by simp⟩)) rfl ?_)));refine dP T rfl (dO T rfl (dP T rfl (dO T rfl (zO rfl rfl rfl (by exact fK rfl rfl h2 (.inr ⟨rfl,rfl,by simp⟩)) rfl ?_))));refine dV rfl (by exact eQ T rfl rfl rfl rfl) ?_;refine dE ?_;refine aT T rfl rfl rfl rfl rfl rfl (by decide) rfl ?_)|refine nZ ?_));all_goals exact ⟨.inl rfl,[2,3],_,rfl,rfl,rfl,⟨.inr (aE rfl (bU _ (bJ p)) (bJ p)),.inr (aE rfl (bU _ (eY c)) (eY c)),trivial⟩,by decide,lH _⟩
theorem N6 {h : Hp} {k n : Nat} {l : List SP} (hk : h[k]? = some (.arr (eZ l) 2)) (hn : n = l.length) : nM h (.sl k 0 n 2) (.rowE (eZ l) 2) := tB hk (by rw [hn,gB]) (tH (fun _ => rfl) _)
theorem zD3 (w : W) {i k : Nat} (hw : F3 w) (hi : i < w.1.length) (hk : k < w.1.length) (hc : w.2.2.length = w.1.length) :
    aR Tryz.prog 48 [HC w,.i i,.i k] [] (.agg [.sl 0 0 w.1.length 1,.i w.2.1,.sl 1 0 w.2.2.length 2]) [.arr (ints (nX w i k).1) 1,.arr (eZ (nX w i k).2.2) 2] := by
  have hcl := CJ w hw;obtain ⟨p,m,c⟩ := w;have hw1 := hw.1;have hw2 := hw.2;dsimp only at hi hk hc hcl hw1 hw2;have p1 := C6 (l := p) (j := (i : Int)) (i := i) 0 hi rfl;have p2 := C6 (l := p) (j := (k : Int)) (i := k) 0 hk rfl;have ps := KT (l := p) (j := (i : Int)) (i := i) (x := p.getD k 0) rfl;have p3 := C6 (l := p.set i (p.getD k 0)) (j := (k : Int)) (i := k) 0 (by simpa using hk) rfl
  have pt := KT (l := p.set i (p.getD k 0)) (j := (k : Int)) (i := k) (x := p.getD i 0) rfl;have c1 := B5 (l := c) (j := (i : Int)) (i := i) (by omega) rfl
  have c2 := B5 (l := c) (j := (k : Int)) (i := k) (by omega) rfl
  have cs := O2 (l := c) (j := (i : Int)) (i := i) (r := c.getD k (0,0)) rfl;have c3 := B5 (l := c.set i (c.getD k (0,0))) (j := (k : Int)) (i := k) (by rw [gI];omega) rfl
  have ct := O2 (l := c.set i (c.getD k (0,0))) (j := (k : Int)) (i := k) (r := c.getD i (0,0)) rfl;show aR _ _ _ _ _ [.arr (ints ((p.set i (p.getD k 0)).set k (p.getD i 0))) 1,.arr (eZ ((c.set i (c.getD k (0,0))).set k (c.getD i (0,0)))) 2];have hlp : (ints p).length = p.length := cQ _;have hlc : (eZ c).length = c.length := gB _;dsimp only;refine bQ T Tryz.func48 rfl rfl rfl rfl ?_
  (repeat' (first|refine wS ?_|(refine rg 0 (bS (cE rfl rfl) rfl (bS (bO T rfl) rfl ?_)))|(refine rg 1 (lW T rfl (bS (by exact fK rfl rfl hcl (.inr ⟨rfl,rfl,by simp⟩)) rfl ?_));refine aT T rfl rfl rfl rfl rfl rfl (by decide) rfl ?_)|refine nZ ?_));refine fE [(1,.i i),(2,.i k),(3,.ptr 0 0),(6,.ptr 1 0)] [.cells [.sl 2 0 p.length 1,.i m,.sl 3 0 c.length 2],.cells [.nils,.i 0,.nils],.arr (ints p) 1,.arr (eZ c) 2] ⟨[0,1,2,3],rfl,(by repeat first|exact trivial|refine ⟨rfl,?_⟩),⟨.inr rfl,.inr rfl,.inr (aE rfl (bU _ (bJ p)) (bJ p)),.inr (aE rfl (bU _ (eY c)) (eY c)),trivial⟩,by decide,lH _⟩ ?_
  rw [← ps] at p3 pt;rw [← cs] at c3 ct;generalize p.getD k 0 = x at *;generalize p.getD i 0 = y at *;generalize c.getD k (0,0) = r at *;generalize c.getD i (0,0) = q at *
  (repeat' (first|refine wS ?_|refine wR ?_|(refine mD (id := 2) 46 zS1 (rM 9 17) [[],[],[9,10],[9,10,11],[9,10,11],rM 9 5,rM 9 6,rM 9 6,rM 9 8,rM 9 6,rM 9 6,rM 9 11,rM 9 11,rM 9 13,rM 9 11,rM 9 11,[12,13,14],[12,13,14]] [(17,2)] cC rfl (by decide +kernel) (bZ rfl rfl rfl rfl (by exact bY T rfl rfl rfl) ?_);refine bZ rfl rfl rfl rfl (by exact aQ T rfl rfl rfl rfl) ?_;refine bZ rfl rfl rfl rfl (by exact bX rfl) ?_;refine bZ rfl rfl rfl rfl (by exact bY T rfl rfl rfl) ?_;refine bZ rfl rfl rfl rfl (by exact aQ T rfl rfl rfl rfl) ?_;refine bZ rfl rfl rfl rfl (by exact bX rfl) ?_;refine bZ rfl rfl rfl rfl (by exact bY T rfl rfl rfl) ?_;refine bZ rfl rfl rfl rfl (by exact aQ T rfl rfl rfl rfl) ?_;refine bZ rfl rfl rfl rfl (by exact bX rfl) ?_;refine bZ rfl rfl rfl rfl (by exact aK T rfl rfl rfl rfl rfl (by omega) (by omega)) ?_;refine bZ rfl rfl rfl rfl (by exact aQ T rfl rfl (bG rfl p2) rfl) ?_;refine bZ rfl rfl rfl rfl (by exact bY T rfl rfl rfl) ?_;refine bZ rfl rfl rfl rfl (by exact aQ T rfl rfl rfl rfl) ?_;refine bZ rfl rfl rfl rfl (by exact bX rfl) ?_;refine bZ rfl rfl rfl rfl (by exact aK T rfl rfl rfl rfl rfl (by omega) (by omega)) ?_;refine bZ rfl rfl rfl rfl (by exact aQ T rfl rfl (bG rfl p1) rfl) ?_;refine bZ rfl rfl rfl rfl (by exact aK T rfl rfl rfl rfl rfl (by omega) (by omega)) ?_;refine sU rfl rfl rfl rfl (aP rfl) T rfl rfl rfl rfl rfl rfl (by decide) (rV rfl p1 rfl) ?_;refine pS rfl rfl rfl (by exact rfl) ?_;refine vV (by exact aK T rfl rfl rfl rfl rfl (by omega) (by omega)) ?_;refine aT T rfl rfl rfl rfl rfl rfl (by decide) (lC rfl p3 rfl) ?_)|(refine mD (id := 3) 46 zS1 (rM 27 17) [[],[],[27,28],[27,28,29],[27,28,29],rM 27 5,rM 27 6,rM 27 6,rM 27 8,rM 27 6,rM 27 6,rM 27 11,rM 27 11,rM 27 13,rM 27 11,rM 27 11,[30,31,32],[30,31,32]] [(17,3)] cC rfl (by decide +kernel) (bZ rfl rfl rfl rfl (by exact bY T rfl rfl rfl) ?_);refine bZ rfl rfl rfl rfl (by exact aQ T rfl rfl rfl rfl) ?_;refine bZ rfl rfl rfl rfl (by exact bX rfl) ?_;refine bZ rfl rfl rfl rfl (by exact bY T rfl rfl rfl) ?_;refine bZ rfl rfl rfl rfl (by exact aQ T rfl rfl rfl rfl) ?_;refine bZ rfl rfl rfl rfl (by exact bX rfl) ?_;refine bZ rfl rfl rfl rfl (by exact bY T rfl rfl rfl) ?_;refine bZ rfl rfl rfl rfl (by exact aQ T rfl rfl rfl rfl) ?_;refine bZ rfl rfl rfl rfl (by exact bX rfl) ?_;refine bZ rfl rfl rfl rfl (by exact aK T rfl rfl rfl rfl rfl (by omega) (by omega)) ?_;refine bZ rfl rfl rfl rfl (by exact aQ T rfl rfl (bG rfl c2) rfl) ?_;refine bZ rfl rfl rfl rfl (by exact bY T rfl rfl rfl) ?_;refine bZ rfl rfl rfl rfl (by exact aQ T rfl rfl rfl rfl) ?_;refine bZ rfl rfl rfl rfl (by exact bX rfl) ?_;refine bZ rfl rfl rfl rfl (by exact aK T rfl rfl rfl rfl rfl (by omega) (by omega)) ?_;refine bZ rfl rfl rfl rfl (by exact aQ T rfl rfl (bG rfl c1) rfl) ?_;refine bZ rfl rfl rfl rfl (by exact aK T rfl rfl rfl rfl rfl (by omega) (by omega)) ?_;refine sU rfl rfl rfl rfl (aP rfl) T rfl rfl rfl rfl rfl rfl (by decide) (rV rfl c1 rfl) ?_;refine pS rfl rfl rfl (by exact rfl) ?_;refine vV (by exact aK T rfl rfl rfl rfl rfl (by omega) (by omega)) ?_;refine aT T rfl rfl rfl rfl rfl rfl (by decide) (lC rfl c3 rfl) ?_)|(refine rg 4 (vV (aQ T rfl rfl rfl rfl) (aT T rfl rfl rfl rfl rfl rfl (by decide) rfl ?_)))|refine nZ ?_));all_goals exact ⟨.inl rfl,[2,3],_,rfl,rfl,rfl,⟨.inr (aE rfl pt (bJ _)),.inr (aE rfl ct (eY _)),trivial⟩,by decide,lH _⟩
theorem zD4 (w : W) {i k : Nat} (hw : F3 w) (hi : i < w.1.length) (hk : k < w.1.length) (hc : w.2.2.length = w.1.length) : aR Tryz.prog 48 [HC w,.i i,.i k] [] (HC (nX w i k)) [] :=
  zW (zD3 w hw hi hk hc) (.agg (.cons (F4 rfl (by simp [nX])) (.cons (.v _) (.cons (N6 rfl (by simp [nX])) .nil))))
theorem RW (a b : W) : aR Tryz.prog 138 [HC a,HC b] [] (.i (cI a.2.1 b.2.1)) [] := by
  have h := AE a.2.1 b.2.1;refine bQ T Tryz.func138 rfl rfl rfl rfl ?_
  (repeat' (first|refine wS ?_|refine wR ?_|(refine rg 0 (bS (cE rfl rfl) rfl (bS (cE rfl rfl) rfl (aV ?_))))|(refine rg 1 (iL T rfl (iL T rfl (vV (kC (h)) (aV ?_)))))|refine nZ ?_));all_goals first | (exfalso;omega) | exact rQ
end Go.Proofs.YtmmkhmilpeodnaaGreat
namespace Go.Ld
open Go.Ab Go.Proofs.YtmmkhmilpeodnaaGreat
def rF {α : Type} (p : α → Bool) : List α → Nat → Int
  | [],_ => -1
  | x :: l,k => if p x = true then k else rF p l (k + 1)
theorem BL {α : Type} {p : α → Bool} {l : List α} {k : Nat} (h : k < l.length) : rF p (l.drop k) k = if p l[k] = true then (k : Int) else rF p (l.drop (k + 1)) (k + 1) := by
  rw [aU h];rfl
theorem R5 {α : Type} {p : α → Bool} {l : List α} {k : Nat} (h : l.length ≤ k) : rF p (l.drop k) k = -1 := by
  rw [cX h];rfl
theorem C7 {α : Type} (p : α → Bool) : ∀ (l : List α) (k : Nat), decide (rF p l k ≥ 0) = l.any p
  | [],k => by simp [rF]
  | x :: l,k => by
    unfold rF;split
    · rename_i h;simp [h]
    · rename_i h;rw [C7 p l (k + 1)];simp [h]
theorem Z3 {α : Type} (p : α → Bool) : ∀ (l : List α) (k : Nat), rF p l k = match l.findIdx? p with
    | some i => ((k + i : Nat) : Int)
    | none => -1
  | [],k => by simp [rF]
  | x :: l,k => by
    unfold rF;rw [List.findIdx?_cons];by_cases h : p x = true
    · rw [if_pos h,if_pos h];simp
    · rw [if_neg h,if_neg h,Z3 p l (k + 1)];cases l.findIdx? p with
      | none => rfl
      | some i => show ((k + 1 + i : Nat) : Int) = ((k + (i + 1) : Nat) : Int);omega
theorem oX (l : List G) : ∀ e,e ∈ iY l → e.length = 2 := by intro e he;obtain ⟨n,_,rfl⟩ := bI.1 he;rfl
theorem iX (l : List G) : (iY l).length = l.length := bC _
theorem SM (l : List G) : (iY l).flatten.all AV.one = true := by
  induction l with
  | nil => rfl
  | cons x l ih => exact ih
theorem eC (l : List G) : ∀ e,e ∈ iY l → AV.idfL e = true := by intro e he;obtain ⟨x,_,rfl⟩ := bI.1 he;rfl
end Go.Ld
namespace Go.Proofs.YtmmkhmilpeodnaaGreat
open Go Go.Ab Go.Ld
attribute [local irreducible] VC AW cF aR
set_option maxHeartbeats 4000000
abbrev OV (g : G) : AV := .agg (gA g)
theorem qH {l : List W} {k : Nat} (h : k < l.length) : (fP l)[(k : Int).toNat]? = some (wA l[k]) := by simp [h]
theorem M7 {l : List G} {k : Nat} (h : k < l.length) : (iY l)[(k : Int).toNat]? = some (gA l[k]) := by simp [h]
theorem KS {l : List Int} {k : Nat} (h : k < l.length) : (ints l)[(k : Int).toNat]? = some [AV.i l[k]] := by simp [h]
theorem SA {l : List W} {F : FuncId} {caps : List AV} {p : W → Bool} (hl : l.length ≤ 1000000) (hi : AV.idfL caps = true) (hF : ∀ x,x ∈ l → aR Tryz.prog F (.agg (wA x) :: caps) [] (.b (p x)) []) :
    aR Tryz.prog 139 [.rowE (fP l) 3,.clo (.func F) [] caps] [] (.i (rF p l 0)) [] := by
  have hlen : (fP l).length = l.length := bC _;refine bQ T Tryz.func139 rfl rfl rfl rfl ?_
  (repeat' (first|refine wS ?_|refine wB ?_|(refine rg 0 (aV ?_))|(refine rg 1 (mW rfl (qW T rfl (mV ?_))))|refine nZ ?_));refine dA (X := {k : Nat // k ≤ l.length ∧ rF p l 0 = rF p (l.drop k) k}) (fun k => [(0,.rowE (fP l) 3),(1,.clo (.func F) [] caps),(7,.i (fP l).length),(8,.i k.1)]) (fun _ => []) (fun k => l.length - k.1) ⟨0,by simp,rfl⟩ ⟨[],rfl,⟨rfl,by rw [lM hi];rfl,rfl,rfl,trivial⟩,trivial,dD,fun _ h => absurd h (eA _)⟩ ?_
  rintro ⟨k,hk,he⟩;dsimp only;by_cases hlt : k < l.length
  · have hc := hF l[k] (aI hlt);have hg := qH (l := l) hlt;rw [BL hlt] at he;generalize l[k] = y at *;cases hp : p y with
    | true =>
      rw [hp] at hc;rw [hp,if_pos rfl] at he
      (repeat' (first|refine wS ?_|refine wB ?_|refine wK ?_|refine wR ?_|refine wT ?_|(refine wC rfl ?_ ?_<;>(intro hb;(try simp only [nm] at hb);try (exfalso;omega)))|(refine rg 2 (vV (aO rfl rfl) ?_))|(refine rg 3 (mW rfl (aV ?_)))|(refine rg 4 (dX rfl (mW rfl (vV (ix T rfl (by omega) (kW l) hg) (lW T rfl (vV (by exact eO rfl rfl hc rfl (by simp [AV.idfL,AV.idf,hi]) rfl) ?_))))))|(refine rg 5 (mW rfl (aV ?_)))|refine nZ ?_));all_goals first | (exfalso;omega) | exact cY (.inl rfl) rfl (by rw [he];rfl)
    | false =>
      rw [hp] at hc;rw [hp,if_neg (by simp)] at he
      (repeat' (first|refine wS ?_|refine wB ?_|refine wK ?_|refine wU ?_|(refine wC rfl ?_ ?_<;>(intro hb;(try simp only [nm] at hb);try (exfalso;omega)))|(refine rg 2 (vV (aO rfl rfl) ?_))|(refine rg 3 (mW rfl (aV ?_)))|(refine rg 4 (dX rfl (mW rfl (vV (ix T rfl (by omega) (kW l) hg) (lW T rfl (vV (by exact eO rfl rfl hc rfl (by simp [AV.idfL,AV.idf,hi]) rfl) ?_))))))|(refine rg 6 (vV (bT rfl rfl (by omega) (by omega)) (mV ?_)))|refine nZ ?_));all_goals first | (exfalso;omega) | exact ⟨⟨k + 1,hlt,he⟩,by dsimp only;omega,⟨[],rfl,⟨rfl,by rw [lM hi];rfl,rfl,rfl,trivial⟩,trivial,dD,fun _ h => absurd h (eA _)⟩⟩
  · rw [R5 (by omega)] at he
    (repeat' (first|refine wS ?_|refine wR ?_|refine wE ?_|(refine wC rfl ?_ ?_<;>(intro hb;(try simp only [nm] at hb);try (exfalso;omega)))|(refine rg 2 (vV (aO rfl rfl) ?_))|(refine rg 7 (aV ?_))|refine nZ ?_));all_goals first | (exfalso;omega) | exact cY (.inl rfl) rfl (by rw [he];rfl)
theorem zC1 {l : List W} {F : FuncId} {caps : List AV} {p : W → Bool} (hl : l.length ≤ 1000000) (hi : AV.idfL caps = true) (hF : ∀ x,x ∈ l → aR Tryz.prog F (.agg (wA x) :: caps) [] (.b (p x)) []) :
    aR Tryz.prog 140 [.rowE (fP l) 3,.clo (.func F) [] caps] [] (.b (l.any p)) [] := by
  have hc := SA hl hi hF;rw [← C7 p l 0];refine bQ T Tryz.func140 rfl rfl rfl rfl ?_
  (repeat' (first|refine wS ?_|refine wR ?_|(refine rg 0 (aV ?_))|(refine rg 1 (dX rfl (vV (by exact eO rfl rfl hc rfl (by simp [AV.idfL,AV.idf,hi]) rfl) ?_));refine vV (jP rfl rfl) (aV ?_))|refine nZ ?_));all_goals first | (exfalso;omega) | exact rQ
theorem ZM {l : List G} {F : FuncId} {caps : List AV} {p : G → Bool} (hl : l.length ≤ 1000000) (hi : AV.idfL caps = true) (hF : ∀ x,x ∈ l → aR Tryz.prog F (.agg (gA x) :: caps) [] (.b (p x)) []) :
    aR Tryz.prog 89 [.rowE (iY l) 2,.clo (.func F) [] caps] [] (.i (rF p l 0)) [] := by
  have hlen : (iY l).length = l.length := bC _;refine bQ T Tryz.func89 rfl rfl rfl rfl ?_
  (repeat' (first|refine wS ?_|refine wB ?_|(refine rg 0 (aV ?_))|(refine rg 1 (mW rfl (qW T rfl (mV ?_))))|refine nZ ?_));refine dA (X := {k : Nat // k ≤ l.length ∧ rF p l 0 = rF p (l.drop k) k}) (fun k => [(0,.rowE (iY l) 2),(1,.clo (.func F) [] caps),(7,.i (iY l).length),(8,.i k.1)]) (fun _ => []) (fun k => l.length - k.1) ⟨0,by simp,rfl⟩ ⟨[],rfl,⟨rfl,by rw [lM hi];rfl,rfl,rfl,trivial⟩,trivial,dD,fun _ h => absurd h (eA _)⟩ ?_
  rintro ⟨k,hk,he⟩;dsimp only;by_cases hlt : k < l.length
  · have hc := hF l[k] (aI hlt);have hg := M7 (l := l) hlt;rw [BL hlt] at he;generalize l[k] = y at *;cases hp : p y with
    | true =>
      rw [hp] at hc;rw [hp,if_pos rfl] at he
      (repeat' (first|refine wS ?_|refine wB ?_|refine wK ?_|refine wR ?_|refine wT ?_|(refine wC rfl ?_ ?_<;>(intro hb;(try simp only [nm] at hb);try (exfalso;omega)))|(refine rg 2 (vV (aO rfl rfl) ?_))|(refine rg 3 (mW rfl (aV ?_)))|(refine rg 4 (dX rfl (mW rfl (vV (ix T rfl (by omega) (oX l) hg) (lW T rfl (vV (by exact eO rfl rfl hc rfl (by simp [AV.idfL,AV.idf,hi]) rfl) ?_))))))|(refine rg 5 (mW rfl (aV ?_)))|refine nZ ?_));all_goals first | (exfalso;omega) | exact cY (.inl rfl) rfl (by rw [he];rfl)
    | false =>
      rw [hp] at hc;rw [hp,if_neg (by simp)] at he
      (repeat' (first|refine wS ?_|refine wB ?_|refine wK ?_|refine wU ?_|(refine wC rfl ?_ ?_<;>(intro hb;(try simp only [nm] at hb);try (exfalso;omega)))|(refine rg 2 (vV (aO rfl rfl) ?_))|(refine rg 3 (mW rfl (aV ?_)))|(refine rg 4 (dX rfl (mW rfl (vV (ix T rfl (by omega) (oX l) hg) (lW T rfl (vV (by exact eO rfl rfl hc rfl (by simp [AV.idfL,AV.idf,hi]) rfl) ?_))))))|(refine rg 6 (vV (bT rfl rfl (by omega) (by omega)) (mV ?_)))|refine nZ ?_));all_goals first | (exfalso;omega) | exact ⟨⟨k + 1,hlt,he⟩,by dsimp only;omega,⟨[],rfl,⟨rfl,by rw [lM hi];rfl,rfl,rfl,trivial⟩,trivial,dD,fun _ h => absurd h (eA _)⟩⟩
  · rw [R5 (by omega)] at he
    (repeat' (first|refine wS ?_|refine wR ?_|refine wE ?_|(refine wC rfl ?_ ?_<;>(intro hb;(try simp only [nm] at hb);try (exfalso;omega)))|(refine rg 2 (vV (aO rfl rfl) ?_))|(refine rg 7 (aV ?_))|refine nZ ?_));all_goals first | (exfalso;omega) | exact cY (.inl rfl) rfl (by rw [he];rfl)
theorem zC4 {l : List G} {F : FuncId} {caps : List AV} {p : G → Bool} (hl : l.length ≤ 1000000) (hi : AV.idfL caps = true) (hF : ∀ x,x ∈ l → aR Tryz.prog F (.agg (gA x) :: caps) [] (.b (p x)) []) :
    aR Tryz.prog 51 [.rowE (iY l) 2,.clo (.func F) [] caps] [] (.b (l.any p)) [] := by
  have hc := ZM hl hi hF;rw [← C7 p l 0];refine bQ T Tryz.func51 rfl rfl rfl rfl ?_
  (repeat' (first|refine wS ?_|refine wR ?_|(refine rg 0 (aV ?_))|(refine rg 1 (dX rfl (vV (by exact eO rfl rfl hc rfl (by simp [AV.idfL,AV.idf,hi]) rfl) ?_));refine vV (jP rfl rfl) (aV ?_))|refine nZ ?_));all_goals first | (exfalso;omega) | exact rQ
theorem zI4 {l : List Int} {F : FuncId} {caps : List AV} {p : Int → Bool} (hl : l.length ≤ 1000000) (hi : AV.idfL caps = true) (hF : ∀ x,x ∈ l → aR Tryz.prog F (.i x :: caps) [] (.b (p x)) []) :
    aR Tryz.prog 117 [.rowE (ints l) 1,.clo (.func F) [] caps] [] (.i (rF p l 0)) [] := by
  have hlen : (ints l).length = l.length := bC _;refine bQ T Tryz.func117 rfl rfl rfl rfl ?_
  (repeat' (first|refine wS ?_|refine wB ?_|(refine rg 0 (aV ?_))|(refine rg 1 (mW rfl (qW T rfl (mV ?_))))|refine nZ ?_));refine dA (X := {k : Nat // k ≤ l.length ∧ rF p l 0 = rF p (l.drop k) k}) (fun k => [(0,.rowE (ints l) 1),(1,.clo (.func F) [] caps),(7,.i (ints l).length),(8,.i k.1)]) (fun _ => []) (fun k => l.length - k.1) ⟨0,by simp,rfl⟩ ⟨[],rfl,⟨rfl,by rw [lM hi];rfl,rfl,rfl,trivial⟩,trivial,dD,fun _ h => absurd h (eA _)⟩ ?_
  rintro ⟨k,hk,he⟩;dsimp only;by_cases hlt : k < l.length
  · have hc := hF l[k] (aI hlt);have hg := KS (l := l) hlt;rw [BL hlt] at he;generalize l[k] = y at *;cases hp : p y with
    | true =>
      rw [hp] at hc;rw [hp,if_pos rfl] at he
      (repeat' (first|refine wS ?_|refine wB ?_|refine wK ?_|refine wR ?_|refine wT ?_|(refine wC rfl ?_ ?_<;>(intro hb;(try simp only [nm] at hb);try (exfalso;omega)))|(refine rg 2 (vV (aO rfl rfl) ?_))|(refine rg 3 (mW rfl (aV ?_)))|(refine rg 4 (dX rfl (mW rfl (vV (ix T rfl (by omega) (cH l) hg) (lW T rfl (vV (by exact eO rfl rfl hc rfl (by simp [AV.idfL,AV.idf,hi]) rfl) ?_))))))|(refine rg 5 (mW rfl (aV ?_)))|refine nZ ?_));all_goals first | (exfalso;omega) | exact cY (.inl rfl) rfl (by rw [he];rfl)
    | false =>
      rw [hp] at hc;rw [hp,if_neg (by simp)] at he
      (repeat' (first|refine wS ?_|refine wB ?_|refine wK ?_|refine wU ?_|(refine wC rfl ?_ ?_<;>(intro hb;(try simp only [nm] at hb);try (exfalso;omega)))|(refine rg 2 (vV (aO rfl rfl) ?_))|(refine rg 3 (mW rfl (aV ?_)))|(refine rg 4 (dX rfl (mW rfl (vV (ix T rfl (by omega) (cH l) hg) (lW T rfl (vV (by exact eO rfl rfl hc rfl (by simp [AV.idfL,AV.idf,hi]) rfl) ?_))))))|(refine rg 6 (vV (bT rfl rfl (by omega) (by omega)) (mV ?_)))|refine nZ ?_));all_goals first | (exfalso;omega) | exact ⟨⟨k + 1,hlt,he⟩,by dsimp only;omega,⟨[],rfl,⟨rfl,by rw [lM hi];rfl,rfl,rfl,trivial⟩,trivial,dD,fun _ h => absurd h (eA _)⟩⟩
  · rw [R5 (by omega)] at he
    (repeat' (first|refine wS ?_|refine wR ?_|refine wE ?_|(refine wC rfl ?_ ?_<;>(intro hb;(try simp only [nm] at hb);try (exfalso;omega)))|(refine rg 2 (vV (aO rfl rfl) ?_))|(refine rg 7 (aV ?_))|refine nZ ?_));all_goals first | (exfalso;omega) | exact cY (.inl rfl) rfl (by rw [he];rfl)
theorem SL {l : List Int} {F : FuncId} {caps : List AV} {p : Int → Bool} (hl : l.length ≤ 1000000) (hi : AV.idfL caps = true) (hF : ∀ x,x ∈ l → aR Tryz.prog F (.i x :: caps) [] (.b (p x)) []) :
    aR Tryz.prog 61 [.rowE (ints l) 1,.clo (.func F) [] caps] [] (.b (l.any p)) [] := by
  have hc := zI4 hl hi hF;rw [← C7 p l 0];refine bQ T Tryz.func61 rfl rfl rfl rfl ?_
  (repeat' (first|refine wS ?_|refine wR ?_|(refine rg 0 (aV ?_))|(refine rg 1 (dX rfl (vV (by exact eO rfl rfl hc rfl (by simp [AV.idfL,AV.idf,hi]) rfl) ?_));refine vV (jP rfl rfl) (aV ?_))|refine nZ ?_));all_goals first | (exfalso;omega) | exact rQ
end Go.Proofs.YtmmkhmilpeodnaaGreat
namespace Go.Ab
open Go
def oQ (L : List Nat) (pos k : Nat) : Nat := match L[k]? with
  | some j => j
  | none => pos
theorem HS.callP {c : nO} {ρ ρ' : Pl} {S S' : Nat → Prop} {H hin hout : Hp} {w w' : World} {L : List Nat} {pos : Nat} {b1 : AB} (s : HS c ρ S H w) (hL : L.length = hin.length) (hnd : L.Nodup) (hh : rT (th L H.length) H 0 hin) (hng : ∀ b, b ∈ hin → b ≠ .gone)
    (hlen : hout.length = hin.length) (hp0 : ρ pos = Option.none) (hp1 : H[pos]? = some .gone) (hpm : c.m ≤ pos)
    (hs : HS (nE w (fun k => ρ (th L H.length k)) S hin) ρ' S' (hout ++ [b1]) w') :
    ∃ ρ3 : Pl,HS c ρ3 S' ((wF H L (hout.map (AB.map (oQ L pos)))).set pos (b1.map (oQ L pos))) w' ∧ hO ρ ρ3 S S' w w' ∧ (∀ {x : AV} {y : Value},R S' w' x ρ' y → R S' w' (x.map (oQ L pos)) ρ3 y) ∧ ∀ j,j ≠ pos → ρ3 j = ρ j := by
  have hin_at : ∀ {i : Nat} {b : AB},hin[i]? = some b → ∃ j,L[i]? = some j ∧ j < H.length ∧ H[j]? = some (b.map (th L H.length)) ∧ b.map (th L H.length) ≠ .gone := fun {i b} hb => by
    have hne := hng b (aM hb);have hlt : i < L.length := by rw [hL];exact (aB.1 hb).1
    have hj := aA hlt;have hth : th L H.length i = L[i] := by simp [th,hj]
    rcases hh.get i b hb with hg | hg
    · exact absurd hg hne
    · rw [Nat.zero_add,hth] at hg;exact ⟨L[i],hj,(aB.1 hg).1,hg,by cases b <;> simp [AB.map] at * ⟩
  have thL : ∀ {i j : Nat},L[i]? = some j → th L H.length i = j := fun hi => by simp [th,hi]
  have keep : ∀ {i j : Nat},i < hin.length → L[i]? = some j → ρ' i = ρ j := fun {i j} hi hj => by
    have := hs.keep i hi;simp only [nE] at this;rw [this,thL hj]
  have hM : ∀ b,(nE w (fun k => ρ (th L H.length k)) S hin).M b → w.heap.size ≤ b ∨ ∃ (i j : Nat) (o : Nat) (x : AB),hin[i]? = some x ∧ L[i]? = some j ∧ ρ j = some (b,o) := fun b hb => by
    rcases hb with hb | ⟨k,x,o,hb,_,hp⟩
    · exact .inl hb
    · obtain ⟨j,h3,_⟩ := hin_at hb;exact .inr ⟨k,j,o,x,hb,h3,by rw [← thL h3];exact hp⟩
  have hcM : ∀ b,(nE w (fun k => ρ (th L H.length k)) S hin).M b → c.M b := fun b hb => by
    rcases hM b hb with hb | ⟨i,j,o,x,h3,h4,h5⟩
    · exact c.new b (cJ s.ext.size hb)
    · obtain ⟨j',h6,_,h7,h8⟩ := hin_at h3;rw [h4] at h6;cases h6;exact (s.live j _ _ h7 h8 h5).1
  have hlow : ∀ b,b < w.heap.size → (nE w (fun k => ρ (th L H.length k)) S hin).M b → ∃ (i j : Nat) (o : Nat) (x : AB),hin[i]? = some x ∧ L[i]? = some j ∧ ρ j = some (b,o) := fun b hlt hb => by
    rcases hM b hb with hb | hb
    · omega
    · exact hb
  have other : ∀ {k : Nat} {b : AB} {q : Nat × Nat},H[k]? = some b → b ≠ .gone → k ∉ L → ρ k = some q → ¬ (nE w (fun k => ρ (th L H.length k)) S hin).M q.1 := fun {k b q} hb hg hkL hq hm => by
    obtain ⟨i,j,o,x,h3,h4,h5⟩ := hlow q.1 (s.rng k q hq) hm;obtain ⟨j',h6,_,h7,h8⟩ := hin_at h3;rw [h4] at h6;cases h6;have := s.inj k j _ _ q _ hb h7 hg h8 hq h5 rfl;subst this;exact hkL (aM h4)
  have stM : ∀ b,S b → ¬ (nE w (fun k => ρ (th L H.length k)) S hin).M b := fun b hb hm => by
    obtain ⟨i,j,o,x,h3,h4,h5⟩ := hlow b (s.stab b hb) hm;obtain ⟨j',h6,_,h7,h8⟩ := hin_at h3;rw [h4] at h6;cases h6;exact (s.live j _ _ h7 h8 h5).2 hb
  have same : ∀ b,b < w.heap.size → ¬ (nE w (fun k => ρ (th L H.length k)) S hin).M b → w'.heap[b]? = w.heap[b]? := fun b hb hm => hs.ext.same b hb hm
  have hposL : pos ∉ L := fun hm => by
    obtain ⟨i,hi⟩ := DD.1 hm;have hlt : i < hin.length := by rw [← hL];exact (aB.1 hi).1
    obtain ⟨j,h3,_,h4,h5⟩ := hin_at (aA hlt);rw [hi] at h3;cases h3;rw [hp1] at h4;exact h5 (Option.some.inj h4).symm
  have hposH : pos < H.length := (aB.1 hp1).1
  let ρ3 : Pl := fun j => if j = pos then ρ' hin.length else ρ j
  have r3p : ρ3 pos = ρ' hin.length := if_pos rfl;have r3o : ∀ j,j ≠ pos → ρ3 j = ρ j := fun j hj => if_neg hj
  have l : hO ρ ρ3 S S' w w' := by
    refine ⟨fun k q hq => ?_,hs.st0,fun b hb => same b (s.stab b hb) (stM b hb),fun _ _ _ _ _ hr => hs.ext.room hr⟩
    rw [r3o k (fun e => by rw [e,hp0] at hq;cases hq)];exact hq
  have pl : ∀ k q,ρ' k = some q → ρ3 (oQ L pos k) = some q := fun k q hq => by
    by_cases hk : k < hin.length
    · obtain ⟨j,h3,_,_⟩ := hin_at (aA hk);have hbk : oQ L pos k = j := by simp [oQ,h3]
      have hjp : j ≠ pos := fun e => hposL (e ▸ aM h3);rw [hbk,r3o j hjp,← keep hk h3];exact hq
    · by_cases hk2 : k = hin.length
      · have hbk : oQ L pos k = pos := by unfold oQ;rw [cO (by omega)]
        rw [hbk,r3p,← hk2];exact hq
      · have := hs.dom k (by rw [aF,hlen,List.length_singleton];omega)
        rw [this] at hq;cases hq
  have shift : ∀ {x : AV} {y : Value},R S' w' x ρ' y → R S' w' (x.map (oQ L pos)) ρ3 y := fun {x y} hx => I5 _ _ x y (mK (fun _ h => h) (fun _ _ => rfl) x ρ' _ y pl (fun _ _ _ _ _ h => h) hx);have shiftB : ∀ {b : AB} {pp},RB S' w' ρ' pp b → RB S' w' ρ3 pp (b.map (oQ L pos)) := fun {b pp} hb => DB _ _ (RB.later (ρ := ρ') (S := S') ⟨pl,fun _ h => h,fun _ _ => rfl,fun _ _ _ _ _ h => h⟩ (fun _ _ _ => rfl) hb);have get : ∀ {k : Nat} {b : AB},((wF H L (hout.map (AB.map (oQ L pos)))).set pos (b1.map (oQ L pos)))[k]? = some b →
      (k ≠ pos ∧ k ∉ L ∧ H[k]? = some b) ∨ (∃ (i : Nat) (b' : AB),(hout ++ [b1])[i]? = some b' ∧ b = b'.map (oQ L pos) ∧ oQ L pos i = k ∧ ρ3 k = ρ' i) := fun {k b} hb => by
    rw [gQ] at hb;by_cases hk : pos = k
    · rw [if_pos hk,if_pos (by rw [jY];exact hposH)] at hb
      cases hb;refine .inr ⟨hin.length,b1,by rw [← hlen];simp,rfl,?_,by rw [← hk];exact r3p⟩
      unfold oQ;rw [cO (by omega)]
      exact hk
    · rw [if_neg hk] at hb;by_cases hkL : k ∈ L
      · obtain ⟨i,hi⟩ := DD.1 hkL;have hiL : i < hin.length := by rw [← hL];exact (aB.1 hi).1
        have hb' := aA (l := hout) (i := i) (by omega)
        have hkl : k < H.length := by
          have := (aB.1 hb).1
          rwa [jY] at this
        rw [BB (b := (hout[i]'(by omega)).map (oQ L pos)) hnd hi (by simp [hb']) hkl] at hb
        simp only [Option.some.injEq] at hb;exact .inr ⟨i,_,by rw [aG (by omega)];exact hb',hb.symm,by simp [oQ,hi],by rw [r3o k (fun e => hk e.symm)];exact (keep hiL hi).symm⟩
      · rw [uG _ _ _ hkL] at hb;exact .inl ⟨fun e => hk e.symm,hkL,hb⟩
  have mapg : ∀ {θ : Nat → Nat} {b : AB},b.map θ ≠ .gone → b ≠ .gone := fun hb e => hb (by rw [e];rfl)
  refine ⟨ρ3,⟨fun k hk => ?_,fun k q hq => ?_,fun k b hb => ?_,fun k b q hb hg hq => ?_,fun k k' b b' q q' hb hb' hg hg' hq hq' e => ?_,hs.stab,s.ext.trans hs.ext (fun b hb hlt => hcM b hb),fun b hb => hs.st0 b (s.st0 b hb),fun b hb => ?_,?_,fun k hk => ?_,hs.glob⟩,l,shift,r3o⟩
  · rw [gI,jY] at hk;rw [r3o k (by omega)]
    exact s.dom k hk
  · by_cases hk : k = pos
    · rw [hk,r3p] at hq;exact hs.rng _ q hq
    · rw [r3o k hk] at hq;exact dZ (s.rng k q hq) hs.ext.size
  · rcases get hb with ⟨h3,h4,h5⟩ | ⟨i,b',h3,rfl,h4,h5⟩
    · rw [r3o k h3];by_cases hg : b = .gone
      · subst hg;trivial
      · exact RB.later l (fun b1 o1 hp => same b1 (s.rng k _ hp) (other h5 hg h4 hp)) (s.blk k b h5)
    · rw [h5];exact shiftB (hs.blk i b' h3)
  · rcases get hb with ⟨h3,h4,h5⟩ | ⟨i,b',h3,rfl,h4,h5⟩
    · rw [r3o k h3] at hq;obtain ⟨h7,h8⟩ := s.live k b q h5 hg hq;refine ⟨h7,fun hs' => ?_⟩
      rcases hs.st1 _ hs' with h9 | h9
      · exact h8 h9
      · exact other h5 hg h4 hq h9
    · rw [h5] at hq;obtain ⟨h7,h8⟩ := hs.live i b' q h3 (mapg hg) hq;exact ⟨hcM _ h7,h8⟩
  · rcases get hb with ⟨h3,h4,h5⟩ | ⟨i,b1,h3,rfl,h4,h5⟩ <;> rcases get hb' with ⟨h3',h4',h5'⟩ | ⟨i',b1',h3',rfl,h4',h5'⟩
    · rw [r3o k h3] at hq;rw [r3o k' h3'] at hq';exact s.inj k k' b b' q q' h5 h5' hg hg' hq hq' e
    · rw [r3o k h3] at hq;rw [h5'] at hq';have hl := (hs.live i' b1' q' h3' (mapg hg') hq').1;rw [← e] at hl;exact absurd hl (other h5 hg h4 hq)
    · rw [r3o k' h3'] at hq';rw [h5] at hq;have hl := (hs.live i b1 q h3 (mapg hg) hq).1;rw [e] at hl;exact absurd hl (other h5' hg' h4' hq')
    · rw [h5] at hq;rw [h5'] at hq';have := hs.inj i i' b1 b1' q q' h3 h3' (mapg hg) (mapg hg') hq hq' e;subst this;rw [← h4,← h4']
  · rcases hs.st1 b hb with hb' | hb'
    · exact s.st1 b hb'
    · exact .inr (hcM b hb')
  · rw [gI,jY];exact s.mle
  · rw [r3o k (by omega)]
    exact s.keep k hk
theorem rT.up {θ : Nat → Nat} {h H : Hp} (hb : ∀ (j : Nat) b, h[j]? = some b → b ≠ .gone → H[j]? = some b) : ∀ {hin : Hp} {i : Nat}, (∀ b, b ∈ hin → b ≠ .gone) → rT θ h i hin → rT θ H i hin
  | [],_,_,_ => trivial
  | b :: r,i,hng,hs => by
    refine ⟨?_,rT.up hb (fun x hx => hng x (aN _ hx)) hs.2⟩;rcases hs.1 with h1 | h1
    · exact .inl h1
    · refine .inr (hb _ _ h1 ?_);have := hng b aS;cases b <;> simp [AB.map] at *
section
variable {P : Program} {env : dU} {h : Hp} {d : Option Nat} {ty : TypeId} {pos : String} {af : Array Edge}
theorem GK (L : List Nat) {pp k : Nat} {nb b1 u1 : AB} {uu : AV} {dd : Nat} {x : Operand} {f : FuncId} {fs cs us xs : List AV} {args : List Operand} {ats : Array TypeId} {res : AV} {hin hout : Hp} (hx : evu env x = some (.clo (.func f) fs cs)) (ha : yX env args = some us)
    (hc : aR P f xs hin res (hout ++ [b1])) (hxs : ∀ N,fs ++ us ++ cs = AV.mapL (th L N) xs) (hL : L.length = hin.length) (hnd : L.Nodup) (hh : ∀ N,rT (th L N) h 0 hin) (hng : ∀ b,b ∈ hin → b ≠ .gone) (hlen : hout.length = hin.length)
    (hput : ∀ H : Hp,(∀ (j : Nat) b,h[j]? = some b → b ≠ .gone → H[j]? = some b) → wF H L (hout.map (AB.map (oQ L pp))) = H.set k nb) (hu : res.map (oQ L pp) = uu) (hb1 : b1.map (oQ L pp) = u1) :
    kZ P ⟨some dd,.call { callee := .value x,args := args.toArray,argTypes := ats },ty,pos,af,none⟩ env h pp k nb uu [u1] := by
  intro c ρ S a w H g p hbel hpp K' Q hK';obtain ⟨hr0,hH0,hm0⟩ : ρ pp = none ∧ H[pp]? = some .gone ∧ c.m ≤ pp := by
    rcases hpp with h0 | h0
    · cases h0
    · exact h0
  have hxv := p.evu hx;simp only [R] at hxv;obtain ⟨ys,zs,e1,h1,h2⟩ := hxv;have hall : RL S w (fs ++ us ++ cs) ρ (ys.toList ++ args.map a.eval ++ zs.toList) := iG (iG h1 (sE p ha)) h2;rw [hxs H.length] at hall;have hargs := oH (th L H.length) ρ _ _ hall;obtain ⟨hf,hc⟩ := hc;have hsub := rT.up hbel hng (hh H.length);have hs0 := g.hand hL hnd hsub;have hcall := hc _ S w _ hs0 hargs;unfold Oper.wp;have hrun : (execOp a.eval ⟨some dd,.call { callee := .value x,args := args.toArray,argTypes := ats },ty,pos,af,none⟩).run P w = .ok (.enter f (ys.toList ++ args.map a.eval ++ zs.toList).toArray) w := by
    have e2 : (ys ++ (args.toArray.map a.eval) ++ zs) = (ys.toList ++ args.map a.eval ++ zs.toList).toArray := by
      apply Array.ext';simp
    simp only [execOp,resolve,e1,Deferred.ofValue,Sem.run_bind,Sem.run_pure,Result.andThen_ok,invoke];rw [e2];exact vY hf
  rw [hrun];simp only [Oper.upon];refine hcall.mono ?_;rintro e w' ⟨y,ρ',S',rfl,hs,hy⟩;simp only;obtain ⟨ρ3,g1,g2,g3,g4⟩ := g.callP hL hnd hsub hng hlen hr0 hH0 hm0 hs;rw [hput H hbel,hb1] at g1;exact hK' _ ρ3 S' w' g1 g2 (hu ▸ g3 hy) (fun j hj => g4 j (hj (by simp)))
end
theorem oT.freezeP {n : Nat × Nat} {c : nO} {ρ : Pl} {S : Nat → Prop} {env : dU} {h : Hp} {a : Act} {w : World} {t k off : Nat} {cs : List AV} (s : oT n c ρ S env h a w) (ht : look env t = some (.ptr k off)) (hk : h[k]? = some (.cells cs)) (hi : AV.idfL cs = true) :
    oT n c ρ (fun b => S b ∨ ∃ o,ρ k = some (b,o)) ((t,.pr cs off) :: env) (h.set k .gone) a w := by
  refine ⟨s.size,s.defers.st (fun _ h => .inl h),fun t' x hx => ?_,s.hs.freezeC hk (by simp),s.cm⟩
  rw [gN] at hx;split at hx
  · rename_i e;subst e;cases hx;exact FN hi (s.hs.blk k _ hk) (s.env t _ ht)
  · exact GR (fun _ h => .inl h) (s.env t' x hx)
theorem CY {S S' : Nat → Prop} {w : World} {ρ : Pl} {x x' : AV} (hS : ∀ b, S b → S' b) (hx : ∀ y, R S w x ρ y → R S' w x' ρ y) : ∀ {cs : List AV} {f : Nat}, cs[f]? = some x → ∀ {ys : List Value}, RL S w cs ρ ys → RL S' w (cs.set f x') ρ ys
  | [],f,hf,ys,h => by simp at hf
  | c :: cs,0,hf,ys,h => by
    simp only [eE,Option.some.injEq] at hf;subst hf;simp only [RL,List.set_cons_zero] at h ⊢;obtain ⟨y,zs,e,h1,h2⟩ := h;exact ⟨y,zs,e,hx y h1,US hS h2⟩
  | c :: cs,f + 1,hf,ys,h => by
    simp only [jK] at hf;simp only [RL,List.set_cons_succ] at h ⊢;obtain ⟨y,zs,e,h1,h2⟩ := h;exact ⟨y,zs,e,GR hS h1,CY hS hx hf h2⟩
theorem oT.freezeIn {n : Nat × Nat} {c : nO} {ρ : Pl} {S : Nat → Prop} {env : dU} {h : Hp} {a : Act} {w : World} {j f k len sz : Nat} {cs : List AV} {es : List (List AV)} (s : oT n c ρ S env h a w) (hj : h[j]? = some (.cells cs)) (hf : cs[f]? = some (.sl k 0 len sz)) (hk : h[k]? = some (.arr es sz)) (hn : len = es.length) (hi : AV.idfL es.flatten = true) :
    oT n c ρ (fun b => S b ∨ ∃ o,ρ k = some (b,o)) env ((h.set k .gone).set j (.cells (cs.set f (.rowE es sz)))) a w := by
  have hne : j ≠ k := by rintro rfl;rw [hj] at hk;cases hk
  have h1 := s.hs.freeze hk;have hj' : (h.set k .gone)[j]? = some (.cells cs) := by rw [iH (Ne.symm hne)];exact hj
  refine ⟨s.size,s.defers.st (fun _ h => .inl h),fun t' x hx => GR (fun _ h => .inl h) (s.env t' x hx),h1.alter hj' (fun _ => ?_) (by simp),s.cm⟩
  have hb := s.hs.blk j _ hj;simp only [RB] at hb ⊢;obtain ⟨b,o,ys,e1,e2,e3⟩ := hb;refine ⟨b,o,ys,e1,e2,CY (fun _ h => .inl h) (fun y hy => ?_) hf e3⟩;rw [hn] at hy;exact uO hi (s.hs.blk k _ hk) hy
section
variable {P : Program} {n : Nat × Nat} {ops : Array Oper} {env : dU} {h : Hp} {K : dU → Hp → Prop} {rest : List Oper} {Q : Exit → dU → Hp → Prop} {code : Code}
theorem fU (t : Nat) {k off : Nat} {cs : List AV} (ht : look env t = some (.ptr k off)) (hk : h[k]? = some (.cells cs)) (hi : AV.idfL cs = true) (hv : AW P n code ((t,.pr cs off) :: env) (h.set k .gone) Q) : AW P n code env h Q :=
  fun c ρ S a w QQ s hQ => hv c ρ _ a w QQ (s.freezeP ht hk hi) hQ
theorem mX (j f : Nat) {k len sz : Nat} {cs : List AV} {es : List (List AV)} (hj : h[j]? = some (.cells cs)) (hf : cs[f]? = some (.sl k 0 len sz)) (hk : h[k]? = some (.arr es sz)) (hn : len = es.length) (hi : AV.idfL es.flatten = true) (hv : AW P n code env ((h.set k .gone).set j (.cells (cs.set f (.rowE es sz)))) Q) : AW P n code env h Q :=
  fun c ρ S a w QQ s hQ => hv c ρ _ a w QQ (s.freezeIn hj hf hk hn hi) hQ
end
theorem HS.snocG {c : nO} {ρ : Pl} {S : Nat → Prop} {H : Hp} {w : World} (s : HS c ρ S H w) : HS c ρ S (H ++ [.gone]) w := by
  have get : ∀ {k : Nat} {b : AB},(H ++ [AB.gone])[k]? = some b → b ≠ .gone → H[k]? = some b := fun {k b} hb hg => by
    by_cases hk : k < H.length
    · rwa [aG hk] at hb
    · rw [aD (by omega)] at hb
      by_cases e : k - H.length = 0
      · rw [e] at hb;simp at hb;exact absurd hb.symm hg
      · rw [cO (by simp;omega)] at hb;cases hb
  refine ⟨fun k hk => s.dom k (by simp at hk;omega),s.rng,fun k b hb => ?_,fun k b q hb hg hq => s.live k b q (get hb hg) hg hq,fun k k' b b' q q' hb hb' hg hg' hq hq' e => s.inj k k' b b' q q' (get hb hg) (get hb' hg') hg hg' hq hq' e,s.stab,s.ext,s.st0,s.st1,by rw [aF];have := s.mle;omega,s.keep,s.glob⟩
  by_cases hg : b = .gone
  · subst hg;trivial
  · exact s.blk k b (get hb hg)
theorem U1 {P : Program} {f : FuncId} {args : List AV} {res : AV} {hin hout : Hp} (h : aR P f args hin res hout) : aR P f args hin res (hout ++ [.gone]) := by
  refine ⟨h.1,fun ρ S w vs hs ha => (h.2 ρ S w vs hs ha).mono ?_⟩;rintro e w' ⟨y,ρ',S',rfl,h2,h3⟩;exact ⟨y,ρ',S',rfl,h2.snocG,h3⟩
end Go.Ab
namespace Go.Ab
open Go
set_option maxHeartbeats 1000000
theorem X6 {w : World} {n b off : Nat} {d : List Value} {os : Array Obj} {c : Array Value} {e : TypeId} (hc : w.heap[b]? = some (.cells c e (0,0))) (hb : b < w.heap.size) :
    (Sort.grow (Sort.putRow id (Sort.ahead w n) b off d.toArray) os).heap[b]? = some (.cells (Sort.putCells id off d.toArray c) e (0,0)) := by
  rw [Sort.heap_grow_old _ _ (by rw [Sort.size_putRow];exact hb)]
  unfold Sort.putRow Sort.mapBlock;show (w.heap.modify b _)[b]? = _;rw [vM,if_pos rfl,hc];rfl
theorem EN {w : World} {n b off : Nat} {d : List Value} {os : Array Obj} {c : Array Value} {e : TypeId} (hc : w.heap[b]? = some (.cells c e (0,0))) (hb : b < w.heap.size) :
    mN (fun x => x = b) w (Sort.grow (Sort.putRow id (Sort.ahead w n) b off d.toArray) os) := by
  have other : ∀ x,x < w.heap.size → x ≠ b → (Sort.grow (Sort.putRow id (Sort.ahead w n) b off d.toArray) os).heap[x]? = w.heap[x]? := fun x hx hne => by
    rw [Sort.heap_grow_old _ _ (by rw [Sort.size_putRow];exact hx)]
    unfold Sort.putRow Sort.mapBlock;show (w.heap.modify b _)[x]? = _;rw [vM,if_neg (Ne.symm hne)]
  refine ⟨rfl,rfl,rfl,by rw [Sort.size_grow,Sort.size_putRow];exact iK _ _,fun x hx hne => other x hx hne,fun x cc ee fz hcc => ?_⟩
  by_cases hx : x = b
  · subst hx;rw [hc] at hcc;cases hcc;exact ⟨_,_,X6 hc hb,by simp [Sort.putCells]⟩
  · exact ⟨cc,fz,by rw [other x (aH.1 hcc).1 hx];exact hcc,rfl⟩
theorem WN {c : nO} {ρ : Pl} {S : Nat → Prop} {es es' : List (List AV)} {sz : Nat} {w w' : World} {b o n : Nat} {ys ys' Z : List Value} (s : HS c ρ S [.arr es sz] w) (hp : ρ 0 = some (b, o)) (hne : es ≠ [])
    (hys : J8 w b o ys) (hl : (ys' ++ Z).length = ys.length) (he : ∀ e,e ∈ es' → e.length = sz) (hr : ∀ S' w',hO ρ ρ S S' w w' → RL S' w' es'.flatten ρ ys')
    (hw : w' = Sort.putRow id (Sort.ahead w n) b o (ys' ++ Z).toArray) : HS c ρ S [.arr es' sz] w' := by
  obtain ⟨_,h0,h3⟩ := s.blk 0 _ rfl;obtain ⟨c,ty,hc,hg⟩ := hys;have hb := (aH.1 hc).1;have hw2 : w' = Sort.grow (Sort.putRow id (Sort.ahead w n) b o (ys' ++ Z).toArray) #[] := by rw [hw,D0]
  have hh : w'.heap[b]? = some (.cells (Sort.putCells id o (ys' ++ Z).toArray c) ty (0,0)) := by rw [hw2];exact X6 hc hb
  obtain ⟨s',_⟩ := s.upd (k := 0) (b0 := .arr es sz) (nb := .arr es' sz) (w' := w') rfl (by simp) hp (by rw [hw2];exact EN hc hb) (fun l => by
    refine ⟨he,h0,.inr ⟨b,o,ys',rfl,⟨_,ty,hh,fun j y hj => ?_⟩,hr _ _ l⟩⟩
    obtain ⟨hjl,hz⟩ := aB.1 hj;rw [aF] at hl;have hold := hg j (ys[j]'(by omega)) (aA (by omega))
    unfold Sort.putCells;rw [DG,hold];show some (if o ≤ o + j ∧ o + j < o + (ys' ++ Z).toArray.size then _ else _) = _
    have hsz : (ys' ++ Z).toArray.size = ys'.length + Z.length := by simp
    rw [if_pos ⟨by omega,by omega⟩]
    congr 1;rw [show o + j - o = j by omega,getElem!_pos _ j (by omega)]
    show (ys' ++ Z).toArray[j]'_ = y
    rw [xJ,List.getElem_append_left hjl];exact hz)
  exact s'
theorem OA {es : List (List AV)} {sz : Nat} (h : ∀ e,e ∈ es → e.length = sz) (m : Nat) : (es.drop m).flatten = es.flatten.drop (m * sz) := by
  induction es generalizing m with
  | nil => simp
  | cons a l ih =>
    have ha := h a aS;cases m with
    | zero => simp
    | succ m =>
      rw [List.drop_succ_cons,eH,ih (fun e he => h e (aN _ he)),List.drop_append];rw [cX (l := a) (by rw [ha,eG];omega),ha,eG,GW,OP,List.nil_append]
theorem UT {S : Nat → Prop} {w : World} {ρ : Pl} : ∀ {xs as_ : List AV} {ys bs : List Value}, RL S w xs ρ ys → RL S w as_ ρ bs → RL S w (xs ++ as_) ρ (ys ++ bs)
  | [],as_,ys,bs,h,h' => by simp only [RL] at h;subst h;exact h'
  | x :: xs,as_,ys,bs,h,h' => by
    simp only [RL] at h;obtain ⟨y,zs,rfl,h1,h2⟩ := h;exact ⟨y,zs ++ bs,rfl,h1,UT h2 h'⟩
theorem LW {S : Nat → Prop} {w : World} {ρ : Pl} : ∀ {xs : List AV} {ys : List Value}, RL S w xs ρ ys → xs.all AV.one = true → ∀ u, u ∈ ys → u.oneCell' = true
  | [],ys,h,_,u,hu => by simp only [RL] at h;subst h;cases hu
  | x :: xs,ys,h,h1,u,hu => by
    simp only [RL] at h;obtain ⟨y,zs,rfl,h2,h3⟩ := h;simp only [L6,aL] at h1;rcases bN.1 hu with rfl | hu
    · exact BG h2 h1.1
    · exact LW h3 h1.2 u hu
theorem yZ {P : Program} {f : FuncId} {sz : Nat} (hfn : ∃ fn, P.funcs[f]? = some fn ∧ (fn.name == "runtime.NumGoroutine") = false ∧ fn.body.isNone = false)
    (hs : ∀ (blk off cap len i j : Nat) (cs : List Value) (w : World),cs.length = len * sz → Sort.Holds id w blk off cs.toArray → (∀ u,u ∈ cs → u.oneCell' = true) → len ≤ cap → cap ≤ 9223372036854775807 → i ≤ j → j ≤ len →
      Calls P f #[.slice (some ⟨blk,off,none⟩) len cap,.int .i64 i,.int .i64 j] w fun e w' => e = .returned (.slice (some ⟨blk,off,none⟩) (len - (j - i)) cap) ∧ ∃ (q : Nat) (Z : List Value),Z.length = (j - i) * sz ∧ w' = Sort.putRow id (Sort.ahead w q) blk off (cs.take (i * sz) ++ cs.drop (j * sz) ++ Z).toArray)
    (es : List (List AV)) (hes : ∀ e,e ∈ es → e.length = sz) (h1 : es.flatten.all AV.one = true) (i j : Nat) (hij : i ≤ j) (hj : j ≤ es.length) (hne : es ≠ []) :
    aR P f [.sl 0 0 es.length sz,.i (i : Int),.i (j : Int)] [.arr es sz] (.sl 0 0 (es.length - (j - i)) sz) [.arr (es.take i ++ es.drop j) sz] := by
  refine ⟨hfn,fun ρ S w vs s hv => ?_⟩
  simp only [RL] at hv;obtain ⟨y,_,rfl,hy,y2,_,rfl,hy2,y3,_,rfl,hy3,rfl⟩ := hv;simp only [R] at hy hy2 hy3;subst hy2 hy3;obtain ⟨a,cap,rfl,hcap,hy⟩ := hy;have hl0 : 0 < es.length := fC.2 hne;rcases hy with ⟨h0,_⟩ | ⟨b,o,hp,ha,hcl,hrm⟩
  · omega
  · obtain ⟨_,hs0,hB⟩ := s.blk 0 _ rfl;rcases hB with hB | ⟨b',o',ys,h4,h5,h6⟩
    · exact absurd hB.1 hne
    · rw [hp] at h4;cases h4;rw [V5,Nat.add_zero] at ha;subst ha;have hmax : maxLen ≤ 9223372036854775807 := by decide
      have hyl : ys.length = es.length * sz := by rw [fL h6,fA hes]
      obtain ⟨cc,ct,hcc,hcg⟩ := h5;have hH : Sort.Holds id w b o ys.toArray := fun t ht => by
        have ht' : t < ys.length := by simpa using ht
        have h7 := hcg t ys[t] (aA ht');refine ⟨?_,?_⟩
        · show w.cell? ⟨b,o + t,none⟩ = some (ys.toArray[t]!);rw [getElem!_pos _ t ht];simp only [World.cell?,hcc];rw [xJ];exact h7
        · simp [World.frozen?,hcc]
      refine (hs b o cap es.length i j ys w hyl hH (LW h6 h1) hcl (by omega) hij hj).mono fun e w' ⟨he,q,Z,hZ,hw⟩ => ?_
      subst he;have hil : i * sz ≤ j * sz := gR _ hij;have hjl : j * sz ≤ es.length * sz := gR _ hj;have hsub : (j - i) * sz = j * sz - i * sz := Nat.sub_mul _ _ _;have s' := WN (es' := es.take i ++ es.drop j) (ys := ys) (ys' := ys.take (i * sz) ++ ys.drop (j * sz)) (Z := Z) (n := q) s hp hne ⟨cc, ct, hcc, hcg⟩ (by simp only [aF, bD, dR, hZ]; omega)
        (fun e he => by rcases bF.1 he with he | he;exact hes e (fF he);exact hes e (eV he))
        (fun S' w' l => by
          rw [gG,xZ hes,OA hes]
          exact UT (pU (h6.later l) _) (uZ (h6.later l) _)) hw
      have hsz0 := hs0;refine ⟨_,ρ,S,rfl,s',?_⟩;simp only [R];refine ⟨_,cap,rfl,hcap,.inr ⟨b,o,hp,by simp,by omega,?_⟩⟩
      rw [hw];have hb := (aH.1 hcc).1;have hw2 : Sort.putRow id (Sort.ahead w q) b o (ys.take (i * sz) ++ ys.drop (j * sz) ++ Z).toArray = Sort.grow (Sort.putRow id (Sort.ahead w q) b o (ys.take (i * sz) ++ ys.drop (j * sz) ++ Z).toArray) #[] := by rw [D0]
      rw [hw2];exact (EN hcc hb).room hrm
theorem O8 {P : Program} (w : World) (t e ty : TypeId) (z : Value) (ht : P.underlying t = some (.slice e)) (hv : ∀ w, (zeroValue e).run P w = .ok z w) (hz : z.cells.toList ≠ []) (h1 : ∀ u, u ∈ z.cells.toList → u.oneCell' = true) (b o n c : Nat) (hn : 0 < n)
    (hc : ∀ j,j < n * z.cells.toList.length → (w.cell? ⟨b,o + j,none⟩).isSome = true) (hf : ∀ j,j < n * z.cells.toList.length → w.frozen? ⟨b,o + j,none⟩ = false) :
    (Builtin.clear_ #[t] ty #[.slice (some ⟨b,o,none⟩) n c]).run P w = .ok (.tuple #[]) (w.setCells b o (Builtin.zeroCells z.cells n).toList) := by
  obtain ⟨hm,hl⟩ := oV (z := z.cells) rfl hz n;have hst := run_storeCells_cells (P := P) b o (Builtin.zeroCells z.cells n).toList 0 w (fun j hj => by simpa using hc j (by omega)) (fun j hj => by simpa using hf j (by omega)) (fun v hv' => h1 v (hm v hv'))
  simp only [Nat.add_zero] at hst;obtain ⟨m,rfl⟩ : ∃ m,n = m + 1 := ⟨n - 1,by omega⟩
  simp [Builtin.clear_,run_underlying ht,hv,hst]
end Go.Ab
namespace Go.Proofs.YtmmkhmilpeodnaaGreat
open Go Go.Ab Go.Ld Go.Lib Go.Sort Go.RowKit Go.Shelf
theorem K2 (d : List Value) (i j : Nat) (Z : List Value) (hij : i ≤ j) (hj : j ≤ d.length) (hZ : Z.length = j - i) :
    lay (lay d.toArray i (d.drop j)) (i + (d.length - j)) Z = (d.take i ++ d.drop j ++ Z).toArray := by
  apply Array.ext_getElem?;intro t;have l1 : (d.take i).length = i := by simp;omega
  have l2 : (d.drop j).length = d.length - j := by simp
  rw [lay_get? _ _ _ _ (by rw [lay_size];simp;omega),lay_get? _ _ _ _ (by rw [l2];simp;omega),show (d.take i ++ d.drop j ++ Z).toArray[t]? = (d.take i ++ d.drop j ++ Z)[t]? from iC]
  simp only [hZ,l2];by_cases c1 : t < i
  · rw [if_neg (by omega),if_neg (by omega),aG (by simp;omega),aG (by omega),bW,if_pos c1,iC]
  · by_cases c2 : t < i + (d.length - j)
    · rw [if_neg (by omega),if_pos (by omega),aG (by simp;omega),aD (by omega),l1]
    · rw [aD (by simp;omega)]
      simp only [aF,l1,l2];by_cases c3 : t < d.length
      · rw [if_pos (by omega)]
      · rw [if_neg (by omega),if_neg (by omega),Array.getElem?_eq_none (by simp;omega),cO (by omega)]
set_option maxHeartbeats 4000000 in
set_option maxRecDepth 1000000 in
theorem YL (blk off cap len i j : Nat) (cs : List Value) (w : World) (hcl0 : cs.length = len * 2) (hH : Holds id w blk off cs.toArray) (h1 : ∀ u,u ∈ cs → u.oneCell' = true) (hcap : len ≤ cap) (hm : cap ≤ 9223372036854775807) (hij : i ≤ j) (hj : j ≤ len) :
    Calls Tryz.prog 143 #[.slice (some ⟨blk,off,none⟩) len cap,.int .i64 i,.int .i64 j] w fun e w' => e = .returned (.slice (some ⟨blk,off,none⟩) (len - (j - i)) cap) ∧ ∃ (q : Nat) (Z : List Value),Z.length = (j - i) * 2 ∧ w' = putRow id (Sort.ahead w q) blk off (cs.take (i * 2) ++ cs.drop (j * 2) ++ Z).toArray := by
  by_cases heq : i = j
  · subst heq;have h0 : Calls Tryz.prog 143 #[.slice (some ⟨blk,off,none⟩) len cap,.int .i64 i,.int .i64 i] w fun e w' => e = .returned (.slice (some ⟨blk,off,none⟩) len cap) ∧ w' = w := by
      clear hH h1
      go_enter Tryz.func143,Tryz.ntmps143
      go_wp2
      all_goals (go_ret;exact ⟨rfl,rfl⟩)
    refine h0.mono ?_;rintro e w' ⟨rfl,rfl⟩;refine ⟨by rw [eX,UV],0,[],by simp,?_⟩
    rw [List.append_nil,bM];exact (putRow_self id (Sort.ahead w' 0) blk off cs.toArray hH).symm
  · have hlt : i < j := by omega
    obtain ⟨inf,z,t1,t2,t3,t4,t5,t6,t7⟩ := T.tiOk 48 _ rfl;have t22 : Tryz.prog.underlying 82 = some (.slice 48) := T.elemOk _ _ rfl;have hzv : ∀ w,(zeroValue 48).run Tryz.prog w = .ok z w := fun w => by simp [zeroValue,typeInfo,t1,t4]
    have hz2 : z.cells.toList.length = 2 := by rw [t5];rfl
    have hz1 : ∀ u,u ∈ z.cells.toList → u.oneCell' = true := by rw [t5];exact bA.1 rfl
    obtain ⟨_,hZl⟩ := oV (z := z.cells) rfl (by intro h;rw [h] at hz2;cases hz2) (j - i)
    rw [hz2] at hZl;have hji : len - (i + (len - j)) = j - i := by omega
    obtain ⟨Z,hZe⟩ : ∃ Z,Z = (Builtin.zeroCells z.cells (j - i)).toList := ⟨_,rfl⟩;rw [← hZe] at hZl;obtain ⟨news,hnews⟩ : ∃ news,news = cs.drop (j * 2) := ⟨_,rfl⟩;have hlen : news.length = (len - j) * 2 := by rw [hnews,dR];omega
    have hget : ∀ t,t < (len - j) * 2 → news[t]? = some (cs.toArray[j * 2 + t]!) := by
      intro t ht;rw [hnews,eF,getElem!_pos cs.toArray (j * 2 + t) (by simp;omega),xJ,aA]
    obtain ⟨A,hA,hsrc⟩ : ∃ A : Addr,(if cap = j then some (⟨blk,off,none⟩ : Addr) else some ⟨blk,off + j * 2,none⟩) = some A ∧ Hid (∀ t u,news[t]? = some u → w.drew.cell? (A.add t) = some u) := by
      by_cases h : cap = j
      · refine ⟨⟨blk,off,none⟩,by simp [h],fun t u hu => ?_⟩
        have h0 : news.length = 0 := by rw [hlen];omega
        rw [fJ.1 h0] at hu;simp at hu
      · refine ⟨⟨blk,off + j * 2,none⟩,by simp [h],fun t u hu => ?_⟩
        have ht : t < (len - j) * 2 := by
          have := (aB.1 hu).1
          rwa [hlen] at this
        rw [hget t ht] at hu;rw [Addr.add_lit,show off + j * 2 + t = off + (j * 2 + t) by omega]
        exact (hH (j * 2 + t) (by simp;omega)).1.trans hu
    have s1 : Hid (news.length = (len - j) * 2) := hlen;have s2 : Hid (∀ u ∈ news,u.oneCell' = true) := by
      intro u hu;rw [hnews] at hu;exact h1 u (eV hu)
    have s3 : Hid (∀ t,t < news.length → (w.drew.cell? ⟨blk,off + i * 2 + t,none⟩).isSome = true ∧ w.drew.frozen? ⟨blk,off + i * 2 + t,none⟩ = false) := by
      intro t ht;rw [hlen] at ht;rw [dK];exact ⟨by show (w.cell? _).isSome = true;rw [(hH (i * 2 + t) (by simp;omega)).1];rfl,(hH (i * 2 + t) (by simp;omega)).2⟩
    obtain ⟨W1,hW1⟩ : ∃ W1,W1 = w.drew.setCells blk (off + i * 2) news := ⟨_,rfl⟩;have hW1' : W1 = putRow id (Sort.ahead w 1) blk off (lay cs.toArray (i * 2) (cs.drop (j * 2))) := by
      have h := putRow_setCells id (Sort.ahead w 1) blk off (cs.drop (j * 2)) cs.toArray (i * 2) (by simp;omega)
      rw [K9,putRow_self id (Sort.ahead w 1) blk off cs.toArray (holds_ahead id w 1 blk off cs.toArray hH)] at h;rw [hW1,hnews];exact h
    have hH1 : Holds id W1 blk off (lay cs.toArray (i * 2) (cs.drop (j * 2))) := by rw [hW1'];exact holds_putRow id _ blk off cs.toArray _ (holds_ahead id w 1 blk off cs.toArray hH) (lay_size _ _ _)
    have hcl : ∀ ty,(Builtin.clear_ #[82] ty #[.slice (some ⟨blk,off + (i + (len - j)) * 2,none⟩) (len - (i + (len - j))) (cap - (i + (len - j)))]).run Tryz.prog W1 = .ok (.tuple #[]) (W1.setCells blk (off + (i + (len - j)) * 2) Z) :=
      fun ty => by
       rw [hZe,← hji];exact O8 W1 _ _ ty z t22 hzv (by intro h; rw [h] at hz2; cases hz2) hz1 blk _ _ _ (by omega)
        (fun t ht => by rw [hz2] at ht;rw [dK,(hH1 _ (by rw [lay_size];simp;omega)).1];rfl) (fun t ht => by rw [hz2] at ht;rw [dK];exact (hH1 _ (by rw [lay_size];simp;omega)).2)
    have X : Aside (W1 = putRow id (Sort.ahead w 1) blk off (lay cs.toArray (i * 2) (cs.drop (j * 2)))) := hW1';have hW : Hid (W1 = w.drew.setCells blk (off + i * 2) news) := hW1;have mixed := cC;have hic : i ≤ cap := by omega
    have hjc : j ≤ cap := by omega
    clear hW1 hW1' hH1 hH hget hnews hlen hji hZe
    go_enter Tryz.func143,Tryz.ntmps143
    go_wp2_with fail
    go_region_law_o (refine step_append_room rfl (.tmp 22) (.tmp 25) 82 rfl 48 inf 2 t22 t1 t2 blk off i cap (by simp [Act.eval,Act.put]) A (len - j) (cap - j) news (by simp [Act.eval,Act.put]) s1.out hsrc.out s2.out (by omega) s3.out ?_;rw [← hW.out])
    go_wp2
    go_ret
    refine ⟨by rw [show len - (j - i) = i + (len - j) by omega];rfl,1,Z,hZl,?_⟩
    rw [X.out,← K9 Z,show off + (i + (len - j)) * 2 = off + (i * 2 + (cs.length - j * 2)) by omega,putRow_setCells id _ blk off _ _ _ (by rw [lay_size,nB];omega),K9,
      K2 cs (i * 2) (j * 2) _ (by omega) (by omega) (by omega)]
theorem zD9 (l : List SP) (i j : Nat) (hij : i ≤ j) (hj : j ≤ l.length) (hne : l ≠ []) :
    aR Tryz.prog 143 [.sl 0 0 l.length 2,.i (i : Int),.i (j : Int)] [.arr (eZ l) 2] (.sl 0 0 (l.length - (j - i)) 2) [.arr (eZ (l.take i ++ l.drop j)) 2] := by
  have h := yZ (sz := 2) ⟨_,Tryz.func143,by kernel_rfl,by kernel_rfl⟩ YL (eZ l) (iS l) (W8 l) i j hij (by rw [bC];exact hj) (fun h => hne (lG.1 h))
  rw [bC,← kK,← List.map_drop,← dI] at h;exact h
set_option maxHeartbeats 4000000 in
set_option maxRecDepth 1000000 in
theorem YM (blk off cap len i j : Nat) (cs : List Value) (w : World) (hcl0 : cs.length = len * 2) (hH : Holds id w blk off cs.toArray) (h1 : ∀ u,u ∈ cs → u.oneCell' = true) (hcap : len ≤ cap) (hm : cap ≤ 9223372036854775807) (hij : i ≤ j) (hj : j ≤ len) :
    Calls Tryz.prog 88 #[.slice (some ⟨blk,off,none⟩) len cap,.int .i64 i,.int .i64 j] w fun e w' => e = .returned (.slice (some ⟨blk,off,none⟩) (len - (j - i)) cap) ∧ ∃ (q : Nat) (Z : List Value),Z.length = (j - i) * 2 ∧ w' = putRow id (Sort.ahead w q) blk off (cs.take (i * 2) ++ cs.drop (j * 2) ++ Z).toArray := by
  by_cases heq : i = j
  · subst heq;have h0 : Calls Tryz.prog 88 #[.slice (some ⟨blk,off,none⟩) len cap,.int .i64 i,.int .i64 i] w fun e w' => e = .returned (.slice (some ⟨blk,off,none⟩) len cap) ∧ w' = w := by
      clear hH h1
      go_enter Tryz.func88,Tryz.ntmps88
      go_wp2
      all_goals (go_ret;exact ⟨rfl,rfl⟩)
    refine h0.mono ?_;rintro e w' ⟨rfl,rfl⟩;refine ⟨by rw [eX,UV],0,[],by simp,?_⟩
    rw [List.append_nil,bM];exact (putRow_self id (Sort.ahead w' 0) blk off cs.toArray hH).symm
  · have hlt : i < j := by omega
    obtain ⟨inf,z,t1,t2,t3,t4,t5,t6,t7⟩ := T.tiOk 87 _ rfl;have t22 : Tryz.prog.underlying 79 = some (.slice 87) := T.elemOk _ _ rfl;have hzv : ∀ w,(zeroValue 87).run Tryz.prog w = .ok z w := fun w => by simp [zeroValue,typeInfo,t1,t4]
    have hz2 : z.cells.toList.length = 2 := by rw [t5];rfl
    have hz1 : ∀ u,u ∈ z.cells.toList → u.oneCell' = true := by rw [t5];exact bA.1 rfl
    obtain ⟨_,hZl⟩ := oV (z := z.cells) rfl (by intro h;rw [h] at hz2;cases hz2) (j - i)
    rw [hz2] at hZl;have hji : len - (i + (len - j)) = j - i := by omega
    obtain ⟨Z,hZe⟩ : ∃ Z,Z = (Builtin.zeroCells z.cells (j - i)).toList := ⟨_,rfl⟩;rw [← hZe] at hZl;obtain ⟨news,hnews⟩ : ∃ news,news = cs.drop (j * 2) := ⟨_,rfl⟩;have hlen : news.length = (len - j) * 2 := by rw [hnews,dR];omega
    have hget : ∀ t,t < (len - j) * 2 → news[t]? = some (cs.toArray[j * 2 + t]!) := by
      intro t ht;rw [hnews,eF,getElem!_pos cs.toArray (j * 2 + t) (by simp;omega),xJ,aA]
    obtain ⟨A,hA,hsrc⟩ : ∃ A : Addr,(if cap = j then some (⟨blk,off,none⟩ : Addr) else some ⟨blk,off + j * 2,none⟩) = some A ∧ Hid (∀ t u,news[t]? = some u → w.drew.cell? (A.add t) = some u) := by
      by_cases h : cap = j
      · refine ⟨⟨blk,off,none⟩,by simp [h],fun t u hu => ?_⟩
        have h0 : news.length = 0 := by rw [hlen];omega
        rw [fJ.1 h0] at hu;simp at hu
      · refine ⟨⟨blk,off + j * 2,none⟩,by simp [h],fun t u hu => ?_⟩
        have ht : t < (len - j) * 2 := by
          have := (aB.1 hu).1
          rwa [hlen] at this
        rw [hget t ht] at hu;rw [Addr.add_lit,show off + j * 2 + t = off + (j * 2 + t) by omega]
        exact (hH (j * 2 + t) (by simp;omega)).1.trans hu
    have s1 : Hid (news.length = (len - j) * 2) := hlen;have s2 : Hid (∀ u ∈ news,u.oneCell' = true) := by
      intro u hu;rw [hnews] at hu;exact h1 u (eV hu)
    have s3 : Hid (∀ t,t < news.length → (w.drew.cell? ⟨blk,off + i * 2 + t,none⟩).isSome = true ∧ w.drew.frozen? ⟨blk,off + i * 2 + t,none⟩ = false) := by
      intro t ht;rw [hlen] at ht;rw [dK];exact ⟨by show (w.cell? _).isSome = true;rw [(hH (i * 2 + t) (by simp;omega)).1];rfl,(hH (i * 2 + t) (by simp;omega)).2⟩
    obtain ⟨W1,hW1⟩ : ∃ W1,W1 = w.drew.setCells blk (off + i * 2) news := ⟨_,rfl⟩;have hW1' : W1 = putRow id (Sort.ahead w 1) blk off (lay cs.toArray (i * 2) (cs.drop (j * 2))) := by
      have h := putRow_setCells id (Sort.ahead w 1) blk off (cs.drop (j * 2)) cs.toArray (i * 2) (by simp;omega)
      rw [K9,putRow_self id (Sort.ahead w 1) blk off cs.toArray (holds_ahead id w 1 blk off cs.toArray hH)] at h;rw [hW1,hnews];exact h
    have hH1 : Holds id W1 blk off (lay cs.toArray (i * 2) (cs.drop (j * 2))) := by rw [hW1'];exact holds_putRow id _ blk off cs.toArray _ (holds_ahead id w 1 blk off cs.toArray hH) (lay_size _ _ _)
    have hcl : ∀ ty,(Builtin.clear_ #[79] ty #[.slice (some ⟨blk,off + (i + (len - j)) * 2,none⟩) (len - (i + (len - j))) (cap - (i + (len - j)))]).run Tryz.prog W1 = .ok (.tuple #[]) (W1.setCells blk (off + (i + (len - j)) * 2) Z) :=
      fun ty => by
       rw [hZe,← hji];exact O8 W1 _ _ ty z t22 hzv (by intro h; rw [h] at hz2; cases hz2) hz1 blk _ _ _ (by omega)
        (fun t ht => by rw [hz2] at ht;rw [dK,(hH1 _ (by rw [lay_size];simp;omega)).1];rfl) (fun t ht => by rw [hz2] at ht;rw [dK];exact (hH1 _ (by rw [lay_size];simp;omega)).2)
    have X : Aside (W1 = putRow id (Sort.ahead w 1) blk off (lay cs.toArray (i * 2) (cs.drop (j * 2)))) := hW1';have hW : Hid (W1 = w.drew.setCells blk (off + i * 2) news) := hW1;have mixed := cC;have hic : i ≤ cap := by omega
    have hjc : j ≤ cap := by omega
    clear hW1 hW1' hH1 hH hget hnews hlen hji hZe
    go_enter Tryz.func88,Tryz.ntmps88
    go_wp2_with fail
    go_region_law_o (refine step_append_room rfl (.tmp 22) (.tmp 25) 79 rfl 87 inf 2 t22 t1 t2 blk off i cap (by simp [Act.eval,Act.put]) A (len - j) (cap - j) news (by simp [Act.eval,Act.put]) s1.out hsrc.out s2.out (by omega) s3.out ?_;rw [← hW.out])
    go_wp2
    go_ret
    refine ⟨by rw [show len - (j - i) = i + (len - j) by omega];rfl,1,Z,hZl,?_⟩
    rw [X.out,← K9 Z,show off + (i + (len - j)) * 2 = off + (i * 2 + (cs.length - j * 2)) by omega,putRow_setCells id _ blk off _ _ _ (by rw [lay_size,nB];omega),K9,
      K2 cs (i * 2) (j * 2) _ (by omega) (by omega) (by omega)]
theorem zE0 (l : List G) (i j : Nat) (hij : i ≤ j) (hj : j ≤ l.length) (hne : l ≠ []) :
    aR Tryz.prog 88 [.sl 0 0 l.length 2,.i (i : Int),.i (j : Int)] [.arr (iY l) 2] (.sl 0 0 (l.length - (j - i)) 2) [.arr (iY (l.take i ++ l.drop j)) 2] := by
  have h := yZ (sz := 2) ⟨_,Tryz.func88,by kernel_rfl,by kernel_rfl⟩ YM (iY l) (oX l) (SM l) i j hij (by rw [bC];exact hj) (fun h => hne (lG.1 h))
  rw [bC,← kK,← List.map_drop,← dI] at h;exact h
end Go.Proofs.YtmmkhmilpeodnaaGreat
namespace Go.Proofs.YtmmkhmilpeodnaaGreat
open Go Go.Ab Go.Shelf Go.Proofs
shelf_lay Lays2.n23 Nm2 23 at Tryz as laysDelete
theorem TD (l : List Int) (i j : Nat) (hij : i ≤ j) (hj : j ≤ l.length) (hne : l ≠ []) :
    aR Tryz.prog 142 [.sl 0 0 l.length 1,.i (i : Int),.i (j : Int)] [.arr (ints l) 1] (.sl 0 0 (l.length - (j - i)) 1) [.arr (ints (l.take i ++ l.drop j)) 1] :=
  CX ⟨_,Tryz.func142,by kernel_rfl,by kernel_rfl⟩ (fun blk off cap i j zs w h1 h2 h3 h4 h5 => Any.slices_Delete_int laysDelete blk off cap i j zs w h1 h2 h3 h4 h5) l i j hij hj hne
end Go.Proofs.YtmmkhmilpeodnaaGreat
namespace Go.Ld
open Go.Ab Go.Proofs.YtmmkhmilpeodnaaGreat
abbrev fS (q : W → Bool) (l : List W) : List W := l.filter fun x => !q x
theorem uJ {q : W → Bool} {l : List W} {k : Nat} (h : k < l.length) : fS q (l.take (k + 1)) = if q l[k] then fS q (l.take k) else fS q (l.take k) ++ [l[k]] := by
  unfold fS;rw [aX h,List.filter_append];cases e : q l[k] <;> simp [e]
theorem FD (q : W → Bool) (l : List W) (k : Nat) : (fS q (l.take k)).length ≤ k := cJ (DE _ _) (by simp;omega)
theorem H5 {α : Type} (p : α → Bool) : ∀ (l : List α) (k : Nat), (rF p l k = -1 ∧ ∀ x, x ∈ l → p x = false) ∨ ∃ (j : Nat) (hj : j < l.length), rF p l k = ((k + j : Nat) : Int) ∧ p l[j] = true ∧ ∀ x, x ∈ l.take j → p x = false
  | [],k => .inl ⟨rfl,fun x hx => by cases hx⟩
  | y :: l,k => by
    unfold rF;cases hp : p y with
    | true => exact .inr ⟨0,by simp,by rw [if_pos rfl];rfl,by simpa using hp,fun x hx => by simp at hx⟩
    | false =>
      rw [if_neg (by simp)]
      rcases H5 p l (k + 1) with ⟨h1,h2⟩ | ⟨j,hj,h1,h2,h3⟩
      · refine .inl ⟨h1,fun x hx => ?_⟩
        rcases bN.1 hx with rfl | hx
        · exact hp
        · exact h2 x hx
      · refine .inr ⟨j + 1,by simp;omega,by rw [h1];omega,by simpa using h2,fun x hx => ?_⟩
        rw [nN] at hx;rcases bN.1 hx with rfl | hx
        · exact hp
        · exact h3 x hx
def H1 (m x : W) : W := if x.2.1 < m.2.1 then x else m
theorem EZ : ∀ (l : List W) (f : W), (l.foldl H1 f).2.1 = l.foldl (fun m x => if x.2.1 < m then x.2.1 else m) f.2.1
  | [],_ => rfl
  | x :: l,f => by
    rw [yK,yK,EZ l];congr 1;unfold H1;split <;> rfl
theorem NZ {l : List W} {f : W} {k : Nat} (h : k < l.length) : (l.take (k + 1)).foldl H1 f = H1 ((l.take k).foldl H1 f) l[k] := by
  rw [aX h,VD];rfl
end Go.Ld
namespace Go.Proofs.YtmmkhmilpeodnaaGreat
open Go Go.Ab Go.Ld
attribute [local irreducible] VC AW cF aR
set_option maxHeartbeats 4000000
theorem zF8 {F : FuncId} {caps : List AV} {q : W → Bool} (l : List W) (hl : l.length ≤ 1000000) (hi : AV.idfL caps = true) (hp : AV.plnL caps = true) (hF : ∀ x,x ∈ l → aR Tryz.prog F (.agg (wA x) :: caps) [] (.b (q x)) []) :
    aR Tryz.prog 104 [.sl 0 0 l.length 3,.clo (.func F) [] caps] [.arr (fP l) 3] (.sl 0 0 (fS q l).length 3) [.arr (fP (fS q l)) 3] := by
  have hll : (fP l).length = l.length := eS l;have hix := SA hl hi hF;have hvw : nM [.arr (fP l) 3] (.sl 0 0 l.length 3) (.rowE (fP l) 3) := tB rfl hll.symm (tH (fun _ => rfl) _);refine bQ T Tryz.func104 rfl rfl rfl rfl ?_;rcases H5 q l 0 with ⟨h1,h2⟩ | ⟨j,hj,h1,h2,h3⟩
  · rw [h1] at hix;have hk : fS q l = l := zB.2 fun x hx => by rw [h2 x hx];rfl
    rw [hk]
    (repeat' (first|refine wS ?_|refine wR ?_|refine wT ?_|(refine rg 0 (aV ?_))|(refine rg 1 (dX rfl (vV (by exact eT rfl rfl hix (.cons hvw (.cons (.clo .nil (fZ _ hp)) .nil)) rfl rfl) ?_));refine aV ?_)|(refine rg 2 (mW rfl (vV (dJ rfl rfl) ?_)))|(refine rg 3 (mW rfl (aV ?_)))|refine nZ ?_));all_goals first | (exfalso;omega) | exact ⟨.inl rfl,[0],_,rfl,rfl,rfl,⟨.inr (aE rfl rfl (bH _)),trivial⟩,by decide,lA⟩
  · rw [h1,Nat.zero_add] at hix;have hk0 : fS q (l.take (j + 1)) = l.take j := by
      rw [uJ hj,if_pos h2];exact zB.2 fun x hx => by rw [h3 x hx];rfl
    have hkl : (fS q (l.take (j + 1))).length = j := by rw [hk0];simp;omega
    have hka : fS q (l.take (j + 1)) ++ l.drop (fS q (l.take (j + 1))).length = l := by rw [hkl,hk0,bM]
    have hkf : fS q l = fS q (l.take l.length) := by rw [dQ]
    rw [hkf]
    (repeat' (first|refine wS ?_|refine wB ?_|refine wK ?_|refine wU ?_|(refine rg 0 (aV ?_))|(refine rg 1 (dX rfl (vV (by exact eT rfl rfl hix (.cons hvw (.cons (.clo .nil (fZ _ hp)) .nil)) rfl rfl) ?_));refine aV ?_)|(refine rg 2 (mW rfl (vV (dJ rfl rfl) ?_)))|(refine iA 4 rfl rfl rfl (by omega) (by omega) ?_)|refine nZ ?_));all_goals try (exfalso;omega)
    refine dA (X := {m : Nat // m ≤ l.length}) (fun m => [(0,.sl 0 0 l.length 3),(1,.clo (.func F) [] caps),(5,.i (fS q (l.take m.1)).length),(6,.i m.1)]) (fun m => [.arr (fP (fS q (l.take m.1) ++ l.drop (fS q (l.take m.1)).length)) 3]) (fun m => l.length - m.1) ⟨j + 1,hj⟩ ⟨[0],rfl,⟨rfl,by rw [lM hi];rfl,by dsimp only;rw [hkl];rfl,rfl,trivial⟩,⟨.inr (aE rfl (by dsimp only;rw [hka]) (bH _)),trivial⟩,by decide,lA⟩ ?_
    rintro ⟨m,hm⟩;dsimp only;have hle := FD q l m;by_cases hlt : m < l.length
    · have hs := uJ (q := q) hlt;have hget := IW (G := fS q (l.take m)) (l := l) (m := m) (i := 0 + (m : Int).toNat) hle hlt (by omega)
      have hg2 := IW (G := fS q (l.take m)) (l := l) (m := (fS q (l.take m)).length) (i := 0 + (((fS q (l.take m)).length : Nat) : Int).toNat) (aY _) (by omega) (by omega)
      rw [nU hlt] at hget;have hset := zA4 (G := fS q (l.take m)) (l := l) (x := l[m]) (j := (((fS q (l.take m)).length : Nat) : Int)) (by omega) rfl
      have hc := hF l[m] (aI hlt);have hal := NJ (G := fS q (l.take m)) (l := l) (by omega)
      generalize l[m] = x at *;generalize l.getD (fS q (l.take m)).length w0 = y at *;generalize hG : fS q (l.take m) = G at *;generalize hA : fP (G ++ l.drop G.length) = A at *;cases e : q x
      · rw [e] at hc hs;rw [if_neg (by simp)] at hs
        (repeat' (first|refine wS ?_|refine wB ?_|refine wK ?_|refine wT ?_|(refine wC rfl ?_ ?_<;>(intro hb;(try simp only [nm] at hb);try (exfalso;omega)))|(refine rg 5 (dX rfl (qW T rfl (vV (aO rfl rfl) ?_))))|(refine rg 7 (dX rfl (vV (by exact aK T rfl rfl rfl rfl rfl (by omega) (by omega)) ?_));refine vV (by exact aQ T rfl rfl (bG rfl hget) rfl) ?_;refine bS (bO T rfl) rfl (aT T rfl rfl rfl rfl rfl rfl (by decide) rfl ?_))|(refine rg 8 (mW rfl (vV (aQ T rfl rfl rfl rfl) (vV (by exact eO rfl rfl hc rfl (by simp [AV.idfL,AV.idf,hi]) rfl) ?_)));refine vV (dH rfl) ?_)|(refine rg 9 (dX rfl (vV (aQ T rfl rfl rfl rfl) (vV (by exact aK T rfl rfl rfl rfl rfl (by omega) (by omega)) ?_)));refine aT T rfl rfl rfl rfl rfl rfl (by decide) (lC rfl hg2 rfl) ?_)|(refine iA 10 rfl rfl rfl (by omega) (by omega) ?_)|(refine iA 6 rfl rfl rfl (by omega) (by omega) ?_)|refine nZ ?_));all_goals try (exfalso;omega)
        all_goals exact ⟨⟨m + 1,hlt⟩,by dsimp only;omega,[0],rfl,⟨rfl,by rw [lM hi];rfl,by rw [hs];simp only [aF];rfl,rfl,trivial⟩,⟨.inr (aE rfl (by rw [hs];exact hset) (bH _)),trivial⟩,by decide,lA⟩
      · rw [e] at hc hs;rw [if_pos rfl] at hs
        (repeat' (first|refine wS ?_|refine wB ?_|refine wK ?_|refine wU ?_|(refine wC rfl ?_ ?_<;>(intro hb;(try simp only [nm] at hb);try (exfalso;omega)))|(refine rg 5 (dX rfl (qW T rfl (vV (aO rfl rfl) ?_))))|(refine rg 7 (dX rfl (vV (by exact aK T rfl rfl rfl rfl rfl (by omega) (by omega)) ?_));refine vV (by exact aQ T rfl rfl (bG rfl hget) rfl) ?_;refine bS (bO T rfl) rfl (aT T rfl rfl rfl rfl rfl rfl (by decide) rfl ?_))|(refine rg 8 (mW rfl (vV (aQ T rfl rfl rfl rfl) (vV (by exact eO rfl rfl hc rfl (by simp [AV.idfL,AV.idf,hi]) rfl) ?_)));refine vV (dH rfl) ?_)|(refine iA 6 rfl rfl rfl (by omega) (by omega) ?_)|refine nZ ?_));all_goals try (exfalso;omega)
        all_goals exact ⟨⟨m + 1,hlt⟩,by dsimp only;omega,[0],rfl,⟨rfl,by rw [lM hi];rfl,by rw [hs];rfl,rfl,trivial⟩,⟨.inr (aE rfl (by rw [hs];exact hA.symm) (bH _)),trivial⟩,by decide,lA⟩
    · obtain rfl : m = l.length := by omega
      have hal := NJ (G := fS q (l.take l.length)) (l := l) (by omega)
      have htk := PK (G := fS q (l.take l.length)) (l := l);generalize fS q (l.take l.length) = G at *
      (repeat' (first|refine wS ?_|refine wR ?_|refine wE ?_|(refine wC rfl ?_ ?_<;>(intro hb;(try simp only [nm] at hb);try (exfalso;omega)))|(refine rg 5 (dX rfl (qW T rfl (vV (aO rfl rfl) ?_))))|(refine rg 11 (dX rfl (vV (by exact jZ T rfl rfl rfl rfl rfl rfl (by omega) (by omega) (by omega)) ?_));refine F5 T rfl rfl rfl ⟨rfl,rfl,by decide⟩ rfl (by rw [hal];omega) ?_)|(refine rg 12 (dX rfl (vV (by exact jZ T rfl rfl rfl rfl rfl rfl (by omega) (by omega) (by omega)) ?_));refine aV ?_)|refine nZ ?_));all_goals try (exfalso;omega)
      all_goals exact ⟨.inl rfl,[0],_,rfl,(by show AV.sl 0 0 ((G.length : Int) - 0).toNat 3 = AV.sl 0 0 G.length 3;rw [show ((G.length : Int) - 0).toNat = G.length by omega]),rfl,⟨.inr (aE rfl htk (bH _)),trivial⟩,by decide,lA⟩
abbrev zI0 : AV := .clo (.func 138) [] []
theorem OW {f : W} {l : List W} {k : Nat} (h : k < l.length) : (fP (f :: l))[((k : Int) + 1).toNat]? = some (wA l[k]) := by
  rw [show ((k : Int) + 1).toNat = k + 1 by omega];simp [h]
theorem zH9 (f : W) (l : List W) (hl : l.length ≤ 1000000) : aR Tryz.prog 137 [.rowE (fP (f :: l)) 3,zI0] [] (HC (l.foldl H1 f)) [] := by
  have hll : (fP (f :: l)).length = l.length + 1 := by simp
  have hg0 : (fP (f :: l))[(0 : Int).toNat]? = some (wA f) := rfl;refine bQ T Tryz.func137 rfl rfl rfl rfl ?_
  (repeat' (first|refine wS ?_|refine wB ?_|refine wK ?_|refine wU ?_|(refine rg 0 (bS (bO T rfl) rfl ?_))|(refine rg 1 (mW rfl (qW T rfl (vV (aO rfl rfl) ?_))))|(refine rg 3 (mW rfl (vV (ix T rfl (by omega) (kW _) hg0) (lW T rfl (bS (bO T rfl) rfl (aT T rfl rfl rfl rfl rfl rfl (by decide) rfl ?_))))))|(refine rg 4 (aV ?_))|refine nZ ?_));all_goals try (exfalso;omega)
  refine dA (X := {k : Nat // k ≤ l.length}) (fun k => [(0,.rowE (fP (f :: l)) 3),(1,zI0),(4,.ptr 0 0),(5,.ptr 1 0),(6,.i ((k.1 : Int) + 1))]) (fun k => [.cells [.nils,.i 0,.nils],.cells (wA ((l.take k.1).foldl H1 f))]) (fun k => l.length - k.1) ⟨0,cT _⟩ ⟨[0,1],rfl,by (repeat (first | exact trivial | refine ⟨rfl,?_⟩)),⟨.inr rfl,.inr rfl,trivial⟩,by decide,lH _⟩ ?_
  rintro ⟨k,hk⟩;dsimp only;by_cases hlt : k < l.length
  · have hs := NZ (f := f) hlt;have hg := OW (f := f) hlt;have hc := RW l[k] ((l.take k).foldl H1 f);generalize l[k] = x at *;generalize (l.take k).foldl H1 f = m at *;by_cases h0 : x.2.1 < m.2.1
    · have hv : cI x.2.1 m.2.1 = -1 := by unfold cI;rw [if_pos h0]
      rw [hv] at hc;rw [H1,if_pos h0] at hs
      (repeat' (first|refine wS ?_|refine wB ?_|refine wK ?_|refine wT ?_|(refine wC rfl ?_ ?_<;>(intro hb;(try simp only [nm] at hb);try (exfalso;omega)))|(refine rg 5 (dX rfl (qW T rfl (vV (aO rfl rfl) ?_))))|(refine bL (id := 7) 33 [[],[],[],[1,2],[1,2,3],[],rN 6,rN 7] (rM 20 8) [[],[20],[20,21],[20],[20],rM 20 5,[],[]] cC rfl (by decide +kernel) (dN rfl (dN rfl (dN rfl (dV rfl (ix T rfl (by omega) (kW _) hg) (dO T rfl (dO T rfl (dV rfl (kC (hc)) (dV rfl (aO rfl rfl) (dE ?_))))))))))|(refine rg 8 (dX rfl (vV (ix T rfl (by omega) (kW _) hg) (lW T rfl (aT T rfl rfl rfl rfl rfl rfl (by decide) rfl ?_)))))|(refine iA 6 rfl rfl rfl (by omega) (by omega) ?_)|refine nZ ?_));all_goals try (exfalso;omega)
      all_goals exact ⟨⟨k + 1,hlt⟩,by dsimp only;omega,[0,1],rfl,by (repeat (first | exact trivial | refine ⟨rfl,?_⟩)),⟨.inr rfl,.inr (by dsimp only;rw [hs];rfl),trivial⟩,by decide,lH _⟩
    · have hv : 0 ≤ cI x.2.1 m.2.1 := by unfold cI;rw [if_neg h0];split <;> omega
      rw [H1,if_neg h0] at hs;generalize cI x.2.1 m.2.1 = v at *
      (repeat' (first|refine wS ?_|refine wB ?_|refine wK ?_|(refine wC rfl ?_ ?_<;>(intro hb;(try simp only [nm] at hb);try (exfalso;omega)))|(refine rg 5 (dX rfl (qW T rfl (vV (aO rfl rfl) ?_))))|(refine bL (id := 7) 33 [[],[],[],[1,2],[1,2,3],[],rN 6,rN 7] (rM 20 8) [[],[20],[20,21],[20],[20],rM 20 5,[],[]] cC rfl (by decide +kernel) (dN rfl (dN rfl (dN rfl (dV rfl (ix T rfl (by omega) (kW _) hg) (dO T rfl (dO T rfl (dV rfl (kC (hc)) (dV rfl (aO rfl rfl) (dE ?_))))))))))|(refine iA 6 rfl rfl rfl (by omega) (by omega) ?_)|refine nZ ?_));all_goals try (exfalso;omega)
      all_goals exact ⟨⟨k + 1,hlt⟩,by dsimp only;omega,[0,1],rfl,by (repeat (first | exact trivial | refine ⟨rfl,?_⟩)),⟨.inr rfl,.inr (by dsimp only;rw [hs];rfl),trivial⟩,by decide,lH _⟩
  · obtain rfl : k = l.length := by omega
    rw [dQ];generalize l.foldl H1 f = m at *
    (repeat' (first|refine wS ?_|refine wR ?_|refine wE ?_|(refine wC rfl ?_ ?_<;>(intro hb;(try simp only [nm] at hb);try (exfalso;omega)))|(refine rg 5 (dX rfl (qW T rfl (vV (aO rfl rfl) ?_))))|(refine rg 9 (lW T rfl (aT T rfl rfl rfl rfl rfl rfl (by decide) rfl ?_)))|refine nZ ?_));all_goals first | (exfalso;omega) | exact ⟨.inl rfl,[],_,rfl,rfl,rfl,trivial,by decide,lH _⟩
theorem zO2 : CA Tryz.prog 84 1 = some (3,1) := by kernel_rfl
theorem KR (g : G) (hne : g.2 ≠ []) (hl : g.2.length ≤ 1000000) : aR Tryz.prog 103 [OV g] [] (.i (iJ g)) [] := by
  obtain ⟨b,ws⟩ := g;cases ws with
  | nil => exact absurd rfl hne
  | cons f l =>
    have hc := zH9 f l (by simp at hl;omega)
    show aR _ _ _ _ (.i (l.foldl (fun m x => if x.2.1 < m then x.2.1 else m) f.2.1)) []
    rw [← EZ];generalize l.foldl H1 f = m at *;refine bQ T Tryz.func103 rfl rfl rfl rfl ?_
    (repeat' (first|refine wS ?_|refine wR ?_|(refine rg 0 (bS (cE rfl rfl) rfl (aV ?_)))|(refine rg 1 (iL T rfl (vV (kC (hc)) (vV (by exact Z5 T rfl zO2 rfl rfl) ?_)));refine aV ?_)|refine nZ ?_));all_goals first | (exfalso;omega) | exact rQ
end Go.Proofs.YtmmkhmilpeodnaaGreat
