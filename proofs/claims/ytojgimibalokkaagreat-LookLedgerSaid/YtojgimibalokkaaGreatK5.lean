/-
  Texts of the logic and of the layer,in one module (part 5).
-/
import Derived.Test.YtojgimibalokkaaGreatK4
import Derived.Shelf.RegionOpenPlain
import Derived.Deep.LoopGhost
import Derived.Deep.RegionLaw
import Derived.Lib.Walk
import Derived.Lib.SlicesDelete
import Derived.Sort.WalkB12
import Derived.Shelf.Slices.Delete
import Derived.Ground.Names2Prog
set_option linter.unusedVariables false
set_option linter.unusedSimpArgs false
set_option linter.unnecessarySimpa false
namespace Go.Proofs.YtojgimibalokkaaGreat
open Go Go.Ab Go.Ld
attribute [local irreducible] VC AW cF aP
set_option maxHeartbeats 4000000
theorem zS6 (l:List W):(wsA l).flatten.all AV.one=true:=by
  induction l with
  | nil=>rfl
  | cons x l ih=>simp only [List.map_cons,eQ,List.all_append,ih];rfl
theorem bQ (l:List W):∀ e,e∈wsA l→AV.idfL e=true:=by
  intro e he;obtain ⟨x,_,rfl⟩:=bB.1 he;rfl
theorem lY:∀ i:Nat,i<1→([0]:List Nat)[i]? = some i:=by decide
abbrev qZ:AV:=.clo (.func 69) [] []
theorem JA (l:List W) (a b:Nat) (hab:a≤b) (hb:b≤l.length) (hl:l.length≤100000) (hw:∀ w,w∈l→K0 w) :
    aP Tryz.prog 124 [.sl 0 0 l.length 3,.i a,.i b,qZ] [.arr (wsA l) 3] (.tup []) [.arr (wsA (UP l a b)) 3]:=by
  rcases iR a b with hlt | hge
  · refine bL T Tryz.func124 rfl rfl rfl rfl ?_
    (repeat' (first|refine wS ?_|refine wB ?_|(refine iA 0 rfl rfl rfl (by omega) (by omega) ?_)|refine nZ ?_));refine cX (X:={i:Nat // a+1≤i∧i≤b}) (fun i=>[(0,.sl 0 0 l.length 3),(1,.i a),(2,.i b),(3,qZ),(8,.i i.1)]) (fun i=>[.arr (wsA (UP l a i.1)) 3]) (fun i=>b-i.1) ⟨a+1,by omega,by omega⟩ ⟨[0],rfl,by (repeat (first | exact trivial | refine ⟨rfl,?_⟩)),⟨.inr (aE rfl (by dsimp only;rw [zF4 (by omega)]) (bQ _)),trivial⟩,by decide,lY⟩ ?_
    rintro ⟨i,h1,h2⟩;dsimp only;by_cases hi:i<b
    · (repeat' (first|refine wS ?_|refine wB ?_|refine wK ?_|(refine wC rfl (fun hb=>?_) (fun hb=>?_) <;> (((try simp only [nm] at hb);try (exfalso;omega))))|(refine rg 1 (dR rfl (vV (aK rfl rfl) ?_)))|(refine rg 3 (mW rfl (aV ?_)))|(refine nZ ?_)));all_goals try (exfalso;omega)
      have hil:i<l.length:=by omega
      obtain ⟨x,hx⟩:∃ x,l[i]? = some x:=⟨_,aA hil⟩;obtain ⟨s1,s2⟩:=TF (a:=a) (by omega) hil hx
      refine cX (X:={q:List W × List W // zS4 l a i x q}) (fun q=>[(0,.sl 0 0 l.length 3),(1,.i a),(2,.i b),(3,qZ),(8,.i i),(9,.i ((a+q.1.1.length:Nat):Int))]) (fun q=>[.arr (wsA (vE l a i x q.1)) 3]) (fun q=>q.1.1.length) ⟨_,s1⟩ ⟨[0],rfl,⟨rfl,rfl,rfl,rfl,rfl,by dsimp only;rw [iT,bE,dK,show a+min (i-a) (l.length-a)=i by omega];rfl,trivial⟩,⟨.inr (aE rfl (by dsimp only;rw [s2]) (bQ _)),trivial⟩,by decide,lY⟩ ?_
      rintro ⟨⟨S1,S2⟩,hq⟩;dsimp only;have hln:=PK hq (by omega) hil
      dsimp only at hln;have hwx:K0 x:=hw x (aH hx);have hal:(l.take a).length=a:=by rw [bE];omega
      rcases List.eq_nil_or_concat S1 with rfl | ⟨S,y,rfl⟩
      · have ee:=XY hq (by omega) hil hx (fun y hy=>by cases hy)
        have hJ:((a+([]:List W).length:Nat):Int)=a:=by simp
        generalize ((a+([]:List W).length:Nat):Int)=J at *;generalize vE l a i x ([],S2)=L at *
        (repeat' (first|refine wS ?_|refine wE ?_|refine wU ?_|(refine bO (id:=4) 53 yL8 (rM 18 17) yL9 cK rfl (by decide +kernel) (dN rfl (dN rfl (dV rfl (I5 rfl rfl (by omega)) (dN rfl (tG rfl (tG rfl (tG rfl (tG rfl (dG ?_)))))))));refine tG rfl (tG rfl (tG rfl (tG rfl (tG rfl (tG rfl (tG rfl (dV rfl (oU rfl rfl) (dE ?_)))))))))|(refine iA 2 rfl rfl rfl (by omega) (by omega) ?_)|refine nZ ?_));all_goals first | (exfalso;omega) | exact ⟨⟨i+1,by omega,by omega⟩,by dsimp only;omega,⟨[0],rfl,by (repeat (first | exact trivial | refine ⟨rfl,?_⟩)),⟨.inr (aE rfl (by dsimp only;rw [ee]) (bQ _)),trivial⟩,by decide,lY⟩⟩
      · rw [List.concat_eq_append] at *;have hy:y∈l:=by
          have h3:y∈eH eR ((l.drop a).take (i-a)):=by rw [← hq.eq];simp
          exact eX (eK ((dZ _ _).mem_iff.1 h3))
        have hc:=wN x y hwx (hw y hy);have hL:vE l a i x (S++[y],S2)=(l.take a++S)++y::x::(S2++l.drop (i+1)):=by unfold vE;simp
        have hJ:((a+(S++[y]).length:Nat):Int)=((a+S.length+1:Nat):Int):=by simp;omega
        have hAl:a+S.length=(l.take a++S).length:=by rw [aF,hal]
        have hlen:=YB hq (by omega) hil
        by_cases h0:eR x y<0
        · have ee:=XZ hq rfl h0;have q1:=pF (L:=vE l a i x (S++[y],S2)) (j:=((a+(S++[y]).length:Nat):Int)) (i:=a+S.length+1) (x:=x) (by rw [hL,show (l.take a++S)++y::x::(S2++l.drop (i+1))=((l.take a++S)++[y])++x::(S2++l.drop (i+1)) by simp];exact nU _ _ _ (by simp;omega)) hJ
          have q2:=pF (L:=vE l a i x (S++[y],S2)) (j:=((a+(S++[y]).length:Nat):Int)-1) (i:=a+S.length) (x:=y) (by rw [hL];exact nU _ _ _ hAl) (by omega)
          have t1:=vZ (L:=vE l a i x (S++[y],S2)) (j:=((a+(S++[y]).length:Nat):Int)) (i:=a+S.length+1) (x:=y) hJ;have e1:(vE l a i x (S++[y],S2)).set (a+S.length+1) y=(l.take a++S)++y::y::(S2++l.drop (i+1)):=by
            rw [hL,show (l.take a++S)++y::x::(S2++l.drop (i+1))=((l.take a++S)++[y])++x::(S2++l.drop (i+1)) by simp,oB _ _ _ _ (by simp;omega)];simp
          rw [e1] at t1;have q3:=pF (L:=(l.take a++S)++y::y::(S2++l.drop (i+1))) (j:=((a+(S++[y]).length:Nat):Int)-1) (i:=a+S.length) (x:=y) (nU _ _ _ hAl) (by omega)
          have t2:=vZ (L:=(l.take a++S)++y::y::(S2++l.drop (i+1))) (j:=((a+(S++[y]).length:Nat):Int)-1) (i:=a+S.length) (x:=x) (by omega)
          rw [oB _ _ _ _ hAl,show (l.take a++S)++x::y::(S2++l.drop (i+1))=vE l a i x (S,y::S2) by unfold vE;simp,← t1] at t2
          rw [← t1] at q3;have hJ2:((a+(S++[y]).length:Nat):Int)-1=((a+S.length:Nat):Int):=by omega
          have hJ3:((a+(S++[y]).length:Nat):Int)<l.length:=by omega
          have hJ4:(a:Int)<((a+(S++[y]).length:Nat):Int):=by omega
          clear hJ hL;generalize ((a+(S++[y]).length:Nat):Int)=J at *;generalize eR x y=z at *;generalize vE l a i x (S++[y],S2)=L at *
          (repeat' (first|refine wS ?_|refine wB ?_|refine wK ?_|(refine wC rfl ?_ ?_<;>(intro hb;(try simp only [nm] at hb);try (exfalso;omega)))|(refine bO (id:=4) 53 yL8 (rM 18 17) yL9 cK rfl (by decide +kernel) (dN rfl (dN rfl (dV rfl (dX rfl rfl) (dM ?_))));refine J0 rfl rfl rfl rfl ?_ ?_<;>(intro hb;rw [hb];(try simp only [nm] at hb);try (exfalso;omega))<;>(refine tM ?_);(all_goals (refine tN rfl (tN rfl (dT rfl (by exact aQ T rfl rfl rfl rfl rfl (by omega) (by omega)) ?_));refine dT rfl (by exact bD T rfl rfl (bV rfl q1) rfl) ?_;refine tN rfl (tN rfl (dT rfl (cH rfl rfl (by omega) (by omega)) (dT rfl (by exact aQ T rfl rfl rfl rfl rfl (by omega) (by omega)) ?_)));refine dT rfl (by exact bD T rfl rfl (bV rfl q2) rfl) ?_;refine dT rfl (kC (hc)) (dT rfl (aK rfl rfl) (dV rfl (mF rfl rfl) (dE ?_))))))|(refine oD (id:=6) 53 yM0 (rM 37 15) yM1 [(15,0)] cK rfl (by decide +kernel) (dB rfl rfl rfl rfl (by exact cP rfl) ?_);refine dB rfl rfl rfl rfl (by exact cP rfl) ?_;refine dB rfl rfl rfl rfl (by exact cP rfl) ?_;refine dB rfl rfl rfl rfl (by exact cP rfl) ?_;refine dB rfl rfl rfl rfl (by exact cH rfl rfl (by omega) (by omega)) ?_;refine dB rfl rfl rfl rfl (by exact cP rfl) ?_;refine dB rfl rfl rfl rfl (by exact cP rfl) ?_;refine dB rfl rfl rfl rfl (by exact cH rfl rfl (by omega) (by omega)) ?_;refine dB rfl rfl rfl rfl (by exact aQ T rfl rfl rfl rfl rfl (by omega) (by omega)) ?_;refine dB rfl rfl rfl rfl (by exact bD T rfl rfl (bV rfl q2) rfl) ?_;refine dB rfl rfl rfl rfl (by exact cP rfl) ?_;refine dB rfl rfl rfl rfl (by exact cP rfl) ?_;refine dB rfl rfl rfl rfl (by exact aQ T rfl rfl rfl rfl rfl (by omega) (by omega)) ?_;refine dB rfl rfl rfl rfl (by exact bD T rfl rfl (bV rfl q1) rfl) ?_;refine dB rfl rfl rfl rfl (by exact aQ T rfl rfl rfl rfl rfl (by omega) (by omega)) ?_;refine xC rfl rfl rfl rfl (aS rfl) T rfl rfl rfl rfl rfl rfl (by decide) (wG rfl q1 rfl) ?_;refine rP rfl rfl rfl (by exact rfl) ?_;refine vV (by exact aQ T rfl rfl rfl rfl rfl (by omega) (by omega)) ?_;refine aU T rfl rfl rfl rfl rfl rfl (by decide) (lQ rfl q3 rfl) ?_)|(refine rg 5 (mW rfl (vV (cH rfl rfl (by omega) (by omega)) (aV ?_))))|refine nZ ?_));all_goals first | (exfalso;omega) | exact ⟨⟨_,ee⟩,by dsimp only;simp,⟨[0],rfl,⟨rfl,rfl,rfl,rfl,rfl,by dsimp only;rw [← hJ2];try rfl,trivial⟩,⟨.inr (aE rfl (by dsimp only;rw [← t2];try rfl) (bQ _)),trivial⟩,by decide,lY⟩⟩
        · have ee:=XY hq (by omega) hil hx (zK9 hq rfl h0)
          have q1:=pF (L:=vE l a i x (S++[y],S2)) (j:=((a+(S++[y]).length:Nat):Int)) (i:=a+S.length+1) (x:=x) (by rw [hL,show (l.take a++S)++y::x::(S2++l.drop (i+1))=((l.take a++S)++[y])++x::(S2++l.drop (i+1)) by simp];exact nU _ _ _ (by simp;omega)) hJ
          have q2:=pF (L:=vE l a i x (S++[y],S2)) (j:=((a+(S++[y]).length:Nat):Int)-1) (i:=a+S.length) (x:=y) (by rw [hL];exact nU _ _ _ hAl) (by omega)
          have hJ3:((a+(S++[y]).length:Nat):Int)<l.length:=by omega
          have hJ4:(a:Int)<((a+(S++[y]).length:Nat):Int):=by omega
          clear hJ hL;generalize ((a+(S++[y]).length:Nat):Int)=J at *;generalize eR x y=z at *;generalize vE l a i x (S++[y],S2)=L at *
          (repeat' (first|refine wS ?_|refine wE ?_|(refine wC rfl ?_ ?_<;>(intro hb;(try simp only [nm] at hb);try (exfalso;omega)))|(refine bO (id:=4) 53 yL8 (rM 18 17) yL9 cK rfl (by decide +kernel) (dN rfl (dN rfl (dV rfl (dX rfl rfl) (dM ?_))));refine J0 rfl rfl rfl rfl ?_ ?_<;>(intro hb;rw [hb];(try simp only [nm] at hb);try (exfalso;omega))<;>(refine tM ?_);(all_goals (refine tN rfl (tN rfl (dT rfl (by exact aQ T rfl rfl rfl rfl rfl (by omega) (by omega)) ?_));refine dT rfl (by exact bD T rfl rfl (bV rfl q1) rfl) ?_;refine tN rfl (tN rfl (dT rfl (cH rfl rfl (by omega) (by omega)) (dT rfl (by exact aQ T rfl rfl rfl rfl rfl (by omega) (by omega)) ?_)));refine dT rfl (by exact bD T rfl rfl (bV rfl q2) rfl) ?_;refine dT rfl (kC (hc)) (dT rfl (aK rfl rfl) (dV rfl (mF rfl rfl) (dE ?_))))))|(refine iA 2 rfl rfl rfl (by omega) (by omega) ?_)|refine nZ ?_));all_goals first | (exfalso;omega) | exact ⟨⟨i+1,by omega,by omega⟩,by dsimp only;omega,⟨[0],rfl,by (repeat (first | exact trivial | refine ⟨rfl,?_⟩)),⟨.inr (aE rfl (by dsimp only;rw [ee]) (bQ _)),trivial⟩,by decide,lY⟩⟩
    · obtain rfl:i=b:=by omega
      (repeat' (first|refine wS ?_|refine wE ?_|(refine wC rfl ?_ ?_<;>(intro hb;(try simp only [nm] at hb);try (exfalso;omega)))|(refine rg 1 (dR rfl (vV (aK rfl rfl) ?_)))|refine nZ ?_));all_goals first | (exfalso;omega) | exact ⟨.inl rfl,[0],_,rfl,rfl,rfl,⟨.inr (aE rfl rfl (bQ _)),trivial⟩,by decide,lY⟩ | exact ⟨.inr rfl,[0],_,rfl,rfl,rfl,⟨.inr (aE rfl rfl (bQ _)),trivial⟩,by decide,lY⟩
  · obtain rfl:a=b:=by omega
    rw [VR hb];refine bL T Tryz.func124 rfl rfl rfl rfl ?_
    (repeat' (first|refine wS ?_|refine wB ?_|(refine iA 0 rfl rfl rfl (by omega) (by omega) ?_)|refine nZ ?_));refine cX (X:=Unit) (fun _=>[(0,.sl 0 0 l.length 3),(1,.i a),(2,.i a),(3,qZ),(8,.i ((a:Int)+1))]) (fun _=>[.arr (wsA l) 3]) (fun _=>0) () ⟨[0],rfl,by (repeat (first | exact trivial | refine ⟨rfl,?_⟩)),⟨.inr (aE rfl rfl (bQ _)),trivial⟩,by decide,lY⟩ ?_
    intro _;dsimp only
    (repeat' (first|refine wS ?_|refine wE ?_|(refine wC rfl ?_ ?_<;>(intro hb;(try simp only [nm] at hb);try (exfalso;omega)))|(refine rg 1 (dR rfl (vV (aK rfl rfl) ?_)))|refine nZ ?_));all_goals first | (exfalso;omega) | exact ⟨.inl rfl,[0],_,rfl,rfl,rfl,⟨.inr (aE rfl rfl (bQ _)),trivial⟩,by decide,lY⟩ | exact ⟨.inr rfl,[0],_,rfl,rfl,rfl,⟨.inr (aE rfl rfl (bQ _)),trivial⟩,by decide,lY⟩
end Go.Proofs.YtojgimibalokkaaGreat
namespace Go.Ld
open Go.Ab Go.Proofs.YtojgimibalokkaaGreat
def HL (P X Q Y R:List W) (k:Nat):List W:=P++((Y.take k++X.drop k)++(Q++((X.take k++Y.drop k)++R)))
theorem yC7 (P X Q Y R:List W):HL P X Q Y R 0=P++(X++(Q++(Y++R))):=by simp [HL]
theorem yC6 {P X Q Y R:List W}{n:Nat}(h1:X.length=n) (h2:Y.length=n):HL P X Q Y R n=P++(Y++(Q++(X++R))):=by
  unfold HL;rw [cD (by omega),cD (by omega),dC (by omega),dC (by omega)];simp
theorem yH3 {X1 X2:List W}{x:W}{k:Nat}(h:X1.length=k):(X1++x::X2).take k=X1∧(X1++x::X2).drop k=x::X2∧(X1++x::X2).take (k+1)=X1++[x]∧(X1++x::X2).drop (k+1)=X2:=by
  subst h;refine ⟨vQ,vS,?_,?_⟩
  · rw [show X1++x::X2=(X1++[x])++X2 by simp,show X1.length+1=(X1++[x]).length by simp,vQ]
  · rw [show X1++x::X2=(X1++[x])++X2 by simp,show X1.length+1=(X1++[x]).length by simp,vS]
theorem LQ {X:List W}{k:Nat}(h:k<X.length):∃ X1 x X2,X=X1++x::X2∧X1.length=k:=⟨X.take k,X[k],X.drop (k+1),by simp,by simp;omega⟩
theorem VL {P X Q Y R:List W}{n k:Nat}(h1:X.length=n) (h2:Y.length=n) (hk:k<n):∃ x y,x∈X∧y∈Y∧(HL P X Q Y R k)[P.length+k]? = some x∧(HL P X Q Y R k)[P.length+n+Q.length+k]? = some y ∧
    ((HL P X Q Y R k).set (P.length+k) y)[P.length+n+Q.length+k]? = some y∧((HL P X Q Y R k).set (P.length+k) y).set (P.length+n+Q.length+k) x=HL P X Q Y R (k+1):=by
  obtain ⟨X1,x,X2,rfl,hx⟩:=LQ (show k<X.length by omega)
  obtain ⟨Y1,y,Y2,rfl,hy⟩:=LQ (show k<Y.length by omega)
  obtain ⟨a1,a2,a3,a4⟩:=yH3 (x:=x) (X2:=X2) hx;obtain ⟨b1,b2,b3,b4⟩:=yH3 (x:=y) (X2:=Y2) hy;simp only [aF,List.length_cons] at h1 h2;have e:HL P (X1++x::X2) Q (Y1++y::Y2) R k=(P++Y1)++x::(X2++(Q++(X1++y::(Y2++R)))):=by
    unfold HL;rw [a1,a2,b1,b2];simp
  have e1:(HL P (X1++x::X2) Q (Y1++y::Y2) R k).set (P.length+k) y=((P++Y1)++y::(X2++(Q++X1)))++y::(Y2++R):=by
    rw [e,oB _ _ _ _ (by simp;omega)];simp
  have l1:P.length+n+Q.length+k=((P++Y1)++y::(X2++(Q++X1))).length:=by
    simp only [aF,List.length_cons];omega
  refine ⟨x,y,by simp,by simp,?_,?_,?_,?_⟩
  · rw [e];exact nU _ _ _ (by simp;omega)
  · rw [e,show (P++Y1)++x::(X2++(Q++(X1++y::(Y2++R))))=((P++Y1)++x::(X2++(Q++X1)))++y::(Y2++R) by simp]
    exact nU _ _ _ (by simp only [aF,List.length_cons];omega)
  · rw [e1];exact nU _ _ _ l1
  · rw [e1,oB _ _ _ _ l1];unfold HL;rw [a3,a4,b3,b4];simp
end Go.Ld
namespace Go.Proofs.YtojgimibalokkaaGreat
open Go Go.Ab Go.Ld
attribute [local irreducible] VC AW cF aP
set_option maxHeartbeats 4000000
theorem EQ (P X Q Y R:List W){n a b N:Nat}(h1:X.length=n) (h2:Y.length=n) (ha:a=P.length) (hb:b=P.length+n+Q.length) (hN:N=P.length+(n+(Q.length+(n+R.length)))) (hl:N≤100000) :
    aP Tryz.prog 154 [.sl 0 0 N 3,.i a,.i b,.i n,qZ] [.arr (wsA (P++(X++(Q++(Y++R))))) 3] (.tup []) [.arr (wsA (P++(Y++(Q++(X++R))))) 3]:=by
  refine bL T Tryz.func154 rfl rfl rfl rfl ?_
  (repeat' (first|refine wS ?_|refine wB ?_|(refine rg 0 (aV ?_))|refine nZ ?_));refine cX (X:={k:Nat // k≤n}) (fun k=>[(0,.sl 0 0 N 3),(1,.i a),(2,.i b),(3,.i n),(4,qZ),(10,.i k.1)]) (fun k=>[.arr (wsA (HL P X Q Y R k.1)) 3]) (fun k=>n-k.1) ⟨0,by omega⟩ ⟨[0],rfl,by (repeat (first | exact trivial | refine ⟨rfl,?_⟩)),⟨.inr (aE rfl (by dsimp only;rw [yC7]) (bQ _)),trivial⟩,by decide,lY⟩ ?_
  rintro ⟨k,hk⟩;dsimp only;by_cases hlt:k<n
  · obtain ⟨x,y,_,_,p1,p2,p3,p4⟩:=VL (P:=P) (Q:=Q) (R:=R) h1 h2 hlt;have q1:=pF (j:=(a:Int)+(k:Int)) p1 (by omega)
    have q2:=pF (j:=(b:Int)+(k:Int)) p2 (by omega)
    have t1:=vZ (L:=HL P X Q Y R k) (j:=(a:Int)+(k:Int)) (i:=P.length+k) (x:=y) (by omega)
    have q3:=pF (j:=(b:Int)+(k:Int)) p3 (by omega)
    have t2:=vZ (L:=(HL P X Q Y R k).set (P.length+k) y) (j:=(b:Int)+(k:Int)) (i:=P.length+n+Q.length+k) (x:=x) (by omega)
    rw [← t1] at q3 t2;rw [p4] at t2;clear p1 p2 p3 p4 t1;generalize HL P X Q Y R k=L at *
    (repeat' (first|refine wS ?_|refine wB ?_|refine wK ?_|(refine wC rfl ?_ ?_<;>(intro hb;(try simp only [nm] at hb);try (exfalso;omega)))|(refine rg 1 (dR rfl (vV (aK rfl rfl) ?_)))|(refine oD (id:=3) 38 [[],[],[],[1,2],[],[],[],[5,6],[],[],[],[9,10],rM 8 4,rM 8 5,[],[],[],[15,16],rM 14 4,rM 14 5,[0,1,2,3,8,9,10,11,12,13,14,15,16,17,18,19],[0,1,2,3,8,9,10,11,12,13,14,15,16,17,18,19,20]] (rM 16 21) [[],[16],[16,17],[16],rM 16 4,rM 16 5,rM 16 6,rM 16 5,rM 16 8,rM 16 9,rM 16 10,rM 16 9,rM 16 8,rM 16 8,rM 16 14,rM 16 15,rM 16 16,rM 16 15,rM 16 14,rM 16 14,rM 20 4,rM 20 4] [(21,0)] cK rfl (by decide +kernel) (dB rfl rfl rfl rfl (by exact cP rfl) ?_);refine dB rfl rfl rfl rfl (by exact cP rfl) ?_;refine dB rfl rfl rfl rfl (by exact cP rfl) ?_;refine dB rfl rfl rfl rfl (by exact bP rfl rfl (by omega) (by omega)) ?_;refine dB rfl rfl rfl rfl (by exact cP rfl) ?_;refine dB rfl rfl rfl rfl (by exact cP rfl) ?_;refine dB rfl rfl rfl rfl (by exact cP rfl) ?_;refine dB rfl rfl rfl rfl (by exact bP rfl rfl (by omega) (by omega)) ?_;refine dB rfl rfl rfl rfl (by exact cP rfl) ?_;refine dB rfl rfl rfl rfl (by exact cP rfl) ?_;refine dB rfl rfl rfl rfl (by exact cP rfl) ?_;refine dB rfl rfl rfl rfl (by exact bP rfl rfl (by omega) (by omega)) ?_;refine dB rfl rfl rfl rfl (by exact aQ T rfl rfl rfl rfl rfl (by omega) (by omega)) ?_;refine dB rfl rfl rfl rfl (by exact bD T rfl rfl (bV rfl q2) rfl) ?_;refine dB rfl rfl rfl rfl (by exact cP rfl) ?_;refine dB rfl rfl rfl rfl (by exact cP rfl) ?_;refine dB rfl rfl rfl rfl (by exact cP rfl) ?_;refine dB rfl rfl rfl rfl (by exact bP rfl rfl (by omega) (by omega)) ?_;refine dB rfl rfl rfl rfl (by exact aQ T rfl rfl rfl rfl rfl (by omega) (by omega)) ?_;refine dB rfl rfl rfl rfl (by exact bD T rfl rfl (bV rfl q1) rfl) ?_;refine dB rfl rfl rfl rfl (by exact aQ T rfl rfl rfl rfl rfl (by omega) (by omega)) ?_;refine xC rfl rfl rfl rfl (aS rfl) T rfl rfl rfl rfl rfl rfl (by decide) (wG rfl q1 rfl) ?_;refine rP rfl rfl rfl (by exact rfl) ?_;refine vV (by exact aQ T rfl rfl rfl rfl rfl (by omega) (by omega)) ?_;refine aU T rfl rfl rfl rfl rfl rfl (by decide) (lQ rfl q3 rfl) ?_)|(refine iA 2 rfl rfl rfl (by omega) (by omega) ?_)|refine nZ ?_));all_goals first | (exfalso;omega) | exact ⟨⟨k+1,by omega⟩,by dsimp only;omega,⟨[0],rfl,by (repeat (first | exact trivial | refine ⟨rfl,?_⟩)),⟨.inr (aE rfl (by dsimp only;rw [← t2];try rfl) (bQ _)),trivial⟩,by decide,lY⟩⟩
  · obtain rfl:k=n:=by omega
    have e:=yC6 (P:=P) (Q:=Q) (R:=R) h1 h2
    (repeat' (first|refine wS ?_|refine wE ?_|(refine wC rfl ?_ ?_<;>(intro hb;(try simp only [nm] at hb);try (exfalso;omega)))|(refine rg 1 (dR rfl (vV (aK rfl rfl) ?_)))|refine nZ ?_));all_goals first | (exfalso;omega) | exact ⟨.inl rfl,[0],_,rfl,rfl,rfl,⟨.inr (aE rfl (by rw [e]) (bQ _)),trivial⟩,by decide,lY⟩ | exact ⟨.inr rfl,[0],_,rfl,rfl,rfl,⟨.inr (aE rfl (by rw [e]) (bQ _)),trivial⟩,by decide,lY⟩
theorem WC (P X Y R:List W){a m b N:Nat}(ha:a=P.length) (hm:m=P.length+X.length) (hb:b=P.length+X.length+Y.length) (hN:N=b+R.length) (hl:N≤100000) (hX:0<X.length) (hY:0<Y.length) :
    aP Tryz.prog 145 [.sl 0 0 N 3,.i a,.i m,.i b,qZ] [.arr (wsA (P++(X++(Y++R)))) 3] (.tup []) [.arr (wsA (P++(Y++(X++R)))) 3]:=by
  refine bL T Tryz.func145 rfl rfl rfl rfl ?_
  (repeat' (first|refine wS ?_|refine wB ?_|(refine rg 0 (dR rfl (vV (cH rfl rfl (by omega) (by omega)) (aV ?_))))|(refine rg 1 (dR rfl (vV (cH rfl rfl (by omega) (by omega)) (aV ?_))))|refine nZ ?_));refine cX (X:={q:List W × List W × List W × List W // q.1++(q.2.2.1++(q.2.1++q.2.2.2))=P++(Y++(X++R))∧q.1.length+q.2.1.length=m∧m+q.2.2.1.length+q.2.2.2.length=N∧0<q.2.1.length∧0<q.2.2.1.length})
    (fun q=>[(0,.sl 0 0 N 3),(1,.i a),(2,.i m),(3,.i b),(4,qZ),(10,.i q.1.2.1.length),(11,.i q.1.2.2.1.length)]) (fun q=>[.arr (wsA (q.1.1++(q.1.2.1++(q.1.2.2.1++q.1.2.2.2)))) 3]) (fun q=>q.1.2.1.length+q.1.2.2.1.length) ⟨(P,X,Y,R),by dsimp only;exact ⟨rfl,by omega,by omega,hX,hY⟩⟩
    ⟨[0],rfl,⟨rfl,rfl,rfl,rfl,rfl,by dsimp only;rw [show (X.length:Int)=(m:Int)-(a:Int) by omega];rfl,by dsimp only;rw [show (Y.length:Int)=(b:Int)-(m:Int) by omega];rfl,trivial⟩,⟨.inr (aE rfl rfl (bQ _)),trivial⟩,by decide,lY⟩ ?_
  rintro ⟨⟨P1,X1,Y1,R1⟩,h1,h2,h3,h4,h5⟩;dsimp only at h1 h2 h3 h4 h5 ⊢;have hsb:((P1.length:Nat):Int)=(m:Int)-(X1.length:Int):=by omega
  by_cases hij:X1.length=Y1.length
  · have hc:=EQ P1 X1 [] Y1 R1 (n:=X1.length) (a:=P1.length) (b:=m) (N:=N) rfl hij.symm rfl (by simp;omega) (by simp;omega) hl
    rw [List.nil_append,List.nil_append,hsb,h1] at hc
    (repeat' (first|refine wS ?_|refine wE ?_|refine wU ?_|(refine rg 2 (dR rfl (vV (I3 rfl rfl (by omega)) ?_)))|(refine rg 8 (dR rfl (mW rfl (vV (cH rfl rfl (by omega) (by omega)) (dR rfl (mW rfl (fO [0] rfl rfl (hc) rfl rfl (by decide) ⟨.inr (aE rfl rfl (bQ _)),trivial⟩ (by simp) rfl ?_)))))))|refine nZ ?_));all_goals first | (exfalso;omega) | exact ⟨.inl rfl,[0],_,rfl,rfl,rfl,⟨.inr (aE rfl (dA _ (bQ _)) (bQ _)),trivial⟩,by decide,lY⟩ | exact ⟨.inr rfl,[0],_,rfl,rfl,rfl,⟨.inr (aE rfl (dA _ (bQ _)) (bQ _)),trivial⟩,by decide,lY⟩
  · by_cases hgt:Y1.length<X1.length
    · -- a part of the left side goes to the end
      obtain ⟨A,B,rfl,hA⟩:∃ A B,X1=A++B∧A.length=Y1.length:=⟨X1.take Y1.length,X1.drop Y1.length,by simp,by simp;omega⟩
      rw [aF] at *;have hc:=EQ P1 A B Y1 R1 (n:=Y1.length) (a:=P1.length) (b:=m) (N:=N) hA rfl rfl (by omega) (by omega) hl
      rw [hsb] at hc;rw [bU]
      (repeat' (first|refine wS ?_|refine wB ?_|refine wK ?_|refine wT ?_|(refine rg 2 (dR rfl (vV (T8 rfl rfl (by omega)) ?_)))|(refine rg 3 (dR rfl (vV (PV rfl rfl (by omega)) ?_)))|(refine rg 4 (dR rfl (mW rfl (vV (cH rfl rfl (by omega) (by omega)) (dR rfl (mW rfl (fO [0] rfl rfl (hc) rfl rfl (by decide) ⟨.inr (aE rfl rfl (bQ _)),trivial⟩ (by simp) rfl ?_)))))))|(refine rg 5 (dR rfl (vV (cH rfl rfl (by omega) (by omega)) (aV ?_))))|refine nZ ?_));all_goals first | (exfalso;omega) | skip
      refine ⟨⟨(P1++Y1,B,A,R1),by dsimp only;refine ⟨by rw [← h1];simp,?_,?_,?_,?_⟩ <;> (try simp only [aF]) <;> omega⟩,by dsimp only;omega,⟨[0],rfl,⟨rfl,rfl,rfl,rfl,rfl,by dsimp only;rw [show (B.length:Int)=((A.length+B.length:Nat):Int)-(Y1.length:Int) by omega];rfl,by dsimp only;rw [hA];rfl,trivial⟩,⟨.inr (aE rfl (by rw [dA _ (bQ _)];simp) (bQ _)),trivial⟩,by decide,lY⟩⟩
    · -- a part of the right side goes to the front
      obtain ⟨A,B,rfl,hA⟩:∃ A B,Y1=A++B∧B.length=X1.length:=⟨Y1.take (Y1.length-X1.length),Y1.drop (Y1.length-X1.length),by simp,by simp;omega⟩
      rw [aF] at *;have hc:=EQ P1 X1 A B R1 (n:=X1.length) (a:=P1.length) (b:=m+A.length) (N:=N) rfl hA rfl (by omega) (by omega) hl
      rw [hsb,show ((m+A.length:Nat):Int)=(m:Int)+((A.length+B.length:Nat):Int)-(X1.length:Int) by omega] at hc
      rw [bU]
      (repeat' (first|refine wS ?_|refine wB ?_|refine wK ?_|refine wT ?_|refine wU ?_|(refine rg 2 (dR rfl (vV (T8 rfl rfl (by omega)) ?_)))|(refine rg 3 (dR rfl (vV (I5 rfl rfl (by omega)) ?_)))|(refine rg 6 (dR rfl (mW rfl (vV (cH rfl rfl (by omega) (by omega)) (dR rfl (vV (bP rfl rfl (by omega) (by omega)) (mW rfl (vV (cH rfl rfl (by omega) (by omega)) (dR rfl (fO [0] rfl rfl (hc) rfl rfl (by decide) ⟨.inr (aE rfl rfl (bQ _)),trivial⟩ (by simp) rfl ?_))))))))))|(refine rg 7 (dR rfl (vV (cH rfl rfl (by omega) (by omega)) (aV ?_))))|refine nZ ?_));all_goals first | (exfalso;omega) | skip
      refine ⟨⟨(P1,B,A,X1++R1),by dsimp only;refine ⟨by rw [← h1];simp,?_,?_,?_,?_⟩ <;> (try simp only [aF]) <;> omega⟩,by dsimp only;omega,⟨[0],rfl,⟨rfl,rfl,rfl,rfl,rfl,by dsimp only;rw [hA];rfl,by dsimp only;rw [show (A.length:Int)=((A.length+B.length:Nat):Int)-(X1.length:Int) by omega];rfl,trivial⟩,⟨.inr (aE rfl (by rw [dA _ (bQ _)]) (bQ _)),trivial⟩,by decide,lY⟩⟩
end Go.Proofs.YtojgimibalokkaaGreat
namespace Go.Ld
open Go.Ab Go.Proofs.YtojgimibalokkaaGreat
theorem RM {V:List W}{i:Nat}{z:W}(h0:0<i) (h:V[i-1]? = some z):V.take i=V.take (i-1)++[z]:=by
  conv=>lhs;rw [show i=(i-1)+1 by omega]
  rw [zC6,h];rfl
theorem zN8 {V:List W}{i:Nat}{z:W}(h:V[i]? = some z):V.drop i=z::V.drop (i+1):=by
  obtain ⟨hi,e⟩:=aB.1 h;rw [bC hi,e]
theorem NY {V:List W}{i:Nat}(hu:Up V){x y z:W}(h0:0<i) (h:V[i-1]? = some z) (hy:y∈V.take i) (hz:eR z x≤0):eR y x≤0:=by
  have h1:Up (V.take i):=hu.sublist (List.take_sublist _ _);rw [RM h0 h] at h1 hy;exact jD.le_tr (NZ h1 y hy) hz
theorem OA {V:List W}{i:Nat}(hu:Up V){x y z:W}(h:V[i]? = some z) (hy:y∈V.drop i) (hz:eR x z≤0):eR x y≤0:=by
  have h1:Up (V.drop i):=hu.sublist (List.drop_sublist _ _);rw [zN8 h] at h1 hy;exact jD.le_tr hz (zE2 h1 y hy)
theorem rK {V:List W}{i:Nat}{y:W}(h:y∈V.take i) (hi:i≤V.length):0<i∧∃ z,V[i-1]? = some z:=by
  have:0<i:=by
    rcases K4 i with rfl | h0
    · simp at h
    · exact h0
  exact ⟨this,_,aA (by omega)⟩
theorem tT {V:List W}{i:Nat}{y:W}(h:y∈V.drop i):∃ z,V[i]? = some z:=by
  have:i<V.length:=by
    rcases iR i V.length with h0 | h0
    · exact h0
    · rw [dC h0] at h;cases h
  exact ⟨_,aA this⟩
theorem zW2 {u:W}{V:List W}{i:Nat}(hi:i≤V.length) (hu:Up V) (h1:∀ z,0<i→V[i-1]? = some z→eR z u<0) (h2:∀ z,V[i]? = some z→¬ eR z u<0):eH eR ([u]++V)=V.take i++u::V.drop i:=by
  refine G7 ?_ (LM (by rw [bX];exact hu) (fun y hy=>?_) (fun y hy=>?_))
  · refine List.perm_middle.trans ?_;rw [bX];exact .refl _
  · obtain ⟨h0,z,hz⟩:=rK hy hi;exact NY hu h0 hz hy (B5 (h1 z h0 hz))
  · obtain ⟨z,hz⟩:=tT hy;exact OA hu hz hy (yG6 (h2 z hz))
theorem zW1 {v:W}{U:List W}{i:Nat}(hi:i≤U.length) (hu:Up U) (h1:∀ z,0<i→U[i-1]? = some z→¬ eR v z<0) (h2:∀ z,U[i]? = some z→eR v z<0):eH eR (U++[v])=U.take i++v::U.drop i:=by
  refine G7 ?_ (LM (by rw [bX];exact hu) (fun y hy=>?_) (fun y hy=>?_))
  · refine List.perm_middle.trans ?_;rw [bX];exact (K5 _ _).symm
  · obtain ⟨h0,z,hz⟩:=rK hy hi;exact NY hu h0 hz hy (yG6 (h1 z h0 hz))
  · obtain ⟨z,hz⟩:=tT hy;exact OA hu hz hy (B5 (h2 z hz))
theorem yF8 {U V:List W}{i e:Nat}(hU:Up U) (hV:Up V) (hi:i≤U.length) (he:e≤V.length) (h1:∀ x y,0<i→U[i-1]? = some x→V[e]? = some y→¬ eR y x<0) (h2:∀ x y,0<e→U[i]? = some x→V[e-1]? = some y→eR y x<0) :
    eH eR (U++V)=eH eR (U.take i++V.take e)++eH eR (U.drop i++V.drop e):=by
  have hU1:Up (U.take i++U.drop i):=by rw [bX];exact hU
  have hV1:Up (V.take e++V.drop e):=by rw [bX];exact hV
  have cU:=(eW.1 hU1).2.2;have cV:=(eW.1 hV1).2.2;refine G7 ?_ (zT6 (lG jD _) (lG jD _) fun x y hx hy=>?_)
  · refine ((dZ _ _).append (dZ _ _)).trans ?_;have e1:(U.take i++V.take e++(U.drop i++V.drop e)).Perm (U.take i++U.drop i++(V.take e++V.drop e)):=by
      rw [bU,bU];refine List.Perm.append_left _ ?_;rw [← bU,← bU];exact List.perm_append_comm.append_right _
    rw [bX,bX] at e1;exact e1
  · have hx:=(dZ _ _).mem_iff.1 hx;have hy:=(dZ _ _).mem_iff.1 hy;rcases bG.1 hx with hx | hx <;> rcases bG.1 hy with hy | hy
    · exact cU x hx y hy
    · obtain ⟨h0,z,hz⟩:=rK hx hi;obtain ⟨q,hq⟩:=tT hy;exact OA hV hq hy (NY hU h0 hz hx (yG6 (h1 z q h0 hz hq)))
    · obtain ⟨h0,z,hz⟩:=rK hx he;obtain ⟨q,hq⟩:=tT hy;exact OA hU hq hy (NY hV h0 hz hx (B5 (h2 q z h0 hq hz)))
    · exact cV x hx y hy
def K7 (P V:List W) (u:W) (R:List W) (k:Nat):List W:=(P++V.take k)++u::(V.drop k++R)
theorem HH {P V:List W}{u:W}{R:List W}{k:Nat}(h:k<V.length):∃ y,(K7 P V u R k)[P.length+k]? = some u∧(K7 P V u R k)[P.length+k+1]? = some y ∧
    ((K7 P V u R k).set (P.length+k) y)[P.length+k+1]? = some y∧((K7 P V u R k).set (P.length+k) y).set (P.length+k+1) u=K7 P V u R (k+1) ∧
    (K7 P V u R (k+1))[P.length+k+1]? = some u∧(K7 P V u R (k+1))[P.length+k]? = some y∧((K7 P V u R (k+1)).set (P.length+k+1) y)[P.length+k]? = some y∧((K7 P V u R (k+1)).set (P.length+k+1) y).set (P.length+k) u=K7 P V u R k:=by
  obtain ⟨V1,y,V2,rfl,hk⟩:=LQ h;obtain ⟨a1,a2,a3,a4⟩:=yH3 (x:=y) (X2:=V2) hk;have e:K7 P (V1++y::V2) u R k=(P++V1)++u::y::(V2++R):=by unfold K7;rw [a1,a2];simp
  have e':K7 P (V1++y::V2) u R (k+1)=(P++V1)++y::u::(V2++R):=by unfold K7;rw [a3,a4];simp
  have l0:P.length+k=(P++V1).length:=by simp;omega
  have s1:∀ (p q:W),((P++V1)++p::q::(V2++R))[P.length+k+1]? = some q:=fun p q=>by
    rw [show (P++V1)++p::q::(V2++R)=((P++V1)++[p])++q::(V2++R) by simp];exact nU _ _ _ (by simp;omega)
  have s2:∀ (p q z:W),((P++V1)++p::q::(V2++R)).set (P.length+k+1) z=(P++V1)++p::z::(V2++R):=fun p q z=>by
    rw [show (P++V1)++p::q::(V2++R)=((P++V1)++[p])++q::(V2++R) by simp,oB _ _ _ _ (by simp;omega)];simp
  rw [e,e'];refine ⟨y,nU _ _ _ l0,s1 _ _,?_,?_,s1 _ _,nU _ _ _ l0,?_,?_⟩
  · rw [oB _ _ _ _ l0];exact s1 _ _
  · rw [oB _ _ _ _ l0,s2]
  · rw [s2];exact nU _ _ _ l0
  · rw [s2,oB _ _ _ _ l0]
theorem zA2 {P U V R:List W}{i k:Nat}(h:i=P.length+U.length+k) (hk:k<V.length):(P++(U++(V++R)))[i]? = V[k]?:=by
  subst h;rw [aD (by omega),aD (by omega),aG (by omega)]
  congr 1;omega
theorem zA3 {P U V R:List W}{i k:Nat}(h:i=P.length+k) (hk:k<U.length):(P++(U++(V++R)))[i]? = U[k]?:=by
  subst h;rw [aD (by omega),aG (by omega)]
  congr 1;omega
end Go.Ld
namespace Go.Proofs.YtojgimibalokkaaGreat
open Go Go.Ab Go.Ld
attribute [local irreducible] VC AW cF aP
set_option maxHeartbeats 4000000
theorem yB:O7 Tryz.prog 3 .i64:=by unfold O7;kernel_rfl
theorem qS:O7 Tryz.prog 169 .u64:=by unfold O7;kernel_rfl
attribute [local irreducible] O7
theorem zU0 (P:List W) (u:W) (V R:List W){a m b N:Nat}(ha:a=P.length) (hm:m=a+1) (hb:b=m+V.length) (hN:N=b+R.length) (hl:N≤100000) (hV:Up V) (hu:K0 u) (hw:∀ w,w∈V→K0 w) :
    aP Tryz.prog 125 [.sl 0 0 N 3,.i a,.i m,.i b,qZ] [.arr (wsA (P++([u]++(V++R)))) 3] (.tup []) [.arr (wsA (P++(eH eR ([u]++V)++R))) 3]:=by
  refine bL T Tryz.func125 rfl rfl rfl rfl ?_
  (repeat' (first|refine wS ?_|refine wB ?_|refine wT ?_|(refine rg 0 (dR rfl (vV (cH rfl rfl (by omega) (by omega)) (vV (jL rfl rfl (by omega)) ?_))))|(refine rg 1 (mW rfl (aV ?_)))|(refine rg 2 (mW rfl (aV ?_)))|refine nZ ?_));refine cX (X:={q:Nat × Nat // m≤q.1∧q.1≤q.2∧q.2≤b∧(∀ z,0<q.1-m→V[q.1-m-1]? = some z→eR z u<0)∧(∀ z,V[q.2-m]? = some z→¬ eR z u<0)})
    (fun q=>[(0,.sl 0 0 N 3),(1,.i a),(4,qZ),(10,.i q.1.1),(11,.i q.1.2)]) (fun _=>[.arr (wsA (P++([u]++(V++R)))) 3]) (fun q=>q.1.2-q.1.1) ⟨(m,b),by dsimp only;exact ⟨by omega,by omega,by omega,fun z h=>by omega,fun z h=>by rw [cN (by omega)] at h;cases h⟩⟩
    ⟨[0],rfl,by (repeat (first | exact trivial | refine ⟨rfl,?_⟩)),⟨.inr (aE rfl rfl (bQ _)),trivial⟩,by decide,lY⟩ ?_
  rintro ⟨⟨i,j⟩,h1,h2,h3,h4,h5⟩;dsimp only at h1 h2 h3 h4 h5 ⊢;by_cases hij:i<j
  · have hP:((i:Int)+j) / 2 ^ (1:Int).toNat=(((i+j) / 2:Nat):Int):=by rw [show (2:Int) ^ (1:Int).toNat=2 from rfl];omega
    have hw1:IntKind.u64.wrap ((i:Int)+j)=(i:Int)+j:=GZ (by omega) (by omega)
    have hw2:IntKind.i64.wrap (((i+j) / 2:Nat):Int)=(((i+j) / 2:Nat):Int):=IntWalk.i64_in _ (by omega)
    have hh:i≤(i+j) / 2∧(i+j) / 2<j:=by omega
    generalize hq:(i+j) / 2=q at *;obtain ⟨z,hz⟩:∃ z,V[q-m]? = some z:=⟨_,aA (by omega)⟩
    have q1:=pF (L:=P++([u]++(V++R))) (j:=(q:Int)) (i:=q) (x:=z) (by rw [zA2 (k:=q-m) (by simp;omega) (by omega)];exact hz) rfl
    have q2:=pF (L:=P++([u]++(V++R))) (j:=(a:Int)) (i:=a) (x:=u) (by rw [zA3 (k:=0) (by omega) (by simp)];rfl) rfl
    have hc:=wN z u (hw z (aH hz)) hu;by_cases h0:eR z u<0
    · generalize hx:eR z u=x at *
      (repeat' (first|refine wS ?_|refine wB ?_|refine wK ?_|(refine wC rfl ?_ ?_<;>(intro hb;(try simp only [nm] at hb);try (exfalso;omega)))|(refine rg 3 (dR rfl (vV (aK rfl rfl) ?_)))|(refine rg 4 (dR rfl (vV (bP rfl rfl (by omega) (by omega)) (vV (jA yB qS rfl hw1) (vV (by exact hP▸tU rfl rfl (by decide) (by decide)) ?_))));refine vV (jA qS yB rfl hw2) (aV ?_))|(refine bO (id:=5) 220 yM2 (rM 40 11) yM3 cK rfl (by decide +kernel) (dN rfl (dN rfl (dN rfl (dV rfl (by exact aQ T rfl rfl rfl rfl rfl (by omega) (by omega)) ?_))));refine dV rfl (by exact bD T rfl rfl (bV rfl q1) rfl) ?_;refine dN rfl (dN rfl (dV rfl (by exact aQ T rfl rfl rfl rfl rfl (by omega) (by omega)) ?_));refine dV rfl (by exact bD T rfl rfl (bV rfl q2) rfl) ?_;refine dV rfl (kC (hc)) (dV rfl (aK rfl rfl) (dE ?_)))|(refine iA 6 rfl rfl rfl (by omega) (by omega) ?_)|refine nZ ?_));all_goals first | (exfalso;omega) | skip
      exact ⟨⟨(q+1,j),by dsimp only;exact ⟨by omega,by omega,by omega,fun z' _ hz'=>by rw [show q+1-m-1=q-m by omega,hz] at hz';cases hz';omega,h5⟩⟩,by dsimp only;omega,⟨[0],rfl,by (repeat (first | exact trivial | refine ⟨rfl,?_⟩)),⟨.inr (aE rfl rfl (bQ _)),trivial⟩,by decide,lY⟩⟩
    · generalize hx:eR z u=x at *
      (repeat' (first|refine wS ?_|refine wB ?_|refine wK ?_|(refine wC rfl ?_ ?_<;>(intro hb;(try simp only [nm] at hb);try (exfalso;omega)))|(refine rg 3 (dR rfl (vV (aK rfl rfl) ?_)))|(refine rg 4 (dR rfl (vV (bP rfl rfl (by omega) (by omega)) (vV (jA yB qS rfl hw1) (vV (by exact hP▸tU rfl rfl (by decide) (by decide)) ?_))));refine vV (jA qS yB rfl hw2) (aV ?_))|(refine bO (id:=5) 220 yM2 (rM 40 11) yM3 cK rfl (by decide +kernel) (dN rfl (dN rfl (dN rfl (dV rfl (by exact aQ T rfl rfl rfl rfl rfl (by omega) (by omega)) ?_))));refine dV rfl (by exact bD T rfl rfl (bV rfl q1) rfl) ?_;refine dN rfl (dN rfl (dV rfl (by exact aQ T rfl rfl rfl rfl rfl (by omega) (by omega)) ?_));refine dV rfl (by exact bD T rfl rfl (bV rfl q2) rfl) ?_;refine dV rfl (kC (hc)) (dV rfl (aK rfl rfl) (dE ?_)))|(refine rg 7 (mW rfl (aV ?_)))|refine nZ ?_));all_goals first | (exfalso;omega) | skip
      exact ⟨⟨(i,q),by dsimp only;exact ⟨by omega,by omega,by omega,h4,fun z' hz'=>by rw [hz] at hz';cases hz';omega⟩⟩,by dsimp only;omega,⟨[0],rfl,by (repeat (first | exact trivial | refine ⟨rfl,?_⟩)),⟨.inr (aE rfl rfl (bQ _)),trivial⟩,by decide,lY⟩⟩
  · obtain rfl:i=j:=by omega
    have hmg:=zW2 (u:=u) (i:=i-m) (by omega) hV h4 h5
    (repeat' (first|refine wS ?_|refine wB ?_|refine wE ?_|(refine wC rfl ?_ ?_<;>(intro hb;(try simp only [nm] at hb);try (exfalso;omega)))|(refine rg 3 (dR rfl (vV (aK rfl rfl) ?_)))|(refine rg 8 (mW rfl (aV ?_)))|refine nZ ?_));all_goals first | (exfalso;omega) | skip
    refine cX (X:={t:Nat // t≤i-m}) (fun t=>[(0,.sl 0 0 N 3),(10,.i i),(13,.i ((a+t.1:Nat):Int))]) (fun t=>[.arr (wsA (K7 P V u R t.1)) 3]) (fun t=>i-m-t.1) ⟨0,by omega⟩ ⟨[0],rfl,⟨rfl,rfl,by dsimp only;rfl,trivial⟩,⟨.inr (aE rfl (by dsimp only;unfold K7;simp) (bQ _)),trivial⟩,by decide,lY⟩ ?_
    rintro ⟨t,ht⟩;dsimp only;by_cases hlt:t<i-m
    · obtain ⟨y,p1,p2,p3,p4,_⟩:=HH (P:=P) (u:=u) (R:=R) (show t<V.length by omega)
      have q1:=pF (j:=((a+t:Nat):Int)) p1 (by omega)
      have q2:=pF (j:=((a+t:Nat):Int)+1) p2 (by omega)
      have t1:=vZ (L:=K7 P V u R t) (j:=((a+t:Nat):Int)) (i:=P.length+t) (x:=y) (by omega)
      have q3:=pF (j:=((a+t:Nat):Int)+1) p3 (by omega)
      have t2:=vZ (L:=(K7 P V u R t).set (P.length+t) y) (j:=((a+t:Nat):Int)+1) (i:=P.length+t+1) (x:=u) (by omega)
      rw [← t1] at q3 t2;rw [p4] at t2;have hJ:((a+t:Nat):Int)+1=((a+(t+1):Nat):Int):=by omega
      have hJ1:((a+t:Nat):Int)<(i:Int)-1:=by omega
      have hJ2:0≤((a+t:Nat):Int):=by omega
      clear p1 p2 p3 p4 t1;generalize ((a+t:Nat):Int)=J at *;generalize K7 P V u R t=L at *
      (repeat' (first|refine wS ?_|refine wB ?_|refine wK ?_|(refine wC rfl ?_ ?_<;>(intro hb;(try simp only [nm] at hb);try (exfalso;omega)))|(refine rg 9 (dR rfl (vV (cH rfl rfl (by omega) (by omega)) (vV (aK rfl rfl) ?_))))|(refine oD (id:=11) 220 yM0 (rM 61 15) [[],[61],[61,62],[61,62,63],[61,62,63],rM 61 5,rM 61 6,rM 61 6,rM 61 5,rM 61 5,rM 61 10,rM 61 11,rM 61 10,rM 61 10,[63,64,65],[63,64,65]] [(15,0)] cK rfl (by decide +kernel) (dB rfl rfl rfl rfl (by exact cP rfl) ?_);refine dB rfl rfl rfl rfl (by exact cP rfl) ?_;refine dB rfl rfl rfl rfl (by exact cP rfl) ?_;refine dB rfl rfl rfl rfl (by exact cP rfl) ?_;refine dB rfl rfl rfl rfl (by exact bP rfl rfl (by omega) (by omega)) ?_;refine dB rfl rfl rfl rfl (by exact cP rfl) ?_;refine dB rfl rfl rfl rfl (by exact cP rfl) ?_;refine dB rfl rfl rfl rfl (by exact bP rfl rfl (by omega) (by omega)) ?_;refine dB rfl rfl rfl rfl (by exact aQ T rfl rfl rfl rfl rfl (by omega) (by omega)) ?_;refine dB rfl rfl rfl rfl (by exact bD T rfl rfl (bV rfl q2) rfl) ?_;refine dB rfl rfl rfl rfl (by exact cP rfl) ?_;refine dB rfl rfl rfl rfl (by exact cP rfl) ?_;refine dB rfl rfl rfl rfl (by exact aQ T rfl rfl rfl rfl rfl (by omega) (by omega)) ?_;refine dB rfl rfl rfl rfl (by exact bD T rfl rfl (bV rfl q1) rfl) ?_;refine dB rfl rfl rfl rfl (by exact aQ T rfl rfl rfl rfl rfl (by omega) (by omega)) ?_;refine xC rfl rfl rfl rfl (aS rfl) T rfl rfl rfl rfl rfl rfl (by decide) (wG rfl q1 rfl) ?_;refine rP rfl rfl rfl (by exact rfl) ?_;refine vV (by exact aQ T rfl rfl rfl rfl rfl (by omega) (by omega)) ?_;refine aU T rfl rfl rfl rfl rfl rfl (by decide) (lQ rfl q3 rfl) ?_)|(refine iA 10 rfl rfl rfl (by omega) (by omega) ?_)|refine nZ ?_));all_goals first | (exfalso;omega) | skip
      exact ⟨⟨t+1,by omega⟩,by dsimp only;omega,⟨[0],rfl,⟨rfl,rfl,by dsimp only;rw [← hJ];try rfl,trivial⟩,⟨.inr (aE rfl (by dsimp only;rw [← t2];try rfl) (bQ _)),trivial⟩,by decide,lY⟩⟩
    · obtain rfl:t=i-m:=by omega
      have ee:K7 P V u R (i-m)=P++(eH eR ([u]++V)++R):=by rw [hmg];unfold K7;simp
      have hJ1:¬ ((a+(i-m):Nat):Int)<(i:Int)-1:=by omega
      generalize ((a+(i-m):Nat):Int)=J at *
      (repeat' (first|refine wS ?_|refine wR ?_|refine wE ?_|(refine wC rfl ?_ ?_<;>(intro hb;(try simp only [nm] at hb);try (exfalso;omega)))|(refine rg 9 (dR rfl (vV (cH rfl rfl (by omega) (by omega)) (vV (aK rfl rfl) ?_))))|refine nZ ?_));all_goals first | (exfalso;omega) | exact ⟨.inl rfl,[0],_,rfl,rfl,rfl,⟨.inr (aE rfl (by rw [ee]) (bQ _)),trivial⟩,by decide,lY⟩ | exact ⟨.inr rfl,[0],_,rfl,rfl,rfl,⟨.inr (aE rfl (by rw [ee]) (bQ _)),trivial⟩,by decide,lY⟩
theorem zT9 (P U:List W) (v:W) (R:List W){a m b N:Nat}(ha:a=P.length) (hm:m=a+U.length) (hb:b=m+1) (hN:N=b+R.length) (hl:N≤100000) (hU2:2≤U.length) (hU:Up U) (hv:K0 v) (hw:∀ w,w∈U→K0 w) :
    aP Tryz.prog 125 [.sl 0 0 N 3,.i a,.i m,.i b,qZ] [.arr (wsA (P++(U++([v]++R)))) 3] (.tup []) [.arr (wsA (P++(eH eR (U++[v])++R))) 3]:=by
  refine bL T Tryz.func125 rfl rfl rfl rfl ?_
  (repeat' (first|refine wS ?_|refine wB ?_|refine wK ?_|refine wT ?_|refine wU ?_|(refine rg 0 (dR rfl (vV (cH rfl rfl (by omega) (by omega)) (vV (fB rfl rfl (by omega)) ?_))))|(refine rg 12 (dR rfl (vV (cH rfl rfl (by omega) (by omega)) (vV (jL rfl rfl (by omega)) ?_))))|(refine rg 13 (mW rfl (aV ?_)))|(refine rg 14 (mW rfl (aV ?_)))|refine nZ ?_));refine cX (X:={q:Nat × Nat // a≤q.1∧q.1≤q.2∧q.2≤m∧(∀ z,0<q.1-a→U[q.1-a-1]? = some z→¬ eR v z<0)∧(∀ z,U[q.2-a]? = some z→eR v z<0)})
    (fun q=>[(0,.sl 0 0 N 3),(2,.i m),(4,qZ),(14,.i q.1.1),(15,.i q.1.2)]) (fun _=>[.arr (wsA (P++(U++([v]++R)))) 3]) (fun q=>q.1.2-q.1.1) ⟨(a,m),by dsimp only;exact ⟨by omega,by omega,by omega,fun z h=>by omega,fun z h=>by rw [cN (by omega)] at h;cases h⟩⟩
    ⟨[0],rfl,by (repeat (first | exact trivial | refine ⟨rfl,?_⟩)),⟨.inr (aE rfl rfl (bQ _)),trivial⟩,by decide,lY⟩ ?_
  rintro ⟨⟨i,j⟩,h1,h2,h3,h4,h5⟩;dsimp only at h1 h2 h3 h4 h5 ⊢;by_cases hij:i<j
  · have hP:((i:Int)+j) / 2 ^ (1:Int).toNat=(((i+j) / 2:Nat):Int):=by rw [show (2:Int) ^ (1:Int).toNat=2 from rfl];omega
    have hw1:IntKind.u64.wrap ((i:Int)+j)=(i:Int)+j:=GZ (by omega) (by omega)
    have hw2:IntKind.i64.wrap (((i+j) / 2:Nat):Int)=(((i+j) / 2:Nat):Int):=IntWalk.i64_in _ (by omega)
    have hh:i≤(i+j) / 2∧(i+j) / 2<j:=by omega
    generalize hq:(i+j) / 2=q at *;obtain ⟨z,hz⟩:∃ z,U[q-a]? = some z:=⟨_,aA (by omega)⟩
    have q1:=pF (L:=P++(U++([v]++R))) (j:=(m:Int)) (i:=m) (x:=v) (by rw [zA2 (k:=0) (by omega) (by simp)];rfl) rfl
    have q2:=pF (L:=P++(U++([v]++R))) (j:=(q:Int)) (i:=q) (x:=z) (by rw [zA3 (k:=q-a) (by omega) (by omega)];exact hz) rfl
    have hc:=wN v z hv (hw z (aH hz));by_cases h0:eR v z<0
    · generalize hx:eR v z=x at *
      (repeat' (first|refine wS ?_|refine wB ?_|refine wK ?_|(refine wC rfl ?_ ?_<;>(intro hb;(try simp only [nm] at hb);try (exfalso;omega)))|(refine rg 15 (dR rfl (vV (aK rfl rfl) ?_)))|(refine rg 16 (dR rfl (vV (bP rfl rfl (by omega) (by omega)) (vV (jA yB qS rfl hw1) (vV (by exact hP▸tU rfl rfl (by decide) (by decide)) ?_))));refine vV (jA qS yB rfl hw2) (aV ?_))|(refine bO (id:=17) 220 yM4 (rM 92 12) yM5 cK rfl (by decide +kernel) (dN rfl (dN rfl (dN rfl (dV rfl (by exact aQ T rfl rfl rfl rfl rfl (by omega) (by omega)) ?_))));refine dV rfl (by exact bD T rfl rfl (bV rfl q1) rfl) ?_;refine dN rfl (dN rfl (dV rfl (by exact aQ T rfl rfl rfl rfl rfl (by omega) (by omega)) ?_));refine dV rfl (by exact bD T rfl rfl (bV rfl q2) rfl) ?_;refine dV rfl (kC (hc)) (dV rfl (aK rfl rfl) (dV rfl (cT rfl) (dE ?_))))|(refine rg 19 (mW rfl (aV ?_)))|refine nZ ?_));all_goals first | (exfalso;omega) | skip
      exact ⟨⟨(i,q),by dsimp only;exact ⟨by omega,by omega,by omega,h4,fun z' hz'=>by rw [hz] at hz';cases hz';omega⟩⟩,by dsimp only;omega,⟨[0],rfl,by (repeat (first | exact trivial | refine ⟨rfl,?_⟩)),⟨.inr (aE rfl rfl (bQ _)),trivial⟩,by decide,lY⟩⟩
    · generalize hx:eR v z=x at *
      (repeat' (first|refine wS ?_|refine wB ?_|refine wK ?_|(refine wC rfl ?_ ?_<;>(intro hb;(try simp only [nm] at hb);try (exfalso;omega)))|(refine rg 15 (dR rfl (vV (aK rfl rfl) ?_)))|(refine rg 16 (dR rfl (vV (bP rfl rfl (by omega) (by omega)) (vV (jA yB qS rfl hw1) (vV (by exact hP▸tU rfl rfl (by decide) (by decide)) ?_))));refine vV (jA qS yB rfl hw2) (aV ?_))|(refine bO (id:=17) 220 yM4 (rM 92 12) yM5 cK rfl (by decide +kernel) (dN rfl (dN rfl (dN rfl (dV rfl (by exact aQ T rfl rfl rfl rfl rfl (by omega) (by omega)) ?_))));refine dV rfl (by exact bD T rfl rfl (bV rfl q1) rfl) ?_;refine dN rfl (dN rfl (dV rfl (by exact aQ T rfl rfl rfl rfl rfl (by omega) (by omega)) ?_));refine dV rfl (by exact bD T rfl rfl (bV rfl q2) rfl) ?_;refine dV rfl (kC (hc)) (dV rfl (aK rfl rfl) (dV rfl (cT rfl) (dE ?_))))|(refine iA 18 rfl rfl rfl (by omega) (by omega) ?_)|refine nZ ?_));all_goals first | (exfalso;omega) | skip
      exact ⟨⟨(q+1,j),by dsimp only;exact ⟨by omega,by omega,by omega,fun z' _ hz'=>by rw [show q+1-a-1=q-a by omega,hz] at hz';cases hz';omega,h5⟩⟩,by dsimp only;omega,⟨[0],rfl,by (repeat (first | exact trivial | refine ⟨rfl,?_⟩)),⟨.inr (aE rfl rfl (bQ _)),trivial⟩,by decide,lY⟩⟩
  · obtain rfl:i=j:=by omega
    have hmg:=zW1 (v:=v) (i:=i-a) (by omega) hU h4 h5
    (repeat' (first|refine wS ?_|refine wB ?_|refine wE ?_|(refine wC rfl ?_ ?_<;>(intro hb;(try simp only [nm] at hb);try (exfalso;omega)))|(refine rg 15 (dR rfl (vV (aK rfl rfl) ?_)))|(refine rg 20 (mW rfl (aV ?_)))|refine nZ ?_));all_goals first | (exfalso;omega) | skip
    refine cX (X:={t:Nat // i-a≤t∧t≤U.length}) (fun t=>[(0,.sl 0 0 N 3),(14,.i i),(17,.i ((a+t.1:Nat):Int))]) (fun t=>[.arr (wsA (K7 P U v R t.1)) 3]) (fun t=>t.1) ⟨U.length,by omega⟩ ⟨[0],rfl,⟨rfl,rfl,by dsimp only;rw [← hm];rfl,trivial⟩,⟨.inr (aE rfl (by dsimp only;unfold K7;simp) (bQ _)),trivial⟩,by decide,lY⟩ ?_
    rintro ⟨t,ht,ht2⟩;dsimp only;by_cases hlt:i-a<t
    · obtain ⟨t,rfl⟩:∃ t',t=t'+1:=⟨t-1,by omega⟩
      obtain ⟨y,_,_,_,_,p1,p2,p3,p4⟩:=HH (P:=P) (u:=v) (R:=R) (show t<U.length by omega)
      have q1:=pF (j:=((a+(t+1):Nat):Int)) p1 (by omega)
      have q2:=pF (j:=((a+(t+1):Nat):Int)-1) p2 (by omega)
      have t1:=vZ (L:=K7 P U v R (t+1)) (j:=((a+(t+1):Nat):Int)) (i:=P.length+t+1) (x:=y) (by omega)
      have q3:=pF (j:=((a+(t+1):Nat):Int)-1) p3 (by omega)
      have t2:=vZ (L:=(K7 P U v R (t+1)).set (P.length+t+1) y) (j:=((a+(t+1):Nat):Int)-1) (i:=P.length+t) (x:=v) (by omega)
      rw [← t1] at q3 t2;rw [p4] at t2;have hJ:((a+(t+1):Nat):Int)-1=((a+t:Nat):Int):=by omega
      have hJ1:((a+(t+1):Nat):Int) > (i:Int):=by omega
      have hJ2:1≤((a+(t+1):Nat):Int):=by omega
      have hJ3:((a+(t+1):Nat):Int)<N:=by omega
      clear p1 p2 p3 p4 t1;generalize ((a+(t+1):Nat):Int)=J at *;generalize K7 P U v R (t+1)=L at *
      (repeat' (first|refine wS ?_|refine wB ?_|refine wK ?_|(refine wC rfl ?_ ?_<;>(intro hb;(try simp only [nm] at hb);try (exfalso;omega)))|(refine rg 21 (dR rfl (vV (dX rfl rfl) ?_)))|(refine oD (id:=23) 220 yM0 (rM 113 15) [[],[113],[113,114],[113,114,115],[113,114,115],rM 113 5,rM 113 6,rM 113 6,rM 113 5,rM 113 5,rM 113 10,rM 113 11,rM 113 10,rM 113 10,[115,116,117],[115,116,117]] [(15,0)] cK rfl (by decide +kernel) (dB rfl rfl rfl rfl (by exact cP rfl) ?_);refine dB rfl rfl rfl rfl (by exact cP rfl) ?_;refine dB rfl rfl rfl rfl (by exact cP rfl) ?_;refine dB rfl rfl rfl rfl (by exact cP rfl) ?_;refine dB rfl rfl rfl rfl (by exact cH rfl rfl (by omega) (by omega)) ?_;refine dB rfl rfl rfl rfl (by exact cP rfl) ?_;refine dB rfl rfl rfl rfl (by exact cP rfl) ?_;refine dB rfl rfl rfl rfl (by exact cH rfl rfl (by omega) (by omega)) ?_;refine dB rfl rfl rfl rfl (by exact aQ T rfl rfl rfl rfl rfl (by omega) (by omega)) ?_;refine dB rfl rfl rfl rfl (by exact bD T rfl rfl (bV rfl q2) rfl) ?_;refine dB rfl rfl rfl rfl (by exact cP rfl) ?_;refine dB rfl rfl rfl rfl (by exact cP rfl) ?_;refine dB rfl rfl rfl rfl (by exact aQ T rfl rfl rfl rfl rfl (by omega) (by omega)) ?_;refine dB rfl rfl rfl rfl (by exact bD T rfl rfl (bV rfl q1) rfl) ?_;refine dB rfl rfl rfl rfl (by exact aQ T rfl rfl rfl rfl rfl (by omega) (by omega)) ?_;refine xC rfl rfl rfl rfl (aS rfl) T rfl rfl rfl rfl rfl rfl (by decide) (wG rfl q1 rfl) ?_;refine rP rfl rfl rfl (by exact rfl) ?_;refine vV (by exact aQ T rfl rfl rfl rfl rfl (by omega) (by omega)) ?_;refine aU T rfl rfl rfl rfl rfl rfl (by decide) (lQ rfl q3 rfl) ?_)|(refine rg 22 (mW rfl (vV (cH rfl rfl (by omega) (by omega)) (aV ?_))))|refine nZ ?_));all_goals first | (exfalso;omega) | skip
      exact ⟨⟨t,by omega⟩,by dsimp only;omega,⟨[0],rfl,⟨rfl,rfl,by dsimp only;rw [← hJ];try rfl,trivial⟩,⟨.inr (aE rfl (by dsimp only;rw [← t2];try rfl) (bQ _)),trivial⟩,by decide,lY⟩⟩
    · obtain rfl:t=i-a:=by omega
      have ee:K7 P U v R (i-a)=P++(eH eR (U++[v])++R):=by rw [hmg];unfold K7;simp
      have hJ1:¬ ((a+(i-a):Nat):Int) > (i:Int):=by omega
      generalize ((a+(i-a):Nat):Int)=J at *
      (repeat' (first|refine wS ?_|refine wR ?_|refine wE ?_|(refine wC rfl ?_ ?_<;>(intro hb;(try simp only [nm] at hb);try (exfalso;omega)))|(refine rg 21 (dR rfl (vV (dX rfl rfl) ?_)))|refine nZ ?_));all_goals first | (exfalso;omega) | exact ⟨.inl rfl,[0],_,rfl,rfl,rfl,⟨.inr (aE rfl (by rw [ee]) (bQ _)),trivial⟩,by decide,lY⟩ | exact ⟨.inr rfl,[0],_,rfl,rfl,rfl,⟨.inr (aE rfl (by rw [ee]) (bQ _)),trivial⟩,by decide,lY⟩
end Go.Proofs.YtojgimibalokkaaGreat
namespace Go.Ld
open Go.Ab Go.Proofs.YtojgimibalokkaaGreat
theorem zE9 {P U V R:List W}{a m b mid n lo hi s:Nat}(ha:a=P.length) (hm:m=a+U.length) (hb:b=m+V.length) (hmid:mid=(a+b) / 2) (hn:n=mid+m) (hU:Up U) (hV:Up V)
    (hc:mid<m∧lo=n-b∧hi=mid∨m≤mid∧lo=a∧hi=m) (hs1:lo≤s) (hs2:s≤hi)
    (h1:∀ x y,lo<s→(P++(U++(V++R)))[s-1]? = some x→(P++(U++(V++R)))[n-s]? = some y→¬ eR y x<0)
    (h2:∀ x y,s<hi→(P++(U++(V++R)))[s]? = some x→(P++(U++(V++R)))[n-1-s]? = some y→eR y x<0) :
    ∃ X1 X2 Y1 Y2,U=X1++X2∧V=Y1++Y2∧s=a+X1.length∧n=(m+Y1.length)+s∧mid=a+X1.length+Y1.length∧eH eR (U++V)=eH eR (X1++Y1)++eH eR (X2++Y2):=by
  have f1:a≤s∧s≤m∧m+s≤n∧n≤b+s:=by rcases hc with ⟨c1,c2,c3⟩ | ⟨c1,c2,c3⟩ <;> omega
  obtain ⟨f1,f2,f3,f4⟩:=f1;refine ⟨U.take (s-a),U.drop (s-a),V.take (n-s-m),V.drop (n-s-m),by simp,by simp,by rw [bE];omega,by rw [bE];omega,by rw [bE,bE];omega,?_⟩
  refine yF8 hU hV (by omega) (by omega) (fun x y h0 hx hy=>?_) (fun x y h0 hx hy=>?_)
  · have i1:=(aB.1 hy).1;refine h1 x y (by rcases hc with ⟨c1,c2,c3⟩ | ⟨c1,c2,c3⟩ <;> omega) ?_ ?_
    · rw [zA3 (k:=s-a-1) (by omega) (by omega)];exact hx
    · rw [zA2 (k:=n-s-m) (by omega) (by omega)];exact hy
  · have i1:=(aB.1 hx).1;refine h2 x y (by rcases hc with ⟨c1,c2,c3⟩ | ⟨c1,c2,c3⟩ <;> omega) ?_ ?_
    · rw [zA3 (k:=s-a) (by omega) (by omega)];exact hx
    · rw [zA2 (k:=n-s-m-1) (by omega) (by omega)];exact hy
theorem yC4 {A B:List W}(h:Up (A++B)):Up A:=(eW.1 h).1
theorem yC3 {A B:List W}(h:Up (A++B)):Up B:=(eW.1 h).2.1
def bs (k:Nat) (l:List W):List W:=if h:l.length≤k∨k=0 then eH eR l else eH eR (l.take k)++bs k (l.drop k)
  termination_by l.length
  decreasing_by simp only [dK];omega
theorem Q9 {k:Nat}{l:List W}(h:l.length≤k):bs k l=eH eR l:=by unfold bs;rw [dif_pos (.inl h)]
theorem yG1 {k:Nat}{l:List W}(h:k<l.length) (h0:0<k):bs k l=eH eR (l.take k)++bs k (l.drop k):=by rw [bs,dif_neg (by omega)]
theorem AS {k:Nat}{a b:List W}(h:a.length=k) (h0:0<k):bs k (a++b)=eH eR a++bs k b:=by
  subst h;cases b with
  | nil=>rw [List.append_nil,Q9 (aT _),Q9 (cC _)];simp [eH]
  | cons x b=>rw [yG1 (by simp) h0,vQ,vS]
theorem yA0 (k:Nat) (l:List W):(bs k l).length=l.length:=by
  induction hn:l.length using Nat.strongRecOn generalizing l with
  | _ n ih=>
    unfold bs;split
    · rw [iT,hn]
    · rw [aF,iT,bE,ih (l.drop k).length (by rw [dK];omega) _ rfl,dK];omega
theorem HQ (a b:List W):eH eR (eH eR a++eH eR b)=eH eR (a++b):=
  G7 ((dZ _ _).trans ((dZ _ _).append (dZ _ _)).symm) (lG jD _)
end Go.Ld
namespace Go.Proofs.YtojgimibalokkaaGreat
open Go Go.Ab Go.Ld
attribute [local irreducible] VC AW cF aP O7
set_option maxHeartbeats 4000000
theorem zQ6:∀ (k:Nat) (P U V R:List W){a m b N:Nat},b-a≤k→0<U.length→0<V.length→a=P.length→m=a+U.length→b=m+V.length→N=b+R.length→N≤100000→Up U→Up V→(∀ w,w∈U→K0 w)→(∀ w,w∈V→K0 w) →
    aP Tryz.prog 125 [.sl 0 0 N 3,.i a,.i m,.i b,qZ] [.arr (wsA (P++(U++(V++R)))) 3] (.tup []) [.arr (wsA (P++(eH eR (U++V)++R))) 3]:=by
  intro k
  induction k with
  | zero=>intros;exfalso;omega
  | succ k ih=>
    intro P U V R a m b N hk hU0 hV0 ha hm hb hN hl hU hV hwU hwV;by_cases hu1:U.length=1
    · obtain ⟨u,rfl⟩:=CA.1 hu1;exact zU0 P u V R ha hm hb hN hl hV (hwU u (by simp)) hwV
    by_cases hv1:V.length=1
    · obtain ⟨v,rfl⟩:=CA.1 hv1;exact zT9 P U v R ha hm hb hN hl (by omega) hU (hwV v (by simp)) hwU
    have hP:((a:Int)+b) / 2 ^ (1:Int).toNat=(((a+b) / 2:Nat):Int):=by rw [show (2:Int) ^ (1:Int).toNat=2 from rfl];omega
    have hw1:IntKind.u64.wrap ((a:Int)+b)=(a:Int)+b:=GZ (by omega) (by omega)
    have hw2:IntKind.i64.wrap (((a+b) / 2:Nat):Int)=(((a+b) / 2:Nat):Int):=IntWalk.i64_in _ (by omega)
    obtain ⟨mid,hmid⟩:∃ mid,mid=(a+b) / 2:=⟨_,rfl⟩;rw [← hmid] at hP hw2;have hD1:∀ i,a≤i→i<m→(P++(U++(V++R)))[i]? = U[i-a]?:=fun i h1 h2=>zA3 (by omega) (by omega)
    have hD2:∀ i,m≤i→i<b→(P++(U++(V++R)))[i]? = V[i-m]?:=fun i h1 h2=>zA2 (by omega) (by omega)
    have hcut:∀ {lo hi s:Nat},_:=@zE9 P U V R a m b mid (mid+m);generalize hDe:P++(U++(V++R))=D at *;refine bL T Tryz.func125 rfl rfl rfl rfl ?_;apply Go.Ab.cutT (T:=∀ lo hi:Nat,(mid<m∧lo=mid+m-b∧hi=mid∨m≤mid∧lo=a∧hi=m)→_)
    · intro rest;by_cases h:mid<m
      · obtain ⟨lo,hlo⟩:∃ lo:Nat,lo=mid+m-b:=⟨_,rfl⟩;obtain ⟨hi,hhi⟩:∃ hi:Nat,hi=mid:=⟨_,rfl⟩
        (repeat' (first|refine wS ?_|refine wB ?_|refine wK ?_|refine wU ?_|(refine wC rfl ?_ ?_<;>(intro hb;(try simp only [nm] at hb);try (exfalso;omega)))|(refine rg 0 (dR rfl (vV (cH rfl rfl (by omega) (by omega)) (vV (fB rfl rfl (by omega)) ?_))))|(refine rg 12 (dR rfl (vV (cH rfl rfl (by omega) (by omega)) (vV (fB rfl rfl (by omega)) ?_))))|(refine rg 24 (dR rfl (vV (bP rfl rfl (by omega) (by omega)) (vV (jA yB qS rfl hw1) (vV (by exact hP▸tU rfl rfl (by decide) (by decide)) ?_))));refine vV (jA qS yB rfl hw2) (aV ?_))|(refine rg 25 (dR rfl (vV (bP rfl rfl (by omega) (by omega)) (aV ?_))))|(refine rg 26 (lO ?_))|(refine rg 27 (dR rfl (vV (dX rfl rfl) ?_)))|(refine rg 28 (dR rfl (vV (cH rfl rfl (by omega) (by omega)) (aV ?_))))|(refine rg 29 (mW rfl (aV ?_)))|(refine rg 32 (mW rfl (vV (cH rfl rfl (by omega) (by omega)) (aV ?_))))|refine nZ ?_));all_goals first | (exfalso;omega) | exact gM [(0,.sl 0 0 N 3),(1,.i a),(2,.i m),(3,.i b),(4,qZ),(18,.i mid),(19,.i ((mid:Int)+m)),(20,.i lo),(21,.i hi),(22,.i ((mid:Int)+m-1))] [.arr (wsA D) 3] ⟨[0],rfl,⟨rfl,rfl,rfl,rfl,rfl,rfl,rfl,by rw [show (lo:Int)=(mid:Int)+m-b by omega];rfl,by rw [hhi];rfl,rfl,trivial⟩,⟨.inr (aE rfl rfl (bQ _)),trivial⟩,by decide,lY⟩ (rest.get lo hi (by omega))
      · obtain ⟨lo,hlo⟩:∃ lo:Nat,lo=a:=⟨_,rfl⟩;obtain ⟨hi,hhi⟩:∃ hi:Nat,hi=m:=⟨_,rfl⟩
        (repeat' (first|refine wS ?_|refine wB ?_|refine wK ?_|refine wU ?_|(refine wC rfl ?_ ?_<;>(intro hb;(try simp only [nm] at hb);try (exfalso;omega)))|(refine rg 0 (dR rfl (vV (cH rfl rfl (by omega) (by omega)) (vV (fB rfl rfl (by omega)) ?_))))|(refine rg 12 (dR rfl (vV (cH rfl rfl (by omega) (by omega)) (vV (fB rfl rfl (by omega)) ?_))))|(refine rg 24 (dR rfl (vV (bP rfl rfl (by omega) (by omega)) (vV (jA yB qS rfl hw1) (vV (by exact hP▸tU rfl rfl (by decide) (by decide)) ?_))));refine vV (jA qS yB rfl hw2) (aV ?_))|(refine rg 25 (dR rfl (vV (bP rfl rfl (by omega) (by omega)) (aV ?_))))|(refine rg 26 (lO ?_))|(refine rg 27 (dR rfl (vV (dX rfl rfl) ?_)))|(refine rg 30 (mW rfl (aV ?_)))|(refine rg 31 (mW rfl (aV ?_)))|(refine rg 32 (mW rfl (vV (cH rfl rfl (by omega) (by omega)) (aV ?_))))|refine nZ ?_));all_goals first | (exfalso;omega) | exact gM [(0,.sl 0 0 N 3),(1,.i a),(2,.i m),(3,.i b),(4,qZ),(18,.i mid),(19,.i ((mid:Int)+m)),(20,.i lo),(21,.i hi),(22,.i ((mid:Int)+m-1))] [.arr (wsA D) 3] ⟨[0],rfl,⟨rfl,rfl,rfl,rfl,rfl,rfl,rfl,by rw [hlo];rfl,by rw [hhi];rfl,rfl,trivial⟩,⟨.inr (aE rfl rfl (bQ _)),trivial⟩,by decide,lY⟩ (rest.get lo hi (by omega))
    intro lo hi hc;have hcut:=fun s=>@hcut lo hi s ha hm hb hmid rfl hU hV hc
    refine cX (X:={q:Nat × Nat // lo≤q.1∧q.1≤q.2∧q.2≤hi∧(∀ x y,lo<q.1→D[q.1-1]? = some x→D[mid+m-q.1]? = some y→¬ eR y x<0)∧(∀ x y,q.2<hi→D[q.2]? = some x→D[mid+m-1-q.2]? = some y→eR y x<0)})
      (fun q=>[(0,.sl 0 0 N 3),(1,.i a),(2,.i m),(3,.i b),(4,qZ),(18,.i mid),(19,.i ((mid:Int)+m)),(20,.i q.1.1),(21,.i q.1.2),(22,.i ((mid:Int)+m-1))]) (fun _=>[.arr (wsA D) 3]) (fun q=>q.1.2-q.1.1) ⟨(lo,hi),by dsimp only;exact ⟨by omega,by omega,by omega,fun x y h=>by omega,fun x y h=>by omega⟩⟩
      ⟨[0],rfl,by (repeat (first | exact trivial | refine ⟨rfl,?_⟩)),⟨.inr (aE rfl rfl (bQ _)),trivial⟩,by decide,lY⟩ ?_
    rintro ⟨⟨i,j⟩,h1,h2,h3,h4,h5⟩;dsimp only at h1 h2 h3 h4 h5 ⊢;have hlo:a≤lo∧hi≤m∧m≤mid+m-hi∧mid+m-lo≤b∧lo≤mid+m:=by omega
    by_cases hij:i<j
    · clear hP hw1 hw2;have hP:((i:Int)+j) / 2 ^ (1:Int).toNat=(((i+j) / 2:Nat):Int):=by rw [show (2:Int) ^ (1:Int).toNat=2 from rfl];omega
      have hw1:IntKind.u64.wrap ((i:Int)+j)=(i:Int)+j:=GZ (by omega) (by omega)
      have hw2:IntKind.i64.wrap (((i+j) / 2:Nat):Int)=(((i+j) / 2:Nat):Int):=IntWalk.i64_in _ (by omega)
      have hh:i≤(i+j) / 2∧(i+j) / 2<j:=by omega
      generalize hq:(i+j) / 2=q at *;obtain ⟨x,hx⟩:∃ x,U[q-a]? = some x:=⟨_,aA (by omega)⟩
      obtain ⟨y,hy⟩:∃ y,V[mid+m-1-q-m]? = some y:=⟨_,aA (by omega)⟩
      have wx:=hwU x (aH hx);have wy:=hwV y (aH hy);rw [← hD1 q (by omega) (by omega)] at hx
      rw [← hD2 (mid+m-1-q) (by omega) (by omega)] at hy
      have q1:=pF (j:=(mid:Int)+m-1-q) hy (by omega)
      have q2:=pF (j:=(q:Int)) hx rfl;have hc':=wN y x wy wx;by_cases h0:eR y x<0
      · generalize hz:eR y x=z at *
        (repeat' (first|refine wS ?_|refine wB ?_|refine wK ?_|(refine wC rfl ?_ ?_<;>(intro hb;(try simp only [nm] at hb);try (exfalso;omega)))|(refine rg 33 (dR rfl (vV (aK rfl rfl) ?_)))|(refine rg 34 (dR rfl (vV (bP rfl rfl (by omega) (by omega)) (vV (jA yB qS rfl hw1) (vV (by exact hP▸tU rfl rfl (by decide) (by decide)) ?_))));refine vV (jA qS yB rfl hw2) (aV ?_))|(refine bO (id:=35) 220 yM6 (rM 158 14) yM7 cK rfl (by decide +kernel) (dN rfl (dN rfl (dN rfl (dN rfl (dV rfl (cH rfl rfl (by omega) (by omega)) (dV rfl (by exact aQ T rfl rfl rfl rfl rfl (by omega) (by omega)) ?_))))));refine dV rfl (by exact bD T rfl rfl (bV rfl q1) rfl) ?_;refine dN rfl (dN rfl (dV rfl (by exact aQ T rfl rfl rfl rfl rfl (by omega) (by omega)) ?_));refine dV rfl (by exact bD T rfl rfl (bV rfl q2) rfl) ?_;refine dV rfl (kC (hc')) (dV rfl (aK rfl rfl) (dV rfl (cT rfl) (dE ?_))))|(refine rg 37 (mW rfl (aV ?_)))|refine nZ ?_));all_goals first | (exfalso;omega) | skip
        exact ⟨⟨(i,q),by dsimp only;exact ⟨by omega,by omega,by omega,h4,fun x' y' _ hx' hy'=>by rw [hx] at hx';rw [hy] at hy';cases hx';cases hy';omega⟩⟩,by dsimp only;omega,⟨[0],rfl,by (repeat (first | exact trivial | refine ⟨rfl,?_⟩)),⟨.inr (aE rfl rfl (bQ _)),trivial⟩,by decide,lY⟩⟩
      · generalize hz:eR y x=z at *
        (repeat' (first|refine wS ?_|refine wB ?_|refine wK ?_|(refine wC rfl ?_ ?_<;>(intro hb;(try simp only [nm] at hb);try (exfalso;omega)))|(refine rg 33 (dR rfl (vV (aK rfl rfl) ?_)))|(refine rg 34 (dR rfl (vV (bP rfl rfl (by omega) (by omega)) (vV (jA yB qS rfl hw1) (vV (by exact hP▸tU rfl rfl (by decide) (by decide)) ?_))));refine vV (jA qS yB rfl hw2) (aV ?_))|(refine bO (id:=35) 220 yM6 (rM 158 14) yM7 cK rfl (by decide +kernel) (dN rfl (dN rfl (dN rfl (dN rfl (dV rfl (cH rfl rfl (by omega) (by omega)) (dV rfl (by exact aQ T rfl rfl rfl rfl rfl (by omega) (by omega)) ?_))))));refine dV rfl (by exact bD T rfl rfl (bV rfl q1) rfl) ?_;refine dN rfl (dN rfl (dV rfl (by exact aQ T rfl rfl rfl rfl rfl (by omega) (by omega)) ?_));refine dV rfl (by exact bD T rfl rfl (bV rfl q2) rfl) ?_;refine dV rfl (kC (hc')) (dV rfl (aK rfl rfl) (dV rfl (cT rfl) (dE ?_))))|(refine iA 36 rfl rfl rfl (by omega) (by omega) ?_)|refine nZ ?_));all_goals first | (exfalso;omega) | skip
        exact ⟨⟨(q+1,j),by dsimp only;exact ⟨by omega,by omega,by omega,fun x' y' _ hx' hy'=>by rw [show q+1-1=q by omega,hx] at hx';rw [show mid+m-(q+1)=mid+m-1-q by omega,hy] at hy';cases hx';cases hy';omega,h5⟩⟩,by dsimp only;omega,⟨[0],rfl,by (repeat (first | exact trivial | refine ⟨rfl,?_⟩)),⟨.inr (aE rfl rfl (bQ _)),trivial⟩,by decide,lY⟩⟩
    · obtain rfl:i=j:=by omega
      obtain ⟨X1,X2,Y1,Y2,rfl,rfl,e1,e2,e3,hsrt⟩:=hcut i (by omega) (by omega) h4 h5
      clear hcut h4 h5 hD1 hD2 hP hw1 hw2;rw [hsrt];obtain ⟨e,he⟩:∃ e,e=m+Y1.length:=⟨_,rfl⟩;simp only [aF] at hm hb hU0 hV0 hu1 hv1;have uX1:=yC4 hU;have uX2:=yC3 hU;have uY1:=yC4 hV;have uY2:=yC3 hV;have w1:=ih P X1 Y1 (X2++(Y2++R)) (a:=a) (m:=i) (b:=mid) (N:=N);have w2:=ih (P++eH eR (X1++Y1)) X2 Y2 R (a:=mid) (m:=e) (b:=b) (N:=N);have hsl:(eH eR (X1++Y1)).length=X1.length+Y1.length:=by rw [iT,aF]
      have w0:=WC (P++X1) X2 Y1 (Y2++R) (a:=i) (m:=m) (b:=e) (N:=N);simp only [aF,hsl] at w0 w1 w2;have c0:i<m→m<e→_:=fun h h'=>w0 (by omega) (by omega) (by omega) (by omega) hl (by omega) (by omega)
      have c1:a<i→i<mid→_:=fun h h'=>w1 (by omega) (by omega) (by omega) ha (by omega) (by omega) (by omega) hl uX1 uY1 (fun w hw=>hwU w (by simp [hw])) (fun w hw=>hwV w (by simp [hw]))
      have c2:mid<e→e<b→_:=fun h h'=>w2 (by omega) (by omega) (by omega) (by omega) (by omega) (by omega) (by omega) hl uX2 uY2 (fun w hw=>hwU w (by simp [hw])) (fun w hw=>hwV w (by simp [hw]))
      have d0:¬ (i<m∧m<e)→D=P++(X1++(Y1++(X2++(Y2++R)))):=fun h=>by
        rw [← hDe];by_cases h':X2.length=0
        · rw [bI h'];simp
        · rw [bI (show Y1.length=0 by omega)];simp
      have d1:¬ (a<i∧i<mid)→P++(X1++(Y1++(X2++(Y2++R))))=P++(eH eR (X1++Y1)++(X2++(Y2++R))):=fun h=>by
        by_cases h':X1.length=0
        · rw [bI h',List.nil_append,List.nil_append,T2 uY1]
        · rw [bI (show Y1.length=0 by omega),List.nil_append,List.append_nil,T2 uX1]
      have d2:¬ (mid<e∧e<b)→P++(eH eR (X1++Y1)++(X2++(Y2++R)))=P++(eH eR (X1++Y1)++eH eR (X2++Y2)++R):=fun h=>by
        by_cases h':X2.length=0
        · rw [bI h',List.nil_append,List.nil_append,T2 uY2];simp
        · rw [bI (show Y2.length=0 by omega),List.nil_append,List.append_nil,T2 uX2];simp
      have g0:(P++X1)++(X2++(Y1++(Y2++R)))=D:=by rw [← hDe];simp
      have g1:(P++X1)++(Y1++(X2++(Y2++R)))=P++(X1++(Y1++(X2++(Y2++R)))):=by simp
      have g2:(P++eH eR (X1++Y1))++(X2++(Y2++R))=P++(eH eR (X1++Y1)++(X2++(Y2++R))):=by simp
      have g3:(P++eH eR (X1++Y1))++(eH eR (X2++Y2)++R)=P++(eH eR (X1++Y1)++eH eR (X2++Y2)++R):=by simp
      rw [g0,g1] at c0;rw [g2,g3] at c2;clear w0 w1 w2 ih g0 g1 g2 g3 hDe hwU hwV;generalize P++(eH eR (X1++Y1)++eH eR (X2++Y2)++R)=A3 at *;generalize P++(eH eR (X1++Y1)++(X2++(Y2++R)))=A2 at *;generalize P++(X1++(Y1++(X2++(Y2++R))))=A1 at *;apply Go.Ab.cutT
      · intro rest;by_cases h:i<m∧m<e
        · have hc':=c0 h.1 h.2;rw [show (e:Int)=(mid:Int)+m-i by omega] at hc'
          (repeat' (first|refine wS ?_|refine wE ?_|(refine wC rfl ?_ ?_<;>(intro hb;(try simp only [nm] at hb);try (exfalso;omega)))|(refine rg 33 (dR rfl (vV (aK rfl rfl) ?_)))|(refine rg 38 (dR rfl (vV (cH rfl rfl (by omega) (by omega)) (aV ?_))))|(refine rg 39 (dR rfl (vV (aK rfl rfl) (mV ?_)));refine aY rfl rfl ?_ ?_<;>(intro hb;rw [hb];(try simp only [nm] at hb);try (exfalso;omega));(all_goals (refine yN rfl (yN rfl (yV (aK rfl rfl) (pV ?_))))))|(refine rg 40 (dR rfl (dR rfl (mW rfl (fO [0] rfl rfl (hc') rfl rfl (by decide) ⟨.inr (aE rfl rfl (bQ _)),trivial⟩ (by simp) rfl ?_)))))|refine nZ ?_));all_goals first | (exfalso;omega) | exact gM [(0,.sl 0 0 N 3),(1,.i a),(3,.i b),(4,qZ),(18,.i mid),(20,.i i),(24,.i e)] [.arr (wsA A1) 3] ⟨[0],rfl,⟨rfl,rfl,rfl,rfl,rfl,rfl,by rw [show (e:Int)=(mid:Int)+m-i by omega];rfl,trivial⟩,⟨.inr (aE rfl (dA _ (bQ _)) (bQ _)),trivial⟩,by decide,lY⟩ rest.get
        · obtain rfl:=d0 h
          (repeat' (first|refine wS ?_|refine wK ?_|refine wE ?_|refine wU ?_|(refine wC rfl ?_ ?_<;>(intro hb;(try simp only [nm] at hb);try (exfalso;omega)))|(refine rg 33 (dR rfl (vV (aK rfl rfl) ?_)))|(refine rg 38 (dR rfl (vV (cH rfl rfl (by omega) (by omega)) (aV ?_))))|(refine rg 39 (dR rfl (vV (aK rfl rfl) (mV ?_)));refine aY rfl rfl ?_ ?_<;>(intro hb;rw [hb];(try simp only [nm] at hb);try (exfalso;omega));(all_goals first|(refine gT (mW rfl (gT (mW rfl (gT (vV (aK rfl rfl) ?_))))))|(iterate 3 refine gF ?_));(all_goals (refine pV ?_)))|refine nZ ?_));all_goals first | (exfalso;omega) | exact gM [(0,.sl 0 0 N 3),(1,.i a),(3,.i b),(4,qZ),(18,.i mid),(20,.i i),(24,.i e)] [.arr (wsA D) 3] ⟨[0],rfl,⟨rfl,rfl,rfl,rfl,rfl,rfl,by rw [show (e:Int)=(mid:Int)+m-i by omega];rfl,trivial⟩,⟨.inr (aE rfl rfl (bQ _)),trivial⟩,by decide,lY⟩ rest.get
      clear c0 d0;apply Go.Ab.cutT
      · intro rest;by_cases h:a<i∧i<mid
        · have hc':=c1 h.1 h.2
          (repeat' (first|refine wS ?_|(refine wC rfl ?_ ?_<;>(intro hb;(try simp only [nm] at hb);try (exfalso;omega)))|(refine rg 41 (dR rfl (vV (aK rfl rfl) (mV ?_)));refine aY rfl rfl ?_ ?_<;>(intro hb;rw [hb];(try simp only [nm] at hb);try (exfalso;omega));(all_goals (refine yN rfl (yN rfl (yV (aK rfl rfl) (pV ?_))))))|(refine rg 42 (dR rfl (dR rfl (mW rfl (fO [0] rfl rfl (hc') rfl rfl (by decide) ⟨.inr (aE rfl rfl (bQ _)),trivial⟩ (by simp) rfl ?_)))))|refine nZ ?_));all_goals first | (exfalso;omega) | exact gM [(0,.sl 0 0 N 3),(1,.i a),(3,.i b),(4,qZ),(18,.i mid),(24,.i e)] [.arr (wsA A2) 3] ⟨[0],rfl,(by repeat first|exact trivial|refine ⟨rfl,?_⟩),⟨.inr (aE rfl (dA _ (bQ _)) (bQ _)),trivial⟩,by decide,lY⟩ rest.get
        · obtain rfl:=d1 h
          (repeat' (first|refine wS ?_|refine wK ?_|refine wU ?_|(refine wC rfl ?_ ?_<;>(intro hb;(try simp only [nm] at hb);try (exfalso;omega)))|(refine rg 41 (dR rfl (vV (aK rfl rfl) (mV ?_)));refine aY rfl rfl ?_ ?_<;>(intro hb;rw [hb];(try simp only [nm] at hb);try (exfalso;omega));(all_goals first|(refine gT (mW rfl (gT (mW rfl (gT (vV (aK rfl rfl) ?_))))))|(iterate 3 refine gF ?_));(all_goals (refine pV ?_)))|refine nZ ?_));all_goals first | (exfalso;omega) | exact gM [(0,.sl 0 0 N 3),(1,.i a),(3,.i b),(4,qZ),(18,.i mid),(24,.i e)] [.arr (wsA A1) 3] ⟨[0],rfl,(by repeat first|exact trivial|refine ⟨rfl,?_⟩),⟨.inr (aE rfl rfl (bQ _)),trivial⟩,by decide,lY⟩ rest.get
      clear c1 d1;by_cases h:mid<e∧e<b
      · have hc':=c2 h.1 h.2
        (repeat' (first|(refine wC rfl ?_ ?_<;>(intro hb;(try simp only [nm] at hb);try (exfalso;omega)))|(refine rg 43 (dR rfl (vV (aK rfl rfl) (mV ?_)));refine aY rfl rfl ?_ ?_<;>(intro hb;rw [hb];(try simp only [nm] at hb);try (exfalso;omega));(all_goals (refine yN rfl (yN rfl (yV (aK rfl rfl) (pV ?_))))))|(refine rg 44 (dR rfl (dR rfl (mW rfl (fO [0] rfl rfl (hc') rfl rfl (by decide) ⟨.inr (aE rfl rfl (bQ _)),trivial⟩ (by simp) rfl ?_)))))|refine nZ ?_));all_goals first | (exfalso;omega) | exact ⟨.inl rfl,[0],_,rfl,rfl,rfl,⟨.inr (aE rfl (dA _ (bQ _)) (bQ _)),trivial⟩,by decide,lY⟩ | exact ⟨.inr rfl,[0],_,rfl,rfl,rfl,⟨.inr (aE rfl (dA _ (bQ _)) (bQ _)),trivial⟩,by decide,lY⟩
      · obtain rfl:=d2 h
        (repeat' (first|refine wK ?_|refine wU ?_|(refine wC rfl ?_ ?_<;>(intro hb;(try simp only [nm] at hb);try (exfalso;omega)))|(refine rg 43 (dR rfl (vV (aK rfl rfl) (mV ?_)));refine aY rfl rfl ?_ ?_<;>(intro hb;rw [hb];(try simp only [nm] at hb);try (exfalso;omega));(all_goals first|(refine gT (mW rfl (gT (mW rfl (gT (vV (aK rfl rfl) ?_))))))|(iterate 3 refine gF ?_));(all_goals (refine pV ?_)))|refine nZ ?_));all_goals first | (exfalso;omega) | exact ⟨.inl rfl,[0],_,rfl,rfl,rfl,⟨.inr (aE rfl rfl (bQ _)),trivial⟩,by decide,lY⟩ | exact ⟨.inr rfl,[0],_,rfl,rfl,rfl,⟨.inr (aE rfl rfl (bQ _)),trivial⟩,by decide,lY⟩
end Go.Proofs.YtojgimibalokkaaGreat
namespace Go.Ld
open Go.Ab Go.Proofs.YtojgimibalokkaaGreat
theorem OH {Q r1 r2:List W}{a b:Nat}(ha:a=Q.length) (hb:b=a+r1.length):UP (Q++(r1++r2)) a b=Q++(eH eR r1++r2):=by
  subst ha hb;unfold UP;rw [vQ,vS,show Q.length+r1.length-Q.length=r1.length by omega,vQ,← LB,vS,vS]
theorem PD {Q r1 r2:List W}{w:W}(h:w∈(Q++eH eR r1)++r2):w∈Q++(r1++r2):=by
  rw [bU] at h;rcases bG.1 h with h | h
  · exact bG.2 (.inl h)
  · rcases bG.1 h with h | h
    · exact bG.2 (.inr (bG.2 (.inl ((dZ _ _).mem_iff.1 h))))
    · exact bG.2 (.inr (bG.2 (.inr h)))
end Go.Ld
namespace Go.Proofs.YtojgimibalokkaaGreat
open Go Go.Ab Go.Ld
attribute [local irreducible] VC AW cF aP
set_option maxHeartbeats 4000000
theorem VQ (l:List W){N:Nat}(hN:N=l.length) (hl:N≤100000) (hw:∀ w,w∈l→K0 w) :
    aP Tryz.prog 102 [.sl 0 0 N 3,.i N,qZ] [.arr (wsA l) 3] (.tup []) [.arr (wsA (eH eR l)) 3]:=by
  refine bL T Tryz.func102 rfl rfl rfl rfl ?_;apply Go.Ab.cutT
  · intro rest
    (repeat' (first|refine wS ?_|refine wB ?_|(refine rg 0 (aV ?_))|(refine rg 1 (mW rfl (lO ?_)))|refine nZ ?_));refine cX (X:={q:Nat × List W × List W // q.2.1.length=q.1∧q.1+q.2.2.length=N∧bs 20 l=q.2.1++bs 20 q.2.2∧∀ w,w∈q.2.1++q.2.2→w∈l})
      (fun q=>[(0,.sl 0 0 N 3),(1,.i N),(2,qZ),(6,.i 20),(7,.i q.1.1),(8,.i ((q.1.1:Int)+20))]) (fun q=>[.arr (wsA (q.1.2.1++q.1.2.2)) 3]) (fun q=>q.1.2.2.length) ⟨(0,[],l),by simp;omega⟩
      ⟨[0],rfl,by (repeat (first | exact trivial | refine ⟨rfl,?_⟩)),⟨.inr (aE rfl rfl (bQ _)),trivial⟩,by decide,lY⟩ ?_
    rintro ⟨⟨a,Q,r⟩,h1,h2,h3,h4⟩;dsimp only at h1 h2 h3 h4 ⊢;by_cases hlt:a+20≤N
    · obtain ⟨r1,r2,rfl,hr⟩:∃ r1 r2,r=r1++r2∧r1.length=20:=⟨r.take 20,r.drop 20,by simp,by simp;omega⟩
      rw [aF] at h2;have hc:=JA (Q++(r1++r2)) a (a+20) (by omega) (by simp;omega) (by simp;omega) (fun w hw'=>hw w (h4 w hw'))
      rw [OH h1.symm (by omega),show (Q++(r1++r2)).length=N by simp;omega,show ((a+20:Nat):Int)=(a:Int)+20 by omega] at hc
      rw [AS hr (by omega)] at h3
      (repeat' (first|refine wS ?_|refine wB ?_|refine wK ?_|(refine wC rfl ?_ ?_<;>(intro hb;(try simp only [nm] at hb);try (exfalso;omega)))|(refine rg 2 (dR rfl (vV (jP rfl rfl) ?_)))|(refine rg 3 (dR rfl (dR rfl (fO [0] rfl rfl (hc) rfl rfl (by decide) ⟨.inr (aE rfl rfl (bQ _)),trivial⟩ (by simp) rfl ?_))))|(refine rg 4 (mW rfl (aV ?_)))|(refine rg 5 (dR rfl (vV (bP rfl rfl (by omega) (by omega)) (aV ?_))))|refine nZ ?_));all_goals first | (exfalso;omega) | skip
      exact ⟨⟨(a+20,Q++eH eR r1,r2),by dsimp only;exact ⟨by rw [aF,iT];omega,by omega,by rw [h3];simp,fun w hw'=>h4 w (PD hw')⟩⟩,by dsimp only;rw [aF];omega,⟨[0],rfl,by (repeat (first | exact trivial | refine ⟨rfl,?_⟩)),⟨.inr (aE rfl (by rw [dA _ (bQ _),bU]) (bQ _)),trivial⟩,by decide,lY⟩⟩
    · have hc:=JA (Q++(r++[])) a N (by omega) (by simp;omega) (by simp;omega) (fun w hw'=>hw w (h4 w (by simpa using hw')))
      rw [OH h1.symm (by omega),List.append_nil,List.append_nil,show (Q++r).length=N by simp;omega,← Q9 (k:=20) (by omega),← h3] at hc
      (repeat' (first|refine wS ?_|refine wB ?_|refine wE ?_|(refine wC rfl ?_ ?_<;>(intro hb;(try simp only [nm] at hb);try (exfalso;omega)))|(refine rg 2 (dR rfl (vV (jP rfl rfl) ?_)))|(refine rg 6 (dR rfl (dR rfl (fO [0] rfl rfl (hc) rfl rfl (by decide) ⟨.inr (aE rfl rfl (bQ _)),trivial⟩ (by simp) rfl ?_))))|refine nZ ?_));all_goals first | (exfalso;omega) | exact gM [(0,.sl 0 0 N 3),(1,.i N),(2,qZ),(6,.i 20)] [.arr (wsA (bs 20 l)) 3] ⟨[0],rfl,by (repeat (first | exact trivial | refine ⟨rfl,?_⟩)),⟨.inr (aE rfl (dA _ (bQ _)) (bQ _)),trivial⟩,by decide,lY⟩ rest.get
  refine cX (X:={k:Nat // 20≤k∧k≤200000}) (fun k=>[(0,.sl 0 0 N 3),(1,.i N),(2,qZ),(6,.i k.1)]) (fun k=>[.arr (wsA (bs k.1 l)) 3]) (fun k=>N-k.1) ⟨20,by omega,by omega⟩
    ⟨[0],rfl,by (repeat (first | exact trivial | refine ⟨rfl,?_⟩)),⟨.inr (aE rfl rfl (bQ _)),trivial⟩,by decide,lY⟩ ?_
  rintro ⟨k,hk,hk2⟩;dsimp only;by_cases hkN:k<N
  · (repeat' (first|refine wS ?_|refine wB ?_|refine wK ?_|(refine wC rfl (fun hb=>?_) (fun hb=>?_) <;> (((try simp only [nm] at hb);try (exfalso;omega))))|(refine rg 7 (dR rfl (vV (aK rfl rfl) ?_)))|(refine rg 8 (mW rfl (vV (wX rfl rfl (by omega) (by omega)) (lO ?_))))|(refine nZ ?_)));all_goals try (exfalso;omega)
    refine cX (X:={q:Nat × List W × List W // q.2.1.length=q.1∧q.1+q.2.2.length=N∧bs (2*k) l=q.2.1++bs (2*k) q.2.2∧∀ w,w∈q.2.1++q.2.2→w∈l})
      (fun q=>[(0,.sl 0 0 N 3),(1,.i N),(2,qZ),(6,.i k),(7,.i q.1.1),(8,.i ((q.1.1:Int)+2*k))]) (fun q=>[.arr (wsA (q.1.2.1++bs k q.1.2.2)) 3]) (fun q=>q.1.2.2.length) ⟨(0,[],l),by simp;omega⟩
      ⟨[0],rfl,⟨rfl,rfl,rfl,rfl,rfl,by dsimp only;rw [show ((0:Nat):Int)+2*(k:Int)=2*k by omega];rfl,trivial⟩,⟨.inr (aE rfl rfl (bQ _)),trivial⟩,by decide,lY⟩ ?_
    rintro ⟨⟨a,Q,r⟩,h1,h2,h3,h4⟩;dsimp only at h1 h2 h3 h4 ⊢;by_cases hlt:a+2*k≤N
    · obtain ⟨r1,r2,r3,rfl,hr1,hr2⟩:∃ r1 r2 r3,r=r1++(r2++r3)∧r1.length=k∧r2.length=k:=⟨r.take k,(r.drop k).take k,(r.drop k).drop k,by simp only [bX],by simp;omega,by simp;omega⟩
      simp only [aF] at h2;have hc:=zQ6 (2*k) Q (eH eR r1) (eH eR r2) (bs k r3) (a:=a) (m:=a+k) (b:=a+2*k) (N:=N) (by omega) (by rw [iT]; omega) (by rw [iT]; omega) h1.symm (by rw [iT]; omega) (by rw [iT]; omega) (by rw [yA0]; omega) hl (lG jD _) (lG jD _)
        (fun w hw'=>hw w (h4 w (by have:=(dZ eR _).mem_iff.1 hw';simp [this]))) (fun w hw'=>hw w (h4 w (by have:=(dZ eR _).mem_iff.1 hw';simp [this])))
      rw [HQ,← AS hr2 (by omega),← AS hr1 (by omega),show ((a+2*k:Nat):Int)=(a:Int)+2*k by omega,show ((a+k:Nat):Int)=(a:Int)+k by omega] at hc
      rw [← bU r1,AS (k:=2*k) (by rw [aF];omega) (by omega)] at h3
      (repeat' (first|refine wS ?_|refine wB ?_|refine wK ?_|(refine wC rfl ?_ ?_<;>(intro hb;(try simp only [nm] at hb);try (exfalso;omega)))|(refine rg 9 (dR rfl (vV (jP rfl rfl) ?_)))|(refine rg 10 (dR rfl (dR rfl (vV (bP rfl rfl (by omega) (by omega)) (dR rfl (fO [0] rfl rfl (hc) rfl rfl (by decide) ⟨.inr (aE rfl rfl (bQ _)),trivial⟩ (by simp) rfl ?_))))))|(refine rg 11 (mW rfl (aV ?_)))|(refine rg 12 (dR rfl (vV (wX rfl rfl (by omega) (by omega)) (vV (bP rfl rfl (by omega) (by omega)) (aV ?_)))))|refine nZ ?_));all_goals first | (exfalso;omega) | skip
      exact ⟨⟨(a+2*k,Q++eH eR (r1++r2),r3),by dsimp only;exact ⟨by rw [aF,iT,aF];omega,by omega,by rw [h3];simp,fun w hw'=>h4 w (by have:=PD hw';rwa [bU] at this)⟩⟩,by dsimp only;simp only [aF];omega,⟨[0],rfl,by (repeat (first | exact trivial | refine ⟨rfl,?_⟩)),⟨.inr (aE rfl (by rw [dA _ (bQ _),bU]) (bQ _)),trivial⟩,by decide,lY⟩⟩
    · by_cases hm:a+k<N
      · obtain ⟨r1,r2,rfl,hr1⟩:∃ r1 r2,r=r1++r2∧r1.length=k:=⟨r.take k,r.drop k,by simp,by simp;omega⟩
        simp only [aF] at h2;have hc:=zQ6 (2*k) Q (eH eR r1) (eH eR r2) [] (a:=a) (m:=a+k) (b:=N) (N:=N) (by omega) (by rw [iT]; omega) (by rw [iT]; omega) h1.symm (by rw [iT]; omega) (by rw [iT]; omega) (by simp) hl (lG jD _) (lG jD _)
          (fun w hw'=>hw w (h4 w (by have:=(dZ eR _).mem_iff.1 hw';simp [this]))) (fun w hw'=>hw w (h4 w (by have:=(dZ eR _).mem_iff.1 hw';simp [this])))
        rw [HQ,List.append_nil,List.append_nil,← Q9 (k:=2*k) (l:=r1++r2) (by rw [aF];omega),← h3,← Q9 (k:=k) (l:=r2) (by omega),← AS hr1 (by omega),show ((a+k:Nat):Int)=(a:Int)+k by omega] at hc
        (repeat' (first|refine wS ?_|refine wE ?_|(refine wC rfl ?_ ?_<;>(intro hb;(try simp only [nm] at hb);try (exfalso;omega)))|(refine rg 9 (dR rfl (vV (jP rfl rfl) ?_)))|(refine rg 13 (dR rfl (vV (bP rfl rfl (by omega) (by omega)) (aV ?_))))|(refine rg 14 (dR rfl (vV (aK rfl rfl) ?_)))|(refine rg 15 (dR rfl (dR rfl (mW rfl (fO [0] rfl rfl (hc) rfl rfl (by decide) ⟨.inr (aE rfl rfl (bQ _)),trivial⟩ (by simp) rfl ?_)))))|(refine rg 16 (mW rfl (vV (wX rfl rfl (by omega) (by omega)) (aV ?_))))|refine nZ ?_));all_goals first | (exfalso;omega) | skip
        exact ⟨⟨2*k,by omega,by omega⟩,by dsimp only;omega,⟨[0],rfl,⟨rfl,rfl,rfl,by dsimp only;rw [show ((2*k:Nat):Int)=(k:Int)*2 by omega];rfl,trivial⟩,⟨.inr (aE rfl (dA _ (bQ _)) (bQ _)),trivial⟩,by decide,lY⟩⟩
      · rw [Q9 (k:=2*k) (l:=r) (by omega),← Q9 (k:=k) (l:=r) (by omega)] at h3
        rw [← h3]
        (repeat' (first|refine wS ?_|refine wK ?_|refine wE ?_|(refine wC rfl ?_ ?_<;>(intro hb;(try simp only [nm] at hb);try (exfalso;omega)))|(refine rg 9 (dR rfl (vV (jP rfl rfl) ?_)))|(refine rg 13 (dR rfl (vV (bP rfl rfl (by omega) (by omega)) (aV ?_))))|(refine rg 14 (dR rfl (vV (aK rfl rfl) ?_)))|(refine rg 16 (mW rfl (vV (wX rfl rfl (by omega) (by omega)) (aV ?_))))|refine nZ ?_));all_goals first | (exfalso;omega) | skip
        exact ⟨⟨2*k,by omega,by omega⟩,by dsimp only;omega,⟨[0],rfl,⟨rfl,rfl,rfl,by dsimp only;rw [show ((2*k:Nat):Int)=(k:Int)*2 by omega];rfl,trivial⟩,⟨.inr (aE rfl rfl (bQ _)),trivial⟩,by decide,lY⟩⟩
  · rw [Q9 (k:=k) (l:=l) (by omega)]
    (repeat' (first|refine wS ?_|refine wE ?_|(refine wC rfl ?_ ?_<;>(intro hb;(try simp only [nm] at hb);try (exfalso;omega)))|(refine rg 7 (dR rfl (vV (aK rfl rfl) ?_)))|refine nZ ?_));all_goals first | (exfalso;omega) | exact ⟨.inl rfl,[0],_,rfl,rfl,rfl,⟨.inr (aE rfl rfl (bQ _)),trivial⟩,by decide,lY⟩ | exact ⟨.inr rfl,[0],_,rfl,rfl,rfl,⟨.inr (aE rfl rfl (bQ _)),trivial⟩,by decide,lY⟩
theorem zF6 (l:List W){N:Nat}(hN:N=l.length) (hl:N≤100000) (hw:∀ w,w∈l→K0 w) :
    aP Tryz.prog 68 [.sl 0 0 N 3,qZ] [.arr (wsA l) 3] (.tup []) [.arr (wsA (eH eR l)) 3]:=by
  have hc:=VQ l hN hl hw;refine bL T Tryz.func68 rfl rfl rfl rfl ?_
  (repeat' (first|(refine rg 0 (dR rfl (qW T rfl (mW rfl (fO [0] rfl rfl (hc) rfl rfl (by decide) ⟨.inr (aE rfl rfl (bQ _)),trivial⟩ (by simp) rfl ?_)))))|refine nZ ?_));all_goals first | (exfalso;omega) | exact ⟨.inl rfl,[0],_,rfl,rfl,rfl,⟨.inr (aE rfl (dA _ (bQ _)) (bQ _)),trivial⟩,by decide,lY⟩ | exact ⟨.inr rfl,[0],_,rfl,rfl,rfl,⟨.inr (aE rfl (dA _ (bQ _)) (bQ _)),trivial⟩,by decide,lY⟩
end Go.Proofs.YtojgimibalokkaaGreat
namespace Go.Ld
open Go.Ab Go.Proofs.YtojgimibalokkaaGreat
abbrev w0:W:=([],0,[])
def zH (l:List W):Nat→List W
  | 0=>[]
  | m+1=>if 0<m∧D4 (l.getD m w0) (l.getD (m-1) w0)=true then zH l m else zH l m++[l.getD m w0]
theorem NC {l:List W}{m:Nat}(h:0<m) (e:D4 (l.getD m w0) (l.getD (m-1) w0)=true):zH l (m+1)=zH l m:=by
  rw [zH,if_pos ⟨h,e⟩]
theorem NB {l:List W}{m:Nat}(e:D4 (l.getD m w0) (l.getD (m-1) w0)=false):zH l (m+1)=zH l m++[l.getD m w0]:=by
  rw [zH,if_neg (fun q=>by rw [e] at q;cases q.2)]
theorem NA (l:List W):zH l 1=[l.getD 0 w0]:=by
  rw [zH,if_neg (fun q=>yJ1 _ q.1)];rfl
theorem EF (y:W):∀ (A:List W) (p:W),kK D4 p (A++[y])=kK D4 p A++(if D4 y ((p::A).getLastD w0)=true then [] else [y])
  | [],p=>by
    show (if D4 y p=true then [] else [y])=_
    simp [kK]
  | x::A,p=>by
    rw [List.cons_append,kK,kK,EF y A x];have e:((p::x::A).getLastD w0)=((x::A).getLastD w0):=by simp [List.getLastD]
    rw [e];split <;> simp
theorem ZJ (y:W) (A:List W) (h:A≠[]):zG D4 (A++[y])=zG D4 A++(if D4 y (A.getLastD w0)=true then [] else [y]):=by
  cases A with
  | nil=>exact absurd rfl h
  | cons x A=>rw [List.cons_append];show x::kK D4 x (A++[y])=_;rw [EF];rfl
theorem oT {l:List W}{m:Nat}(h:m<l.length):l.getD m w0=l[m]:=by rw [aC,aA h];rfl
theorem QE (l:List W):∀ m,m≤l.length→zH l m=zG D4 (l.take m)
  | 0,_=>by rw [lM];rfl
  | m+1,h=>by
    have e:l.take (m+1)=l.take m++[l.getD m w0]:=by rw [oT (by omega),aM (by omega)]
    rcases K4 m with rfl | h0
    · rw [NA,e];rfl
    · have hne:l.take m≠[]:=fun q=>by have:=congrArg List.length q;rw [bE,List.length_nil] at this;omega
      rw [e,ZJ _ _ hne,← QE l m (by omega)]
      have hl:(l.take m).getLastD w0=l.getD (m-1) w0:=by
        rw [List.getLastD_eq_getLast?,List.getLast?_eq_getElem?,bE,yA8 (by omega),List.getElem?_take_of_lt (by omega),aC]
      rw [hl];cases hq:D4 (l.getD m w0) (l.getD (m-1) w0) with
      | true=>rw [NC h0 hq,if_pos rfl,List.append_nil]
      | false=>rw [NB hq,if_neg (by simp)]
theorem zZ7 (l:List W):zH l l.length=zG D4 l:=by rw [QE l _ (aT _),cQ]
theorem yK0 {l:List W}{m i:Nat}(hm:m<l.length) (hi:i=m):(wsA l)[i]? = some (wA (l.getD m w0)):=by
  subst hi;simp [hm]
theorem NL {G l:List W}{m:Nat}{i:Nat}(hg:G.length≤m) (hm:m<l.length) (hi:i=m):(wsA (G++l.drop G.length))[i]? = some (wA (l.getD m w0)):=by
  subst hi;rw [bN,aD hg,eE,show G.length+(i-G.length)=i by omega,aA hm,oT hm];rfl
theorem zU2 {G l:List W}{x:W}{j:Int}(h:G.length<l.length) (hj:j=G.length):(wsA (G++l.drop G.length)).set (0+j.toNat) (wA x)=wsA ((G++[x])++l.drop (G++[x]).length):=by
  rw [vZ (i:=G.length) hj,bC h,oB _ _ _ _ rfl];simp
theorem SZ {G l:List W}(h:G.length≤l.length):(wsA (G++l.drop G.length)).length=l.length:=by simp;omega
theorem VK {G:List W}{l:List W}:(wsA (G++l.drop G.length)).take (0+(G.length:Int).toNat)=wsA G:=by
  rw [Nat.zero_add,bR,← jO,vQ]
end Go.Ld
namespace Go.Proofs.YtojgimibalokkaaGreat
open Go Go.Ab Go.Ld
attribute [local irreducible] VC AW cF aP
set_option maxHeartbeats 4000000
abbrev yI3:AV:=.clo (.func 74) [] []
theorem MY (l:List W) (hl:l.length≤1000000) (hw:∀ w,w∈l→K0 w):aP Tryz.prog 73 [.sl 0 0 l.length 3,yI3] [.arr (wsA l) 3] (.sl 0 0 (zG D4 l).length 3) [.arr (wsA (zG D4 l)) 3]:=by
  rw [← zZ7];have hll:(wsA l).length=l.length:=eZ l;refine bL T Tryz.func73 rfl rfl rfl rfl ?_;by_cases h2:l.length<2
  · have hk:zH l l.length=l:=by
      match l,h2 with
      | [],_=>rfl
      | [a],_=>exact NA _
      | _::_::_,h=>exact absurd h (by simp)
    rw [hk]
    (repeat' (first|refine wS ?_|refine wR ?_|(refine wC rfl ?_ ?_<;>(intro hb;(try simp only [nm] at hb);try (exfalso;omega)))|(refine rg 0 (aV ?_))|(refine rg 1 (mW rfl (qW T rfl (vV (aK rfl rfl) ?_))))|(refine rg 2 (mW rfl (aV ?_)))|refine nZ ?_));all_goals first | (exfalso;omega) | exact ⟨.inl rfl,[0],_,rfl,rfl,rfl,⟨.inr (aE rfl rfl (bQ _)),trivial⟩,by decide,lY⟩
  · (repeat' (first|refine wS ?_|refine wB ?_|refine wK ?_|(refine wC rfl (fun hb=>?_) (fun hb=>?_) <;> (((try simp only [nm] at hb);try (exfalso;omega))))|(refine rg 0 (aV ?_))|(refine rg 1 (mW rfl (qW T rfl (vV (aK rfl rfl) ?_))))|(refine rg 3 (aV ?_))|(refine nZ ?_)));all_goals try (exfalso;omega)
    refine cX (X:={k:Nat // 1≤k∧k≤l.length∧zH l k=l.take k}) (fun k=>[(0,.sl 0 0 l.length 3),(1,yI3),(5,.i k.1)]) (fun _=>[.arr (wsA l) 3]) (fun k=>l.length-k.1) ⟨1,by omega,by omega,by rw [NA,oT (by omega),aM (by omega)];rfl⟩ ⟨[0],rfl,by (repeat (first | exact trivial | refine ⟨rfl,?_⟩)),⟨.inr (aE rfl rfl (bQ _)),trivial⟩,by decide,lY⟩ ?_
    rintro ⟨k,hk1,hk,hkc⟩;dsimp only;by_cases hlt:k<l.length
    · have e1:=yK0 (i:=0+(k:Int).toNat) hlt (by omega)
      have e2:=yK0 (l:=l) (m:=k-1) (i:=0+((k:Int)-1).toNat) (by omega) (by omega)
      have hc:=Y6 (l.getD k w0) (l.getD (k-1) w0) (hw _ (by rw [oT hlt];exact aI _)) (hw _ (by rw [oT (by omega)];exact aI _))
      cases hd:D4 (l.getD k w0) (l.getD (k-1) w0) with
      | true=>
        have hc1:=NC (l:=l) hk1 hd;rw [hkc] at hc1;rw [hd] at hc;clear hd;generalize l.getD k w0=a at *;generalize l.getD (k-1) w0=b at *
        (repeat' (first|refine wS ?_|refine wB ?_|refine wK ?_|refine wT ?_|(refine wC rfl ?_ ?_<;>(intro hb;(try simp only [nm] at hb);try (exfalso;omega)))|(refine rg 4 (dR rfl (qW T rfl (vV (aK rfl rfl) ?_))))|(refine sX (id:=6) 10 66 yM8 yM9 (rM 18 10) yN0 cK rfl (by decide +kernel) (by decide +kernel) ?_;(dsimp only [List.take,List.drop]);refine dN rfl (dN rfl (dN rfl (dV rfl (by exact aQ T rfl rfl rfl rfl rfl (by omega) (by omega)) ?_)));refine dV rfl (by exact bD T rfl rfl (bV rfl e1) rfl) ?_;refine dN rfl (dN rfl (dV rfl (cH rfl rfl (by omega) (by omega)) (dV rfl (by exact aQ T rfl rfl rfl rfl rfl (by omega) (by omega)) ?_)));refine dV rfl (by exact bD T rfl rfl (bV rfl e2) rfl) ?_;refine dE ?_;refine iD ?_;refine vV (kC (hc)) ?_)|(refine rg 7 (dR rfl (vV (by exact kO T rfl rfl rfl rfl rfl rfl (by omega) (by omega) (by omega)) ?_));refine aV ?_)|(refine rg 8 (aV ?_))|refine nZ ?_));all_goals try (exfalso;omega)
        have hl1:(zH l (k+1)).length=k:=by rw [hc1];simp;omega
        refine cX (X:={j:Nat // 1≤j∧k+j≤l.length∧(zH l (k+j)).length+1≤k+j}) (fun j=>[(0,.sl 0 0 l.length 3),(1,yI3),(5,.i (zH l (k+j.1)).length),(6,.sl 0 (0+(k:Int).toNat) ((l.length:Int)-(k:Int)).toNat 3),(7,.i j.1)]) (fun j=>[.arr (wsA (zH l (k+j.1)++l.drop (zH l (k+j.1)).length)) 3]) (fun j=>l.length-(k+j.1)) ⟨1,by omega,by omega,by omega⟩ ⟨[0],rfl,⟨rfl,rfl,by dsimp only;rw [hl1];rfl,rfl,rfl,trivial⟩,⟨.inr (aE rfl (by dsimp only;rw [hl1,hc1,bX]) (bQ _)),trivial⟩,by decide,lY⟩ ?_
        clear e1 e2 hl1 hc1 hc a b;rintro ⟨j,hj1,hj,hjc⟩;dsimp only;by_cases hjl:k+j<l.length
        · have e1:=NL (G:=zH l (k+j)) (l:=l) (m:=k+j) (i:=0+(k:Int).toNat+(j:Int).toNat) (by omega) hjl (by omega)
          have e2:=NL (G:=zH l (k+j)) (l:=l) (m:=k+j-1) (i:=0+(k:Int).toNat+((j:Int)-1).toNat) (by omega) (by omega) (by omega)
          have e3:=NL (G:=zH l (k+j)) (l:=l) (m:=(zH l (k+j)).length) (i:=0+(((zH l (k+j)).length:Nat):Int).toNat) (aT _) (by omega) (by omega)
          have hset:=zU2 (G:=zH l (k+j)) (l:=l) (x:=l.getD (k+j) w0) (j:=(((zH l (k+j)).length:Nat):Int)) (by omega) rfl
          have hal:=SZ (G:=zH l (k+j)) (l:=l) (by omega)
          have hdup:=NC (l:=l) (m:=k+j) (by omega)
          have hnew:=NB (l:=l) (m:=k+j);have hc:=Y6 (l.getD (k+j) w0) (l.getD (k+j-1) w0) (hw _ (by rw [oT hjl];exact aI _)) (hw _ (by rw [oT (by omega)];exact aI _))
          have hnl:∀ G:List W,(G++[l.getD (k+j) w0]).length=G.length+1:=fun G=>by simp
          rw [show k+j+1=k+(j+1) by omega] at hdup hnew
          generalize l.getD (k+j) w0=a at *;generalize l.getD (k+j-1) w0=b at *;generalize l.getD (zH l (k+j)).length w0=y at *;generalize zH l (k+j)=G at *;cases hd:D4 a b with
          | true=>
            have hdup:=hdup hd;rw [hd] at hc;generalize hA:wsA (G++l.drop G.length)=A at *
            (repeat' (first|refine wS ?_|refine wB ?_|refine wK ?_|refine wU ?_|(refine wC rfl ?_ ?_<;>(intro hb;(try simp only [nm] at hb);try (exfalso;omega)))|(refine rg 9 (dR rfl (qW T rfl (vV (aK rfl rfl) ?_))))|(refine bO (id:=11) 66 yN1 (rM 38 12) yN2 cK rfl (by decide +kernel) (dN rfl (dN rfl (dN rfl (dV rfl (by exact aQ T rfl rfl rfl rfl rfl (by omega) (by omega)) ?_))));refine dV rfl (by exact bD T rfl rfl (bV rfl e1) rfl) ?_;refine dN rfl (dN rfl (dV rfl (cH rfl rfl (by omega) (by omega)) (dV rfl (by exact aQ T rfl rfl rfl rfl rfl (by omega) (by omega)) ?_)));refine dV rfl (by exact bD T rfl rfl (bV rfl e2) rfl) ?_;refine dV rfl (kC (hc)) (dV rfl (cT rfl) (dE ?_)))|(refine iA 10 rfl rfl rfl (by omega) (by omega) ?_)|refine nZ ?_));all_goals try (exfalso;omega)
            all_goals exact ⟨⟨j+1,by omega,by omega,by rw [hdup];omega⟩,by dsimp only;omega,[0],rfl,⟨rfl,rfl,by dsimp only;rw [hdup];rfl,rfl,rfl,trivial⟩,⟨.inr (aE rfl (by dsimp only;rw [hdup];exact hA.symm) (bQ _)),trivial⟩,by decide,lY⟩
          | false=>
            have hnew:=hnew hd;have hgl:=hnl G;rw [hd] at hc;generalize hA:wsA (G++l.drop G.length)=A at *
            (repeat' (first|refine wS ?_|refine wB ?_|refine wK ?_|refine wT ?_|(refine wC rfl ?_ ?_<;>(intro hb;(try simp only [nm] at hb);try (exfalso;omega)))|(refine rg 9 (dR rfl (qW T rfl (vV (aK rfl rfl) ?_))))|(refine bO (id:=11) 66 yN1 (rM 38 12) yN2 cK rfl (by decide +kernel) (dN rfl (dN rfl (dN rfl (dV rfl (by exact aQ T rfl rfl rfl rfl rfl (by omega) (by omega)) ?_))));refine dV rfl (by exact bD T rfl rfl (bV rfl e1) rfl) ?_;refine dN rfl (dN rfl (dV rfl (cH rfl rfl (by omega) (by omega)) (dV rfl (by exact aQ T rfl rfl rfl rfl rfl (by omega) (by omega)) ?_)));refine dV rfl (by exact bD T rfl rfl (bV rfl e2) rfl) ?_;refine dV rfl (kC (hc)) (dV rfl (cT rfl) (dE ?_)))|(refine rg 12 (dR rfl (dR rfl (vV (by exact aQ T rfl rfl rfl rfl rfl (by omega) (by omega)) ?_)));refine vV (by exact bD T rfl rfl (bV rfl e1) rfl) ?_;refine vV (by exact aQ T rfl rfl rfl rfl rfl (by omega) (by omega)) ?_;refine aU T rfl rfl rfl rfl rfl rfl (by decide) (lQ rfl e3 rfl) ?_)|(refine iA 13 rfl rfl rfl (by omega) (by omega) ?_)|(refine iA 10 rfl rfl rfl (by omega) (by omega) ?_)|refine nZ ?_));all_goals try (exfalso;omega)
            all_goals exact ⟨⟨j+1,by omega,by omega,by rw [hnew];omega⟩,by dsimp only;omega,[0],rfl,⟨rfl,rfl,by dsimp only;rw [hnew,hgl];rfl,rfl,rfl,trivial⟩,⟨.inr (aE rfl (by dsimp only;rw [hnew];exact hset) (bQ _)),trivial⟩,by decide,lY⟩
        · have hkj:k+j=l.length:=by omega
          have hcm:zH l l.length=zH l (k+j):=by rw [hkj]
          have hal:=SZ (G:=zH l (k+j)) (l:=l) (by omega)
          have htk:=VK (G:=zH l (k+j)) (l:=l);rw [hcm];generalize zH l (k+j)=G at *
          (repeat' (first|refine wS ?_|refine wR ?_|refine wE ?_|(refine wC rfl ?_ ?_<;>(intro hb;(try simp only [nm] at hb);try (exfalso;omega)))|(refine rg 9 (dR rfl (qW T rfl (vV (aK rfl rfl) ?_))))|(refine rg 14 (dR rfl (vV (by exact kO T rfl rfl rfl rfl rfl rfl (by omega) (by omega) (by omega)) ?_));refine L0 T rfl rfl rfl ⟨rfl,rfl,by decide⟩ rfl (by rw [hal];omega) ?_)|(refine rg 15 (dR rfl (vV (by exact kO T rfl rfl rfl rfl rfl rfl (by omega) (by omega) (by omega)) ?_));refine aV ?_)|refine nZ ?_));all_goals try (exfalso;omega)
          all_goals exact ⟨.inl rfl,[0],_,rfl,(by show AV.sl 0 0 ((G.length:Int)-0).toNat 3=AV.sl 0 0 G.length 3;rw [show ((G.length:Int)-0).toNat=G.length by omega]),rfl,⟨.inr (aE rfl htk (bQ _)),trivial⟩,by decide,lY⟩
      | false=>
        have hnew:=NB (l:=l) hd;rw [hkc,oT hlt,← aM hlt] at hnew;rw [hd] at hc;clear hd;generalize l.getD k w0=a at *;generalize l.getD (k-1) w0=b at *
        (repeat' (first|refine wS ?_|refine wB ?_|refine wK ?_|refine wU ?_|(refine wC rfl ?_ ?_<;>(intro hb;(try simp only [nm] at hb);try (exfalso;omega)))|(refine rg 4 (dR rfl (qW T rfl (vV (aK rfl rfl) ?_))))|(refine sX (id:=6) 10 66 yM8 yM9 (rM 18 10) yN0 cK rfl (by decide +kernel) (by decide +kernel) ?_;(dsimp only [List.take,List.drop]);refine dN rfl (dN rfl (dN rfl (dV rfl (by exact aQ T rfl rfl rfl rfl rfl (by omega) (by omega)) ?_)));refine dV rfl (by exact bD T rfl rfl (bV rfl e1) rfl) ?_;refine dN rfl (dN rfl (dV rfl (cH rfl rfl (by omega) (by omega)) (dV rfl (by exact aQ T rfl rfl rfl rfl rfl (by omega) (by omega)) ?_)));refine dV rfl (by exact bD T rfl rfl (bV rfl e2) rfl) ?_;refine dE ?_;refine iD ?_;refine vV (kC (hc)) ?_)|(refine iA 5 rfl rfl rfl (by omega) (by omega) ?_)|refine nZ ?_));all_goals try (exfalso;omega)
        all_goals exact ⟨⟨k+1,by omega,hlt,hnew⟩,by dsimp only;omega,[0],rfl,by (repeat (first | exact trivial | refine ⟨rfl,?_⟩)),⟨.inr (aE rfl rfl (bQ _)),trivial⟩,by decide,lY⟩
    · obtain rfl:k=l.length:=by omega
      have hcm:zH l l.length=l:=by rw [hkc,cQ]
      rw [hcm]
      (repeat' (first|refine wS ?_|refine wR ?_|refine wE ?_|(refine wC rfl ?_ ?_<;>(intro hb;(try simp only [nm] at hb);try (exfalso;omega)))|(refine rg 4 (dR rfl (qW T rfl (vV (aK rfl rfl) ?_))))|(refine rg 16 (mW rfl (aV ?_)))|refine nZ ?_));all_goals first | (exfalso;omega) | exact ⟨.inl rfl,[0],_,rfl,rfl,rfl,⟨.inr (aE rfl rfl (bQ _)),trivial⟩,by decide,lY⟩
theorem KA (l:List W) (hl:l.length≤1000000):aP Tryz.prog 67 [.rowE (wsA l) 3] [] (.sl 0 0 l.length 3) [.arr (wsA l) 3]:=by
  have hll:(wsA l).length=l.length:=eZ l;refine bL T Tryz.func67 rfl rfl rfl rfl ?_
  repeat' (first|refine wS ?_|refine wK ?_|refine wT ?_|refine wU ?_|(refine rg 0 (aV ?_))|(refine rg 1 (mV ?_);refine sA T rfl rfl rfl rfl fun b hb=>?_;cases b)|refine nZ ?_)
  · (repeat' (first|refine wR ?_|(refine rg 3 (bS (by exact bF T rfl rfl (by decide) (by decide) rfl rfl rfl) rfl ?_);refine mW rfl (gD T rfl rfl rfl rfl rfl rfl (by decide) (.row (nH l)) (zS6 l) (by simp;omega) (by simp;omega) rfl ?_);refine aV ?_)|(refine nZ ?_)));exact ⟨.inl rfl,[1],_,rfl,(by show AV.sl 1 0 (0+(wsA l).length) 3=AV.sl 1 0 l.length 3;simp),rfl,⟨.inr (aE rfl rfl (bQ _)),trivial⟩,by decide,K8⟩
  · have hl0:l=[]:=fP.1 (Classical.byContradiction fun h=>by have:=hb (by omega);cases this)
    subst hl0
    (repeat' (first|refine wR ?_|(refine rg 2 (vV (dS rfl) (rY 2 3 rfl (by decide) ?_)))|refine nZ ?_));exact ⟨.inl rfl,[0],_,rfl,rfl,rfl,⟨.inr (aE rfl rfl (bQ _)),trivial⟩,by decide,K8⟩
theorem iG:∀ {es:List (List AV)},(∀ e,e∈es→AV.idfL e=true)→AV.idfL es.flatten=true
  | [],_=>rfl
  | e::es,h=>by
    have h1:=h e aR;have h2:=iG (es:=es) fun q hq=>h q (aL _ hq);rw [eQ];generalize es.flatten=F at *;clear h
    induction e with
    | nil=>exact h2
    | cons x e ih=>
      simp only [List.cons_append,AV.idfL,aJ] at h1 ⊢;exact ⟨h1.1,ih h1.2⟩
theorem DD (l:List W) (hl:l.length≤100000) (hw:∀ w,w∈l→K0 w):aP Tryz.prog 30 [.rowE (wsA l) 3] [] (.rowE (wsA (fN l)) 3) []:=by
  refine jS (by simp:(fN l).length=(wsA (fN l)).length) (iG (bQ _)) ?_
  have h1:=KA l (by omega)
  have h2:=zF6 l rfl hl hw;have h3:=MY (eH eR l) (by rw [iT];omega) (fun w h=>hw w ((dZ _ _).mem_iff.1 h))
  rw [iT] at h3;show aP _ _ _ _ (.sl 0 0 (zG D4 (eH eR l)).length 3) [.arr (wsA (zG D4 (eH eR l))) 3];generalize zG D4 (eH eR l)=R at *;refine bL T Tryz.func30 rfl rfl rfl rfl ?_
  (repeat' (first|refine wS ?_|refine wR ?_|(refine rg 0 (aV ?_))|(refine rg 1 (mW rfl (bS (by exact hO rfl rfl h1 (.inr ⟨rfl,rfl,by simp⟩)) rfl ?_));refine aV ?_)|(refine rg 2 (mW rfl (fO [0] rfl rfl (h2) rfl rfl (by decide) ⟨.inr (aE rfl (dA _ (bQ _)) (bQ _)),trivial⟩ (by simp) rfl ?_)))|(refine rg 3 (mW rfl (fO [0] rfl rfl (h3) rfl rfl (by decide) ⟨.inr (aE rfl (dA _ (bQ _)) (bQ _)),trivial⟩ (by simp) rfl ?_));refine aV ?_)|refine nZ ?_));all_goals exact ⟨.inl rfl,[0],_,rfl,rfl,rfl,⟨.inr (aE rfl (dA _ (bQ _)) (bQ _)),trivial⟩,by decide,fun i h=>absurd h (cW _)⟩
end Go.Proofs.YtojgimibalokkaaGreat
namespace Go.Ab
open Go
mutual
def AV.pln:AV→Bool
  | .v _=>true
  | .any=>true
  | .row ..=>true
  | .mrow ..=>true
  | .pr ..=>true
  | .agg cs=>AV.plnL cs
  | _=>false
def AV.plnL:List AV→Bool
  | []=>true
  | x::l=>AV.pln x&&AV.plnL l
end
mutual
theorem RC {h:Hp}:∀ (x:AV),x.pln=true→oK h x x
  | .v x,_=>.v x
  | .any,_=>.any
  | .row cs l s,_=>.row cs l s
  | .mrow ks vs,_=>.mrow ks vs
  | .pr cs o,_=>.pr cs o
  | .agg cs,e=>.agg (lP cs (by simpa [AV.pln] using e))
  | .ptr ..,e | .ep ..,e | .sl ..,e | .mp ..,e | .tup ..,e | .clo ..,e | .cond ..,e | .ifc ..,e=>by simp [AV.pln] at e
theorem lP {h:Hp}:∀ (xs:List AV),AV.plnL xs=true→mG h xs xs
  | [],_=>.nil
  | x::l,e=>by
    simp only [AV.plnL,aJ] at e;exact .cons (RC x e.1) (lP l e.2)
end
theorem P4:∀ (a b:List AV),AV.plnL (a++b)=(AV.plnL a&&AV.plnL b)
  | [],b=>by simp [AV.plnL]
  | x::a,b=>by simp [AV.plnL,P4 a b,Bool.and_assoc]
theorem sH {α:Type}{g:α→List AV}(hg:∀ a,AV.plnL (g a)=true):∀ l:List α,AV.plnL (l.map g).flatten=true
  | []=>rfl
  | a::l=>by rw [List.map_cons,eQ,P4,hg a,sH hg l];rfl
theorem qG {h:Hp}{k n sz:Nat}{es:List (List AV)}(hk:h[k]? = some (.arr es sz)) (hn:n=es.length) (hp:AV.plnL es.flatten=true):oK h (.sl k 0 n sz) (.rowE es sz):=by
  subst hn;refine oK.sl hk (by omega) ?_
  rw [lN,cQ];exact lP _ hp
end Go.Ab
namespace Go.Ld
open Go.Ab Go.Proofs.YtojgimibalokkaaGreat
theorem iE (l:List SP):(fI l).length=l.length:=aX _
theorem fD (l:List SP):∀ e,e∈fI l→AV.idfL e=true:=by intro e he;obtain ⟨i,_,rfl⟩:=bB.1 he;rfl
theorem CO (l:List SP):(fI l).flatten.all AV.one=true:=by
  induction l with
  | nil=>rfl
  | cons x l ih=>exact ih
theorem uS {l:List SP}{j:Int}{i:Nat}(h:i<l.length) (e:j=i):(fI l)[j.toNat]? = some [AV.i (l.getD i (0,0)).1,AV.i (l.getD i (0,0)).2]:=by
  subst e;rw [bR,bN,aA h,aC,aA h];rfl
theorem G5 {l:List SP}{j:Int}{i:Nat}(h:i<l.length) (e:j=i):(fI l)[0+j.toNat]? = some [AV.i (l.getD i (0,0)).1,AV.i (l.getD i (0,0)).2]:=by
  rw [Nat.zero_add];exact uS h e
theorem V8 {l:List SP}{j:Int}{i:Nat}{r:SP}(e:j=i):(fI l).set (0+j.toNat) [AV.i r.1,AV.i r.2]=fI (l.set i r):=by
  subst e;rw [Nat.zero_add,bR];show _=List.map (fun p:SP=>[AV.i p.1,AV.i p.2]) (l.set i r);rw [rH]
end Go.Ld
namespace Go.Proofs.YtojgimibalokkaaGreat
open Go Go.Ab Go.Ld
attribute [local irreducible] VC AW cF aP
set_option maxHeartbeats 4000000
theorem kP (l:List Nat):∀ i:Nat,i<0→l[i]? = some i:=fun i h=>absurd h (cW _)
theorem ZK (l:List SP) (hl:l.length≤1000000):aP Tryz.prog 98 [.rowE (fI l) 2] [] (.sl 0 0 l.length 2) [.arr (fI l) 2]:=by
  have hll:(fI l).length=l.length:=iE l;refine bL T Tryz.func98 rfl rfl rfl rfl ?_
  repeat' (first|refine wS ?_|refine wK ?_|refine wT ?_|refine wU ?_|(refine rg 0 (aV ?_))|(refine rg 1 (mV ?_);refine sA T rfl rfl rfl rfl fun b hb=>?_;cases b)|refine nZ ?_)
  · (repeat' (first|refine wR ?_|(refine rg 3 (bS (by exact bF T rfl rfl (by decide) (by decide) rfl rfl rfl) rfl ?_);refine mW rfl (gD T rfl rfl rfl rfl rfl rfl (by decide) (.row (lB l)) (CO l) (by simp;omega) (by simp;omega) rfl ?_);refine aV ?_)|(refine nZ ?_)));exact ⟨.inl rfl,[1],_,rfl,(by show AV.sl 1 0 (0+(fI l).length) 2=AV.sl 1 0 l.length 2;simp),rfl,⟨.inr (aE rfl rfl (fD _)),trivial⟩,by decide,kP _⟩
  · have hl0:l=[]:=fP.1 (Classical.byContradiction fun h=>by have:=hb (by omega);cases this)
    subst hl0
    (repeat' (first|refine wR ?_|(refine rg 2 (vV (dS rfl) (rY 2 2 rfl (by decide) ?_)))|refine nZ ?_));exact ⟨.inl rfl,[0],_,rfl,rfl,rfl,⟨.inr (aE rfl rfl (fD _)),trivial⟩,by decide,kP _⟩
theorem U0 (w:W) (hw:K0 w):aP Tryz.prog 61 [CG w] [] (.agg [.sl 0 0 w.1.length 1,.i w.2.1,.sl 1 0 w.2.2.length 2]) [.arr (ints w.1) 1,.arr (fI w.2.2) 2]:=by
  obtain ⟨p,m,c⟩:=w;have h1:=J4 p (by have:=hw.1;dsimp only at this;omega)
  have h2:=ZK c hw.2;dsimp only;refine bL T Tryz.func61 rfl rfl rfl rfl ?_
  (repeat' (first|refine wS ?_|refine wR ?_|(refine rg 0 (bS (bZ rfl rfl) rfl (bS (bM T rfl) rfl ?_)))|(refine bO (id:=1) 12 [[],[0],[0,1],[],[3],[],[5],[0,1,2,5,6],rN 8] (rM 3 9) [[],[],[],[3,4,5],[3,4,5],rM 3 5,rM 3 5,[6,7],[]] cK rfl (by decide +kernel) (dP T rfl (dO T rfl (uL rfl rfl rfl (by exact hO rfl rfl h1 (.inr ⟨rfl,rfl,by simp⟩)) rfl ?_)));refine dP T rfl (dO T rfl (dP T rfl (dO T rfl (uL rfl rfl rfl (by exact hO rfl rfl h2 (.inr ⟨rfl,rfl,by simp⟩)) rfl ?_))));refine dV rfl (by exact gG T rfl rfl rfl rfl) ?_;refine dE ?_;refine aU T rfl rfl rfl rfl rfl rfl (by decide) rfl ?_)|refine nZ ?_));all_goals exact ⟨.inl rfl,[2,3],_,rfl,rfl,rfl,⟨.inr (aE rfl (dA _ (cJ p)) (cJ p)),.inr (aE rfl (dA _ (fD c)) (fD c)),trivial⟩,by decide,kP _⟩
theorem E0 {h:Hp}{k n:Nat}{l:List SP}(hk:h[k]? = some (.arr (fI l) 2)) (hn:n=l.length):oK h (.sl k 0 n 2) (.rowE (fI l) 2):=qG hk (by rw [hn,iE]) (sH (fun _=>rfl) _)
theorem QF (w:W) (hw:K0 w):aP Tryz.prog 61 [CG w] [] (CG w) []:=
  xK (U0 w hw) (.agg (.cons (zU rfl rfl) (.cons (.v _) (.cons (E0 rfl rfl) .nil))))
theorem zY5 (w:W){i k:Nat}(hw:K0 w) (hi:i<w.1.length) (hk:k<w.1.length) (hc:w.2.2.length=w.1.length) :
    aP Tryz.prog 29 [CG w,.i i,.i k] [] (.agg [.sl 0 0 w.1.length 1,.i w.2.1,.sl 1 0 w.2.2.length 2]) [.arr (ints (oV w i k).1) 1,.arr (fI (oV w i k).2.2) 2]:=by
  have hcl:=U0 w hw;obtain ⟨p,m,c⟩:=w;have hw1:=hw.1;have hw2:=hw.2;dsimp only at hi hk hc hcl hw1 hw2;have p1:=H8 (l:=p) (j:=(i:Int)) (i:=i) 0 hi rfl;have p2:=H8 (l:=p) (j:=(k:Int)) (i:=k) 0 hk rfl;have ps:=PH (l:=p) (j:=(i:Int)) (i:=i) (x:=p.getD k 0) rfl;have p3:=H8 (l:=p.set i (p.getD k 0)) (j:=(k:Int)) (i:=k) 0 (by simpa using hk) rfl
  have pt:=PH (l:=p.set i (p.getD k 0)) (j:=(k:Int)) (i:=k) (x:=p.getD i 0) rfl;have c1:=G5 (l:=c) (j:=(i:Int)) (i:=i) (by omega) rfl
  have c2:=G5 (l:=c) (j:=(k:Int)) (i:=k) (by omega) rfl
  have cs:=V8 (l:=c) (j:=(i:Int)) (i:=i) (r:=c.getD k (0,0)) rfl;have c3:=G5 (l:=c.set i (c.getD k (0,0))) (j:=(k:Int)) (i:=k) (by rw [gW];omega) rfl
  have ct:=V8 (l:=c.set i (c.getD k (0,0))) (j:=(k:Int)) (i:=k) (r:=c.getD i (0,0)) rfl;show aP _ _ _ _ _ [.arr (ints ((p.set i (p.getD k 0)).set k (p.getD i 0))) 1,.arr (fI ((c.set i (c.getD k (0,0))).set k (c.getD i (0,0)))) 2];have hlp:(ints p).length=p.length:=dH _;have hlc:(fI c).length=c.length:=iE _;dsimp only;refine bL T Tryz.func29 rfl rfl rfl rfl ?_
  (repeat' (first|refine wS ?_|(refine rg 0 (bS (bZ rfl rfl) rfl (bS (bM T rfl) rfl ?_)))|(refine rg 1 (lW T rfl (bS (by exact hO rfl rfl hcl (.inr ⟨rfl,rfl,by simp⟩)) rfl ?_));refine aU T rfl rfl rfl rfl rfl rfl (by decide) rfl ?_)|refine nZ ?_));refine gM [(1,.i i),(2,.i k),(3,.ptr 0 0),(6,.ptr 1 0)] [.cells [.sl 2 0 p.length 1,.i m,.sl 3 0 c.length 2],.cells [.nils,.i 0,.nils],.arr (ints p) 1,.arr (fI c) 2] ⟨[0,1,2,3],rfl,(by repeat first|exact trivial|refine ⟨rfl,?_⟩),⟨.inr rfl,.inr rfl,.inr (aE rfl (dA _ (cJ p)) (cJ p)),.inr (aE rfl (dA _ (fD c)) (fD c)),trivial⟩,by decide,kP _⟩ ?_
  rw [← ps] at p3 pt;rw [← cs] at c3 ct;generalize p.getD k 0=x at *;generalize p.getD i 0=y at *;generalize c.getD k (0,0)=r at *;generalize c.getD i (0,0)=q at *
  (repeat' (first|refine wS ?_|refine wR ?_|(refine oD (id:=2) 46 yN3 (rM 9 17) [[],[],[9,10],[9,10,11],[9,10,11],rM 9 5,rM 9 6,rM 9 6,rM 9 8,rM 9 6,rM 9 6,rM 9 11,rM 9 11,rM 9 13,rM 9 11,rM 9 11,[12,13,14],[12,13,14]] [(17,2)] cK rfl (by decide +kernel) (dB rfl rfl rfl rfl (by exact cY T rfl rfl rfl) ?_);refine dB rfl rfl rfl rfl (by exact bD T rfl rfl rfl rfl) ?_;refine dB rfl rfl rfl rfl (by exact cP rfl) ?_;refine dB rfl rfl rfl rfl (by exact cY T rfl rfl rfl) ?_;refine dB rfl rfl rfl rfl (by exact bD T rfl rfl rfl rfl) ?_;refine dB rfl rfl rfl rfl (by exact cP rfl) ?_;refine dB rfl rfl rfl rfl (by exact cY T rfl rfl rfl) ?_;refine dB rfl rfl rfl rfl (by exact bD T rfl rfl rfl rfl) ?_;refine dB rfl rfl rfl rfl (by exact cP rfl) ?_;refine dB rfl rfl rfl rfl (by exact aQ T rfl rfl rfl rfl rfl (by omega) (by omega)) ?_;refine dB rfl rfl rfl rfl (by exact bD T rfl rfl (bV rfl p2) rfl) ?_;refine dB rfl rfl rfl rfl (by exact cY T rfl rfl rfl) ?_;refine dB rfl rfl rfl rfl (by exact bD T rfl rfl rfl rfl) ?_;refine dB rfl rfl rfl rfl (by exact cP rfl) ?_;refine dB rfl rfl rfl rfl (by exact aQ T rfl rfl rfl rfl rfl (by omega) (by omega)) ?_;refine dB rfl rfl rfl rfl (by exact bD T rfl rfl (bV rfl p1) rfl) ?_;refine dB rfl rfl rfl rfl (by exact aQ T rfl rfl rfl rfl rfl (by omega) (by omega)) ?_;refine xC rfl rfl rfl rfl (aS rfl) T rfl rfl rfl rfl rfl rfl (by decide) (wG rfl p1 rfl) ?_;refine rP rfl rfl rfl (by exact rfl) ?_;refine vV (by exact aQ T rfl rfl rfl rfl rfl (by omega) (by omega)) ?_;refine aU T rfl rfl rfl rfl rfl rfl (by decide) (lQ rfl p3 rfl) ?_)|(refine oD (id:=3) 46 yN3 (rM 27 17) [[],[],[27,28],[27,28,29],[27,28,29],rM 27 5,rM 27 6,rM 27 6,rM 27 8,rM 27 6,rM 27 6,rM 27 11,rM 27 11,rM 27 13,rM 27 11,rM 27 11,[30,31,32],[30,31,32]] [(17,3)] cK rfl (by decide +kernel) (dB rfl rfl rfl rfl (by exact cY T rfl rfl rfl) ?_);refine dB rfl rfl rfl rfl (by exact bD T rfl rfl rfl rfl) ?_;refine dB rfl rfl rfl rfl (by exact cP rfl) ?_;refine dB rfl rfl rfl rfl (by exact cY T rfl rfl rfl) ?_;refine dB rfl rfl rfl rfl (by exact bD T rfl rfl rfl rfl) ?_;refine dB rfl rfl rfl rfl (by exact cP rfl) ?_;refine dB rfl rfl rfl rfl (by exact cY T rfl rfl rfl) ?_;refine dB rfl rfl rfl rfl (by exact bD T rfl rfl rfl rfl) ?_;refine dB rfl rfl rfl rfl (by exact cP rfl) ?_;refine dB rfl rfl rfl rfl (by exact aQ T rfl rfl rfl rfl rfl (by omega) (by omega)) ?_;refine dB rfl rfl rfl rfl (by exact bD T rfl rfl (bV rfl c2) rfl) ?_;refine dB rfl rfl rfl rfl (by exact cY T rfl rfl rfl) ?_;refine dB rfl rfl rfl rfl (by exact bD T rfl rfl rfl rfl) ?_;refine dB rfl rfl rfl rfl (by exact cP rfl) ?_;refine dB rfl rfl rfl rfl (by exact aQ T rfl rfl rfl rfl rfl (by omega) (by omega)) ?_;refine dB rfl rfl rfl rfl (by exact bD T rfl rfl (bV rfl c1) rfl) ?_;refine dB rfl rfl rfl rfl (by exact aQ T rfl rfl rfl rfl rfl (by omega) (by omega)) ?_;refine xC rfl rfl rfl rfl (aS rfl) T rfl rfl rfl rfl rfl rfl (by decide) (wG rfl c1 rfl) ?_;refine rP rfl rfl rfl (by exact rfl) ?_;refine vV (by exact aQ T rfl rfl rfl rfl rfl (by omega) (by omega)) ?_;refine aU T rfl rfl rfl rfl rfl rfl (by decide) (lQ rfl c3 rfl) ?_)|(refine rg 4 (vV (bD T rfl rfl rfl rfl) (aU T rfl rfl rfl rfl rfl rfl (by decide) rfl ?_)))|refine nZ ?_));all_goals exact ⟨.inl rfl,[2,3],_,rfl,rfl,rfl,⟨.inr (aE rfl pt (cJ _)),.inr (aE rfl ct (fD _)),trivial⟩,by decide,kP _⟩
theorem zY6 (w:W){i k:Nat}(hw:K0 w) (hi:i<w.1.length) (hk:k<w.1.length) (hc:w.2.2.length=w.1.length):aP Tryz.prog 29 [CG w,.i i,.i k] [] (CG (oV w i k)) []:=
  xK (zY5 w hw hi hk hc) (.agg (.cons (zU rfl (by simp [oV])) (.cons (.v _) (.cons (E0 rfl (by simp [oV])) .nil))))
theorem XS (a b:W):aP Tryz.prog 108 [CG a,CG b] [] (.i (cI a.2.1 b.2.1)) []:=by
  have h:=EE a.2.1 b.2.1;refine bL T Tryz.func108 rfl rfl rfl rfl ?_
  (repeat' (first|refine wS ?_|refine wR ?_|(refine rg 0 (bS (bZ rfl rfl) rfl (bS (bZ rfl rfl) rfl (aV ?_))))|(refine rg 1 (fR T rfl (fR T rfl (vV (kC (h)) (aV ?_)))))|refine nZ ?_));all_goals first | (exfalso;omega) | exact rQ
end Go.Proofs.YtojgimibalokkaaGreat
namespace Go.Ld
open Go.Ab Go.Proofs.YtojgimibalokkaaGreat
def oS {α:Type}(p:α→Bool):List α→Nat→Int
  | [],_=>-1
  | x::l,k=>if p x=true then k else oS p l (k+1)
theorem B1 {α:Type}{p:α→Bool}{l:List α}{k:Nat}(h:k<l.length):oS p (l.drop k) k=if p l[k]=true then (k:Int) else oS p (l.drop (k+1)) (k+1):=by
  rw [bC h];rfl
theorem vG {α:Type}{p:α→Bool}{l:List α}{k:Nat}(h:l.length≤k):oS p (l.drop k) k = -1:=by
  rw [dC h];rfl
theorem sS {α:Type}(p:α→Bool):∀ (l:List α) (k:Nat),decide (oS p l k ≥ 0)=l.any p
  | [],k=>by simp [oS]
  | x::l,k=>by
    unfold oS;split
    · rename_i h;simp [h]
    · rename_i h;rw [sS p l (k+1)];simp [h]
theorem DO {α:Type}(p:α→Bool):∀ (l:List α) (k:Nat),oS p l k=match l.findIdx? p with
    | some i=>((k+i:Nat):Int)
    | none=>-1
  | [],k=>by simp [oS]
  | x::l,k=>by
    unfold oS;rw [List.findIdx?_cons];by_cases h:p x=true
    · rw [if_pos h,if_pos h];simp
    · rw [if_neg h,if_neg h,DO p l (k+1)];cases l.findIdx? p with
      | none=>rfl
      | some i=>show ((k+1+i:Nat):Int)=((k+(i+1):Nat):Int);omega
theorem qJ (l:List G):∀ e,e∈kB l→e.length=2:=by intro e he;obtain ⟨n,_,rfl⟩:=bB.1 he;rfl
theorem kE (l:List G):(kB l).length=l.length:=aX _
theorem YK (l:List G):(kB l).flatten.all AV.one=true:=by
  induction l with
  | nil=>rfl
  | cons x l ih=>exact ih
theorem eO (l:List G):∀ e,e∈kB l→AV.idfL e=true:=by intro e he;obtain ⟨x,_,rfl⟩:=bB.1 he;rfl
end Go.Ld
namespace Go.Proofs.YtojgimibalokkaaGreat
open Go Go.Ab Go.Ld
attribute [local irreducible] VC AW cF aP
set_option maxHeartbeats 4000000
abbrev UQ (g:G):AV:=.agg (gA g)
theorem tJ {l:List W}{k:Nat}(h:k<l.length):(wsA l)[(k:Int).toNat]? = some (wA l[k]):=by simp [h]
theorem FM {l:List G}{k:Nat}(h:k<l.length):(kB l)[(k:Int).toNat]? = some (gA l[k]):=by simp [h]
theorem PG {l:List Int}{k:Nat}(h:k<l.length):(ints l)[(k:Int).toNat]? = some [AV.i l[k]]:=by simp [h]
theorem XX {l:List W}{F:FuncId}{caps:List AV}{p:W→Bool}(hl:l.length≤1000000) (hi:AV.idfL caps=true) (hF:∀ x,x∈l→aP Tryz.prog F (.agg (wA x)::caps) [] (.b (p x)) []) :
    aP Tryz.prog 109 [.rowE (wsA l) 3,.clo (.func F) [] caps] [] (.i (oS p l 0)) []:=by
  have hlen:(wsA l).length=l.length:=aX _;refine bL T Tryz.func109 rfl rfl rfl rfl ?_
  (repeat' (first|refine wS ?_|refine wB ?_|(refine rg 0 (aV ?_))|(refine rg 1 (mW rfl (qW T rfl (mV ?_))))|refine nZ ?_));refine cX (X:={k:Nat // k≤l.length∧oS p l 0=oS p (l.drop k) k}) (fun k=>[(0,.rowE (wsA l) 3),(1,.clo (.func F) [] caps),(7,.i (wsA l).length),(8,.i k.1)]) (fun _=>[]) (fun k=>l.length-k.1) ⟨0,by simp,rfl⟩ ⟨[],rfl,⟨rfl,by rw [iW hi];rfl,rfl,rfl,trivial⟩,trivial,bK,fun _ h=>absurd h (cW _)⟩ ?_
  rintro ⟨k,hk,he⟩;dsimp only;by_cases hlt:k<l.length
  · have hc:=hF l[k] (aI hlt);have hg:=tJ (l:=l) hlt;rw [B1 hlt] at he;generalize l[k]=y at *;cases hp:p y with
    | true=>
      rw [hp] at hc;rw [hp,if_pos rfl] at he
      (repeat' (first|refine wS ?_|refine wB ?_|refine wK ?_|refine wR ?_|refine wT ?_|(refine wC rfl ?_ ?_<;>(intro hb;(try simp only [nm] at hb);try (exfalso;omega)))|(refine rg 2 (vV (aK rfl rfl) ?_))|(refine rg 3 (mW rfl (aV ?_)))|(refine rg 4 (dR rfl (mW rfl (vV (ix T rfl (by omega) (nH l) hg) (lW T rfl (vV (by exact eL rfl rfl hc rfl (by simp [AV.idfL,AV.idf,hi]) rfl) ?_))))))|(refine rg 5 (mW rfl (aV ?_)))|refine nZ ?_));all_goals first | (exfalso;omega) | exact cM (.inl rfl) rfl (by rw [he];rfl)
    | false=>
      rw [hp] at hc;rw [hp,if_neg (by simp)] at he
      (repeat' (first|refine wS ?_|refine wB ?_|refine wK ?_|refine wU ?_|(refine wC rfl ?_ ?_<;>(intro hb;(try simp only [nm] at hb);try (exfalso;omega)))|(refine rg 2 (vV (aK rfl rfl) ?_))|(refine rg 3 (mW rfl (aV ?_)))|(refine rg 4 (dR rfl (mW rfl (vV (ix T rfl (by omega) (nH l) hg) (lW T rfl (vV (by exact eL rfl rfl hc rfl (by simp [AV.idfL,AV.idf,hi]) rfl) ?_))))))|(refine rg 6 (vV (bP rfl rfl (by omega) (by omega)) (mV ?_)))|refine nZ ?_));all_goals first | (exfalso;omega) | exact ⟨⟨k+1,hlt,he⟩,by dsimp only;omega,⟨[],rfl,⟨rfl,by rw [iW hi];rfl,rfl,rfl,trivial⟩,trivial,bK,fun _ h=>absurd h (cW _)⟩⟩
  · rw [vG (by omega)] at he
    (repeat' (first|refine wS ?_|refine wR ?_|refine wE ?_|(refine wC rfl ?_ ?_<;>(intro hb;(try simp only [nm] at hb);try (exfalso;omega)))|(refine rg 2 (vV (aK rfl rfl) ?_))|(refine rg 7 (aV ?_))|refine nZ ?_));all_goals first | (exfalso;omega) | exact cM (.inl rfl) rfl (by rw [he];rfl)
theorem zX3 {l:List W}{F:FuncId}{caps:List AV}{p:W→Bool}(hl:l.length≤1000000) (hi:AV.idfL caps=true) (hF:∀ x,x∈l→aP Tryz.prog F (.agg (wA x)::caps) [] (.b (p x)) []) :
    aP Tryz.prog 110 [.rowE (wsA l) 3,.clo (.func F) [] caps] [] (.b (l.any p)) []:=by
  have hc:=XX hl hi hF;rw [← sS p l 0];refine bL T Tryz.func110 rfl rfl rfl rfl ?_
  (repeat' (first|refine wS ?_|refine wR ?_|(refine rg 0 (aV ?_))|(refine rg 1 (dR rfl (vV (by exact eL rfl rfl hc rfl (by simp [AV.idfL,AV.idf,hi]) rfl) ?_));refine vV (fM rfl rfl) (aV ?_))|refine nZ ?_));all_goals first | (exfalso;omega) | exact rQ
theorem zR2 {l:List G}{F:FuncId}{caps:List AV}{p:G→Bool}(hl:l.length≤1000000) (hi:AV.idfL caps=true) (hF:∀ x,x∈l→aP Tryz.prog F (.agg (gA x)::caps) [] (.b (p x)) []) :
    aP Tryz.prog 58 [.rowE (kB l) 2,.clo (.func F) [] caps] [] (.i (oS p l 0)) []:=by
  have hlen:(kB l).length=l.length:=aX _;refine bL T Tryz.func58 rfl rfl rfl rfl ?_
  (repeat' (first|refine wS ?_|refine wB ?_|(refine rg 0 (aV ?_))|(refine rg 1 (mW rfl (qW T rfl (mV ?_))))|refine nZ ?_));refine cX (X:={k:Nat // k≤l.length∧oS p l 0=oS p (l.drop k) k}) (fun k=>[(0,.rowE (kB l) 2),(1,.clo (.func F) [] caps),(7,.i (kB l).length),(8,.i k.1)]) (fun _=>[]) (fun k=>l.length-k.1) ⟨0,by simp,rfl⟩ ⟨[],rfl,⟨rfl,by rw [iW hi];rfl,rfl,rfl,trivial⟩,trivial,bK,fun _ h=>absurd h (cW _)⟩ ?_
  rintro ⟨k,hk,he⟩;dsimp only;by_cases hlt:k<l.length
  · have hc:=hF l[k] (aI hlt);have hg:=FM (l:=l) hlt;rw [B1 hlt] at he;generalize l[k]=y at *;cases hp:p y with
    | true=>
      rw [hp] at hc;rw [hp,if_pos rfl] at he
      (repeat' (first|refine wS ?_|refine wB ?_|refine wK ?_|refine wR ?_|refine wT ?_|(refine wC rfl ?_ ?_<;>(intro hb;(try simp only [nm] at hb);try (exfalso;omega)))|(refine rg 2 (vV (aK rfl rfl) ?_))|(refine rg 3 (mW rfl (aV ?_)))|(refine rg 4 (dR rfl (mW rfl (vV (ix T rfl (by omega) (qJ l) hg) (lW T rfl (vV (by exact eL rfl rfl hc rfl (by simp [AV.idfL,AV.idf,hi]) rfl) ?_))))))|(refine rg 5 (mW rfl (aV ?_)))|refine nZ ?_));all_goals first | (exfalso;omega) | exact cM (.inl rfl) rfl (by rw [he];rfl)
    | false=>
      rw [hp] at hc;rw [hp,if_neg (by simp)] at he
      (repeat' (first|refine wS ?_|refine wB ?_|refine wK ?_|refine wU ?_|(refine wC rfl ?_ ?_<;>(intro hb;(try simp only [nm] at hb);try (exfalso;omega)))|(refine rg 2 (vV (aK rfl rfl) ?_))|(refine rg 3 (mW rfl (aV ?_)))|(refine rg 4 (dR rfl (mW rfl (vV (ix T rfl (by omega) (qJ l) hg) (lW T rfl (vV (by exact eL rfl rfl hc rfl (by simp [AV.idfL,AV.idf,hi]) rfl) ?_))))))|(refine rg 6 (vV (bP rfl rfl (by omega) (by omega)) (mV ?_)))|refine nZ ?_));all_goals first | (exfalso;omega) | exact ⟨⟨k+1,hlt,he⟩,by dsimp only;omega,⟨[],rfl,⟨rfl,by rw [iW hi];rfl,rfl,rfl,trivial⟩,trivial,bK,fun _ h=>absurd h (cW _)⟩⟩
  · rw [vG (by omega)] at he
    (repeat' (first|refine wS ?_|refine wR ?_|refine wE ?_|(refine wC rfl ?_ ?_<;>(intro hb;(try simp only [nm] at hb);try (exfalso;omega)))|(refine rg 2 (vV (aK rfl rfl) ?_))|(refine rg 7 (aV ?_))|refine nZ ?_));all_goals first | (exfalso;omega) | exact cM (.inl rfl) rfl (by rw [he];rfl)
theorem zX7 {l:List G}{F:FuncId}{caps:List AV}{p:G→Bool}(hl:l.length≤1000000) (hi:AV.idfL caps=true) (hF:∀ x,x∈l→aP Tryz.prog F (.agg (gA x)::caps) [] (.b (p x)) []) :
    aP Tryz.prog 32 [.rowE (kB l) 2,.clo (.func F) [] caps] [] (.b (l.any p)) []:=by
  have hc:=zR2 hl hi hF;rw [← sS p l 0];refine bL T Tryz.func32 rfl rfl rfl rfl ?_
  (repeat' (first|refine wS ?_|refine wR ?_|(refine rg 0 (aV ?_))|(refine rg 1 (dR rfl (vV (by exact eL rfl rfl hc rfl (by simp [AV.idfL,AV.idf,hi]) rfl) ?_));refine vV (fM rfl rfl) (aV ?_))|refine nZ ?_));all_goals first | (exfalso;omega) | exact rQ
theorem yF0 {l:List Int}{F:FuncId}{caps:List AV}{p:Int→Bool}(hl:l.length≤1000000) (hi:AV.idfL caps=true) (hF:∀ x,x∈l→aP Tryz.prog F (.i x::caps) [] (.b (p x)) []) :
    aP Tryz.prog 117 [.rowE (ints l) 1,.clo (.func F) [] caps] [] (.i (oS p l 0)) []:=by
  have hlen:(ints l).length=l.length:=aX _;refine bL T Tryz.func117 rfl rfl rfl rfl ?_
  (repeat' (first|refine wS ?_|refine wB ?_|(refine rg 0 (aV ?_))|(refine rg 1 (mW rfl (qW T rfl (mV ?_))))|refine nZ ?_));refine cX (X:={k:Nat // k≤l.length∧oS p l 0=oS p (l.drop k) k}) (fun k=>[(0,.rowE (ints l) 1),(1,.clo (.func F) [] caps),(7,.i (ints l).length),(8,.i k.1)]) (fun _=>[]) (fun k=>l.length-k.1) ⟨0,by simp,rfl⟩ ⟨[],rfl,⟨rfl,by rw [iW hi];rfl,rfl,rfl,trivial⟩,trivial,bK,fun _ h=>absurd h (cW _)⟩ ?_
  rintro ⟨k,hk,he⟩;dsimp only;by_cases hlt:k<l.length
  · have hc:=hF l[k] (aI hlt);have hg:=PG (l:=l) hlt;rw [B1 hlt] at he;generalize l[k]=y at *;cases hp:p y with
    | true=>
      rw [hp] at hc;rw [hp,if_pos rfl] at he
      (repeat' (first|refine wS ?_|refine wB ?_|refine wK ?_|refine wR ?_|refine wT ?_|(refine wC rfl ?_ ?_<;>(intro hb;(try simp only [nm] at hb);try (exfalso;omega)))|(refine rg 2 (vV (aK rfl rfl) ?_))|(refine rg 3 (mW rfl (aV ?_)))|(refine rg 4 (dR rfl (mW rfl (vV (ix T rfl (by omega) (ints_len l) hg) (lW T rfl (vV (by exact eL rfl rfl hc rfl (by simp [AV.idfL,AV.idf,hi]) rfl) ?_))))))|(refine rg 5 (mW rfl (aV ?_)))|refine nZ ?_));all_goals first | (exfalso;omega) | exact cM (.inl rfl) rfl (by rw [he];rfl)
    | false=>
      rw [hp] at hc;rw [hp,if_neg (by simp)] at he
      (repeat' (first|refine wS ?_|refine wB ?_|refine wK ?_|refine wU ?_|(refine wC rfl ?_ ?_<;>(intro hb;(try simp only [nm] at hb);try (exfalso;omega)))|(refine rg 2 (vV (aK rfl rfl) ?_))|(refine rg 3 (mW rfl (aV ?_)))|(refine rg 4 (dR rfl (mW rfl (vV (ix T rfl (by omega) (ints_len l) hg) (lW T rfl (vV (by exact eL rfl rfl hc rfl (by simp [AV.idfL,AV.idf,hi]) rfl) ?_))))))|(refine rg 6 (vV (bP rfl rfl (by omega) (by omega)) (mV ?_)))|refine nZ ?_));all_goals first | (exfalso;omega) | exact ⟨⟨k+1,hlt,he⟩,by dsimp only;omega,⟨[],rfl,⟨rfl,by rw [iW hi];rfl,rfl,rfl,trivial⟩,trivial,bK,fun _ h=>absurd h (cW _)⟩⟩
  · rw [vG (by omega)] at he
    (repeat' (first|refine wS ?_|refine wR ?_|refine wE ?_|(refine wC rfl ?_ ?_<;>(intro hb;(try simp only [nm] at hb);try (exfalso;omega)))|(refine rg 2 (vV (aK rfl rfl) ?_))|(refine rg 7 (aV ?_))|refine nZ ?_));all_goals first | (exfalso;omega) | exact cM (.inl rfl) rfl (by rw [he];rfl)
theorem zX6 {l:List Int}{F:FuncId}{caps:List AV}{p:Int→Bool}(hl:l.length≤1000000) (hi:AV.idfL caps=true) (hF:∀ x,x∈l→aP Tryz.prog F (.i x::caps) [] (.b (p x)) []) :
    aP Tryz.prog 85 [.rowE (ints l) 1,.clo (.func F) [] caps] [] (.b (l.any p)) []:=by
  have hc:=yF0 hl hi hF;rw [← sS p l 0];refine bL T Tryz.func85 rfl rfl rfl rfl ?_
  (repeat' (first|refine wS ?_|refine wR ?_|(refine rg 0 (aV ?_))|(refine rg 1 (dR rfl (vV (by exact eL rfl rfl hc rfl (by simp [AV.idfL,AV.idf,hi]) rfl) ?_));refine vV (fM rfl rfl) (aV ?_))|refine nZ ?_));all_goals first | (exfalso;omega) | exact rQ
end Go.Proofs.YtojgimibalokkaaGreat
namespace Go.Proofs.YtojgimibalokkaaGreat
open Go Go.Ab Go.Ld Go.Lib Go.Sort Go.RowKit Go.Shelf
theorem Q7 (d:List Value) (i j:Nat) (Z:List Value) (hij:i≤j) (hj:j≤d.length) (hZ:Z.length=j-i) :
    lay (lay d.toArray i (d.drop j)) (i+(d.length-j)) Z=(d.take i++d.drop j++Z).toArray:=by
  apply Array.ext_getElem?;intro t;have l1:(d.take i).length=i:=by simp;omega
  have l2:(d.drop j).length=d.length-j:=by simp
  rw [lay_get? _ _ _ _ (by rw [lay_size];simp;omega),lay_get? _ _ _ _ (by rw [l2];simp;omega),show (d.take i++d.drop j++Z).toArray[t]? = (d.take i++d.drop j++Z)[t]? from iP]
  simp only [hZ,l2];by_cases c1:t<i
  · rw [if_neg (by omega),if_neg (by omega),aG (by simp;omega),aG (by omega),cE,if_pos c1,iP]
  · by_cases c2:t<i+(d.length-j)
    · rw [if_neg (by omega),if_pos (by omega),aG (by simp;omega),aD (by omega),l1]
    · rw [aD (by simp;omega)]
      simp only [aF,l1,l2];by_cases c3:t<d.length
      · rw [if_pos (by omega)]
      · rw [if_neg (by omega),if_neg (by omega),Array.getElem?_eq_none (by simp;omega),cN (by omega)]
set_option maxHeartbeats 4000000 in
set_option maxRecDepth 1000000 in
theorem zN9 (blk off cap len i j:Nat) (cs:List Value) (w:World) (hcl0:cs.length=len*2) (hH:Holds id w blk off cs.toArray) (h1:∀ u,u∈cs→u.oneCell'=true) (hcap:len≤cap) (hm:cap≤9223372036854775807) (hij:i≤j) (hj:j≤len) :
    Calls Tryz.prog 113 #[.slice (some ⟨blk,off,none⟩) len cap,.int .i64 i,.int .i64 j] w fun e w'=>e = .returned (.slice (some ⟨blk,off,none⟩) (len-(j-i)) cap)∧∃ (q:Nat) (Z:List Value),Z.length=(j-i)*2∧w'=putRow id (Sort.ahead w q) blk off (cs.take (i*2)++cs.drop (j*2)++Z).toArray:=by
  by_cases heq:i=j
  · subst heq;have h0:Calls Tryz.prog 113 #[.slice (some ⟨blk,off,none⟩) len cap,.int .i64 i,.int .i64 i] w fun e w'=>e = .returned (.slice (some ⟨blk,off,none⟩) len cap)∧w'=w:=by
      clear hH h1
      go_enter Tryz.func113,Tryz.ntmps113
      go_wp2
      all_goals (go_ret;exact ⟨rfl,rfl⟩)
    refine h0.mono ?_;rintro e w' ⟨rfl,rfl⟩;refine ⟨by rw [fC,BY],0,[],by simp,?_⟩
    rw [List.append_nil,bX];exact (putRow_self id (Sort.ahead w' 0) blk off cs.toArray hH).symm
  · have hlt:i<j:=by omega
    obtain ⟨inf,z,t1,t2,t3,t4,t5,t6,t7⟩:=T.tiOk 100 _ rfl;have t22:Tryz.prog.underlying 73=some (.slice 100):=T.elemOk _ _ rfl;have hzv:∀ w,(zeroValue 100).run Tryz.prog w = .ok z w:=fun w=>by simp [zeroValue,typeInfo,t1,t4]
    have hz2:z.cells.toList.length=2:=by rw [t5];rfl
    have hz1:∀ u,u∈z.cells.toList→u.oneCell'=true:=by rw [t5];exact bA.1 rfl
    obtain ⟨_,hZl⟩:=pP (z:=z.cells) rfl (by intro h;rw [h] at hz2;cases hz2) (j-i)
    rw [hz2] at hZl;have hji:len-(i+(len-j))=j-i:=by omega
    obtain ⟨Z,hZe⟩:∃ Z,Z=(Builtin.zeroCells z.cells (j-i)).toList:=⟨_,rfl⟩;rw [← hZe] at hZl;obtain ⟨news,hnews⟩:∃ news,news=cs.drop (j*2):=⟨_,rfl⟩;have hlen:news.length=(len-j)*2:=by rw [hnews,dK];omega
    have hget:∀ t,t<(len-j)*2→news[t]? = some (cs.toArray[j*2+t]!):=by
      intro t ht;rw [hnews,eE,getElem!_pos cs.toArray (j*2+t) (by simp;omega),zR,aA]
    obtain ⟨A,hA,hsrc⟩:∃ A:Addr,(if cap=j then some (⟨blk,off,none⟩:Addr) else some ⟨blk,off+j*2,none⟩)=some A∧Hid (∀ t u,news[t]? = some u→w.drew.cell? (A.add t)=some u):=by
      by_cases h:cap=j
      · refine ⟨⟨blk,off,none⟩,by simp [h],fun t u hu=>?_⟩
        have h0:news.length=0:=by rw [hlen];omega
        rw [fP.1 h0] at hu;simp at hu
      · refine ⟨⟨blk,off+j*2,none⟩,by simp [h],fun t u hu=>?_⟩
        have ht:t<(len-j)*2:=by
          have:=(aB.1 hu).1
          rwa [hlen] at this
        rw [hget t ht] at hu;rw [Addr.add_lit,show off+j*2+t=off+(j*2+t) by omega]
        exact (hH (j*2+t) (by simp;omega)).1.trans hu
    have s1:Hid (news.length=(len-j)*2):=hlen;have s2:Hid (∀ u∈news,u.oneCell'=true):=by
      intro u hu;rw [hnews] at hu;exact h1 u (eX hu)
    have s3:Hid (∀ t,t<news.length→(w.drew.cell? ⟨blk,off+i*2+t,none⟩).isSome=true∧w.drew.frozen? ⟨blk,off+i*2+t,none⟩=false):=by
      intro t ht;rw [hlen] at ht;rw [eD];exact ⟨by show (w.cell? _).isSome=true;rw [(hH (i*2+t) (by simp;omega)).1];rfl,(hH (i*2+t) (by simp;omega)).2⟩
    obtain ⟨W1,hW1⟩:∃ W1,W1=w.drew.setCells blk (off+i*2) news:=⟨_,rfl⟩;have hW1':W1=putRow id (Sort.ahead w 1) blk off (lay cs.toArray (i*2) (cs.drop (j*2))):=by
      have h:=putRow_setCells id (Sort.ahead w 1) blk off (cs.drop (j*2)) cs.toArray (i*2) (by simp;omega)
      rw [R5,putRow_self id (Sort.ahead w 1) blk off cs.toArray (holds_ahead id w 1 blk off cs.toArray hH)] at h;rw [hW1,hnews];exact h
    have hH1:Holds id W1 blk off (lay cs.toArray (i*2) (cs.drop (j*2))):=by rw [hW1'];exact holds_putRow id _ blk off cs.toArray _ (holds_ahead id w 1 blk off cs.toArray hH) (lay_size _ _ _)
    have hcl:∀ ty,(Builtin.clear_ #[73] ty #[.slice (some ⟨blk,off+(i+(len-j))*2,none⟩) (len-(i+(len-j))) (cap-(i+(len-j)))]).run Tryz.prog W1 = .ok (.tuple #[]) (W1.setCells blk (off+(i+(len-j))*2) Z):=
      fun ty=>by
       rw [hZe,← hji];exact W7 W1 _ _ ty z t22 hzv (by intro h; rw [h] at hz2; cases hz2) hz1 blk _ _ _ (by omega)
        (fun t ht=>by rw [hz2] at ht;rw [eD,(hH1 _ (by rw [lay_size];simp;omega)).1];rfl) (fun t ht=>by rw [hz2] at ht;rw [eD];exact (hH1 _ (by rw [lay_size];simp;omega)).2)
    have X:Aside (W1=putRow id (Sort.ahead w 1) blk off (lay cs.toArray (i*2) (cs.drop (j*2)))):=hW1';have hW:Hid (W1=w.drew.setCells blk (off+i*2) news):=hW1;have mixed:=cK;have hic:i≤cap:=by omega
    have hjc:j≤cap:=by omega
    clear hW1 hW1' hH1 hH hget hnews hlen hji hZe
    go_enter Tryz.func113,Tryz.ntmps113
    go_wp2_with fail
    go_region_law_o (refine step_append_room rfl (.tmp 22) (.tmp 25) 73 rfl 100 inf 2 t22 t1 t2 blk off i cap (by simp [Act.eval,Act.put]) A (len-j) (cap-j) news (by simp [Act.eval,Act.put]) s1.out hsrc.out s2.out (by omega) s3.out ?_;rw [← hW.out])
    go_wp2
    go_ret
    refine ⟨by rw [show len-(j-i)=i+(len-j) by omega];rfl,1,Z,hZl,?_⟩
    rw [X.out,← R5 Z,show off+(i+(len-j))*2=off+(i*2+(cs.length-j*2)) by omega,putRow_setCells id _ blk off _ _ _ (by rw [lay_size,oA];omega),R5,
      Q7 cs (i*2) (j*2) _ (by omega) (by omega) (by omega)]
theorem zZ3 (l:List SP) (i j:Nat) (hij:i≤j) (hj:j≤l.length) (hne:l≠[]) :
    aP Tryz.prog 113 [.sl 0 0 l.length 2,.i (i:Int),.i (j:Int)] [.arr (fI l) 2] (.sl 0 0 (l.length-(j-i)) 2) [.arr (fI (l.take i++l.drop j)) 2]:=by
  have h:=D6 (sz:=2) ⟨_,Tryz.func113,by kernel_rfl,by kernel_rfl⟩ zN9 (fI l) (lB l) (CO l) i j hij (by rw [aX];exact hj) (fun h=>hne (kM.1 h))
  rw [aX,← jO,← List.map_drop,← dJ] at h;exact h
set_option maxHeartbeats 4000000 in
set_option maxRecDepth 1000000 in
theorem zO0 (blk off cap len i j:Nat) (cs:List Value) (w:World) (hcl0:cs.length=len*2) (hH:Holds id w blk off cs.toArray) (h1:∀ u,u∈cs→u.oneCell'=true) (hcap:len≤cap) (hm:cap≤9223372036854775807) (hij:i≤j) (hj:j≤len) :
    Calls Tryz.prog 57 #[.slice (some ⟨blk,off,none⟩) len cap,.int .i64 i,.int .i64 j] w fun e w'=>e = .returned (.slice (some ⟨blk,off,none⟩) (len-(j-i)) cap)∧∃ (q:Nat) (Z:List Value),Z.length=(j-i)*2∧w'=putRow id (Sort.ahead w q) blk off (cs.take (i*2)++cs.drop (j*2)++Z).toArray:=by
  by_cases heq:i=j
  · subst heq;have h0:Calls Tryz.prog 57 #[.slice (some ⟨blk,off,none⟩) len cap,.int .i64 i,.int .i64 i] w fun e w'=>e = .returned (.slice (some ⟨blk,off,none⟩) len cap)∧w'=w:=by
      clear hH h1
      go_enter Tryz.func57,Tryz.ntmps57
      go_wp2
      all_goals (go_ret;exact ⟨rfl,rfl⟩)
    refine h0.mono ?_;rintro e w' ⟨rfl,rfl⟩;refine ⟨by rw [fC,BY],0,[],by simp,?_⟩
    rw [List.append_nil,bX];exact (putRow_self id (Sort.ahead w' 0) blk off cs.toArray hH).symm
  · have hlt:i<j:=by omega
    obtain ⟨inf,z,t1,t2,t3,t4,t5,t6,t7⟩:=T.tiOk 68 _ rfl;have t22:Tryz.prog.underlying 62=some (.slice 68):=T.elemOk _ _ rfl;have hzv:∀ w,(zeroValue 68).run Tryz.prog w = .ok z w:=fun w=>by simp [zeroValue,typeInfo,t1,t4]
    have hz2:z.cells.toList.length=2:=by rw [t5];rfl
    have hz1:∀ u,u∈z.cells.toList→u.oneCell'=true:=by rw [t5];exact bA.1 rfl
    obtain ⟨_,hZl⟩:=pP (z:=z.cells) rfl (by intro h;rw [h] at hz2;cases hz2) (j-i)
    rw [hz2] at hZl;have hji:len-(i+(len-j))=j-i:=by omega
    obtain ⟨Z,hZe⟩:∃ Z,Z=(Builtin.zeroCells z.cells (j-i)).toList:=⟨_,rfl⟩;rw [← hZe] at hZl;obtain ⟨news,hnews⟩:∃ news,news=cs.drop (j*2):=⟨_,rfl⟩;have hlen:news.length=(len-j)*2:=by rw [hnews,dK];omega
    have hget:∀ t,t<(len-j)*2→news[t]? = some (cs.toArray[j*2+t]!):=by
      intro t ht;rw [hnews,eE,getElem!_pos cs.toArray (j*2+t) (by simp;omega),zR,aA]
    obtain ⟨A,hA,hsrc⟩:∃ A:Addr,(if cap=j then some (⟨blk,off,none⟩:Addr) else some ⟨blk,off+j*2,none⟩)=some A∧Hid (∀ t u,news[t]? = some u→w.drew.cell? (A.add t)=some u):=by
      by_cases h:cap=j
      · refine ⟨⟨blk,off,none⟩,by simp [h],fun t u hu=>?_⟩
        have h0:news.length=0:=by rw [hlen];omega
        rw [fP.1 h0] at hu;simp at hu
      · refine ⟨⟨blk,off+j*2,none⟩,by simp [h],fun t u hu=>?_⟩
        have ht:t<(len-j)*2:=by
          have:=(aB.1 hu).1
          rwa [hlen] at this
        rw [hget t ht] at hu;rw [Addr.add_lit,show off+j*2+t=off+(j*2+t) by omega]
        exact (hH (j*2+t) (by simp;omega)).1.trans hu
    have s1:Hid (news.length=(len-j)*2):=hlen;have s2:Hid (∀ u∈news,u.oneCell'=true):=by
      intro u hu;rw [hnews] at hu;exact h1 u (eX hu)
    have s3:Hid (∀ t,t<news.length→(w.drew.cell? ⟨blk,off+i*2+t,none⟩).isSome=true∧w.drew.frozen? ⟨blk,off+i*2+t,none⟩=false):=by
      intro t ht;rw [hlen] at ht;rw [eD];exact ⟨by show (w.cell? _).isSome=true;rw [(hH (i*2+t) (by simp;omega)).1];rfl,(hH (i*2+t) (by simp;omega)).2⟩
    obtain ⟨W1,hW1⟩:∃ W1,W1=w.drew.setCells blk (off+i*2) news:=⟨_,rfl⟩;have hW1':W1=putRow id (Sort.ahead w 1) blk off (lay cs.toArray (i*2) (cs.drop (j*2))):=by
      have h:=putRow_setCells id (Sort.ahead w 1) blk off (cs.drop (j*2)) cs.toArray (i*2) (by simp;omega)
      rw [R5,putRow_self id (Sort.ahead w 1) blk off cs.toArray (holds_ahead id w 1 blk off cs.toArray hH)] at h;rw [hW1,hnews];exact h
    have hH1:Holds id W1 blk off (lay cs.toArray (i*2) (cs.drop (j*2))):=by rw [hW1'];exact holds_putRow id _ blk off cs.toArray _ (holds_ahead id w 1 blk off cs.toArray hH) (lay_size _ _ _)
    have hcl:∀ ty,(Builtin.clear_ #[62] ty #[.slice (some ⟨blk,off+(i+(len-j))*2,none⟩) (len-(i+(len-j))) (cap-(i+(len-j)))]).run Tryz.prog W1 = .ok (.tuple #[]) (W1.setCells blk (off+(i+(len-j))*2) Z):=
      fun ty=>by
       rw [hZe,← hji];exact W7 W1 _ _ ty z t22 hzv (by intro h; rw [h] at hz2; cases hz2) hz1 blk _ _ _ (by omega)
        (fun t ht=>by rw [hz2] at ht;rw [eD,(hH1 _ (by rw [lay_size];simp;omega)).1];rfl) (fun t ht=>by rw [hz2] at ht;rw [eD];exact (hH1 _ (by rw [lay_size];simp;omega)).2)
    have X:Aside (W1=putRow id (Sort.ahead w 1) blk off (lay cs.toArray (i*2) (cs.drop (j*2)))):=hW1';have hW:Hid (W1=w.drew.setCells blk (off+i*2) news):=hW1;have mixed:=cK;have hic:i≤cap:=by omega
    have hjc:j≤cap:=by omega
    clear hW1 hW1' hH1 hH hget hnews hlen hji hZe
    go_enter Tryz.func57,Tryz.ntmps57
    go_wp2_with fail
    go_region_law_o (refine step_append_room rfl (.tmp 22) (.tmp 25) 62 rfl 68 inf 2 t22 t1 t2 blk off i cap (by simp [Act.eval,Act.put]) A (len-j) (cap-j) news (by simp [Act.eval,Act.put]) s1.out hsrc.out s2.out (by omega) s3.out ?_;rw [← hW.out])
    go_wp2
    go_ret
    refine ⟨by rw [show len-(j-i)=i+(len-j) by omega];rfl,1,Z,hZl,?_⟩
    rw [X.out,← R5 Z,show off+(i+(len-j))*2=off+(i*2+(cs.length-j*2)) by omega,putRow_setCells id _ blk off _ _ _ (by rw [lay_size,oA];omega),R5,
      Q7 cs (i*2) (j*2) _ (by omega) (by omega) (by omega)]
theorem zZ4 (l:List G) (i j:Nat) (hij:i≤j) (hj:j≤l.length) (hne:l≠[]) :
    aP Tryz.prog 57 [.sl 0 0 l.length 2,.i (i:Int),.i (j:Int)] [.arr (kB l) 2] (.sl 0 0 (l.length-(j-i)) 2) [.arr (kB (l.take i++l.drop j)) 2]:=by
  have h:=D6 (sz:=2) ⟨_,Tryz.func57,by kernel_rfl,by kernel_rfl⟩ zO0 (kB l) (qJ l) (YK l) i j hij (by rw [aX];exact hj) (fun h=>hne (kM.1 h))
  rw [aX,← jO,← List.map_drop,← dJ] at h;exact h
end Go.Proofs.YtojgimibalokkaaGreat
namespace Go.Proofs.YtojgimibalokkaaGreat
open Go Go.Ab Go.Shelf Go.Proofs
shelf_lay Lays2.n23 Nm2 23 at Tryz as laysDelete
theorem ZE (l:List Int) (i j:Nat) (hij:i≤j) (hj:j≤l.length) (hne:l≠[]) :
    aP Tryz.prog 112 [.sl 0 0 l.length 1,.i (i:Int),.i (j:Int)] [.arr (ints l) 1] (.sl 0 0 (l.length-(j-i)) 1) [.arr (ints (l.take i++l.drop j)) 1]:=
  GM ⟨_,Tryz.func112,by kernel_rfl,by kernel_rfl⟩ (fun blk off cap i j zs w h1 h2 h3 h4 h5=>Any.slices_Delete_int laysDelete blk off cap i j zs w h1 h2 h3 h4 h5) l i j hij hj hne
end Go.Proofs.YtojgimibalokkaaGreat
namespace Go.Ld
open Go.Ab Go.Proofs.YtojgimibalokkaaGreat
abbrev gE (q:W→Bool) (l:List W):List W:=l.filter fun x=>!q x
theorem wQ {q:W→Bool}{l:List W}{k:Nat}(h:k<l.length):gE q (l.take (k+1))=if q l[k] then gE q (l.take k) else gE q (l.take k)++[l[k]]:=by
  unfold gE;rw [aM h,List.filter_append];cases e:q l[k] <;> simp [e]
theorem IZ (q:W→Bool) (l:List W) (k:Nat):(gE q (l.take k)).length≤k:=bY (nF _ _) (by simp;omega)
theorem N3 {α:Type}(p:α→Bool):∀ (l:List α) (k:Nat),(oS p l k = -1∧∀ x,x∈l→p x=false)∨∃ (j:Nat) (hj:j<l.length),oS p l k=((k+j:Nat):Int)∧p l[j]=true∧∀ x,x∈l.take j→p x=false
  | [],k=>.inl ⟨rfl,fun x hx=>by cases hx⟩
  | y::l,k=>by
    unfold oS;cases hp:p y with
    | true=>exact .inr ⟨0,by simp,by rw [if_pos rfl];rfl,by simpa using hp,fun x hx=>by simp at hx⟩
    | false=>
      rw [if_neg (by simp)]
      rcases N3 p l (k+1) with ⟨h1,h2⟩ | ⟨j,hj,h1,h2,h3⟩
      · refine .inl ⟨h1,fun x hx=>?_⟩
        rcases bT.1 hx with rfl | hx
        · exact hp
        · exact h2 x hx
      · refine .inr ⟨j+1,by simp;omega,by rw [h1];omega,by simpa using h2,fun x hx=>?_⟩
        rw [oM] at hx;rcases bT.1 hx with rfl | hx
        · exact hp
        · exact h3 x hx
def M4 (m x:W):W:=if x.2.1<m.2.1 then x else m
theorem IS:∀ (l:List W) (f:W),(l.foldl M4 f).2.1=l.foldl (fun m x=>if x.2.1<m then x.2.1 else m) f.2.1
  | [],_=>rfl
  | x::l,f=>by
    rw [jT,jT,IS l];congr 1;unfold M4;split <;> rfl
theorem TW {l:List W}{f:W}{k:Nat}(h:k<l.length):(l.take (k+1)).foldl M4 f=M4 ((l.take k).foldl M4 f) l[k]:=by
  rw [aM h,vR];rfl
end Go.Ld
namespace Go.Proofs.YtojgimibalokkaaGreat
open Go Go.Ab Go.Ld
attribute [local irreducible] VC AW cF aP
set_option maxHeartbeats 4000000
theorem yB6 {F:FuncId}{caps:List AV}{q:W→Bool}(l:List W) (hl:l.length≤1000000) (hi:AV.idfL caps=true) (hp:AV.plnL caps=true) (hF:∀ x,x∈l→aP Tryz.prog F (.agg (wA x)::caps) [] (.b (q x)) []) :
    aP Tryz.prog 76 [.sl 0 0 l.length 3,.clo (.func F) [] caps] [.arr (wsA l) 3] (.sl 0 0 (gE q l).length 3) [.arr (wsA (gE q l)) 3]:=by
  have hll:(wsA l).length=l.length:=eZ l;have hix:=XX hl hi hF;have hvw:oK [.arr (wsA l) 3] (.sl 0 0 l.length 3) (.rowE (wsA l) 3):=qG rfl hll.symm (sH (fun _=>rfl) _);refine bL T Tryz.func76 rfl rfl rfl rfl ?_;rcases N3 q l 0 with ⟨h1,h2⟩ | ⟨j,hj,h1,h2,h3⟩
  · rw [h1] at hix;have hk:gE q l=l:=oN.2 fun x hx=>by rw [h2 x hx];rfl
    rw [hk]
    (repeat' (first|refine wS ?_|refine wR ?_|refine wT ?_|(refine rg 0 (aV ?_))|(refine rg 1 (dR rfl (vV (by exact eC rfl rfl hix (.cons hvw (.cons (.clo .nil (lP _ hp)) .nil)) rfl rfl) ?_));refine aV ?_)|(refine rg 2 (mW rfl (vV (bW rfl rfl) ?_)))|(refine rg 3 (mW rfl (aV ?_)))|refine nZ ?_));all_goals first | (exfalso;omega) | exact ⟨.inl rfl,[0],_,rfl,rfl,rfl,⟨.inr (aE rfl rfl (bQ _)),trivial⟩,by decide,lY⟩
  · rw [h1,Nat.zero_add] at hix;have hk0:gE q (l.take (j+1))=l.take j:=by
      rw [wQ hj,if_pos h2];exact oN.2 fun x hx=>by rw [h3 x hx];rfl
    have hkl:(gE q (l.take (j+1))).length=j:=by rw [hk0];simp;omega
    have hka:gE q (l.take (j+1))++l.drop (gE q (l.take (j+1))).length=l:=by rw [hkl,hk0,bX]
    have hkf:gE q l=gE q (l.take l.length):=by rw [cQ]
    rw [hkf]
    (repeat' (first|refine wS ?_|refine wB ?_|refine wK ?_|refine wU ?_|(refine rg 0 (aV ?_))|(refine rg 1 (dR rfl (vV (by exact eC rfl rfl hix (.cons hvw (.cons (.clo .nil (lP _ hp)) .nil)) rfl rfl) ?_));refine aV ?_)|(refine rg 2 (mW rfl (vV (bW rfl rfl) ?_)))|(refine iA 4 rfl rfl rfl (by omega) (by omega) ?_)|refine nZ ?_));all_goals try (exfalso;omega)
    refine cX (X:={m:Nat // m≤l.length}) (fun m=>[(0,.sl 0 0 l.length 3),(1,.clo (.func F) [] caps),(5,.i (gE q (l.take m.1)).length),(6,.i m.1)]) (fun m=>[.arr (wsA (gE q (l.take m.1)++l.drop (gE q (l.take m.1)).length)) 3]) (fun m=>l.length-m.1) ⟨j+1,hj⟩ ⟨[0],rfl,⟨rfl,by rw [iW hi];rfl,by dsimp only;rw [hkl];rfl,rfl,trivial⟩,⟨.inr (aE rfl (by dsimp only;rw [hka]) (bQ _)),trivial⟩,by decide,lY⟩ ?_
    rintro ⟨m,hm⟩;dsimp only;have hle:=IZ q l m;by_cases hlt:m<l.length
    · have hs:=wQ (q:=q) hlt;have hget:=NL (G:=gE q (l.take m)) (l:=l) (m:=m) (i:=0+(m:Int).toNat) hle hlt (by omega)
      have hg2:=NL (G:=gE q (l.take m)) (l:=l) (m:=(gE q (l.take m)).length) (i:=0+(((gE q (l.take m)).length:Nat):Int).toNat) (aT _) (by omega) (by omega)
      rw [oT hlt] at hget;have hset:=zU2 (G:=gE q (l.take m)) (l:=l) (x:=l[m]) (j:=(((gE q (l.take m)).length:Nat):Int)) (by omega) rfl
      have hc:=hF l[m] (aI hlt);have hal:=SZ (G:=gE q (l.take m)) (l:=l) (by omega)
      generalize l[m]=x at *;generalize l.getD (gE q (l.take m)).length w0=y at *;generalize hG:gE q (l.take m)=G at *;generalize hA:wsA (G++l.drop G.length)=A at *;cases e:q x
      · rw [e] at hc hs;rw [if_neg (by simp)] at hs
        (repeat' (first|refine wS ?_|refine wB ?_|refine wK ?_|refine wT ?_|(refine wC rfl ?_ ?_<;>(intro hb;(try simp only [nm] at hb);try (exfalso;omega)))|(refine rg 5 (dR rfl (qW T rfl (vV (aK rfl rfl) ?_))))|(refine rg 7 (dR rfl (vV (by exact aQ T rfl rfl rfl rfl rfl (by omega) (by omega)) ?_));refine vV (by exact bD T rfl rfl (bV rfl hget) rfl) ?_;refine bS (bM T rfl) rfl (aU T rfl rfl rfl rfl rfl rfl (by decide) rfl ?_))|(refine rg 8 (mW rfl (vV (bD T rfl rfl rfl rfl) (vV (by exact eL rfl rfl hc rfl (by simp [AV.idfL,AV.idf,hi]) rfl) ?_)));refine vV (cT rfl) ?_)|(refine rg 9 (dR rfl (vV (bD T rfl rfl rfl rfl) (vV (by exact aQ T rfl rfl rfl rfl rfl (by omega) (by omega)) ?_)));refine aU T rfl rfl rfl rfl rfl rfl (by decide) (lQ rfl hg2 rfl) ?_)|(refine iA 10 rfl rfl rfl (by omega) (by omega) ?_)|(refine iA 6 rfl rfl rfl (by omega) (by omega) ?_)|refine nZ ?_));all_goals try (exfalso;omega)
        all_goals exact ⟨⟨m+1,hlt⟩,by dsimp only;omega,[0],rfl,⟨rfl,by rw [iW hi];rfl,by rw [hs];simp only [aF];rfl,rfl,trivial⟩,⟨.inr (aE rfl (by rw [hs];exact hset) (bQ _)),trivial⟩,by decide,lY⟩
      · rw [e] at hc hs;rw [if_pos rfl] at hs
        (repeat' (first|refine wS ?_|refine wB ?_|refine wK ?_|refine wU ?_|(refine wC rfl ?_ ?_<;>(intro hb;(try simp only [nm] at hb);try (exfalso;omega)))|(refine rg 5 (dR rfl (qW T rfl (vV (aK rfl rfl) ?_))))|(refine rg 7 (dR rfl (vV (by exact aQ T rfl rfl rfl rfl rfl (by omega) (by omega)) ?_));refine vV (by exact bD T rfl rfl (bV rfl hget) rfl) ?_;refine bS (bM T rfl) rfl (aU T rfl rfl rfl rfl rfl rfl (by decide) rfl ?_))|(refine rg 8 (mW rfl (vV (bD T rfl rfl rfl rfl) (vV (by exact eL rfl rfl hc rfl (by simp [AV.idfL,AV.idf,hi]) rfl) ?_)));refine vV (cT rfl) ?_)|(refine iA 6 rfl rfl rfl (by omega) (by omega) ?_)|refine nZ ?_));all_goals try (exfalso;omega)
        all_goals exact ⟨⟨m+1,hlt⟩,by dsimp only;omega,[0],rfl,⟨rfl,by rw [iW hi];rfl,by rw [hs];rfl,rfl,trivial⟩,⟨.inr (aE rfl (by rw [hs];exact hA.symm) (bQ _)),trivial⟩,by decide,lY⟩
    · obtain rfl:m=l.length:=by omega
      have hal:=SZ (G:=gE q (l.take l.length)) (l:=l) (by omega)
      have htk:=VK (G:=gE q (l.take l.length)) (l:=l);generalize gE q (l.take l.length)=G at *
      (repeat' (first|refine wS ?_|refine wR ?_|refine wE ?_|(refine wC rfl ?_ ?_<;>(intro hb;(try simp only [nm] at hb);try (exfalso;omega)))|(refine rg 5 (dR rfl (qW T rfl (vV (aK rfl rfl) ?_))))|(refine rg 11 (dR rfl (vV (by exact kO T rfl rfl rfl rfl rfl rfl (by omega) (by omega) (by omega)) ?_));refine L0 T rfl rfl rfl ⟨rfl,rfl,by decide⟩ rfl (by rw [hal];omega) ?_)|(refine rg 12 (dR rfl (vV (by exact kO T rfl rfl rfl rfl rfl rfl (by omega) (by omega) (by omega)) ?_));refine aV ?_)|refine nZ ?_));all_goals try (exfalso;omega)
      all_goals exact ⟨.inl rfl,[0],_,rfl,(by show AV.sl 0 0 ((G.length:Int)-0).toNat 3=AV.sl 0 0 G.length 3;rw [show ((G.length:Int)-0).toNat=G.length by omega]),rfl,⟨.inr (aE rfl htk (bQ _)),trivial⟩,by decide,lY⟩
abbrev yE4:AV:=.clo (.func 108) [] []
theorem US {f:W}{l:List W}{k:Nat}(h:k<l.length):(wsA (f::l))[((k:Int)+1).toNat]? = some (wA l[k]):=by
  rw [show ((k:Int)+1).toNat=k+1 by omega];simp [h]
theorem yE3 (f:W) (l:List W) (hl:l.length≤1000000):aP Tryz.prog 107 [.rowE (wsA (f::l)) 3,yE4] [] (CG (l.foldl M4 f)) []:=by
  have hll:(wsA (f::l)).length=l.length+1:=by simp
  have hg0:(wsA (f::l))[(0:Int).toNat]? = some (wA f):=rfl;refine bL T Tryz.func107 rfl rfl rfl rfl ?_
  (repeat' (first|refine wS ?_|refine wB ?_|refine wK ?_|refine wU ?_|(refine rg 0 (bS (bM T rfl) rfl ?_))|(refine rg 1 (mW rfl (qW T rfl (vV (aK rfl rfl) ?_))))|(refine rg 3 (mW rfl (vV (ix T rfl (by omega) (nH _) hg0) (lW T rfl (bS (bM T rfl) rfl (aU T rfl rfl rfl rfl rfl rfl (by decide) rfl ?_))))))|(refine rg 4 (aV ?_))|refine nZ ?_));all_goals try (exfalso;omega)
  refine cX (X:={k:Nat // k≤l.length}) (fun k=>[(0,.rowE (wsA (f::l)) 3),(1,yE4),(4,.ptr 0 0),(5,.ptr 1 0),(6,.i ((k.1:Int)+1))]) (fun k=>[.cells [.nils,.i 0,.nils],.cells (wA ((l.take k.1).foldl M4 f))]) (fun k=>l.length-k.1) ⟨0,cC _⟩ ⟨[0,1],rfl,by (repeat (first | exact trivial | refine ⟨rfl,?_⟩)),⟨.inr rfl,.inr rfl,trivial⟩,by decide,kP _⟩ ?_
  rintro ⟨k,hk⟩;dsimp only;by_cases hlt:k<l.length
  · have hs:=TW (f:=f) hlt;have hg:=US (f:=f) hlt;have hc:=XS l[k] ((l.take k).foldl M4 f);generalize l[k]=x at *;generalize (l.take k).foldl M4 f=m at *;by_cases h0:x.2.1<m.2.1
    · have hv:cI x.2.1 m.2.1 = -1:=by unfold cI;rw [if_pos h0]
      rw [hv] at hc;rw [M4,if_pos h0] at hs
      (repeat' (first|refine wS ?_|refine wB ?_|refine wK ?_|refine wT ?_|(refine wC rfl ?_ ?_<;>(intro hb;(try simp only [nm] at hb);try (exfalso;omega)))|(refine rg 5 (dR rfl (qW T rfl (vV (aK rfl rfl) ?_))))|(refine bO (id:=7) 33 [[],[],[],[1,2],[1,2,3],[],rN 6,rN 7] (rM 20 8) [[],[20],[20,21],[20],[20],rM 20 5,[],[]] cK rfl (by decide +kernel) (dN rfl (dN rfl (dN rfl (dV rfl (ix T rfl (by omega) (nH _) hg) (dO T rfl (dO T rfl (dV rfl (kC (hc)) (dV rfl (aK rfl rfl) (dE ?_))))))))))|(refine rg 8 (dR rfl (vV (ix T rfl (by omega) (nH _) hg) (lW T rfl (aU T rfl rfl rfl rfl rfl rfl (by decide) rfl ?_)))))|(refine iA 6 rfl rfl rfl (by omega) (by omega) ?_)|refine nZ ?_));all_goals try (exfalso;omega)
      all_goals exact ⟨⟨k+1,hlt⟩,by dsimp only;omega,[0,1],rfl,by (repeat (first | exact trivial | refine ⟨rfl,?_⟩)),⟨.inr rfl,.inr (by dsimp only;rw [hs];rfl),trivial⟩,by decide,kP _⟩
    · have hv:0≤cI x.2.1 m.2.1:=by unfold cI;rw [if_neg h0];split <;> omega
      rw [M4,if_neg h0] at hs;generalize cI x.2.1 m.2.1=v at *
      (repeat' (first|refine wS ?_|refine wB ?_|refine wK ?_|(refine wC rfl ?_ ?_<;>(intro hb;(try simp only [nm] at hb);try (exfalso;omega)))|(refine rg 5 (dR rfl (qW T rfl (vV (aK rfl rfl) ?_))))|(refine bO (id:=7) 33 [[],[],[],[1,2],[1,2,3],[],rN 6,rN 7] (rM 20 8) [[],[20],[20,21],[20],[20],rM 20 5,[],[]] cK rfl (by decide +kernel) (dN rfl (dN rfl (dN rfl (dV rfl (ix T rfl (by omega) (nH _) hg) (dO T rfl (dO T rfl (dV rfl (kC (hc)) (dV rfl (aK rfl rfl) (dE ?_))))))))))|(refine iA 6 rfl rfl rfl (by omega) (by omega) ?_)|refine nZ ?_));all_goals try (exfalso;omega)
      all_goals exact ⟨⟨k+1,hlt⟩,by dsimp only;omega,[0,1],rfl,by (repeat (first | exact trivial | refine ⟨rfl,?_⟩)),⟨.inr rfl,.inr (by dsimp only;rw [hs];rfl),trivial⟩,by decide,kP _⟩
  · obtain rfl:k=l.length:=by omega
    rw [cQ];generalize l.foldl M4 f=m at *
    (repeat' (first|refine wS ?_|refine wR ?_|refine wE ?_|(refine wC rfl ?_ ?_<;>(intro hb;(try simp only [nm] at hb);try (exfalso;omega)))|(refine rg 5 (dR rfl (qW T rfl (vV (aK rfl rfl) ?_))))|(refine rg 9 (lW T rfl (aU T rfl rfl rfl rfl rfl rfl (by decide) rfl ?_)))|refine nZ ?_));all_goals first | (exfalso;omega) | exact ⟨.inl rfl,[],_,rfl,rfl,rfl,trivial,by decide,kP _⟩
theorem yK3:FT Tryz.prog 75 1=some (3,1):=by kernel_rfl
theorem PF (g:G) (hne:g.2≠[]) (hl:g.2.length≤1000000):aP Tryz.prog 75 [UQ g] [] (.i (iX g)) []:=by
  obtain ⟨b,ws⟩:=g;cases ws with
  | nil=>exact absurd rfl hne
  | cons f l=>
    have hc:=yE3 f l (by simp at hl;omega)
    show aP _ _ _ _ (.i (l.foldl (fun m x=>if x.2.1<m then x.2.1 else m) f.2.1)) []
    rw [← IS];generalize l.foldl M4 f=m at *;refine bL T Tryz.func75 rfl rfl rfl rfl ?_
    (repeat' (first|refine wS ?_|refine wR ?_|(refine rg 0 (bS (bZ rfl rfl) rfl (aV ?_)))|(refine rg 1 (fR T rfl (vV (kC (hc)) (vV (by exact N7 T rfl yK3 rfl rfl) ?_)));refine aV ?_)|refine nZ ?_));all_goals first | (exfalso;omega) | exact rQ
end Go.Proofs.YtojgimibalokkaaGreat
