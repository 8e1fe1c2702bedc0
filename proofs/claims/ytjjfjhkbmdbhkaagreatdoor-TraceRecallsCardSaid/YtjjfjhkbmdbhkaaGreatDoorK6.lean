/-
  Texts of the logic and of the layer,in one module (part 6).
-/
import Derived.Test.YtjjfjhkbmdbhkaaGreatDoorK5
import Derived.Shelf.RegionOpenPlain
import Derived.Deep.LoopGhost
import Derived.Deep.RegionLaw
import Derived.Lib.Walk
import Derived.Lib.SlicesDelete
import Derived.Sort.WalkB12
import Derived.Shelf.Slices.Delete
import Derived.Ground.Names2Prog
import Derived.Shelf.Spec.SlicesGrow
import Derived.Ground.Names8Prog
set_option maxHeartbeats 4000000
set_option linter.unusedVariables false
set_option linter.unusedSimpArgs false
set_option linter.unnecessarySimpa false
namespace Go.Ld
open Go.Ab Go.Proofs.Q
theorem VB {Q r1 r2:List W}{a b:Nat}(ha:a=Q.length) (hb:b=a+r1.length):zC8 (Q++(r1++r2)) a b=Q++(eN eY r1++r2):=by
 subst ha hb;unfold zC8;rw [tY,tZ,show Q.length+r1.length-Q.length=r1.length by omega,tY,← RP,tZ,tZ]
theorem VT {Q r1 r2:List W}{w:W}(h:w∈(Q++eN eY r1)++r2):w∈Q++(r1++r2):=by
 rw [bM] at h;rcases bH.1 h with h | h
 ·exact bH.2 (.inl h)
 ·rcases bH.1 h with h | h
  ·exact bH.2 (.inr (bH.2 (.inl ((dW _ _).mem_iff.1 h))))
  ·exact bH.2 (.inr (bH.2 (.inr h)))
end Go.Ld
namespace Go.Proofs.Q
open Go Go.Ab Go.Ld
attribute [local irreducible] VC AW bW aM
theorem zF8 (l:List W){N:Nat}(hN:N=l.length) (hl:N≤100000) (hw:∀ w,w∈l→V6 w) :
  aM Tryz.prog 185 [.sl 0 0 N 3,.i N,tV] [.arr (gN l) 3] (.tup []) [.arr (gN (eN eY l)) 3]:=by
 refine bS T Tryz.func185 rfl rfl rfl rfl ?_;apply Go.Ab.cutT
 ·intro rest
  (repeat' (first|refine wS ?_|refine wB ?_|(refine rg 0 (aV ?_))|(refine rg 1 (mW rfl (pT ?_)))|refine nZ ?_));refine dI (X:={q:Nat × List W × List W // q.2.1.length=q.1∧q.1+q.2.2.length=N∧bs 20 l=q.2.1++bs 20 q.2.2∧∀ w,w∈q.2.1++q.2.2→w∈l})
   (fun q=>[(0,.sl 0 0 N 3),(1,.i N),(2,tV),(6,.i 20),(7,.i q.1.1),(8,.i ((q.1.1:Int)+20))]) (fun q=>[.arr (gN (q.1.2.1++q.1.2.2)) 3]) (fun q=>q.1.2.2.length) ⟨(0,[],l),by simp;omega⟩
   ⟨[0],rfl,by (repeat (first|exact trivial|refine ⟨rfl,?_⟩)),⟨.inr (aC rfl rfl (bY _)),trivial⟩,by decide,lX⟩ ?_
  rintro ⟨⟨a,Q,r⟩,h1,h2,h3,h4⟩;dsimp only at h1 h2 h3 h4 ⊢;by_cases hlt:a+20≤N
  ·obtain ⟨r1,r2,rfl,hr⟩:∃ r1 r2,r=r1++r2∧r1.length=20:=⟨r.take 20,r.drop 20,by simp,by simp;omega⟩
   rw [aD] at h2;have hc:=PK (Q++(r1++r2)) a (a+20) (by omega) (by simp;omega) (by simp;omega) (fun w hw'=>hw w (h4 w hw'))
   rw [VB h1.symm (by omega),show (Q++(r1++r2)).length=N by simp;omega,show ((a+20:Nat):Int)=(a:Int)+20 by omega] at hc
   rw [FK hr (by omega)] at h3
   (repeat' (first|refine wS ?_|refine wB ?_|refine wK ?_|(refine wC rfl ?_ ?_<;>(intro hb;(try simp only [nm] at hb);try omega))|(refine rg 2 (dJ rfl (vV (iQ rfl rfl) ?_)))|(refine rg 3 (dJ rfl (dJ rfl (bT [0] rfl rfl (hc) rfl rfl (by decide) ⟨.inr (aC rfl rfl (bY _)),trivial⟩ (by simp) rfl ?_))))|(refine rg 4 (mW rfl (aV ?_)))|(refine rg 5 (dJ rfl (vV (cK rfl rfl (by omega) (by omega)) (aV ?_))))|refine nZ ?_));all_goals first|omega | skip
   exact ⟨⟨(a+20,Q++eN eY r1,r2),by dsimp only;exact ⟨by rw [aD,jH];omega,by omega,by rw [h3];simp,fun w hw'=>h4 w (VT hw')⟩⟩,by dsimp only;rw [aD];omega,⟨[0],rfl,by (repeat (first|exact trivial|refine ⟨rfl,?_⟩)),⟨.inr (aC rfl (by rw [bB _ (bY _),bM]) (bY _)),trivial⟩,by decide,lX⟩⟩
  ·have hc:=PK (Q++(r++[])) a N (by omega) (by simp;omega) (by simp;omega) (fun w hw'=>hw w (h4 w (by simpa using hw')))
   rw [VB h1.symm (by omega),List.append_nil,List.append_nil,show (Q++r).length=N by simp;omega,← AZ (k:=20) (by omega),← h3] at hc
   (repeat' (first|refine wS ?_|refine wB ?_|refine wE ?_|(refine wC rfl ?_ ?_<;>(intro hb;(try simp only [nm] at hb);try omega))|(refine rg 2 (dJ rfl (vV (iQ rfl rfl) ?_)))|(refine rg 6 (dJ rfl (dJ rfl (bT [0] rfl rfl (hc) rfl rfl (by decide) ⟨.inr (aC rfl rfl (bY _)),trivial⟩ (by simp) rfl ?_))))|refine nZ ?_));all_goals first|omega | exact fF [(0,.sl 0 0 N 3),(1,.i N),(2,tV),(6,.i 20)] [.arr (gN (bs 20 l)) 3] ⟨[0],rfl,by (repeat (first|exact trivial|refine ⟨rfl,?_⟩)),⟨.inr (aC rfl (bB _ (bY _)) (bY _)),trivial⟩,by decide,lX⟩ rest.get
 refine dI (X:={k:Nat // 20≤k∧k≤200000}) (fun k=>[(0,.sl 0 0 N 3),(1,.i N),(2,tV),(6,.i k.1)]) (fun k=>[.arr (gN (bs k.1 l)) 3]) (fun k=>N-k.1) ⟨20,by omega,by omega⟩
  ⟨[0],rfl,by (repeat (first|exact trivial|refine ⟨rfl,?_⟩)),⟨.inr (aC rfl rfl (bY _)),trivial⟩,by decide,lX⟩ ?_
 rintro ⟨k,hk,hk2⟩;dsimp only;by_cases hkN:k<N
 ·(repeat' (first|refine wS ?_|refine wB ?_|refine wK ?_|(refine wC rfl (fun hb=>?_) (fun hb=>?_) <;> (((try simp only [nm] at hb);try omega)))|(refine rg 7 (dJ rfl (vV (aK rfl rfl) ?_)))|(refine rg 8 (mW rfl (vV (J0 rfl rfl (by omega) (by omega)) (pT ?_))))|(refine nZ ?_)));all_goals try omega
  refine dI (X:={q:Nat × List W × List W // q.2.1.length=q.1∧q.1+q.2.2.length=N∧bs (2*k) l=q.2.1++bs (2*k) q.2.2∧∀ w,w∈q.2.1++q.2.2→w∈l})
   (fun q=>[(0,.sl 0 0 N 3),(1,.i N),(2,tV),(6,.i k),(7,.i q.1.1),(8,.i ((q.1.1:Int)+2*k))]) (fun q=>[.arr (gN (q.1.2.1++bs k q.1.2.2)) 3]) (fun q=>q.1.2.2.length) ⟨(0,[],l),by simp;omega⟩
   ⟨[0],rfl,⟨rfl,rfl,rfl,rfl,rfl,by dsimp only;rw [show ((0:Nat):Int)+2*(k:Int)=2*k by omega];rfl,trivial⟩,⟨.inr (aC rfl rfl (bY _)),trivial⟩,by decide,lX⟩ ?_
  rintro ⟨⟨a,Q,r⟩,h1,h2,h3,h4⟩;dsimp only at h1 h2 h3 h4 ⊢;by_cases hlt:a+2*k≤N
  ·obtain ⟨r1,r2,r3,rfl,hr1,hr2⟩:∃ r1 r2 r3,r=r1++(r2++r3)∧r1.length=k∧r2.length=k:=⟨r.take k,(r.drop k).take k,(r.drop k).drop k,by simp only [bK],by simp;omega,by simp;omega⟩
   simp only [aD] at h2;have hc:=yK1 (2*k) Q (eN eY r1) (eN eY r2) (bs k r3) (a:=a) (m:=a+k) (b:=a+2*k) (N:=N) (by omega) (by rw [jH]; omega) (by rw [jH]; omega) h1.symm (by rw [jH]; omega) (by rw [jH]; omega) (by rw [yT4]; omega) hl (lZ jT _) (lZ jT _)
    (fun w hw'=>hw w (h4 w (by have:=(dW eY _).mem_iff.1 hw';simp [this]))) (fun w hw'=>hw w (h4 w (by have:=(dW eY _).mem_iff.1 hw';simp [this])))
   rw [NN,← FK hr2 (by omega),← FK hr1 (by omega),show ((a+2*k:Nat):Int)=(a:Int)+2*k by omega,show ((a+k:Nat):Int)=(a:Int)+k by omega] at hc
   rw [← bM r1,FK (k:=2*k) (by rw [aD];omega) (by omega)] at h3
   (repeat' (first|refine wS ?_|refine wB ?_|refine wK ?_|(refine wC rfl ?_ ?_<;>(intro hb;(try simp only [nm] at hb);try omega))|(refine rg 9 (dJ rfl (vV (iQ rfl rfl) ?_)))|(refine rg 10 (dJ rfl (dJ rfl (vV (cK rfl rfl (by omega) (by omega)) (dJ rfl (bT [0] rfl rfl (hc) rfl rfl (by decide) ⟨.inr (aC rfl rfl (bY _)),trivial⟩ (by simp) rfl ?_))))))|(refine rg 11 (mW rfl (aV ?_)))|(refine rg 12 (dJ rfl (vV (J0 rfl rfl (by omega) (by omega)) (vV (cK rfl rfl (by omega) (by omega)) (aV ?_)))))|refine nZ ?_));all_goals first|omega | skip
   exact ⟨⟨(a+2*k,Q++eN eY (r1++r2),r3),by dsimp only;exact ⟨by rw [aD,jH,aD];omega,by omega,by rw [h3];simp,fun w hw'=>h4 w (by have:=VT hw';rwa [bM] at this)⟩⟩,by dsimp only;simp only [aD];omega,⟨[0],rfl,by (repeat (first|exact trivial|refine ⟨rfl,?_⟩)),⟨.inr (aC rfl (by rw [bB _ (bY _),bM]) (bY _)),trivial⟩,by decide,lX⟩⟩
  ·by_cases hm:a+k<N
   ·obtain ⟨r1,r2,rfl,hr1⟩:∃ r1 r2,r=r1++r2∧r1.length=k:=⟨r.take k,r.drop k,by simp,by simp;omega⟩
    simp only [aD] at h2;have hc:=yK1 (2*k) Q (eN eY r1) (eN eY r2) [] (a:=a) (m:=a+k) (b:=N) (N:=N) (by omega) (by rw [jH]; omega) (by rw [jH]; omega) h1.symm (by rw [jH]; omega) (by rw [jH]; omega) (by simp) hl (lZ jT _) (lZ jT _)
     (fun w hw'=>hw w (h4 w (by have:=(dW eY _).mem_iff.1 hw';simp [this]))) (fun w hw'=>hw w (h4 w (by have:=(dW eY _).mem_iff.1 hw';simp [this])))
    rw [NN,List.append_nil,List.append_nil,← AZ (k:=2*k) (l:=r1++r2) (by rw [aD];omega),← h3,← AZ (k:=k) (l:=r2) (by omega),← FK hr1 (by omega),show ((a+k:Nat):Int)=(a:Int)+k by omega] at hc
    (repeat' (first|refine wS ?_|refine wE ?_|(refine wC rfl ?_ ?_<;>(intro hb;(try simp only [nm] at hb);try omega))|(refine rg 9 (dJ rfl (vV (iQ rfl rfl) ?_)))|(refine rg 13 (dJ rfl (vV (cK rfl rfl (by omega) (by omega)) (aV ?_))))|(refine rg 14 (dJ rfl (vV (aK rfl rfl) ?_)))|(refine rg 15 (dJ rfl (dJ rfl (mW rfl (bT [0] rfl rfl (hc) rfl rfl (by decide) ⟨.inr (aC rfl rfl (bY _)),trivial⟩ (by simp) rfl ?_)))))|(refine rg 16 (mW rfl (vV (J0 rfl rfl (by omega) (by omega)) (aV ?_))))|refine nZ ?_));all_goals first|omega | skip
    exact ⟨⟨2*k,by omega,by omega⟩,by dsimp only;omega,⟨[0],rfl,⟨rfl,rfl,rfl,by dsimp only;rw [show ((2*k:Nat):Int)=(k:Int)*2 by omega];rfl,trivial⟩,⟨.inr (aC rfl (bB _ (bY _)) (bY _)),trivial⟩,by decide,lX⟩⟩
   ·rw [AZ (k:=2*k) (l:=r) (by omega),← AZ (k:=k) (l:=r) (by omega)] at h3
    rw [← h3]
    (repeat' (first|refine wS ?_|refine wK ?_|refine wE ?_|(refine wC rfl ?_ ?_<;>(intro hb;(try simp only [nm] at hb);try omega))|(refine rg 9 (dJ rfl (vV (iQ rfl rfl) ?_)))|(refine rg 13 (dJ rfl (vV (cK rfl rfl (by omega) (by omega)) (aV ?_))))|(refine rg 14 (dJ rfl (vV (aK rfl rfl) ?_)))|(refine rg 16 (mW rfl (vV (J0 rfl rfl (by omega) (by omega)) (aV ?_))))|refine nZ ?_));all_goals first|omega | skip
    exact ⟨⟨2*k,by omega,by omega⟩,by dsimp only;omega,⟨[0],rfl,⟨rfl,rfl,rfl,by dsimp only;rw [show ((2*k:Nat):Int)=(k:Int)*2 by omega];rfl,trivial⟩,⟨.inr (aC rfl rfl (bY _)),trivial⟩,by decide,lX⟩⟩
 ·rw [AZ (k:=k) (l:=l) (by omega)]
  (repeat' (first|refine wS ?_|refine wE ?_|(refine wC rfl ?_ ?_<;>(intro hb;(try simp only [nm] at hb);try omega))|(refine rg 7 (dJ rfl (vV (aK rfl rfl) ?_)))|refine nZ ?_));all_goals first|omega | exact ⟨.inl rfl,[0],_,rfl,rfl,rfl,⟨.inr (aC rfl rfl (bY _)),trivial⟩,by decide,lX⟩ | exact ⟨.inr rfl,[0],_,rfl,rfl,rfl,⟨.inr (aC rfl rfl (bY _)),trivial⟩,by decide,lX⟩
theorem zY0 (l:List W){N:Nat}(hN:N=l.length) (hl:N≤100000) (hw:∀ w,w∈l→V6 w) :
  aM Tryz.prog 139 [.sl 0 0 N 3,tV] [.arr (gN l) 3] (.tup []) [.arr (gN (eN eY l)) 3]:=by
 have hc:=zF8 l hN hl hw;refine bS T Tryz.func139 rfl rfl rfl rfl ?_
 (repeat' (first|(refine rg 0 (dJ rfl (qW T rfl (mW rfl (bT [0] rfl rfl (hc) rfl rfl (by decide) ⟨.inr (aC rfl rfl (bY _)),trivial⟩ (by simp) rfl ?_)))))|refine nZ ?_));all_goals first|omega | exact ⟨.inl rfl,[0],_,rfl,rfl,rfl,⟨.inr (aC rfl (bB _ (bY _)) (bY _)),trivial⟩,by decide,lX⟩ | exact ⟨.inr rfl,[0],_,rfl,rfl,rfl,⟨.inr (aC rfl (bB _ (bY _)) (bY _)),trivial⟩,by decide,lX⟩
end Go.Proofs.Q
namespace Go.Ld
open Go.Ab Go.Proofs.Q
abbrev w0:W:=([],0,[])
def F8 (l:List W):Nat→List W
 | 0=>[]
 | m+1=>if 0<m∧L8 (l.getD m w0) (l.getD (m-1) w0)=true then F8 l m else F8 l m++[l.getD m w0]
theorem UC {l:List W}{m:Nat}(h:0<m) (e:L8 (l.getD m w0) (l.getD (m-1) w0)=true):F8 l (m+1)=F8 l m:=by
 rw [F8,if_pos ⟨h,e⟩]
theorem UB {l:List W}{m:Nat}(e:L8 (l.getD m w0) (l.getD (m-1) w0)=false):F8 l (m+1)=F8 l m++[l.getD m w0]:=by
 rw [F8,if_neg (fun q=>by rw [e] at q;cases q.2)]
theorem UA (l:List W):F8 l 1=[l.getD 0 w0]:=by
 rw [F8,if_neg (fun q=>Nat.lt_irrefl _ q.1)];rfl
theorem JE (y:W):∀ (A:List W) (p:W),lF L8 p (A++[y])=lF L8 p A++(if L8 y ((p::A).getLastD w0)=true then [] else [y])
 | [],p=>by
  show (if L8 y p=true then [] else [y])=_
  simp [lF]
 | x::A,p=>by
  rw [List.cons_append,lF,lF,JE y A x];have e:((p::x::A).getLastD w0)=((x::A).getLastD w0):=by simp [List.getLastD]
  rw [e];split <;> simp
theorem zQ5 (y:W) (A:List W) (h:A≠[]):F7 L8 (A++[y])=F7 L8 A++(if L8 y (A.getLastD w0)=true then [] else [y]):=by
 cases A with
 | nil=>exact absurd rfl h
 | cons x A=>rw [List.cons_append];show x::lF L8 x (A++[y])=_;rw [JE];rfl
theorem pZ {l:List W}{m:Nat}(h:m<l.length):l.getD m w0=l[m]:=by rw [aE,aB h];rfl
theorem WQ (l:List W):∀ m,m≤l.length→F8 l m=F7 L8 (l.take m)
 | 0,_=>by rw [lH];rfl
 | m+1,h=>by
  have e:l.take (m+1)=l.take m++[l.getD m w0]:=by rw [pZ (by omega),aL (by omega)]
  rcases U8 m with rfl | h0
  ·rw [UA,e];rfl
  ·have hne:l.take m≠[]:=fun q=>by have:=congrArg List.length q;rw [aY,List.length_nil] at this;omega
   rw [e,zQ5 _ _ hne,← WQ l m (by omega)]
   have hl:(l.take m).getLastD w0=l.getD (m-1) w0:=by
    rw [List.getLastD_eq_getLast?,List.getLast?_eq_getElem?,aY,K5 (by omega),List.getElem?_take_of_lt (by omega),aE]
   rw [hl];cases hq:L8 (l.getD m w0) (l.getD (m-1) w0) with
   | true=>rw [UC h0 hq,if_pos rfl,List.append_nil]
   | false=>rw [UB hq,if_neg (by simp)]
theorem yS7 (l:List W):F8 l l.length=F7 L8 l:=by rw [WQ l _ (aX _),cM]
theorem xG8 {l:List W}{m i:Nat}(hm:m<l.length) (hi:i=m):(gN l)[i]? = some (wA (l.getD m w0)):=by
 subst hi;simp [hm]
theorem UK {G l:List W}{m:Nat}{i:Nat}(hg:G.length≤m) (hm:m<l.length) (hi:i=m):(gN (G++l.drop G.length))[i]? = some (wA (l.getD m w0)):=by
 subst hi;rw [bN,aF hg,eK,show G.length+(i-G.length)=i by omega,aB hm,pZ hm];rfl
theorem yO0 {G l:List W}{x:W}{j:Int}(h:G.length<l.length) (hj:j=G.length):(gN (G++l.drop G.length)).set (0+j.toNat) (wA x)=gN ((G++[x])++l.drop (G++[x]).length):=by
 rw [zG (i:=G.length) hj,aP h,pE _ _ _ _ rfl];simp
theorem ZA {G l:List W}(h:G.length≤l.length):(gN (G++l.drop G.length)).length=l.length:=by simp;omega
theorem zE4 {G:List W}{l:List W}:(gN (G++l.drop G.length)).take (0+(G.length:Int).toNat)=gN G:=by
 rw [Nat.zero_add,bI,← lB,tY]
end Go.Ld
namespace Go.Proofs.Q
open Go Go.Ab Go.Ld
attribute [local irreducible] VC AW bW aM
abbrev xD9:AV:=.clo (.func 145) [] []
theorem TY (l:List W) (hl:l.length≤1000000) (hw:∀ w,w∈l→V6 w):aM Tryz.prog 144 [.sl 0 0 l.length 3,xD9] [.arr (gN l) 3] (.sl 0 0 (F7 L8 l).length 3) [.arr (gN (F7 L8 l)) 3]:=by
 rw [← yS7];have hll:(gN l).length=l.length:=fQ l;refine bS T Tryz.func144 rfl rfl rfl rfl ?_;by_cases h2:l.length<2
 ·have hk:F8 l l.length=l:=by
   match l,h2 with
   | [],_=>rfl
   | [a],_=>exact UA _
   | _::_::_,h=>exact absurd h (by simp)
  rw [hk]
  (repeat' (first|refine wS ?_|refine wR ?_|(refine wC rfl ?_ ?_<;>(intro hb;(try simp only [nm] at hb);try omega))|(refine rg 0 (aV ?_))|(refine rg 1 (mW rfl (qW T rfl (vV (aK rfl rfl) ?_))))|(refine rg 2 (mW rfl (aV ?_)))|refine nZ ?_));all_goals first|omega | exact ⟨.inl rfl,[0],_,rfl,rfl,rfl,⟨.inr (aC rfl rfl (bY _)),trivial⟩,by decide,lX⟩
 ·(repeat' (first|refine wS ?_|refine wB ?_|refine wK ?_|(refine wC rfl (fun hb=>?_) (fun hb=>?_) <;> (((try simp only [nm] at hb);try omega)))|(refine rg 0 (aV ?_))|(refine rg 1 (mW rfl (qW T rfl (vV (aK rfl rfl) ?_))))|(refine rg 3 (aV ?_))|(refine nZ ?_)));all_goals try omega
  refine dI (X:={k:Nat // 1≤k∧k≤l.length∧F8 l k=l.take k}) (fun k=>[(0,.sl 0 0 l.length 3),(1,xD9),(5,.i k.1)]) (fun _=>[.arr (gN l) 3]) (fun k=>l.length-k.1) ⟨1,by omega,by omega,by rw [UA,pZ (by omega),aL (by omega)];rfl⟩ ⟨[0],rfl,by (repeat (first|exact trivial|refine ⟨rfl,?_⟩)),⟨.inr (aC rfl rfl (bY _)),trivial⟩,by decide,lX⟩ ?_
  rintro ⟨k,hk1,hk,hkc⟩;dsimp only;by_cases hlt:k<l.length
  ·have e1:=xG8 (i:=0+(k:Int).toNat) hlt (by omega)
   have e2:=xG8 (l:=l) (m:=k-1) (i:=0+((k:Int)-1).toNat) (by omega) (by omega)
   have hc:=DZ (l.getD k w0) (l.getD (k-1) w0) (hw _ (by rw [pZ hlt];exact aO _)) (hw _ (by rw [pZ (by omega)];exact aO _))
   cases hd:L8 (l.getD k w0) (l.getD (k-1) w0) with
   | true=>
    have hc1:=UC (l:=l) hk1 hd;rw [hkc] at hc1;rw [hd] at hc;clear hd;generalize l.getD k w0=a at *;generalize l.getD (k-1) w0=b at *
    (repeat' (first|refine wS ?_|refine wB ?_|refine wK ?_|refine wT ?_|(refine wC rfl ?_ ?_<;>(intro hb;(try simp only [nm] at hb);try omega))|(refine rg 4 (dJ rfl (qW T rfl (vV (aK rfl rfl) ?_))))|(refine vW (id:=6) 10 66 xK8 xK9 (rM 18 10) xL0 cP rfl (by decide +kernel) (by decide +kernel) ?_;(dsimp only [List.take,List.drop]);refine dN rfl (dN rfl (dN rfl (dV rfl (by exact aT T rfl rfl rfl rfl rfl (by omega) (by omega)) ?_)));refine dV rfl (by exact bA T rfl rfl (bX rfl e1) rfl) ?_;refine dN rfl (dN rfl (dV rfl (dC rfl rfl (by omega) (by omega)) (dV rfl (by exact aT T rfl rfl rfl rfl rfl (by omega) (by omega)) ?_)));refine dV rfl (by exact bA T rfl rfl (bX rfl e2) rfl) ?_;refine dE ?_;refine iI ?_;refine vV (kC (hc)) ?_)|(refine rg 7 (dJ rfl (vV (by exact kB T rfl rfl rfl rfl rfl rfl (by omega) (by omega) (by omega)) ?_));refine aV ?_)|(refine rg 8 (aV ?_))|refine nZ ?_));all_goals try omega
    have hl1:(F8 l (k+1)).length=k:=by rw [hc1];simp;omega
    refine dI (X:={j:Nat // 1≤j∧k+j≤l.length∧(F8 l (k+j)).length+1≤k+j}) (fun j=>[(0,.sl 0 0 l.length 3),(1,xD9),(5,.i (F8 l (k+j.1)).length),(6,.sl 0 (0+(k:Int).toNat) ((l.length:Int)-(k:Int)).toNat 3),(7,.i j.1)]) (fun j=>[.arr (gN (F8 l (k+j.1)++l.drop (F8 l (k+j.1)).length)) 3]) (fun j=>l.length-(k+j.1)) ⟨1,by omega,by omega,by omega⟩ ⟨[0],rfl,⟨rfl,rfl,by dsimp only;rw [hl1];rfl,rfl,rfl,trivial⟩,⟨.inr (aC rfl (by dsimp only;rw [hl1,hc1,bK]) (bY _)),trivial⟩,by decide,lX⟩ ?_
    clear e1 e2 hl1 hc1 hc a b;rintro ⟨j,hj1,hj,hjc⟩;dsimp only;by_cases hjl:k+j<l.length
    ·have e1:=UK (G:=F8 l (k+j)) (l:=l) (m:=k+j) (i:=0+(k:Int).toNat+(j:Int).toNat) (by omega) hjl (by omega)
     have e2:=UK (G:=F8 l (k+j)) (l:=l) (m:=k+j-1) (i:=0+(k:Int).toNat+((j:Int)-1).toNat) (by omega) (by omega) (by omega)
     have e3:=UK (G:=F8 l (k+j)) (l:=l) (m:=(F8 l (k+j)).length) (i:=0+(((F8 l (k+j)).length:Nat):Int).toNat) (aX _) (by omega) (by omega)
     have hset:=yO0 (G:=F8 l (k+j)) (l:=l) (x:=l.getD (k+j) w0) (j:=(((F8 l (k+j)).length:Nat):Int)) (by omega) rfl
     have hal:=ZA (G:=F8 l (k+j)) (l:=l) (by omega)
     have hdup:=UC (l:=l) (m:=k+j) (by omega)
     have hnew:=UB (l:=l) (m:=k+j);have hc:=DZ (l.getD (k+j) w0) (l.getD (k+j-1) w0) (hw _ (by rw [pZ hjl];exact aO _)) (hw _ (by rw [pZ (by omega)];exact aO _))
     have hnl:∀ G:List W,(G++[l.getD (k+j) w0]).length=G.length+1:=fun G=>by simp
     rw [show k+j+1=k+(j+1) by omega] at hdup hnew
     generalize l.getD (k+j) w0=a at *;generalize l.getD (k+j-1) w0=b at *;generalize l.getD (F8 l (k+j)).length w0=y at *;generalize F8 l (k+j)=G at *;cases hd:L8 a b with
     | true=>
      have hdup:=hdup hd;rw [hd] at hc;generalize hA:gN (G++l.drop G.length)=A at *
      (repeat' (first|refine wS ?_|refine wB ?_|refine wK ?_|refine wU ?_|(refine wC rfl ?_ ?_<;>(intro hb;(try simp only [nm] at hb);try omega))|(refine rg 9 (dJ rfl (qW T rfl (vV (aK rfl rfl) ?_))))|(refine cH (id:=11) 66 xL1 (rM 38 12) xL2 cP rfl (by decide +kernel) (dN rfl (dN rfl (dN rfl (dV rfl (by exact aT T rfl rfl rfl rfl rfl (by omega) (by omega)) ?_))));refine dV rfl (by exact bA T rfl rfl (bX rfl e1) rfl) ?_;refine dN rfl (dN rfl (dV rfl (dC rfl rfl (by omega) (by omega)) (dV rfl (by exact aT T rfl rfl rfl rfl rfl (by omega) (by omega)) ?_)));refine dV rfl (by exact bA T rfl rfl (bX rfl e2) rfl) ?_;refine dV rfl (kC (hc)) (dV rfl (dS rfl) (dE ?_)))|(refine iA 10 rfl rfl rfl (by omega) (by omega) ?_)|refine nZ ?_));all_goals try omega
      all_goals exact ⟨⟨j+1,by omega,by omega,by rw [hdup];omega⟩,by dsimp only;omega,[0],rfl,⟨rfl,rfl,by dsimp only;rw [hdup];rfl,rfl,rfl,trivial⟩,⟨.inr (aC rfl (by dsimp only;rw [hdup];exact hA.symm) (bY _)),trivial⟩,by decide,lX⟩
     | false=>
      have hnew:=hnew hd;have hgl:=hnl G;rw [hd] at hc;generalize hA:gN (G++l.drop G.length)=A at *
      (repeat' (first|refine wS ?_|refine wB ?_|refine wK ?_|refine wT ?_|(refine wC rfl ?_ ?_<;>(intro hb;(try simp only [nm] at hb);try omega))|(refine rg 9 (dJ rfl (qW T rfl (vV (aK rfl rfl) ?_))))|(refine cH (id:=11) 66 xL1 (rM 38 12) xL2 cP rfl (by decide +kernel) (dN rfl (dN rfl (dN rfl (dV rfl (by exact aT T rfl rfl rfl rfl rfl (by omega) (by omega)) ?_))));refine dV rfl (by exact bA T rfl rfl (bX rfl e1) rfl) ?_;refine dN rfl (dN rfl (dV rfl (dC rfl rfl (by omega) (by omega)) (dV rfl (by exact aT T rfl rfl rfl rfl rfl (by omega) (by omega)) ?_)));refine dV rfl (by exact bA T rfl rfl (bX rfl e2) rfl) ?_;refine dV rfl (kC (hc)) (dV rfl (dS rfl) (dE ?_)))|(refine rg 12 (dJ rfl (dJ rfl (vV (by exact aT T rfl rfl rfl rfl rfl (by omega) (by omega)) ?_)));refine vV (by exact bA T rfl rfl (bX rfl e1) rfl) ?_;refine vV (by exact aT T rfl rfl rfl rfl rfl (by omega) (by omega)) ?_;refine bC T rfl rfl rfl rfl rfl rfl (by decide) (nJ rfl e3 rfl) ?_)|(refine iA 13 rfl rfl rfl (by omega) (by omega) ?_)|(refine iA 10 rfl rfl rfl (by omega) (by omega) ?_)|refine nZ ?_));all_goals try omega
      all_goals exact ⟨⟨j+1,by omega,by omega,by rw [hnew];omega⟩,by dsimp only;omega,[0],rfl,⟨rfl,rfl,by dsimp only;rw [hnew,hgl];rfl,rfl,rfl,trivial⟩,⟨.inr (aC rfl (by dsimp only;rw [hnew];exact hset) (bY _)),trivial⟩,by decide,lX⟩
    ·have hkj:k+j=l.length:=by omega
     have hcm:F8 l l.length=F8 l (k+j):=by rw [hkj]
     have hal:=ZA (G:=F8 l (k+j)) (l:=l) (by omega)
     have htk:=zE4 (G:=F8 l (k+j)) (l:=l);rw [hcm];generalize F8 l (k+j)=G at *
     (repeat' (first|refine wS ?_|refine wR ?_|refine wE ?_|(refine wC rfl ?_ ?_<;>(intro hb;(try simp only [nm] at hb);try omega))|(refine rg 9 (dJ rfl (qW T rfl (vV (aK rfl rfl) ?_))))|(refine rg 14 (dJ rfl (vV (by exact kB T rfl rfl rfl rfl rfl rfl (by omega) (by omega) (by omega)) ?_));refine V9 T rfl rfl rfl ⟨rfl,rfl,by decide⟩ rfl (by rw [hal];omega) ?_)|(refine rg 15 (dJ rfl (vV (by exact kB T rfl rfl rfl rfl rfl rfl (by omega) (by omega) (by omega)) ?_));refine aV ?_)|refine nZ ?_));all_goals try omega
     all_goals exact ⟨.inl rfl,[0],_,rfl,(by show AV.sl 0 0 ((G.length:Int)-0).toNat 3=AV.sl 0 0 G.length 3;rw [show ((G.length:Int)-0).toNat=G.length by omega]),rfl,⟨.inr (aC rfl htk (bY _)),trivial⟩,by decide,lX⟩
   | false=>
    have hnew:=UB (l:=l) hd;rw [hkc,pZ hlt,← aL hlt] at hnew;rw [hd] at hc;clear hd;generalize l.getD k w0=a at *;generalize l.getD (k-1) w0=b at *
    (repeat' (first|refine wS ?_|refine wB ?_|refine wK ?_|refine wU ?_|(refine wC rfl ?_ ?_<;>(intro hb;(try simp only [nm] at hb);try omega))|(refine rg 4 (dJ rfl (qW T rfl (vV (aK rfl rfl) ?_))))|(refine vW (id:=6) 10 66 xK8 xK9 (rM 18 10) xL0 cP rfl (by decide +kernel) (by decide +kernel) ?_;(dsimp only [List.take,List.drop]);refine dN rfl (dN rfl (dN rfl (dV rfl (by exact aT T rfl rfl rfl rfl rfl (by omega) (by omega)) ?_)));refine dV rfl (by exact bA T rfl rfl (bX rfl e1) rfl) ?_;refine dN rfl (dN rfl (dV rfl (dC rfl rfl (by omega) (by omega)) (dV rfl (by exact aT T rfl rfl rfl rfl rfl (by omega) (by omega)) ?_)));refine dV rfl (by exact bA T rfl rfl (bX rfl e2) rfl) ?_;refine dE ?_;refine iI ?_;refine vV (kC (hc)) ?_)|(refine iA 5 rfl rfl rfl (by omega) (by omega) ?_)|refine nZ ?_));all_goals try omega
    all_goals exact ⟨⟨k+1,by omega,hlt,hnew⟩,by dsimp only;omega,[0],rfl,by (repeat (first|exact trivial|refine ⟨rfl,?_⟩)),⟨.inr (aC rfl rfl (bY _)),trivial⟩,by decide,lX⟩
  ·obtain rfl:k=l.length:=by omega
   have hcm:F8 l l.length=l:=by rw [hkc,cM]
   rw [hcm]
   (repeat' (first|refine wS ?_|refine wR ?_|refine wE ?_|(refine wC rfl ?_ ?_<;>(intro hb;(try simp only [nm] at hb);try omega))|(refine rg 4 (dJ rfl (qW T rfl (vV (aK rfl rfl) ?_))))|(refine rg 16 (mW rfl (aV ?_)))|refine nZ ?_));all_goals first|omega | exact ⟨.inl rfl,[0],_,rfl,rfl,rfl,⟨.inr (aC rfl rfl (bY _)),trivial⟩,by decide,lX⟩
theorem QL (l:List W) (hl:l.length≤1000000):aM Tryz.prog 138 [.rowE (gN l) 3] [] (.sl 0 0 l.length 3) [.arr (gN l) 3]:=by
 have hll:(gN l).length=l.length:=fQ l;refine bS T Tryz.func138 rfl rfl rfl rfl ?_
 repeat' (first|refine wS ?_|refine wK ?_|refine wT ?_|refine wU ?_|(refine rg 0 (aV ?_))|(refine rg 1 (mV ?_);refine vE T rfl rfl rfl rfl fun b hb=>?_;cases b)|refine nZ ?_)
 ·(repeat' (first|refine wR ?_|(refine rg 3 (cO (by exact bG T rfl rfl (by decide) (by decide) rfl rfl rfl) rfl ?_);refine mW rfl (gJ T rfl rfl rfl rfl rfl rfl (by decide) (.row (qN l)) (yM3 l) (by simp;omega) (by simp;omega) rfl ?_);refine aV ?_)|(refine nZ ?_)));exact ⟨.inl rfl,[1],_,rfl,(by show AV.sl 1 0 (0+(gN l).length) 3=AV.sl 1 0 l.length 3;simp),rfl,⟨.inr (aC rfl rfl (bY _)),trivial⟩,by decide,AM⟩
 ·have hl0:l=[]:=fH.1 (Classical.byContradiction fun h=>by have:=hb (by omega);cases this)
  subst hl0
  (repeat' (first|refine wR ?_|(refine rg 2 (vV (eD rfl) (oF 2 3 rfl (by decide) ?_)))|refine nZ ?_));exact ⟨.inl rfl,[0],_,rfl,rfl,rfl,⟨.inr (aC rfl rfl (bY _)),trivial⟩,by decide,AM⟩
theorem eX:∀ {es:List (List AV)},(∀ e,e∈es→AV.idfL e=true)→AV.idfL es.flatten=true
 | [],_=>rfl
 | e::es,h=>by
  have h1:=h e aR;have h2:=eX (es:=es) fun q hq=>h q (aH _ hq);rw [dZ];generalize es.flatten=F at *;clear h
  induction e with
  | nil=>exact h2
  | cons x e ih=>
   simp only [List.cons_append,AV.idfL,aN] at h1 ⊢;exact ⟨h1.1,ih h1.2⟩
theorem HW (l:List W) (hl:l.length≤100000) (hw:∀ w,w∈l→V6 w):aM Tryz.prog 95 [.rowE (gN l) 3] [] (.rowE (gN (gX l)) 3) []:=by
 refine kZ (by simp:(gX l).length=(gN (gX l)).length) (eX (bY _)) ?_
 have h1:=QL l (by omega)
 have h2:=zY0 l rfl hl hw;have h3:=TY (eN eY l) (by rw [jH];omega) (fun w h=>hw w ((dW _ _).mem_iff.1 h))
 rw [jH] at h3;show aM _ _ _ _ (.sl 0 0 (F7 L8 (eN eY l)).length 3) [.arr (gN (F7 L8 (eN eY l))) 3];generalize F7 L8 (eN eY l)=R at *;refine bS T Tryz.func95 rfl rfl rfl rfl ?_
 (repeat' (first|refine wS ?_|refine wR ?_|(refine rg 0 (aV ?_))|(refine rg 1 (mW rfl (cO (by exact gH rfl rfl h1 (.inr ⟨rfl,rfl,by simp⟩)) rfl ?_));refine aV ?_)|(refine rg 2 (mW rfl (bT [0] rfl rfl (h2) rfl rfl (by decide) ⟨.inr (aC rfl (bB _ (bY _)) (bY _)),trivial⟩ (by simp) rfl ?_)))|(refine rg 3 (mW rfl (bT [0] rfl rfl (h3) rfl rfl (by decide) ⟨.inr (aC rfl (bB _ (bY _)) (bY _)),trivial⟩ (by simp) rfl ?_));refine aV ?_)|refine nZ ?_));all_goals exact ⟨.inl rfl,[0],_,rfl,rfl,rfl,⟨.inr (aC rfl (bB _ (bY _)) (bY _)),trivial⟩,by decide,fun i h=>absurd h (eV _)⟩
end Go.Proofs.Q
namespace Go.Ab
open Go
mutual
def AV.pln:AV→Bool
 | .v _=>true
 | .any=>true
 | .row ..=>true
 | .mrow ..=>true
 | .pr ..=>true
 | .agg cs=>AV.plnL cs
 | _=>false
def AV.plnL:List AV→Bool
 | []=>true
 | x::l=>AV.pln x&&AV.plnL l
end
mutual
theorem XI {h:Hp}:∀ (x:AV),x.pln=true→oX h x x
 | .v x,_=>.v x
 | .any,_=>.any
 | .row cs l s,_=>.row cs l s
 | .mrow ks vs,_=>.mrow ks vs
 | .pr cs o,_=>.pr cs o
 | .agg cs,e=>.agg (lK cs (by simpa [AV.pln] using e))
 | .ptr ..,e | .ep ..,e | .sl ..,e | .mp ..,e | .tup ..,e | .clo ..,e | .cond ..,e | .ifc ..,e=>by simp [AV.pln] at e
theorem lK {h:Hp}:∀ (xs:List AV),AV.plnL xs=true→mM h xs xs
 | [],_=>.nil
 | x::l,e=>by
  simp only [AV.plnL,aN] at e;exact .cons (XI x e.1) (lK l e.2)
end
theorem AG:∀ (a b:List AV),AV.plnL (a++b)=(AV.plnL a&&AV.plnL b)
 | [],b=>by simp [AV.plnL]
 | x::a,b=>by simp [AV.plnL,AG a b,Bool.and_assoc]
theorem rR {α:Type}{g:α→List AV}(hg:∀ a,AV.plnL (g a)=true):∀ l:List α,AV.plnL (l.map g).flatten=true
 | []=>rfl
 | a::l=>by rw [List.map_cons,dZ,AG,hg a,rR hg l];rfl
theorem pD {h:Hp}{k n sz:Nat}{es:List (List AV)}(hk:h[k]? = some (.arr es sz)) (hn:n=es.length) (hp:AV.plnL es.flatten=true):oX h (.sl k 0 n sz) (.rowE es sz):=by
 subst hn;refine oX.sl hk (by omega) ?_
 rw [jJ,cM];exact lK _ hp
end Go.Ab
namespace Go.Ld
open Go.Ab Go.Proofs.Q
theorem iO (l:List SP):(fS l).length=l.length:=aU _
theorem fO (l:List SP):∀ e,e∈fS l→AV.idfL e=true:=by intro e he;obtain ⟨i,_,rfl⟩:=bD.1 he;rfl
theorem GZ (l:List SP):(fS l).flatten.all AV.one=true:=by
 induction l with
 | nil=>rfl
 | cons x l ih=>exact ih
theorem xX {l:List SP}{j:Int}{i:Nat}(h:i<l.length) (e:j=i):(fS l)[j.toNat]? = some [AV.i (l.getD i (0,0)).1,AV.i (l.getD i (0,0)).2]:=by
 subst e;rw [bI,bN,aB h,aE,aB h];rfl
theorem P4 {l:List SP}{j:Int}{i:Nat}(h:i<l.length) (e:j=i):(fS l)[0+j.toNat]? = some [AV.i (l.getD i (0,0)).1,AV.i (l.getD i (0,0)).2]:=by
 rw [Nat.zero_add];exact xX h e
theorem CZ {l:List SP}{j:Int}{i:Nat}{r:SP}(e:j=i):(fS l).set (0+j.toNat) [AV.i r.1,AV.i r.2]=fS (l.set i r):=by
 subst e;rw [Nat.zero_add,bI];show _=List.map (fun p:SP=>[AV.i p.1,AV.i p.2]) (l.set i r);rw [zC]
end Go.Ld
namespace Go.Proofs.Q
open Go Go.Ab Go.Ld
attribute [local irreducible] VC AW bW aM
theorem jP (l:List Nat):∀ i:Nat,i<0→l[i]? = some i:=fun i h=>absurd h (eV _)
theorem zQ6 (l:List SP) (hl:l.length≤1000000):aM Tryz.prog 181 [.rowE (fS l) 2] [] (.sl 0 0 l.length 2) [.arr (fS l) 2]:=by
 have hll:(fS l).length=l.length:=iO l;refine bS T Tryz.func181 rfl rfl rfl rfl ?_
 repeat' (first|refine wS ?_|refine wK ?_|refine wT ?_|refine wU ?_|(refine rg 0 (aV ?_))|(refine rg 1 (mV ?_);refine vE T rfl rfl rfl rfl fun b hb=>?_;cases b)|refine nZ ?_)
 ·(repeat' (first|refine wR ?_|(refine rg 3 (cO (by exact bG T rfl rfl (by decide) (by decide) rfl rfl rfl) rfl ?_);refine mW rfl (gJ T rfl rfl rfl rfl rfl rfl (by decide) (.row (lT l)) (GZ l) (by simp;omega) (by simp;omega) rfl ?_);refine aV ?_)|(refine nZ ?_)));exact ⟨.inl rfl,[1],_,rfl,(by show AV.sl 1 0 (0+(fS l).length) 2=AV.sl 1 0 l.length 2;simp),rfl,⟨.inr (aC rfl rfl (fO _)),trivial⟩,by decide,jP _⟩
 ·have hl0:l=[]:=fH.1 (Classical.byContradiction fun h=>by have:=hb (by omega);cases this)
  subst hl0
  (repeat' (first|refine wR ?_|(refine rg 2 (vV (eD rfl) (oF 2 2 rfl (by decide) ?_)))|refine nZ ?_));exact ⟨.inl rfl,[0],_,rfl,rfl,rfl,⟨.inr (aC rfl rfl (fO _)),trivial⟩,by decide,jP _⟩
theorem LP (w:W) (hw:V6 w):aM Tryz.prog 132 [RX w] [] (.agg [.sl 0 0 w.1.length 1,.i w.2.1,.sl 1 0 w.2.2.length 2]) [.arr (ints w.1) 1,.arr (fS w.2.2) 2]:=by
 obtain ⟨p,m,c⟩:=w;have h1:=LQ p (by have:=hw.1;dsimp only at this;omega)
 have h2:=zQ6 c hw.2;dsimp only;refine bS T Tryz.func132 rfl rfl rfl rfl ?_
 (repeat' (first|refine wS ?_|refine wR ?_|(refine rg 0 (cO (dR rfl rfl) rfl (cO (cN T rfl) rfl ?_)))|(refine cH (id:=1) 12 [[],[0],[0,1],[],[3],[],[5],[0,1,2,5,6],rN 8] (rM 3 9) [[],[],[],[3,4,5],[3,4,5],rM 3 5,rM 3 5,[6,7],[]] cP rfl (by decide +kernel) (dP T rfl (dO T rfl (K2 rfl rfl rfl (by exact gH rfl rfl h1 (.inr ⟨rfl,rfl,by simp⟩)) rfl ?_)));refine dP T rfl (dO T rfl (dP T rfl (dO T rfl (K2 rfl rfl rfl (by exact gH rfl rfl h2 (.inr ⟨rfl,rfl,by simp⟩)) rfl ?_))));refine dV rfl (by exact eT T rfl rfl rfl rfl) ?_;refine dE ?_;refine bC T rfl rfl rfl rfl rfl rfl (by decide) rfl ?_)|refine nZ ?_));all_goals exact ⟨.inl rfl,[2,3],_,rfl,rfl,rfl,⟨.inr (aC rfl (bB _ (bF p)) (bF p)),.inr (aC rfl (bB _ (fO c)) (fO c)),trivial⟩,by decide,jP _⟩
theorem CR {h:Hp}{k n:Nat}{l:List SP}(hk:h[k]? = some (.arr (fS l) 2)) (hn:n=l.length):oX h (.sl k 0 n 2) (.rowE (fS l) 2):=pD hk (by rw [hn,iO]) (rR (fun _=>rfl) _)
theorem yR9 (w:W){i k:Nat}(hw:V6 w) (hi:i<w.1.length) (hk:k<w.1.length) (hc:w.2.2.length=w.1.length) :
  aM Tryz.prog 94 [RX w,.i i,.i k] [] (.agg [.sl 0 0 w.1.length 1,.i w.2.1,.sl 1 0 w.2.2.length 2]) [.arr (ints (qC w i k).1) 1,.arr (fS (qC w i k).2.2) 2]:=by
 have hcl:=LP w hw;obtain ⟨p,m,c⟩:=w;have hw1:=hw.1;have hw2:=hw.2;dsimp only at hi hk hc hcl hw1 hw2;have p1:=CG (l:=p) (j:=(i:Int)) (i:=i) 0 hi rfl;have p2:=CG (l:=p) (j:=(k:Int)) (i:=k) 0 hk rfl;have ps:=VX (l:=p) (j:=(i:Int)) (i:=i) (x:=p.getD k 0) rfl;have p3:=CG (l:=p.set i (p.getD k 0)) (j:=(k:Int)) (i:=k) 0 (by simpa using hk) rfl
 have pt:=VX (l:=p.set i (p.getD k 0)) (j:=(k:Int)) (i:=k) (x:=p.getD i 0) rfl;have c1:=P4 (l:=c) (j:=(i:Int)) (i:=i) (by omega) rfl
 have c2:=P4 (l:=c) (j:=(k:Int)) (i:=k) (by omega) rfl
 have cs:=CZ (l:=c) (j:=(i:Int)) (i:=i) (r:=c.getD k (0,0)) rfl;have c3:=P4 (l:=c.set i (c.getD k (0,0))) (j:=(k:Int)) (i:=k) (by rw [hC];omega) rfl
 have ct:=CZ (l:=c.set i (c.getD k (0,0))) (j:=(k:Int)) (i:=k) (r:=c.getD i (0,0)) rfl;show aM _ _ _ _ _ [.arr (ints ((p.set i (p.getD k 0)).set k (p.getD i 0))) 1,.arr (fS ((c.set i (c.getD k (0,0))).set k (c.getD i (0,0)))) 2];have hlp:(ints p).length=p.length:=dD _;have hlc:(fS c).length=c.length:=iO _;dsimp only;refine bS T Tryz.func94 rfl rfl rfl rfl ?_
 (repeat' (first|refine wS ?_|(refine rg 0 (cO (dR rfl rfl) rfl (cO (cN T rfl) rfl ?_)))|(refine rg 1 (lW T rfl (cO (by exact gH rfl rfl hcl (.inr ⟨rfl,rfl,by simp⟩)) rfl ?_));refine bC T rfl rfl rfl rfl rfl rfl (by decide) rfl ?_)|refine nZ ?_));refine fF [(1,.i i),(2,.i k),(3,.ptr 0 0),(6,.ptr 1 0)] [.cells [.sl 2 0 p.length 1,.i m,.sl 3 0 c.length 2],.cells [.nils,.i 0,.nils],.arr (ints p) 1,.arr (fS c) 2] ⟨[0,1,2,3],rfl,(by repeat first|exact trivial|refine ⟨rfl,?_⟩),⟨.inr rfl,.inr rfl,.inr (aC rfl (bB _ (bF p)) (bF p)),.inr (aC rfl (bB _ (fO c)) (fO c)),trivial⟩,by decide,jP _⟩ ?_
 rw [← ps] at p3 pt;rw [← cs] at c3 ct;generalize p.getD k 0=x at *;generalize p.getD i 0=y at *;generalize c.getD k (0,0)=r at *;generalize c.getD i (0,0)=q at *
 (repeat' (first|refine wS ?_|refine wR ?_|(refine pG (id:=2) 46 xL3 (rM 9 17) [[],[],[9,10],[9,10,11],[9,10,11],rM 9 5,rM 9 6,rM 9 6,rM 9 8,rM 9 6,rM 9 6,rM 9 11,rM 9 11,rM 9 13,rM 9 11,rM 9 11,[12,13,14],[12,13,14]] [(17,2)] cP rfl (by decide +kernel) (dH rfl rfl rfl rfl (by exact bR T rfl rfl rfl) ?_);refine dH rfl rfl rfl rfl (by exact bA T rfl rfl rfl rfl) ?_;refine dH rfl rfl rfl rfl (by exact bV rfl) ?_;refine dH rfl rfl rfl rfl (by exact bR T rfl rfl rfl) ?_;refine dH rfl rfl rfl rfl (by exact bA T rfl rfl rfl rfl) ?_;refine dH rfl rfl rfl rfl (by exact bV rfl) ?_;refine dH rfl rfl rfl rfl (by exact bR T rfl rfl rfl) ?_;refine dH rfl rfl rfl rfl (by exact bA T rfl rfl rfl rfl) ?_;refine dH rfl rfl rfl rfl (by exact bV rfl) ?_;refine dH rfl rfl rfl rfl (by exact aT T rfl rfl rfl rfl rfl (by omega) (by omega)) ?_;refine dH rfl rfl rfl rfl (by exact bA T rfl rfl (bX rfl p2) rfl) ?_;refine dH rfl rfl rfl rfl (by exact bR T rfl rfl rfl) ?_;refine dH rfl rfl rfl rfl (by exact bA T rfl rfl rfl rfl) ?_;refine dH rfl rfl rfl rfl (by exact bV rfl) ?_;refine dH rfl rfl rfl rfl (by exact aT T rfl rfl rfl rfl rfl (by omega) (by omega)) ?_;refine dH rfl rfl rfl rfl (by exact bA T rfl rfl (bX rfl p1) rfl) ?_;refine dH rfl rfl rfl rfl (by exact aT T rfl rfl rfl rfl rfl (by omega) (by omega)) ?_;refine A0 rfl rfl rfl rfl (aI rfl) T rfl rfl rfl rfl rfl rfl (by decide) (zI rfl p1 rfl) ?_;refine uS rfl rfl rfl (by exact rfl) ?_;refine vV (by exact aT T rfl rfl rfl rfl rfl (by omega) (by omega)) ?_;refine bC T rfl rfl rfl rfl rfl rfl (by decide) (nJ rfl p3 rfl) ?_)|(refine pG (id:=3) 46 xL3 (rM 27 17) [[],[],[27,28],[27,28,29],[27,28,29],rM 27 5,rM 27 6,rM 27 6,rM 27 8,rM 27 6,rM 27 6,rM 27 11,rM 27 11,rM 27 13,rM 27 11,rM 27 11,[30,31,32],[30,31,32]] [(17,3)] cP rfl (by decide +kernel) (dH rfl rfl rfl rfl (by exact bR T rfl rfl rfl) ?_);refine dH rfl rfl rfl rfl (by exact bA T rfl rfl rfl rfl) ?_;refine dH rfl rfl rfl rfl (by exact bV rfl) ?_;refine dH rfl rfl rfl rfl (by exact bR T rfl rfl rfl) ?_;refine dH rfl rfl rfl rfl (by exact bA T rfl rfl rfl rfl) ?_;refine dH rfl rfl rfl rfl (by exact bV rfl) ?_;refine dH rfl rfl rfl rfl (by exact bR T rfl rfl rfl) ?_;refine dH rfl rfl rfl rfl (by exact bA T rfl rfl rfl rfl) ?_;refine dH rfl rfl rfl rfl (by exact bV rfl) ?_;refine dH rfl rfl rfl rfl (by exact aT T rfl rfl rfl rfl rfl (by omega) (by omega)) ?_;refine dH rfl rfl rfl rfl (by exact bA T rfl rfl (bX rfl c2) rfl) ?_;refine dH rfl rfl rfl rfl (by exact bR T rfl rfl rfl) ?_;refine dH rfl rfl rfl rfl (by exact bA T rfl rfl rfl rfl) ?_;refine dH rfl rfl rfl rfl (by exact bV rfl) ?_;refine dH rfl rfl rfl rfl (by exact aT T rfl rfl rfl rfl rfl (by omega) (by omega)) ?_;refine dH rfl rfl rfl rfl (by exact bA T rfl rfl (bX rfl c1) rfl) ?_;refine dH rfl rfl rfl rfl (by exact aT T rfl rfl rfl rfl rfl (by omega) (by omega)) ?_;refine A0 rfl rfl rfl rfl (aI rfl) T rfl rfl rfl rfl rfl rfl (by decide) (zI rfl c1 rfl) ?_;refine uS rfl rfl rfl (by exact rfl) ?_;refine vV (by exact aT T rfl rfl rfl rfl rfl (by omega) (by omega)) ?_;refine bC T rfl rfl rfl rfl rfl rfl (by decide) (nJ rfl c3 rfl) ?_)|(refine rg 4 (vV (bA T rfl rfl rfl rfl) (bC T rfl rfl rfl rfl rfl rfl (by decide) rfl ?_)))|refine nZ ?_));all_goals exact ⟨.inl rfl,[2,3],_,rfl,rfl,rfl,⟨.inr (aC rfl pt (bF _)),.inr (aC rfl ct (fO _)),trivial⟩,by decide,jP _⟩
theorem yS0 (w:W){i k:Nat}(hw:V6 w) (hi:i<w.1.length) (hk:k<w.1.length) (hc:w.2.2.length=w.1.length):aM Tryz.prog 94 [RX w,.i i,.i k] [] (RX (qC w i k)) []:=
 O3 (yR9 w hw hi hk hc) (.agg (.cons (sS rfl (by simp [qC])) (.cons (.v _) (.cons (CR rfl (by simp [qC])) .nil))))
theorem zL5 (a b:W):aM Tryz.prog 191 [RX a,RX b] [] (.i (cI a.2.1 b.2.1)) []:=by
 have h:=JD a.2.1 b.2.1;refine bS T Tryz.func191 rfl rfl rfl rfl ?_
 (repeat' (first|refine wS ?_|refine wR ?_|(refine rg 0 (cO (dR rfl rfl) rfl (cO (dR rfl rfl) rfl (aV ?_))))|(refine rg 1 (iK T rfl (iK T rfl (vV (kC (h)) (aV ?_)))))|refine nZ ?_));all_goals first|omega | exact rQ
end Go.Proofs.Q
namespace Go.Ld
open Go.Ab Go.Proofs.Q
def vQ {α:Type}(p:α→Bool):List α→Nat→Int
 | [],_=>-1
 | x::l,k=>if p x=true then k else vQ p l (k+1)
theorem KY {α:Type}{p:α→Bool}{l:List α}{k:Nat}(h:k<l.length):vQ p (l.drop k) k=if p l[k]=true then (k:Int) else vQ p (l.drop (k+1)) (k+1):=by
 rw [aP h];rfl
theorem EQ {α:Type}{p:α→Bool}{l:List α}{k:Nat}(h:l.length≤k):vQ p (l.drop k) k = -1:=by
 rw [cY h];rfl
theorem R2 {α:Type}(p:α→Bool):∀ (l:List α) (k:Nat),decide (vQ p l k ≥ 0)=l.any p
 | [],k=>by simp [vQ]
 | x::l,k=>by
  unfold vQ;split
  ·rename_i h;simp [h]
  ·rename_i h;rw [R2 p l (k+1)];simp [h]
theorem IQ {α:Type}(p:α→Bool):∀ (l:List α) (k:Nat),vQ p l k=match l.findIdx? p with
  | some i=>((k+i:Nat):Int)
  | none=>-1
 | [],k=>by simp [vQ]
 | x::l,k=>by
  unfold vQ;rw [List.findIdx?_cons];by_cases h:p x=true
  ·rw [if_pos h,if_pos h];simp
  ·rw [if_neg h,if_neg h,IQ p l (k+1)];cases l.findIdx? p with
   | none=>rfl
   | some i=>show ((k+1+i:Nat):Int)=((k+(i+1):Nat):Int);omega
theorem sW (l:List G):∀ e,e∈kY l→e.length=2:=by intro e he;obtain ⟨n,_,rfl⟩:=bD.1 he;rfl
theorem jX (l:List G):(kY l).length=l.length:=aU _
theorem zN7 (l:List G):(kY l).flatten.all AV.one=true:=by
 induction l with
 | nil=>rfl
 | cons x l ih=>exact ih
theorem eR (l:List G):∀ e,e∈kY l→AV.idfL e=true:=by intro e he;obtain ⟨x,_,rfl⟩:=bD.1 he;rfl
end Go.Ld
namespace Go.Proofs.Q
open Go Go.Ab Go.Ld
attribute [local irreducible] VC AW bW aM
abbrev zC9 (g:G):AV:=.agg (gA g)
theorem H3 {l:List W}{k:Nat}(h:k<l.length):(gN l)[(k:Int).toNat]? = some (wA l[k]):=by simp [h]
theorem LC {l:List G}{k:Nat}(h:k<l.length):(kY l)[(k:Int).toNat]? = some (gA l[k]):=by simp [h]
theorem VW {l:List Int}{k:Nat}(h:k<l.length):(ints l)[(k:Int).toNat]? = some [AV.i l[k]]:=by simp [h]
theorem zM0 {l:List W}{F:FuncId}{caps:List AV}{p:W→Bool}(hl:l.length≤1000000) (hi:AV.idfL caps=true) (hF:∀ x,x∈l→aM Tryz.prog F (.agg (wA x)::caps) [] (.b (p x)) []) :
  aM Tryz.prog 192 [.rowE (gN l) 3,.clo (.func F) [] caps] [] (.i (vQ p l 0)) []:=by
 have hlen:(gN l).length=l.length:=aU _;refine bS T Tryz.func192 rfl rfl rfl rfl ?_
 (repeat' (first|refine wS ?_|refine wB ?_|(refine rg 0 (aV ?_))|(refine rg 1 (mW rfl (qW T rfl (mV ?_))))|refine nZ ?_));refine dI (X:={k:Nat // k≤l.length∧vQ p l 0=vQ p (l.drop k) k}) (fun k=>[(0,.rowE (gN l) 3),(1,.clo (.func F) [] caps),(7,.i (gN l).length),(8,.i k.1)]) (fun _=>[]) (fun k=>l.length-k.1) ⟨0,by simp,rfl⟩ ⟨[],rfl,⟨rfl,by rw [lO hi];rfl,rfl,rfl,trivial⟩,trivial,eM,fun _ h=>absurd h (eV _)⟩ ?_
 rintro ⟨k,hk,he⟩;dsimp only;by_cases hlt:k<l.length
 ·have hc:=hF l[k] (aO hlt);have hg:=H3 (l:=l) hlt;rw [KY hlt] at he;generalize l[k]=y at *;cases hp:p y with
  | true=>
   rw [hp] at hc;rw [hp,if_pos rfl] at he
   (repeat' (first|refine wS ?_|refine wB ?_|refine wK ?_|refine wR ?_|refine wT ?_|(refine wC rfl ?_ ?_<;>(intro hb;(try simp only [nm] at hb);try omega))|(refine rg 2 (vV (aK rfl rfl) ?_))|(refine rg 3 (mW rfl (aV ?_)))|(refine rg 4 (dJ rfl (mW rfl (vV (ix T rfl (by omega) (qN l) hg) (lW T rfl (vV (by exact gD rfl rfl hc rfl (by simp [AV.idfL,AV.idf,hi]) rfl) ?_))))))|(refine rg 5 (mW rfl (aV ?_)))|refine nZ ?_));all_goals first|omega | exact dU (.inl rfl) rfl (by rw [he];rfl)
  | false=>
   rw [hp] at hc;rw [hp,if_neg (by simp)] at he
   (repeat' (first|refine wS ?_|refine wB ?_|refine wK ?_|refine wU ?_|(refine wC rfl ?_ ?_<;>(intro hb;(try simp only [nm] at hb);try omega))|(refine rg 2 (vV (aK rfl rfl) ?_))|(refine rg 3 (mW rfl (aV ?_)))|(refine rg 4 (dJ rfl (mW rfl (vV (ix T rfl (by omega) (qN l) hg) (lW T rfl (vV (by exact gD rfl rfl hc rfl (by simp [AV.idfL,AV.idf,hi]) rfl) ?_))))))|(refine rg 6 (vV (cK rfl rfl (by omega) (by omega)) (mV ?_)))|refine nZ ?_));all_goals first|omega | exact ⟨⟨k+1,hlt,he⟩,by dsimp only;omega,⟨[],rfl,⟨rfl,by rw [lO hi];rfl,rfl,rfl,trivial⟩,trivial,eM,fun _ h=>absurd h (eV _)⟩⟩
 ·rw [EQ (by omega)] at he
  (repeat' (first|refine wS ?_|refine wR ?_|refine wE ?_|(refine wC rfl ?_ ?_<;>(intro hb;(try simp only [nm] at hb);try omega))|(refine rg 2 (vV (aK rfl rfl) ?_))|(refine rg 7 (aV ?_))|refine nZ ?_));all_goals first|omega | exact dU (.inl rfl) rfl (by rw [he];rfl)
theorem yQ6 {l:List W}{F:FuncId}{caps:List AV}{p:W→Bool}(hl:l.length≤1000000) (hi:AV.idfL caps=true) (hF:∀ x,x∈l→aM Tryz.prog F (.agg (wA x)::caps) [] (.b (p x)) []) :
  aM Tryz.prog 193 [.rowE (gN l) 3,.clo (.func F) [] caps] [] (.b (l.any p)) []:=by
 have hc:=zM0 hl hi hF;rw [← R2 p l 0];refine bS T Tryz.func193 rfl rfl rfl rfl ?_
 (repeat' (first|refine wS ?_|refine wR ?_|(refine rg 0 (aV ?_))|(refine rg 1 (dJ rfl (vV (by exact gD rfl rfl hc rfl (by simp [AV.idfL,AV.idf,hi]) rfl) ?_));refine vV (iR rfl rfl) (aV ?_))|refine nZ ?_));all_goals first|omega | exact rQ
theorem yK7 {l:List G}{F:FuncId}{caps:List AV}{p:G→Bool}(hl:l.length≤1000000) (hi:AV.idfL caps=true) (hF:∀ x,x∈l→aM Tryz.prog F (.agg (gA x)::caps) [] (.b (p x)) []) :
  aM Tryz.prog 130 [.rowE (kY l) 2,.clo (.func F) [] caps] [] (.i (vQ p l 0)) []:=by
 have hlen:(kY l).length=l.length:=aU _;refine bS T Tryz.func130 rfl rfl rfl rfl ?_
 (repeat' (first|refine wS ?_|refine wB ?_|(refine rg 0 (aV ?_))|(refine rg 1 (mW rfl (qW T rfl (mV ?_))))|refine nZ ?_));refine dI (X:={k:Nat // k≤l.length∧vQ p l 0=vQ p (l.drop k) k}) (fun k=>[(0,.rowE (kY l) 2),(1,.clo (.func F) [] caps),(7,.i (kY l).length),(8,.i k.1)]) (fun _=>[]) (fun k=>l.length-k.1) ⟨0,by simp,rfl⟩ ⟨[],rfl,⟨rfl,by rw [lO hi];rfl,rfl,rfl,trivial⟩,trivial,eM,fun _ h=>absurd h (eV _)⟩ ?_
 rintro ⟨k,hk,he⟩;dsimp only;by_cases hlt:k<l.length
 ·have hc:=hF l[k] (aO hlt);have hg:=LC (l:=l) hlt;rw [KY hlt] at he;generalize l[k]=y at *;cases hp:p y with
  | true=>
   rw [hp] at hc;rw [hp,if_pos rfl] at he
   (repeat' (first|refine wS ?_|refine wB ?_|refine wK ?_|refine wR ?_|refine wT ?_|(refine wC rfl ?_ ?_<;>(intro hb;(try simp only [nm] at hb);try omega))|(refine rg 2 (vV (aK rfl rfl) ?_))|(refine rg 3 (mW rfl (aV ?_)))|(refine rg 4 (dJ rfl (mW rfl (vV (ix T rfl (by omega) (sW l) hg) (lW T rfl (vV (by exact gD rfl rfl hc rfl (by simp [AV.idfL,AV.idf,hi]) rfl) ?_))))))|(refine rg 5 (mW rfl (aV ?_)))|refine nZ ?_));all_goals first|omega | exact dU (.inl rfl) rfl (by rw [he];rfl)
  | false=>
   rw [hp] at hc;rw [hp,if_neg (by simp)] at he
   (repeat' (first|refine wS ?_|refine wB ?_|refine wK ?_|refine wU ?_|(refine wC rfl ?_ ?_<;>(intro hb;(try simp only [nm] at hb);try omega))|(refine rg 2 (vV (aK rfl rfl) ?_))|(refine rg 3 (mW rfl (aV ?_)))|(refine rg 4 (dJ rfl (mW rfl (vV (ix T rfl (by omega) (sW l) hg) (lW T rfl (vV (by exact gD rfl rfl hc rfl (by simp [AV.idfL,AV.idf,hi]) rfl) ?_))))))|(refine rg 6 (vV (cK rfl rfl (by omega) (by omega)) (mV ?_)))|refine nZ ?_));all_goals first|omega | exact ⟨⟨k+1,hlt,he⟩,by dsimp only;omega,⟨[],rfl,⟨rfl,by rw [lO hi];rfl,rfl,rfl,trivial⟩,trivial,eM,fun _ h=>absurd h (eV _)⟩⟩
 ·rw [EQ (by omega)] at he
  (repeat' (first|refine wS ?_|refine wR ?_|refine wE ?_|(refine wC rfl ?_ ?_<;>(intro hb;(try simp only [nm] at hb);try omega))|(refine rg 2 (vV (aK rfl rfl) ?_))|(refine rg 7 (aV ?_))|refine nZ ?_));all_goals first|omega | exact dU (.inl rfl) rfl (by rw [he];rfl)
theorem yR0 {l:List G}{F:FuncId}{caps:List AV}{p:G→Bool}(hl:l.length≤1000000) (hi:AV.idfL caps=true) (hF:∀ x,x∈l→aM Tryz.prog F (.agg (gA x)::caps) [] (.b (p x)) []) :
  aM Tryz.prog 97 [.rowE (kY l) 2,.clo (.func F) [] caps] [] (.b (l.any p)) []:=by
 have hc:=yK7 hl hi hF;rw [← R2 p l 0];refine bS T Tryz.func97 rfl rfl rfl rfl ?_
 (repeat' (first|refine wS ?_|refine wR ?_|(refine rg 0 (aV ?_))|(refine rg 1 (dJ rfl (vV (by exact gD rfl rfl hc rfl (by simp [AV.idfL,AV.idf,hi]) rfl) ?_));refine vV (iR rfl rfl) (aV ?_))|refine nZ ?_));all_goals first|omega | exact rQ
theorem yK6 {l:List Int}{F:FuncId}{caps:List AV}{p:Int→Bool}(hl:l.length≤1000000) (hi:AV.idfL caps=true) (hF:∀ x,x∈l→aM Tryz.prog F (.i x::caps) [] (.b (p x)) []) :
  aM Tryz.prog 76 [.rowE (ints l) 1,.clo (.func F) [] caps] [] (.i (vQ p l 0)) []:=by
 have hlen:(ints l).length=l.length:=aU _;refine bS T Tryz.func76 rfl rfl rfl rfl ?_
 (repeat' (first|refine wS ?_|refine wB ?_|(refine rg 0 (aV ?_))|(refine rg 1 (mW rfl (qW T rfl (mV ?_))))|refine nZ ?_));refine dI (X:={k:Nat // k≤l.length∧vQ p l 0=vQ p (l.drop k) k}) (fun k=>[(0,.rowE (ints l) 1),(1,.clo (.func F) [] caps),(7,.i (ints l).length),(8,.i k.1)]) (fun _=>[]) (fun k=>l.length-k.1) ⟨0,by simp,rfl⟩ ⟨[],rfl,⟨rfl,by rw [lO hi];rfl,rfl,rfl,trivial⟩,trivial,eM,fun _ h=>absurd h (eV _)⟩ ?_
 rintro ⟨k,hk,he⟩;dsimp only;by_cases hlt:k<l.length
 ·have hc:=hF l[k] (aO hlt);have hg:=VW (l:=l) hlt;rw [KY hlt] at he;generalize l[k]=y at *;cases hp:p y with
  | true=>
   rw [hp] at hc;rw [hp,if_pos rfl] at he
   (repeat' (first|refine wS ?_|refine wB ?_|refine wK ?_|refine wR ?_|refine wT ?_|(refine wC rfl ?_ ?_<;>(intro hb;(try simp only [nm] at hb);try omega))|(refine rg 2 (vV (aK rfl rfl) ?_))|(refine rg 3 (mW rfl (aV ?_)))|(refine rg 4 (dJ rfl (mW rfl (vV (ix T rfl (by omega) (dY l) hg) (lW T rfl (vV (by exact gD rfl rfl hc rfl (by simp [AV.idfL,AV.idf,hi]) rfl) ?_))))))|(refine rg 5 (mW rfl (aV ?_)))|refine nZ ?_));all_goals first|omega | exact dU (.inl rfl) rfl (by rw [he];rfl)
  | false=>
   rw [hp] at hc;rw [hp,if_neg (by simp)] at he
   (repeat' (first|refine wS ?_|refine wB ?_|refine wK ?_|refine wU ?_|(refine wC rfl ?_ ?_<;>(intro hb;(try simp only [nm] at hb);try omega))|(refine rg 2 (vV (aK rfl rfl) ?_))|(refine rg 3 (mW rfl (aV ?_)))|(refine rg 4 (dJ rfl (mW rfl (vV (ix T rfl (by omega) (dY l) hg) (lW T rfl (vV (by exact gD rfl rfl hc rfl (by simp [AV.idfL,AV.idf,hi]) rfl) ?_))))))|(refine rg 6 (vV (cK rfl rfl (by omega) (by omega)) (mV ?_)))|refine nZ ?_));all_goals first|omega | exact ⟨⟨k+1,hlt,he⟩,by dsimp only;omega,⟨[],rfl,⟨rfl,by rw [lO hi];rfl,rfl,rfl,trivial⟩,trivial,eM,fun _ h=>absurd h (eV _)⟩⟩
 ·rw [EQ (by omega)] at he
  (repeat' (first|refine wS ?_|refine wR ?_|refine wE ?_|(refine wC rfl ?_ ?_<;>(intro hb;(try simp only [nm] at hb);try omega))|(refine rg 2 (vV (aK rfl rfl) ?_))|(refine rg 7 (aV ?_))|refine nZ ?_));all_goals first|omega | exact dU (.inl rfl) rfl (by rw [he];rfl)
theorem yQ9 {l:List Int}{F:FuncId}{caps:List AV}{p:Int→Bool}(hl:l.length≤1000000) (hi:AV.idfL caps=true) (hF:∀ x,x∈l→aM Tryz.prog F (.i x::caps) [] (.b (p x)) []) :
  aM Tryz.prog 99 [.rowE (ints l) 1,.clo (.func F) [] caps] [] (.b (l.any p)) []:=by
 have hc:=yK6 hl hi hF;rw [← R2 p l 0];refine bS T Tryz.func99 rfl rfl rfl rfl ?_
 (repeat' (first|refine wS ?_|refine wR ?_|(refine rg 0 (aV ?_))|(refine rg 1 (dJ rfl (vV (by exact gD rfl rfl hc rfl (by simp [AV.idfL,AV.idf,hi]) rfl) ?_));refine vV (iR rfl rfl) (aV ?_))|refine nZ ?_));all_goals first|omega | exact rQ
end Go.Proofs.Q
namespace Go.Proofs.Q
open Go Go.Ab Go.Ld Go.Lib Go.Sort Go.RowKit Go.Shelf
theorem AU (d:List Value) (i j:Nat) (Z:List Value) (hij:i≤j) (hj:j≤d.length) (hZ:Z.length=j-i) :
  lay (lay d.toArray i (d.drop j)) (i+(d.length-j)) Z=(d.take i++d.drop j++Z).toArray:=by
 apply Array.ext_getElem?;intro t;have l1:(d.take i).length=i:=by simp;omega
 have l2:(d.drop j).length=d.length-j:=by simp
 rw [lay_get? _ _ _ _ (by rw [lay_size];simp;omega),lay_get? _ _ _ _ (by rw [l2];simp;omega),show (d.take i++d.drop j++Z).toArray[t]? = (d.take i++d.drop j++Z)[t]? from iH]
 simp only [hZ,l2];by_cases c1:t<i
 ·rw [if_neg (by omega),if_neg (by omega),aG (by simp;omega),aG (by omega),cE,if_pos c1,iH]
 ·by_cases c2:t<i+(d.length-j)
  ·rw [if_neg (by omega),if_pos (by omega),aG (by simp;omega),aF (by omega),l1]
  ·rw [aF (by simp;omega)]
   simp only [aD,l1,l2];by_cases c3:t<d.length
   ·rw [if_pos (by omega)]
   ·rw [if_neg (by omega),if_neg (by omega),Array.getElem?_eq_none (by simp;omega),dA (by omega)]
set_option maxRecDepth 1000000 in
theorem yG7 (blk off cap len i j:Nat) (cs:List Value) (w:World) (hcl0:cs.length=len*2) (hH:Holds id w blk off cs.toArray) (h1:∀ u,u∈cs→u.oneCell'=true) (hcap:len≤cap) (hm:cap≤9223372036854775807) (hij:i≤j) (hj:j≤len) :
    Calls Tryz.prog 196 #[.slice (some ⟨blk,off,none⟩) len cap,.int .i64 i,.int .i64 j] w fun e w'=>e = .returned (.slice (some ⟨blk,off,none⟩) (len-(j-i)) cap)∧∃ (q:Nat) (Z:List Value),Z.length=(j-i)*2∧w'=putRow id (Sort.ahead w q) blk off (cs.take (i*2)++cs.drop (j*2)++Z).toArray:=by
  by_cases heq:i=j
  · subst heq;have h0:Calls Tryz.prog 196 #[.slice (some ⟨blk,off,none⟩) len cap,.int .i64 i,.int .i64 i] w fun e w'=>e = .returned (.slice (some ⟨blk,off,none⟩) len cap)∧w'=w:=by
      clear hH h1
      go_enter Tryz.func196,Tryz.ntmps196
      go_wp2
      all_goals (go_ret;exact ⟨rfl,rfl⟩)
    refine h0.mono ?_;rintro e w' ⟨rfl,rfl⟩;refine ⟨by rw [eI,zU5],0,[],by simp,?_⟩
    rw [List.append_nil,bK];exact (putRow_self id (Sort.ahead w' 0) blk off cs.toArray hH).symm
  · have hlt:i<j:=by omega
    obtain ⟨inf,z,t1,t2,t3,t4,t5,t6,t7⟩:=T.tiOk 107 _ rfl;have t22:Tryz.prog.underlying 108=some (.slice 107):=T.elemOk _ _ rfl;have hzv:∀ w,(zeroValue 107).run Tryz.prog w = .ok z w:=fun w=>by simp [zeroValue,typeInfo,t1,t4]
    have hz2:z.cells.toList.length=2:=by rw [t5];rfl
    have hz1:∀ u,u∈z.cells.toList→u.oneCell'=true:=by rw [t5];exact bJ.1 rfl
    obtain ⟨_,hZl⟩:=rO (z:=z.cells) rfl (by intro h;rw [h] at hz2;cases hz2) (j-i)
    rw [hz2] at hZl;have hji:len-(i+(len-j))=j-i:=by omega
    obtain ⟨Z,hZe⟩:∃ Z,Z=(Builtin.zeroCells z.cells (j-i)).toList:=⟨_,rfl⟩;rw [← hZe] at hZl;obtain ⟨news,hnews⟩:∃ news,news=cs.drop (j*2):=⟨_,rfl⟩;have hlen:news.length=(len-j)*2:=by rw [hnews,dK];omega
    have hget:∀ t,t<(len-j)*2→news[t]? = some (cs.toArray[j*2+t]!):=by
      intro t ht;rw [hnews,eK,getElem!_pos cs.toArray (j*2+t) (by simp;omega),G9,aB]
    obtain ⟨A,hA,hsrc⟩:∃ A:Addr,(if cap=j then some (⟨blk,off,none⟩:Addr) else some ⟨blk,off+j*2,none⟩)=some A∧Hid (∀ t u,news[t]? = some u→w.drew.cell? (A.add t)=some u):=by
      by_cases h:cap=j
      · refine ⟨⟨blk,off,none⟩,by simp [h],fun t u hu=>?_⟩
        have h0:news.length=0:=by rw [hlen];omega
        rw [fH.1 h0] at hu;simp at hu
      · refine ⟨⟨blk,off+j*2,none⟩,by simp [h],fun t u hu=>?_⟩
        have ht:t<(len-j)*2:=by
          have:=(aA.1 hu).1
          rwa [hlen] at this
        rw [hget t ht] at hu;rw [Addr.add_lit,show off+j*2+t=off+(j*2+t) by omega]
        exact (hH (j*2+t) (by simp;omega)).1.trans hu
    have s1:Hid (news.length=(len-j)*2):=hlen;have s2:Hid (∀ u∈news,u.oneCell'=true):=by
      intro u hu;rw [hnews] at hu;exact h1 u (eB hu)
    have s3:Hid (∀ t,t<news.length→(w.drew.cell? ⟨blk,off+i*2+t,none⟩).isSome=true∧w.drew.frozen? ⟨blk,off+i*2+t,none⟩=false):=by
      intro t ht;rw [hlen] at ht;rw [eE];exact ⟨by show (w.cell? _).isSome=true;rw [(hH (i*2+t) (by simp;omega)).1];rfl,(hH (i*2+t) (by simp;omega)).2⟩
    obtain ⟨W1,hW1⟩:∃ W1,W1=w.drew.setCells blk (off+i*2) news:=⟨_,rfl⟩;have hW1':W1=putRow id (Sort.ahead w 1) blk off (lay cs.toArray (i*2) (cs.drop (j*2))):=by
      have h:=putRow_setCells id (Sort.ahead w 1) blk off (cs.drop (j*2)) cs.toArray (i*2) (by simp;omega)
      rw [BG,putRow_self id (Sort.ahead w 1) blk off cs.toArray (holds_ahead id w 1 blk off cs.toArray hH)] at h;rw [hW1,hnews];exact h
    have hH1:Holds id W1 blk off (lay cs.toArray (i*2) (cs.drop (j*2))):=by rw [hW1'];exact holds_putRow id _ blk off cs.toArray _ (holds_ahead id w 1 blk off cs.toArray hH) (lay_size _ _ _)
    have hcl:∀ ty,(Builtin.clear_ #[108] ty #[.slice (some ⟨blk,off+(i+(len-j))*2,none⟩) (len-(i+(len-j))) (cap-(i+(len-j)))]).run Tryz.prog W1 = .ok (.tuple #[]) (W1.setCells blk (off+(i+(len-j))*2) Z):=
      fun ty=>by
       rw [hZe,← hji];exact DH W1 _ _ ty z t22 hzv (by intro h; rw [h] at hz2; cases hz2) hz1 blk _ _ _ (by omega)
        (fun t ht=>by rw [hz2] at ht;rw [eE,(hH1 _ (by rw [lay_size];simp;omega)).1];rfl) (fun t ht=>by rw [hz2] at ht;rw [eE];exact (hH1 _ (by rw [lay_size];simp;omega)).2)
    have X:Aside (W1=putRow id (Sort.ahead w 1) blk off (lay cs.toArray (i*2) (cs.drop (j*2)))):=hW1';have hW:Hid (W1=w.drew.setCells blk (off+i*2) news):=hW1;have mixed:=cP;have hic:i≤cap:=by omega
    have hjc:j≤cap:=by omega
    clear hW1 hW1' hH1 hH hget hnews hlen hji hZe
    go_enter Tryz.func196,Tryz.ntmps196
    go_wp2_with fail
    go_region_law_o (refine step_append_room rfl (.tmp 22) (.tmp 25) 108 rfl 107 inf 2 t22 t1 t2 blk off i cap (by simp [Act.eval,Act.put]) A (len-j) (cap-j) news (by simp [Act.eval,Act.put]) s1.out hsrc.out s2.out (by omega) s3.out ?_;rw [← hW.out])
    go_wp2
    go_ret
    refine ⟨by rw [show len-(j-i)=i+(len-j) by omega];rfl,1,Z,hZl,?_⟩
    rw [X.out,← BG Z,show off+(i+(len-j))*2=off+(i*2+(cs.length-j*2)) by omega,putRow_setCells id _ blk off _ _ _ (by rw [lay_size,mN];omega),BG,
      AU cs (i*2) (j*2) _ (by omega) (by omega) (by omega)]
theorem yS5 (l:List SP) (i j:Nat) (hij:i≤j) (hj:j≤l.length) (hne:l≠[]) :
  aM Tryz.prog 196 [.sl 0 0 l.length 2,.i (i:Int),.i (j:Int)] [.arr (fS l) 2] (.sl 0 0 (l.length-(j-i)) 2) [.arr (fS (l.take i++l.drop j)) 2]:=by
 have h:=M1 (sz:=2) ⟨_,Tryz.func196,by kernel_rfl,by kernel_rfl⟩ yG7 (fS l) (lT l) (GZ l) i j hij (by rw [aU];exact hj) (fun h=>hne (nB.1 h))
 rw [aU,← lB,← xE9,← bU] at h;exact h
set_option maxRecDepth 1000000 in
theorem yG8 (blk off cap len i j:Nat) (cs:List Value) (w:World) (hcl0:cs.length=len*2) (hH:Holds id w blk off cs.toArray) (h1:∀ u,u∈cs→u.oneCell'=true) (hcap:len≤cap) (hm:cap≤9223372036854775807) (hij:i≤j) (hj:j≤len) :
    Calls Tryz.prog 129 #[.slice (some ⟨blk,off,none⟩) len cap,.int .i64 i,.int .i64 j] w fun e w'=>e = .returned (.slice (some ⟨blk,off,none⟩) (len-(j-i)) cap)∧∃ (q:Nat) (Z:List Value),Z.length=(j-i)*2∧w'=putRow id (Sort.ahead w q) blk off (cs.take (i*2)++cs.drop (j*2)++Z).toArray:=by
  by_cases heq:i=j
  · subst heq;have h0:Calls Tryz.prog 129 #[.slice (some ⟨blk,off,none⟩) len cap,.int .i64 i,.int .i64 i] w fun e w'=>e = .returned (.slice (some ⟨blk,off,none⟩) len cap)∧w'=w:=by
      clear hH h1
      go_enter Tryz.func129,Tryz.ntmps129
      go_wp2
      all_goals (go_ret;exact ⟨rfl,rfl⟩)
    refine h0.mono ?_;rintro e w' ⟨rfl,rfl⟩;refine ⟨by rw [eI,zU5],0,[],by simp,?_⟩
    rw [List.append_nil,bK];exact (putRow_self id (Sort.ahead w' 0) blk off cs.toArray hH).symm
  · have hlt:i<j:=by omega
    obtain ⟨inf,z,t1,t2,t3,t4,t5,t6,t7⟩:=T.tiOk 113 _ rfl;have t22:Tryz.prog.underlying 103=some (.slice 113):=T.elemOk _ _ rfl;have hzv:∀ w,(zeroValue 113).run Tryz.prog w = .ok z w:=fun w=>by simp [zeroValue,typeInfo,t1,t4]
    have hz2:z.cells.toList.length=2:=by rw [t5];rfl
    have hz1:∀ u,u∈z.cells.toList→u.oneCell'=true:=by rw [t5];exact bJ.1 rfl
    obtain ⟨_,hZl⟩:=rO (z:=z.cells) rfl (by intro h;rw [h] at hz2;cases hz2) (j-i)
    rw [hz2] at hZl;have hji:len-(i+(len-j))=j-i:=by omega
    obtain ⟨Z,hZe⟩:∃ Z,Z=(Builtin.zeroCells z.cells (j-i)).toList:=⟨_,rfl⟩;rw [← hZe] at hZl;obtain ⟨news,hnews⟩:∃ news,news=cs.drop (j*2):=⟨_,rfl⟩;have hlen:news.length=(len-j)*2:=by rw [hnews,dK];omega
    have hget:∀ t,t<(len-j)*2→news[t]? = some (cs.toArray[j*2+t]!):=by
      intro t ht;rw [hnews,eK,getElem!_pos cs.toArray (j*2+t) (by simp;omega),G9,aB]
    obtain ⟨A,hA,hsrc⟩:∃ A:Addr,(if cap=j then some (⟨blk,off,none⟩:Addr) else some ⟨blk,off+j*2,none⟩)=some A∧Hid (∀ t u,news[t]? = some u→w.drew.cell? (A.add t)=some u):=by
      by_cases h:cap=j
      · refine ⟨⟨blk,off,none⟩,by simp [h],fun t u hu=>?_⟩
        have h0:news.length=0:=by rw [hlen];omega
        rw [fH.1 h0] at hu;simp at hu
      · refine ⟨⟨blk,off+j*2,none⟩,by simp [h],fun t u hu=>?_⟩
        have ht:t<(len-j)*2:=by
          have:=(aA.1 hu).1
          rwa [hlen] at this
        rw [hget t ht] at hu;rw [Addr.add_lit,show off+j*2+t=off+(j*2+t) by omega]
        exact (hH (j*2+t) (by simp;omega)).1.trans hu
    have s1:Hid (news.length=(len-j)*2):=hlen;have s2:Hid (∀ u∈news,u.oneCell'=true):=by
      intro u hu;rw [hnews] at hu;exact h1 u (eB hu)
    have s3:Hid (∀ t,t<news.length→(w.drew.cell? ⟨blk,off+i*2+t,none⟩).isSome=true∧w.drew.frozen? ⟨blk,off+i*2+t,none⟩=false):=by
      intro t ht;rw [hlen] at ht;rw [eE];exact ⟨by show (w.cell? _).isSome=true;rw [(hH (i*2+t) (by simp;omega)).1];rfl,(hH (i*2+t) (by simp;omega)).2⟩
    obtain ⟨W1,hW1⟩:∃ W1,W1=w.drew.setCells blk (off+i*2) news:=⟨_,rfl⟩;have hW1':W1=putRow id (Sort.ahead w 1) blk off (lay cs.toArray (i*2) (cs.drop (j*2))):=by
      have h:=putRow_setCells id (Sort.ahead w 1) blk off (cs.drop (j*2)) cs.toArray (i*2) (by simp;omega)
      rw [BG,putRow_self id (Sort.ahead w 1) blk off cs.toArray (holds_ahead id w 1 blk off cs.toArray hH)] at h;rw [hW1,hnews];exact h
    have hH1:Holds id W1 blk off (lay cs.toArray (i*2) (cs.drop (j*2))):=by rw [hW1'];exact holds_putRow id _ blk off cs.toArray _ (holds_ahead id w 1 blk off cs.toArray hH) (lay_size _ _ _)
    have hcl:∀ ty,(Builtin.clear_ #[103] ty #[.slice (some ⟨blk,off+(i+(len-j))*2,none⟩) (len-(i+(len-j))) (cap-(i+(len-j)))]).run Tryz.prog W1 = .ok (.tuple #[]) (W1.setCells blk (off+(i+(len-j))*2) Z):=
      fun ty=>by
       rw [hZe,← hji];exact DH W1 _ _ ty z t22 hzv (by intro h; rw [h] at hz2; cases hz2) hz1 blk _ _ _ (by omega)
        (fun t ht=>by rw [hz2] at ht;rw [eE,(hH1 _ (by rw [lay_size];simp;omega)).1];rfl) (fun t ht=>by rw [hz2] at ht;rw [eE];exact (hH1 _ (by rw [lay_size];simp;omega)).2)
    have X:Aside (W1=putRow id (Sort.ahead w 1) blk off (lay cs.toArray (i*2) (cs.drop (j*2)))):=hW1';have hW:Hid (W1=w.drew.setCells blk (off+i*2) news):=hW1;have mixed:=cP;have hic:i≤cap:=by omega
    have hjc:j≤cap:=by omega
    clear hW1 hW1' hH1 hH hget hnews hlen hji hZe
    go_enter Tryz.func129,Tryz.ntmps129
    go_wp2_with fail
    go_region_law_o (refine step_append_room rfl (.tmp 22) (.tmp 25) 103 rfl 113 inf 2 t22 t1 t2 blk off i cap (by simp [Act.eval,Act.put]) A (len-j) (cap-j) news (by simp [Act.eval,Act.put]) s1.out hsrc.out s2.out (by omega) s3.out ?_;rw [← hW.out])
    go_wp2
    go_ret
    refine ⟨by rw [show len-(j-i)=i+(len-j) by omega];rfl,1,Z,hZl,?_⟩
    rw [X.out,← BG Z,show off+(i+(len-j))*2=off+(i*2+(cs.length-j*2)) by omega,putRow_setCells id _ blk off _ _ _ (by rw [lay_size,mN];omega),BG,
      AU cs (i*2) (j*2) _ (by omega) (by omega) (by omega)]
theorem yS6 (l:List G) (i j:Nat) (hij:i≤j) (hj:j≤l.length) (hne:l≠[]) :
  aM Tryz.prog 129 [.sl 0 0 l.length 2,.i (i:Int),.i (j:Int)] [.arr (kY l) 2] (.sl 0 0 (l.length-(j-i)) 2) [.arr (kY (l.take i++l.drop j)) 2]:=by
 have h:=M1 (sz:=2) ⟨_,Tryz.func129,by kernel_rfl,by kernel_rfl⟩ yG8 (kY l) (sW l) (zN7 l) i j hij (by rw [aU];exact hj) (fun h=>hne (nB.1 h))
 rw [aU,← lB,← xE9,← bU] at h;exact h
end Go.Proofs.Q
namespace Go.Proofs.Q
open Go Go.Ab Go.Shelf Go.Proofs
shelf_lay Lays2.n23 Nm2 23 at Tryz as laysDelete
theorem zQ0 (l:List Int) (i j:Nat) (hij:i≤j) (hj:j≤l.length) (hne:l≠[]) :
  aM Tryz.prog 195 [.sl 0 0 l.length 1,.i (i:Int),.i (j:Int)] [.arr (ints l) 1] (.sl 0 0 (l.length-(j-i)) 1) [.arr (ints (l.take i++l.drop j)) 1]:=
 ME ⟨_,Tryz.func195,by kernel_rfl,by kernel_rfl⟩ (fun blk off cap i j zs w h1 h2 h3 h4 h5=>Any.slices_Delete_int laysDelete blk off cap i j zs w h1 h2 h3 h4 h5) l i j hij hj hne
end Go.Proofs.Q
namespace Go.Ld
open Go.Ab Go.Proofs.Q
abbrev gS (q:W→Bool) (l:List W):List W:=l.filter fun x=>!q x
theorem zS {q:W→Bool}{l:List W}{k:Nat}(h:k<l.length):gS q (l.take (k+1))=if q l[k] then gS q (l.take k) else gS q (l.take k)++[l[k]]:=by
 unfold gS;rw [aL h,rJ];cases e:q l[k] <;> simp [e]
theorem PJ (q:W→Bool) (l:List W) (k:Nat):(gS q (l.take k)).length≤k:=bL (eZ _ _) (by simp;omega)
theorem I9 {α:Type}(p:α→Bool):∀ (l:List α) (k:Nat),(vQ p l k = -1∧∀ x,x∈l→p x=false)∨∃ (j:Nat) (hj:j<l.length),vQ p l k=((k+j:Nat):Int)∧p l[j]=true∧∀ x,x∈l.take j→p x=false
 | [],k=>.inl ⟨rfl,fun x hx=>by cases hx⟩
 | y::l,k=>by
  unfold vQ;cases hp:p y with
  | true=>exact .inr ⟨0,by simp,by rw [if_pos rfl];rfl,by simpa using hp,fun x hx=>by simp at hx⟩
  | false=>
   rw [if_neg (by simp)]
   rcases I9 p l (k+1) with ⟨h1,h2⟩ | ⟨j,hj,h1,h2,h3⟩
   ·refine .inl ⟨h1,fun x hx=>?_⟩
    rcases bQ.1 hx with rfl | hx
    ·exact hp
    ·exact h2 x hx
   ·refine .inr ⟨j+1,by simp;omega,by rw [h1];omega,by simpa using h2,fun x hx=>?_⟩
    rw [nA] at hx;rcases bQ.1 hx with rfl | hx
    ·exact hp
    ·exact h3 x hx
def Y4 (m x:W):W:=if x.2.1<m.2.1 then x else m
theorem PC:∀ (l:List W) (f:W),(l.foldl Y4 f).2.1=l.foldl (fun m x=>if x.2.1<m then x.2.1 else m) f.2.1
 | [],_=>rfl
 | x::l,f=>by
  rw [K6,K6,PC l];congr 1;unfold Y4;split <;> rfl
theorem ZV {l:List W}{f:W}{k:Nat}(h:k<l.length):(l.take (k+1)).foldl Y4 f=Y4 ((l.take k).foldl Y4 f) l[k]:=by
 rw [aL h,zV1];rfl
end Go.Ld
namespace Go.Proofs.Q
open Go Go.Ab Go.Ld
attribute [local irreducible] VC AW bW aM
theorem yU7 {F:FuncId}{caps:List AV}{q:W→Bool}(l:List W) (hl:l.length≤1000000) (hi:AV.idfL caps=true) (hp:AV.plnL caps=true) (hF:∀ x,x∈l→aM Tryz.prog F (.agg (wA x)::caps) [] (.b (q x)) []) :
  aM Tryz.prog 147 [.sl 0 0 l.length 3,.clo (.func F) [] caps] [.arr (gN l) 3] (.sl 0 0 (gS q l).length 3) [.arr (gN (gS q l)) 3]:=by
 have hll:(gN l).length=l.length:=fQ l;have hix:=zM0 hl hi hF;have hvw:oX [.arr (gN l) 3] (.sl 0 0 l.length 3) (.rowE (gN l) 3):=pD rfl hll.symm (rR (fun _=>rfl) _);refine bS T Tryz.func147 rfl rfl rfl rfl ?_;rcases I9 q l 0 with ⟨h1,h2⟩ | ⟨j,hj,h1,h2,h3⟩
 ·rw [h1] at hix;have hk:gS q l=l:=nC.2 fun x hx=>by rw [h2 x hx];rfl
  rw [hk]
  (repeat' (first|refine wS ?_|refine wR ?_|refine wT ?_|(refine rg 0 (aV ?_))|(refine rg 1 (dJ rfl (vV (by exact eH rfl rfl hix (.cons hvw (.cons (.clo .nil (lK _ hp)) .nil)) rfl rfl) ?_));refine aV ?_)|(refine rg 2 (mW rfl (vV (fB rfl rfl) ?_)))|(refine rg 3 (mW rfl (aV ?_)))|refine nZ ?_));all_goals first|omega | exact ⟨.inl rfl,[0],_,rfl,rfl,rfl,⟨.inr (aC rfl rfl (bY _)),trivial⟩,by decide,lX⟩
 ·rw [h1,Nat.zero_add] at hix;have hk0:gS q (l.take (j+1))=l.take j:=by
   rw [zS hj,if_pos h2];exact nC.2 fun x hx=>by rw [h3 x hx];rfl
  have hkl:(gS q (l.take (j+1))).length=j:=by rw [hk0];simp;omega
  have hka:gS q (l.take (j+1))++l.drop (gS q (l.take (j+1))).length=l:=by rw [hkl,hk0,bK]
  have hkf:gS q l=gS q (l.take l.length):=by rw [cM]
  rw [hkf]
  (repeat' (first|refine wS ?_|refine wB ?_|refine wK ?_|refine wU ?_|(refine rg 0 (aV ?_))|(refine rg 1 (dJ rfl (vV (by exact eH rfl rfl hix (.cons hvw (.cons (.clo .nil (lK _ hp)) .nil)) rfl rfl) ?_));refine aV ?_)|(refine rg 2 (mW rfl (vV (fB rfl rfl) ?_)))|(refine iA 4 rfl rfl rfl (by omega) (by omega) ?_)|refine nZ ?_));all_goals try omega
  refine dI (X:={m:Nat // m≤l.length}) (fun m=>[(0,.sl 0 0 l.length 3),(1,.clo (.func F) [] caps),(5,.i (gS q (l.take m.1)).length),(6,.i m.1)]) (fun m=>[.arr (gN (gS q (l.take m.1)++l.drop (gS q (l.take m.1)).length)) 3]) (fun m=>l.length-m.1) ⟨j+1,hj⟩ ⟨[0],rfl,⟨rfl,by rw [lO hi];rfl,by dsimp only;rw [hkl];rfl,rfl,trivial⟩,⟨.inr (aC rfl (by dsimp only;rw [hka]) (bY _)),trivial⟩,by decide,lX⟩ ?_
  rintro ⟨m,hm⟩;dsimp only;have hle:=PJ q l m;by_cases hlt:m<l.length
  ·have hs:=zS (q:=q) hlt;have hget:=UK (G:=gS q (l.take m)) (l:=l) (m:=m) (i:=0+(m:Int).toNat) hle hlt (by omega)
   have hg2:=UK (G:=gS q (l.take m)) (l:=l) (m:=(gS q (l.take m)).length) (i:=0+(((gS q (l.take m)).length:Nat):Int).toNat) (aX _) (by omega) (by omega)
   rw [pZ hlt] at hget;have hset:=yO0 (G:=gS q (l.take m)) (l:=l) (x:=l[m]) (j:=(((gS q (l.take m)).length:Nat):Int)) (by omega) rfl
   have hc:=hF l[m] (aO hlt);have hal:=ZA (G:=gS q (l.take m)) (l:=l) (by omega)
   generalize l[m]=x at *;generalize l.getD (gS q (l.take m)).length w0=y at *;generalize hG:gS q (l.take m)=G at *;generalize hA:gN (G++l.drop G.length)=A at *;cases e:q x
   ·rw [e] at hc hs;rw [if_neg (by simp)] at hs
    (repeat' (first|refine wS ?_|refine wB ?_|refine wK ?_|refine wT ?_|(refine wC rfl ?_ ?_<;>(intro hb;(try simp only [nm] at hb);try omega))|(refine rg 5 (dJ rfl (qW T rfl (vV (aK rfl rfl) ?_))))|(refine rg 7 (dJ rfl (vV (by exact aT T rfl rfl rfl rfl rfl (by omega) (by omega)) ?_));refine vV (by exact bA T rfl rfl (bX rfl hget) rfl) ?_;refine cO (cN T rfl) rfl (bC T rfl rfl rfl rfl rfl rfl (by decide) rfl ?_))|(refine rg 8 (mW rfl (vV (bA T rfl rfl rfl rfl) (vV (by exact gD rfl rfl hc rfl (by simp [AV.idfL,AV.idf,hi]) rfl) ?_)));refine vV (dS rfl) ?_)|(refine rg 9 (dJ rfl (vV (bA T rfl rfl rfl rfl) (vV (by exact aT T rfl rfl rfl rfl rfl (by omega) (by omega)) ?_)));refine bC T rfl rfl rfl rfl rfl rfl (by decide) (nJ rfl hg2 rfl) ?_)|(refine iA 10 rfl rfl rfl (by omega) (by omega) ?_)|(refine iA 6 rfl rfl rfl (by omega) (by omega) ?_)|refine nZ ?_));all_goals try omega
    all_goals exact ⟨⟨m+1,hlt⟩,by dsimp only;omega,[0],rfl,⟨rfl,by rw [lO hi];rfl,by rw [hs];simp only [aD];rfl,rfl,trivial⟩,⟨.inr (aC rfl (by rw [hs];exact hset) (bY _)),trivial⟩,by decide,lX⟩
   ·rw [e] at hc hs;rw [if_pos rfl] at hs
    (repeat' (first|refine wS ?_|refine wB ?_|refine wK ?_|refine wU ?_|(refine wC rfl ?_ ?_<;>(intro hb;(try simp only [nm] at hb);try omega))|(refine rg 5 (dJ rfl (qW T rfl (vV (aK rfl rfl) ?_))))|(refine rg 7 (dJ rfl (vV (by exact aT T rfl rfl rfl rfl rfl (by omega) (by omega)) ?_));refine vV (by exact bA T rfl rfl (bX rfl hget) rfl) ?_;refine cO (cN T rfl) rfl (bC T rfl rfl rfl rfl rfl rfl (by decide) rfl ?_))|(refine rg 8 (mW rfl (vV (bA T rfl rfl rfl rfl) (vV (by exact gD rfl rfl hc rfl (by simp [AV.idfL,AV.idf,hi]) rfl) ?_)));refine vV (dS rfl) ?_)|(refine iA 6 rfl rfl rfl (by omega) (by omega) ?_)|refine nZ ?_));all_goals try omega
    all_goals exact ⟨⟨m+1,hlt⟩,by dsimp only;omega,[0],rfl,⟨rfl,by rw [lO hi];rfl,by rw [hs];rfl,rfl,trivial⟩,⟨.inr (aC rfl (by rw [hs];exact hA.symm) (bY _)),trivial⟩,by decide,lX⟩
  ·obtain rfl:m=l.length:=by omega
   have hal:=ZA (G:=gS q (l.take l.length)) (l:=l) (by omega)
   have htk:=zE4 (G:=gS q (l.take l.length)) (l:=l);generalize gS q (l.take l.length)=G at *
   (repeat' (first|refine wS ?_|refine wR ?_|refine wE ?_|(refine wC rfl ?_ ?_<;>(intro hb;(try simp only [nm] at hb);try omega))|(refine rg 5 (dJ rfl (qW T rfl (vV (aK rfl rfl) ?_))))|(refine rg 11 (dJ rfl (vV (by exact kB T rfl rfl rfl rfl rfl rfl (by omega) (by omega) (by omega)) ?_));refine V9 T rfl rfl rfl ⟨rfl,rfl,by decide⟩ rfl (by rw [hal];omega) ?_)|(refine rg 12 (dJ rfl (vV (by exact kB T rfl rfl rfl rfl rfl rfl (by omega) (by omega) (by omega)) ?_));refine aV ?_)|refine nZ ?_));all_goals try omega
   all_goals exact ⟨.inl rfl,[0],_,rfl,(by show AV.sl 0 0 ((G.length:Int)-0).toNat 3=AV.sl 0 0 G.length 3;rw [show ((G.length:Int)-0).toNat=G.length by omega]),rfl,⟨.inr (aC rfl htk (bY _)),trivial⟩,by decide,lX⟩
abbrev yX8:AV:=.clo (.func 191) [] []
theorem zD0 {f:W}{l:List W}{k:Nat}(h:k<l.length):(gN (f::l))[((k:Int)+1).toNat]? = some (wA l[k]):=by
 rw [show ((k:Int)+1).toNat=k+1 by omega];simp [h]
theorem yX7 (f:W) (l:List W) (hl:l.length≤1000000):aM Tryz.prog 190 [.rowE (gN (f::l)) 3,yX8] [] (RX (l.foldl Y4 f)) []:=by
 have hll:(gN (f::l)).length=l.length+1:=by simp
 have hg0:(gN (f::l))[(0:Int).toNat]? = some (wA f):=rfl;refine bS T Tryz.func190 rfl rfl rfl rfl ?_
 (repeat' (first|refine wS ?_|refine wB ?_|refine wK ?_|refine wU ?_|(refine rg 0 (cO (cN T rfl) rfl ?_))|(refine rg 1 (mW rfl (qW T rfl (vV (aK rfl rfl) ?_))))|(refine rg 3 (mW rfl (vV (ix T rfl (by omega) (qN _) hg0) (lW T rfl (cO (cN T rfl) rfl (bC T rfl rfl rfl rfl rfl rfl (by decide) rfl ?_))))))|(refine rg 4 (aV ?_))|refine nZ ?_));all_goals try omega
 refine dI (X:={k:Nat // k≤l.length}) (fun k=>[(0,.rowE (gN (f::l)) 3),(1,yX8),(4,.ptr 0 0),(5,.ptr 1 0),(6,.i ((k.1:Int)+1))]) (fun k=>[.cells [.nils,.i 0,.nils],.cells (wA ((l.take k.1).foldl Y4 f))]) (fun k=>l.length-k.1) ⟨0,bZ _⟩ ⟨[0,1],rfl,by (repeat (first|exact trivial|refine ⟨rfl,?_⟩)),⟨.inr rfl,.inr rfl,trivial⟩,by decide,jP _⟩ ?_
 rintro ⟨k,hk⟩;dsimp only;by_cases hlt:k<l.length
 ·have hs:=ZV (f:=f) hlt;have hg:=zD0 (f:=f) hlt;have hc:=zL5 l[k] ((l.take k).foldl Y4 f);generalize l[k]=x at *;generalize (l.take k).foldl Y4 f=m at *;by_cases h0:x.2.1<m.2.1
  ·have hv:cI x.2.1 m.2.1 = -1:=by unfold cI;rw [if_pos h0]
   rw [hv] at hc;rw [Y4,if_pos h0] at hs
   (repeat' (first|refine wS ?_|refine wB ?_|refine wK ?_|refine wT ?_|(refine wC rfl ?_ ?_<;>(intro hb;(try simp only [nm] at hb);try omega))|(refine rg 5 (dJ rfl (qW T rfl (vV (aK rfl rfl) ?_))))|(refine cH (id:=7) 33 [[],[],[],[1,2],[1,2,3],[],rN 6,rN 7] (rM 20 8) [[],[20],[20,21],[20],[20],rM 20 5,[],[]] cP rfl (by decide +kernel) (dN rfl (dN rfl (dN rfl (dV rfl (ix T rfl (by omega) (qN _) hg) (dO T rfl (dO T rfl (dV rfl (kC (hc)) (dV rfl (aK rfl rfl) (dE ?_))))))))))|(refine rg 8 (dJ rfl (vV (ix T rfl (by omega) (qN _) hg) (lW T rfl (bC T rfl rfl rfl rfl rfl rfl (by decide) rfl ?_)))))|(refine iA 6 rfl rfl rfl (by omega) (by omega) ?_)|refine nZ ?_));all_goals try omega
   all_goals exact ⟨⟨k+1,hlt⟩,by dsimp only;omega,[0,1],rfl,by (repeat (first|exact trivial|refine ⟨rfl,?_⟩)),⟨.inr rfl,.inr (by dsimp only;rw [hs];rfl),trivial⟩,by decide,jP _⟩
  ·have hv:0≤cI x.2.1 m.2.1:=by unfold cI;rw [if_neg h0];split <;> omega
   rw [Y4,if_neg h0] at hs;generalize cI x.2.1 m.2.1=v at *
   (repeat' (first|refine wS ?_|refine wB ?_|refine wK ?_|(refine wC rfl ?_ ?_<;>(intro hb;(try simp only [nm] at hb);try omega))|(refine rg 5 (dJ rfl (qW T rfl (vV (aK rfl rfl) ?_))))|(refine cH (id:=7) 33 [[],[],[],[1,2],[1,2,3],[],rN 6,rN 7] (rM 20 8) [[],[20],[20,21],[20],[20],rM 20 5,[],[]] cP rfl (by decide +kernel) (dN rfl (dN rfl (dN rfl (dV rfl (ix T rfl (by omega) (qN _) hg) (dO T rfl (dO T rfl (dV rfl (kC (hc)) (dV rfl (aK rfl rfl) (dE ?_))))))))))|(refine iA 6 rfl rfl rfl (by omega) (by omega) ?_)|refine nZ ?_));all_goals try omega
   all_goals exact ⟨⟨k+1,hlt⟩,by dsimp only;omega,[0,1],rfl,by (repeat (first|exact trivial|refine ⟨rfl,?_⟩)),⟨.inr rfl,.inr (by dsimp only;rw [hs];rfl),trivial⟩,by decide,jP _⟩
 ·obtain rfl:k=l.length:=by omega
  rw [cM];generalize l.foldl Y4 f=m at *
  (repeat' (first|refine wS ?_|refine wR ?_|refine wE ?_|(refine wC rfl ?_ ?_<;>(intro hb;(try simp only [nm] at hb);try omega))|(refine rg 5 (dJ rfl (qW T rfl (vV (aK rfl rfl) ?_))))|(refine rg 9 (lW T rfl (bC T rfl rfl rfl rfl rfl rfl (by decide) rfl ?_)))|refine nZ ?_));all_goals first|omega | exact ⟨.inl rfl,[],_,rfl,rfl,rfl,trivial,by decide,jP _⟩
theorem xH2:TQ Tryz.prog 110 1=some (3,1):=by kernel_rfl
theorem VV (g:G) (hne:g.2≠[]) (hl:g.2.length≤1000000):aM Tryz.prog 146 [zC9 g] [] (.i (gW g)) []:=by
 obtain ⟨b,ws⟩:=g;cases ws with
 | nil=>exact absurd rfl hne
 | cons f l=>
  have hc:=yX7 f l (by simp at hl;omega)
  show aM _ _ _ _ (.i (l.foldl (fun m x=>if x.2.1<m then x.2.1 else m) f.2.1)) []
  rw [← PC];generalize l.foldl Y4 f=m at *;refine bS T Tryz.func146 rfl rfl rfl rfl ?_
  (repeat' (first|refine wS ?_|refine wR ?_|(refine rg 0 (cO (dR rfl rfl) rfl (aV ?_)))|(refine rg 1 (iK T rfl (vV (kC (hc)) (vV (by exact ZR T rfl xH2 rfl rfl) ?_)));refine aV ?_)|refine nZ ?_));all_goals first|omega | exact rQ
end Go.Proofs.Q
namespace Go.Ld
open Go.Ab Go.Proofs.Q
def F9 (g:G):Int:=match iS g with
 | some k=>(k:Int)
 | none=>-1
theorem QP {g:G}(h:g.1.length<2∨g.2=[]):F9 g = -1:=by unfold F9 iS;rw [if_pos h]
theorem zQ8 {g:G}{k:Nat}(h:¬ (g.1.length<2∨g.2=[])) (hk:k<g.1.length) (h1:∀ j,j<k→E1 g j=false) (h2:E1 g k=true):F9 g=k:=by
 unfold F9 iS;rw [if_neg h,List.find?_range_eq_some.2 ⟨h2,by simpa using hk,fun j hj=>by simp [h1 j hj]⟩]
theorem zA8 {g:G}(h:¬ (g.1.length<2∨g.2=[])) (h1:∀ j,j<g.1.length→E1 g j=false):F9 g = -1:=by
 unfold F9 iS;rw [if_neg h,List.find?_range_eq_none.2 (fun j hj=>by simp [h1 j hj])]
def IZ (f:W) (i:Nat) (w:W):Bool:=!decide (gP w i=gP f i∧gC w i=gC f i)
theorem SQ {bs:List Int}{f:W}{l:List W}{i:Nat}:E1 (bs,f::l) i = !(f::l).any (IZ f i):=by
 show (f::l).all (fun w=>decide (gP w i=gP f i∧gC w i=gC f i))=_;rw [List.not_any_eq_all_not];congr 1;funext w;simp [IZ]
end Go.Ld
namespace Go.Proofs.Q
open Go Go.Ab Go.Ld
attribute [local irreducible] VC AW bW aM pJ
theorem yW3:pJ Tryz.prog 107 2:=by unfold pJ;kernel_rfl
theorem UE (w f:W){i:Nat}(h1:i<w.1.length) (h2:i<w.2.2.length) (h3:i<f.1.length) (h4:i<f.2.2.length) (hs:V6 w) (hf:V6 f) :
  aM Tryz.prog 194 [RX w,.pr [.i i] 0,.pr (wA f) 0] [] (.b (IZ f i w)) []:=by
 obtain ⟨p,m,c⟩:=w;obtain ⟨p',m',c'⟩:=f;dsimp only at h1 h2 h3 h4;unfold V6 at hs hf;dsimp only at hs hf;have hlp:(ints p).length=p.length:=dD _;have hlp':(ints p').length=p'.length:=dD _;have hlc:(fS c).length=c.length:=iO _;have hlc':(fS c').length=c'.length:=iO _;have q1:=uO (l:=p) (j:=(i:Int)) (i:=i) 0 h1 rfl;have q2:=uO (l:=p') (j:=(i:Int)) (i:=i) 0 h3 rfl;have q3:=xX (l:=c) (j:=(i:Int)) (i:=i) h2 rfl;have q4:=xX (l:=c') (j:=(i:Int)) (i:=i) h4 rfl;have hd:IZ (p',m',c') i (p,m,c) = !decide (p.getD i 0=p'.getD i 0∧c.getD i (0,0)=c'.getD i (0,0)):=rfl;rw [hd];generalize p.getD i 0=x at *;generalize p'.getD i 0=y at *;generalize hr:c.getD i (0,0)=r at *;generalize hr':c'.getD i (0,0)=r' at *;obtain ⟨a,b⟩:=r;obtain ⟨a',b'⟩:=r';dsimp only at q3 q4;by_cases h:x=y
 ·rw [show (!decide (x=y∧(a,b)=(a',b'))) = !decide (a=a'∧b=b') by simp [h]]
  refine bS T Tryz.func194 rfl rfl rfl rfl ?_
  (repeat' (first|refine wS ?_|refine wR ?_|(refine rg 0 (cO (dR rfl rfl) rfl (aV ?_)))|(refine cH (id:=1) 29 xL4 (rM 5 24) xL5 cP rfl (by decide +kernel) (dP T rfl (dO T rfl (dO T rfl (dV rfl (ix T rfl (by omega) (dY p) q1) (dO T rfl (dP T rfl (dO T rfl (dO T rfl (dV rfl (ix T rfl (by omega) (dY p') q2) ?_)))))))));refine dO T rfl (dV rfl (uP rfl rfl h) (dN rfl (tP T rfl (tO T rfl (tO T rfl (dT rfl (ix T rfl (by omega) (lT c) q3) (tO T rfl (tP T rfl (tL T ?_)))))))));refine tO T rfl (dT rfl (ix T rfl (by omega) (lT c') q4) (tO T rfl (dT rfl (yE4 yW3 rfl rfl) (dV rfl (iM rfl rfl) (dE ?_)))));refine aV ?_)|refine nZ ?_));all_goals first|omega | exact rQ
 ·rw [show (!decide (x=y∧(a,b)=(a',b')))=true by simp [h]]
  refine bS T Tryz.func194 rfl rfl rfl rfl ?_
  (repeat' (first|refine wS ?_|refine wR ?_|(refine rg 0 (cO (dR rfl rfl) rfl (aV ?_)))|(refine cH (id:=1) 29 xL4 (rM 5 24) xL5 cP rfl (by decide +kernel) (dP T rfl (dO T rfl (dO T rfl (dV rfl (ix T rfl (by omega) (dY p) q1) (dO T rfl (dP T rfl (dO T rfl (dO T rfl (dV rfl (ix T rfl (by omega) (dY p') q2) ?_)))))))));refine dO T rfl (dV rfl (CJ rfl rfl h) (dN rfl (tG rfl (tG rfl (tG rfl (tG rfl (tG rfl (tG rfl (dG ?_)))))))));refine tG rfl (tG rfl (tG rfl (tG rfl (dV rfl (jE rfl rfl) (dE ?_)))));refine aV ?_)|refine nZ ?_));all_goals first|omega | exact rQ
structure yU3 (g:G):Prop where
 b:g.1.length≤1000
 w:g.2.length≤1000000
 p:∀ w,w∈g.2→w.1.length=g.1.length
 c:∀ w,w∈g.2→w.2.2.length=g.1.length
theorem yU3.sm {g:G}(h:yU3 g){w:W}(hw:w∈g.2):V6 w:=⟨by have:=h.p w hw;have:=h.b;omega,by have:=h.c w hw;have:=h.b;omega⟩
theorem zA7 (g:G) (hs:yU3 g):aM Tryz.prog 149 [zC9 g] [] (.i (F9 g)) []:=by
 have hsz:=hs;obtain ⟨bs,ws⟩:=g;obtain ⟨hb,hw,hp,hc⟩:=hs;dsimp only at hb hw hp hc;have hlb:(ints bs).length=bs.length:=dD _;have hlw:(gN ws).length=ws.length:=fQ _;by_cases h0:bs.length<2
 ·rw [QP (.inl h0)];refine bS T Tryz.func149 rfl rfl rfl rfl ?_
  (repeat' (first|refine wS ?_|refine wR ?_|refine wT ?_|(refine rg 0 (cO (dR rfl rfl) rfl (aV ?_)))|(refine rg 1 (iK T rfl (qW T rfl (vV (aK rfl rfl) (mV ?_))));refine cD rfl rfl ?_ ?_<;>(intro hb;rw [hb];(try simp only [nm] at hb);try omega);(all_goals ((iterate 4 refine gF ?_);refine pV ?_)))|(refine rg 2 (aV ?_))|refine nZ ?_));all_goals first|omega | exact rQ
 ·cases ws with
  | nil=>
   rw [QP (.inr rfl)];refine bS T Tryz.func149 rfl rfl rfl rfl ?_
   (repeat' (first|refine wS ?_|refine wR ?_|refine wT ?_|(refine rg 0 (cO (dR rfl rfl) rfl (aV ?_)))|(refine rg 1 (iK T rfl (qW T rfl (vV (aK rfl rfl) (mV ?_))));refine cD rfl rfl ?_ ?_<;>(intro hb;rw [hb];(try simp only [nm] at hb);try omega);(all_goals (refine yP T rfl (yO T rfl (gT (qW T rfl (yV (fB rfl rfl) (pV ?_))))))))|(refine rg 2 (aV ?_))|refine nZ ?_));all_goals first|omega | exact rQ
  | cons f l=>
   have hn:¬ (bs.length<2∨f::l=[]):=by rintro (h | h);exact h0 h;cases h
   have hg0:(gN (f::l))[(0:Int).toNat]? = some (wA f):=rfl;have hl1:(gN (f::l)).length=l.length+1:=by simp
   refine bS T Tryz.func149 rfl rfl rfl rfl ?_
   (repeat' (first|refine wS ?_|refine wB ?_|refine wK ?_|refine wU ?_|(refine rg 0 (cO (dR rfl rfl) rfl (aV ?_)))|(refine rg 1 (iK T rfl (qW T rfl (vV (aK rfl rfl) (mV ?_))));refine cD rfl rfl ?_ ?_<;>(intro hb;rw [hb];(try simp only [nm] at hb);try omega);(all_goals (refine yP T rfl (yO T rfl (gT (qW T rfl (yV (fB rfl rfl) (pV ?_))))))))|(refine rg 3 (iK T rfl (qW T rfl (mV ?_))))|refine nZ ?_));all_goals try omega
   all_goals refine dI (X:={k:Nat // k≤bs.length∧∀ j,j<k→E1 (bs,f::l) j=false}) (fun k=>[(1,.ptr 0 0),(17,.i (ints bs).length),(18,.i k.1)]) (fun _=>[.cells [.rowE (ints bs) 1,.rowE (gN (f::l)) 3]]) (fun k=>bs.length-k.1) ⟨0,bZ _,fun j hj=>absurd hj (eV _)⟩ (gQ [0]) ?_
   all_goals rintro ⟨k,hk,hj⟩
   all_goals dsimp only
   all_goals by_cases hlt:k<bs.length
   ·have hlf:k<f.1.length:=by rw [hp f aR];exact hlt
    have hlf2:k<f.2.2.length:=by rw [hc f aR];exact hlt
    have hcc:=yQ6 (caps:=[.pr [.i k] 0,.pr (wA f) 0]) (p:=IZ f k) (l:=f::l) hw rfl (fun x hx=>UE x f (by rw [hp x hx];exact hlt) (by rw [hc x hx];exact hlt) hlf hlf2 (hsz.sm hx) (hsz.sm aR))
    have hsa:=SQ (bs:=bs) (f:=f) (l:=l) (i:=k);cases hany:(f::l).any (IZ f k) with
    | false=>
     rw [hany] at hcc hsa;have hci:=zQ8 hn hlt hj hsa;rw [hci]
     (repeat' (first|refine wS ?_|refine wB ?_|refine wK ?_|refine wR ?_|refine wT ?_|(refine wC rfl ?_ ?_<;>(intro hb;(try simp only [nm] at hb);try omega))|(refine rg 4 (vV (aK rfl rfl) ?_))|(refine rg 5 (mW rfl (cO (cN T rfl) rfl (bC T rfl rfl rfl rfl rfl rfl (by decide) rfl ?_))))|(refine rg 6 (iK T rfl (vV (ix T rfl (by omega) (qN _) hg0) (lW T rfl (cO (cN T rfl) rfl (bC T rfl rfl rfl rfl rfl rfl (by decide) rfl ?_))))))|(refine rg 7 (iK T rfl (vV (by exact kT rfl rfl) ?_));refine vV (by exact eH rfl rfl hcc (.cons (.row _ _ _) (.cons (.clo .nil (.cons (.ptr rfl (.cons (.v _) .nil)) (.cons (.ptr rfl (.cons (.row _ _ _) (.cons (.v _) (.cons (.row _ _ _) .nil)))) .nil))) .nil)) rfl rfl) ?_;refine vV (dS rfl) ?_)|(refine rg 8 (lW T rfl (aV ?_)))|refine nZ ?_));all_goals first|omega | exact rQ
    | true=>
     rw [hany] at hcc hsa
     (repeat' (first|refine wS ?_|refine wB ?_|refine wK ?_|refine wU ?_|(refine wC rfl ?_ ?_<;>(intro hb;(try simp only [nm] at hb);try omega))|(refine rg 4 (vV (aK rfl rfl) ?_))|(refine rg 5 (mW rfl (cO (cN T rfl) rfl (bC T rfl rfl rfl rfl rfl rfl (by decide) rfl ?_))))|(refine rg 6 (iK T rfl (vV (ix T rfl (by omega) (qN _) hg0) (lW T rfl (cO (cN T rfl) rfl (bC T rfl rfl rfl rfl rfl rfl (by decide) rfl ?_))))))|(refine rg 7 (iK T rfl (vV (by exact kT rfl rfl) ?_));refine vV (by exact eH rfl rfl hcc (.cons (.row _ _ _) (.cons (.clo .nil (.cons (.ptr rfl (.cons (.v _) .nil)) (.cons (.ptr rfl (.cons (.row _ _ _) (.cons (.v _) (.cons (.row _ _ _) .nil)))) .nil))) .nil)) rfl rfl) ?_;refine vV (dS rfl) ?_)|(refine rg 9 (vV (cK rfl rfl (by omega) (by omega)) (mV ?_)))|refine nZ ?_));all_goals first|omega | skip
     all_goals exact ⟨⟨k+1,by omega,fun j hjk=>(jO j k).elim (hj j) (fun h=>by obtain rfl:j=k:=(by omega);exact hsa)⟩,by dsimp only;omega,gQ [0]⟩
   ·rw [zA8 hn (fun j hjl=>hj j (by dsimp only at hjl;omega))]
    (repeat' (first|refine wS ?_|refine wR ?_|refine wE ?_|(refine wC rfl ?_ ?_<;>(intro hb;(try simp only [nm] at hb);try omega))|(refine rg 4 (vV (aK rfl rfl) ?_))|(refine rg 10 (aV ?_))|refine nZ ?_));all_goals first|omega | exact rQ
end Go.Proofs.Q
namespace Go.Ld
open Go.Ab Go.Proofs.Q
theorem S9 {α:Type}(l:List α) (k:Nat):l.take k++l.drop (k+1)=l.eraseIdx k:=(List.eraseIdx_eq_take_drop_succ l k).symm
end Go.Ld
namespace Go.Proofs.Q
open Go Go.Ab Go.Ld
attribute [local irreducible] VC AW bW aM pJ iU
theorem zX9 (g:G){k:Nat}(hs:yU3 g) (hk:k<g.1.length) (h2:2≤g.1.length) (hne:g.2≠[]) (hsm:g.2.length≤100000) :
  aM Tryz.prog 150 [zC9 g,.i k] [] (.tup [zC9 (oG g k),zC9 (kG g k)]) []:=by
 have hsz:=hs;obtain ⟨bs,ws⟩:=g;obtain ⟨hb,hw,hp,hc⟩:=hs;dsimp only at hb hw hp hc hk h2 hsm;cases ws with
 | nil=>exact absurd rfl hne
 | cons f l=>
 have hlb:(ints bs).length=bs.length:=dD _;have hf1:=hp f aR;have hf2:=hc f aR;have hlp:(ints f.1).length=f.1.length:=dD _;have hlc:(fS f.2.2).length=f.2.2.length:=iO _;have hg0:(gN (f::l))[(0:Int).toNat]? = some (wA f):=rfl;have hl1:(gN (f::l)).length=l.length+1:=by simp
 have q1:=uO (l:=bs) (j:=(k:Int)) (i:=k) 0 hk rfl;have q2:=uO (l:=f.1) (j:=(k:Int)) (i:=k) 0 (by omega) rfl
 have q3:=xX (l:=f.2.2) (j:=(k:Int)) (i:=k) (by omega) rfl
 have cl:=LQ bs (by omega)
 have dl:=zQ0 bs k (k+1) (by omega) (by omega) (by intro h;rw [h] at hk;simp at hk)
 rw [S9,show bs.length-(k+1-k)=bs.length-1 by omega,show ((k+1:Nat):Int)=(k:Int)+1 by omega] at dl
 have hel:(bs.eraseIdx k).length=bs.length-1:=by rw [gM,if_pos hk]
 obtain ⟨L,hL⟩:∃ L,f::l=L:=⟨_,rfl⟩;have hp':∀ w,w∈L→w.1.length=bs.length:=by rw [← hL];exact hp
 have hc':∀ w,w∈L→w.2.2.length=bs.length:=by rw [← hL];exact hc
 have hsm':L.length≤100000:=by rw [← hL];exact hsm
 have hsz':∀ w,w∈L→V6 w:=by rw [← hL];exact fun w h=>hsz.sm h
 obtain ⟨R,hR⟩:∃ R,R=L.map (yG4 k):=⟨_,rfl⟩;have hor:kG (bs,f::l) k=(bs.eraseIdx k,gX R):=by rw [hR,← hL];rfl
 rw [hor]
 have ho:=HW R (by rw [hR,aU];exact hsm') (fun w hw'=>by
  rw [hR] at hw';obtain ⟨v,hv,rfl⟩:=bD.1 hw';have h1:=hp' v hv;have h2:=hc' v hv;unfold V6 yG4;dsimp only;rw [gM,gM]
  constructor <;> split <;> omega)
 refine O3 (res:=.tup [.agg [.sl 0 0 1 1,.sl 3 0 1 3],.agg [.rowE (ints (bs.eraseIdx k)) 1,.rowE (gN (gX R)) 3]]) (hout:=[.arr (ints [bs.getD k 0]) 1,.arr (ints [f.1.getD k 0]) 1,.arr (fS [f.2.2.getD k (0,0)]) 2,.arr [[.sl 1 0 1 1,.i 0,.sl 2 0 1 2]] 3]) ?_ (.tup (.cons (.agg (.cons (sS rfl rfl) (.cons (.sl rfl (by decide) (.cons (sS rfl rfl) (.cons (.v _) (.cons (CR rfl rfl) .nil)))) .nil))) (.cons (.agg (.cons (.row _ _ _) (.cons (.row _ _ _) .nil))) .nil)))
 generalize bs.getD k 0=x1 at *;generalize f.1.getD k 0=x2 at *;generalize hr:f.2.2.getD k (0,0)=r at *;obtain ⟨a1,a2⟩:=r;dsimp only at q3;refine bS T Tryz.func150 rfl rfl rfl rfl ?_
 (repeat' (first|refine wS ?_|(refine rg 0 (cO (dR rfl rfl) rfl (cO (cN T rfl) rfl (cO (cN T rfl) rfl ?_))))|(refine rg 1 (iK T rfl (vV (ix T rfl (by omega) (qN _) hg0) (lW T rfl (cO (cN T rfl) rfl (bC T rfl rfl rfl rfl rfl rfl (by decide) rfl ?_))))))|(refine cH (id:=2) 78 [[],[0],[],[0,1,2],rN 4,rN 5,[],[6],[],[6,7,8],rM 6 4,rM 6 5,[],[12],[],[12,13,14],rM 12 4,rM 12 5,rM 6 12,rM 6 13,rN 20] (rM 13 21) [[],[],[13,14],[],[],[],rM 13 6,rM 13 6,rM 13 8,rM 13 6,rM 13 6,rM 13 6,rM 13 12,rM 13 12,rM 13 14,rM 13 12,rM 13 12,rM 13 12,rM 13 6,rM 13 6,[]] cP rfl (by decide +kernel) (dP T rfl (dO T rfl (dN rfl (dV rfl (ix T rfl (by omega) (dY bs) q1) (dO T rfl (K2 rfl rfl rfl (by exact bG T rfl rfl (by decide) (by decide) rfl rfl rfl) rfl ?_))))));refine dP T rfl (dO T rfl (dN rfl (dV rfl (ix T rfl (by omega) (dY f.1) q2) (dO T rfl (K2 rfl rfl rfl (by exact bG T rfl rfl (by decide) (by decide) rfl rfl rfl) rfl ?_)))));refine dP T rfl (dO T rfl (dN rfl (dV rfl (ix T rfl (by omega) (lT f.2.2) q3) (dO T rfl (K2 rfl rfl rfl (by exact bG T rfl rfl (by decide) (by decide) rfl rfl rfl) rfl ?_)))));refine dV rfl (by exact eT T rfl rfl rfl rfl) ?_;refine K2 rfl rfl rfl (by exact bG T rfl rfl (by decide) (by decide) rfl rfl rfl) rfl ?_;refine dV rfl (by exact eT T rfl rfl rfl rfl) ?_;refine dE ?_;refine bC T rfl rfl rfl rfl rfl rfl (by decide) rfl ?_)|(refine rg 3 (iK T rfl (cO (by exact gH rfl rfl cl (.inr ⟨rfl,rfl,by simp⟩)) rfl ?_));refine dJ rfl (vV (cK rfl rfl (by omega) (by omega)) (bT [8] rfl rfl (dl) rfl rfl (by decide) ⟨.inr (aC rfl (bB _ (bF _)) (bF _)),trivial⟩ (by simp) rfl ?_));refine fW T rfl (bC T rfl rfl rfl rfl rfl rfl (by decide) rfl ?_))|refine nZ ?_));refine fF [(1,.i k),(2,.ptr 0 0),(4,.ptr 1 0),(5,.ptr 2 0)] [.cells [.rowE (ints bs) 1,.rowE (gN (f::l)) 3],.cells [.sl 3 0 1 1,.sl 6 0 1 3],.cells [.sl 7 0 (bs.length-1) 1,.nils],.arr (ints [x1]) 1,.arr (ints [x2]) 1,.arr (fS [(a1,a2)]) 2,.arr [[.sl 4 0 1 1,.i 0,.sl 5 0 1 2]] 3,.arr (ints (bs.eraseIdx k)) 1]
  ⟨[0,1,2,4,5,6,7,8],rfl,(by repeat first|exact trivial|refine ⟨rfl,?_⟩),⟨.inr rfl,.inr rfl,.inr rfl,.inr rfl,.inr rfl,.inr rfl,.inr rfl,.inr (aC rfl (bB _ (bF _)) (bF _)),trivial⟩,by decide,jP _⟩ ?_
 refine nY 2 0 rfl rfl rfl (by rw [dD,hel]) (eX (bF _)) ?_
 refine mQ 2 1 3 rfl rfl (by decide) ?_
 rw [hL]
 (repeat' (first|refine wB ?_|(refine rg 4 (iK T rfl (qW T rfl (mV ?_))))|refine nZ ?_));refine dI (X:={i:Nat // i≤L.length}) (fun i=>[(1,.i k),(4,.ptr 0 0),(5,.ptr 1 0),(43,.rowE (gN L) 3),(44,.i (gN L).length),(45,.i i.1)]) (fun i=>[.cells [.sl 2 0 1 1,.sl 5 0 1 3],.cells [.rowE (ints (bs.eraseIdx k)) 1,.sl 6 0 i.1 3],.arr (ints [x1]) 1,.arr (ints [x2]) 1,.arr (fS [(a1,a2)]) 2,.arr [[.sl 3 0 1 1,.i 0,.sl 4 0 1 2]] 3,.arr (gN (R.take i.1)) 3]) (fun i=>L.length-i.1) ⟨0,bZ _⟩
  ⟨[1,2,3,4,5,6,8],rfl,(by repeat first|exact trivial|refine ⟨rfl,?_⟩),⟨.inr rfl,.inr rfl,.inr rfl,.inr rfl,.inr rfl,.inr rfl,.inr rfl,trivial⟩,by decide,jP _⟩ ?_
 rintro ⟨i,hi⟩;dsimp only;have hLl:(gN L).length=L.length:=fQ _;have hRl:R.length=L.length:=by rw [hR,aU]
 by_cases hlt:i<L.length
 ·have hg:=H3 hlt;have hv1:=hp' L[i] (aO hlt);have hv2:=hc' L[i] (aO hlt);have hRs:R.take (i+1)=R.take i++[yG4 k L[i]]:=by rw [aL (by omega)];simp [hR]
  have hwm:=hsz' _ (aO hlt);generalize L[i]=v at *;have hcw:=LP v hwm;obtain ⟨p,m,c⟩:=v;dsimp only at hv1 hv2 hcw hRs;have e1:=qX (zQ0 p k (k+1) (by omega) (by omega) (by intro h;rw [h] at hv1;simp at hv1;omega))
  have e2:=qX (yS5 c k (k+1) (by omega) (by omega) (by intro h;rw [h] at hv2;simp at hv2;omega))
  rw [S9,show p.length-(k+1-k)=p.length-1 by omega,show ((k+1:Nat):Int)=(k:Int)+1 by omega] at e1
  rw [S9,show c.length-(k+1-k)=c.length-1 by omega,show ((k+1:Nat):Int)=(k:Int)+1 by omega] at e2
  (repeat' (first|refine wS ?_|refine wB ?_|refine wK ?_|(refine wC rfl ?_ ?_<;>(intro hb;(try simp only [nm] at hb);try omega))|(refine rg 5 (vV (aK rfl rfl) ?_))|(refine rg 6 (vV (ix T rfl (by omega) (qN _) hg) (lW T rfl (cO (cN T rfl) rfl (bC T rfl rfl rfl rfl rfl rfl (by decide) rfl ?_)))))|(refine rg 7 (lW T rfl (cO (by exact gH rfl rfl hcw (.inr ⟨rfl,rfl,by simp⟩)) rfl ?_));refine bC T rfl rfl rfl rfl rfl rfl (by decide) rfl ?_)|refine nZ ?_));all_goals try omega
  refine fF [(1,.i k),(4,.ptr 0 0),(5,.ptr 1 0),(8,.ptr 7 0),(43,.rowE (gN L) 3),(44,.i (gN L).length),(45,.i i)] [.cells [.sl 2 0 1 1,.sl 5 0 1 3],.cells [.rowE (ints (bs.eraseIdx k)) 1,.sl 6 0 i 3],.arr (ints [x1]) 1,.arr (ints [x2]) 1,.arr (fS [(a1,a2)]) 2,.arr [[.sl 3 0 1 1,.i 0,.sl 4 0 1 2]] 3,.arr (gN (R.take i)) 3,.cells [.sl 8 0 p.length 1,.i m,.sl 9 0 c.length 2],.arr (ints p) 1,.arr (fS c) 2]
   ⟨[0,1,2,3,4,5,6,7,8,9],rfl,(by repeat first|exact trivial|refine ⟨rfl,?_⟩),⟨.inr rfl,.inr rfl,.inr rfl,.inr rfl,.inr rfl,.inr rfl,.inr (aC rfl rfl (bY _)),.inr rfl,.inr (aC rfl (bB _ (bF _)) (bF _)),.inr (aC rfl (bB _ (fO _)) (fO _)),trivial⟩,by decide,jP _⟩ ?_
  repeat' (first|(refine lY (id:=8) 78 [[],[0],[],[],[3],rN 5,[],[6],[],[],[9],rN 11,rN 8,rN 13] (rM 51 13) [[],[],[51,52],[51,52,53],[51,52,53],[],rM 51 6,rM 51 6,rM 51 8,rM 51 9,rM 51 9,[],rM 59 4,[]] [(5,8),(11,9),(13,7)] cP rfl (by decide +kernel) (cQ rfl rfl rfl rfl (by exact bR T rfl rfl rfl) ?_);refine cQ rfl rfl rfl rfl (by exact bA T rfl rfl rfl rfl) ?_;refine cQ rfl rfl rfl rfl (by exact bV rfl) ?_;refine cQ rfl rfl rfl rfl (by exact bV rfl) ?_;refine cQ rfl rfl rfl rfl (by exact cK rfl rfl (by omega) (by omega)) ?_;refine oT rfl rfl rfl rfl (aI rfl) (by exact tX [8] rfl rfl (e1) (fun _=>rfl) rfl (by decide) (fun _=>⟨.inr (aC rfl rfl (bF _)),trivial⟩) (by simp) rfl (fun _ _=>rfl) rfl rfl) ?_;refine cQ rfl rfl rfl rfl (by exact bR T rfl rfl rfl) ?_;refine cQ rfl rfl rfl rfl (by exact bA T rfl rfl rfl rfl) ?_;refine cQ rfl rfl rfl rfl (by exact bV rfl) ?_;refine cQ rfl rfl rfl rfl (by exact bV rfl) ?_;refine cQ rfl rfl rfl rfl (by exact cK rfl rfl (by omega) (by omega)) ?_;refine oT rfl rfl rfl rfl (aI rfl) (by exact tX [9] rfl rfl (e2) (fun _=>rfl) rfl (by decide) (fun _=>⟨.inr (aC rfl rfl (fO _)),trivial⟩) (by simp) rfl (fun _ _=>rfl) rfl rfl) ?_;refine cQ rfl rfl rfl rfl (by exact bR T rfl rfl rfl) ?_;refine F5 rfl rfl rfl rfl (aI rfl) T rfl rfl rfl rfl rfl rfl (by decide) rfl ?_;refine qK rfl rfl rfl (by exact rfl) ?_;refine fW T rfl (bC T rfl rfl rfl rfl rfl rfl (by decide) rfl ?_))|refine nZ ?_)
  show AW _ _ _ _ _ _;have l1:(p.eraseIdx k).length=p.length-1:=by rw [gM,if_pos (by omega)]
  have l2:(c.eraseIdx k).length=c.length-1:=by rw [gM,if_pos (by omega)]
  refine fF [(1,.i k),(4,.ptr 0 0),(5,.ptr 1 0),(8,.ptr 7 0),(43,.rowE (gN L) 3),(44,.i (gN L).length),(45,.i i)] [.cells [.sl 2 0 1 1,.sl 5 0 1 3],.cells [.rowE (ints (bs.eraseIdx k)) 1,.sl 6 0 i 3],.arr (ints [x1]) 1,.arr (ints [x2]) 1,.arr (fS [(a1,a2)]) 2,.arr [[.sl 3 0 1 1,.i 0,.sl 4 0 1 2]] 3,.arr (gN (R.take i)) 3,.cells [.sl 8 0 (p.length-1) 1,.i m,.sl 9 0 (c.length-1) 2],.arr (ints (p.eraseIdx k)) 1,.arr (fS (c.eraseIdx k)) 2]
   ⟨[0,1,2,3,4,5,6,7,8,9],rfl,(by repeat first|exact trivial|refine ⟨rfl,?_⟩),⟨.inr rfl,.inr rfl,.inr rfl,.inr rfl,.inr rfl,.inr rfl,.inr (aC rfl rfl (bY _)),.inr rfl,.inr (aC rfl (bB _ (bF _)) (bF _)),.inr (aC rfl (bB _ (fO _)) (fO _)),trivial⟩,by decide,jP _⟩ ?_
  refine nY 7 0 rfl rfl rfl (by rw [dD,l1]) (eX (bF _)) ?_
  refine nY 7 2 rfl rfl rfl (by rw [iO,l2]) (eX (fO _)) ?_
  have hW:gN (R.take (i+1))=gN (R.take i)++[[.rowE (ints (p.eraseIdx k)) 1,.i m,.rowE (fS (c.eraseIdx k)) 2]]:=by rw [hRs,gN,bU];rfl
  have hTl:(gN (R.take i)).length=i:=by rw [fQ,aY];omega
  generalize gN (R.take i)=Q at *
  (repeat' (first|(refine rg 9 (iK T rfl (lW T rfl (cO (by exact bG T rfl rfl (by decide) (by decide) rfl rfl rfl) rfl ?_)));refine gJ T rfl rfl rfl rfl rfl rfl (by omega) (kK.whole rfl rfl) rfl (by simp;omega) (by simp;omega) rfl ?_;refine fW T rfl (bC T rfl rfl rfl rfl rfl rfl (by decide) rfl ?_))|(refine rg 10 (vV (cK rfl rfl (by omega) (by omega)) (mV ?_)))|refine nZ ?_));all_goals try omega
  exact ⟨⟨i+1,hlt⟩,by dsimp only;omega,⟨[0,1,2,3,4,5,11],rfl,(by repeat first|exact trivial|refine ⟨rfl,?_⟩),⟨.inr rfl,.inr rfl,.inr rfl,.inr rfl,.inr rfl,.inr rfl,.inr (aC rfl (by dsimp only;rw [hW];exact jW hTl.symm) (bY _)),trivial⟩,by decide,jP _⟩⟩
 ·obtain rfl:i=L.length:=by omega
  rw [show R.take L.length=R by rw [← hRl,cM]]
  show AW _ _ _ _ _ _;refine nY 1 1 rfl rfl rfl (by rw [fQ,hRl]) (eX (bY _)) ?_
  generalize gX R=R' at *
  (repeat' (first|refine wS ?_|refine wR ?_|refine wE ?_|(refine wC rfl ?_ ?_<;>(intro hb;(try simp only [nm] at hb);try omega))|(refine rg 5 (vV (aK rfl rfl) ?_))|(refine rg 11 (iK T rfl (vV (kC (ho)) (fW T rfl (bC T rfl rfl rfl rfl rfl rfl (by decide) rfl ?_)))))|(refine pG (id:=12) 78 [[],[],[0]] [76,77] [[],[76],[77]] [(2,0)] cP rfl (by decide +kernel) (dH rfl rfl rfl rfl (by exact bA T rfl rfl rfl rfl) ?_);refine dH rfl rfl rfl rfl (by exact bA T rfl rfl rfl rfl) ?_;refine A0 rfl rfl rfl rfl (aI rfl) T rfl rfl rfl rfl rfl rfl (by decide) rfl ?_;refine uS rfl rfl rfl (by exact rfl) ?_;refine bC T rfl rfl rfl rfl rfl rfl (by decide) rfl ?_)|refine nZ ?_));all_goals first|omega | exact ⟨.inl rfl,[2,3,4,5],_,rfl,rfl,rfl,⟨.inr rfl,.inr rfl,.inr rfl,.inr rfl,trivial⟩,by decide,jP _⟩
end Go.Proofs.Q
namespace Go.Ld
open Go.Ab Go.Proofs.Q
theorem F1 {L:List G}{j:Int}{i:Nat}{x:G}(h:L[i]? = some x) (e:j=i):(kY L)[0+j.toNat]? = some (gA x):=by
 subst e;simp [h]
theorem R3 {L:List G}{j:Int}{i:Nat}{x:G}(e:j=i):(kY L).set (0+j.toNat) (gA x)=kY (L.set i x):=by
 subst e;simp [kY,zC]
abbrev RF (l:List G):Prop:=l.Pairwise (fun a b=>cG a b≤0)
def BT (l:List G):Prop:=∀ a b,a∈l→b∈l→cG a b=0→a=b
theorem yT2 {a:G}:cG a a=0:=sA.rfl' _
theorem UF (a b:G):cG a b = - cG b a:=sA.neg _ _
theorem WS {a b d:G}(h1:cG a b≤0) (h2:cG b d≤0):cG a d≤0:=sA.le_tr (a:=a.1.headD 0) (b:=b.1.headD 0) (d:=d.1.headD 0) h1 h2
theorem PM (w:G):∀ {l:List G},RF l→RF (GJ cG w l)
 | [],_=>mO _ _
 | x::l,hl=>by
  have hl':=fJ.1 hl;unfold GJ;split
  ·rename_i hw;refine fJ.2 ⟨fun y hy=>?_,hl⟩
   rcases bQ.1 hy with rfl | hy
   ·exact hw
   ·exact WS hw (hl'.1 y hy)
  ·rename_i hw;refine fJ.2 ⟨fun y hy=>?_,PM w hl'.2⟩
   rcases bQ.1 ((I7 cG w l).mem_iff.1 hy) with rfl | hy
   ·have:=UF x y;omega
   ·exact hl'.1 y hy
theorem uW:∀ l:List G,RF (eN cG l)
 | []=>.nil
 | x::l=>PM x (uW l)
theorem NO {l m:List G}(hd:BT l) (hp:m.Perm l) (h:RF m):eN cG l=m:=by
 refine (List.Perm.eq_of_pairwise (le:=fun a b=>cG a b≤0) (fun a b ha hb h1 h2=>hd a b (hp.mem_iff.1 ha) ((dW cG l).mem_iff.1 hb) (by have:=UF a b;omega)) h (uW l) (hp.trans (dW cG l).symm)).symm
theorem BT.sub {l m:List G}(h:BT l) (hs:∀ x,x∈m→x∈l):BT m:=fun a b ha hb e=>h a b (hs a ha) (hs b hb) e
theorem BT.perm {l m:List G}(h:BT l) (hp:m.Perm l):BT m:=h.sub fun x hx=>hp.mem_iff.1 hx
theorem UD {a b:G}(h:cG a b<0):cG a b≤0:=by omega
theorem zW1 {S1 S2:List G}{x:G}(h:RF (S1++S2)) (h1:∀ y,y∈S1→cG y x≤0) (h2:∀ y,y∈S2→cG x y≤0):RF (S1++x::S2):=by
 obtain ⟨a,b,c⟩:=fM.1 h;refine fM.2 ⟨a,fJ.2 ⟨h2,b⟩,fun p hp q hq=>?_⟩
 rcases bQ.1 hq with rfl | hq
 ·exact h1 p hp
 ·exact c p hp q hq
theorem zD6 {A:List G}{y:G}(h:RF (A++[y])):∀ z,z∈A++[y]→cG z y≤0:=by
 intro z hz;obtain ⟨a,b,c⟩:=fM.1 h;rcases bH.1 hz with hz | hz
 ·exact c z hz y (by simp)
 ·rw [bE.1 hz,yT2];exact eW _
theorem xC5 {a b:G}(h:¬ cG a b<0):cG b a≤0:=by have:=UF a b;omega
def BI (l:List G) (a b:Nat):List G:=l.take a++(eN cG ((l.drop a).take (b-a))++l.drop b)
theorem DB {l:List G}:(eN cG l).length=l.length:=(dW cG l).length_eq
theorem XP {l:List G}{a:Nat}(h:a≤l.length):BI l a a=l:=by unfold BI;simp [eN]
theorem zG0 {l:List G}{a:Nat}(h:a<l.length):BI l a (a+1)=l:=by
 unfold BI;rw [show a+1-a=1 by omega,aP h]
 simp only [nA,lH,eN,GJ];rw [oD,← aP h,bK]
structure RU (l:List G) (a i:Nat) (x:G) (q:List G × List G):Prop where
 eq:q.1++q.2=eN cG ((l.drop a).take (i-a))
 gt:∀ y,y∈q.2→cG x y<0
def rE (l:List G) (a i:Nat) (x:G) (q:List G × List G):List G:=(l.take a++q.1)++x::(q.2++l.drop (i+1))
theorem TL {l:List G}{a i:Nat}{x:G}(h1:a<i) (h2:i<l.length) (hx:l[i]? = some x):RU l a i x (eN cG ((l.drop a).take (i-a)),[])∧BI l a i=rE l a i x (eN cG ((l.drop a).take (i-a)),[]):=by
 refine ⟨⟨by simp,fun y hy=>by cases hy⟩,?_⟩
 unfold BI rE;have:l.drop i=x::l.drop (i+1):=by
  rw [aB h2] at hx;rw [aP h2];cases hx;rfl
 simp [this]
theorem PL {l:List G}{a i:Nat}{x:G}{q:List G × List G}(h:RU l a i x q) (h1:a<i) (h2:i<l.length):q.1.length+q.2.length=i-a:=by
 have:=congrArg List.length h.eq;simp only [aD,DB,aY,dK] at this;omega
theorem ZJ {l:List G}{a i:Nat}{x:G}{q:List G × List G}(h:RU l a i x q) (h1:a<i) (h2:i<l.length):(rE l a i x q).length=l.length:=by
 have:=PL h h1 h2;unfold rE;simp only [aD,List.length_cons,aY,dK];omega
theorem WA {l:List G}(hdl:BT l){a i:Nat}{x:G}{q:List G × List G}(h:RU l a i x q) (h1:a<i) (h2:i<l.length) (hx:l[i]? = some x) (hs:∀ y,y∈q.1→cG y x≤0):rE l a i x q=BI l a (i+1):=by
 unfold rE BI;have e:(l.drop a).take (i+1-a)=(l.drop a).take (i-a)++[x]:=by
  rw [show i+1-a=(i-a)+1 by omega,zU7]
  rw [eK,show a+(i-a)=i by omega,hx];rfl
 rw [e];have hp:(q.1++x::q.2).Perm ((l.drop a).take (i-a)++[x]):=by
  refine List.perm_middle.trans ?_;rw [h.eq];exact ((dW cG _).cons x).trans (U9 _ _).symm
 have hu:RF (q.1++x::q.2):=zW1 (by rw [h.eq];exact uW _) hs (fun y hy=>UD (h.gt y hy))
 rw [NO (hdl.sub fun y hy=>by rw [← e] at hy;exact eB (eJ hy)) hp hu]
 simp
theorem zM4 {l:List G}{a i:Nat}{x y:G}{S:List G}{q:List G × List G}(h:RU l a i x q) (e:q.1=S++[y]) (hc:¬ cG x y<0):∀ z,z∈q.1→cG z x≤0:=by
 have hu:RF (q.1++q.2):=by rw [h.eq];exact uW _
 have hu1:RF q.1:=(fM.1 hu).1;rw [e] at hu1;intro z hz;rw [e] at hz;exact WS (zD6 hu1 z hz) (xC5 hc)
theorem ZI {l:List G}{a i:Nat}{x y:G}{S:List G}{q:List G × List G}(h:RU l a i x q) (e:q.1=S++[y]) (hc:cG x y<0):RU l a i x (S,y::q.2):=by
 refine ⟨?_,fun z hz=>?_⟩
 ·rw [← h.eq,e];simp
 ·rcases bQ.1 hz with rfl | hz
  ·exact hc
  ·exact h.gt z hz
end Go.Ld
namespace Go.Proofs.Q
open Go Go.Ab Go.Ld
attribute [local irreducible] VC AW bW aM
abbrev TZ:AV:=.clo (.func 152) [] []
def yU4 (g:G):Prop:=0<g.1.length∧g.1.length≤1000000
theorem zX3 (a b:G) (ha:yU4 a) (hb:yU4 b):aM Tryz.prog 152 [zC9 a,zC9 b] [] (.i (cG a b)) []:=by
 obtain ⟨p,ws⟩:=a;obtain ⟨q,vs⟩:=b;cases p with
 | nil=>exact absurd ha.1 (by simp)
 | cons x p=>
  cases q with
  | nil=>exact absurd hb.1 (by simp)
  | cons y q=>
   have hc:=JD x y;have h1:(ints (x::p)).length=p.length+1:=by simp
   have h2:(ints (y::q)).length=q.length+1:=by simp
   have g1:(ints (x::p))[(0:Int).toNat]? = some [AV.i x]:=rfl;have g2:(ints (y::q))[(0:Int).toNat]? = some [AV.i y]:=rfl;refine bS T Tryz.func152 rfl rfl rfl rfl ?_
   (repeat' (first|refine wS ?_|refine wR ?_|(refine rg 0 (cO (dR rfl rfl) rfl (cO (dR rfl rfl) rfl (aV ?_))))|(refine cH (id:=1) 14 [[],[0],[0,1],[0,1,2],[],[4],[4,5],[4,5,6],rN 8] (rM 5 9) [[],[],[],[],rM 5 4,rM 5 4,rM 5 4,rM 5 4,[]] cP rfl (by decide +kernel) (dP T rfl (dO T rfl (dV rfl (ix T rfl (by omega) (dY _) g1) (dO T rfl (dP T rfl (dO T rfl (dV rfl (ix T rfl (by omega) (dY _) g2) (dO T rfl (dV rfl (kC (hc)) ?_)))))))));refine dE ?_;refine aV ?_)|refine nZ ?_));all_goals first|omega | exact rQ
theorem ZG (l:List G) (a b:Nat) (hab:a≤b) (hb:b≤l.length) (hdl:BT l) (hl:l.length≤100000) (hw:∀ w,w∈l→yU4 w) :
  aM Tryz.prog 218 [.sl 0 0 l.length 2,.i a,.i b,TZ] [.arr (kY l) 2] (.tup []) [.arr (kY (BI l a b)) 2]:=by
 rcases jO a b with hlt | hge
 ·refine bS T Tryz.func218 rfl rfl rfl rfl ?_
  (repeat' (first|refine wS ?_|refine wB ?_|(refine iA 0 rfl rfl rfl (by omega) (by omega) ?_)|refine nZ ?_));refine dI (X:={i:Nat // a+1≤i∧i≤b}) (fun i=>[(0,.sl 0 0 l.length 2),(1,.i a),(2,.i b),(3,TZ),(8,.i i.1)]) (fun i=>[.arr (kY (BI l a i.1)) 2]) (fun i=>b-i.1) ⟨a+1,by omega,by omega⟩ ⟨[0],rfl,by (repeat (first|exact trivial|refine ⟨rfl,?_⟩)),⟨.inr (aC rfl (by dsimp only;rw [zG0 (by omega)]) (eR _)),trivial⟩,by decide,lX⟩ ?_
  rintro ⟨i,h1,h2⟩;dsimp only;by_cases hi:i<b
  ·(repeat' (first|refine wS ?_|refine wB ?_|refine wK ?_|(refine wC rfl (fun hb=>?_) (fun hb=>?_) <;> (((try simp only [nm] at hb);try omega)))|(refine rg 1 (dJ rfl (vV (aK rfl rfl) ?_)))|(refine rg 3 (mW rfl (aV ?_)))|(refine nZ ?_)));all_goals try omega
   have hil:i<l.length:=by omega
   obtain ⟨x,hx⟩:∃ x,l[i]? = some x:=⟨_,aB hil⟩;obtain ⟨s1,s2⟩:=TL (a:=a) (by omega) hil hx
   refine dI (X:={q:List G × List G // RU l a i x q}) (fun q=>[(0,.sl 0 0 l.length 2),(1,.i a),(2,.i b),(3,TZ),(8,.i i),(9,.i ((a+q.1.1.length:Nat):Int))]) (fun q=>[.arr (kY (rE l a i x q.1)) 2]) (fun q=>q.1.1.length) ⟨_,s1⟩ ⟨[0],rfl,⟨rfl,rfl,rfl,rfl,rfl,by dsimp only;rw [DB,aY,dK,show a+min (i-a) (l.length-a)=i by omega];rfl,trivial⟩,⟨.inr (aC rfl (by dsimp only;rw [s2]) (eR _)),trivial⟩,by decide,lX⟩ ?_
   rintro ⟨⟨S1,S2⟩,hq⟩;dsimp only;have hln:=PL hq (by omega) hil
   dsimp only at hln;have hwx:yU4 x:=hw x (aQ hx);have hal:(l.take a).length=a:=by rw [aY];omega
   rcases List.eq_nil_or_concat S1 with rfl | ⟨S,y,rfl⟩
   ·have ee:=WA hdl hq (by omega) hil hx (fun y hy=>by cases hy)
    have hJ:((a+([]:List G).length:Nat):Int)=a:=by simp
    generalize ((a+([]:List G).length:Nat):Int)=J at *;generalize rE l a i x ([],S2)=L at *
    (repeat' (first|refine wS ?_|refine wE ?_|refine wU ?_|(refine cH (id:=4) 53 xJ8 (rM 18 17) xJ9 cP rfl (by decide +kernel) (dN rfl (dN rfl (dV rfl (LF rfl rfl (by omega)) (dN rfl (tG rfl (tG rfl (tG rfl (tG rfl (dG ?_)))))))));refine tG rfl (tG rfl (tG rfl (tG rfl (tG rfl (tG rfl (tG rfl (dV rfl (iM rfl rfl) (dE ?_)))))))))|(refine iA 2 rfl rfl rfl (by omega) (by omega) ?_)|refine nZ ?_));all_goals first|omega | exact ⟨⟨i+1,by omega,by omega⟩,by dsimp only;omega,⟨[0],rfl,by (repeat (first|exact trivial|refine ⟨rfl,?_⟩)),⟨.inr (aC rfl (by dsimp only;rw [ee]) (eR _)),trivial⟩,by decide,lX⟩⟩
   ·rw [List.concat_eq_append] at *;have hy:y∈l:=by
     have h3:y∈eN cG ((l.drop a).take (i-a)):=by rw [← hq.eq];simp
     exact eB (eJ ((dW _ _).mem_iff.1 h3))
    have hc:=zX3 x y hwx (hw y hy);have hL:rE l a i x (S++[y],S2)=(l.take a++S)++y::x::(S2++l.drop (i+1)):=by unfold rE;simp
    have hJ:((a+(S++[y]).length:Nat):Int)=((a+S.length+1:Nat):Int):=by simp;omega
    have hAl:a+S.length=(l.take a++S).length:=by rw [aD,hal]
    have hlen:=ZJ hq (by omega) hil
    by_cases h0:cG x y<0
    ·have ee:=ZI hq rfl h0;have q1:=F1 (L:=rE l a i x (S++[y],S2)) (j:=((a+(S++[y]).length:Nat):Int)) (i:=a+S.length+1) (x:=x) (by rw [hL,show (l.take a++S)++y::x::(S2++l.drop (i+1))=((l.take a++S)++[y])++x::(S2++l.drop (i+1)) by simp];exact oU _ _ _ (by simp;omega)) hJ
     have q2:=F1 (L:=rE l a i x (S++[y],S2)) (j:=((a+(S++[y]).length:Nat):Int)-1) (i:=a+S.length) (x:=y) (by rw [hL];exact oU _ _ _ hAl) (by omega)
     have t1:=R3 (L:=rE l a i x (S++[y],S2)) (j:=((a+(S++[y]).length:Nat):Int)) (i:=a+S.length+1) (x:=y) hJ;have e1:(rE l a i x (S++[y],S2)).set (a+S.length+1) y=(l.take a++S)++y::y::(S2++l.drop (i+1)):=by
      rw [hL,show (l.take a++S)++y::x::(S2++l.drop (i+1))=((l.take a++S)++[y])++x::(S2++l.drop (i+1)) by simp,pE _ _ _ _ (by simp;omega)];simp
     rw [e1] at t1;have q3:=F1 (L:=(l.take a++S)++y::y::(S2++l.drop (i+1))) (j:=((a+(S++[y]).length:Nat):Int)-1) (i:=a+S.length) (x:=y) (oU _ _ _ hAl) (by omega)
     have t2:=R3 (L:=(l.take a++S)++y::y::(S2++l.drop (i+1))) (j:=((a+(S++[y]).length:Nat):Int)-1) (i:=a+S.length) (x:=x) (by omega)
     rw [pE _ _ _ _ hAl,show (l.take a++S)++x::y::(S2++l.drop (i+1))=rE l a i x (S,y::S2) by unfold rE;simp,← t1] at t2
     rw [← t1] at q3;have hJ2:((a+(S++[y]).length:Nat):Int)-1=((a+S.length:Nat):Int):=by omega
     have hJ3:((a+(S++[y]).length:Nat):Int)<l.length:=by omega
     have hJ4:(a:Int)<((a+(S++[y]).length:Nat):Int):=by omega
     clear hJ hL;generalize ((a+(S++[y]).length:Nat):Int)=J at *;generalize cG x y=z at *;generalize rE l a i x (S++[y],S2)=L at *
     (repeat' (first|refine wS ?_|refine wB ?_|refine wK ?_|(refine wC rfl ?_ ?_<;>(intro hb;(try simp only [nm] at hb);try omega))|(refine cH (id:=4) 53 xJ8 (rM 18 17) xJ9 cP rfl (by decide +kernel) (dN rfl (dN rfl (dV rfl (fK rfl rfl) (dM ?_))));refine rY rfl rfl rfl rfl ?_ ?_<;>(intro hb;rw [hb];(try simp only [nm] at hb);try omega)<;>(refine tM ?_);(all_goals (refine tN rfl (tN rfl (dT rfl (by exact aT T rfl rfl rfl rfl rfl (by omega) (by omega)) ?_));refine dT rfl (by exact bA T rfl rfl (bX rfl q1) rfl) ?_;refine tN rfl (tN rfl (dT rfl (dC rfl rfl (by omega) (by omega)) (dT rfl (by exact aT T rfl rfl rfl rfl rfl (by omega) (by omega)) ?_)));refine dT rfl (by exact bA T rfl rfl (bX rfl q2) rfl) ?_;refine dT rfl (kC (hc)) (dT rfl (aK rfl rfl) (dV rfl (jE rfl rfl) (dE ?_))))))|(refine pG (id:=6) 53 xK0 (rM 37 15) xK1 [(15,0)] cP rfl (by decide +kernel) (dH rfl rfl rfl rfl (by exact bV rfl) ?_);refine dH rfl rfl rfl rfl (by exact bV rfl) ?_;refine dH rfl rfl rfl rfl (by exact bV rfl) ?_;refine dH rfl rfl rfl rfl (by exact bV rfl) ?_;refine dH rfl rfl rfl rfl (by exact dC rfl rfl (by omega) (by omega)) ?_;refine dH rfl rfl rfl rfl (by exact bV rfl) ?_;refine dH rfl rfl rfl rfl (by exact bV rfl) ?_;refine dH rfl rfl rfl rfl (by exact dC rfl rfl (by omega) (by omega)) ?_;refine dH rfl rfl rfl rfl (by exact aT T rfl rfl rfl rfl rfl (by omega) (by omega)) ?_;refine dH rfl rfl rfl rfl (by exact bA T rfl rfl (bX rfl q2) rfl) ?_;refine dH rfl rfl rfl rfl (by exact bV rfl) ?_;refine dH rfl rfl rfl rfl (by exact bV rfl) ?_;refine dH rfl rfl rfl rfl (by exact aT T rfl rfl rfl rfl rfl (by omega) (by omega)) ?_;refine dH rfl rfl rfl rfl (by exact bA T rfl rfl (bX rfl q1) rfl) ?_;refine dH rfl rfl rfl rfl (by exact aT T rfl rfl rfl rfl rfl (by omega) (by omega)) ?_;refine A0 rfl rfl rfl rfl (aI rfl) T rfl rfl rfl rfl rfl rfl (by decide) (zI rfl q1 rfl) ?_;refine uS rfl rfl rfl (by exact rfl) ?_;refine vV (by exact aT T rfl rfl rfl rfl rfl (by omega) (by omega)) ?_;refine bC T rfl rfl rfl rfl rfl rfl (by decide) (nJ rfl q3 rfl) ?_)|(refine rg 5 (mW rfl (vV (dC rfl rfl (by omega) (by omega)) (aV ?_))))|refine nZ ?_));all_goals first|omega | exact ⟨⟨_,ee⟩,by dsimp only;simp,⟨[0],rfl,⟨rfl,rfl,rfl,rfl,rfl,by dsimp only;rw [← hJ2];try rfl,trivial⟩,⟨.inr (aC rfl (by dsimp only;rw [← t2];try rfl) (eR _)),trivial⟩,by decide,lX⟩⟩
    ·have ee:=WA hdl hq (by omega) hil hx (zM4 hq rfl h0)
     have q1:=F1 (L:=rE l a i x (S++[y],S2)) (j:=((a+(S++[y]).length:Nat):Int)) (i:=a+S.length+1) (x:=x) (by rw [hL,show (l.take a++S)++y::x::(S2++l.drop (i+1))=((l.take a++S)++[y])++x::(S2++l.drop (i+1)) by simp];exact oU _ _ _ (by simp;omega)) hJ
     have q2:=F1 (L:=rE l a i x (S++[y],S2)) (j:=((a+(S++[y]).length:Nat):Int)-1) (i:=a+S.length) (x:=y) (by rw [hL];exact oU _ _ _ hAl) (by omega)
     have hJ3:((a+(S++[y]).length:Nat):Int)<l.length:=by omega
     have hJ4:(a:Int)<((a+(S++[y]).length:Nat):Int):=by omega
     clear hJ hL;generalize ((a+(S++[y]).length:Nat):Int)=J at *;generalize cG x y=z at *;generalize rE l a i x (S++[y],S2)=L at *
     (repeat' (first|refine wS ?_|refine wE ?_|(refine wC rfl ?_ ?_<;>(intro hb;(try simp only [nm] at hb);try omega))|(refine cH (id:=4) 53 xJ8 (rM 18 17) xJ9 cP rfl (by decide +kernel) (dN rfl (dN rfl (dV rfl (fK rfl rfl) (dM ?_))));refine rY rfl rfl rfl rfl ?_ ?_<;>(intro hb;rw [hb];(try simp only [nm] at hb);try omega)<;>(refine tM ?_);(all_goals (refine tN rfl (tN rfl (dT rfl (by exact aT T rfl rfl rfl rfl rfl (by omega) (by omega)) ?_));refine dT rfl (by exact bA T rfl rfl (bX rfl q1) rfl) ?_;refine tN rfl (tN rfl (dT rfl (dC rfl rfl (by omega) (by omega)) (dT rfl (by exact aT T rfl rfl rfl rfl rfl (by omega) (by omega)) ?_)));refine dT rfl (by exact bA T rfl rfl (bX rfl q2) rfl) ?_;refine dT rfl (kC (hc)) (dT rfl (aK rfl rfl) (dV rfl (jE rfl rfl) (dE ?_))))))|(refine iA 2 rfl rfl rfl (by omega) (by omega) ?_)|refine nZ ?_));all_goals first|omega | exact ⟨⟨i+1,by omega,by omega⟩,by dsimp only;omega,⟨[0],rfl,by (repeat (first|exact trivial|refine ⟨rfl,?_⟩)),⟨.inr (aC rfl (by dsimp only;rw [ee]) (eR _)),trivial⟩,by decide,lX⟩⟩
  ·obtain rfl:i=b:=by omega
   (repeat' (first|refine wS ?_|refine wE ?_|(refine wC rfl ?_ ?_<;>(intro hb;(try simp only [nm] at hb);try omega))|(refine rg 1 (dJ rfl (vV (aK rfl rfl) ?_)))|refine nZ ?_));all_goals first|omega | exact ⟨.inl rfl,[0],_,rfl,rfl,rfl,⟨.inr (aC rfl rfl (eR _)),trivial⟩,by decide,lX⟩ | exact ⟨.inr rfl,[0],_,rfl,rfl,rfl,⟨.inr (aC rfl rfl (eR _)),trivial⟩,by decide,lX⟩
 ·obtain rfl:a=b:=by omega
  rw [XP hb];refine bS T Tryz.func218 rfl rfl rfl rfl ?_
  (repeat' (first|refine wS ?_|refine wB ?_|(refine iA 0 rfl rfl rfl (by omega) (by omega) ?_)|refine nZ ?_));refine dI (X:=Unit) (fun _=>[(0,.sl 0 0 l.length 2),(1,.i a),(2,.i a),(3,TZ),(8,.i ((a:Int)+1))]) (fun _=>[.arr (kY l) 2]) (fun _=>0) () ⟨[0],rfl,by (repeat (first|exact trivial|refine ⟨rfl,?_⟩)),⟨.inr (aC rfl rfl (eR _)),trivial⟩,by decide,lX⟩ ?_
  intro _;dsimp only
  (repeat' (first|refine wS ?_|refine wE ?_|(refine wC rfl ?_ ?_<;>(intro hb;(try simp only [nm] at hb);try omega))|(refine rg 1 (dJ rfl (vV (aK rfl rfl) ?_)))|refine nZ ?_));all_goals first|omega | exact ⟨.inl rfl,[0],_,rfl,rfl,rfl,⟨.inr (aC rfl rfl (eR _)),trivial⟩,by decide,lX⟩ | exact ⟨.inr rfl,[0],_,rfl,rfl,rfl,⟨.inr (aC rfl rfl (eR _)),trivial⟩,by decide,lX⟩
end Go.Proofs.Q
namespace Go.Ld
open Go.Ab Go.Proofs.Q
def yC0 (n:Nat):Int:=[0,1,2,2,3,3,3,3,4,4,4,4,4].getD n 0
end Go.Ld
namespace Go.Proofs.Q
open Go Go.Ab Go.Ld
attribute [local irreducible] VC AW bW aM AA MG
theorem xB5:AA Tryz.prog 210 .u64:=by unfold AA;kernel_rfl
theorem xF5:AA Tryz.prog 5 .u8:=by unfold AA;kernel_rfl
theorem xB6:MG Tryz.prog 9:=by unfold MG;kernel_rfl
theorem yC1 (n:Nat) (h:n≤12):aM Tryz.prog 170 [.v (.int .u64 n)] [] (.i (yC0 n)) []:=by
 rcases (by omega:n=0∨n=1∨n=2∨n=3∨n=4∨n=5∨n=6∨n=7∨n=8∨n=9∨n=10∨n=11∨n=12) with rfl | rfl | rfl | rfl | rfl | rfl | rfl | rfl | rfl | rfl | rfl | rfl | rfl
 all_goals
  refine bS T Tryz.func170 rfl rfl rfl rfl ?_
  (repeat' (first|refine wS ?_|refine wK ?_|refine wR ?_|refine wU ?_|(refine rg 0 (aV ?_))|(refine rg 1 (mW rfl (vV (iR rfl rfl) ?_)))|(refine rg 4 (mW rfl (vV (iR rfl rfl) ?_)))|(refine rg 7 (mW rfl (vV (iR rfl rfl) ?_)))|(refine rg 10 (dJ rfl (vV (jQ xB5 xF5 rfl rfl) (vV (by exact ZQ xB6 rfl rfl (by decide) rfl) ?_)));refine vV (jQ xF5 C8 rfl rfl) (vV (zO1 rfl rfl) (aV ?_)))|refine nZ ?_));all_goals first|omega | exact rQ
theorem yQ2 (n:Nat) (h:n≤12):aM Tryz.prog 118 [.v (.int .u64 n)] [] (.i (yC0 n)) []:=by
 have hc:=yC1 n h;refine bS T Tryz.func118 rfl rfl rfl rfl ?_
 (repeat' (first|refine wS ?_|refine wK ?_|refine wR ?_|refine wU ?_|(refine rg 0 (aV ?_))|(refine rg 2 (mW rfl (vV (kC (hc)) (aV ?_))))|refine nZ ?_));all_goals first|omega | exact rQ
theorem yW9 (l:List G) (hdl:BT l) (hl:l.length≤12) (hw:∀ g,g∈l→yU4 g) (lim:Int):aM Tryz.prog 197 [.sl 0 0 l.length 2,.i 0,.i l.length,.i lim,TZ] [.arr (kY l) 2] (.tup []) [.arr (kY (eN cG l)) 2]:=by
 have hc:=ZG l 0 l.length (bZ _) (aX _) hdl (by omega) hw
 rw [show BI l 0 l.length=eN cG l by unfold BI;simp] at hc
 refine bS T Tryz.func197 rfl rfl rfl rfl ?_
 (repeat' (first|refine wS ?_|refine wB ?_|(refine rg 0 (aV ?_))|(refine rg 1 (aV ?_))|refine nZ ?_));refine dI (X:=Unit) (fun _=>[(0,.sl 0 0 l.length 2),(1,.i 0),(2,.i l.length),(3,.i lim),(4,TZ)]) (fun _=>[.arr (kY l) 2]) (fun _=>0) () ⟨[0],rfl,by (repeat (first|exact trivial|refine ⟨rfl,?_⟩)),⟨.inr (aC rfl rfl (eR _)),trivial⟩,by decide,lX⟩ ?_
 intro _;dsimp only
 (repeat' (first|refine wS ?_|refine wB ?_|refine wR ?_|(refine wC rfl ?_ ?_<;>(intro hb;(try simp only [nm] at hb);try omega))|(refine rg 2 (dJ rfl (vV (dC rfl rfl (by omega) (by omega)) (aV ?_))))|(refine rg 3 (mW rfl (vV (iQ rfl rfl) ?_)))|(refine rg 4 (dJ rfl (dJ rfl (bT [0] rfl rfl (hc) rfl rfl (by decide) ⟨.inr (aC rfl rfl (eR _)),trivial⟩ (by simp) rfl ?_))))|refine nZ ?_));all_goals first|omega | exact ⟨.inl rfl,[0],_,rfl,rfl,rfl,⟨.inr (aC rfl (bB _ (eR _)) (eR _)),trivial⟩,by decide,lX⟩
theorem zY1 (l:List G) (hdl:BT l) (hl:l.length≤12) (hw:∀ g,g∈l→yU4 g):aM Tryz.prog 151 [.sl 0 0 l.length 2,TZ] [.arr (kY l) 2] (.tup []) [.arr (kY (eN cG l)) 2]:=by
 have h1:=yQ2 l.length hl;have h2:=yW9 l hdl hl hw (yC0 l.length);have hw1:IntKind.u64.wrap (l.length:Int)=(l.length:Int):=MV (by omega) (by omega)
 generalize yC0 l.length=q at *;refine bS T Tryz.func151 rfl rfl rfl rfl ?_
 (repeat' (first|refine wS ?_|(refine rg 0 (mW rfl (qW T rfl (aV ?_))))|(refine rg 1 (dJ rfl (mW rfl (vV (jQ C8 tH rfl hw1) (vV (by exact gD rfl rfl h1 rfl rfl rfl) ?_))));refine mW rfl (bT [0] rfl rfl (h2) rfl rfl (by decide) ⟨.inr (aC rfl rfl (eR _)),trivial⟩ (by simp) rfl ?_))|refine nZ ?_));all_goals first|omega | exact ⟨.inl rfl,[0],_,rfl,rfl,rfl,⟨.inr (aC rfl (bB _ (eR _)) (eR _)),trivial⟩,by decide,lX⟩ | exact ⟨.inr rfl,[0],_,rfl,rfl,rfl,⟨.inr (aC rfl (bB _ (eR _)) (eR _)),trivial⟩,by decide,lX⟩
end Go.Proofs.Q
namespace Go.Ld
open Go.Ab Go.Proofs.Q
def yD (g:G):List G:=mA g.1.length g
theorem SX {g:G}{k:Nat}(h:iS g=some k):yD g=oG g k::yD (kG g k):=by
 obtain ⟨h1,_,h3,_⟩:=kO h;have e:(kG g k).1.length=g.1.length-1:=by show (g.1.eraseIdx k).length=_;rw [gM,if_pos h3]
 unfold yD;rw [e];obtain ⟨m,hm⟩:∃ m,g.1.length=m+1:=⟨g.1.length-1,by omega⟩
 rw [hm,zB9,mA,h]
theorem DX {g:G}(h:iS g=none):yD g=[g]:=by
 unfold yD;cases hl:g.1.length with
 | zero=>rfl
 | succ m=>rw [mA,h]
theorem QO (g:G) (k:Nat):iS (oG g k)=none:=by unfold iS;rw [if_pos (.inl (by show 1<2;omega))]
theorem YG (g:G) (k:Nat):yD (oG g k)=[oG g k]:=DX (QO g k)
structure oZ (n:Nat) (o:List G):Prop where
 ok:∀ g,g∈o→H2 n g
 nd:(o.flatMap (·.1)).Nodup
 ln:(o.flatMap (·.1)).length≤12
 ws:∀ g,g∈o→g.2.length≤2000
theorem qA {o:List G}{g:G}{b:Int}(h:g∈o) (hb:b∈g.1):b∈o.flatMap (·.1):=gO.2 ⟨g,h,hb⟩
theorem CF:∀ {o:List G},(o.flatMap (·.1)).Nodup→∀ {a b:G}{x:Int},a∈o→b∈o→x∈a.1→x∈b.1→a=b
 | [],_,a,b,x,ha,_,_,_=>by cases ha
 | g::o,h,a,b,x,ha,hb,hxa,hxb=>by
  rw [bP] at h;obtain ⟨h1,h2,h3⟩:=dB.1 h;rcases bQ.1 ha with e1 | ha' <;> rcases bQ.1 hb with e2 | hb'
  ·rw [e1,e2]
  ·exact absurd rfl (h3 x (e1▸hxa) x (qA hb' hxb))
  ·exact absurd rfl (h3 x (e2▸hxb) x (qA ha' hxa))
  ·exact CF h2 ha' hb' hxa hxb
theorem oZ.dist {n:Nat}{o:List G}(h:oZ n o):BT o:=by
 intro a b ha hb e;have e':a.1.headD 0=b.1.headD 0:=(sA.eq _ _).1 e;have hm:∀ g:G,g.1≠[]→g.1.headD 0∈g.1:=fun g hg=>by
  cases hq:g.1 with
  | nil=>exact absurd hq hg
  | cons x l=>simp
 exact CF h.nd ha hb (hm a (h.ok a ha).ne) (e'▸hm b (h.ok b hb).ne)
theorem oZ.len {n:Nat}{o:List G}(h:oZ n o):o.length≤(o.flatMap (·.1)).length:=by
 have:∀ o:List G,(∀ g,g∈o→g.1≠[])→o.length≤(o.flatMap (·.1)).length:=by
  intro o
  induction o with
  | nil=>intro _;simp
  | cons g o ih=>
   intro hg;rw [bP,aD,List.length_cons];have:=ih fun g h=>hg g (aH _ h);have:0<g.1.length:=eO.2 (hg g aR);omega
 exact this o fun g hg=>(h.ok g hg).ne
theorem oZ.hd {n:Nat}{o:List G}(h:oZ n o):∀ g,g∈o→yU4 g:=fun g hg=>⟨eO.2 (h.ok g hg).ne,by have:=(h.ok g hg).ln;omega⟩
theorem oZ.perm {n:Nat}{o p:List G}(h:oZ n o) (hp:p.Perm o):oZ n p where
 ok g hg:=h.ok g (hp.mem_iff.1 hg)
 nd:=(hp.flatMap_right _).nodup_iff.2 h.nd
 ln:=by rw [(hp.flatMap_right _).length_eq];exact h.ln
 ws g hg:=h.ws g (hp.mem_iff.1 hg)
theorem H2.sz {n:Nat}{g:G}(h:H2 n g) (hw:g.2.length≤2000):yU3 g:=⟨by have:=h.ln;omega,by omega,fun w hw=>(h.ws w hw).pl,fun w hw=>(h.ws w hw).cl⟩
theorem rA {α:Type}{o:List α}{i:Nat}{x y:α}(h:o[i]? = some x):∃ A B,o=A++x::B∧o.set i y=A++y::B:=by
 obtain ⟨hi,e⟩:=aA.1 h;refine ⟨o.take i,o.drop (i+1),?_,?_⟩
 ·rw [← e,← aP hi,bK]
 ·rw [List.set_eq_take_append_cons_drop,if_pos hi]
def IE (o:List G) (i k:Nat) (g:G):List G:=eN cG (o.set i (kG g k)++[oG g k])
theorem OZ {o:List G}{i k:Nat}{g:G}(h:o[i]? = some g) (hk:k<g.1.length):((o.set i (kG g k)++[oG g k]).flatMap (·.1)).Perm (o.flatMap (·.1)):=by
 obtain ⟨A,B,e1,e2⟩:=rA (y:=kG g k) h;rw [e2,e1];simp only [gE,bP,yJ3,List.append_nil,bM];refine List.Perm.append_left _ ?_;have h1:(g.1.getD k 0::g.1.eraseIdx k).Perm g.1:=kM g.1 k 0 hk;have h2:((kG g k).1++(B.flatMap (·.1)++(oG g k).1)).Perm ((oG g k).1++((kG g k).1++B.flatMap (·.1))):=by
  rw [← bM];exact C5
 refine h2.trans ?_;rw [← bM];exact List.Perm.append_right _ h1
theorem VQ {n:Nat}{o:List G}{i k:Nat}{g:G}(ok:oZ n o) (h:o[i]? = some g) (hc:iS g=some k):oZ n (o.set i (kG g k)++[oG g k]):=by
 have hg:=aQ h;have hk:=(kO hc).2.2.1;have hb:=OZ h hk;have hm:∀ x,x∈o.set i (kG g k)++[oG g k]→x∈o∨x=kG g k∨x=oG g k:=fun x hx=>by
  rcases bH.1 hx with hx | hx
  ·rcases gB hx with hx | hx
   ·exact .inl hx
   ·exact .inr (.inl hx)
  ·exact .inr (.inr (bE.1 hx))
 refine ⟨fun x hx=>?_,hb.nodup_iff.2 ok.nd,by rw [hb.length_eq];exact ok.ln,fun x hx=>?_⟩
 ·rcases hm x hx with hx | rfl | rfl
  ·exact ok.ok x hx
  ·exact (ok.ok g hg).rest hc
  ·exact (ok.ok g hg).one hc
 ·rcases hm x hx with hx | rfl | rfl
  ·exact ok.ws x hx
  ·have:=tK (g.2.map fun w=>(w.1.eraseIdx k,w.2.1,w.2.2.eraseIdx k));rw [aU] at this;exact bL this (ok.ws g hg)
  ·show 1≤2000;omega
theorem YS {o:List G}{i k:Nat}{g:G}(h:o[i]? = some g) (hc:iS g=some k):((o.set i (kG g k)++[oG g k]).flatMap yD).Perm (o.flatMap yD):=by
 obtain ⟨A,B,e1,e2⟩:=rA (y:=kG g k) h;rw [e2,e1];simp only [gE,bP,yJ3,List.append_nil,bM,SX hc,YG];refine List.Perm.append_left _ ?_;rw [← bM];exact C5
def yJ6 (o:List G):Nat:=(o.map fun g=>g.1.length-1).sum
theorem zD2 {o p:List G}(h:p.Perm o):yJ6 p=yJ6 o:=(h.map _).sum_nat
theorem zK5 {o:List G}{i k:Nat}{g:G}(h:o[i]? = some g) (hc:iS g=some k):yJ6 (o.set i (kG g k)++[oG g k])+1=yJ6 o:=by
 obtain ⟨A,B,e1,e2⟩:=rA (y:=kG g k) h;obtain ⟨h1,_,h3,_⟩:=kO hc;have e:(kG g k).1.length=g.1.length-1:=by show (g.1.eraseIdx k).length=_;rw [gM,if_pos h3]
 rw [e2,e1];unfold yJ6;simp only [bU,List.map_cons,List.map_nil,List.sum_append,xE8,List.sum_nil,e];have:(oG g k).1.length=1:=rfl;omega
structure qM (n:Nat) (L o:List G) (i:Nat):Prop where
 ok:oZ n o
 up:RF o
 fl:(o.flatMap yD).Perm (L.flatMap yD)
 hi:i≤o.length
 no:∀ (j:Nat) (g:G),j<i→o[j]? = some g→iS g=none
theorem qM.start {n:Nat}{L:List G}(ok:oZ n L) (up:RF L):qM n L L 0:=⟨ok,up,.refl _,bZ _,fun j g h=>absurd h (eV _)⟩
theorem qM.keep {n:Nat}{L o:List G}{i:Nat}{g:G}(p:qM n L o i) (h:o[i]? = some g) (hc:iS g=none):qM n L o (i+1) where
 ok:=p.ok
 up:=p.up
 fl:=p.fl
 hi:=(aA.1 h).1
 no j x hj hx:=by
  rcases jO j i with h' | h'
  ·exact p.no j x h' hx
  ·obtain rfl:j=i:=by omega
   rw [h] at hx;cases hx;exact hc
theorem qM.next {n:Nat}{L o:List G}{i k:Nat}{g:G}(p:qM n L o i) (h:o[i]? = some g) (hc:iS g=some k):qM n L (IE o i k g) 0 where
 ok:=(VQ p.ok h hc).perm (dW _ _)
 up:=uW _
 fl:=((dW cG _).flatMap_right _).trans ((YS h hc).trans p.fl)
 hi:=bZ _
 no j g h:=absurd h (eV _)
theorem qM.fin {n:Nat}{L o:List G}{i:Nat}(p:qM n L o i) (hi:o.length≤i):sK L=o:=by
 have e:o.flatMap yD=o:=by
  have:∀ g,g∈o→yD g=[g]:=fun g hg=>by
   obtain ⟨j,hj,e⟩:=pB.1 hg;exact DX (p.no j g (by omega) (by rw [aB hj,e]))
  clear p hi
  induction o with
  | nil=>rfl
  | cons g o ih=>rw [bP,this g aR,ih fun g h=>this g (aH _ h)];rfl
 have hp:=p.fl;rw [e] at hp;show eN cG (L.flatMap yD)=o;exact NO (p.ok.dist.perm hp.symm) hp p.up
theorem zF1 {l:List G}{k:Nat}(h:k<l.length):kL (l.take (k+1))=kL (l.take k)+gW l[k]:=by
 unfold kL;rw [aL h,bU,List.sum_append];simp
theorem KA:∀ {l:List G},(∀ g,g∈l→0≤gW g∧gW g≤4000000)→0≤kL l∧kL l≤4000000*l.length
 | [],_=>by simp [kL]
 | g::l,h=>by
  have h1:=h g aR;have h2:=KA (l:=l) fun g hg=>h g (aH _ hg);have e:kL (g::l)=gW g+kL l:=by simp [kL]
  rw [e,List.length_cons];omega
abbrev jY (c:Cx) (gs:List G):List AV:=[.i c.m,.i c.st,.i c.er,.i c.sl,.rowE (jA c.ks) 2,.rowE (kE c.ls) 3,.rowE (fL c.bs) 3,.rowE (kY gs) 2]
theorem ZB (c:Cx) (r:Int) (l:List W):gS (fun w=>decide (w.2.1+r > c.m)) l=l.filter fun w=>decide (w.2.1+r≤c.m):=by
 unfold gS;congr 1;funext w;show (!decide (w.2.1+r > c.m))=decide (w.2.1+r≤c.m);by_cases h:w.2.1+r≤c.m
 ·rw [decide_eq_true h,decide_eq_false (by omega)];rfl
 ·rw [decide_eq_false h,decide_eq_true (by omega)];rfl
theorem YJ {c:Cx}{all:List G}{k:Nat}(h:k<all.length):(paid c all).take (k+1)=(paid c all).take k++[(all[k].1,gS (fun w=>decide (w.2.1+(kL all-gW all[k]) > c.m)) all[k].2)]:=by
 rw [ZB];unfold paid;rw [← lB,← lB,aL h,bU];rfl
theorem zJ4 (c:Cx) (all:List G):(paid c all).length=all.length:=by unfold paid;rw [aU]
theorem X7 (c:Cx) (all:List G):(paid c all).flatMap (·.1)=all.flatMap (·.1):=by
 unfold paid;rw [FY]
theorem H2.sub {n:Nat}{g:G}(h:H2 n g){ws:List W}(hs:∀ w,w∈ws→w∈g.2):H2 n (g.1,ws):=⟨h.ne,h.up,h.rg,h.ln,fun w hw=>h.ws w (hs w hw),fun w v hw hv=>h.same w v (hs w hw) (hs v hv)⟩
theorem oZ.paid {n:Nat}{all:List G}(h:oZ n all) (c:Cx):oZ n (paid c all) where
 ok g hg:=by
  obtain ⟨x,hx,rfl⟩:=bD.1 hg;exact (h.ok x hx).sub fun w hw=>(dX.1 hw).1
 nd:=by rw [X7];exact h.nd
 ln:=by rw [X7];exact h.ln
 ws g hg:=by
  obtain ⟨x,hx,rfl⟩:=bD.1 hg;exact bL (eZ _ _) (h.ws x hx)
theorem UV {c:Cx}{all:List G}(h:RF all):RF (paid c all):=by
 unfold paid;refine zU8.2 (h.imp fun h=>h)
theorem IL {n:Nat}{g:G}(h:H2 n g) (hne:g.2≠[]):0≤gW g∧gW g≤4000000:=by
 obtain ⟨w,hw,e⟩:=vA hne;have:=h.ws w hw;rw [← e];exact ⟨this.m0,this.m1⟩
end Go.Ld
namespace Go.Proofs.Q
open Go Go.Ab Go.Ld
attribute [local irreducible] VC AW bW aM
theorem zX4 (c:Cx) (gs:List G) (w:W) (r:Int) (h1:0≤w.2.1∧w.2.1≤4000000) (h2:-100000000≤r∧r≤100000000):aM Tryz.prog 148 [RX w,.pr [.i r] 0,.pr [.pr (jY c gs) 0] 0] [] (.b (decide (w.2.1+r > c.m))) []:=by
 refine bS T Tryz.func148 rfl rfl rfl rfl ?_
 (repeat' (first|refine wS ?_|refine wR ?_|(refine rg 0 (cO (dR rfl rfl) rfl (aV ?_)))|(refine cH (id:=1) 15 [[],[0],[],[0,1,2],[],[4],[4,5],[4,5,6],rM 4 4,rN 9] (rM 5 10) [[],[],[5,6],[],rM 5 4,rM 5 4,rM 5 4,rM 5 4,rM 5 4,[]] cP rfl (by decide +kernel) (dP T rfl (dO T rfl (dO T rfl (dV rfl (cK rfl rfl (by omega) (by omega)) (dO T rfl (dV rfl (by exact cF rfl rfl) ?_))))));refine dP T rfl (dP T rfl (dO T rfl (dV rfl (fK rfl rfl) (dE ?_))));refine aV ?_)|refine nZ ?_));all_goals first|omega | exact rQ
end Go.Proofs.Q
namespace Go.Ab
open Go
theorem UM {P : Program} {f : FuncId} {n : Nat} (hfn : ∃ fn, P.funcs[f]? = some fn ∧ (fn.name == "runtime.NumGoroutine") = false ∧ fn.body.isNone = false)
    (hs:∀ w:World,Calls P f #[.slice none 0 0,.int .i64 n] w fun e w'=>∃ (g:Nat) (cs:Array Value) (t:TypeId),e = .returned (.slice (some ⟨w.heap.size,0,none⟩) 0 g)∧g≤maxLen∧g≤cs.size∧w'=w.drew.alloc (.cells cs t)) :
    aM P f [.nils,.i n] [] (.sl 0 0 0 1) [.arr [] 1]:=by
  refine ⟨hfn,fun ρ S w vs s ha=>?_⟩
  simp only [RL,R] at ha;obtain ⟨y,_,rfl,rfl,y2,_,rfl,rfl,rfl⟩:=ha;refine (hs w).mono fun e w' ⟨g,cs,t,he,hg,hgc,hw⟩=>?_
  subst hw;have hnew:(w.drew.alloc (.cells cs t)).heap[w.heap.size]? = some (.cells cs t (0,0)):=(MapKept.heap_alloc w.drew _).1;obtain ⟨ρ',g1,g2,_⟩:=s.made (x:=.sl 0 0 0 1) (b:=.arr [] 1) (y:=.slice (some ⟨w.heap.size,0,none⟩) 0 g) (q:=some (w.heap.size,0)) ((nD.drew1 w).trans (oB w.drew (.cells cs t) (fun _=>False)) (fun _ h=>h.elim)) (fun p hp=>by cases hp; exact ⟨aX _,by rw [World.size_alloc]; exact Nat.lt_succ_self _⟩)
    (fun ρ' e1 e2 l'=>⟨by simp only [R];exact ⟨_,_,rfl,hg,.inr ⟨_,_,e1,rfl,bZ _,⟨cs,t,(0,0),hnew,by omega⟩⟩⟩,⟨(fun e he=>nomatch he),RM,.inl ⟨rfl,fun b o hbo=>by cases hbo;exact ⟨cs,t,hnew⟩⟩⟩⟩)
  exact ⟨_,ρ',S,he,g1,g2⟩
end Go.Ab
namespace Go.Proofs.Q
open Go Go.Ab Go.Ld Go.Shelf Go.Proofs
attribute [local irreducible] VC AW bW aM
shelf_lay_g Lays8.n4 Nm8 4 at Tryz 179 as laysGrow
theorem yR2 (n:Nat) (h0:0<n) (h1:n≤1000000):aM Tryz.prog 179 [.nils,.i n] [] (.sl 0 0 0 1) [.arr [] 1]:=by
 obtain ⟨inf,z,t1,t2,t3,t4,t5,t6,t7⟩:=T.tiOk 3 _ rfl;have hz:z.cells.size=1:=by have:=congrArg List.length t5;simpa using this
 refine UM ⟨_,Tryz.func179,by kernel_rfl,by kernel_rfl⟩ (fun w=>?_)
 refine (Any8.slices_Grow_grow laysGrow inf z t1 t4 (by rw [t2];decide) none 0 0 n [] w (aX _) (by omega) (by rw [t3];simp;omega) (by omega) (by simp) (fun _=>rfl) (fun a h=>by cases h)).mono ?_
 rintro e w' ⟨rfl,rfl⟩;have hge:=grownCap_ge w (0+n) 0 3;refine ⟨_,_,_,rfl,grownCap_le_maxLen w _ _ _ (by unfold maxLen;omega),?_,rfl⟩
 simp only [zV5,Builtin.zeroCells,Array.size_map,Array.size_range,hz,mN,List.length_nil];omega
theorem zQ3 (p q:List Int) (hp:0<p.length∧p.length≤1000) (hq:0<q.length∧q.length≤1000):aM Tryz.prog 127 [.rowE [[.rowE (ints p) 1],[.rowE (ints q) 1]] 1] [] (.rowE (ints (p++q)) 1) []:=by
 have hgr:=yR2 (p.length+q.length) (by omega) (by omega)
 rw [show ((p.length+q.length:Nat):Int)=(p.length:Int)+q.length by omega] at hgr
 have hlp:(ints p).length=p.length:=dD _;have hlq:(ints q).length=q.length:=dD _;have hpq:ints (p++q)=ints p++ints q:=bU;have hle:∀ e,e∈[[AV.rowE (ints p) 1],[AV.rowE (ints q) 1]]→e.length=1:=by intro e he;simp at he;rcases he with rfl | rfl <;> rfl
 have g0:[[AV.rowE (ints p) 1],[AV.rowE (ints q) 1]][((0:Nat):Int).toNat]? = some [AV.rowE (ints p) 1]:=rfl;have g1:[[AV.rowE (ints p) 1],[AV.rowE (ints q) 1]][((1:Nat):Int).toNat]? = some [AV.rowE (ints q) 1]:=rfl;refine kZ (by rw [dD]:(p++q).length=(ints (p++q)).length) (eX (bF _)) ?_
 rw [hpq,aD];have o1:=R0 p;have o2:=R0 q;have n1:=dY p;have n2:=dY q;have i1:=bF p;have i2:=bF q;generalize ints p=P' at *;generalize ints q=Q' at *;obtain ⟨sz,s0,s1,s2⟩:∃ sz:Nat→Int,sz 0=0∧sz 1=P'.length∧sz 2=P'.length+Q'.length:=⟨fun k=>if k=0 then 0 else if k=1 then (P'.length:Int) else P'.length+Q'.length,by simp,by simp,by simp⟩
 obtain ⟨cc,c0,c1,c2⟩:∃ cc:Nat→List (List AV),cc 0=[]∧cc 1=P'∧cc 2=P'++Q':=⟨fun k=>if k=0 then [] else if k=1 then P' else P'++Q',by simp,by simp,by simp⟩
 refine bS T Tryz.func127 rfl rfl rfl rfl ?_
 (repeat' (first|refine wS ?_|refine wB ?_|(refine rg 0 (aV ?_))|(refine rg 1 (aV ?_))|(refine rg 2 (mW rfl (qW T rfl (mV ?_))))|refine nZ ?_));refine dI (X:={k:Nat // k≤2}) (fun k=>[(0,.rowE [[.rowE P' 1],[.rowE Q' 1]] 1),(3,.i (sz k.1)),(9,.rowE [[.rowE P' 1],[.rowE Q' 1]] 1),(10,.i 2),(11,.i k.1)]) (fun _=>[]) (fun k=>2-k.1) ⟨0,by omega⟩ ⟨[],rfl,⟨rfl,by rw [s0];rfl,rfl,rfl,rfl,trivial⟩,trivial,eM,jP _⟩ ?_
 rintro ⟨k,hk⟩;dsimp only;rcases (by omega:k=0∨k=1∨k=2) with rfl | rfl | rfl
 ·(repeat' (first|refine wS ?_|refine wB ?_|refine wK ?_|refine sE rfl ?_|(refine wC rfl (fun hb=>?_) (fun hb=>?_) <;> (((try simp only [nm] at hb);try omega)))|(refine rg 3 (vV (aK rfl rfl) ?_))|(refine rg 4 (vV (ix T rfl (by omega) hle g0) (lW T rfl (aV ?_))))|(refine rg 5 (dJ rfl (qW T rfl (vV (cK rfl rfl (by omega) (by omega)) (aV ?_)))))|(refine rg 6 (mW rfl (vV (aK rfl rfl) ?_)))|(refine rg 8 (vV (cK rfl rfl (by omega) (by omega)) (mV ?_)))|(refine nZ ?_)));all_goals first|omega | exact ⟨⟨1,by omega⟩,by dsimp only;omega,[],rfl,⟨rfl,by dsimp only;rw [show sz 1=sz 0+P'.length by omega];rfl,rfl,rfl,rfl,trivial⟩,trivial,eM,jP _⟩
 ·(repeat' (first|refine wS ?_|refine wB ?_|refine wK ?_|refine sE rfl ?_|(refine wC rfl (fun hb=>?_) (fun hb=>?_) <;> (((try simp only [nm] at hb);try omega)))|(refine rg 3 (vV (aK rfl rfl) ?_))|(refine rg 4 (vV (ix T rfl (by omega) hle g1) (lW T rfl (aV ?_))))|(refine rg 5 (dJ rfl (qW T rfl (vV (cK rfl rfl (by omega) (by omega)) (aV ?_)))))|(refine rg 6 (mW rfl (vV (aK rfl rfl) ?_)))|(refine rg 8 (vV (cK rfl rfl (by omega) (by omega)) (mV ?_)))|(refine nZ ?_)));all_goals first|omega | exact ⟨⟨2,by omega⟩,by dsimp only;omega,[],rfl,⟨rfl,by dsimp only;rw [show sz 2=sz 1+Q'.length by omega];rfl,rfl,rfl,rfl,trivial⟩,trivial,eM,jP _⟩
 ·rw [← hlp,← hlq,← s2] at hgr
  (repeat' (first|refine wS ?_|refine wB ?_|refine wE ?_|refine wU ?_|(refine rg 3 (vV (aK rfl rfl) ?_))|(refine rg 9 (mW rfl (cO (by exact gH rfl rfl hgr (.inr ⟨rfl,rfl,by simp⟩)) rfl ?_));refine aV ?_)|(refine rg 10 (mW rfl (qW T rfl (mV ?_))))|refine nZ ?_));all_goals try omega
  refine dI (X:={k:Nat // k≤2}) (fun k=>[(6,.sl 0 0 (cc k.1).length 1),(25,.rowE [[.rowE P' 1],[.rowE Q' 1]] 1),(26,.i 2),(27,.i k.1)]) (fun k=>[.arr (cc k.1) 1]) (fun k=>2-k.1) ⟨0,by omega⟩ ⟨[0],rfl,⟨by dsimp only;rw [c0];rfl,rfl,rfl,rfl,trivial⟩,⟨.inr (aC rfl (by dsimp only;rw [c0];rfl) (by rw [c0];intro e he;cases he)),trivial⟩,by decide,jP _⟩ ?_
  clear hk;rintro ⟨k,hk⟩;dsimp only;rcases (by omega:k=0∨k=1∨k=2) with rfl | rfl | rfl
  ·rw [c0]
   (repeat' (first|refine wS ?_|refine wB ?_|refine wK ?_|refine wT ?_|(refine rg 11 (vV (aK rfl rfl) ?_))|(refine rg 12 (vV (ix T rfl (by omega) hle g0) (lW T rfl (aV ?_))))|(refine rg 13 (dJ rfl (gJ T rfl rfl rfl rfl rfl rfl (by simp) (.row n1) o1 (by simp;omega) (by simp;omega) rfl ?_));refine aV ?_)|(refine rg 14 (vV (cK rfl rfl (by omega) (by omega)) (mV ?_)))|refine nZ ?_));all_goals first|omega | skip
   exact ⟨⟨1,by omega⟩,by dsimp only;omega,⟨[1],rfl,⟨by dsimp only;rw [c1];show some (AV.sl 1 0 (0+P'.length) 1)=some (AV.sl 1 0 P'.length 1);rw [Nat.zero_add],rfl,rfl,rfl,trivial⟩,⟨.inr (aC rfl (by dsimp only;rw [c1];rfl) (by rw [c1];exact i1)),trivial⟩,by decide,jP _⟩⟩
  ·rw [c1]
   (repeat' (first|refine wS ?_|refine wB ?_|refine wK ?_|refine wT ?_|(refine rg 11 (vV (aK rfl rfl) ?_))|(refine rg 12 (vV (ix T rfl (by omega) hle g1) (lW T rfl (aV ?_))))|(refine rg 13 (dJ rfl (gJ T rfl rfl rfl rfl rfl rfl (by omega) (.row n2) o2 (by (simp;omega)) (by omega) rfl ?_));refine aV ?_)|(refine rg 14 (vV (cK rfl rfl (by omega) (by omega)) (mV ?_)))|refine nZ ?_));all_goals first|omega | skip
   exact ⟨⟨2,by omega⟩,by dsimp only;omega,⟨[1],rfl,⟨by dsimp only;rw [c2,aD];rfl,rfl,rfl,rfl,trivial⟩,⟨.inr (aC rfl (by dsimp only;rw [c2,jJ,cM]) (by rw [c2];intro e he;rcases bH.1 he with he | he;exact i1 e he;exact i2 e he)),trivial⟩,by decide,jP _⟩⟩
  ·rw [c2,aD]
   (repeat' (first|refine wS ?_|refine wR ?_|refine wE ?_|refine wU ?_|(refine rg 11 (vV (aK rfl rfl) ?_))|(refine rg 15 (mW rfl (aV ?_)))|refine nZ ?_));all_goals first|omega | exact ⟨.inl rfl,[0],_,rfl,by rw [hlp,hlq];rfl,rfl,⟨.inr (aC rfl rfl (by intro e he;rcases bH.1 he with he | he;exact i1 e he;exact i2 e he)),trivial⟩,by decide,jP _⟩
theorem T4 (l:List G) (hl:l.length≤1000000):aM Tryz.prog 90 [.rowE (kY l) 2] [] (.sl 0 0 l.length 2) [.arr (kY l) 2]:=by
 have hll:(kY l).length=l.length:=jX l;refine bS T Tryz.func90 rfl rfl rfl rfl ?_
 repeat' (first|refine wS ?_|refine wK ?_|refine wT ?_|refine wU ?_|(refine rg 0 (aV ?_))|(refine rg 1 (mV ?_);refine vE T rfl rfl rfl rfl fun b hb=>?_;cases b)|refine nZ ?_)
 ·(repeat' (first|refine wR ?_|(refine rg 3 (cO (by exact bG T rfl rfl (by decide) (by decide) rfl rfl rfl) rfl ?_);refine mW rfl (gJ T rfl rfl rfl rfl rfl rfl (by decide) (.row (sW l)) (zN7 l) (by simp;omega) (by simp;omega) rfl ?_);refine aV ?_)|(refine nZ ?_)));exact ⟨.inl rfl,[1],_,rfl,(by show AV.sl 1 0 (0+(kY l).length) 2=AV.sl 1 0 l.length 2;simp),rfl,⟨.inr (aC rfl rfl (eR _)),trivial⟩,by decide,AM⟩
 ·have hl0:l=[]:=fH.1 (Classical.byContradiction fun h=>by have:=hb (by omega);cases this)
  subst hl0
  (repeat' (first|refine wR ?_|(refine rg 2 (vV (eD rfl) (oF 2 2 rfl (by decide) ?_)))|refine nZ ?_));exact ⟨.inl rfl,[0],_,rfl,rfl,rfl,⟨.inr (aC rfl rfl (eR _)),trivial⟩,by decide,AM⟩
theorem yG1 (g:G) (b:Int) (h:g.1.length≤1000000):aM Tryz.prog 131 [zC9 g,.pr [.i b] 0] [] (.b (decide (b∈g.1))) []:=by
 have hc:=N7 g.1 b (by omega)
 refine bS T Tryz.func131 rfl rfl rfl rfl ?_
 (repeat' (first|refine wS ?_|refine wR ?_|(refine rg 0 (cO (dR rfl rfl) rfl (aV ?_)))|(refine rg 1 (iK T rfl (lW T rfl (vV (kC (hc)) (aV ?_)))))|refine nZ ?_));all_goals first|omega | exact rQ
theorem F4 (l:List G) (b:Int) (hl:l.length≤1000000) (hg:∀ g,g∈l→g.1.length≤1000000):aM Tryz.prog 92 [.rowE (kY l) 2,.i b] [] (.i (qB l b)) []:=by
 have hc:=yK7 (caps:=[.pr [.i b] 0]) (p:=fun g=>decide (b∈g.1)) hl rfl (fun x hx=>yG1 x b (hg x hx));have e:vQ (fun g:G=>decide (b∈g.1)) l 0=qB l b:=by
  rw [IQ];unfold qB;cases l.findIdx? fun g=>decide (b∈g.1) with
  | none=>rfl
  | some i=>simp
 rw [e] at hc;generalize qB l b=v at *;refine bS T Tryz.func92 rfl rfl rfl rfl ?_
 (repeat' (first|refine wS ?_|refine wR ?_|(refine rg 0 (cO (dR rfl rfl) rfl (aV ?_)))|(refine rg 1 (mW rfl (vV (by exact kT rfl rfl) ?_));refine vV (by exact eH rfl rfl hc (.cons (.row _ _ _) (.cons (.clo .nil (.cons (.ptr rfl (.cons (.v _) .nil)) .nil)) .nil)) rfl rfl) ?_;refine aV ?_)|refine nZ ?_));all_goals first|omega | exact rQ
end Go.Proofs.Q
namespace Go.Ld
open Go.Ab Go.Proofs.Q
theorem PX {α β:Type}{f:α→List β}{n:Nat}:∀ (l:List α) (hf:∀ x,x∈l→(f x).length=n) (i j:Nat) (hi:i<l.length) (hj:j<n),(l.flatMap f)[n*i+j]? = (f l[i])[j]?
 | [],hf,i,j,hi,hj=>by simp at hi
 | x::l,hf,0,j,hi,hj=>by
  rw [bP,Nat.mul_zero,Nat.zero_add,aG (by rw [hf x aR];exact hj)];rfl
 | x::l,hf,i+1,j,hi,hj=>by
  have h1:=hf x aR;rw [bP,aF (by rw [h1,zU6];omega),h1,show n*(i+1)+j-n=n*i+j by rw [zU6];omega]
  exact PX l (fun x hx=>hf x (aH _ hx)) i j (by simpa using hi) hj
theorem PW {α β:Type}{f:α→List β}{n:Nat}:∀ (l:List α) (hf:∀ x,x∈l→(f x).length=n),(l.flatMap f).length=n*l.length
 | [],hf=>by simp
 | x::l,hf=>by
  rw [bP,aD,hf x aR,PW l (fun x hx=>hf x (aH _ hx)),List.length_cons,zU6];omega
theorem HT (a b:G) (l:List Int):(qQ a b l).length=b.2.length*a.2.length:=PW _ fun x _=>aU _
theorem YI {a b:G}{l:List Int}{i j:Nat}(hi:i<a.2.length) (hj:j<b.2.length):(qQ a b l)[b.2.length*i+j]? = some (L6 a b a.2[i] b.2[j] l):=by
 unfold qQ;rw [PX _ (fun x _=>aU _) i j hi hj];simp [hj]
theorem I8:∀ (l:List Int) (v:Int) (k:Nat),v∈l→zV l v k=((k+l.idxOf v:Nat):Int)
 | [],v,k,h=>by cases h
 | x::l,v,k,h=>by
  unfold zV;by_cases e:v=x
  ·rw [if_pos e,e,List.idxOf_cons_self];rfl
  ·have e':(x::l).idxOf v=l.idxOf v+1:=by rw [List.idxOf_cons,beq_eq_false_iff_ne.2 (fun h=>e h.symm)];rfl
   rw [if_neg e,show ((k:Int)+1)=((k+1:Nat):Int) by omega,I8 l v (k+1) (by rcases bQ.1 h with h | h;exact absurd h e;exact h),e']
   omega
theorem WE:∀ (l:List Int) (v k:Int),v∉l→zV l v k = -1
 | [],v,k,h=>rfl
 | x::l,v,k,h=>by
  unfold zV;rw [if_neg (fun e:v=x=>h (by rw [e];exact aR)),WE l v (k+1) (fun q=>h (aH _ q))]
def DR (a b:G) (l:List Int) (k:Nat):List AV:=match (qQ a b l)[k]? with
 | some w=>[.agg (wA w)]
 | none=>[]
theorem zI6 {a b:G}{l:List Int}{i j:Nat}(hi:i<a.2.length) (hj:j<b.2.length):DR a b l (b.2.length*i+j)=[.agg (wA (L6 a b a.2[i] b.2[j] l))]:=by
 unfold DR;rw [YI hi hj]
theorem NH {α β:Type}{f:α→β}{l:List α}{m:Nat}(h:m<l.length):(l.map f).take (m+1)=(l.map f).take m++[f l[m]]:=by
 rw [aL (by simpa using h)];simp
end Go.Ld
namespace Go.Proofs.Q
open Go Go.Ab Go.Ld
attribute [local irreducible] VC AW bW aM AY VY GA iU
abbrev yO5 (a b:G) (l:List Int):AV:=.clo (.func 180) [] [.pr (gA a) 0,.pr (gA b) 0,.pr [.rowE (ints l) 1] 0]
theorem yA5 (a b:G) (l:List Int):aM Tryz.prog 128 [zC9 a,zC9 b,.rowE (ints l) 1] [] (yO5 a b l) []:=by
 refine O3 (res:=.clo (.func 180) [] [.ptr 0 0,.ptr 1 0,.ptr 2 0]) (hout:=[.cells (gA a),.cells (gA b),.cells [.rowE (ints l) 1]]) ?_ (.clo .nil (.cons (.ptr rfl (.cons (.row _ _ _) (.cons (.row _ _ _) .nil))) (.cons (.ptr rfl (.cons (.row _ _ _) (.cons (.row _ _ _) .nil))) (.cons (.ptr rfl (.cons (.row _ _ _) .nil)) .nil))));refine bS T Tryz.func128 rfl rfl rfl rfl ?_
 (repeat' (first|refine wS ?_|refine wR ?_|(refine rg 0 (cO (dR rfl rfl) rfl (cO (dR rfl rfl) rfl (cO (dR rfl rfl) rfl (aV ?_)))))|(refine rg 1 (vV (by exact kT rfl rfl) ?_);refine aV ?_)|refine nZ ?_));all_goals exact ⟨.inl rfl,[0,1,2],_,rfl,rfl,rfl,⟨.inr rfl,.inr rfl,.inr rfl,trivial⟩,by decide,jP _⟩
theorem zJ2 (a b:G) (l:List Int) (sa:yU3 a) (sb:yU3 b) (hl:l.length≤1000) (hm:∀ k,k∈l→k∈a.1∨k∈b.1) (h1:∀ w,w∈a.2→0≤w.2.1∧w.2.1≤4000000) (h2:∀ w,w∈b.2→0≤w.2.1∧w.2.1≤4000000) :
  GA Tryz.prog 180 [] [.pr (gA a) 0,.pr (gA b) 0,.pr [.rowE (ints l) 1] 0] [] (DR a b l) (qQ a b l).length:=by
 have hnn:=HT a b l;have hla:(gN a.2).length=a.2.length:=fQ _;have hlb:(gN b.2).length=b.2.length:=fQ _;have hll:(ints l).length=l.length:=dD _;have hwa:=sa.w;have hwb:=sb.w;refine yL9 T Tryz.func180 rfl rfl rfl rfl ?_;intro J A y hJ hy
 (repeat' (first|(first|(refine A8 ?_)|(refine G3 ?_))|(((refine sO hJ (eU (id:=0) ?_)));(all_goals (refine GD T ?_;(refine qV T ?_);refine mV ?_)))|refine nZ ?_));refine LW (X:={i:Nat // i≤a.2.length}) (fun i=>[(0,.clo (.yield y) [] []),(1,.pr (gA a) 0),(2,.pr (gA b) 0),(3,.pr [.rowE (ints l) 1] 0),(15,.rowE (gN a.2) 3),(16,.i (gN a.2).length),(17,.i i.1)]) (fun _=>[]) (fun i=>(b.2.length*i.1,false)) (fun i=>a.2.length-i.1) ⟨0,bZ _⟩ rfl (gQ []) ?_
 rintro ⟨i,hi⟩;dsimp only;by_cases hlt:i<a.2.length
 ·have ga:=H3 hlt;have hx:=sa.p _ (aO hlt);have hx2:=sa.c _ (aO hlt);have hx3:=h1 _ (aO hlt);have hpi:=fun (j:Nat) (hj:j<b.2.length)=>zI6 (a:=a) (b:=b) (l:=l) hlt hj;generalize a.2[i]=x at *
  (repeat' (first|(first|(refine A8 ?_)|(refine G3 ?_)|(refine CN ?_))|((refine A9 rfl (fun hb=>?_) (fun hb=>?_)<;>(((try simp only [nm] at hb);try ((exfalso;omega);done)))))|(((refine sO hJ (eU (id:=1) ?_)));(all_goals (refine vV (aK rfl rfl) ?_)))|(((refine sO hJ (eU (id:=2) ?_)));(all_goals (refine vV (ix T rfl (by omega) (qN _) ga) ?_;refine lV T ?_;refine cO (cN T rfl) rfl ?_;refine bC T rfl rfl rfl rfl rfl rfl (by decide) rfl ?_)))|(((refine sO hJ (eU (id:=3) ?_)));(all_goals (refine GD T ?_;(refine qV T ?_);refine mV ?_)))|refine nZ ?_));all_goals try omega
  refine LW (X:={j:Nat // j≤b.2.length}) (fun j=>[(0,.clo (.yield y) [] []),(1,.pr (gA a) 0),(2,.pr (gA b) 0),(3,.pr [.rowE (ints l) 1] 0),(6,.ptr 0 0),(15,.rowE (gN a.2) 3),(16,.i (gN a.2).length),(17,.i i),(22,.rowE (gN b.2) 3),(23,.i (gN b.2).length),(24,.i j.1)]) (fun _=>[.cells (wA x)]) (fun j=>(b.2.length*i+j.1,false)) (fun j=>b.2.length-j.1) ⟨0,bZ _⟩ rfl ⟨[0],rfl,(by repeat first|exact trivial|refine ⟨rfl,?_⟩),⟨.inr rfl,trivial⟩,by decide,jP _⟩ ?_
  rintro ⟨j,hj⟩;dsimp only;by_cases hjl:j<b.2.length
  ·have gb:=H3 hjl;have hy1:=sb.p _ (aO hjl);have hy2:=sb.c _ (aO hjl);have hy3:=h2 _ (aO hjl);have hit:=hpi j hjl;have hk:b.2.length*i+j<(qQ a b l).length:=by
    rw [hnn];have:=Nat.mul_le_mul_left b.2.length (show i+1≤a.2.length by omega)
    rw [zU6] at this;omega
   generalize b.2[j]=z at *
   (repeat' (first|(first|(refine A8 ?_)|(refine G3 ?_)|(refine CN ?_))|((refine A9 rfl (fun hb=>?_) (fun hb=>?_)<;>(((try simp only [nm] at hb);try ((exfalso;omega);done)))))|(((refine sO hJ (eU (id:=4) ?_)));(all_goals (refine vV (aK rfl rfl) ?_)))|(((refine sO hJ (eU (id:=5) ?_)));(all_goals (refine vV (ix T rfl (by omega) (qN _) gb) ?_;refine lV T ?_;refine cO (cN T rfl) rfl ?_;refine bC T rfl rfl rfl rfl rfl rfl (by decide) rfl ?_)))|(((refine sO hJ (eU (id:=6) ?_)));(all_goals (refine GD T ?_;refine GD T ?_;refine vV (cK rfl rfl (by omega) (by omega)) ?_;refine vV (by exact eT T rfl rfl rfl rfl) ?_;refine cO (cN T rfl) rfl ?_;refine bC T rfl rfl rfl rfl rfl rfl (by decide) rfl ?_)))|(((refine sO hJ (eU (id:=7) ?_)));(all_goals (refine lV T ?_;(refine qV T ?_);refine mV ?_)))|refine nZ ?_));all_goals try omega
   refine sO hJ ?_;refine mQ 2 0 1 rfl rfl (by decide) ?_
   refine mQ 2 2 2 rfl rfl (by decide) ?_
   let fp:Int→Int:=fun k=>if k∈a.1 then gP x (a.1.idxOf k) else gP z (b.1.idxOf k)
   let fc:Int→SP:=fun k=>if k∈a.1 then gC x (a.1.idxOf k) else gC z (b.1.idxOf k)
   have hw:L6 a b x z l=(l.map fp,x.2.1+z.2.1,l.map fc):=rfl;rw [hw] at hit;have hplen:(l.map fp).length=l.length:=aU _;have hclen:(l.map fc).length=l.length:=aU _;have hpt:∀ m (h:m<l.length),(l.map fp).take (m+1)=(l.map fp).take m++[fp l[m]]:=fun m h=>NH h
   have hct:∀ m (h:m<l.length),(l.map fc).take (m+1)=(l.map fc).take m++[fc l[m]]:=fun m h=>NH h
   have hfa:∀ k,k∈a.1→fp k=x.1.getD (a.1.idxOf k) 0∧fc k=x.2.2.getD (a.1.idxOf k) (0,0):=fun k h=>⟨if_pos h,if_pos h⟩
   have hfb:∀ k,k∉a.1→fp k=z.1.getD (b.1.idxOf k) 0∧fc k=z.2.2.getD (b.1.idxOf k) (0,0):=fun k h=>⟨if_neg h,if_neg h⟩
   clear_value fp fc
   clear hw;generalize l.map fp=PP at *;generalize l.map fc=CC at *;refine dI (X:={m:Nat // m≤l.length}) (fun m=>[(0,.clo (.yield y) [] []),(1,.pr (gA a) 0),(2,.pr (gA b) 0),(3,.pr [.rowE (ints l) 1] 0),(6,.ptr 0 0),(8,.ptr 1 0),(9,.ptr 2 0),(15,.rowE (gN a.2) 3),(16,.i (gN a.2).length),(17,.i i),(22,.rowE (gN b.2) 3),(23,.i (gN b.2).length),(24,.i j),(34,.rowE (ints l) 1),(35,.i (ints l).length),(36,.i m.1)])
    (fun m=>[.cells (wA x),.cells (wA z),.cells [.sl 3 0 m.1 1,.i (x.2.1+z.2.1),.sl 4 0 m.1 2],.arr (ints (PP.take m.1)) 1,.arr (fS (CC.take m.1)) 2]) (fun m=>l.length-m.1) ⟨0,bZ _⟩ ⟨[0,1,2,3,4],rfl,(by repeat first|exact trivial|refine ⟨rfl,?_⟩),⟨.inr rfl,.inr rfl,.inr rfl,.inr rfl,.inr rfl,trivial⟩,by decide,jP _⟩ ?_
   rintro ⟨m,hm'⟩;dsimp only;have hTp:(ints (PP.take m)).length=m:=by rw [dD,aY];omega
   have hTc:(fS (CC.take m)).length=m:=by rw [iO,aY];omega
   by_cases hml:m<l.length
   ·have hgl:=VW hml;have hkm:=hm l[m] (aO hml);have hp1:=hpt m hml;have hc1:=hct m hml;generalize l[m]=k at *;by_cases hka:k∈a.1
    ·obtain ⟨e1,e2⟩:=hfa k hka;have hix:=zT a.1 k (by have:=sa.b;omega)
     have hxi:zV a.1 k 0=((a.1.idxOf k:Nat):Int):=by have:=I8 a.1 k 0 hka;simpa using this
     rw [hxi] at hix;have hio:=iE hka;generalize a.1.idxOf k=ia at *;have qp:=uO (l:=x.1) (j:=(ia:Int)) (i:=ia) 0 (by omega) rfl
     have qc:=xX (l:=x.2.2) (j:=(ia:Int)) (i:=ia) (by omega) rfl
     have hlp:(ints x.1).length=x.1.length:=dD _;have hlc:(fS x.2.2).length=x.2.2.length:=iO _;rw [← e1] at qp;rw [← e2] at qc;have hPs:ints (PP.take (m+1))=ints (PP.take m)++[[AV.i (fp k)]]:=by rw [hp1,I5]
     have hCs:fS (CC.take (m+1))=fS (CC.take m)++[[AV.i (fc k).1,AV.i (fc k).2]]:=by rw [hc1,fS,bU];rfl
     generalize ints (PP.take m)=P0 at *;generalize fS (CC.take m)=C0 at *;generalize fp k=vp at *;generalize fc k=vc at *
     (repeat' (first|refine wS ?_|refine wB ?_|refine wK ?_|refine wU ?_|(refine wC rfl ?_ ?_<;>(intro hb;(try simp only [nm] at hb);try omega))|(refine rg 8 (vV (aK rfl rfl) ?_))|(refine rg 9 (vV (ix T rfl (by omega) (dY _) hgl) (lW T rfl (aV ?_))))|(refine vW (id:=10) 6 79 [[],[],[1],[],[1,2,3],[],rN 6,rN 7] [[],[],[1],[],[1,2,3],[]] [40,41,42,43,44,12] [[],[40],[40],[40,41,42],[40],rM 40 5] cP rfl (by decide +kernel) (by decide +kernel) ?_;(dsimp only [List.take,List.drop]);refine dO T rfl (dP T rfl (dO T rfl (dN rfl (dV rfl (kC (hix)) (K2 rfl rfl rfl (by exact cN T rfl) rfl ?_)))));refine LM rfl rfl (by ((dsimp only [List.nil_append,List.cons_append,List.append_nil,List.length_cons,List.length_nil,List.set_cons_zero,List.set_cons_succ,List.map_cons,List.map_nil,kR,nE,mR,tA,ND,D6,AF,AD,AC,AE,D5,D8,D4,D7,Nat.zero_add,Nat.add_zero,Nat.reduceAdd,Bool.not_true,Bool.not_false];done))) ?_;refine iI ?_;refine bC T rfl rfl rfl rfl rfl rfl (by decide) rfl (aV ?_))|(refine rg 11 (mW rfl (vV (aK rfl rfl) ?_)))|(refine lY (id:=13) 79 xL6 (rM 52 19) xL7 [(8,3),(17,4),(19,2)] cP rfl (by decide +kernel) (cQ rfl rfl rfl rfl (by exact bR T rfl rfl rfl) ?_);refine cQ rfl rfl rfl rfl (by exact bA T rfl rfl rfl rfl) ?_;refine cQ rfl rfl rfl rfl (by exact bR T rfl rfl rfl) ?_;refine cQ rfl rfl rfl rfl (by exact bA T rfl rfl rfl rfl) ?_;refine cQ rfl rfl rfl rfl (by exact bV rfl) ?_;refine cQ rfl rfl rfl rfl (by exact ix T rfl (by omega) (dY _) qp) ?_;refine cQ rfl rfl rfl rfl (by exact bA T rfl rfl rfl rfl) ?_;refine B9 rfl rfl rfl rfl (by exact bG T rfl rfl (by decide) (by decide) rfl rfl rfl) rfl ?_;refine oT rfl rfl rfl rfl (aI rfl) (by exact oC T rfl rfl rfl rfl rfl rfl (by omega) (kK.whole rfl rfl) rfl (by simp;omega) (by simp;omega)) ?_;refine cQ rfl rfl rfl rfl (by exact bR T rfl rfl rfl) ?_;refine cQ rfl rfl rfl rfl (by exact bA T rfl rfl rfl rfl) ?_;refine cQ rfl rfl rfl rfl (by exact bR T rfl rfl rfl) ?_;refine cQ rfl rfl rfl rfl (by exact bA T rfl rfl rfl rfl) ?_;refine cQ rfl rfl rfl rfl (by exact bV rfl) ?_;refine cQ rfl rfl rfl rfl (by exact ix T rfl (by omega) (lT _) qc) ?_;refine cQ rfl rfl rfl rfl (by exact bA T rfl rfl rfl rfl) ?_;refine B9 rfl rfl rfl rfl (by exact bG T rfl rfl (by decide) (by decide) rfl rfl rfl) rfl ?_;refine oT rfl rfl rfl rfl (aI rfl) (by exact oC T rfl rfl rfl rfl rfl rfl (by omega) (kK.whole rfl rfl) rfl (by simp;omega) (by simp;omega)) ?_;refine cQ rfl rfl rfl rfl (by exact bR T rfl rfl rfl) ?_;refine F5 rfl rfl rfl rfl (aI rfl) T rfl rfl rfl rfl rfl rfl (by decide) rfl ?_;refine qK rfl rfl rfl (by exact rfl) ?_;refine fW T rfl (bC T rfl rfl rfl rfl rfl rfl (by decide) rfl ?_))|(refine rg 14 (vV (cK rfl rfl (by omega) (by omega)) (mV ?_)))|refine nZ ?_));all_goals try omega
     exact ⟨⟨m+1,hml⟩,by dsimp only;omega,⟨[0,1,2,7,9],rfl,(by repeat first|exact trivial|refine ⟨rfl,?_⟩),⟨.inr rfl,.inr rfl,.inr rfl,.inr (aC rfl (by dsimp only;rw [hPs];exact jW hTp.symm) (bF _)),.inr (aC rfl (by dsimp only;rw [hCs];exact jW hTc.symm) (fO _)),trivial⟩,by decide,jP _⟩⟩
    ·obtain ⟨e1,e2⟩:=hfb k hka;have hkb:k∈b.1:=hkm.resolve_left hka;have hix:=zT a.1 k (by have:=sa.b;omega)
     have hiy:=zT b.1 k (by have:=sb.b;omega)
     have hyi:zV b.1 k 0=((b.1.idxOf k:Nat):Int):=by have:=I8 b.1 k 0 hkb;simpa using this
     rw [WE _ _ _ hka] at hix;rw [hyi] at hiy;have hio:=iE hkb;generalize b.1.idxOf k=ia at *;have qp:=uO (l:=z.1) (j:=(ia:Int)) (i:=ia) 0 (by omega) rfl
     have qc:=xX (l:=z.2.2) (j:=(ia:Int)) (i:=ia) (by omega) rfl
     have hlp:(ints z.1).length=z.1.length:=dD _;have hlc:(fS z.2.2).length=z.2.2.length:=iO _;rw [← e1] at qp;rw [← e2] at qc;have hPs:ints (PP.take (m+1))=ints (PP.take m)++[[AV.i (fp k)]]:=by rw [hp1,I5]
     have hCs:fS (CC.take (m+1))=fS (CC.take m)++[[AV.i (fc k).1,AV.i (fc k).2]]:=by rw [hc1,fS,bU];rfl
     generalize ints (PP.take m)=P0 at *;generalize fS (CC.take m)=C0 at *;generalize fp k=vp at *;generalize fc k=vc at *
     (repeat' (first|refine wS ?_|refine wB ?_|refine wK ?_|refine wT ?_|(refine wC rfl ?_ ?_<;>(intro hb;(try simp only [nm] at hb);try omega))|(refine rg 8 (vV (aK rfl rfl) ?_))|(refine rg 9 (vV (ix T rfl (by omega) (dY _) hgl) (lW T rfl (aV ?_))))|(refine vW (id:=10) 6 79 [[],[],[1],[],[1,2,3],[],rN 6,rN 7] [[],[],[1],[],[1,2,3],[]] [40,41,42,43,44,12] [[],[40],[40],[40,41,42],[40],rM 40 5] cP rfl (by decide +kernel) (by decide +kernel) ?_;(dsimp only [List.take,List.drop]);refine dO T rfl (dP T rfl (dO T rfl (dN rfl (dV rfl (kC (hix)) (K2 rfl rfl rfl (by exact cN T rfl) rfl ?_)))));refine LM rfl rfl (by ((dsimp only [List.nil_append,List.cons_append,List.append_nil,List.length_cons,List.length_nil,List.set_cons_zero,List.set_cons_succ,List.map_cons,List.map_nil,kR,nE,mR,tA,ND,D6,AF,AD,AC,AE,D5,D8,D4,D7,Nat.zero_add,Nat.add_zero,Nat.reduceAdd,Bool.not_true,Bool.not_false];done))) ?_;refine iI ?_;refine bC T rfl rfl rfl rfl rfl rfl (by decide) rfl (aV ?_))|(refine rg 11 (mW rfl (vV (aK rfl rfl) ?_)))|(refine pG (id:=12) 79 [[],[],[1],[],[1,2,3],rN 5] (rM 47 5) [[],[47],[47],[47,48,49],[47],[]] [(5,5)] cP rfl (by decide +kernel) (dH rfl rfl rfl rfl (by exact bA T rfl rfl rfl rfl) ?_);refine dH rfl rfl rfl rfl (by exact bR T rfl rfl rfl) ?_;refine dH rfl rfl rfl rfl (by exact bA T rfl rfl rfl rfl) ?_;refine dH rfl rfl rfl rfl (by exact bV rfl) ?_;refine dH rfl rfl rfl rfl (by exact kC (hiy)) ?_;refine A0 rfl rfl rfl rfl (aI rfl) T rfl rfl rfl rfl rfl rfl (by decide) rfl ?_;refine uS rfl rfl rfl (by exact rfl) ?_;refine aV ?_)|(refine lY (id:=13) 79 xL6 (rM 52 19) xL7 [(8,3),(17,4),(19,2)] cP rfl (by decide +kernel) (cQ rfl rfl rfl rfl (by exact bR T rfl rfl rfl) ?_);refine cQ rfl rfl rfl rfl (by exact bA T rfl rfl rfl rfl) ?_;refine cQ rfl rfl rfl rfl (by exact bR T rfl rfl rfl) ?_;refine cQ rfl rfl rfl rfl (by exact bA T rfl rfl rfl rfl) ?_;refine cQ rfl rfl rfl rfl (by exact bV rfl) ?_;refine cQ rfl rfl rfl rfl (by exact ix T rfl (by omega) (dY _) qp) ?_;refine cQ rfl rfl rfl rfl (by exact bA T rfl rfl rfl rfl) ?_;refine B9 rfl rfl rfl rfl (by exact bG T rfl rfl (by decide) (by decide) rfl rfl rfl) rfl ?_;refine oT rfl rfl rfl rfl (aI rfl) (by exact oC T rfl rfl rfl rfl rfl rfl (by omega) (kK.whole rfl rfl) rfl (by simp;omega) (by simp;omega)) ?_;refine cQ rfl rfl rfl rfl (by exact bR T rfl rfl rfl) ?_;refine cQ rfl rfl rfl rfl (by exact bA T rfl rfl rfl rfl) ?_;refine cQ rfl rfl rfl rfl (by exact bR T rfl rfl rfl) ?_;refine cQ rfl rfl rfl rfl (by exact bA T rfl rfl rfl rfl) ?_;refine cQ rfl rfl rfl rfl (by exact bV rfl) ?_;refine cQ rfl rfl rfl rfl (by exact ix T rfl (by omega) (lT _) qc) ?_;refine cQ rfl rfl rfl rfl (by exact bA T rfl rfl rfl rfl) ?_;refine B9 rfl rfl rfl rfl (by exact bG T rfl rfl (by decide) (by decide) rfl rfl rfl) rfl ?_;refine oT rfl rfl rfl rfl (aI rfl) (by exact oC T rfl rfl rfl rfl rfl rfl (by omega) (kK.whole rfl rfl) rfl (by simp;omega) (by simp;omega)) ?_;refine cQ rfl rfl rfl rfl (by exact bR T rfl rfl rfl) ?_;refine F5 rfl rfl rfl rfl (aI rfl) T rfl rfl rfl rfl rfl rfl (by decide) rfl ?_;refine qK rfl rfl rfl (by exact rfl) ?_;refine fW T rfl (bC T rfl rfl rfl rfl rfl rfl (by decide) rfl ?_))|(refine rg 14 (vV (cK rfl rfl (by omega) (by omega)) (mV ?_)))|refine nZ ?_));all_goals try omega
     exact ⟨⟨m+1,hml⟩,by dsimp only;omega,⟨[0,1,2,7,9],rfl,(by repeat first|exact trivial|refine ⟨rfl,?_⟩),⟨.inr rfl,.inr rfl,.inr rfl,.inr (aC rfl (by dsimp only;rw [hPs];exact jW hTp.symm) (bF _)),.inr (aC rfl (by dsimp only;rw [hCs];exact jW hTc.symm) (fO _)),trivial⟩,by decide,jP _⟩⟩
   ·obtain rfl:m=l.length:=by omega
    rw [show PP.take l.length=PP by rw [← hplen,cM],show CC.take l.length=CC by rw [← hclen,cM]]
    refine nY 2 0 rfl rfl rfl (by rw [dD,hplen]) (eX (bF _)) ?_
    refine nY 2 2 rfl rfl rfl (by rw [iO,hclen]) (eX (fO _)) ?_
    (repeat' (first|refine wS ?_|refine wE ?_|(refine wC rfl ?_ ?_<;>(intro hb;(try simp only [nm] at hb);try omega))|(refine rg 8 (vV (aK rfl rfl) ?_))|refine nZ ?_));all_goals try omega
    show AY _ _ _ _ _ _ _ _ _
    (repeat' (first|(first|(refine A8 ?_)|(refine CN ?_)|(refine zR6 ?_))|((refine A9 rfl (fun hb=>?_) (fun hb=>?_)<;>(((try simp only [nm] at hb);try ((exfalso;omega);done)))))|(((refine JH (id:=15) ?_));((refine zD4 2 hJ ?_));(dsimp only [List.take,List.drop]);(all_goals (refine mV ?_;refine lV T ?_;refine iI ?_;refine MY hJ hy rfl rfl rfl hk hit rfl ?_));(all_goals (intro yes));(all_goals (refine yJ8 hJ ?_;refine vV (dS rfl) ?_;refine BV (by ((dsimp only [List.nil_append,List.cons_append,List.append_nil,List.length_cons,List.length_nil,List.set_cons_zero,List.set_cons_succ,List.map_cons,List.map_nil,kR,nE,mR,tA,ND,D6,AF,AD,AC,AE,D5,D8,D4,D7,Nat.zero_add,Nat.add_zero,Nat.reduceAdd,Bool.not_true,Bool.not_false];done))) ?_)))|(((refine sO hJ (eU (id:=16) ?_)));(all_goals (refine vV (cK rfl rfl (by omega) (by omega)) ?_;refine mV ?_)))|refine nZ ?_));all_goals first|omega | skip
    ·exact ⟨.inl rfl,fun h=>(by first|(subst hb;cases h)|(cases h;done)),[],rfl⟩
    ·obtain rfl:=hb;exact ⟨⟨j+1,hjl⟩,by dsimp only;omega,rfl,⟨[0],rfl,(by repeat first|exact trivial|refine ⟨rfl,?_⟩),⟨.inr rfl,trivial⟩,by decide,jP _⟩⟩
  ·obtain rfl:j=b.2.length:=by omega
   (repeat' (first|(first|(refine A8 ?_)|(refine LX ?_))|((refine A9 rfl (fun hb=>?_) (fun hb=>?_)<;>(((try simp only [nm] at hb);try ((exfalso;omega);done)))))|(((refine sO hJ (eU (id:=4) ?_)));(all_goals (refine vV (aK rfl rfl) ?_)))|(((refine sO hJ (eU (id:=17) ?_)));(all_goals (refine vV (cK rfl rfl (by omega) (by omega)) ?_;refine mV ?_)))|refine nZ ?_));all_goals first|omega | skip
   exact ⟨⟨i+1,hlt⟩,by dsimp only;omega,rfl,gQ []⟩
 ·obtain rfl:i=a.2.length:=by omega
  (repeat' (first|(first|(refine A8 ?_)|(refine LX ?_))|((refine A9 rfl (fun hb=>?_) (fun hb=>?_)<;>(((try simp only [nm] at hb);try ((exfalso;omega);done)))))|(((refine sO hJ (eU (id:=1) ?_)));(all_goals (refine vV (aK rfl rfl) ?_)))|refine nZ ?_));all_goals first|omega | skip
  exact ⟨.inr rfl,fun _=>by rw [hnn],[],rfl⟩
end Go.Proofs.Q
