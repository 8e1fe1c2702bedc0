/-
  Texts of the logic and of the layer,in one module (part 7).
-/
import Derived.Test.YtjjfjhkbmdbhkaaGreatDoorK6
set_option maxHeartbeats 4000000
set_option linter.unusedVariables false
set_option linter.unusedSimpArgs false
set_option linter.unnecessarySimpa false
namespace Go.Ab
open Go
theorem uK {P:Program}{env:eG}{h:Hp}{d:Option Nat}{ty:TypeId}{pos:String}{af:Array Edge}{g:Option (Nat × Bool)}(T:pR P){t e sz:Nat}{es:List (List AV)}{c:List AV}{i:TI}{x y:Operand}{kk:IntKind}{j:Int}(hx:evu env x=some (.rowE es sz)) (hy:evu env y=some (.v (.int kk j))) (ha:T.elem t=some e) (he:T.ti e=some i) (hs:i.size=sz) (h0:0≤j) (hl:∀ e,e∈es→e.length=sz) (hc:es[j.toNat]? = some c) :
  zU4 P ⟨d,.indexAddr t x y,ty,pos,af,g⟩ env h (.pr c 0):=by
 intro ρ S a w p;have h1:j<es.length:=by have:=(aA.1 hc).1;omega
 have h2:=p.evu hx;simp only [R] at h2;obtain ⟨ad,cap,h3,_,_,_,_,h4⟩:=h2;rcases h4 with h4 | ⟨b,o,ys,h5,h6,h7,h8⟩
 ·omega
 have h9:=rL (p.evu hy);subst h5;refine ⟨.pointer (some ⟨b,o+j.toNat*sz,none⟩),fun w'=>by simp [execOp,h3,h9,Instr.indexAt,asIntOf,run_underlying (T.elemOk _ _ ha),h0,h1,T.sizeOf he,Addr.add_lit,hs],VK hl hc ?_⟩
 simp only [R];exact ⟨b,o,ys,rfl,h6,h7,h8⟩
end Go.Ab
namespace Go.Ld
open Go.Ab Go.Proofs.Q
theorem jD {l:List G}{b:Int}(h:∃ g,g∈l∧b∈g.1):∃ (i:Nat) (g:G),qB l b=(i:Int)∧l[i]? = some g∧b∈g.1:=by
 obtain ⟨g,hg,hb⟩:=h;unfold qB;cases hf:l.findIdx? fun g=>decide (b∈g.1) with
 | none=>have:=List.findIdx?_eq_none_iff.1 hf g hg;simp at this;exact absurd hb this
 | some i=>
  obtain ⟨h1,h2,_⟩:=List.findIdx?_eq_some_iff_getElem.1 hf;exact ⟨i,l[i],rfl,aB h1,by simpa using h2⟩
theorem vI (l:List Int):jF l=eN cI l:=
 M4 sA (Go.Pm.sorted_perm l) ((Go.Pm.sorted_up l).imp fun {a b} h=>by unfold cI;split <;> (try split) <;> omega)
theorem YE {a b:G}{l:List Int}{k:Nat}{w:W}(h:(qQ a b l)[k]? = some w):DR a b l k=[.agg (wA w)]:=by unfold DR;rw [h]
end Go.Ld
namespace Go.Proofs.Q
open Go Go.Ab Go.Ld
attribute [local irreducible] VC AW bW aM AY VY GA iU
theorem xC8:∀ i:Nat,i<1→([0,4]:List Nat)[i]? = some i:=by decide
theorem yC5 {n:Nat}(l:List G) (a b:Int) (ok:oZ n l) (ha:∃ g,g∈l∧a∈g.1) (hb:∃ g,g∈l∧b∈g.1) (hs:qB l a=qB l b):aM Tryz.prog 91 [.sl 0 0 l.length 2,.i a,.i b] [.arr (kY l) 2] (.tup [.sl 0 0 l.length 2,.i 0]) [.arr (kY l) 2]:=by
 have hl12:l.length≤12:=bL ok.len ok.ln;have hgl:∀ g,g∈l→g.1.length≤1000000:=fun g hg=>by have:=(ok.ok g hg).ln;omega
 have f1:=F4 l a (by omega) hgl
 have f2:=F4 l b (by omega) hgl
 obtain ⟨i,x,e1,hx,hax⟩:=jD ha;obtain ⟨k,y,e2,hy,hby⟩:=jD hb;rw [e1] at f1;rw [e2] at f2;have hil:=(aA.1 hx).1;have hkl:=(aA.1 hy).1;have hll:(kY l).length=l.length:=jX _;have qx:(kY l)[(i:Int).toNat]? = some (gA x):=by rw [bI,bN,hx];rfl
 have qy:(kY l)[(k:Int).toNat]? = some (gA y):=by rw [bI,bN,hy];rfl
 have ax:mJ l (i:Int).toNat=x:=by unfold mJ;rw [bI,aE,hx];rfl
 have ay:mJ l (k:Int).toNat=y:=by unfold mJ;rw [bI,aE,hy];rfl
 have hik:i=k:=by omega
 subst hik;have hvw:oX [.arr (kY l) 2] (.sl 0 0 l.length 2) (.rowE (kY l) 2):=pD rfl hll.symm (rR (fun _=>rfl) _);refine bS T Tryz.func91 rfl rfl rfl rfl ?_
 (repeat' (first|refine wS ?_|refine wR ?_|refine wT ?_|(refine rg 0 (pT ?_))|(refine rg 1 (dJ rfl (vV (by exact eH rfl rfl f1 (.cons hvw (.cons (.v _) .nil)) rfl rfl) ?_));refine dJ rfl (vV (by exact eH rfl rfl f2 (.cons hvw (.cons (.v _) .nil)) rfl rfl) ?_);refine pT ?_)|(refine rg 2 (dJ rfl (vV (jL rfl rfl rfl) ?_)))|(refine rg 3 (mW rfl (pT ?_)))|refine nZ ?_));all_goals first|omega | exact ⟨.inl rfl,[0],_,rfl,rfl,rfl,⟨.inr (aC rfl rfl (eR _)),trivial⟩,by decide,uN⟩
theorem yC7 {n:Nat}(l:List G) (a b:Int) (ok:oZ n l) (ha:∃ g,g∈l∧a∈g.1) (hb:∃ g,g∈l∧b∈g.1) (hj:join l a b=none):aM Tryz.prog 91 [.rowE (kY l) 2,.i a,.i b] [] (.tup [.nils,.i 6]) []:=by
 have hl12:l.length≤12:=bL ok.len ok.ln;have hgl:∀ g,g∈l→g.1.length≤1000000:=fun g hg=>by have:=(ok.ok g hg).ln;omega
 have f1:=F4 l a (by omega) hgl
 have f2:=F4 l b (by omega) hgl
 obtain ⟨i,x,e1,hx,hax⟩:=jD ha;obtain ⟨k,y,e2,hy,hby⟩:=jD hb;rw [e1] at f1;rw [e2] at f2;have hil:=(aA.1 hx).1;have hkl:=(aA.1 hy).1;have hll:(kY l).length=l.length:=jX _;have qx:(kY l)[(i:Int).toNat]? = some (gA x):=by rw [bI,bN,hx];rfl
 have qy:(kY l)[(k:Int).toNat]? = some (gA y):=by rw [bI,bN,hy];rfl
 have ax:mJ l (i:Int).toNat=x:=by unfold mJ;rw [bI,aE,hx];rfl
 have ay:mJ l (k:Int).toNat=y:=by unfold mJ;rw [bI,aE,hy];rfl
 unfold join at hj;dsimp only at hj;rw [e1,e2,ax,ay] at hj;clear ha hb;have hik:i≠k:=fun q=>by subst q;rw [if_pos rfl] at hj;cases hj
 rw [if_neg (by omega)] at hj
 have hf:6<x.1.length+y.1.length∨1000<x.2.length*y.2.length:=by
  by_cases hf:6<x.1.length+y.1.length∨1000<x.2.length*y.2.length
  ·exact hf
  ·rw [if_neg hf] at hj;cases hj
 clear hj;have xo:=ok.ok x (aQ hx);have yo:=ok.ok y (aQ hy);have xw:=ok.ws x (aQ hx);have yw:=ok.ws y (aQ hy);have xl:=xo.ln;have yl:=yo.ln;have xp:=eO.2 xo.ne;have yp:=eO.2 yo.ne;have sx:=xo.sz xw;have sy:=yo.sz yw;have l1:(ints x.1).length=x.1.length:=dD _;have l2:(ints y.1).length=y.1.length:=dD _;have l3:(gN x.2).length=x.2.length:=fQ _;have l4:(gN y.2).length=y.2.length:=fQ _;have hmx:x.2.length*y.2.length≤2000*2000:=RN xw yw;have hml:((x.2.length:Int)*y.2.length)=((x.2.length*y.2.length:Nat):Int):=by push_cast;rfl
 obtain ⟨bx,wx⟩:=x;obtain ⟨by_,wy⟩:=y;have hmI:(((gN wx).length:Nat):Int)*((gN wy).length:Nat)=((wx.length*wy.length:Nat):Int):=by rw [fQ,fQ];push_cast;rfl
 dsimp only at *;refine bS T Tryz.func91 rfl rfl rfl rfl ?_
 (repeat' (first|refine wS ?_|refine wK ?_|refine wU ?_|(refine rg 0 (pT ?_))|(refine rg 1 (dJ rfl (vV (kC (f1)) (dJ rfl (vV (kC (f2)) (pT ?_))))))|(refine rg 2 (dJ rfl (vV (gR rfl rfl (by omega)) ?_)))|refine nZ ?_));refine zS2 [(0,.rowE (kY l) 2),(8,.i i),(9,.i k),(10,.ptr 0 0),(11,.ptr 1 0)] [.cells [.rowE (ints bx) 1,.rowE (gN wx) 3],.cells [.rowE (ints by_) 1,.rowE (gN wy) 3]] ?_ ?_
 ·refine QZ (id:=4) cP ?_;refine C2 0 rfl rfl (by decide +kernel) (by decide +kernel) (by decide +kernel) (by exact wP rfl) rfl ?_
  refine C2 1 rfl rfl (by decide +kernel) (by decide +kernel) (by decide +kernel) (by exact wP rfl) rfl ?_
  refine C2 2 rfl rfl (by decide +kernel) (by decide +kernel) (by decide +kernel) (by exact uK T rfl rfl rfl rfl rfl (by omega) (sW _) qx) rfl ?_
  refine C2 4 rfl rfl (by decide +kernel) (by decide +kernel) (by decide +kernel) (by exact wP rfl) rfl ?_
  refine C2 5 rfl rfl (by decide +kernel) (by decide +kernel) (by decide +kernel) (by exact wP rfl) rfl ?_
  refine C2 6 rfl rfl (by decide +kernel) (by decide +kernel) (by decide +kernel) (by exact uK T rfl rfl rfl rfl rfl (by omega) (sW _) qy) rfl ?_
  refine WZ [(0,[]),(1,[]),(2,[0,1]),(3,[2]),(4,[]),(5,[]),(6,[4,5]),(7,[6]),(8,[]),(9,[]),(10,[8,3,0,1,2,3,8,9]),(11,[9,7,10,0,1,2,3,4,5,6,7,8,9,10])] (by decide +kernel) [true,true,true,false,true,true,true,false,false,false,false,false] rfl rfl ?_
  (repeat' (first|(refine zT3 rfl rfl ?_;(first|(refine lV T ?_)|(refine cO (cN T rfl) rfl ?_)|(refine bC T rfl rfl rfl rfl rfl rfl (by decide) rfl ?_));refine iI ?_;dsimp only [List.set_cons_zero,List.set_cons_succ])|(refine zT2 rfl rfl rfl ?_ ?_<;>((first|(refine lV T ?_)|(refine cO (cN T rfl) rfl ?_)|(refine bC T rfl rfl rfl rfl rfl rfl (by decide) rfl ?_));refine iI ?_;dsimp only [List.set_cons_zero,List.set_cons_succ]))|(refine zT1 rfl rfl rfl rfl ?_ ?_ ?_<;>((first|(refine lV T ?_)|(refine cO (cN T rfl) rfl ?_));refine iI ?_;dsimp only [List.set_cons_zero,List.set_cons_succ]))|(refine zT0 rfl rfl rfl rfl rfl ?_ ?_ ?_ ?_<;>((first|(refine lV T ?_)|(refine cO (cN T rfl) rfl ?_));refine iI ?_;dsimp only [List.set_cons_zero,List.set_cons_succ]))));all_goals first|exact K0 rfl ⟨rfl,[0,1],rfl,(by repeat first|exact trivial|refine ⟨rfl,?_⟩),⟨.inr rfl,.inr rfl,trivial⟩,by decide,jP _⟩ | exact K0 rfl ⟨rfl,[1,0],rfl,(by repeat first|exact trivial|refine ⟨rfl,?_⟩),⟨.inr rfl,.inr rfl,trivial⟩,by decide,jP _⟩
 intro v g hsub;refine UI hsub ?_
 (repeat' (first|refine wS ?_|refine wR ?_|refine wT ?_|(refine wC rfl ?_ ?_<;>(intro hb;(try simp only [nm] at hb);try omega))|(refine rg 5 (iK T rfl (qW T rfl (iK T rfl (qW T rfl (vV (cK rfl rfl (by omega) (by omega)) (vV (fK rfl rfl) (mV ?_)))))));refine cD rfl rfl ?_ ?_<;>(intro hb;rw [hb];(try simp only [nm] at hb);try omega);(all_goals first|(refine gT (fW T rfl (gT (lW T rfl (gT (qW T rfl (gT (fW T rfl (gT (lV T ?_)))))))));refine gT (qW T rfl (gT (vV (J0 rfl rfl (by omega) (by omega)) (gT (vV (fK rfl rfl) ?_))))))|(iterate 8 refine gF ?_));(all_goals (refine pV ?_)))|(refine rg 6 (pT ?_))|refine nZ ?_));all_goals first|omega | exact rQ
theorem yC6 {n:Nat}(l:List G) (a b:Int) (ok:oZ n l) (ha:∃ g,g∈l∧a∈g.1) (hb:∃ g,g∈l∧b∈g.1){all:List G}(hj:join l a b=some all) (hne:qB l a≠qB l b):aM Tryz.prog 91 [.rowE (kY l) 2,.i a,.i b] [] (.tup [.sl 0 0 all.length 2,.i 0]) [.arr (kY all) 2]:=by
 have hl12:l.length≤12:=bL ok.len ok.ln;have hgl:∀ g,g∈l→g.1.length≤1000000:=fun g hg=>by have:=(ok.ok g hg).ln;omega
 have f1:=F4 l a (by omega) hgl
 have f2:=F4 l b (by omega) hgl
 obtain ⟨i,x,e1,hx,hax⟩:=jD ha;obtain ⟨k,y,e2,hy,hby⟩:=jD hb;rw [e1] at f1;rw [e2] at f2;have hil:=(aA.1 hx).1;have hkl:=(aA.1 hy).1;have hll:(kY l).length=l.length:=jX _;have qx:(kY l)[(i:Int).toNat]? = some (gA x):=by rw [bI,bN,hx];rfl
 have qy:(kY l)[(k:Int).toNat]? = some (gA y):=by rw [bI,bN,hy];rfl
 have ax:mJ l (i:Int).toNat=x:=by unfold mJ;rw [bI,aE,hx];rfl
 have ay:mJ l (k:Int).toNat=y:=by unfold mJ;rw [bI,aE,hy];rfl
 unfold join at hj;dsimp only at hj;rw [e1,e2,ax,ay] at hj;clear ha hb;have hik:i≠k:=fun q=>by subst q;exact hne (e1.trans e2.symm)
 rw [if_neg (by omega)] at hj
 have hf:¬ (6<x.1.length+y.1.length∨1000<x.2.length*y.2.length):=fun hf=>by rw [if_pos hf] at hj;cases hj
 rw [if_neg hf] at hj
 replace hj:=(Option.some.inj hj).symm
 have xo:=ok.ok x (aQ hx);have yo:=ok.ok y (aQ hy);have xw:=ok.ws x (aQ hx);have yw:=ok.ws y (aQ hy);have xl:=xo.ln;have yl:=yo.ln;have xp:=eO.2 xo.ne;have yp:=eO.2 yo.ne;have sx:=xo.sz xw;have sy:=yo.sz yw;have l1:(ints x.1).length=x.1.length:=dD _;have l2:(ints y.1).length=y.1.length:=dD _;have l3:(gN x.2).length=x.2.length:=fQ _;have l4:(gN y.2).length=y.2.length:=fQ _;have hmx:x.2.length*y.2.length≤2000*2000:=RN xw yw;have hml:((x.2.length:Int)*y.2.length)=((x.2.length*y.2.length:Nat):Int):=by push_cast;rfl
 obtain ⟨bx,wx⟩:=x;obtain ⟨by_,wy⟩:=y;have hmI:(((gN wx).length:Nat):Int)*((gN wy).length:Nat)=((wx.length*wy.length:Nat):Int):=by rw [fQ,fQ];push_cast;rfl
 have hjG:nG (bx,wx) (by_,wy)=(eN cI (bx++by_),qQ (bx,wx) (by_,wy) (eN cI (bx++by_))):=rfl;rw [hjG,← vI] at hj;have hbl:(jF (bx++by_)).length=bx.length+by_.length:=by rw [zK,aD]
 have hmm:∀ q,q∈jF (bx++by_)→q∈bx∨q∈by_:=fun q hq=>bH.1 ((Go.Pm.sorted_perm _).mem_iff.1 hq);have h1:=zQ3 bx by_ ⟨by dsimp only at *;omega,by dsimp only at *;omega⟩ ⟨by dsimp only at *;omega,by dsimp only at *;omega⟩
 have h2:=CU (bx++by_);have h3:=NM (bx++by_) (by rw [aD];dsimp only at *;omega)
 have hPl:=HT (bx,wx) (by_,wy) (jF (bx++by_));generalize jF (bx++by_)=bod at *;have h4:=yA5 (bx,wx) (by_,wy) bod;have hit:=zJ2 (bx,wx) (by_,wy) bod sx sy (by dsimp only at *;omega) hmm (fun w hw=>⟨(xo.ws w hw).m0,(xo.ws w hw).m1⟩) (fun w hw=>⟨(yo.ws w hw).m0,(yo.ws w hw).m1⟩)
 have hpg:∀ (q:Nat) (w:W),(qQ (bx,wx) (by_,wy) bod)[q]? = some w→DR (bx,wx) (by_,wy) bod q=[.agg (wA w)]:=fun q w h=>YE h
 generalize DR (bx,wx) (by_,wy) bod=IT at *;generalize qQ (bx,wx) (by_,wy) bod=P at *;have hP:P.length≤1000:=by rw [hPl,xJ0];dsimp only at *;omega
 clear hPl hmm h2;have h2:=CU (bx++by_);dsimp only at *;have hcl:=T4 l (by omega)
 have hS:min (i:Int) (k:Int)=((min i k:Nat):Int):=by omega
 have hM:max (i:Int) (k:Int)=((max i k:Nat):Int):=by omega
 rw [hS,hM,bI,bI] at hj;have ts:=R3 (L:=l) (j:=min (i:Int) (k:Int)) (i:=min i k) (x:=(bod,P)) hS;have qm:=F1 (L:=l) (j:=min (i:Int) (k:Int)) (i:=min i k) (x:=l[min i k]'(by omega)) (aB _) hS
 have hdl:=yS6 (l.set (min i k) (bod,P)) (max i k) (max i k+1) (by omega) (by rw [hC];omega) (by intro h;have:=congrArg List.length h;rw [hC,List.length_nil] at this;omega)
 rw [S9,hC,show l.length-(max i k+1-max i k)=l.length-1 by omega,show ((max i k+1:Nat):Int)=max (i:Int) (k:Int)+1 by omega,← hM] at hdl
 have hel:((l.set (min i k) (bod,P)).eraseIdx (max i k)).length=l.length-1:=by rw [gM,hC,if_pos (by omega)]
 generalize l[min i k]'(by omega)=gm at *
 subst hj;rw [hel];refine bS T Tryz.func91 rfl rfl rfl rfl ?_
 (repeat' (first|refine wS ?_|refine wK ?_|refine wU ?_|(refine rg 0 (pT ?_))|(refine rg 1 (dJ rfl (vV (kC (f1)) (dJ rfl (vV (kC (f2)) (pT ?_))))))|(refine rg 2 (dJ rfl (vV (gR rfl rfl (by omega)) ?_)))|refine nZ ?_));refine zS2 [(0,.rowE (kY l) 2),(8,.i i),(9,.i k),(10,.ptr 0 0),(11,.ptr 1 0)] [.cells [.rowE (ints bx) 1,.rowE (gN wx) 3],.cells [.rowE (ints by_) 1,.rowE (gN wy) 3]] ?_ ?_
 ·refine QZ (id:=4) cP ?_;refine C2 0 rfl rfl (by decide +kernel) (by decide +kernel) (by decide +kernel) (by exact wP rfl) rfl ?_
  refine C2 1 rfl rfl (by decide +kernel) (by decide +kernel) (by decide +kernel) (by exact wP rfl) rfl ?_
  refine C2 2 rfl rfl (by decide +kernel) (by decide +kernel) (by decide +kernel) (by exact uK T rfl rfl rfl rfl rfl (by omega) (sW _) qx) rfl ?_
  refine C2 4 rfl rfl (by decide +kernel) (by decide +kernel) (by decide +kernel) (by exact wP rfl) rfl ?_
  refine C2 5 rfl rfl (by decide +kernel) (by decide +kernel) (by decide +kernel) (by exact wP rfl) rfl ?_
  refine C2 6 rfl rfl (by decide +kernel) (by decide +kernel) (by decide +kernel) (by exact uK T rfl rfl rfl rfl rfl (by omega) (sW _) qy) rfl ?_
  refine WZ [(0,[]),(1,[]),(2,[0,1]),(3,[2]),(4,[]),(5,[]),(6,[4,5]),(7,[6]),(8,[]),(9,[]),(10,[8,3,0,1,2,3,8,9]),(11,[9,7,10,0,1,2,3,4,5,6,7,8,9,10])] (by decide +kernel) [true,true,true,false,true,true,true,false,false,false,false,false] rfl rfl ?_
  (repeat' (first|(refine zT3 rfl rfl ?_;(first|(refine lV T ?_)|(refine cO (cN T rfl) rfl ?_)|(refine bC T rfl rfl rfl rfl rfl rfl (by decide) rfl ?_));refine iI ?_;dsimp only [List.set_cons_zero,List.set_cons_succ])|(refine zT2 rfl rfl rfl ?_ ?_<;>((first|(refine lV T ?_)|(refine cO (cN T rfl) rfl ?_)|(refine bC T rfl rfl rfl rfl rfl rfl (by decide) rfl ?_));refine iI ?_;dsimp only [List.set_cons_zero,List.set_cons_succ]))|(refine zT1 rfl rfl rfl rfl ?_ ?_ ?_<;>((first|(refine lV T ?_)|(refine cO (cN T rfl) rfl ?_));refine iI ?_;dsimp only [List.set_cons_zero,List.set_cons_succ]))|(refine zT0 rfl rfl rfl rfl rfl ?_ ?_ ?_ ?_<;>((first|(refine lV T ?_)|(refine cO (cN T rfl) rfl ?_));refine iI ?_;dsimp only [List.set_cons_zero,List.set_cons_succ]))));all_goals first|exact K0 rfl ⟨rfl,[0,1],rfl,(by repeat first|exact trivial|refine ⟨rfl,?_⟩),⟨.inr rfl,.inr rfl,trivial⟩,by decide,jP _⟩ | exact K0 rfl ⟨rfl,[1,0],rfl,(by repeat first|exact trivial|refine ⟨rfl,?_⟩),⟨.inr rfl,.inr rfl,trivial⟩,by decide,jP _⟩
 intro v g hsub;refine UI hsub ?_
 (repeat' (first|refine wS ?_|refine wB ?_|refine wK ?_|(refine wC rfl ?_ ?_<;>(intro hb;(try simp only [nm] at hb);try omega))|(refine rg 5 (iK T rfl (qW T rfl (iK T rfl (qW T rfl (vV (cK rfl rfl (by omega) (by omega)) (vV (fK rfl rfl) (mV ?_)))))));refine cD rfl rfl ?_ ?_<;>(intro hb;rw [hb];(try simp only [nm] at hb);try omega);(all_goals (refine yP T rfl (yO T rfl (gT (qW T rfl (yP T rfl (yO T rfl (gT (qW T rfl (yV (J0 rfl rfl (by omega) (by omega)) (yV (fK rfl rfl) ?_)))))))));refine pV ?_)))|(refine rg 7 (iK T rfl (iK T rfl (cO (by exact bG T rfl rfl (by decide) (by decide) rfl rfl rfl) rfl ?_)));refine nI 55 rfl rfl rfl rfl ?_;refine vV (kC (h1)) (vV (kC (h2)) (vV (kC (h3)) (vV (by exact eT T rfl rfl rfl rfl) ?_)));refine cO (cN T rfl) rfl (bC T rfl rfl rfl rfl rfl rfl (by decide) rfl ?_))|(refine rg 8 (lW T rfl (lW T rfl (iK T rfl (vV (kC (h4)) ?_)))))|refine nZ ?_));all_goals try omega
 refine mQ 3 1 3 rfl rfl (by decide) ?_
 refine QV [] [3,4] [(0,.rowE (kY l) 2),(8,.i i),(9,.i k),(12,.ptr 0 0)] (fun m=>[.cells [.rowE (ints bod) 1,.sl 1 0 m 3],.arr (gN (P.take m)) 3]) 1 rfl hit rfl rfl rfl trivial eM rfl (by repeat first|exact trivial|refine ⟨rfl,?_⟩) ⟨.inr rfl,.inr rfl,trivial⟩ (by decide) (jP _) (by simp) (bZ _) (aI rfl) rfl (by decide) (fun m hm=>by rw [hpg m P[m] (aB hm)];exact ⟨rfl,rfl⟩) ?_ ?_
 ·intro m hm;rw [hpg m P[m] (aB hm)];have hks:=aL hm;have hkl':(gN (P.take m)).length=m:=by rw [fQ,aY];omega
  have hW:gN (P.take (m+1))=gN (P.take m)++[wA P[m]]:=by rw [hks,gN,bU];rfl
  generalize P[m]=w at *;obtain ⟨wp,wm,wc⟩:=w;generalize gN (P.take m)=Q at *;refine eU (id:=9) ?_;refine cO (by exact cN T rfl) rfl ?_
  refine bC T rfl rfl rfl rfl rfl rfl (by decide) rfl ?_
  refine iI ?_;refine ⟨rfl,?_⟩
  repeat' (first|refine wB ?_|(refine rg 10 (iK T rfl (lW T rfl (cO (by exact bG T rfl rfl (by decide) (by decide) rfl rfl rfl) rfl ?_)));refine gJ T rfl rfl rfl rfl rfl rfl (by omega) (kK.whole rfl rfl) rfl (by simp;omega) (by simp;omega) rfl ?_;refine fW T rfl (bC T rfl rfl rfl rfl rfl rfl (by decide) rfl ?_))|refine nZ ?_)
  show MF _ _ _ _ [.cells [.rowE (ints bod) 1,.sl 1 0 (m+1) 3],.arr (gN (P.take (m+1))) 3];rw [hW];exact ⟨[0,4],rfl,trivial,⟨.inr (by simp;rfl),.inr (aC rfl (by first|exact jW hkl'.symm | simp) (by rw [← hW];exact bY _)),trivial⟩,by decide,xC8⟩
 ·rw [cM];refine nY 0 1 rfl rfl rfl (fQ _).symm (eX (bY _)) ?_;show AW _ _ _ _ _ _
  (repeat' (first|refine wS ?_|(refine rg 11 (mW rfl (cO (by exact gH rfl rfl hcl (.inr ⟨rfl,rfl,by simp⟩)) rfl ?_));refine aV ?_)|refine nZ ?_));refine fF [(8,.i i),(9,.i k),(12,.ptr 0 0),(14,.sl 1 0 l.length 2)] [.cells [.rowE (ints bod) 1,.rowE (gN P) 3],.arr (kY l) 2] ⟨[0,2],rfl,(by repeat first|exact trivial|refine ⟨rfl,?_⟩),⟨.inr rfl,.inr (aC rfl (bB _ (eR _)) (eR _)),trivial⟩,by decide,jP _⟩ ?_
  (repeat' (first|refine wS ?_|(refine rg 12 (dJ rfl (mW rfl (vV (zX rfl rfl) (lW T rfl (vV (by exact aT T rfl rfl rfl rfl rfl (by omega) (by omega)) ?_)))));refine bC T rfl rfl rfl rfl rfl rfl (by decide) (nJ rfl qm rfl) ?_)|refine nZ ?_));refine fF [(8,.i i),(9,.i k),(14,.sl 0 0 l.length 2)] [.arr (kY (l.set (min i k) (bod,P))) 2] ⟨[1],rfl,(by repeat first|exact trivial|refine ⟨rfl,?_⟩),⟨.inr (aC rfl ts (eR _)),trivial⟩,by decide,jP _⟩ ?_
  (repeat' (first|refine wR ?_|(refine rg 13 (dJ rfl (mW rfl (vV (N2 rfl rfl) (dJ rfl (vV (N2 rfl rfl) (vV (cK rfl rfl (by omega) (by omega)) (bT [0] rfl rfl (hdl) rfl rfl (by decide) ⟨.inr (aC rfl rfl (eR _)),trivial⟩ (by simp) rfl ?_)))))));refine pT ?_)|refine nZ ?_));all_goals exact ⟨.inl rfl,[0],_,rfl,rfl,rfl,⟨.inr (aC rfl (bB _ (eR _)) (eR _)),trivial⟩,by decide,jP _⟩
end Go.Proofs.Q
namespace Go.Ld
open Go.Ab Go.Proofs.Q
structure iZ (c:Cx):Prop where
 f:yU9 c.ks c.ls (nats (List.range c.bs.length)) c.bs
 s:oY c.m c.st c.er c.sl
theorem iZ.unit {c:Cx}(h:iZ c) (lot:Int):0≤sI c.ks c.ls lot:=by
 unfold sI;split
 ·exact eW _
 ·rw [aE];cases hq:c.ks[(c.ls.getD lot.toNat (0,0,false)).1.toNat]? with
  | none=>exact eW _
  | some x=>
   obtain ⟨h1,h2⟩:=aA.1 hq;have:=(h.f.k _ h1).1;rw [h2] at this;exact this
end Go.Ld
namespace Go.Proofs.Q
open Go Go.Ab Go.Ld
attribute [local irreducible] VC AW bW aM iU
theorem XF (t u w e:Int) (hu:0≤u):aM Tryz.prog 133 [.i t,.i u,.i w,.i e] [] (.tup [nU (zD3 t u w e).1.1 (zD3 t u w e).1.2,.b (zD3 t u w e).2]) []:=by
 unfold zD3;by_cases h:LJ t u w e
 ·rw [if_pos (show IY t u w e=true from decide_eq_true h)]
  by_cases h1:w+e-t<0∨u=0∧0<w-e-t
  ·rw [if_pos h1];exact MW t u w e h h1
  ·rw [if_neg h1];by_cases h2:u=0
   ·rw [if_pos h2];exact MX t u w e h (by omega) h2 (by omega)
   ·rw [if_neg h2];exact SE t u w e h (by omega) (by omega)
 ·have h':¬ IY t u w e=true:=fun q=>h (by simpa [IY,LJ] using q)
  rw [if_neg h'];exact SD t u w e h
theorem yD2 (r q:SP):aM Tryz.prog 135 [nU r.1 r.2,nU q.1 q.2] [] (.tup [nU (T3 (max r.1 q.1) (min r.2 q.2)).1.1 (T3 (max r.1 q.1) (min r.2 q.2)).1.2,.b (T3 (max r.1 q.1) (min r.2 q.2)).2]) []:=yD3 r.1 r.2 q.1 q.2
theorem zI7 (r:SP) (n s:Int) (hf:0≤r.1∧r.1≤20001∧0≤r.2∧r.2≤20001):aM Tryz.prog 136 [nU r.1 r.2,.i n,.i s] [] (.tup [nU (E5 r n s).1.1 (E5 r n s).1.2,.b (E5 r n s).2]) []:=by
 unfold E5;by_cases h:0≤n∧n≤1099511627776∧0≤s∧s≤1099511627776
 ·rw [if_pos h];exact YF r.1 r.2 n s hf h
 ·rw [if_neg h];exact SW r.1 r.2 n s h
abbrev yY8 (s:Ev):AV:=zG2 s.k s.a s.b s.n s.ids
theorem zR5 (c:Cx) (gs:List G){n q:Nat}(w:W){i:Nat}(s:Ev) (hc:iZ c) (hw:JM n q w) (hn:n=c.bs.length) (hi:i<q) (hq:q≤1000) (hids:s.ids.length≤9223372036854775807) (hsn:0≤s.n∧s.n≤1099511627776) :
  aM Tryz.prog 93 [.pr (jY c gs) 0,RX w,.i i,yY8 s] [] (.tup [.agg [.sl 0 0 w.1.length 1,.i (kV c w i s).1.2.1,.sl 1 0 w.2.2.length 2],.b (kV c w i s).2]) [.arr (ints w.1) 1,.arr (fS (kV c w i s).1.2.2) 2]:=by
 have hpl:=hw.pl;have hcl:=hw.cl;have hcw:=LP w ⟨by omega,by omega⟩
 obtain ⟨g1,g2,g3,g4,g5⟩:=hw.at hi;have hm0:=hw.m0;have hm1:=hw.m1;have hids':(ints s.ids).length=s.ids.length:=dD _;obtain ⟨st1,zC7,RY,zC6,yK3,st6,st7,st8⟩:=hc.s;have hbo:(kV c w i s).1.2.2=(kV c w i s).1.2.2:=rfl;unfold kV gP gC at *;obtain ⟨p,m,cs⟩:=w;obtain ⟨sk,sa,sb,sn,ids⟩:=s;dsimp only at *;have hlp:(ints p).length=p.length:=dD _;have hlc:(fS cs).length=cs.length:=iO _;have qp:=CG (l:=p) (j:=(i:Int)) (i:=i) 0 (by omega) rfl
 have qc:=P4 (l:=cs) (j:=(i:Int)) (i:=i) (by omega) rfl
 have ct:∀ r:SP,_:=fun r=>CZ (l:=cs) (j:=(i:Int)) (i:=i) (r:=r) rfl;have ctn:∀ x y:Int,(fS cs).set (0+(i:Int).toNat) [AV.i x,AV.i y]=fS (cs.set i (x,y)):=fun x y=>ct (x,y);clear ct hbo;generalize hx:p.getD i 0=x at *;generalize hr:cs.getD i (0,0)=r at *;obtain ⟨r1,r2⟩:=r;dsimp only at *;have hbx:c.bs[x.toNat]? = some (c.bs.getD x.toNat (0,0,0)):=by
  rw [aE,aB (by omega)];rfl
 refine bS T Tryz.func93 rfl rfl rfl rfl ?_
 (repeat' (first|refine wS ?_|refine wB ?_|(refine rg 0 (cO (dR rfl rfl) rfl (cO (dR rfl rfl) rfl (cO (cN T rfl) rfl (aV ?_)))))|(refine rg 1 (lW T rfl (cO (by exact gH rfl rfl hcw (.inr ⟨rfl,rfl,by simp⟩)) rfl ?_));refine bC T rfl rfl rfl rfl rfl rfl (by decide) rfl ?_)|(refine rg 2 (aV ?_))|(refine rg 3 (GD T ?_))|refine nZ ?_));refine fF [(0,.pr (jY c gs) 0),(2,.i i),(5,.ptr 0 0),(7,.ptr 1 0),(8,.ptr 2 0),(10,.b true),(18,.i sk)] [.cells [.sl 3 0 p.length 1,.i m,.sl 4 0 cs.length 2],.cells [.i sk,.i sa,.i sb,.i sn,.rowE (ints ids) 1],.cells [.nils,.i 0,.nils],.arr (ints p) 1,.arr (fS cs) 2]
  ⟨[0,1,2,3,4],rfl,(by repeat first|exact trivial|refine ⟨rfl,?_⟩),⟨.inr rfl,.inr rfl,.inr rfl,.inr (aC rfl (bB _ (bF _)) (bF _)),.inr (aC rfl (bB _ (fO _)) (fO _)),trivial⟩,by decide,jP _⟩ ?_
 by_cases k0:sk=0
 ·rw [if_pos k0];have hct:=N7 ids x hids;by_cases hin:x∈ids
  ·rw [if_pos hin];rw [decide_eq_true hin] at hct;dsimp only
   (repeat' (first|refine wS ?_|refine wR ?_|refine wT ?_|(refine rg 4 (vV (jL rfl rfl (by omega)) (aV ?_)))|(refine rg 5 (fW T rfl (vV (bA T rfl rfl rfl rfl) (qW T rfl (aV ?_)))))|(refine vW (id:=6) 7 153 [[],[0],[],[2],[],[2,3,4],rM 2 4,rN 7] [[],[0],[],[2],[],[2,3,4],rM 2 4] (rM 24 7) xL8 cP rfl (by decide +kernel) (by decide +kernel) ?_;(dsimp only [List.take,List.drop]);refine dP T rfl (dO T rfl (dP T rfl (dO T rfl (dN rfl (dV rfl (by exact aT T rfl rfl rfl rfl rfl (by omega) (by omega)) ?_)))));refine dV rfl (by exact bA T rfl rfl (bX rfl qp) rfl) ?_;refine dE ?_;refine iI ?_;refine vV (kC (hct)) ?_)|(refine rg 7 (mW rfl (vV (dC rfl rfl (by omega) (by omega)) (aV ?_))))|(refine rg 9 (dJ rfl (nV ?_));refine fW T rfl (fW T rfl (vV (bA T rfl rfl rfl rfl) (vV (iQ rfl rfl) (aV ?_)))))|(refine rg 23 (vV (bA T rfl rfl rfl rfl) (mW rfl (bC T rfl rfl rfl rfl rfl rfl (by decide) rfl (aV ?_)))))|refine nZ ?_));all_goals first|omega | exact ⟨.inl rfl,[3,4],_,rfl,by rw [← hids'];rfl,rfl,⟨.inr (aC rfl rfl (bF _)),.inr (aC rfl rfl (fO _)),trivial⟩,by decide,jP _⟩
  ·rw [if_neg hin];rw [decide_eq_false hin] at hct;dsimp only
   (repeat' (first|refine wS ?_|refine wR ?_|refine wT ?_|refine wU ?_|(refine rg 4 (vV (jL rfl rfl (by omega)) (aV ?_)))|(refine rg 5 (fW T rfl (vV (bA T rfl rfl rfl rfl) (qW T rfl (aV ?_)))))|(refine vW (id:=6) 7 153 [[],[0],[],[2],[],[2,3,4],rM 2 4,rN 7] [[],[0],[],[2],[],[2,3,4],rM 2 4] (rM 24 7) xL8 cP rfl (by decide +kernel) (by decide +kernel) ?_;(dsimp only [List.take,List.drop]);refine dP T rfl (dO T rfl (dP T rfl (dO T rfl (dN rfl (dV rfl (by exact aT T rfl rfl rfl rfl rfl (by omega) (by omega)) ?_)))));refine dV rfl (by exact bA T rfl rfl (bX rfl qp) rfl) ?_;refine dE ?_;refine iI ?_;refine vV (kC (hct)) ?_)|(refine rg 8 (fW T rfl (vV (bA T rfl rfl rfl rfl) (vV (cK rfl rfl (by omega) (by omega)) (fW T rfl (bC T rfl rfl rfl rfl rfl rfl (by decide) rfl ?_))))))|(refine rg 9 (dJ rfl (nV ?_));refine fW T rfl (fW T rfl (vV (bA T rfl rfl rfl rfl) (vV (iQ rfl rfl) (aV ?_)))))|(refine rg 23 (vV (bA T rfl rfl rfl rfl) (mW rfl (bC T rfl rfl rfl rfl rfl rfl (by decide) rfl (aV ?_)))))|refine nZ ?_));all_goals first|omega | exact ⟨.inl rfl,[3,4],_,rfl,by rw [← hids'];rfl,rfl,⟨.inr (aC rfl rfl (bF _)),.inr (aC rfl rfl (fO _)),trivial⟩,by decide,jP _⟩
 by_cases k1:sk=1
 ·rw [if_neg k0,if_pos k1];have hbl:=hc.f.b x.toNat (by omega)
  have hgx:c.bs[x.toNat]'(by omega)=c.bs.getD x.toNat (0,0,0):=by rw [aE,aB (by omega)];rfl
  rw [hgx] at hbl;have hbxl:(fL c.bs).length=c.bs.length:=aU _;have qb:(fL c.bs)[x.toNat]? = some [.i (c.bs.getD x.toNat (0,0,0)).1,.i (c.bs.getD x.toNat (0,0,0)).2.1,.i (c.bs.getD x.toNat (0,0,0)).2.2]:=by rw [bN,hbx];rfl
  generalize c.bs.getD x.toNat (0,0,0)=bx at *;obtain ⟨lot,cnt,ta⟩:=bx;dsimp only at *;have hun:=yM9 hc.f (lot:=lot) (by omega)
  have hu0:=hc.unit lot;generalize sI c.ks c.ls lot=u at *;have hwg:=XF ta u sn c.er hu0;unfold xH sC;dsimp only;generalize zD3 ta u sn c.er=z at *;obtain ⟨⟨z1,z2⟩,zb⟩:=z;dsimp only at *;cases zb with
  | true=>
   rw [if_pos rfl];have hin:=yD2 (r1,r2) (z1,z2);dsimp only at *;generalize T3 (max r1 z1) (min r2 z2)=y at *;obtain ⟨⟨y1,y2⟩,yb⟩:=y;dsimp only at *
   (repeat' (first|refine wS ?_|refine wR ?_|refine wT ?_|refine wU ?_|(refine rg 4 (vV (gR rfl rfl (by omega)) (aV ?_)))|(refine rg 10 (vV (jL rfl rfl (by omega)) (aV ?_)))|(refine cH (id:=11) 153 xL9 [47,48,49,50,51,52,53,54,55,56,57,12] xM0 cP rfl (by decide +kernel) (dN rfl (dV rfl (by exact cF rfl rfl) ?_));refine dP T rfl (dO T rfl (dP T rfl (dO T rfl (dN rfl (dV rfl (by exact aT T rfl rfl rfl rfl rfl (by omega) (by omega)) ?_)))));refine dV rfl (by exact bA T rfl rfl (bX rfl qp) rfl) ?_;refine dV rfl (ix T rfl (by omega) (pF _) qb) (dO T rfl (K2 rfl rfl rfl (by exact cN T rfl) rfl ?_));refine dE ?_;refine bC T rfl rfl rfl rfl rfl rfl (by decide) rfl ?_)|(refine T7 (id:=12) 23 25 153 (by (dsimp only [O2];done)) (by decide +kernel) xM1 [59,60,61,62,63,64,65,66,67,68,69,70,71,72,73,74,75,76,77,78,79,58,80,81,13] xM2 cP rfl (by decide +kernel) (dP T rfl (dO T rfl (dN rfl (dV rfl (by exact cF rfl rfl) ?_))));refine dP T rfl (dO T rfl (dN rfl (dV rfl (by exact cF rfl rfl) ?_)));refine dP T rfl (dO T rfl (dP T rfl (dO T rfl (dV rfl (kC (hun)) (dP T rfl (dO T rfl (dN rfl (dV rfl (by exact cF rfl rfl) ?_))))))));refine dP T rfl (dP T rfl (dO T rfl (dV rfl (kC (hwg)) (dN rfl (dV rfl (by exact jG rfl rfl) ?_)))));refine dV rfl (by exact jG rfl rfl) ?_;refine K2 rfl rfl rfl (by exact cN T rfl) rfl ?_;refine dE ?_;refine bC T rfl rfl rfl rfl rfl rfl (by decide) rfl (aV ?_))|(refine rg 13 (mV ?_))|(refine T7 (id:=14) 9 10 153 (by (dsimp only [O2];done)) (by decide +kernel) [[],[0],[],[0,1,2],rN 4,[],rN 6,rN 7,rN 8,rN 8] [84,85,86,87,88,89,90,83,91,92] [[],[],[84,85],[],[],rM 84 5,[],[],[],[91]] cP rfl (by decide +kernel) (dP T rfl (dO T rfl (dN rfl (dV rfl (by exact aT T rfl rfl rfl rfl rfl (by omega) (by omega)) ?_))));refine dV rfl (by exact bA T rfl rfl (bX rfl qc) rfl) ?_;refine dO T rfl (dV rfl (kC (hin)) (dN rfl (dV rfl (by exact jG rfl rfl) ?_)));refine dV rfl (by exact jG rfl rfl) ?_;refine dE ?_;refine bC T rfl rfl rfl rfl rfl rfl (by decide) rfl (aV ?_))|(refine rg 15 (fW T rfl (vV (bA T rfl rfl rfl rfl) (mW rfl (vV (bA T rfl rfl rfl rfl) (mW rfl (vV (by exact aT T rfl rfl rfl rfl rfl (by omega) (by omega)) ?_))))));refine bC T rfl rfl rfl rfl rfl rfl (by decide) (nJ rfl qc rfl) (aV ?_))|(refine rg 23 (vV (bA T rfl rfl rfl rfl) (mW rfl (bC T rfl rfl rfl rfl rfl rfl (by decide) rfl (aV ?_)))))|refine nZ ?_));all_goals first|omega | exact ⟨.inl rfl,[3,4],_,rfl,rfl,rfl,⟨.inr (aC rfl rfl (bF _)),.inr (aC rfl (ctn y1 y2) (fO _)),trivial⟩,by decide,jP _⟩
  | false=>
   rw [if_neg (by simp)]
   (repeat' (first|refine wS ?_|refine wK ?_|refine wR ?_|refine wT ?_|refine wU ?_|(refine rg 4 (vV (gR rfl rfl (by omega)) (aV ?_)))|(refine rg 10 (vV (jL rfl rfl (by omega)) (aV ?_)))|(refine cH (id:=11) 153 xL9 [47,48,49,50,51,52,53,54,55,56,57,12] xM0 cP rfl (by decide +kernel) (dN rfl (dV rfl (by exact cF rfl rfl) ?_));refine dP T rfl (dO T rfl (dP T rfl (dO T rfl (dN rfl (dV rfl (by exact aT T rfl rfl rfl rfl rfl (by omega) (by omega)) ?_)))));refine dV rfl (by exact bA T rfl rfl (bX rfl qp) rfl) ?_;refine dV rfl (ix T rfl (by omega) (pF _) qb) (dO T rfl (K2 rfl rfl rfl (by exact cN T rfl) rfl ?_));refine dE ?_;refine bC T rfl rfl rfl rfl rfl rfl (by decide) rfl ?_)|(refine T7 (id:=12) 23 25 153 (by (dsimp only [O2];done)) (by decide +kernel) xM1 [59,60,61,62,63,64,65,66,67,68,69,70,71,72,73,74,75,76,77,78,79,58,80,81,13] xM2 cP rfl (by decide +kernel) (dP T rfl (dO T rfl (dN rfl (dV rfl (by exact cF rfl rfl) ?_))));refine dP T rfl (dO T rfl (dN rfl (dV rfl (by exact cF rfl rfl) ?_)));refine dP T rfl (dO T rfl (dP T rfl (dO T rfl (dV rfl (kC (hun)) (dP T rfl (dO T rfl (dN rfl (dV rfl (by exact cF rfl rfl) ?_))))))));refine dP T rfl (dP T rfl (dO T rfl (dV rfl (kC (hwg)) (dN rfl (dV rfl (by exact jG rfl rfl) ?_)))));refine dV rfl (by exact jG rfl rfl) ?_;refine K2 rfl rfl rfl (by exact cN T rfl) rfl ?_;refine dE ?_;refine bC T rfl rfl rfl rfl rfl rfl (by decide) rfl (aV ?_))|(refine rg 13 (mV ?_))|(refine rg 15 (fW T rfl (vV (bA T rfl rfl rfl rfl) (mW rfl (vV (bA T rfl rfl rfl rfl) (mW rfl (vV (by exact aT T rfl rfl rfl rfl rfl (by omega) (by omega)) ?_))))));refine bC T rfl rfl rfl rfl rfl rfl (by decide) (nJ rfl qc rfl) (aV ?_))|(refine rg 23 (vV (bA T rfl rfl rfl rfl) (mW rfl (bC T rfl rfl rfl rfl rfl rfl (by decide) rfl (aV ?_)))))|refine nZ ?_));all_goals first|omega | exact ⟨.inl rfl,[3,4],_,rfl,rfl,rfl,⟨.inr (aC rfl rfl (bF _)),.inr (aC rfl (ctn z1 z2) (fO _)),trivial⟩,by decide,jP _⟩
 by_cases k2:sk=2
 ·have hpk:=zI7 (r1,r2) sn c.sl ⟨by omega,by omega,by omega,by omega⟩
  rw [if_neg k0,if_neg k1,if_pos k2];unfold sC;dsimp only at *;generalize E5 (r1,r2) sn c.sl=z at *;obtain ⟨⟨z1,z2⟩,zb⟩:=z;dsimp only at *
  (repeat' (first|refine wS ?_|refine wR ?_|refine wT ?_|refine wU ?_|(refine rg 4 (vV (gR rfl rfl (by omega)) (aV ?_)))|(refine rg 10 (vV (gR rfl rfl (by omega)) (aV ?_)))|(refine rg 16 (vV (jL rfl rfl (by omega)) (aV ?_)))|(refine T7 (id:=17) 18 20 153 (by (dsimp only [O2];done)) (by decide +kernel) [[],[0],[],[],[3],[],[3,4,5],rM 3 4,[],[8],[],[10],[10,11],[10,11,12],rM 10 4,rM 3 12,rM 3 13,rM 3 14,rM 3 14,rN 18] [102,103,104,105,106,107,108,109,110,111,112,113,114,115,116,117,101,118,119,120] [[],[],[102,103],[102,103,104],[102,103,104],rM 102 5,[102,103,104],[102,103,104],rM 102 8,rM 102 8,rM 102 10,rM 102 10,rM 102 10,rM 102 10,rM 102 10,[102,103,104],[102,103,104],[102,103,104],[102,103,104,118],[119]] cP rfl (by decide +kernel) (dP T rfl (dO T rfl (dN rfl (dP T rfl (dO T rfl (dN rfl (dV rfl (by exact aT T rfl rfl rfl rfl rfl (by omega) (by omega)) ?_)))))));refine dV rfl (by exact bA T rfl rfl (bX rfl qc) rfl) ?_;refine dP T rfl (dO T rfl (dN rfl (dV rfl (by exact cF rfl rfl) ?_)));refine dP T rfl (dP T rfl (dO T rfl (dV rfl (kC (hpk)) (dN rfl (dV rfl (by exact jG rfl rfl) ?_)))));refine dV rfl (by exact jG rfl rfl) ?_;refine dV rfl (by exact aT T rfl rfl rfl rfl rfl (by omega) (by omega)) ?_;refine dE ?_;refine bC T rfl rfl rfl rfl rfl rfl (by decide) (nJ rfl qc rfl) (aV ?_))|(refine rg 23 (vV (bA T rfl rfl rfl rfl) (mW rfl (bC T rfl rfl rfl rfl rfl rfl (by decide) rfl (aV ?_)))))|refine nZ ?_));all_goals first|omega | exact ⟨.inl rfl,[3,4],_,rfl,rfl,rfl,⟨.inr (aC rfl rfl (bF _)),.inr (aC rfl (ctn z1 z2) (fO _)),trivial⟩,by decide,jP _⟩
 by_cases k3:sk=3
 ·rw [if_neg k0,if_neg k1,if_neg k2,if_pos k3];have hhs:=zZ2 r1 r2 sn;unfold sC;dsimp only;generalize yU r1 r2 sn=hb' at *
  (repeat' (first|refine wS ?_|refine wR ?_|refine wT ?_|refine wU ?_|(refine rg 4 (vV (gR rfl rfl (by omega)) (aV ?_)))|(refine rg 10 (vV (gR rfl rfl (by omega)) (aV ?_)))|(refine rg 16 (vV (gR rfl rfl (by omega)) (aV ?_)))|(refine rg 18 (vV (jL rfl rfl (by omega)) (aV ?_)))|(refine cH (id:=19) 153 [[],[0],[],[0,1,2],rN 4,[],[5],rN 7] (rM 123 8) [[],[],[123,124],[],[],rM 123 5,rM 123 5,[]] cP rfl (by decide +kernel) (dP T rfl (dO T rfl (dN rfl (dV rfl (by exact aT T rfl rfl rfl rfl rfl (by omega) (by omega)) ?_))));refine dV rfl (by exact bA T rfl rfl (bX rfl qc) rfl) ?_;refine dP T rfl (dO T rfl (dV rfl (kC (hhs)) (dE ?_)));refine aV ?_)|(refine rg 20 (fW T rfl (vV (bA T rfl rfl rfl rfl) (mW rfl (fW T rfl (vV (bA T rfl rfl rfl rfl) (fW T rfl (vV (bA T rfl rfl rfl rfl) (vV (cK rfl rfl (by omega) (by omega)) (vV (by exact eT T rfl rfl rfl rfl) ?_)))))))));refine vV (by exact aT T rfl rfl rfl rfl rfl (by omega) (by omega)) ?_;refine bC T rfl rfl rfl rfl rfl rfl (by decide) (nJ rfl qc rfl) ?_)|(refine rg 23 (vV (bA T rfl rfl rfl rfl) (mW rfl (bC T rfl rfl rfl rfl rfl rfl (by decide) rfl (aV ?_)))))|refine nZ ?_));all_goals first|omega | exact ⟨.inl rfl,[3,4],_,rfl,rfl,rfl,⟨.inr (aC rfl rfl (bF _)),.inr (aC rfl (ctn sn (sn+1)) (fO _)),trivial⟩,by decide,jP _⟩
 by_cases k5:sk=5
 ·rw [if_neg k0,if_neg k1,if_neg k2,if_neg k3,if_pos k5];dsimp only
  (repeat' (first|refine wS ?_|refine wR ?_|refine wT ?_|refine wU ?_|(refine rg 4 (vV (gR rfl rfl (by omega)) (aV ?_)))|(refine rg 10 (vV (gR rfl rfl (by omega)) (aV ?_)))|(refine rg 16 (vV (gR rfl rfl (by omega)) (aV ?_)))|(refine rg 18 (vV (gR rfl rfl (by omega)) (aV ?_)))|(refine rg 21 (vV (jL rfl rfl (by omega)) (aV ?_)))|(refine cH (id:=22) 153 [[],[0],[],[0,1,2],rN 4,[],[5],rN 7] (rM 143 8) [[],[],[143,144],[],[],rM 143 5,rM 143 5,[]] cP rfl (by decide +kernel) (dP T rfl (dO T rfl (dN rfl (dV rfl (by exact aT T rfl rfl rfl rfl rfl (by omega) (by omega)) ?_))));refine dV rfl (by exact bA T rfl rfl (bX rfl qp) rfl) ?_;refine dP T rfl (dO T rfl (dV rfl (fB rfl rfl) (dE ?_)));refine aV ?_)|(refine rg 23 (vV (bA T rfl rfl rfl rfl) (mW rfl (bC T rfl rfl rfl rfl rfl rfl (by decide) rfl (aV ?_)))))|refine nZ ?_));all_goals first|omega | exact ⟨.inl rfl,[3,4],_,rfl,rfl,rfl,⟨.inr (aC rfl rfl (bF _)),.inr (aC rfl rfl (fO _)),trivial⟩,by decide,jP _⟩
 ·rw [if_neg k0,if_neg k1,if_neg k2,if_neg k3,if_neg k5]
  (repeat' (first|refine wS ?_|refine wK ?_|refine wR ?_|refine wU ?_|(refine rg 4 (vV (gR rfl rfl (by omega)) (aV ?_)))|(refine rg 10 (vV (gR rfl rfl (by omega)) (aV ?_)))|(refine rg 16 (vV (gR rfl rfl (by omega)) (aV ?_)))|(refine rg 18 (vV (gR rfl rfl (by omega)) (aV ?_)))|(refine rg 21 (vV (gR rfl rfl (by omega)) (aV ?_)))|(refine rg 23 (lW T rfl (mW rfl (bC T rfl rfl rfl rfl rfl rfl (by decide) rfl (aV ?_)))))|refine nZ ?_));all_goals first|omega | exact ⟨.inl rfl,[3,4],_,rfl,rfl,rfl,⟨.inr (aC rfl rfl (bF _)),.inr (aC rfl rfl (fO _)),trivial⟩,by decide,jP _⟩
end Go.Proofs.Q
namespace Go.Ld
open Go.Ab Go.Proofs.Q
theorem LU (c:Cx) (w:W) (i:Nat) (s:Ev):(kV c w i s).1.1=w.1∧(kV c w i s).1.2.2.length=w.2.2.length:=by
 unfold kV sC;dsimp only
 repeat' split
 all_goals exact ⟨rfl,by first|rfl | exact hC⟩
theorem yY4:∀ i:Nat,i<3→([0,1,2]:List Nat)[i]? = some i:=by decide
theorem zN1 {r:Int}{L:List AV}(h:AV.idfL L=true):AV.idfL [AV.pr [.i r] 0,.pr [.pr L 0] 0]=true:=by simp [AV.idfL,AV.idf,h]
theorem vH {h:Hp}{i:Nat}{θ:Nat→Nat}{cs:List AV}(hk:h[i]? = some (.cells cs)) (hi:AV.idfL cs=true):h[i]? = some ((AB.cells cs).map θ):=by
 rw [hk];show _=some (AB.cells (AV.mapL θ cs));rw [tT θ cs hi]
theorem JU {h:Hp}(x:W):oX h (.agg (wA x)) (.agg (wA x)):=.agg (.cons (.row _ _ _) (.cons (.v _) (.cons (.row _ _ _) .nil)))
end Go.Ld
namespace Go.Proofs.Q
open Go Go.Ab Go.Ld
attribute [local irreducible] VC AW bW aM
theorem zA3 {F:FuncId}{r:Int}{L:List AV}{q:W→Bool}(l:List W) (hl:l.length≤1000000) (hL:AV.idfL L=true) (hp:AV.plnL L=true) (hF:∀ x,x∈l→aM Tryz.prog F [.agg (wA x),.pr [.i r] 0,.pr [.pr L 0] 0] [] (.b (q x)) []) :
  aM Tryz.prog 147 [.sl 0 0 l.length 3,.clo (.func F) [] [.pr [.i r] 0,.ptr 1 0]] [.arr (gN l) 3,.cells [.ptr 2 0],.cells L] (.sl 0 0 (gS q l).length 3) [.arr (gN (gS q l)) 3,.cells [.ptr 2 0],.cells L]:=by
 have hll:(gN l).length=l.length:=fQ l;have hi:AV.idfL [AV.pr [.i r] 0,.pr [.pr L 0] 0]=true:=zN1 hL;have hix:=zM0 hl hi hF;have hvc:∀ {X:AB} {Y:Hp},mM (X :: .cells [.ptr 2 0] :: .cells L::Y) [AV.pr [.i r] 0,.ptr 1 0] [.pr [.i r] 0,.pr [.pr L 0] 0]:=fun {X Y}=>.cons (.pr _ _) (.cons (.ptr rfl (.cons (.ptr rfl (lK _ hp)) .nil)) .nil);have hvw:oX [.arr (gN l) 3,.cells [.ptr 2 0],.cells L] (.sl 0 0 l.length 3) (.rowE (gN l) 3):=pD rfl hll.symm (rR (fun _=>rfl) _);refine bS T Tryz.func147 rfl rfl rfl rfl ?_;rcases I9 q l 0 with ⟨h1,h2⟩ | ⟨j,hj,h1,h2,h3⟩
 ·rw [h1] at hix;have hk:gS q l=l:=nC.2 fun x hx=>by rw [h2 x hx];rfl
  rw [hk]
  (repeat' (first|refine wS ?_|refine wR ?_|refine wT ?_|(refine rg 0 (aV ?_))|(refine rg 1 (dJ rfl (vV (by exact eH rfl rfl hix (.cons hvw (.cons (.clo .nil hvc) .nil)) rfl rfl) ?_));refine aV ?_)|(refine rg 2 (mW rfl (vV (fB rfl rfl) ?_)))|(refine rg 3 (mW rfl (aV ?_)))|refine nZ ?_));all_goals first|omega | exact ⟨.inl rfl,[0,1,2],_,rfl,rfl,rfl,⟨.inr (aC rfl rfl (bY _)),.inr rfl,.inr (vH rfl hL),trivial⟩,by decide,yY4⟩
 ·rw [h1,Nat.zero_add] at hix;have hk0:gS q (l.take (j+1))=l.take j:=by
   rw [zS hj,if_pos h2];exact nC.2 fun x hx=>by rw [h3 x hx];rfl
  have hkl:(gS q (l.take (j+1))).length=j:=by rw [hk0];simp;omega
  have hka:gS q (l.take (j+1))++l.drop (gS q (l.take (j+1))).length=l:=by rw [hkl,hk0,bK]
  have hkf:gS q l=gS q (l.take l.length):=by rw [cM]
  rw [hkf]
  (repeat' (first|refine wS ?_|refine wB ?_|refine wK ?_|refine wU ?_|(refine rg 0 (aV ?_))|(refine rg 1 (dJ rfl (vV (by exact eH rfl rfl hix (.cons hvw (.cons (.clo .nil hvc) .nil)) rfl rfl) ?_));refine aV ?_)|(refine rg 2 (mW rfl (vV (fB rfl rfl) ?_)))|(refine iA 4 rfl rfl rfl (by omega) (by omega) ?_)|refine nZ ?_));all_goals try omega
  refine dI (X:={m:Nat // m≤l.length}) (fun m=>[(0,.sl 0 0 l.length 3),(1,.clo (.func F) [] [.pr [.i r] 0,.ptr 1 0]),(5,.i (gS q (l.take m.1)).length),(6,.i m.1)]) (fun m=>[.arr (gN (gS q (l.take m.1)++l.drop (gS q (l.take m.1)).length)) 3,.cells [.ptr 2 0],.cells L]) (fun m=>l.length-m.1) ⟨j+1,hj⟩ ⟨[0,1,2],rfl,⟨rfl,rfl,by dsimp only;rw [hkl];rfl,rfl,trivial⟩,⟨.inr (aC rfl (by dsimp only;rw [hka]) (bY _)),.inr rfl,.inr (vH rfl hL),trivial⟩,by decide,yY4⟩ ?_
  rintro ⟨m,hm⟩;dsimp only;have hle:=PJ q l m;by_cases hlt:m<l.length
  ·have hs:=zS (q:=q) hlt;have hget:=UK (G:=gS q (l.take m)) (l:=l) (m:=m) (i:=0+(m:Int).toNat) hle hlt (by omega)
   have hg2:=UK (G:=gS q (l.take m)) (l:=l) (m:=(gS q (l.take m)).length) (i:=0+(((gS q (l.take m)).length:Nat):Int).toNat) (aX _) (by omega) (by omega)
   rw [pZ hlt] at hget;have hset:=yO0 (G:=gS q (l.take m)) (l:=l) (x:=l[m]) (j:=(((gS q (l.take m)).length:Nat):Int)) (by omega) rfl
   have hc:=hF l[m] (aO hlt);have hal:=ZA (G:=gS q (l.take m)) (l:=l) (by omega)
   generalize l[m]=x at *;generalize l.getD (gS q (l.take m)).length w0=y at *;generalize hG:gS q (l.take m)=G at *;generalize hA:gN (G++l.drop G.length)=A at *;cases e:q x
   ·rw [e] at hc hs;rw [if_neg (by simp)] at hs
    (repeat' (first|refine wS ?_|refine wB ?_|refine wK ?_|refine wT ?_|(refine wC rfl ?_ ?_<;>(intro hb;(try simp only [nm] at hb);try omega))|(refine rg 5 (dJ rfl (qW T rfl (vV (aK rfl rfl) ?_))))|(refine rg 7 (dJ rfl (vV (by exact aT T rfl rfl rfl rfl rfl (by omega) (by omega)) ?_));refine vV (by exact bA T rfl rfl (bX rfl hget) rfl) ?_;refine cO (cN T rfl) rfl (bC T rfl rfl rfl rfl rfl rfl (by decide) rfl ?_))|(refine rg 8 (mW rfl (vV (bA T rfl rfl rfl rfl) (vV (by exact eH rfl rfl hc (.cons (JU x) hvc) rfl rfl) ?_)));refine vV (dS rfl) ?_)|(refine rg 9 (dJ rfl (vV (bA T rfl rfl rfl rfl) (vV (by exact aT T rfl rfl rfl rfl rfl (by omega) (by omega)) ?_)));refine bC T rfl rfl rfl rfl rfl rfl (by decide) (nJ rfl hg2 rfl) ?_)|(refine iA 10 rfl rfl rfl (by omega) (by omega) ?_)|(refine iA 6 rfl rfl rfl (by omega) (by omega) ?_)|refine nZ ?_));all_goals try omega
    all_goals exact ⟨⟨m+1,hlt⟩,by dsimp only;omega,[0,1,2],rfl,⟨rfl,rfl,by rw [hs];simp only [aD];rfl,rfl,trivial⟩,⟨.inr (aC rfl (by rw [hs];exact hset) (bY _)),.inr rfl,.inr (vH rfl hL),trivial⟩,by decide,yY4⟩
   ·rw [e] at hc hs;rw [if_pos rfl] at hs
    (repeat' (first|refine wS ?_|refine wB ?_|refine wK ?_|refine wU ?_|(refine wC rfl ?_ ?_<;>(intro hb;(try simp only [nm] at hb);try omega))|(refine rg 5 (dJ rfl (qW T rfl (vV (aK rfl rfl) ?_))))|(refine rg 7 (dJ rfl (vV (by exact aT T rfl rfl rfl rfl rfl (by omega) (by omega)) ?_));refine vV (by exact bA T rfl rfl (bX rfl hget) rfl) ?_;refine cO (cN T rfl) rfl (bC T rfl rfl rfl rfl rfl rfl (by decide) rfl ?_))|(refine rg 8 (mW rfl (vV (bA T rfl rfl rfl rfl) (vV (by exact eH rfl rfl hc (.cons (JU x) hvc) rfl rfl) ?_)));refine vV (dS rfl) ?_)|(refine iA 6 rfl rfl rfl (by omega) (by omega) ?_)|refine nZ ?_));all_goals try omega
    all_goals exact ⟨⟨m+1,hlt⟩,by dsimp only;omega,[0,1,2],rfl,⟨rfl,rfl,by rw [hs];rfl,rfl,trivial⟩,⟨.inr (aC rfl (by rw [hs];exact hA.symm) (bY _)),.inr rfl,.inr (vH rfl hL),trivial⟩,by decide,yY4⟩
  ·obtain rfl:m=l.length:=by omega
   have hal:=ZA (G:=gS q (l.take l.length)) (l:=l) (by omega)
   have htk:=zE4 (G:=gS q (l.take l.length)) (l:=l);generalize gS q (l.take l.length)=G at *
   (repeat' (first|refine wS ?_|refine wR ?_|refine wE ?_|(refine wC rfl ?_ ?_<;>(intro hb;(try simp only [nm] at hb);try omega))|(refine rg 5 (dJ rfl (qW T rfl (vV (aK rfl rfl) ?_))))|(refine rg 11 (dJ rfl (vV (by exact kB T rfl rfl rfl rfl rfl rfl (by omega) (by omega) (by omega)) ?_));refine V9 T rfl rfl rfl ⟨rfl,rfl,by decide⟩ rfl (by rw [hal];omega) ?_)|(refine rg 12 (dJ rfl (vV (by exact kB T rfl rfl rfl rfl rfl rfl (by omega) (by omega) (by omega)) ?_));refine aV ?_)|refine nZ ?_));all_goals try omega
   all_goals exact ⟨.inl rfl,[0,1,2],_,rfl,(by show AV.sl 0 0 ((G.length:Int)-0).toNat 3=AV.sl 0 0 G.length 3;rw [show ((G.length:Int)-0).toNat=G.length by omega]),rfl,⟨.inr (aC rfl htk (bY _)),.inr rfl,.inr (vH rfl hL),trivial⟩,by decide,yY4⟩
end Go.Proofs.Q
namespace Go.Ab
open Go
theorem UN {P:Program}{f:FuncId}{args:List AV}{hin hout:Hp}{es:List (List AV)}{len sz k:Nat}(hk:k=hout.length) (hn:len=es.length) (hi:AV.idfL es.flatten=true) (h:aM P f args hin (.sl k 0 len sz) (hout++[.arr es sz])):aM P f args hin (.rowE es sz) (hout++[.gone]):=by
 refine ⟨h.1,fun ρ S w vs hs ha=>(h.2 ρ S w vs hs ha).mono ?_⟩;rintro e w' ⟨y,ρ',S',rfl,h2,h3⟩;rw [hn] at h3;have hb:(hout++[AB.arr es sz])[k]? = some (.arr es sz):=by subst hk;simp
 have e:(hout++[AB.arr es sz]).set k .gone=hout++[.gone]:=by subst hk;simp
 exact ⟨y,_,_,rfl,e▸h2.freeze (k:=k) hb,J1 hi (h2.blk k _ hb) h3⟩
theorem O6 (L:List Nat):∀ i:Nat,i<1→(0::L)[i]? = some i:=fun i hi=>by cases i with | zero=>rfl | succ i=>omega
end Go.Ab
namespace Go.Proofs.Q
open Go Go.Ab Go.Ld
attribute [local irreducible] VC AW bW aM
theorem zX2 (c:Cx) (gs all:List G){n:Nat}(ok:oZ n all) (up:RF all) (hne:∀ g,g∈all→g.2≠[]) :
  aM Tryz.prog 96 [.ptr 0 0,.rowE (kY all) 2] [.cells (jY c gs)] (.rowE (kY (xI c all)) 2) [.cells (jY c gs),.gone]:=by
 have h12:all.length≤12:=bL ok.len ok.ln;have hal:(kY all).length=all.length:=jX _;have hlb:∀ g,g∈all→0≤gW g∧gW g≤4000000:=fun g hg=>IL (ok.ok g hg) (hne g hg);have hsb:=KA hlb;refine UN (k:=1) (hout:=[.cells (jY c gs)]) rfl (by rw [jX]:(xI c all).length=(kY (xI c all)).length) (eX (eR _)) ?_
 refine bS T Tryz.func96 rfl rfl rfl rfl ?_
 repeat' (first|refine wS ?_|(refine rg 0 (cO (dR rfl rfl) rfl (aV ?_)))|(refine rg 1 (aV ?_))|refine nZ ?_)
 (repeat' (first|refine wB ?_|(refine rg 2 (mW rfl (qW T rfl (mV ?_))))|refine nZ ?_));refine dI (X:={k:Nat // k≤all.length}) (fun k=>[(1,.rowE (kY all) 2),(2,.ptr 1 0),(5,.i (kL (all.take k.1))),(16,.rowE (kY all) 2),(17,.i (kY all).length),(18,.i k.1)]) (fun _=>[.cells (jY c gs),.cells [.ptr 0 0]]) (fun k=>all.length-k.1) ⟨0,bZ _⟩ ⟨[0,1],rfl,(by repeat first|exact trivial|refine ⟨rfl,?_⟩),⟨.inr rfl,.inr rfl,trivial⟩,by decide,O6 _⟩ ?_
 rintro ⟨k,hk⟩;dsimp only;by_cases hlt:k<all.length
 ·have hg:=LC hlt;have hs:=zF1 hlt;have hb:=KA (l:=all.take k) fun g hg=>hlb g (eJ hg);have hkl:(all.take k).length≤12:=by rw [aY];omega
  have hl1:=hlb _ (aO hlt);have hc:=VV all[k] (hne _ (aO hlt)) (by have:=ok.ws _ (aO hlt);omega)
  generalize all[k]=g at *;generalize kL (all.take k)=S at *;generalize gW g=v at *
  (repeat' (first|refine wS ?_|refine wB ?_|refine wK ?_|(refine wC rfl ?_ ?_<;>(intro hb;(try simp only [nm] at hb);try omega))|(refine rg 3 (vV (aK rfl rfl) ?_))|(refine rg 4 (vV (ix T rfl (by omega) (sW _) hg) (lW T rfl (cO (cN T rfl) rfl (bC T rfl rfl rfl rfl rfl rfl (by decide) rfl ?_)))))|(refine rg 5 (mW rfl (lW T rfl (vV (kC (hc)) (vV (cK rfl rfl (by omega) (by omega)) (aV ?_))))))|(refine rg 6 (vV (cK rfl rfl (by omega) (by omega)) (mV ?_)))|refine nZ ?_));all_goals first|omega | exact ⟨⟨k+1,hlt⟩,by dsimp only;omega,[0,1],rfl,⟨rfl,rfl,by dsimp only;rw [hs];rfl,rfl,rfl,rfl,trivial⟩,⟨.inr rfl,.inr rfl,trivial⟩,by decide,O6 _⟩
 obtain rfl:k=all.length:=by omega
 rw [cM]
 (repeat' (first|refine wS ?_|refine wB ?_|refine wE ?_|(refine wC rfl ?_ ?_<;>(intro hb;(try simp only [nm] at hb);try omega))|(refine rg 3 (vV (aK rfl rfl) ?_))|(refine rg 7 (vV (eD rfl) (oF 8 2 rfl (by decide) ?_)))|(refine rg 8 (mW rfl (qW T rfl (mV ?_))))|refine nZ ?_));all_goals try omega
 refine dI (X:={k:Nat // k≤all.length}) (fun k=>[(2,.ptr 1 0),(5,.i (kL all)),(8,.sl 2 0 k.1 2),(27,.rowE (kY all) 2),(28,.i (kY all).length),(29,.i k.1)]) (fun k=>[.cells (jY c gs),.cells [.ptr 0 0],.arr (kY ((paid c all).take k.1)) 2]) (fun k=>all.length-k.1) ⟨0,bZ _⟩ ⟨[0,1,2],rfl,(by repeat first|exact trivial|refine ⟨rfl,?_⟩),⟨.inr rfl,.inr rfl,.inr rfl,trivial⟩,by decide,O6 _⟩ ?_
 clear hk hlt;rintro ⟨k,hk⟩;dsimp only;have hpl:=zJ4 c all;by_cases hlt:k<all.length
 ·have hg:=LC hlt;have hp:=YJ (c:=c) hlt;have hl1:=hlb _ (aO hlt);have hgo:=ok.ok _ (aO hlt);have hgw:=ok.ws _ (aO hlt);have hc:=VV all[k] (hne _ (aO hlt)) (by omega)
  have htl:((paid c all).take k).length=k:=by rw [aY];omega
  generalize (paid c all).take k=Q at *;generalize all[k]=g at *;obtain ⟨bs,ws⟩:=g;dsimp only at hgw hp;generalize hv:gW (bs,ws)=v at *;generalize kL all=S at *;have hcl:=QL ws (by omega)
  have hd:=zA3 (r:=S-v) (L:=jY c gs) (q:=fun w=>decide (w.2.1+(S-v) > c.m)) ws (by omega) rfl rfl (fun x hx=>zX4 c gs x (S-v) ⟨(hgo.ws x hx).m0,(hgo.ws x hx).m1⟩ (by omega))
  generalize gS (fun w=>decide (w.2.1+(S-v) > c.m)) ws=ws' at *;have hQl:(kY Q).length=k:=by rw [jX,htl]
  have hQ:kY (Q++[(bs,ws')])=kY Q++[[.rowE (ints bs) 1,.rowE (gN ws') 3]]:=by rw [kY,bU];rfl
  rw [← hp] at hQ;generalize kY Q=Q' at *
  (repeat' (first|refine wS ?_|refine wB ?_|refine wK ?_|(refine wC rfl ?_ ?_<;>(intro hb;(try simp only [nm] at hb);try omega))|(refine rg 9 (vV (aK rfl rfl) ?_))|(refine rg 10 (vV (ix T rfl (by omega) (sW _) hg) (lW T rfl (cO (cN T rfl) rfl (bC T rfl rfl rfl rfl rfl rfl (by decide) rfl ?_)))))|(refine rg 11 (mW rfl (lW T rfl (vV (kC (hc)) (vV (dC rfl rfl (by omega) (by omega)) (cO (cN T rfl) rfl (bC T rfl rfl rfl rfl rfl rfl (by decide) rfl ?_)))))))|refine nZ ?_));all_goals try omega
  refine iG 11 rfl rfl rfl ?_
  repeat' (first|(refine rg 12 (iK T rfl (cO (by exact gH rfl rfl hcl (.inr ⟨rfl,rfl,by simp⟩)) rfl ?_));refine vV (by exact kT rfl rfl) ?_;refine bT [5,1,0] rfl rfl (hd) rfl rfl (by decide) ⟨.inr (aC rfl (bB _ (bY _)) (bY _)),.inr rfl,.inr rfl,trivial⟩ (by simp) rfl ?_;refine nI (es:=gN ws') 41 rfl (congrArg (fun x=>some (AB.arr x 3)) (bB _ (bY _))) (fQ _).symm (eX (bY _)) ?_;refine fW T rfl (bC T rfl rfl rfl rfl rfl rfl (by decide) rfl ?_))|(refine rg 13 (mW rfl (lW T rfl (cO (by exact bG T rfl rfl (by decide) (by decide) rfl rfl rfl) rfl ?_)));refine gJ T rfl rfl rfl rfl rfl rfl (by omega) (kK.whole rfl rfl) rfl (by simp;omega) (by simp;omega) rfl ?_;refine aV ?_)|(refine rg 14 (vV (cK rfl rfl (by omega) (by omega)) (mV ?_)))|refine nZ ?_)
  show ∃ x',_;exact ⟨⟨k+1,hlt⟩,by dsimp only;omega,⟨[0,1,7],rfl,(by repeat first|exact trivial|refine ⟨rfl,?_⟩),⟨.inr rfl,.inr rfl,.inr (aC rfl (by dsimp only;rw [hQ];exact jW hQl.symm) (eR _)),trivial⟩,by decide,O6 _⟩⟩
 obtain rfl:k=all.length:=by omega
 rw [← hpl,cM,hpl];have pok:=ok.paid c;have pst:=qM.start pok (UV up (c:=c));rw [← hpl];generalize hL:paid c all=L at *;rw [show xI c all=sK L by rw [← hL];rfl]
 (repeat' (first|refine wS ?_|refine wB ?_|refine wE ?_|(refine wC rfl ?_ ?_<;>(intro hb;(try simp only [nm] at hb);try omega))|(refine rg 9 (vV (aK rfl rfl) ?_))|(refine rg 15 (aV ?_))|refine nZ ?_));all_goals try omega
 refine dI (X:={q:List G × Nat // qM n L q.1 q.2}) (fun q=>[(8,.sl 1 0 q.1.1.length 2),(12,.i q.1.2)]) (fun q=>[.cells (jY c gs),.arr (kY q.1.1) 2]) (fun q=>100*yJ6 q.1.1+(q.1.1.length-q.1.2)) ⟨(L,0),pst⟩ ⟨[0,2],rfl,(by repeat first|exact trivial|refine ⟨rfl,?_⟩),⟨.inr rfl,.inr (aC rfl rfl (eR _)),trivial⟩,by decide,O6 _⟩ ?_
 clear hsb hlb hne h12 hal pok up ok;rintro ⟨⟨o,i⟩,hq⟩;dsimp only at hq ⊢;have hol:(kY o).length=o.length:=jX _;have ho12:o.length≤12:=bL hq.ok.len hq.ok.ln;have hio:=hq.hi;by_cases hlt:i<o.length
 ·have hgi:o[i]? = some o[i]:=aB hlt;have hgm:=aO hlt;generalize o[i]=g at *;have hgo:=hq.ok.ok g hgm;have hgw:=hq.ok.ws g hgm;have hsz:=hgo.sz hgw;have q1:=F1 (L:=o) (j:=(i:Int)) (i:=i) hgi rfl;have hcc:=zA7 g hsz;cases hcr:iS g with
  | none=>
   have hk:=hq.keep hgi hcr;rw [show F9 g = -1 by unfold F9;rw [hcr]] at hcc
   (repeat' (first|refine wS ?_|refine wB ?_|refine wK ?_|refine wU ?_|(refine wC rfl ?_ ?_<;>(intro hb;(try simp only [nm] at hb);try omega))|(refine rg 16 (dJ rfl (qW T rfl (vV (aK rfl rfl) ?_))))|(refine rg 18 (dJ rfl (vV (by exact aT T rfl rfl rfl rfl rfl (by omega) (by omega)) ?_));refine vV (by exact bA T rfl rfl (bX rfl q1) rfl) ?_;refine vV (kC (hcc)) (aV ?_))|(refine rg 19 (mW rfl (vV (iR rfl rfl) ?_)))|(refine iA 17 rfl rfl rfl (by omega) (by omega) ?_)|refine nZ ?_));all_goals try omega
   exact ⟨⟨(o,i+1),hk⟩,by dsimp only;omega,⟨[0,1],rfl,(by repeat first|exact trivial|refine ⟨rfl,?_⟩),⟨.inr rfl,.inr (aC rfl rfl (eR _)),trivial⟩,by decide,O6 _⟩⟩
  | some k=>
   have hk:=hq.next hgi hcr
   obtain ⟨f1,f2,f3,_⟩:=kO hcr;have hwg:=zK5 hgi hcr;have hno:=VQ hq.ok hgi hcr;have hsp:=zX9 g hsz f3 f1 f2 (by omega)
   have hll:(o.set i (kG g k)++[oG g k]).length=o.length+1:=by simp
   have hso:=zY1 (o.set i (kG g k)++[oG g k]) hno.dist (by have:=hno.len;have:=hno.ln;omega) hno.hd
   have hw2:yJ6 (IE o i k g)=yJ6 (o.set i (kG g k)++[oG g k]):=zD2 (dW _ _);have hl2:(IE o i k g).length=o.length+1:=by rw [IE,(dW _ _).length_eq,hll]
   rw [show F9 g=(k:Int) by unfold F9;rw [hcr]] at hcc
   have t1:=R3 (L:=o) (j:=(i:Int)) (i:=i) (x:=kG g k) rfl;have e1:kY (o.set i (kG g k)++[oG g k])=(kY o).set (0+(i:Int).toNat) (gA (kG g k))++[gA (oG g k)]:=by rw [t1,kY,bU];rfl
   have e2:((kY o).set (0+(i:Int).toNat) (gA (kG g k))).length=o.length:=by rw [hC,hol]
   change aM _ _ _ _ _ [.arr (kY (IE o i k g)) 2] at hso;rw [hll] at hso;generalize IE o i k g=o' at *;generalize hN:o.set i (kG g k)++[oG g k]=N at *;generalize kG g k=r at *;generalize oG g k=u at *;obtain ⟨rb,rw_⟩:=r;obtain ⟨ub,uw⟩:=u
   (repeat' (first|refine wS ?_|refine wB ?_|refine wK ?_|refine wT ?_|(refine wC rfl ?_ ?_<;>(intro hb;(try simp only [nm] at hb);try omega))|(refine rg 16 (dJ rfl (qW T rfl (vV (aK rfl rfl) ?_))))|(refine rg 18 (dJ rfl (vV (by exact aT T rfl rfl rfl rfl rfl (by omega) (by omega)) ?_));refine vV (by exact bA T rfl rfl (bX rfl q1) rfl) ?_;refine vV (kC (hcc)) (aV ?_))|(refine rg 19 (mW rfl (vV (iR rfl rfl) ?_)))|(refine rg 20 (dJ rfl (vV (by exact aT T rfl rfl rfl rfl rfl (by omega) (by omega)) ?_));refine vV (by exact bA T rfl rfl (bX rfl q1) rfl) ?_;refine mW rfl (vV (kC (hsp)) (mW rfl (xW rfl (xW rfl (cO (cN T rfl) rfl (cO (cN T rfl) rfl (bC T rfl rfl rfl rfl rfl rfl (by decide) rfl (bC T rfl rfl rfl rfl rfl rfl (by decide) rfl ?_)))))))))|(refine rg 21 (dJ rfl (vV (bA T rfl rfl rfl rfl) (vV (by exact aT T rfl rfl rfl rfl rfl (by omega) (by omega)) ?_)));refine bC T rfl rfl rfl rfl rfl rfl (by decide) (nJ rfl q1 rfl) ?_)|(refine rg 22 (mW rfl (vV (bA T rfl rfl rfl rfl) (cO (by exact bG T rfl rfl (by decide) (by decide) rfl rfl rfl) rfl ?_)));refine gJ T rfl rfl rfl rfl rfl rfl (by simp) (kK.whole rfl rfl) rfl (by simp;omega) (by simp;omega) rfl ?_;refine aV ?_)|refine nZ ?_));all_goals try omega
   refine fF [(8,.sl 1 0 (o.length+1) 2),(12,.i i)] [.cells (jY c gs),.arr (kY N) 2] ⟨[0,5],rfl,(by repeat first|exact trivial|refine ⟨rfl,?_⟩),⟨.inr rfl,.inr (aC rfl (by rw [e1];exact jW e2.symm) (eR _)),trivial⟩,by decide,O6 _⟩ ?_
   (repeat' (first|(refine rg 23 (mW rfl (bT [1] rfl rfl (hso) rfl rfl (by decide) ⟨.inr (aC rfl rfl (eR _)),trivial⟩ (by simp) rfl ?_)))|(refine rg 24 (aV ?_))|(refine iA 17 rfl rfl rfl (by omega) (by omega) ?_)|refine nZ ?_));all_goals try omega
   exact ⟨⟨(o',0),hk⟩,by dsimp only;omega,⟨[0,1],rfl,⟨by dsimp only;rw [hl2];rfl,rfl,trivial⟩,⟨.inr rfl,.inr (aC rfl (bB _ (eR _)) (eR _)),trivial⟩,by decide,O6 _⟩⟩
 ·have hfin:=hq.fin (by omega)
  rw [hfin]
  (repeat' (first|refine wS ?_|refine wR ?_|refine wE ?_|(refine wC rfl ?_ ?_<;>(intro hb;(try simp only [nm] at hb);try omega))|(refine rg 16 (dJ rfl (qW T rfl (vV (aK rfl rfl) ?_))))|(refine rg 25 (mW rfl (aV ?_)))|refine nZ ?_));all_goals first|omega | exact ⟨.inl rfl,[0,1],_,rfl,rfl,rfl,⟨.inr rfl,.inr (aC rfl rfl (eR _)),trivial⟩,by decide,O6 _⟩
end Go.Proofs.Q
namespace Go.Ld
open Go.Ab Go.Proofs.Q
structure pA (c:Cx) (M:Int) (gs:List G):Prop where
 out:oZ c.bs.length gs
 up:RF gs
 ne:∀ g,g∈gs→g.2≠[]
 ml:∀ g,g∈gs→∀ w,w∈g.2→w.2.1≤M
 cov:(gs.flatMap (·.1)).Perm (nats (List.range c.bs.length))
 idn:(gs.flatMap fun g=>(iV g).1).Perm (nats (List.range c.bs.length))
 wl:∀ g,g∈gs→g.2.length≤1000
structure qH (c:Cx) (gs:List G):Prop where
 mid:pA c c.m gs
 cer:∀ g,g∈gs→iS g=none
 asc:∀ g,g∈gs→g.2.Pairwise fun a b=>pY a b<0
theorem I2 (n:Nat):(nats (List.range n)).Nodup:=List.Pairwise.map (R:=fun a b=>a≠b) _ (fun a b h e=>h (Int.ofNat.inj e)) yJ1
theorem yI {n:Nat}{b:Int}:b∈nats (List.range n)↔0≤b∧b<n:=by
 constructor
 ·intro h;obtain ⟨i,hi,rfl⟩:=bD.1 h;have:=fG.1 hi;exact ⟨by omega,by omega⟩
 ·intro h;exact bD.2 ⟨b.toNat,fG.2 (by omega),by omega⟩
theorem pA.find {c:Cx}{M:Int}{gs:List G}(h:pA c M gs){b:Int}(hb:0≤b∧b<c.bs.length):∃ g,g∈gs∧b∈g.1:=by
 have:=h.cov.mem_iff.2 (yI.2 hb);obtain ⟨g,hg,hbg⟩:=gO.1 this;exact ⟨g,hg,hbg⟩
theorem HU {α:Type}{A B l:List Int}{x y:List α}{d:α}(hA:A.Nodup) (hB:B.Nodup) (dj:∀ b,b∈A→b∉B) (hl:l.Perm (A++B)) (hx:x.length=A.length) (hy:y.length=B.length) :
  (l.map fun k=>if k∈A then x.getD (A.idxOf k) d else y.getD (B.idxOf k) d).Perm (x++y):=by
 refine (hl.map _).trans ?_;rw [bU];have e1:A.map (fun k=>if k∈A then x.getD (A.idxOf k) d else y.getD (B.idxOf k) d)=x:=by
  refine lP (by simp [hx]) fun i h1 h2=>?_
  rw [qF,if_pos (aO _),hA.idxOf_getElem,aE,aB h2];rfl
 have e2:B.map (fun k=>if k∈A then x.getD (A.idxOf k) d else y.getD (B.idxOf k) d)=y:=by
  refine lP (by simp [hy]) fun i h1 h2=>?_
  have hb:B[i]'(by simpa using h1)∈B:=aO _
  rw [qF,if_neg (fun q=>dj _ q hb),hB.idxOf_getElem,aE,aB h2];rfl
 rw [e1,e2]
structure xS (n:Nat) (x y:G):Prop where
 gx:H2 n x
 gy:H2 n y
 nx:x.2≠[]
 ny:y.2≠[]
 dj:∀ b,b∈x.1→b∉y.1
 di:∀ b,b∈(iV x).1→b∉(iV y).1
 ln:x.1.length+y.1.length≤6
theorem I4 {x y:G}{w:W}(h:w∈(nG x y).2):∃ u v,u∈x.2∧v∈y.2∧w=L6 x y u v (nG x y).1:=by
 obtain ⟨u,hu,h⟩:=gO.1 h;obtain ⟨v,hv,h⟩:=bD.1 h;exact ⟨u,v,hu,hv,h.symm⟩
theorem nO (x y:G):(nG x y).1.Perm (x.1++y.1):=dW _ _
theorem xS.pair {n:Nat}{x y:G}(h:xS n x y){u v:W}(hu:u∈x.2) (hv:v∈y.2):(L6 x y u v (nG x y).1).1.Perm (u.1++v.1)∧(L6 x y u v (nG x y).1).2.2.Perm (u.2.2++v.2.2):=
 ⟨HU h.gx.nd h.gy.nd h.dj (nO x y) (h.gx.ws u hu).pl (h.gy.ws v hv).pl,HU h.gx.nd h.gy.nd h.dj (nO x y) (h.gx.ws u hu).cl (h.gy.ws v hv).cl⟩
theorem xS.same {n:Nat}{x y:G}(h:xS n x y){w:W}(hw:w∈(nG x y).2):w.1.Perm ((iV x).1++(iV y).1):=by
 obtain ⟨u,v,hu,hv,rfl⟩:=I4 hw;exact (h.pair hu hv).1.trans ((h.gx.same _ _ hu (jR h.nx)).append (h.gy.same _ _ hv (jR h.ny)))
theorem xS.ok {n:Nat}{x y:G}(h:xS n x y){M:Int}(h1:∀ w,w∈x.2→w.2.1≤M) (h2:∀ w,w∈y.2→w.2.1≤M) (hM:M≤2000000):H2 n (nG x y) where
 ne e:=by
  have:=(nO x y).length_eq;rw [e] at this;have:=eO.2 h.gx.ne;simp at *;omega
 up:=by
  have h1:=lZ sA (x.1++y.1);have hnd:(nG x y).1.Nodup:=(nO x y).nodup_iff.2 (dB.2 ⟨h.gx.nd,h.gy.nd,fun a ha b hb e=>h.dj a ha (e▸hb)⟩);refine (h1.and hnd).imp fun {a b} h=>?_
  have:=h.1;have:=h.2;unfold cI at *;by_cases e:a<b
  ·exact e
  ·rw [if_neg e] at *;by_cases e':b<a
   ·rw [if_pos e'] at *;omega
   ·omega
 rg b hb:=by
  rcases bH.1 ((nO x y).mem_iff.1 hb) with hb | hb
  ·exact h.gx.rg b hb
  ·exact h.gy.rg b hb
 ln:=by rw [(nO x y).length_eq,aD];exact h.ln
 ws w hw:=by
  have hs:=h.same hw;obtain ⟨u,v,hu,hv,rfl⟩:=I4 hw;obtain ⟨p1,p2⟩:=h.pair hu hv;have ou:=h.gx.ws u hu;have ov:=h.gy.ws v hv;refine ⟨aU _,aU _,fun b hb=>?_,hs.nodup_iff.2 (dB.2 ⟨(h.gx.ws _ (jR h.nx)).nd,(h.gy.ws _ (jR h.ny)).nd,fun a ha b hb e=>h.di a ha (e▸hb)⟩),?_,?_,fun r hr=>?_⟩
  ·rcases bH.1 (p1.mem_iff.1 hb) with hb | hb
   ·exact ou.pr b hb
   ·exact ov.pr b hb
  ·have:=ou.m0;have:=ov.m0;show 0≤u.2.1+v.2.1;omega
  ·have:=h1 u hu;have:=h2 v hv;show u.2.1+v.2.1≤4000000;omega
  ·rcases bH.1 (p2.mem_iff.1 hr) with hr | hr
   ·exact ou.sp r hr
   ·exact ov.sp r hr
 same w v hw hv:=(h.same hw).trans (h.same hv).symm
theorem zL9 {x y:G}(hx:x.2≠[]) (hy:y.2≠[]):(nG x y).2≠[]:=by
 show qQ x y _≠[];unfold qQ;cases hu:x.2 with
 | nil=>exact absurd hu hx
 | cons u l=>
  cases hv:y.2 with
  | nil=>exact absurd hv hy
  | cons v m=>simp
theorem IN (x y:G):(nG x y).2.length=x.2.length*y.2.length:=by
 show (qQ x y _).length=_;unfold qQ;generalize eN cI (x.1++y.1)=l
 induction x.2 with
 | nil=>simp
 | cons u m ih=>rw [bP,aD,ih,aU,List.length_cons,Nat.succ_mul,rI]
theorem mU {α:Type}{l:List α}{i k:Nat}{u v:α}(J:α) (hik:i<k) (hi:l[i]? = some u) (hk:l[k]? = some v):∃ P Q R,l=P++u::(Q++v::R)∧(l.set i J).eraseIdx k=P++J::(Q++R):=by
 obtain ⟨hl,e2⟩:=aA.1 hk;have hil:i<l.length:=by omega
 have e1:l[i]=u:=(aA.1 hi).2;have d1:l.drop i=u::l.drop (i+1):=by rw [aP hil,e1]
 have d2:l.drop k=v::l.drop (k+1):=by rw [aP hl,e2]
 have d3:l.drop (i+1)=(l.drop (i+1)).take (k-(i+1))++v::l.drop (k+1):=by
  have:l.drop (i+1)=(l.drop (i+1)).take (k-(i+1))++(l.drop (i+1)).drop (k-(i+1)):=(bK _ _).symm;rw [RP,show i+1+(k-(i+1))=k by omega,d2] at this
  exact this
 have e:l=l.take i++u::((l.drop (i+1)).take (k-(i+1))++v::l.drop (k+1)):=by
  rw [← d3,← d1,bK]
 refine ⟨_,_,_,e,?_⟩;have ht:(l.take i).length=i:=by rw [aY];omega
 have hq:((l.drop (i+1)).take (k-(i+1))).length=k-(i+1):=by rw [aY,dK];omega
 generalize l.take i=P at *;generalize (l.drop (i+1)).take (k-(i+1))=Q at *;generalize l.drop (k+1)=R at *;clear d1 d2 d3;subst e;rw [jC _ _ (by omega),show i-P.length=0 by omega,List.set_cons_zero,List.eraseIdx_append_of_length_le (by omega),show k-P.length=(k-(i+1))+1 by omega,List.eraseIdx_cons_succ,List.eraseIdx_append_of_length_le (by omega),hq,eI,List.eraseIdx_cons_zero]
theorem yI3 (l:List Int) (n:Int):yI4 l n=LZ l n:=by
 by_cases h:∀ i,i<l.length→BM l n i
 ·rw [FN h];unfold yI4;exact bJ.2 fun i hi=>decide_eq_true (h i (fG.1 hi))
 ·obtain ⟨i,hi⟩:=Classical.not_forall.1 h;obtain ⟨hi,ho⟩:=Classical.not_forall.1 hi;rw [LY hi ho];unfold yI4;unfold BM at ho;exact List.all_eq_false.2 ⟨i,fG.2 hi,fun q=>ho (of_decide_eq_true q)⟩
theorem yG9 {p q:Prop} [Decidable p] [Decidable q]:decide (p∧q)=(decide p&&decide q):=by simp
theorem sV (n k a b m:Int) (ids:List Int):iP n ⟨k,a,b,m,ids⟩=(jK a 0 (n-1)&&decide (k=0∨ids.length=0)&&decide (k=4∨b=0)&&(if k=0 then decide (m=0)&&LZ ids n else if k=1∨k=2∨k=3 then jK m 0 1099511627776 else if k=4 then decide (m=0)&&jK b (a+1) (n-1) else if k=5 then jK m 0 (n-1) else false)):=by
 unfold iP jK;simp only [yG9,yI3]
end Go.Ld
namespace Go.Proofs.Q
open Go Go.Ab Go.Ld
attribute [local irreducible] VC AW bW aM
theorem zH5 (n k a b m:Int) (ids:List Int) (hl:ids.length≤9223372036854775807) (hn:0≤n∧n≤1000) :
  aM Tryz.prog 89 [.i n,zG2 k a b m ids] [] (.b (iP n ⟨k,a,b,m,ids⟩)) []:=by
 have hil:(ints ids).length=ids.length:=by simp
 have ca:=vC a 0 (n-1);have cs:=JI ids n hl hn;cases hA:jK a 0 (n-1)
 ·rw [hA] at ca;have e:iP n ⟨k,a,b,m,ids⟩=(false):=by rw [sV];first|(rw [hA];rfl)|(rw [hAb];rcases h1 with h | h;(rw [decide_eq_false (by omega:¬ (k=0∨ids.length=0))];simp);(rw [decide_eq_false (by omega:¬ (k=4∨b=0))];simp))|(rw [hAb,decide_eq_true hid,decide_eq_true hbz];simp only [nH];first|rw [if_pos k0] | rw [if_neg k0,if_pos k1] | rw [if_neg k0,if_neg k1,if_pos k4] | rw [if_neg k0,if_neg k1,if_neg k4,if_pos k5] | rw [if_neg k0,if_neg k1,if_neg k4,if_neg k5])
  rw [e];refine bS T Tryz.func89 rfl rfl rfl rfl ?_
  (repeat' (first|refine wS ?_|refine wR ?_|refine wT ?_|(refine rg 0 (cO (dR rfl rfl) rfl (aV ?_)))|(refine rg 1 (iK T rfl (mW rfl (vV (dC rfl rfl (by omega) (by omega)) (vV (kC (ca)) (vV (dS rfl) (mV ?_))))));(iterate 4 refine gF ?_);(iterate 4 refine gU ?_);refine gF (pW rfl (mV ?_));(iterate 4 refine gF ?_);(iterate 3 refine gU ?_);refine gF (pV ?_))|(refine rg 2 (aV ?_))|refine nZ ?_));exact rQ
 ·rw [hA] at ca;have hAb:=hA;simp only [jK,aN,decide_eq_true_eq] at hA;by_cases h1:k≠0∧0<ids.length∨k≠4∧b≠0
  ·have e:iP n ⟨k,a,b,m,ids⟩=(false):=by rw [sV];first|(rw [hA];rfl)|(rw [hAb];rcases h1 with h | h;(rw [decide_eq_false (by omega:¬ (k=0∨ids.length=0))];simp);(rw [decide_eq_false (by omega:¬ (k=4∨b=0))];simp))|(rw [hAb,decide_eq_true hid,decide_eq_true hbz];simp only [nH];first|rw [if_pos k0] | rw [if_neg k0,if_pos k1] | rw [if_neg k0,if_neg k1,if_pos k4] | rw [if_neg k0,if_neg k1,if_neg k4,if_pos k5] | rw [if_neg k0,if_neg k1,if_neg k4,if_neg k5])
   rw [e];refine bS T Tryz.func89 rfl rfl rfl rfl ?_
   (repeat' (first|refine wS ?_|refine wR ?_|refine wT ?_|(refine wC rfl ?_ ?_<;>(intro hb;(try simp only [nm] at hb);try omega))|(refine rg 0 (cO (dR rfl rfl) rfl (aV ?_)))|(refine rg 1 (iK T rfl (mW rfl (vV (dC rfl rfl (by omega) (by omega)) (vV (kC (ca)) (vV (dS rfl) (mW rfl (yP T rfl (yO T rfl (yV (gI rfl rfl) ?_)))))))));refine yM ?_;refine cD rfl rfl ?_ ?_<;>(intro hb;rw [hb];(try simp only [nm] at hb);try omega);(all_goals first|(refine gT (fW T rfl (gT (lW T rfl (gT (qW T rfl (gT (vV (fK rfl rfl) ?_))))))))|(iterate 4 refine gF ?_));(all_goals (refine gT (pW rfl (pW rfl (mV ?_)))));(all_goals first|(refine gK ?_)|(refine cD rfl rfl ?_ ?_<;>(intro hb;rw [hb];(try simp only [nm] at hb);try omega)));(all_goals first|(refine gT (fW T rfl (gT (lW T rfl (gT (vV (gI rfl rfl) (gT (mV ?_))))))))|(iterate 4 refine gF ?_));(all_goals first|(refine gK ?_)|(refine cD rfl rfl ?_ ?_<;>(intro hb;rw [hb];(try simp only [nm] at hb);try omega)));(all_goals first|(refine gT (fW T rfl (gT (lW T rfl (gT (vV (gI rfl rfl) ?_))))))|(iterate 3 refine gU ?_));(all_goals first|(refine gT (pV ?_))|(refine gF ?_));(all_goals (refine pV ?_)))|(refine rg 2 (aV ?_))|refine nZ ?_));all_goals exact rQ
  ·have hid:k=0∨ids.length=0:=by omega
   have hbz:k=4∨b=0:=by omega
   by_cases k0:k=0
   ·have e:iP n ⟨k,a,b,m,ids⟩=(decide (m=0)&&LZ ids n):=by rw [sV];first|(rw [hA];rfl)|(rw [hAb];rcases h1 with h | h;(rw [decide_eq_false (by omega:¬ (k=0∨ids.length=0))];simp);(rw [decide_eq_false (by omega:¬ (k=4∨b=0))];simp))|(rw [hAb,decide_eq_true hid,decide_eq_true hbz];simp only [nH];first|rw [if_pos k0] | rw [if_neg k0,if_pos k1] | rw [if_neg k0,if_neg k1,if_pos k4] | rw [if_neg k0,if_neg k1,if_neg k4,if_pos k5] | rw [if_neg k0,if_neg k1,if_neg k4,if_neg k5])
    rw [e];refine bS T Tryz.func89 rfl rfl rfl rfl ?_
    (repeat' (first|refine wS ?_|refine wB ?_|refine wK ?_|refine wR ?_|(refine wC rfl ?_ ?_<;>(intro hb;(try simp only [nm] at hb);try omega))|(refine rg 0 (cO (dR rfl rfl) rfl (aV ?_)))|(refine rg 1 (iK T rfl (mW rfl (vV (dC rfl rfl (by omega) (by omega)) (vV (kC (ca)) (vV (dS rfl) (mW rfl (yP T rfl (yO T rfl (yV (gI rfl rfl) ?_)))))))));refine yM ?_;refine cD rfl rfl ?_ ?_<;>(intro hb;rw [hb];(try simp only [nm] at hb);try omega);(all_goals ((iterate 4 refine gF ?_);refine gT (pW rfl (pW rfl (mW rfl (yP T rfl (yO T rfl (yV (gI rfl rfl) (yM ?_)))))));refine cD rfl rfl ?_ ?_<;>(intro hb;rw [hb];(try simp only [nm] at hb);try omega)));(all_goals (refine yP T rfl (yO T rfl (yV (gI rfl rfl) (gT (pW rfl (pV ?_))))))))|(refine rg 3 (GD T ?_))|(refine rg 4 (vV (fB rfl rfl) (aV ?_)))|(refine rg 5 (iK T rfl (vV (fB rfl rfl) (mV ?_)));refine cD rfl rfl ?_ ?_<;>(intro hb;rw [hb];(try simp only [nm] at hb);try omega);(all_goals first|(refine gT (fW T rfl (gT (lW T rfl (gT (mW rfl (gT (vV (kC (cs)) ?_))))))))|(iterate 4 refine gF ?_));(all_goals (refine pW rfl (aV ?_))))|refine nZ ?_));all_goals first|omega | (refine dU (.inl rfl) rfl (oM ?_);simp [*])
   ·by_cases k1:k=1∨k=2∨k=3
    ·have e:iP n ⟨k,a,b,m,ids⟩=(jK m 0 1099511627776):=by rw [sV];first|(rw [hA];rfl)|(rw [hAb];rcases h1 with h | h;(rw [decide_eq_false (by omega:¬ (k=0∨ids.length=0))];simp);(rw [decide_eq_false (by omega:¬ (k=4∨b=0))];simp))|(rw [hAb,decide_eq_true hid,decide_eq_true hbz];simp only [nH];first|rw [if_pos k0] | rw [if_neg k0,if_pos k1] | rw [if_neg k0,if_neg k1,if_pos k4] | rw [if_neg k0,if_neg k1,if_neg k4,if_pos k5] | rw [if_neg k0,if_neg k1,if_neg k4,if_neg k5])
     rw [e];refine bS T Tryz.func89 rfl rfl rfl rfl ?_
     (repeat' (first|refine wS ?_|refine wB ?_|refine wK ?_|refine wR ?_|(refine wC rfl ?_ ?_<;>(intro hb;(try simp only [nm] at hb);try omega))|(refine rg 0 (cO (dR rfl rfl) rfl (aV ?_)))|(refine rg 1 (iK T rfl (mW rfl (vV (dC rfl rfl (by omega) (by omega)) (vV (kC (ca)) (vV (dS rfl) (mW rfl (yP T rfl (yO T rfl (yV (gI rfl rfl) ?_)))))))));refine yM ?_;refine cD rfl rfl ?_ ?_<;>(intro hb;rw [hb];(try simp only [nm] at hb);try omega);(all_goals (refine yP T rfl (yO T rfl (gT (qW T rfl (yV (fK rfl rfl) (gT (pW rfl (pW rfl (mV ?_))))))));refine cD rfl rfl ?_ ?_<;>(intro hb;rw [hb];(try simp only [nm] at hb);try omega)));(all_goals (refine yP T rfl (yO T rfl (yV (gI rfl rfl) (yM ?_)));refine cD rfl rfl ?_ ?_<;>(intro hb;rw [hb];(try simp only [nm] at hb);try omega)));(all_goals (refine yP T rfl (yO T rfl (yV (gI rfl rfl) (gT (pW rfl (pV ?_))))))))|(refine rg 3 (GD T ?_))|(refine rg 4 (vV (fB rfl rfl) (aV ?_)))|(refine rg 6 (vV (fB rfl rfl) (aV ?_)))|(refine rg 7 (vV (fB rfl rfl) (aV ?_)))|(refine rg 8 (vV (fB rfl rfl) (aV ?_)))|(refine rg 9 (iK T rfl (vV (by exact gD rfl rfl (vC _ _ _) rfl rfl rfl) ?_));refine aV ?_)|refine nZ ?_));all_goals first|omega | exact rQ
    ·by_cases k4:k=4
     ·have e:iP n ⟨k,a,b,m,ids⟩=(decide (m=0)&&jK b (a+1) (n-1)):=by rw [sV];first|(rw [hA];rfl)|(rw [hAb];rcases h1 with h | h;(rw [decide_eq_false (by omega:¬ (k=0∨ids.length=0))];simp);(rw [decide_eq_false (by omega:¬ (k=4∨b=0))];simp))|(rw [hAb,decide_eq_true hid,decide_eq_true hbz];simp only [nH];first|rw [if_pos k0] | rw [if_neg k0,if_pos k1] | rw [if_neg k0,if_neg k1,if_pos k4] | rw [if_neg k0,if_neg k1,if_neg k4,if_pos k5] | rw [if_neg k0,if_neg k1,if_neg k4,if_neg k5])
      rw [e];refine bS T Tryz.func89 rfl rfl rfl rfl ?_
      (repeat' (first|refine wS ?_|refine wB ?_|refine wK ?_|refine wR ?_|refine wU ?_|(refine wC rfl ?_ ?_<;>(intro hb;(try simp only [nm] at hb);try omega))|(refine rg 0 (cO (dR rfl rfl) rfl (aV ?_)))|(refine rg 1 (iK T rfl (mW rfl (vV (dC rfl rfl (by omega) (by omega)) (vV (kC (ca)) (vV (dS rfl) (mW rfl (yP T rfl (yO T rfl (yV (gI rfl rfl) ?_)))))))));refine yM ?_;refine cD rfl rfl ?_ ?_<;>(intro hb;rw [hb];(try simp only [nm] at hb);try omega);(all_goals (refine yP T rfl (yO T rfl (gT (qW T rfl (yV (fK rfl rfl) (gT (pW rfl (pW rfl (mV ?_))))))));refine cD rfl rfl ?_ ?_<;>(intro hb;rw [hb];(try simp only [nm] at hb);try omega)));(all_goals (refine yP T rfl (yO T rfl (yV (gI rfl rfl) (yM ?_)));refine cD rfl rfl ?_ ?_<;>(intro hb;rw [hb];(try simp only [nm] at hb);try omega)));(all_goals ((iterate 3 refine gF ?_);refine gT (pW rfl (pV ?_)))))|(refine rg 3 (GD T ?_))|(refine rg 4 (vV (fB rfl rfl) (aV ?_)))|(refine rg 6 (vV (fB rfl rfl) (aV ?_)))|(refine rg 7 (vV (fB rfl rfl) (aV ?_)))|(refine rg 8 (vV (fB rfl rfl) (aV ?_)))|(refine rg 10 (vV (fB rfl rfl) (aV ?_)))|(refine rg 11 (iK T rfl (vV (fB rfl rfl) (mV ?_)));refine cD rfl rfl ?_ ?_<;>(intro hb;rw [hb];(try simp only [nm] at hb);try omega);(all_goals first|(refine gT (fW T rfl (gT (lW T rfl (gT (fW T rfl (gT (lW T rfl (gT (vV (cK rfl rfl (by omega) (by omega)) ?_)))))))));refine gT (mW rfl (gT (vV (dC rfl rfl (by omega) (by omega)) (gT (vV (by exact gD rfl rfl (vC _ _ _) rfl rfl rfl) ?_))))))|(iterate 8 refine gF ?_));(all_goals (refine pW rfl (aV ?_))))|refine nZ ?_));all_goals first|omega | (refine dU (.inl rfl) rfl (oM ?_);simp [*])
     ·by_cases k5:k=5
      ·have e:iP n ⟨k,a,b,m,ids⟩=(jK m 0 (n-1)):=by rw [sV];first|(rw [hA];rfl)|(rw [hAb];rcases h1 with h | h;(rw [decide_eq_false (by omega:¬ (k=0∨ids.length=0))];simp);(rw [decide_eq_false (by omega:¬ (k=4∨b=0))];simp))|(rw [hAb,decide_eq_true hid,decide_eq_true hbz];simp only [nH];first|rw [if_pos k0] | rw [if_neg k0,if_pos k1] | rw [if_neg k0,if_neg k1,if_pos k4] | rw [if_neg k0,if_neg k1,if_neg k4,if_pos k5] | rw [if_neg k0,if_neg k1,if_neg k4,if_neg k5])
       rw [e];refine bS T Tryz.func89 rfl rfl rfl rfl ?_
       (repeat' (first|refine wS ?_|refine wB ?_|refine wK ?_|refine wR ?_|(refine wC rfl ?_ ?_<;>(intro hb;(try simp only [nm] at hb);try omega))|(refine rg 0 (cO (dR rfl rfl) rfl (aV ?_)))|(refine rg 1 (iK T rfl (mW rfl (vV (dC rfl rfl (by omega) (by omega)) (vV (kC (ca)) (vV (dS rfl) (mW rfl (yP T rfl (yO T rfl (yV (gI rfl rfl) ?_)))))))));refine yM ?_;refine cD rfl rfl ?_ ?_<;>(intro hb;rw [hb];(try simp only [nm] at hb);try omega);(all_goals (refine yP T rfl (yO T rfl (gT (qW T rfl (yV (fK rfl rfl) (gT (pW rfl (pW rfl (mV ?_))))))));refine cD rfl rfl ?_ ?_<;>(intro hb;rw [hb];(try simp only [nm] at hb);try omega)));(all_goals (refine yP T rfl (yO T rfl (yV (gI rfl rfl) (yM ?_)));refine cD rfl rfl ?_ ?_<;>(intro hb;rw [hb];(try simp only [nm] at hb);try omega)));(all_goals (refine yP T rfl (yO T rfl (yV (gI rfl rfl) (gT (pW rfl (pV ?_))))))))|(refine rg 3 (GD T ?_))|(refine rg 4 (vV (fB rfl rfl) (aV ?_)))|(refine rg 6 (vV (fB rfl rfl) (aV ?_)))|(refine rg 7 (vV (fB rfl rfl) (aV ?_)))|(refine rg 8 (vV (fB rfl rfl) (aV ?_)))|(refine rg 10 (vV (fB rfl rfl) (aV ?_)))|(refine rg 12 (vV (fB rfl rfl) (aV ?_)))|(refine rg 13 (iK T rfl (mW rfl (vV (dC rfl rfl (by omega) (by omega)) (vV (by exact gD rfl rfl (vC _ _ _) rfl rfl rfl) ?_))));refine aV ?_)|refine nZ ?_));all_goals first|omega | exact rQ
      ·have e:iP n ⟨k,a,b,m,ids⟩=(false):=by rw [sV];first|(rw [hA];rfl)|(rw [hAb];rcases h1 with h | h;(rw [decide_eq_false (by omega:¬ (k=0∨ids.length=0))];simp);(rw [decide_eq_false (by omega:¬ (k=4∨b=0))];simp))|(rw [hAb,decide_eq_true hid,decide_eq_true hbz];simp only [nH];first|rw [if_pos k0] | rw [if_neg k0,if_pos k1] | rw [if_neg k0,if_neg k1,if_pos k4] | rw [if_neg k0,if_neg k1,if_neg k4,if_pos k5] | rw [if_neg k0,if_neg k1,if_neg k4,if_neg k5])
       rw [e];refine bS T Tryz.func89 rfl rfl rfl rfl ?_
       (repeat' (first|refine wS ?_|refine wB ?_|refine wK ?_|refine wR ?_|(refine wC rfl ?_ ?_<;>(intro hb;(try simp only [nm] at hb);try omega))|(refine rg 0 (cO (dR rfl rfl) rfl (aV ?_)))|(refine rg 1 (iK T rfl (mW rfl (vV (dC rfl rfl (by omega) (by omega)) (vV (kC (ca)) (vV (dS rfl) (mW rfl (yP T rfl (yO T rfl (yV (gI rfl rfl) ?_)))))))));refine yM ?_;refine cD rfl rfl ?_ ?_<;>(intro hb;rw [hb];(try simp only [nm] at hb);try omega);(all_goals (refine yP T rfl (yO T rfl (gT (qW T rfl (yV (fK rfl rfl) (gT (pW rfl (pW rfl (mV ?_))))))));refine cD rfl rfl ?_ ?_<;>(intro hb;rw [hb];(try simp only [nm] at hb);try omega)));(all_goals (refine yP T rfl (yO T rfl (yV (gI rfl rfl) (yM ?_)));refine cD rfl rfl ?_ ?_<;>(intro hb;rw [hb];(try simp only [nm] at hb);try omega)));(all_goals (refine yP T rfl (yO T rfl (yV (gI rfl rfl) (gT (pW rfl (pV ?_))))))))|(refine rg 3 (GD T ?_))|(refine rg 4 (vV (fB rfl rfl) (aV ?_)))|(refine rg 6 (vV (fB rfl rfl) (aV ?_)))|(refine rg 7 (vV (fB rfl rfl) (aV ?_)))|(refine rg 8 (vV (fB rfl rfl) (aV ?_)))|(refine rg 10 (vV (fB rfl rfl) (aV ?_)))|(refine rg 12 (vV (fB rfl rfl) (aV ?_)))|(refine rg 14 (aV ?_))|refine nZ ?_));all_goals first|omega | exact rQ
end Go.Proofs.Q
namespace Go.Ld
open Go.Ab Go.Proofs.Q
theorem LB {l:List Int}(h:l≠[]):l.headD 0∈l:=by
 cases l with
 | nil=>exact absurd rfl h
 | cons x l=>exact aR
theorem zN5 {l:List Int}(h:l.Pairwise (· < ·)){z:Int}(hz:z∈l):l.headD 0≤z:=by
 cases l with
 | nil=>cases hz
 | cons x l=>
  rcases bQ.1 hz with rfl | hz
  ·exact eW _
  ·have:=(fJ.1 h).1 z hz;show x≤z;omega
theorem yL8 {a b:Int}:cI a b≤0↔a≤b:=by unfold cI;split <;> (try split) <;> omega
theorem P2 {l:List G}:RF l↔(l.map fun g=>g.1.headD 0).Pairwise (fun a b=>a≤b):=by
 rw [zU8];exact ⟨fun h=>h.imp fun {a b} h=>yL8.1 h,fun h=>h.imp fun {a b} h=>yL8.2 h⟩
theorem UZ {c:Cx}{M:Int}{gs P Q R:List G}{u v J:G}(h:pA c M gs) (e:gs=P++u::(Q++v::R)) (hM:0≤M){M':Int}(hMM:M≤M')
  (hp:J.1.Perm (u.1++v.1)) (hJ:H2 c.bs.length J) (hne:J.2≠[]) (hf:(iV J).1.Perm ((iV u).1++(iV v).1)) (hm:∀ w,w∈J.2→w.2.1≤M') (hl:J.2.length≤1000):pA c M' (P++J::(Q++R)):=by
 have hmem:∀ g,g∈P++J::(Q++R)→g=J∨g∈gs:=fun g hg=>by
  subst e;simp only [bH,bQ] at hg ⊢;rcases hg with hg | hg | hg | hg
  ·exact .inr (.inl hg)
  ·exact .inl hg
  ·exact .inr (.inr (.inr (.inl hg)))
  ·exact .inr (.inr (.inr (.inr (.inr hg))))
 have fl:∀ F:G→List Int,(F J).Perm (F u++F v)→((P++J::(Q++R)).flatMap F).Perm (gs.flatMap F):=fun F hF=>by
  subst e;simp only [gE,bP,bM];refine List.Perm.append_left _ ?_;refine (hF.append_right _).trans ?_;rw [bM];refine List.Perm.append_left _ ?_;rw [← bM,← bM];exact List.perm_append_comm.append_right _
 have cov:=(fl (·.1) hp).trans h.cov;have hlen:(gs.flatMap (·.1)).length=((P++J::(Q++R)).flatMap (·.1)).length:=(fl (·.1) hp).length_eq.symm;refine ⟨⟨fun g hg=>?_,(fl (·.1) hp).nodup_iff.2 h.out.nd,by rw [← hlen];exact h.out.ln,fun g hg=>?_⟩,?_,fun g hg=>?_,fun g hg=>?_,cov,(fl _ hf).trans h.idn,fun g hg=>?_⟩
 ·rcases hmem g hg with rfl | hg
  ·exact hJ
  ·exact h.out.ok g hg
 ·rcases hmem g hg with rfl | hg
  ·omega
  ·exact h.out.ws g hg
 ·have hu:u∈gs:=by subst e;simp
  have hv:v∈gs:=by subst e;simp
  have hup:=P2.1 h.up;have ou:=h.out.ok u hu;have ov:=h.out.ok v hv;have huv:u.1.headD 0≤v.1.headD 0:=by
   subst e;simp only [bU,List.map_cons] at hup;exact (fJ.1 (fM.1 hup).2.1).1 _ (by simp)
  have hh:J.1.headD 0=u.1.headD 0:=by
   have h1:J.1.headD 0≤u.1.headD 0:=zN5 hJ.up (hp.mem_iff.2 (bH.2 (.inl (LB ou.ne))));have h2:u.1.headD 0≤J.1.headD 0:=by
    rcases bH.1 (hp.mem_iff.1 (LB hJ.ne)) with hq | hq
    ·exact zN5 ou.up hq
    ·have:=zN5 ov.up hq;omega
   omega
  refine P2.2 (hup.sublist ?_);subst e;simp only [bU,List.map_cons,hh];refine List.Sublist.append_left (List.Sublist.cons_cons _ (List.Sublist.append_left (List.sublist_cons_self _ _) _)) _
 ·rcases hmem g hg with rfl | hg
  ·exact hne
  ·exact h.ne g hg
 ·rcases hmem g hg with rfl | hg
  ·exact hm
  ·exact fun w hw=>GQ (h.ml g hg w hw) hMM
 ·rcases hmem g hg with rfl | hg
  ·exact hl
  ·exact h.wl g hg
theorem zL8 {c:Cx}{gs all:List G}{a b:Int}(h:pA c c.m gs) (hm0:0≤c.m) (hm1:c.m≤1048576) (ha:0≤a∧a<c.bs.length) (hb:0≤b∧b<c.bs.length) (e:join gs a b=some all) :
  pA c (2*c.m) all∧∃ g,g∈all∧a∈g.1∧b∈g.1:=by
 obtain ⟨i,x,hi,hix,hax⟩:=jD (h.find ha);obtain ⟨k,y,hk,hky,hby⟩:=jD (h.find hb);have hx:=aQ hix;have hy:=aQ hky;unfold join at e;dsimp only at e;rw [hi,hk] at e;split at e
 ·rename_i hik;obtain rfl:i=k:=by omega
  cases e;have:x=y:=by rw [hix] at hky;exact Option.some.inj hky
  subst this;exact ⟨⟨h.out,h.up,h.ne,fun g hg w hw=>by have:=h.ml g hg w hw;omega,h.cov,h.idn,h.wl⟩,x,hx,hax,hby⟩
 ·rename_i hik;have hxy:x≠y:=fun q=>by
   subst q;have h1:=(aA.1 hix).2;have h2:=(aA.1 hky).2;have l1:=(aA.1 hix).1;have l2:=(aA.1 hky).1;have nd:(gs.map fun g=>g.1.headD 0).Nodup:=by
    have:=h.out.nd;have aux:∀ o:List G,(∀ g,g∈o→g.1≠[])→(o.flatMap (·.1)).Nodup→(o.map fun g=>g.1.headD 0).Nodup:=by
     intro o
     induction o with
     | nil=>intro _ _;exact eM
     | cons g o ih=>
      intro hg hn;rw [bP] at hn;obtain ⟨n1,n2,n3⟩:=dB.1 hn;rw [List.map_cons,fR];refine ⟨fun hc=>?_,ih (fun g h=>hg g (aH _ h)) n2⟩;obtain ⟨g',hg',e'⟩:=bD.1 hc;exact n3 _ (LB (hg g aR)) _ (qA hg' (e'▸LB (hg g' (aH _ hg')))) rfl
    exact aux gs (fun g hg=>(h.out.ok g hg).ne) this
   have e1:(gs.map fun g=>g.1.headD 0)[i]'(by simpa using l1)=(gs.map fun g=>g.1.headD 0)[k]'(by simpa using l2):=by rw [qF,qF,h1,h2]
   have:=(yJ2 nd).1 e1;omega
  have gi:mJ gs ((i:Int)).toNat=x:=by unfold mJ;rw [aE];show (gs[i]?).getD _=x;rw [hix];rfl
  have gk:mJ gs ((k:Int)).toNat=y:=by unfold mJ;rw [aE];show (gs[k]?).getD _=y;rw [hky];rfl
  rw [gi,gk] at e;split at e
  ·cases e
  ·rename_i hsz;have hln:x.1.length+y.1.length≤6:=by omega
   have hwl:x.2.length*y.2.length≤1000:=by omega
   cases e;have dj:∀ (u v:G),u∈gs→v∈gs→u≠v→∀ b,b∈u.1→b∉v.1:=fun u v hu hv huv b h1 h2=>huv (CF h.out.nd hu hv h1 h2);have ndi:(gs.flatMap fun g=>(iV g).1).Nodup:=h.idn.nodup_iff.2 (I2 _);have ndi':((gs.map fun g=>((iV g).1,g.2)).flatMap (·.1)).Nodup:=by rw [FY];exact ndi
   have jo:xS c.bs.length x y:=by
    refine ⟨h.out.ok x hx,h.out.ok y hy,h.ne x hx,h.ne y hy,dj x y hx hy hxy,fun b h1 h2=>?_,hln⟩
    have l1:=(aA.1 hix).1;have l2:=(aA.1 hky).1;rcases jI (show i≠k by omega) with hlt | hlt
    ·obtain ⟨P,Q,R,e1,-⟩:=mU x hlt hix hky;rw [e1] at ndi;simp only [gE,bP] at ndi;exact (dB.1 (dB.1 ndi).2.1).2.2 b h1 b (by simp [h2]) rfl
    ·obtain ⟨P,Q,R,e1,-⟩:=mU y hlt hky hix;rw [e1] at ndi;simp only [gE,bP] at ndi;exact (dB.1 (dB.1 ndi).2.1).2.2 b h2 b (by simp [h1]) rfl
   have hJ:=jo.ok (h.ml x hx) (h.ml y hy) (by omega)
   have hJn:=zL9 (h.ne x hx) (h.ne y hy);have hJf:=jo.same (jR hJn);have hJm:∀ w,w∈(nG x y).2→w.2.1≤2*c.m:=fun w hw=>by
    obtain ⟨u,v,hu,hv,rfl⟩:=I4 hw;have:=h.ml x hx u hu;have:=h.ml y hy v hv;show u.2.1+v.2.1≤_;omega
   have hJp:=nO x y;have hJl:(nG x y).2.length≤1000:=by rw [IN];exact hwl
   have hJa:a∈(nG x y).1:=hJp.mem_iff.2 (bH.2 (.inl hax));have hJb:b∈(nG x y).1:=hJp.mem_iff.2 (bH.2 (.inr hby));generalize nG x y=J at *;rcases jI (show i≠k by omega) with hlt | hlt
   ·obtain ⟨P,Q,R,e1,e2⟩:=mU J hlt hix hky;rw [show (min (i:Int) (k:Int)).toNat=i by omega,show (max (i:Int) (k:Int)).toNat=k by omega,e2]
    exact ⟨UZ h e1 hm0 (by omega) hJp hJ hJn hJf hJm hJl,J,by simp,hJa,hJb⟩
   ·obtain ⟨P,Q,R,e1,e2⟩:=mU J hlt hky hix;rw [show (min (i:Int) (k:Int)).toNat=k by omega,show (max (i:Int) (k:Int)).toNat=i by omega,e2]
    exact ⟨UZ h e1 hm0 (by omega) (hJp.trans C5) hJ hJn (hJf.trans C5) hJm hJl,J,by simp,hJa,hJb⟩
theorem WO {f t:Int}(h:(T3 f t).2=true):SB (T3 f t).1:=by
 have:=FE f t;unfold T3 at h ⊢;unfold SB;dsimp only at h ⊢;rcases this with ⟨h1,h2,h3,h4⟩ | ⟨h1,_⟩
 ·rw [h2,h3];omega
 ·rw [h1] at h;cases h
theorem XH {t u w e:Int}{r:SP}(h:(xH t u w e r).2=true):SB (xH t u w e r).1:=by
 unfold xH at h ⊢;dsimp only at h ⊢;split at h
 ·rename_i hq;rw [if_pos hq];exact WO h
 ·rename_i hq;exact absurd h hq
theorem zI8 {n s:Int}{r:SP}(h:(E5 r n s).2=true):SB (E5 r n s).1:=by
 unfold E5 at h ⊢;split at h
 ·rename_i hq;rw [if_pos hq];exact WO h
 ·cases h
theorem JM.sC {n q:Nat}{w:W}(h:JM n q w){i:Nat}{r:SP}(hr:SB r):JM n q (sC w i r) where
 pl:=h.pl
 cl:=by show (w.2.2.set i r).length=q;rw [hC];exact h.cl
 pr:=h.pr
 nd:=h.nd
 m0:=h.m0
 m1:=h.m1
 sp x hx:=by
  rcases gB hx with hx | rfl
  ·exact h.sp x hx
  ·exact hr
theorem zB2 {c:Cx}{n q:Nat}{w:W}{i:Nat}{s:Ev}(h:JM n q w) (hi:i<q) (hs:0≤s.n) (hm:w.2.1≤3000000) (hb:(kV c w i s).2=true):JM n q (kV c w i s).1∧(kV c w i s).1.1=w.1∧(kV c w i s).1.2.1≤w.2.1+1:=by
 obtain ⟨g1,g2,g3⟩:=h.at hi;unfold kV at hb ⊢;by_cases k0:s.k=0
 ·rw [if_pos k0] at hb ⊢;split
  ·exact ⟨h,rfl,by dsimp only;omega⟩
  ·exact ⟨⟨h.pl,h.cl,h.pr,h.nd,by have:=h.m0;dsimp only;omega,by dsimp only;omega,h.sp⟩,rfl,by dsimp only;omega⟩
 rw [if_neg k0] at hb ⊢;by_cases k1:s.k=1
 ·rw [if_pos k1] at hb ⊢;dsimp only at hb ⊢;exact ⟨h.sC (XH hb),rfl,by show w.2.1≤_;omega⟩
 rw [if_neg k1] at hb ⊢;by_cases k2:s.k=2
 ·rw [if_pos k2] at hb ⊢;dsimp only at hb ⊢;exact ⟨h.sC (zI8 hb),rfl,by show w.2.1≤_;omega⟩
 rw [if_neg k2] at hb ⊢;by_cases k3:s.k=3
 ·rw [if_pos k3] at hb ⊢;dsimp only at hb ⊢;unfold yU at hb;simp only [aN,decide_eq_true_eq] at hb;unfold SB at g3;exact ⟨h.sC (show SB (s.n,s.n+1) from ⟨by dsimp only;omega,by dsimp only;omega,by dsimp only;omega⟩),rfl,by show w.2.1≤_;omega⟩
 rw [if_neg k3] at hb ⊢;split
 ·exact ⟨h,rfl,by dsimp only;omega⟩
 ·exact ⟨h,rfl,by dsimp only;omega⟩
theorem GX {α:Type}{l:List α}{i k:Nat}{d:α}(hi:i<l.length) (hk:k<l.length):((l.set i (l.getD k d)).set k (l.getD i d)).Perm l:=by
 have e1:l.getD k d=l[k]:=by rw [aE,aB hk];rfl
 have e2:l.getD i d=l[i]:=by rw [aE,aB hi];rfl
 rw [e1,e2];exact List.set_set_perm hi hk
theorem yG2 {n q:Nat}{w:W}{i k:Nat}(h:JM n q w) (hi:i<q) (hk:k<q):JM n q (qC w i k)∧(qC w i k).1.Perm w.1:=by
 have p1:(qC w i k).1.Perm w.1:=GX (by rw [h.pl];exact hi) (by rw [h.pl];exact hk)
 have p2:(qC w i k).2.2.Perm w.2.2:=GX (by rw [h.cl];exact hi) (by rw [h.cl];exact hk)
 exact ⟨⟨p1.length_eq.trans h.pl,p2.length_eq.trans h.cl,fun x hx=>h.pr x (p1.mem_iff.1 hx),p1.nodup_iff.2 h.nd,h.m0,h.m1,fun r hr=>h.sp r (p2.mem_iff.1 hr)⟩,p1⟩
theorem OX {c:Cx}{M:Int}{gs:List G}(h:pA c M gs) (hM:M≤2200000){g:G}(hg:g∈gs){s:Ev}(hs:0≤s.n) (ha:s.a∈g.1) (hb:s.k=4→s.b∈g.1){w:W}(hw:w∈mY c s g):JM c.bs.length g.1.length w∧w.1.Perm (iV g).1∧w.2.1≤M+1:=by
 have og:=h.out.ok g hg;obtain ⟨v,hv,hw⟩:=gO.1 hw;have ov:=og.ws v hv;have hvm:=h.ml g hg v hv;have hp:=og.same v _ hv (jR (h.ne g hg));obtain ⟨hi,_⟩:=zU ha;rcases bH.1 hw with hw | hw
 ·split at hw
  ·rename_i hbt;obtain rfl:=bE.1 hw;obtain ⟨h1,h2,h3⟩:=zB2 ov hi hs (by omega) hbt
   exact ⟨h1,h2▸hp,by omega⟩
  ·cases hw
 ·split at hw
  ·rename_i hk;obtain rfl:=bE.1 hw;obtain ⟨hj,_⟩:=zU (hb hk);obtain ⟨h1,h2⟩:=yG2 ov hi hj;exact ⟨h1,h2.trans hp,by show v.2.1≤_;omega⟩
  ·cases hw
theorem YT {c:Cx}{s:Ev}{g:G}:(mY c s g).length≤2*g.2.length:=by
 unfold mY;dsimp only
 induction g.2 with
 | nil=>simp
 | cons w l ih=>
  rw [bP,aD,List.length_cons,aD];have h1:∀ {p:Prop} [Decidable p] {x:W},(if p then [x] else []).length≤1:=by
   intro p _ x;split <;> simp
  have:=@h1 ((kV c w (g.1.idxOf s.a) s).2=true) _ (kV c w (g.1.idxOf s.a) s).1;have:=@h1 (s.k=4) _ (qC w (g.1.idxOf s.a) (g.1.idxOf s.b));omega
theorem yA1 {c:Cx}{M M':Int}{gs:List G}(h:pA c M gs){i:Nat}{g:G}(hi:gs[i]? = some g){ws:List W}(hne:ws≠[]) (hl:ws.length≤1000) (hM:M≤M')
  (hw:∀ w,w∈ws→JM c.bs.length g.1.length w∧w.1.Perm (iV g).1∧w.2.1≤M'):pA c M' (gs.set i (g.1,ws)):=by
 have hg:=aQ hi;have og:=h.out.ok g hg;obtain ⟨A,B,e1,e2⟩:=rA (y:=(g.1,ws)) hi;rw [e2];subst e1;have hmem:∀ x,x∈A++(g.1,ws)::B→x=(g.1,ws)∨x∈A++g::B:=fun x hx=>by
  simp only [bH,bQ] at hx ⊢;rcases hx with hx | hx | hx
  ·exact .inr (.inl hx)
  ·exact .inl hx
  ·exact .inr (.inr (.inr hx))
 have hbod:((A++(g.1,ws)::B).flatMap (·.1))=((A++g::B).flatMap (·.1)):=by simp only [gE,bP]
 have hf:=(hw _ (jR (g:=(g.1,ws)) hne)).2.1;have ok:H2 c.bs.length (g.1,ws):=⟨og.ne,og.up,og.rg,og.ln,fun w h=>(hw w h).1,fun w v h1 h2=>(hw w h1).2.1.trans (hw v h2).2.1.symm⟩;refine ⟨⟨fun x hx=>?_,by rw [hbod];exact h.out.nd,by rw [hbod];exact h.out.ln,fun x hx=>?_⟩,?_,fun x hx=>?_,fun x hx=>?_,by rw [hbod];exact h.cov,?_,fun x hx=>?_⟩
 ·rcases hmem x hx with rfl | hx
  ·exact ok
  ·exact h.out.ok x hx
 ·rcases hmem x hx with rfl | hx
  ·show ws.length≤2000;omega
  ·exact h.out.ws x hx
 ·have:=P2.1 h.up;refine P2.2 ?_;simp only [bU,List.map_cons] at this ⊢;exact this
 ·rcases hmem x hx with rfl | hx
  ·exact hne
  ·exact h.ne x hx
 ·rcases hmem x hx with rfl | hx
  ·exact fun w hw'=>(hw w hw').2.2
  ·exact fun w hw'=>GQ (h.ml x hx w hw') hM
 ·refine List.Perm.trans ?_ h.idn;simp only [gE,bP];exact List.Perm.append_left _ (hf.append_right _)
 ·rcases hmem x hx with rfl | hx
  ·exact hl
  ·exact h.wl x hx
theorem OE {g:G}{k:Nat}{w:W}(h:w∈(kG g k).2):∃ v,v∈g.2∧w=yG4 k v:=by
 obtain ⟨v,hv,e⟩:=bD.1 (rC h);exact ⟨v,hv,e.symm⟩
theorem VJ {g:G}{k:Nat}(h:g.2≠[]):(kG g k).2≠[]:=fun e=>h (by
 have:=AI.1 e
 exact nB.1 this)
theorem yA4 {m:Nat}{M:Int}(hM:0≤M):∀ {g:G},(∀ w,w∈g.2→w.2.1≤M)→∀ x,x∈mA m g→∀ w,w∈x.2→w.2.1≤M:=by
 induction m with
 | zero=>intro g h x hx;simp [mA] at hx;subst hx;exact h
 | succ m ih=>
  intro g h x hx;unfold mA at hx;split at hx
  ·simp at hx;subst hx;exact h
  ·rename_i k hk;rcases bQ.1 hx with rfl | hx
   ·intro w hw;obtain rfl:=bE.1 hw;exact hM
   ·refine ih (fun w hw=>?_) x hx;obtain ⟨v,hv,rfl⟩:=OE hw;exact h v hv
theorem zI9 {m:Nat}:∀ {g:G},g.2.Pairwise (fun a b=>pY a b<0)→∀ x,x∈mA m g→x.2.Pairwise (fun a b=>pY a b<0):=by
 induction m with
 | zero=>intro g h x hx;simp [mA] at hx;subst hx;exact h
 | succ m ih=>
  intro g h x hx;unfold mA at hx;split at hx
  ·simp at hx;subst hx;exact h
  ·rcases bQ.1 hx with rfl | hx
   ·exact mO _ _
   ·exact ih (DY _) x hx
theorem OR {n:Nat}:∀ (m:Nat){g:G},H2 n g→g.2≠[]→((mA m g).flatMap fun x=>(iV x).1).Perm (iV g).1
 | 0,g,h,hne=>by simp [mA]
 | m+1,g,h,hne=>by
  unfold mA;split
  ·simp
  ·rename_i k hk;have hr:=VJ (k:=k) hne;obtain ⟨v,hv,e⟩:=OE (jR hr);have ih:=OR m (h.rest hk) hr;rw [bP];have ofw:=h.ws _ (jR hne);have ov:=h.ws v hv;obtain ⟨_,_,hkl,hs⟩:=kO hk;have hgv:=(hs v hv).1;refine (List.Perm.append_left _ ih).trans ?_;rw [e];show (gP (iV g) k::(v.1.eraseIdx k)).Perm _;rw [← hgv];exact (kM v.1 k 0 (by rw [ov.pl];exact hkl)).trans (h.same _ _ hv (jR hne))
theorem uQ {α β γ:Type}{F:β→List γ}{F':α→List γ}{P:α→List β}:∀ {l:List α},(∀ g,g∈l→((P g).flatMap F).Perm (F' g))→((l.flatMap P).flatMap F).Perm (l.flatMap F')
 | [],_=>.refl _
 | g::l,h=>by
  rw [bP,gE,bP];exact (h g aR).append (uQ fun x hx=>h x (aH _ hx))
theorem AN {α β γ:Type}{F:β→List γ}{F':α→List γ}{f:α→β}:∀ {l:List α},(∀ g,g∈l→(F (f g)).Perm (F' g))→((l.map f).flatMap F).Perm (l.flatMap F')
 | [],_=>.refl _
 | g::l,h=>by
  rw [List.map_cons,bP,bP];exact (h g aR).append (AN fun x hx=>h x (aH _ hx))
theorem zF2:∀ {l:List G},(∀ g,g∈l→0≤gW g)→0≤kL l
 | [],_=>eW _
 | g::l,h=>by
  have:=zF2 fun x hx=>h x (aH _ hx);have:=h g aR;show 0≤gW g+kL l;omega
theorem zF3:∀ {l:List G},(∀ g,g∈l→0≤gW g)→∀ {g:G},g∈l→gW g≤kL l
 | x::l,h,g,hg=>by
  have h0:=zF2 fun x hx=>h x (aH _ hx);have h1:=h x aR;show gW g≤gW x+kL l;rcases bQ.1 hg with rfl | hg
  ·omega
  ·have:=zF3 (fun x hx=>h x (aH _ hx)) hg;omega
theorem zJ0 {c:Cx}{L:List G}(h:pA c c.m L) (hm0:0≤c.m) (hasc:∀ g,g∈L→g.2.Pairwise fun a b=>pY a b<0):qH c (sK L):=by
 have hp:=dW cG (L.flatMap fun g=>mA g.1.length g);have hmem:∀ x,x∈sK L→∃ g,g∈L∧x∈mA g.1.length g:=fun x hx=>gO.1 (hp.mem_iff.1 hx);have bod:((sK L).flatMap (·.1)).Perm (L.flatMap (·.1)):=(hp.flatMap_right _).trans (uQ fun g hg=>E7 _ (h.out.ok g hg));have idn:((sK L).flatMap fun g=>(iV g).1).Perm (L.flatMap fun g=>(iV g).1):=(hp.flatMap_right _).trans (uQ fun g hg=>OR _ (h.out.ok g hg) (h.ne g hg));have wl:∀ x,x∈sK L→x.2.length≤1000:=fun x hx=>by
  obtain ⟨g,hg,hx⟩:=hmem x hx;exact OQ (by omega) (h.wl g hg) x hx
 refine ⟨⟨⟨fun x hx=>?_,bod.nodup_iff.2 h.out.nd,by rw [bod.length_eq];exact h.out.ln,fun x hx=>by have:=wl x hx;omega⟩,uW _,fun x hx=>?_,fun x hx=>?_,bod.trans h.cov,idn.trans h.idn,wl⟩,fun x hx=>?_,fun x hx=>?_⟩
 all_goals obtain ⟨g,hg,hx⟩:=hmem x hx
 ·exact KN _ (h.out.ok g hg) x hx
 ·exact yA3 (h.ne g hg) x hx
 ·exact yA4 hm0 (h.ml g hg) x hx
 ·exact HQ _ (h.out.ok g hg) (aX _) x hx
 ·exact zI9 (hasc g hg) x hx
theorem zJ3 {c:Cx}{M:Int}{gs:List G}(h:pA c M gs) (hne:∀ g,g∈paid c gs→g.2≠[]):pA c c.m (paid c gs):=by
 have h0:∀ g,g∈gs→0≤gW g:=fun g hg=>(IL (h.out.ok g hg) (h.ne g hg)).1;refine ⟨h.out.paid c,UV h.up,hne,fun g hg w hw=>?_,by rw [X7];exact h.cov,?_,fun g hg=>?_⟩
 ·obtain ⟨x,hx,rfl⟩:=bD.1 hg;have:=of_decide_eq_true (dX.1 hw).2;have:=zF3 h0 hx;omega
 ·refine List.Perm.trans (AN (F':=fun g=>(iV g).1) fun g hg=>?_) h.idn;have h1:=hne _ (bD.2 ⟨g,hg,rfl⟩);have h2:=jR h1;exact (h.out.ok g hg).same _ _ (dX.1 h2).1 (jR (h.ne g hg))
 ·obtain ⟨x,hx,rfl⟩:=bD.1 hg;exact bL (eZ _ _) (h.wl x hx)
theorem zX1 {c:Cx}{M:Int}{gs:List G}(h:pA c M gs) (hm0:0≤c.m) (hasc:∀ g,g∈gs→g.2.Pairwise fun a b=>pY a b<0) (hne:∀ g,g∈xI c gs→g.2≠[]):qH c (xI c gs):=by
 refine zJ0 (zJ3 h fun g hg e=>?_) hm0 fun g hg=>?_
 ·refine hne g ?_ e;refine (dW cG _).mem_iff.2 (gO.2 ⟨g,hg,?_⟩);rw [OP e];exact bE.2 rfl
 ·obtain ⟨x,hx,rfl⟩:=bD.1 hg;exact (hasc x hx).sublist List.filter_sublist
theorem oP {n:Int}{s:Ev}(h:iP n s=true) (hn:n≤1000000):(0≤s.a∧s.a<n)∧(s.k=4→s.a<s.b∧s.b<n)∧0≤s.n∧s.n≤1099511627776:=by
 obtain ⟨k,a,b,m,ids⟩:=s;unfold iP at h;simp only [aN,decide_eq_true_eq] at h;obtain ⟨⟨⟨h1,h2⟩,h3⟩,h4⟩:=h;dsimp only;refine ⟨by omega,fun hk=>?_,?_⟩
 ·subst hk;simp at h4;omega
 ·by_cases k0:k=0
  ·subst k0;simp at h4;omega
  ·rw [if_neg k0] at h4;split at h4
   ·simp at h4;omega
   ·split at h4
    ·simp at h4;omega
    ·split at h4
     ·simp at h4;omega
     ·cases h4
theorem ZC {gs all:List G}{a b:Int}(e:join gs a b=some all) (ha:∃ g,g∈gs∧a∈g.1):∀ g,g∈all→g∈gs∨a∈g.1:=by
 intro g hg;obtain ⟨i,x,hi,hix,hax⟩:=jD ha;unfold join at e;dsimp only at e;split at e
 ·cases e;exact .inl hg
 ·split at e
  ·cases e
  ·cases e;rcases gB (List.mem_of_mem_eraseIdx hg) with hg | rfl
   ·exact .inl hg
   ·refine .inr ((nO _ _).mem_iff.2 (bH.2 (.inl ?_)));rw [hi];unfold mJ;rw [aE,show ((i:Int)).toNat=i from rfl,hix]
    exact hax
structure C3 (c:Cx) (M:Int) (all:List G) (s:Ev):Prop where
 mid:pA c M all
 asc:∀ g,g∈all→(g.2.Pairwise fun a b=>pY a b<0)∨s.a∈g.1
 a:0≤s.a∧s.a<c.bs.length
 b:s.k=4→∃ g,g∈all∧s.a∈g.1∧s.b∈g.1
 n0:0≤s.n
 n1:s.n≤1099511627776
theorem C3.at {c:Cx}{M:Int}{all:List G}{s:Ev}(h:C3 c M all s):∃ (i:Nat) (g:G),qB all s.a=(i:Int)∧all[i]? = some g∧g∈all∧mJ all (qB all s.a).toNat=g∧s.a∈g.1∧(s.k=4→s.b∈g.1):=by
 obtain ⟨i,g,hi,hg,ha⟩:=jD (h.mid.find h.a);have hm:=aQ hg;refine ⟨i,g,hi,hg,hm,?_,ha,fun hk=>?_⟩
 ·rw [hi];unfold mJ;rw [aE,show ((i:Int)).toNat=i from rfl,hg];rfl
 ·obtain ⟨x,hx,h1,h2⟩:=h.b hk;rw [CF h.mid.out.nd hm hx ha h1];exact h2
theorem C3.next {c:Cx}{M:Int}{all:List G}{s:Ev}(h:C3 c M all s) (hM:M≤2200000){i:Nat}{g:G}(hi:all[i]? = some g) (ha:s.a∈g.1) (hb:s.k=4→s.b∈g.1) (hne:gX (mY c s g)≠[]) (hl:(gX (mY c s g)).length≤1000) :
  pA c (M+1) (all.set i (g.1,gX (mY c s g)))∧∀ x,x∈all.set i (g.1,gX (mY c s g))→x.2.Pairwise fun a b=>pY a b<0:=by
 have hg:=aQ hi;refine ⟨yA1 h.mid hi hne hl (by omega) fun w hw=>OX h.mid hM hg h.n0 ha hb (rC hw),fun x hx=>?_⟩
 obtain ⟨A,B,e1,e2⟩:=rA (y:=(g.1,gX (mY c s g))) hi;rw [e2] at hx;have nd:=h.mid.out.nd;have hall:x=(g.1,gX (mY c s g))∨x∈all∧s.a∉x.1:=by
  subst e1;simp only [gE,bP] at nd;obtain ⟨_,n1,n2⟩:=dB.1 nd;obtain ⟨_,_,n3⟩:=dB.1 n1;simp only [bH,bQ] at hx ⊢;rcases hx with hx | hx | hx
  ·exact .inr ⟨.inl hx,fun q=>n2 _ (qA hx q) _ (bH.2 (.inl ha)) rfl⟩
  ·exact .inl hx
  ·exact .inr ⟨.inr (.inr hx),fun q=>n3 _ ha _ (qA hx q) rfl⟩
 rcases hall with rfl | ⟨h1,h2⟩
 ·exact DY _
 ·exact (h.asc x h1).resolve_right h2
theorem VG {c:Cx}{M:Int}{l all:List G}{s:Ev}(h:C3 c M all s) (hM:M≤2200000) (hm0:0≤c.m) (hl:qH c l):qH c (tI c l all s).2:=by
 obtain ⟨i,g,hi,hg,hgm,hat,ha,hb⟩:=h.at;unfold tI;dsimp only;rw [hat];split
 ·exact hl
 ·rename_i hne;split
  ·exact hl
  ·rename_i hwl;split
   ·exact hl
   ·rename_i hany;obtain ⟨hm,hasc⟩:=h.next hM hg ha hb hne (by omega)
    rw [hi] at hany ⊢;refine zX1 hm hm0 hasc fun x hx e=>hany (kX.2 ⟨x,hx,by rw [e];rfl⟩)
theorem xZ {c:Cx}{gs:List G}{s:Ev}(h:qH c gs) (hn:c.bs.length≤1000) (hm0:0≤c.m) (hr:iP c.bs.length s=true) (hk:s.k≠4):C3 c c.m gs s:=by
 obtain ⟨h1,h2,h3,h4⟩:=oP hr (by omega)
 exact ⟨h.mid,fun g hg=>.inl (h.asc g hg),h1,fun q=>absurd q hk,h3,h4⟩
theorem vJ {c:Cx}{gs all:List G}{s:Ev}(h:qH c gs) (hn:c.bs.length≤1000) (hm0:0≤c.m) (hm1:c.m≤1048576) (hr:iP c.bs.length s=true) (hk:s.k=4) (e:join gs s.a s.b=some all):C3 c (2*c.m) all s:=by
 obtain ⟨h1,h2,h3,h4⟩:=oP hr (by omega)
 have h2:=h2 hk;obtain ⟨j1,j2⟩:=zL8 h.mid hm0 hm1 h1 ⟨by omega,by omega⟩ e
 exact ⟨j1,fun g hg=>(ZC e (h.mid.find h1) g hg).imp_left fun hg=>h.asc g hg,h1,fun _=>j2,h3,h4⟩
theorem pA.n12 {c:Cx}{M:Int}{gs:List G}(h:pA c M gs):c.bs.length≤12:=by
 have:=h.cov.length_eq;have:=h.out.ln;simp at *;omega
theorem KG {c:Cx}{gs:List G}{s:Ev}(h:qH c gs) (hm0:0≤c.m) (hm1:c.m≤1048576):qH c (fI c gs s).2:=by
 have hn:=h.mid.n12;unfold fI;split
 ·rename_i hr;split
  ·rename_i hk;split
   ·exact h
   ·rename_i all e;exact VG (vJ h (by omega) hm0 hm1 hr hk e) (by omega) hm0 h
  ·rename_i hk;exact VG (xZ h (by omega) hm0 hr hk) (by omega) hm0 h
 ·exact h
def NK (c:Cx) (s:Ev) (g:G) (w:W):List W:=
 (if (kV c w (g.1.idxOf s.a) s).2 then [(kV c w (g.1.idxOf s.a) s).1] else [])++(if s.k=4 then [qC w (g.1.idxOf s.a) (g.1.idxOf s.b)] else [])
def yH (c:Cx) (s:Ev) (g:G) (k:Nat):List W:=(g.2.take k).flatMap (NK c s g)
theorem YU (c:Cx) (s:Ev) (g:G):yH c s g g.2.length=mY c s g:=by unfold yH;rw [cM];rfl
theorem ED {c:Cx}{s:Ev}{g:G}{k:Nat}(h:k<g.2.length):yH c s g (k+1)=yH c s g k++NK c s g g.2[k]:=by
 unfold yH;rw [aL h,gE,bP,yJ3,List.append_nil]
theorem XO {c:Cx}{s:Ev}{g:G}{w:W}:(NK c s g w).length≤2:=by
 unfold NK;rw [aD];split <;> split <;> simp
theorem IF {c:Cx}{s:Ev}{g:G}:∀ {k:Nat},k≤g.2.length→(yH c s g k).length≤2*k
 | 0,_=>by simp [yH]
 | k+1,h=>by
  rw [ED (by omega),aD]
  have:=IF (c:=c) (s:=s) (g:=g) (k:=k) (by omega)
  have:=XO (c:=c) (s:=s) (g:=g) (w:=g.2[k]'(by omega))
  omega
theorem nL (l:List Int):AB.rf (.arr (Go.Ab.ints l) 1)=true:=by
 show (Go.Ab.ints l).all AV.rfL=true;rw [bJ];intro e he;obtain ⟨x,_,rfl⟩:=bD.1 he;rfl
theorem zH6 (l:List SP):AB.rf (.arr (fS l) 2)=true:=by
 show (fS l).all AV.rfL=true;rw [bJ];intro e he;obtain ⟨x,_,rfl⟩:=bD.1 he;rfl
theorem zZ4 (a:List Int) (b:List SP):[AB.arr (Go.Ab.ints a) 1,.arr (fS b) 2].all AB.rf=true:=by
 simp only [BS,nL,zH6,List.all_nil,Bool.and_self]
theorem NG {c:Cx}{n:Nat}{gs:List G}(h:oZ n gs):oZ n (xI c gs):=by
 have h:=h.paid c;unfold xI;generalize paid c gs=L at *;have hp:=dW cG (L.flatMap fun g=>mA g.1.length g);have hmem:∀ x,x∈sK L→∃ g,g∈L∧x∈mA g.1.length g:=fun x hx=>gO.1 (hp.mem_iff.1 hx);have bod:((sK L).flatMap (·.1)).Perm (L.flatMap (·.1)):=(hp.flatMap_right _).trans (uQ fun g hg=>E7 _ (h.ok g hg));refine ⟨fun x hx=>?_,bod.nodup_iff.2 h.nd,by rw [bod.length_eq];exact h.ln,fun x hx=>?_⟩
 all_goals obtain ⟨g,hg,hx⟩:=hmem x hx
 ·exact KN _ (h.ok g hg) x hx
 ·exact OQ (by omega) (h.ws g hg) x hx
abbrev C9 (s:Ev):List AV:=[.i s.k,.i s.a,.i s.b,.i s.n,.rowE (Go.Ab.ints s.ids) 1]
end Go.Ld
namespace Go.Proofs.Q
open Go Go.Ab Go.Ld
attribute [local irreducible] VC AW bW aM iU
theorem yO1 (g:G):aM Tryz.prog 98 [zC9 g] [] (.b g.2.isEmpty) []:=by
 obtain ⟨bs,ws⟩:=g;cases ws with
 | nil=>
  refine bS T Tryz.func98 rfl rfl rfl rfl ?_
  (repeat' (first|refine wS ?_|refine wR ?_|(refine rg 0 (cO (dR rfl rfl) rfl (aV ?_)))|(refine rg 1 (iK T rfl (qW T rfl (vV (fB rfl rfl) (aV ?_)))))|refine nZ ?_));all_goals first|omega | exact rQ
 | cons w ws=>
  have hl:(gN (w::ws)).length≠0:=by rw [fQ];simp
  refine bS T Tryz.func98 rfl rfl rfl rfl ?_
  (repeat' (first|refine wS ?_|refine wR ?_|(refine rg 0 (cO (dR rfl rfl) rfl (aV ?_)))|(refine rg 1 (iK T rfl (qW T rfl (vV (fB rfl rfl) (aV ?_)))))|refine nZ ?_));all_goals first|omega | exact rQ
noncomputable def yW5:Code:=match Tryz.f63.body with
  | some (.seq _ (.seq _ (.seq _ (.seq _ c))))=>c
  | _=>.skip
noncomputable def xB9:Code:=match yW5 with
  | .seq a _=>a
  | _=>.skip
noncomputable def xC0:Code:=match yW5 with
  | .seq _ b=>b
  | _=>.skip
theorem SM (c:Cx) (l all:List G) (s:Ev){M:Int}(hc:iZ c) (h:C3 c M all s) (hM:M≤2200000) (hids:s.ids.length≤9223372036854775807) :
  AW Tryz.prog (Tryz.f63.ntmps,1) xB9 [(0,.ptr 0 0),(3,.pr (C9 s) 0),(5,.sl 1 0 all.length 2)] [.cells (jY c l),.arr (kY all) 2] (PA (fun v h=>AW Tryz.prog (Tryz.f63.ntmps,1) xC0 v h (zH7 T Tryz.f63.results.toList 1 (.i (tI c l all s).1) [.cells (jY c (tI c l all s).2)])) (zH7 T Tryz.f63.results.toList 1 (.i (tI c l all s).1) [.cells (jY c (tI c l all s).2)])):=by
 obtain ⟨i,g,hi,hg,hgm,hat,ha,hb⟩:=h.at;have hn12:=h.mid.n12;have hal:(kY all).length=all.length:=jX _;have hl12:all.length≤12:=bL h.mid.out.len h.mid.out.ln;have og:=h.mid.out.ok g hgm;have hwl:=h.mid.wl g hgm;have hln:=og.ln;have hil:=(aA.1 hg).1;have f1:=F4 all s.a (by omega) (fun g hg=>by have:=(h.mid.out.ok g hg).ln;omega)
 have hvw:∀ {x:AB} {r:Hp},oX (x :: .arr (kY all) 2::r) (.sl 1 0 all.length 2) (.rowE (kY all) 2):=fun {x r}=>pD rfl hal.symm (rR (fun _=>rfl) _);have hix:=zT g.1 s.a (by omega)
 have hxi:zV g.1 s.a 0=((g.1.idxOf s.a:Nat):Int):=by have:=I8 g.1 s.a 0 ha;simpa using this
 rw [hxi] at hix;rw [hi] at f1;have q1:=F1 (L:=all) (j:=(i:Int)) (i:=i) hg rfl;unfold tI;dsimp only;rw [hat,hi,bI];obtain ⟨bs,ws⟩:=g;dsimp only at *;have hwsl:(gN ws).length=ws.length:=fQ _
 (repeat' (first|refine wS ?_|(refine rg 9 (mW rfl (fW T rfl (vV (bA T rfl rfl rfl rfl) (vV (by exact eH rfl rfl f1 (.cons hvw (.cons (.v _) .nil)) rfl rfl) ?_))));refine aV ?_)|(refine rg 10 (dJ rfl (vV (by exact aT T rfl rfl rfl rfl rfl (by omega) (by omega)) ?_));refine fW T rfl (vV (by exact bA T rfl rfl (bX rfl q1) rfl) ?_);refine vV (by exact eT T rfl rfl rfl rfl) ?_;refine cO (cN T rfl) rfl (bC T rfl rfl rfl rfl rfl rfl (by decide) rfl ?_))|refine nZ ?_));all_goals try omega
 refine mQ 2 1 3 rfl rfl (by decide) ?_
 (repeat' (first|refine wS ?_|refine wB ?_|(refine rg 11 (fW T rfl (vV (bA T rfl rfl rfl rfl) (fW T rfl (vV (bA T rfl rfl rfl rfl) (vV (kC (hix)) (aV ?_)))))))|(refine rg 12 (dJ rfl (vV (by exact aT T rfl rfl rfl rfl rfl (by omega) (by omega)) ?_));refine fW T rfl (vV (by exact bA T rfl rfl (bX rfl q1) rfl) ?_);refine qW T rfl (mV ?_))|refine nZ ?_));all_goals try omega
 refine dI (X:={k:Nat // k≤ws.length}) (fun k=>[(0,.ptr 0 0),(3,.pr (C9 s) 0),(5,.sl 1 0 all.length 2),(8,.i i),(9,.ptr 2 0),(10,.i (bs.idxOf s.a:Nat)),(63,.rowE (gN ws) 3),(64,.i (gN ws).length),(65,.i k.1)]) (fun k=>[.cells (jY c l),.arr (kY all) 2,.cells [.rowE (ints bs) 1,.sl 3 0 (yH c s (bs,ws) k.1).length 3],.arr (gN (yH c s (bs,ws) k.1)) 3]) (fun k=>ws.length-k.1) ⟨0,bZ _⟩ ⟨[0,1,2,3],rfl,(by repeat first|exact trivial|refine ⟨rfl,?_⟩),⟨.inr rfl,.inr (aC rfl rfl (eR _)),.inr rfl,.inr rfl,trivial⟩,by decide,O6 _⟩ ?_
 rintro ⟨k,hk⟩;dsimp only;by_cases hlt:k<ws.length
 ·have hgk:=H3 hlt;have hst:=ED (c:=c) (s:=s) (g:=(bs,ws)) (k:=k) hlt;have hal2:=IF (c:=c) (s:=s) (g:=(bs,ws)) (k:=k) hk;have ow:=og.ws ws[k] (aO hlt);obtain ⟨hidx,_⟩:=zU ha;have hbw:=zR5 c l ws[k] s hc ow rfl hidx (by show bs.length≤1000;omega) hids ⟨h.n0,h.n1⟩
  obtain ⟨e1,e2⟩:=LU c ws[k] (bs.idxOf s.a) s;have hk4:s.k=4→(kV c ws[k] (bs.idxOf s.a) s).2=true:=fun q=>by unfold kV;rw [q];rfl
  have hex:s.k=4→∃ j:Nat,zV bs s.b 0=(j:Int)∧j=bs.idxOf s.b∧j<bs.length:=fun q=>by
   obtain ⟨hj,_⟩:=zU (hb q);exact ⟨bs.idxOf s.b,by have:=I8 bs s.b 0 (hb q);simpa using this,rfl,hj⟩
  have hiy:=zT bs s.b (by omega)
  unfold NK at hst;dsimp only at hst;have hpl:=ow.pl;have hcl:=ow.cl;have hal3:(gN (yH c s (bs,ws) k)).length=(yH c s (bs,ws) k).length:=fQ _;generalize yH c s (bs,ws) k=acc at *;generalize hN:yH c s (bs,ws) (k+1)=acc' at *;generalize bs.idxOf s.a=ia at *;generalize hw:ws[k]=w at *;generalize kV c w ia s=z at *;obtain ⟨⟨zp,zm,zc⟩,zb⟩:=z;dsimp only at e1 e2 hst hk4 hbw;subst e1;obtain ⟨wp,wm,wc⟩:=w;dsimp only at *;have hz1:(ints wp).length=wp.length:=dD _;have hz2:(fS zc).length=zc.length:=iO _
  (repeat' (first|refine wS ?_|refine wB ?_|refine wK ?_|(refine wC rfl ?_ ?_<;>(intro hb;(try simp only [nm] at hb);try omega))|(refine rg 13 (vV (aK rfl rfl) ?_))|(refine rg 14 (vV (ix T rfl (by omega) (qN _) hgk) (lW T rfl (cO (cN T rfl) rfl (bC T rfl rfl rfl rfl rfl rfl (by decide) rfl ?_)))))|refine nZ ?_));all_goals try omega
  refine iG 12 (cs:=wA (wp,wm,wc)) rfl rfl rfl ?_
  (repeat' (first|refine wS ?_|(refine rg 15 (mW rfl (lW T rfl (mW rfl (lW T rfl (cO (by exact gH rfl rfl hbw (.inl ⟨.cons (.ptr rfl (lK _ rfl)) (.cons (JU _) (.cons (.v _) (.cons (.agg (lK _ rfl)) .nil))),zZ4 _ _⟩)) rfl ?_)))));refine mW rfl (xW rfl (xW rfl (cO (cN T rfl) rfl (bC T rfl rfl rfl rfl rfl rfl (by decide) rfl (aV ?_))))))|refine nZ ?_));all_goals try omega
  refine fF [(0,.ptr 0 0),(3,.pr (C9 s) 0),(5,.sl 1 0 all.length 2),(8,.i i),(9,.ptr 2 0),(10,.i ia),(63,.rowE (gN ws) 3),(64,.i (gN ws).length),(65,.i k),(12,.pr (wA (wp,wm,wc)) 0),(13,.ptr 6 0),(14,.b zb)] [.cells (jY c l),.arr (kY all) 2,.cells [.rowE (ints bs) 1,.sl 3 0 acc.length 3],.arr (gN acc) 3,.arr (ints wp) 1,.arr (fS zc) 2,.cells [.sl 4 0 wp.length 1,.i zm,.sl 5 0 wc.length 2]]
   ⟨[0,1,2,3,5,6,7],rfl,(by repeat first|exact trivial|refine ⟨rfl,?_⟩),⟨.inr rfl,.inr (aC rfl rfl (eR _)),.inr rfl,.inr (aC rfl rfl (bY _)),.inr (aC rfl (bB _ (bF _)) (bF _)),.inr (aC rfl (bB _ (fO _)) (fO _)),.inr rfl,trivial⟩,by decide,O6 _⟩ ?_
  refine nY 6 0 (es:=ints wp) rfl rfl rfl hz1.symm (eX (bF _)) ?_;refine nY 6 2 (es:=fS zc) rfl rfl rfl (by omega) (eX (fO _)) ?_
  refine iG 13 (cs:=wA (wp,zm,zc)) rfl rfl rfl ?_;refine fF [(0,.ptr 0 0),(3,.pr (C9 s) 0),(5,.sl 1 0 all.length 2),(8,.i i),(9,.ptr 2 0),(10,.i ia),(63,.rowE (gN ws) 3),(64,.i (gN ws).length),(65,.i k),(12,.pr (wA (wp,wm,wc)) 0),(13,.pr (wA (wp,zm,zc)) 0),(14,.b zb)] [.cells (jY c l),.arr (kY all) 2,.cells [.rowE (ints bs) 1,.sl 3 0 acc.length 3],.arr (gN acc) 3]
   ⟨[0,1,2,3],rfl,(by repeat first|exact trivial|refine ⟨rfl,?_⟩),⟨.inr rfl,.inr (aC rfl rfl (eR _)),.inr rfl,.inr (aC rfl rfl (bY _)),trivial⟩,by decide,O6 _⟩ ?_
  have hA1:∀ (l:List W) (w:W),gN (l++[w])=gN l++[wA w]:=fun l w=>by rw [gN,bU];rfl
  by_cases k4:s.k=4
  ·obtain rfl:=hk4 k4;rw [if_pos rfl,if_pos k4] at hst;obtain ⟨j,hj1,hj2,hj3⟩:=hex k4;rw [hj1] at hiy;rw [← hj2] at hst;have hxc:=yS0 (wp,wm,wc) (i:=ia) (k:=j) ⟨by dsimp only;omega,by dsimp only;omega⟩ (by dsimp only;omega) (by dsimp only;omega) (by dsimp only;omega)
   generalize qC (wp,wm,wc) ia j=u at *;obtain ⟨up,um,uc⟩:=u;have hW:=hA1 acc (wp,zm,zc);have hW2:=hA1 (acc++[(wp,zm,zc)]) (up,um,uc);rw [bM,← hst] at hW2;have hacl:acc'.length=acc.length+2:=by rw [hst];simp
   have hWl:(gN (acc++[(wp,zm,zc)])).length=acc.length+1:=by rw [fQ];simp
   have hidA:=bY (acc++[(wp,zm,zc)]);generalize gN (acc++[(wp,zm,zc)])=B at *;generalize gN acc=A at *
   (repeat' (first|refine wS ?_|refine wT ?_|(refine rg 16 (mV ?_))|(refine rg 17 (iK T rfl (lW T rfl (cO (by exact bG T rfl rfl (by decide) (by decide) rfl rfl rfl) rfl ?_)));refine gJ T rfl rfl rfl rfl rfl rfl (by omega) (kK.whole rfl rfl) rfl (by simp;omega) (by simp;omega) rfl ?_;refine fW T rfl (bC T rfl rfl rfl rfl rfl rfl (by decide) rfl ?_))|refine nZ ?_));all_goals try omega
   refine fF [(0,.ptr 0 0),(3,.pr (C9 s) 0),(5,.sl 1 0 all.length 2),(8,.i i),(9,.ptr 2 0),(10,.i ia),(63,.rowE (gN ws) 3),(64,.i (gN ws).length),(65,.i k),(12,.pr (wA (wp,wm,wc)) 0)] [.cells (jY c l),.arr (kY all) 2,.cells [.rowE (ints bs) 1,.sl 3 0 (acc.length+1) 3],.arr B 3]
    ⟨[0,1,2,5],rfl,(by repeat first|exact trivial|refine ⟨rfl,?_⟩),⟨.inr rfl,.inr (aC rfl rfl (eR _)),.inr rfl,.inr (aC rfl (by rw [hW];exact jW hal3.symm) hidA),trivial⟩,by decide,O6 _⟩ ?_
   (repeat' (first|refine wT ?_|(refine rg 18 (iK T rfl (vV (jL rfl rfl k4) ?_)))|(refine lY (id:=19) 128 [[],[0],[],[],[],[4],[],[6],rM 4 4,rM 2 7,rM 2 8,rN 11] (rM 87 12) [[],[],[87,88],[87,88,89],rM 87 4,rM 87 4,rM 87 6,rM 87 6,rM 87 4,[87,88],[87,88],[]] [(11,3)] cP rfl (by decide +kernel) (cQ rfl rfl rfl rfl (by exact bR T rfl rfl rfl) ?_);refine cQ rfl rfl rfl rfl (by exact bA T rfl rfl rfl rfl) ?_;refine cQ rfl rfl rfl rfl (by exact bA T rfl rfl rfl rfl) ?_;refine cQ rfl rfl rfl rfl (by exact bV rfl) ?_;refine cQ rfl rfl rfl rfl (by exact bR T rfl rfl rfl) ?_;refine cQ rfl rfl rfl rfl (by exact bA T rfl rfl rfl rfl) ?_;refine cQ rfl rfl rfl rfl (by exact bR T rfl rfl rfl) ?_;refine cQ rfl rfl rfl rfl (by exact bA T rfl rfl rfl rfl) ?_;refine cQ rfl rfl rfl rfl (by exact kC (hiy)) ?_;refine cQ rfl rfl rfl rfl (by exact kC (hxc)) ?_;refine B9 rfl rfl rfl rfl (by exact bG T rfl rfl (by decide) (by decide) rfl rfl rfl) rfl ?_;refine oT rfl rfl rfl rfl (aI rfl) (by exact oC T rfl rfl rfl rfl rfl rfl (by omega) (kK.whole rfl rfl) rfl (by simp;omega) (by simp;omega)) ?_;refine qK rfl rfl rfl (by exact rfl) ?_;refine fW T rfl (bC T rfl rfl rfl rfl rfl rfl (by decide) rfl ?_))|(refine rg 20 (vV (cK rfl rfl (by omega) (by omega)) (mV ?_)))|refine nZ ?_));all_goals try omega
   exact ⟨⟨k+1,hlt⟩,by dsimp only;omega,⟨[0,1,2,5],rfl,(by repeat first|exact trivial|refine ⟨rfl,?_⟩),⟨.inr rfl,.inr (aC rfl rfl (eR _)),.inr (by dsimp only;rw [hN,hacl];rfl),.inr (aC rfl (by dsimp only;rw [hN,hW2];exact jW hWl.symm) (bY _)),trivial⟩,by decide,O6 _⟩⟩
  ·rw [if_neg k4,List.append_nil] at hst;cases zb with
   | true=>
    rw [if_pos rfl] at hst;have hW:=hA1 acc (wp,zm,zc);rw [← hst] at hW;have hacl:acc'.length=acc.length+1:=by rw [hst];simp
    generalize gN acc=A at *
    (repeat' (first|refine wS ?_|refine wK ?_|refine wT ?_|refine wU ?_|(refine rg 16 (mV ?_))|(refine rg 17 (iK T rfl (lW T rfl (cO (by exact bG T rfl rfl (by decide) (by decide) rfl rfl rfl) rfl ?_)));refine gJ T rfl rfl rfl rfl rfl rfl (by omega) (kK.whole rfl rfl) rfl (by simp;omega) (by simp;omega) rfl ?_;refine fW T rfl (bC T rfl rfl rfl rfl rfl rfl (by decide) rfl ?_))|(refine rg 18 (iK T rfl (vV (gR rfl rfl (by omega)) ?_)))|(refine rg 20 (vV (cK rfl rfl (by omega) (by omega)) (mV ?_)))|refine nZ ?_));all_goals try omega
    exact ⟨⟨k+1,hlt⟩,by dsimp only;omega,⟨[0,1,2,5],rfl,(by repeat first|exact trivial|refine ⟨rfl,?_⟩),⟨.inr rfl,.inr (aC rfl rfl (eR _)),.inr (by dsimp only;rw [hN,hacl];rfl),.inr (aC rfl (by dsimp only;rw [hN,hW];exact jW hal3.symm) (bY _)),trivial⟩,by decide,O6 _⟩⟩
   | false=>
    rw [if_neg (by simp),List.append_nil] at hst
    subst hst
    (repeat' (first|refine wS ?_|refine wK ?_|refine wU ?_|(refine rg 16 (mV ?_))|(refine rg 18 (iK T rfl (vV (gR rfl rfl (by omega)) ?_)))|(refine rg 20 (vV (cK rfl rfl (by omega) (by omega)) (mV ?_)))|refine nZ ?_));all_goals try omega
    exact ⟨⟨k+1,hlt⟩,by dsimp only;omega,⟨[0,1,2,3],rfl,(by repeat first|exact trivial|refine ⟨rfl,?_⟩),⟨.inr rfl,.inr (aC rfl rfl (eR _)),.inr (by dsimp only;rw [hN];rfl),.inr (aC rfl (by dsimp only;rw [hN]) (bY _)),trivial⟩,by decide,O6 _⟩⟩
 ·obtain rfl:k=ws.length:=by omega
  have hNA:=YU c s (bs,ws);dsimp only at hNA;rw [hNA];have hnl:=YT (c:=c) (s:=s) (g:=(bs,ws));dsimp only at hnl;have hno:∀ w,w∈mY c s (bs,ws)→JM c.bs.length bs.length w:=fun w hw=>(OX h.mid hM hgm h.n0 ha hb hw).1;have hoc:=HW (mY c s (bs,ws)) (by omega) (fun w hw=>⟨by have:=(hno w hw).pl;omega,by have:=(hno w hw).cl;omega⟩)
  have hnx:=h.next hM hg ha hb
  dsimp only at hnx;have hol:=tK (mY c s (bs,ws));have hNl:(gN (mY c s (bs,ws))).length=(mY c s (bs,ws)).length:=fQ _;generalize mY c s (bs,ws)=nw at *
  (repeat' (first|refine wS ?_|refine wE ?_|(refine wC rfl ?_ ?_<;>(intro hb;(try simp only [nm] at hb);try omega))|(refine rg 13 (vV (aK rfl rfl) ?_))|refine nZ ?_));all_goals try omega
  refine nY 2 1 (es:=gN nw) rfl rfl rfl hNl.symm (eX (bY _)) ?_;generalize gX nw=ow at *;have how:(gN ow).length=ow.length:=fQ _
  (repeat' (first|refine wS ?_|refine wB ?_|(refine rg 21 (iK T rfl (vV (kC (hoc)) (fW T rfl (bC T rfl rfl rfl rfl rfl rfl (by decide) rfl ?_)))))|refine nZ ?_));all_goals try omega
  refine fF [(0,.ptr 0 0),(3,.pr (C9 s) 0),(5,.sl 1 0 all.length 2),(8,.i i),(9,.ptr 2 0)] [.cells (jY c l),.arr (kY all) 2,.cells (gA (bs,ow))] ⟨[0,1,2],rfl,(by repeat first|exact trivial|refine ⟨rfl,?_⟩),⟨.inr rfl,.inr (aC rfl rfl (eR _)),.inr rfl,trivial⟩,by decide,O6 _⟩ ?_
  by_cases h0:ow=[]
  ·subst h0;rw [if_pos rfl]
   (repeat' (first|refine wS ?_|refine wR ?_|refine wT ?_|(refine rg 22 (iK T rfl (qW T rfl (vV (fB rfl rfl) (aV ?_)))))|(refine rg 23 (aV ?_))|refine nZ ?_));all_goals try omega
   exact ⟨.inl rfl,[0],_,rfl,rfl,rfl,⟨.inr rfl,trivial⟩,by decide,O6 _⟩
  ·rw [if_neg h0];have hop:=eO.2 h0;by_cases h1:1000<ow.length
   ·rw [if_pos h1]
    (repeat' (first|refine wS ?_|refine wR ?_|(refine wC rfl ?_ ?_<;>(intro hb;(try simp only [nm] at hb);try omega))|(refine rg 22 (iK T rfl (qW T rfl (vV (fB rfl rfl) (aV ?_)))))|(refine rg 24 (iK T rfl (qW T rfl (vV (fK rfl rfl) (aV ?_)))))|(refine rg 25 (aV ?_))|refine nZ ?_));all_goals try omega
    exact ⟨.inl rfl,[0],_,rfl,rfl,rfl,⟨.inr rfl,trivial⟩,by decide,O6 _⟩
   ·rw [if_neg h1];obtain ⟨hm1,hasc⟩:=hnx h0 (by omega)
    have hty:=zX2 c l (all.set i (bs,ow)) hm1.out hm1.up hm1.ne;have hset:=R3 (L:=all) (j:=(i:Int)) (i:=i) (x:=(bs,ow)) rfl;have hto:=(NG hm1.out (c:=c)).len;have hto2:=(NG hm1.out (c:=c)).ln;have hcf:=yR0 (l:=xI c (all.set i (bs,ow))) (F:=98) (caps:=[]) (p:=fun g=>g.2.isEmpty) (by omega) rfl (fun x hx=>yO1 x)
    have hNl2:all.length=(kY (all.set i (bs,ow))).length:=by rw [jX,hC]
    (repeat' (first|refine wS ?_|refine wK ?_|(refine wC rfl ?_ ?_<;>(intro hb;(try simp only [nm] at hb);try omega))|(refine rg 22 (iK T rfl (qW T rfl (vV (fB rfl rfl) (aV ?_)))))|(refine rg 24 (iK T rfl (qW T rfl (vV (fK rfl rfl) (aV ?_)))))|(refine rg 26 (dJ rfl (lW T rfl (vV (by exact aT T rfl rfl rfl rfl rfl (by omega) (by omega)) ?_)));refine bC T rfl rfl rfl rfl rfl rfl (by decide) (nJ rfl q1 rfl) ?_)|refine nZ ?_));all_goals try omega
    generalize all.set i (bs,ow)=N at *;refine fF [(0,.ptr 0 0),(5,.sl 1 0 all.length 2)] [.cells (jY c l),.arr (kY N) 2] ⟨[0,1],rfl,(by repeat first|exact trivial|refine ⟨rfl,?_⟩),⟨.inr rfl,.inr (aC rfl hset (eR _)),trivial⟩,by decide,O6 _⟩ ?_
    refine UJ 5 (es:=kY N) rfl rfl hNl2 (eX (eR _)) ?_;generalize xI c N=out at *
    (repeat' (first|refine wS ?_|(refine rg 27 (dJ rfl (bT [0] rfl rfl (hty) rfl rfl (by decide) ⟨.inr rfl,trivial⟩ (by simp) rfl ?_));refine aV ?_)|refine nZ ?_));all_goals try omega
    cases hany:out.any fun g=>g.2.isEmpty with
    | true=>
     rw [hany] at hcf;rw [if_pos rfl]
     (repeat' (first|refine wS ?_|refine wR ?_|refine wT ?_|(refine rg 28 (mW rfl (vV (kC (hcf)) ?_)))|(refine rg 29 (aV ?_))|refine nZ ?_));all_goals try omega
     exact ⟨.inl rfl,[0],_,rfl,rfl,rfl,⟨.inr rfl,trivial⟩,by decide,O6 _⟩
    | false=>
     rw [hany] at hcf;rw [if_neg (by simp)]
     (repeat' (first|refine wS ?_|refine wK ?_|refine wR ?_|refine wU ?_|(refine rg 28 (mW rfl (vV (kC (hcf)) ?_)))|(refine rg 30 (dJ rfl (nV ?_));refine fW T rfl (bC T rfl rfl rfl rfl rfl rfl (by decide) rfl ?_))|(refine rg 31 (aV ?_))|refine nZ ?_));all_goals try omega
     exact ⟨.inl rfl,[0],_,rfl,rfl,rfl,⟨.inr rfl,trivial⟩,by decide,O6 _⟩
theorem zH0 (c:Cx) (gs:List G) (s:Ev) (hc:iZ c) (h:qH c gs) (hids:s.ids.length≤9223372036854775807) :
  aM Tryz.prog 63 [.ptr 0 0,yY8 s] [.cells (jY c gs)] (.i (fI c gs s).1) [.cells (jY c (fI c gs s).2)]:=by
 have hn12:=h.mid.n12;obtain ⟨hm0,hm1,_⟩:=hc.s;have hgl:(kY gs).length=gs.length:=jX _;have hgl12:gs.length≤12:=bL h.mid.out.len h.mid.out.ln;have hbl:(fL c.bs).length=c.bs.length:=aU _;have hright:=zH5 c.bs.length s.k s.a s.b s.n s.ids hids ⟨by omega,by omega⟩
 have hcl:=T4 gs (by omega)
 have hst:=xZ (s:=s) h (by omega) hm0
 have hjo:=fun (hr:iP c.bs.length s=true) (hk:s.k=4) (all:List G)=>vJ (s:=s) (all:=all) h (by omega) hm0 hm1 hr hk
 unfold fI;generalize hv:iP c.bs.length s=v at *;rw [← hbl] at hright;cases v with
 | false=>
  rw [if_neg (by simp)]
  refine bS T Tryz.func63 rfl rfl rfl rfl ?_
  (repeat' (first|refine wS ?_|(refine rg 0 (cO (dR rfl rfl) rfl (aV ?_)))|refine nZ ?_));refine iG 3 (cs:=C9 s) rfl rfl rfl ?_
  (repeat' (first|refine wS ?_|refine wR ?_|refine wT ?_|(refine cH (id:=1) 128 xM3 (rM 15 8) xM4 cP rfl (by decide +kernel) (dN rfl (dV rfl (by exact cF rfl rfl) ?_));refine dP T rfl (dO T rfl (dV rfl (mZ T rfl rfl) (dO T rfl (dV rfl (kC (hright)) (dV rfl (dS rfl) (dE ?_)))))))|(refine rg 2 (aV ?_))|refine nZ ?_));all_goals try omega
  exact ⟨.inl rfl,[0],_,rfl,rfl,rfl,⟨.inr rfl,trivial⟩,by decide,O6 _⟩
 | true=>
  rw [if_pos rfl];by_cases k4:s.k=4
  ·rw [if_pos k4];obtain ⟨r1,r2,_⟩:=oP hv (by omega)
   have r2:=r2 k4;have fa:=h.mid.find r1;have fb:=h.mid.find (b:=s.b) ⟨by omega,by omega⟩
   cases hj:join gs s.a s.b with
   | none=>
    dsimp only;have hjc:=yC7 gs s.a s.b h.mid.out fa fb hj;refine bS T Tryz.func63 rfl rfl rfl rfl ?_
    (repeat' (first|refine wS ?_|(refine rg 0 (cO (dR rfl rfl) rfl (aV ?_)))|refine nZ ?_));refine iG 3 (cs:=C9 s) rfl rfl rfl ?_
    (repeat' (first|refine wS ?_|refine wK ?_|refine wU ?_|(refine cH (id:=1) 128 xM3 (rM 15 8) xM4 cP rfl (by decide +kernel) (dN rfl (dV rfl (by exact cF rfl rfl) ?_));refine dP T rfl (dO T rfl (dV rfl (mZ T rfl rfl) (dO T rfl (dV rfl (kC (hright)) (dV rfl (dS rfl) (dE ?_)))))))|(refine rg 3 (mW rfl (nV ?_));refine iK T rfl (cO (by exact gH rfl rfl hcl (.inr ⟨rfl,rfl,by simp⟩)) rfl ?_);refine aV ?_)|refine nZ ?_));all_goals try omega
    refine fF [(0,.ptr 0 0),(3,.pr (C9 s) 0),(5,.sl 1 0 gs.length 2)] [.cells (jY c gs),.arr (kY gs) 2] ⟨[0,2],rfl,(by repeat first|exact trivial|refine ⟨rfl,?_⟩),⟨.inr rfl,.inr (aC rfl (bB _ (eR _)) (eR _)),trivial⟩,by decide,O6 _⟩ ?_
    refine UJ 5 (es:=kY gs) rfl rfl hgl.symm (eX (eR _)) ?_
    (repeat' (first|refine wS ?_|refine wR ?_|refine wT ?_|(refine rg 4 (iK T rfl (vV (jL rfl rfl k4) ?_)))|(refine rg 5 (mW rfl (iK T rfl (iK T rfl (vV (kC (hjc)) (mW rfl (xW rfl (xW rfl (pT ?_)))))))))|(refine rg 6 (mW rfl (vV (gI rfl rfl) ?_)))|(refine rg 7 (mW rfl (aV ?_)))|refine nZ ?_));all_goals try omega
    exact ⟨.inl rfl,[0],_,rfl,rfl,rfl,⟨.inr rfl,trivial⟩,by decide,O6 _⟩
   | some all=>
    dsimp only;have hso:=hjo rfl k4 all hj;refine bS T Tryz.func63 rfl rfl rfl rfl ?_
    (repeat' (first|refine wS ?_|(refine rg 0 (cO (dR rfl rfl) rfl (aV ?_)))|refine nZ ?_));refine iG 3 (cs:=C9 s) rfl rfl rfl ?_
    (repeat' (first|refine wS ?_|refine wK ?_|refine wU ?_|(refine cH (id:=1) 128 xM3 (rM 15 8) xM4 cP rfl (by decide +kernel) (dN rfl (dV rfl (by exact cF rfl rfl) ?_));refine dP T rfl (dO T rfl (dV rfl (mZ T rfl rfl) (dO T rfl (dV rfl (kC (hright)) (dV rfl (dS rfl) (dE ?_)))))))|(refine rg 3 (mW rfl (nV ?_));refine iK T rfl (cO (by exact gH rfl rfl hcl (.inr ⟨rfl,rfl,by simp⟩)) rfl ?_);refine aV ?_)|refine nZ ?_));all_goals try omega
    refine fF [(0,.ptr 0 0),(3,.pr (C9 s) 0),(5,.sl 1 0 gs.length 2)] [.cells (jY c gs),.arr (kY gs) 2] ⟨[0,2],rfl,(by repeat first|exact trivial|refine ⟨rfl,?_⟩),⟨.inr rfl,.inr (aC rfl (bB _ (eR _)) (eR _)),trivial⟩,by decide,O6 _⟩ ?_
    by_cases hs:qB gs s.a=qB gs s.b
    ·have hjc:=yC5 gs s.a s.b h.mid.out fa fb hs;have:all=gs:=by unfold join at hj;dsimp only at hj;rw [if_pos hs] at hj;exact (Option.some.inj hj).symm
     subst this
     (repeat' (first|refine wS ?_|refine wK ?_|refine wT ?_|refine wU ?_|(refine rg 4 (iK T rfl (vV (jL rfl rfl k4) ?_)))|(refine rg 5 (mW rfl (iK T rfl (iK T rfl (bT [1] rfl rfl (hjc) rfl rfl (by decide) ⟨.inr (aC rfl rfl (eR _)),trivial⟩ (by simp) rfl ?_))));refine mW rfl (xW rfl (xW rfl (pT ?_))))|(refine rg 6 (mW rfl (vV (gI rfl rfl) ?_)))|(refine rg 8 (mW rfl (aV ?_)))|refine nZ ?_));all_goals try omega
     refine fF [(0,.ptr 0 0),(3,.pr (C9 s) 0),(5,.sl 1 0 all.length 2)] [.cells (jY c all),.arr (kY all) 2] ⟨[0,1],rfl,(by repeat first|exact trivial|refine ⟨rfl,?_⟩),⟨.inr rfl,.inr (aC rfl (bB _ (eR _)) (eR _)),trivial⟩,by decide,O6 _⟩ ?_
     exact SM c all all s hc hso (by omega) hids
    ·have hjc:=yC6 gs s.a s.b h.mid.out fa fb hj hs;refine UJ 5 (es:=kY gs) rfl rfl hgl.symm (eX (eR _)) ?_
     (repeat' (first|refine wS ?_|refine wK ?_|refine wT ?_|refine wU ?_|(refine rg 4 (iK T rfl (vV (jL rfl rfl k4) ?_)))|(refine rg 5 (mW rfl (iK T rfl (iK T rfl (cO (by exact gH rfl rfl hjc (.inr ⟨rfl,rfl,by simp⟩)) rfl ?_))));refine mW rfl (xW rfl (xW rfl (pT ?_))))|(refine rg 6 (mW rfl (vV (gI rfl rfl) ?_)))|(refine rg 8 (mW rfl (aV ?_)))|refine nZ ?_));all_goals try omega
     refine fF [(0,.ptr 0 0),(3,.pr (C9 s) 0),(5,.sl 1 0 all.length 2)] [.cells (jY c gs),.arr (kY all) 2] ⟨[0,2],rfl,(by repeat first|exact trivial|refine ⟨rfl,?_⟩),⟨.inr rfl,.inr (aC rfl (bB _ (eR _)) (eR _)),trivial⟩,by decide,O6 _⟩ ?_
     exact SM c gs all s hc hso (by omega) hids
  ·rw [if_neg k4];refine bS T Tryz.func63 rfl rfl rfl rfl ?_
   (repeat' (first|refine wS ?_|(refine rg 0 (cO (dR rfl rfl) rfl (aV ?_)))|refine nZ ?_));refine iG 3 (cs:=C9 s) rfl rfl rfl ?_
   (repeat' (first|refine wS ?_|refine wK ?_|refine wU ?_|(refine cH (id:=1) 128 xM3 (rM 15 8) xM4 cP rfl (by decide +kernel) (dN rfl (dV rfl (by exact cF rfl rfl) ?_));refine dP T rfl (dO T rfl (dV rfl (mZ T rfl rfl) (dO T rfl (dV rfl (kC (hright)) (dV rfl (dS rfl) (dE ?_)))))))|(refine rg 3 (mW rfl (nV ?_));refine iK T rfl (cO (by exact gH rfl rfl hcl (.inr ⟨rfl,rfl,by simp⟩)) rfl ?_);refine aV ?_)|(refine rg 4 (iK T rfl (vV (gR rfl rfl (by omega)) ?_)))|refine nZ ?_));all_goals try omega
   refine fF [(0,.ptr 0 0),(3,.pr (C9 s) 0),(5,.sl 1 0 gs.length 2)] [.cells (jY c gs),.arr (kY gs) 2] ⟨[0,2],rfl,(by repeat first|exact trivial|refine ⟨rfl,?_⟩),⟨.inr rfl,.inr (aC rfl (bB _ (eR _)) (eR _)),trivial⟩,by decide,O6 _⟩ ?_
   exact SM c gs gs s hc (hst rfl k4) (by omega) hids
end Go.Proofs.Q
namespace Go.Ld
open Go.Ab Go.Proofs.Q
def BN (c:Cx) (i:Nat):G:=([(i:Int)],[([(i:Int)],0,[((c.bs.getD i (0,0,0)).2.1,(c.bs.getD i (0,0,0)).2.1+1)])])
theorem zP (c:Cx):rU c=(List.range c.bs.length).map (BN c):=rfl
theorem EW {α β:Type}(f:α→β):∀ l:List α,(l.flatMap fun x=>[f x])=l.map f
 | []=>rfl
 | x::l=>by rw [bP,EW f l];rfl
theorem zK9 {c:Cx}(hc:iZ c) (hn:c.bs.length≤12) (hm:0≤c.m):qH c (rU c):=by
 rw [zP];have hmem:∀ g,g∈(List.range c.bs.length).map (BN c)→∃ i,i<c.bs.length∧g=BN c i:=fun g hg=>by
  obtain ⟨i,hi,e⟩:=bD.1 hg;exact ⟨i,fG.1 hi,e.symm⟩
 have fl:(((List.range c.bs.length).map (BN c)).flatMap (·.1))=nats (List.range c.bs.length):=by
  rw [FY];exact EW _ _
 have fw:(((List.range c.bs.length).map (BN c)).flatMap fun g=>(iV g).1)=nats (List.range c.bs.length):=by
  rw [FY];exact EW _ _
 refine ⟨⟨⟨fun g hg=>?_,by rw [fl];exact I2 _,by rw [fl];simpa using hn,fun g hg=>?_⟩,?_,fun g hg=>?_,fun g hg w hw=>?_,by rw [fl],by rw [fw],fun g hg=>?_⟩,fun g hg=>?_,fun g hg=>?_⟩
 ·obtain ⟨i,hi,rfl⟩:=hmem g hg;have hb:=hc.f.b i hi;have e:c.bs.getD i (0,0,0)=c.bs[i]:=by rw [aE,aB hi];rfl
  unfold BN;rw [e];generalize c.bs[i]=x at *;refine ⟨by simp,mO _ _,fun b hb=>by obtain rfl:=bE.1 hb;omega,by simp,fun w hw=>?_,fun w v hw hv=>by obtain rfl:=bE.1 hw;obtain rfl:=bE.1 hv;exact .refl _⟩
  obtain rfl:=bE.1 hw;refine ⟨rfl,rfl,fun b hb=>by obtain rfl:=bE.1 hb;omega,mO _ _,eW _,by dsimp only;omega,fun r hr=>?_⟩
  obtain rfl:=bE.1 hr;unfold SB;dsimp only;omega
 ·obtain ⟨i,hi,rfl⟩:=hmem g hg;show 1≤2000;omega
 ·refine P2.2 ?_;rw [uF];show ((List.range c.bs.length).map fun i:Nat=>((i:Int))).Pairwise _;refine zU8.2 ((GP).imp fun {a b} h=>by omega)
 ·obtain ⟨i,hi,rfl⟩:=hmem g hg;unfold BN;simp
 ·obtain ⟨i,hi,rfl⟩:=hmem g hg;obtain rfl:=bE.1 hw;exact hm
 ·obtain ⟨i,hi,rfl⟩:=hmem g hg;show 1≤1000;omega
 ·obtain ⟨i,hi,rfl⟩:=hmem g hg;unfold iS;rw [if_pos (.inl (by show 1<2;omega))]
 ·obtain ⟨i,hi,rfl⟩:=hmem g hg;exact mO _ _
def BO (gs:List G) (b:Int):Option (G × Nat):=match gs.findIdx? fun g=>decide (b∈g.1) with
 | some i=>some (mJ gs i,(mJ gs i).1.idxOf b)
 | none=>none
theorem R4 {gs:List G}{b:Int}{g:G}{i:Nat}(h:BO gs b=some (g,i)):∃ k:Nat,qB gs b=(k:Int)∧gs[k]? = some g∧b∈g.1∧i=g.1.idxOf b:=by
 unfold BO at h;cases hq:gs.findIdx? fun g=>decide (b∈g.1) with
 | none=>rw [hq] at h;cases h
 | some k=>
  rw [hq] at h;dsimp only at h;cases h;obtain ⟨hk,hb,_⟩:=List.findIdx?_eq_some_iff_getElem.1 hq;have e:mJ gs k=gs[k]:=by unfold mJ;rw [aE,aB hk];rfl
  refine ⟨k,by unfold qB;rw [hq],by rw [e];exact aB hk,by rw [e];simpa using hb,rfl⟩
theorem zN8 {gs:List G}{b:Int}(h:BO gs b=none):qB gs b = -1:=by
 unfold BO at h;cases hq:gs.findIdx? fun g=>decide (b∈g.1) with
 | none=>unfold qB;rw [hq]
 | some k=>rw [hq] at h;cases h
theorem ER {gs:List G}{b:Int}(h:∃ g,g∈gs∧b∈g.1):∃ g,BO gs b=some (g,g.1.idxOf b)∧g∈gs∧b∈g.1:=by
 cases hq:BO gs b with
 | none=>
  obtain ⟨i,g,h1,_⟩:=jD h;have:=zN8 hq;omega
 | some x=>
  obtain ⟨g,i⟩:=x;obtain ⟨k,_,h2,h3,rfl⟩:=R4 hq;exact ⟨g,rfl,aQ h2,h3⟩
end Go.Ld
namespace Go.Proofs.Q
open Go Go.Ab Go.Ld
attribute [local irreducible] VC AW bW aM iU
theorem yD8 (c:Cx) (gs:List G) (b:Int) (hl:gs.length≤1000000) (hg:∀ g,g∈gs→g.1.length≤1000000){g:G}{i:Nat}(h:BO gs b=some (g,i)) :
  aM Tryz.prog 77 [.pr (jY c gs) 0,.i b] [] (.tup [zC9 g,.i i,.b true]) []:=by
 obtain ⟨k,h1,h2,h3,rfl⟩:=R4 h;have hf:=F4 gs b hl hg;rw [h1] at hf;have hgl:(kY gs).length=gs.length:=jX _;have hkl:=(aA.1 h2).1;have q:(kY gs)[((k:Int)).toNat]? = some (gA g):=by rw [bI,bN,h2];rfl
 have hix:=zT g.1 b (by have:=hg g (aQ h2);omega)
 have hxi:zV g.1 b 0=((g.1.idxOf b:Nat):Int):=by have:=I8 g.1 b 0 h3;simpa using this
 rw [hxi] at hix;generalize g.1.idxOf b=ia at *;obtain ⟨bs,ws⟩:=g;dsimp only at *;refine bS T Tryz.func77 rfl rfl rfl rfl ?_
 (repeat' (first|refine wS ?_|refine wK ?_|refine wR ?_|refine wU ?_|(refine rg 0 (cO (cN T rfl) rfl (pT ?_)))|(refine rg 1 (mW rfl (nV ?_));refine iK T rfl (mW rfl (vV (kC (hf)) (aV ?_))))|(refine rg 2 (mW rfl (vV (aK rfl rfl) ?_)))|(refine vW (id:=4) 17 34 [[],[0],[0,1],[0,1,2],[],rN 5,rN 6,[],[7],[7,8],[7,8,9],[],rM 7 5,rM 7 6,rM 7 7,[],rM 7 9,rN 17,rN 18,rN 19] [[],[0],[0,1],[0,1,2],[],rN 5,rN 6,[],[7],[7,8],[7,8,9],[],rM 7 5,rM 7 6,rM 7 7,[],rM 7 9] (rM 17 17) [[],[],[],[],rM 17 4,[],[],rM 17 7,rM 17 7,rM 17 7,rM 17 7,rM 17 11,rM 17 7,rM 17 7,rM 17 7,rM 17 15,rM 17 7] cP rfl (by decide +kernel) (by decide +kernel) ?_;(dsimp only [List.take,List.drop]);refine dN rfl (dV rfl (by exact cF rfl rfl) ?_);refine dP T rfl (dO T rfl (dN rfl (dV rfl (ix T rfl (by omega) (sW _) q) (dO T rfl (dN rfl (dV rfl (by exact cF rfl rfl) ?_))))));refine dP T rfl (dO T rfl (dN rfl (dV rfl (ix T rfl (by omega) (sW _) q) (dP T rfl (dO T rfl (dN rfl (dV rfl (kC (hix)) (dE ?_))))))));refine iI ?_;refine bC T rfl rfl rfl rfl rfl rfl (by decide) rfl (pT ?_))|refine nZ ?_));all_goals try omega
 all_goals exact ⟨.inl rfl,[],_,rfl,rfl,rfl,trivial,by decide,jP _⟩
end Go.Proofs.Q
namespace Go.Ld
open Go.Ab Go.Proofs.Q
def M7 (g:G) (i:Nat):List Int:=g.2.map fun w=>gP w i
theorem ZL {g:G}{i k:Nat}(h:k<g.2.length):(M7 g i).take (k+1)=(M7 g i).take k++[gP g.2[k] i]:=by
 unfold M7;rw [← lB,← lB,aL h,bU];rfl
end Go.Ld
namespace Go.Proofs.Q
open Go Go.Ab Go.Ld
attribute [local irreducible] VC AW bW aM iU
theorem zS4 {G l:List Int}{m:Nat}(hg:G.length≤m) (hm:m<l.length):(ints (G++l.drop G.length))[0+(m:Int).toNat]? = some [AV.i l[m]]:=by
 rw [Nat.zero_add,bI,bN,aF hg,eK,show G.length+(m-G.length)=m by omega,aB hm];rfl
theorem zY3 {G l:List Int}{x:Int}(hg:G.length<l.length):(ints (G++l.drop G.length)).set (0+(G.length:Int).toNat) [AV.i x]=ints ((G++[x])++l.drop (G++[x]).length):=by
 rw [Nat.zero_add,bI,← zC,jC _ _ (aX _),eI,aP hg,List.set_cons_zero];simp
theorem VM {G l:List Int}(hg:G.length≤l.length):(ints (G++l.drop G.length)).length=l.length:=by simp;omega
theorem zE3 {G l:List Int}:(ints (G++l.drop G.length)).take (0+(G.length:Int).toNat)=ints G:=by
 rw [Nat.zero_add,bI,← lB,rF (aX _),bO (aX _)]
def kI (l:List Int):Nat→List Int
 | 0=>[]
 | m+1=>if 0<m∧l.getD m 0=l.getD (m-1) 0 then kI l m else kI l m++[l.getD m 0]
def C1 (l:List Int):List Int:=kI l l.length
theorem FH {l:List Int}{m:Nat}(h:0<m) (e:l.getD m 0=l.getD (m-1) 0):kI l (m+1)=kI l m:=by
 unfold kI;rw [if_pos ⟨h,e⟩];cases m <;> rfl
theorem QJ {l:List Int}{m:Nat}(e:l.getD m 0≠l.getD (m-1) 0):kI l (m+1)=kI l m++[l.getD m 0]:=by
 unfold kI;rw [if_neg (fun q=>e q.2)];cases m <;> rfl
theorem QI (l:List Int):kI l 1=[l.getD 0 0]:=by
 unfold kI;rw [if_neg (fun q=>Nat.lt_irrefl _ q.1)];rfl
theorem zW {l:List Int}{m:Nat}(h:m<l.length):l.getD m 0=l[m]:=by rw [aE,aB h];rfl
theorem WX {G l:List Int}{m:Nat}{i:Nat}(hg:G.length≤m) (hm:m<l.length) (hi:i=m):(ints (G++l.drop G.length))[i]? = some [AV.i (l.getD m 0)]:=by
 have:=zS4 hg hm;rw [Nat.zero_add,bI] at this;rw [hi,this,zW hm]
theorem WY {l:List Int}{m i:Nat}(hm:m<l.length) (hi:i=m):(ints l)[i]? = some [AV.i (l.getD m 0)]:=by
 rw [hi,mC hm,zW hm]
theorem JB (l:List Int) (hl:l.length≤1000000):aM Tryz.prog 75 [.sl 0 0 l.length 1] [.arr (ints l) 1] (.sl 0 0 (C1 l).length 1) [.arr (ints (C1 l)) 1]:=by
 have hll:(ints l).length=l.length:=by simp
 refine bS T Tryz.func75 rfl rfl rfl rfl ?_;by_cases h2:l.length<2
 ·have hk:C1 l=l:=by
   match l,h2 with
   | [],_=>rfl
   | [a],_=>exact QI _
   | _::_::_,h=>exact absurd h (by simp)
  rw [hk]
  (repeat' (first|refine wS ?_|refine wR ?_|(refine wC rfl ?_ ?_<;>(intro hb;(try simp only [nm] at hb);try omega))|(refine rg 0 (aV ?_))|(refine rg 1 (mW rfl (qW T rfl (vV (aK rfl rfl) ?_))))|(refine rg 2 (mW rfl (aV ?_)))|refine nZ ?_));all_goals first|omega | exact ⟨.inl rfl,[0],_,rfl,rfl,rfl,⟨.inr (aC rfl rfl (bF _)),trivial⟩,by decide,uN⟩
 ·(repeat' (first|refine wS ?_|refine wB ?_|refine wK ?_|(refine wC rfl (fun hb=>?_) (fun hb=>?_) <;> (((try simp only [nm] at hb);try omega)))|(refine rg 0 (aV ?_))|(refine rg 1 (mW rfl (qW T rfl (vV (aK rfl rfl) ?_))))|(refine rg 3 (aV ?_))|(refine nZ ?_)));all_goals try omega
  refine dI (X:={k:Nat // 1≤k∧k≤l.length∧kI l k=l.take k}) (fun k=>[(0,.sl 0 0 l.length 1),(3,.i k.1)]) (fun _=>[.arr (ints l) 1]) (fun k=>l.length-k.1) ⟨1,by omega,by omega,by rw [QI,zW (by omega),aL (by omega)];rfl⟩ ⟨[0],rfl,by (repeat (first|exact trivial|refine ⟨rfl,?_⟩)),⟨.inr (aC rfl rfl (bF _)),trivial⟩,by decide,uN⟩ ?_
  rintro ⟨k,hk1,hk,hkc⟩;dsimp only;by_cases hlt:k<l.length
  ·have e1:=WY (i:=0+(k:Int).toNat) hlt (by omega)
   have e2:=WY (l:=l) (m:=k-1) (i:=0+((k:Int)-1).toNat) (by omega) (by omega)
   by_cases hd:l.getD k 0=l.getD (k-1) 0
   ·have hc1:=FH (l:=l) hk1 hd;rw [hkc] at hc1;generalize l.getD k 0=a at *;generalize l.getD (k-1) 0=b at *
    (repeat' (first|refine wS ?_|refine wB ?_|refine wK ?_|refine wT ?_|(refine wC rfl ?_ ?_<;>(intro hb;(try simp only [nm] at hb);try omega))|(refine rg 4 (dJ rfl (qW T rfl (vV (aK rfl rfl) ?_))))|(refine cH (id:=6) 61 xM5 (rM 16 10) xM6 cP rfl (by decide +kernel) (dN rfl (dN rfl (dV rfl (by exact aT T rfl rfl rfl rfl rfl (by omega) (by omega)) ?_)));refine dV rfl (by exact bA T rfl rfl (bX rfl e1) rfl) ?_;refine dN rfl (dN rfl (dV rfl (dC rfl rfl (by omega) (by omega)) (dV rfl (by exact aT T rfl rfl rfl rfl rfl (by omega) (by omega)) ?_)));refine dV rfl (by exact bA T rfl rfl (bX rfl e2) rfl) ?_;refine dV rfl (jL rfl rfl (by omega)) (dE ?_))|(refine rg 7 (dJ rfl (vV (by exact kB T rfl rfl rfl rfl rfl rfl (by omega) (by omega) (by omega)) ?_));refine aV ?_)|(refine rg 8 (aV ?_))|refine nZ ?_));all_goals try omega
    have hl1:(kI l (k+1)).length=k:=by rw [hc1];simp;omega
    refine dI (X:={j:Nat // 1≤j∧k+j≤l.length∧(kI l (k+j)).length+1≤k+j}) (fun j=>[(0,.sl 0 0 l.length 1),(3,.i (kI l (k+j.1)).length),(4,.sl 0 (0+(k:Int).toNat) ((l.length:Int)-(k:Int)).toNat 1),(5,.i j.1)]) (fun j=>[.arr (ints (kI l (k+j.1)++l.drop (kI l (k+j.1)).length)) 1]) (fun j=>l.length-(k+j.1)) ⟨1,by omega,by omega,by omega⟩ ⟨[0],rfl,⟨rfl,by dsimp only;rw [hl1];rfl,rfl,rfl,trivial⟩,⟨.inr (aC rfl (by dsimp only;rw [hl1,hc1,bK]) (bF _)),trivial⟩,by decide,uN⟩ ?_
    clear e1 e2 hd hl1 hc1;rintro ⟨j,hj1,hj,hjc⟩;dsimp only;by_cases hjl:k+j<l.length
    ·have e1:=WX (G:=kI l (k+j)) (l:=l) (m:=k+j) (i:=0+(k:Int).toNat+(j:Int).toNat) (by omega) hjl (by omega)
     have e2:=WX (G:=kI l (k+j)) (l:=l) (m:=k+j-1) (i:=0+(k:Int).toNat+((j:Int)-1).toNat) (by omega) (by omega) (by omega)
     have e3:=zS4 (G:=kI l (k+j)) (l:=l) (aX _) (by omega)
     have hset:=zY3 (G:=kI l (k+j)) (l:=l) (x:=l.getD (k+j) 0) (by omega)
     have hal:=VM (G:=kI l (k+j)) (l:=l) (by omega)
     have hdup:=FH (l:=l) (m:=k+j) (by omega)
     have hnew:=QJ (l:=l) (m:=k+j);have hnl:∀ G:List Int,(G++[l.getD (k+j) 0]).length=G.length+1:=fun G=>by simp
     rw [show k+j+1=k+(j+1) by omega] at hdup hnew
     generalize l.getD (k+j) 0=a at *;generalize l.getD (k+j-1) 0=b at *;generalize l[(kI l (k+j)).length]=y at *;generalize kI l (k+j)=G at *;by_cases hd:a=b
     ·have hdup:=hdup hd;generalize hA:ints (G++l.drop G.length)=A at *
      (repeat' (first|refine wS ?_|refine wB ?_|refine wK ?_|refine wU ?_|(refine wC rfl ?_ ?_<;>(intro hb;(try simp only [nm] at hb);try omega))|(refine rg 9 (dJ rfl (qW T rfl (vV (aK rfl rfl) ?_))))|(refine cH (id:=11) 61 xM5 (rM 35 10) xM7 cP rfl (by decide +kernel) (dN rfl (dN rfl (dV rfl (by exact aT T rfl rfl rfl rfl rfl (by omega) (by omega)) ?_)));refine dV rfl (by exact bA T rfl rfl (bX rfl e1) rfl) ?_;refine dN rfl (dN rfl (dV rfl (dC rfl rfl (by omega) (by omega)) (dV rfl (by exact aT T rfl rfl rfl rfl rfl (by omega) (by omega)) ?_)));refine dV rfl (by exact bA T rfl rfl (bX rfl e2) rfl) ?_;refine dV rfl (uP rfl rfl (by omega)) (dE ?_))|(refine iA 10 rfl rfl rfl (by omega) (by omega) ?_)|refine nZ ?_));all_goals try omega
      all_goals exact ⟨⟨j+1,by omega,by omega,by rw [hdup];omega⟩,by dsimp only;omega,[0],rfl,⟨rfl,by dsimp only;rw [hdup];rfl,rfl,rfl,trivial⟩,⟨.inr (aC rfl (by dsimp only;rw [hdup];exact hA.symm) (bF _)),trivial⟩,by decide,uN⟩
     ·have hnew:=hnew hd;have hgl:=hnl G;generalize hA:ints (G++l.drop G.length)=A at *
      (repeat' (first|refine wS ?_|refine wB ?_|refine wK ?_|refine wT ?_|(refine wC rfl ?_ ?_<;>(intro hb;(try simp only [nm] at hb);try omega))|(refine rg 9 (dJ rfl (qW T rfl (vV (aK rfl rfl) ?_))))|(refine cH (id:=11) 61 xM5 (rM 35 10) xM7 cP rfl (by decide +kernel) (dN rfl (dN rfl (dV rfl (by exact aT T rfl rfl rfl rfl rfl (by omega) (by omega)) ?_)));refine dV rfl (by exact bA T rfl rfl (bX rfl e1) rfl) ?_;refine dN rfl (dN rfl (dV rfl (dC rfl rfl (by omega) (by omega)) (dV rfl (by exact aT T rfl rfl rfl rfl rfl (by omega) (by omega)) ?_)));refine dV rfl (by exact bA T rfl rfl (bX rfl e2) rfl) ?_;refine dV rfl (CJ rfl rfl (by omega)) (dE ?_))|(refine rg 12 (dJ rfl (dJ rfl (vV (by exact aT T rfl rfl rfl rfl rfl (by omega) (by omega)) ?_)));refine vV (by exact bA T rfl rfl (bX rfl e1) rfl) ?_;refine vV (by exact aT T rfl rfl rfl rfl rfl (by omega) (by omega)) ?_;refine bC T rfl rfl rfl rfl rfl rfl (by decide) (nJ rfl e3 rfl) ?_)|(refine iA 13 rfl rfl rfl (by omega) (by omega) ?_)|(refine iA 10 rfl rfl rfl (by omega) (by omega) ?_)|refine nZ ?_));all_goals try omega
      all_goals exact ⟨⟨j+1,by omega,by omega,by rw [hnew];omega⟩,by dsimp only;omega,[0],rfl,⟨rfl,by dsimp only;rw [hnew,hgl];rfl,rfl,rfl,trivial⟩,⟨.inr (aC rfl (by dsimp only;rw [hnew];exact hset) (bF _)),trivial⟩,by decide,uN⟩
    ·have hkj:k+j=l.length:=by omega
     have hcm:C1 l=kI l (k+j):=by rw [hkj];rfl
     have hal:=VM (G:=kI l (k+j)) (l:=l) (by omega)
     have htk:=zE3 (G:=kI l (k+j)) (l:=l);rw [hcm];generalize kI l (k+j)=G at *
     (repeat' (first|refine wS ?_|refine wR ?_|refine wE ?_|(refine wC rfl ?_ ?_<;>(intro hb;(try simp only [nm] at hb);try omega))|(refine rg 9 (dJ rfl (qW T rfl (vV (aK rfl rfl) ?_))))|(refine rg 14 (dJ rfl (vV (by exact kB T rfl rfl rfl rfl rfl rfl (by omega) (by omega) (by omega)) ?_));refine NA T rfl rfl rfl rfl rfl (by rw [hal];omega) ?_)|(refine rg 15 (dJ rfl (vV (by exact kB T rfl rfl rfl rfl rfl rfl (by omega) (by omega) (by omega)) ?_));refine aV ?_)|refine nZ ?_));all_goals try omega
     all_goals exact ⟨.inl rfl,[0],_,rfl,(by show AV.sl 0 0 ((G.length:Int)-0).toNat 1=AV.sl 0 0 G.length 1;rw [show ((G.length:Int)-0).toNat=G.length by omega]),rfl,⟨.inr (aC rfl htk (bF _)),trivial⟩,by decide,uN⟩
   ·have hnew:=QJ (l:=l) hd;rw [hkc,zW hlt,← aL hlt] at hnew;generalize l.getD k 0=a at *;generalize l.getD (k-1) 0=b at *
    (repeat' (first|refine wS ?_|refine wB ?_|refine wK ?_|refine wU ?_|(refine wC rfl ?_ ?_<;>(intro hb;(try simp only [nm] at hb);try omega))|(refine rg 4 (dJ rfl (qW T rfl (vV (aK rfl rfl) ?_))))|(refine cH (id:=6) 61 xM5 (rM 16 10) xM6 cP rfl (by decide +kernel) (dN rfl (dN rfl (dV rfl (by exact aT T rfl rfl rfl rfl rfl (by omega) (by omega)) ?_)));refine dV rfl (by exact bA T rfl rfl (bX rfl e1) rfl) ?_;refine dN rfl (dN rfl (dV rfl (dC rfl rfl (by omega) (by omega)) (dV rfl (by exact aT T rfl rfl rfl rfl rfl (by omega) (by omega)) ?_)));refine dV rfl (by exact bA T rfl rfl (bX rfl e2) rfl) ?_;refine dV rfl (gR rfl rfl (by omega)) (dE ?_))|(refine iA 5 rfl rfl rfl (by omega) (by omega) ?_)|refine nZ ?_));all_goals try omega
    all_goals exact ⟨⟨k+1,by omega,hlt,hnew⟩,by dsimp only;omega,[0],rfl,by (repeat (first|exact trivial|refine ⟨rfl,?_⟩)),⟨.inr (aC rfl rfl (bF _)),trivial⟩,by decide,uN⟩
  ·obtain rfl:k=l.length:=by omega
   have hcm:C1 l=l:=by
    show kI l l.length=l;rw [hkc,cM]
   rw [hcm]
   (repeat' (first|refine wS ?_|refine wR ?_|refine wE ?_|(refine wC rfl ?_ ?_<;>(intro hb;(try simp only [nm] at hb);try omega))|(refine rg 4 (dJ rfl (qW T rfl (vV (aK rfl rfl) ?_))))|(refine rg 16 (mW rfl (aV ?_)))|refine nZ ?_));all_goals first|omega | exact ⟨.inl rfl,[0],_,rfl,rfl,rfl,⟨.inr (aC rfl rfl (bF _)),trivial⟩,by decide,uN⟩
theorem FG (l:List Int) (x:Int):∀ m,m≤l.length→(x∈kI l m↔x∈l.take m)
 | 0,_=>by simp [kI]
 | m+1,hm=>by
  have ih:=FG l x m (by omega)
  rw [aL (by omega)]
  by_cases e:0<m∧l.getD m 0=l.getD (m-1) 0
  ·rw [FH e.1 e.2,ih,bH,bE];refine ⟨.inl,fun h=>h.elim id fun h=>?_⟩
   have e2:=e.2;rw [zW (by omega),zW (by omega)] at e2
   rw [h,e2];exact List.mem_take_iff_getElem.2 ⟨m-1,by omega,rfl⟩
  ·have:kI l (m+1)=kI l m++[l.getD m 0]:=by
    unfold kI;rw [if_neg e];cases m <;> rfl
   rw [this,bH,bH,ih,zW (by omega)]
theorem qD (l:List Int):∀ m,(kI l m).length≤m
 | 0=>by simp [kI]
 | m+1=>by
  have ih:=qD l m;unfold kI;split
  ·omega
  ·simp;omega
abbrev wQ (g:G) (i:Nat):List Int:=C1 (jF (M7 g i))
theorem yO4 (c:Cx) (gs:List G) (b:Int) (h:qH c gs){g:G}{i:Nat}(hg:BO gs b=some (g,i)) :
  aM Tryz.prog 44 [.pr (jY c gs) 0,.i b] [] (.sl 0 0 (wQ g i).length 1) [.arr (ints (wQ g i)) 1]:=by
 unfold wQ;obtain ⟨k0,h1,h2,h3,h4⟩:=R4 hg;have hgm:=aQ h2;have og:=h.mid.out.ok g hgm;have hwl:=h.mid.wl g hgm;have hl12:gs.length≤12:=bL h.mid.out.len h.mid.out.ln;have hgr:=yD8 c gs b (by omega) (fun x hx=>by have:=(h.mid.out.ok x hx).ln;omega) hg
 have hi:i<g.1.length:=by rw [h4];exact iE h3
 have hln:=og.ln;have hil:(M7 g i).length=g.2.length:=aU _;have htk:∀ k (h:k<g.2.length),_:=fun k h=>ZL (g:=g) (i:=i) h;have hwg:∀ k (h:k<g.2.length),(ints g.2[k].1)[((i:Int)).toNat]? = some [.i (gP g.2[k] i)]∧(ints g.2[k].1).length=g.1.length:=fun k h=>by
  have:=(og.ws _ (aO h)).pl;exact ⟨uO 0 (by omega) rfl,by rw [dD];exact this⟩
 have hs1:=SL (M7 g i) (by omega)
 have hsl:=zK (M7 g i);have hs2:=JB (jF (M7 g i)) (by omega)
 rw [hsl] at hs2;obtain ⟨bs,ws⟩:=g;dsimp only at *;generalize M7 (bs,ws) i=P at *;have hwsl:(gN ws).length=ws.length:=fQ _;refine bS T Tryz.func44 rfl rfl rfl rfl ?_
 (repeat' (first|refine wS ?_|(refine rg 0 (aV ?_))|(refine rg 1 (dJ rfl (vV (kC (hgr)) (mW rfl (xW rfl (xW rfl (xW rfl (cO (cN T rfl) rfl (bC T rfl rfl rfl rfl rfl rfl (by decide) rfl (pT ?_))))))))))|refine nZ ?_));all_goals try omega
 refine iG 5 (cs:=gA (bs,ws)) rfl rfl rfl ?_
 (repeat' (first|refine wS ?_|(refine rg 2 (vV (eD rfl) (oF 8 1 rfl (by decide) ?_)))|refine nZ ?_));all_goals try omega
 (repeat' (first|refine wB ?_|(refine rg 3 (iK T rfl (qW T rfl (mV ?_))))|refine nZ ?_));all_goals try omega
 refine dI (X:={k:Nat // k≤ws.length}) (fun k=>[(6,.i i),(8,.sl 0 0 k.1 1),(19,.rowE (gN ws) 3),(20,.i (gN ws).length),(21,.i k.1)]) (fun k=>[.arr (ints (P.take k.1)) 1]) (fun k=>ws.length-k.1) ⟨0,bZ _⟩ ⟨[1],rfl,(by repeat first|exact trivial|refine ⟨rfl,?_⟩),⟨.inr rfl,trivial⟩,by decide,jP _⟩ ?_
 rintro ⟨k,hk⟩;dsimp only;by_cases hlt:k<ws.length
 ·have hgk:=H3 hlt;obtain ⟨q1,q2⟩:=hwg k hlt;have q3:=htk k hlt;have q4:(ints (P.take k)).length=k:=by rw [dD,aY];omega
  have q5:ints (P.take (k+1))=ints (P.take k)++[[.i (gP ws[k] i)]]:=by rw [q3,I5]
  generalize ints (P.take k)=A at *;generalize gP ws[k] i=v at *;generalize ws[k]=w at *;obtain ⟨wp,wm,wc⟩:=w;dsimp only at *
  (repeat' (first|refine wS ?_|refine wB ?_|refine wK ?_|(refine wC rfl ?_ ?_<;>(intro hb;(try simp only [nm] at hb);try omega))|(refine rg 4 (vV (aK rfl rfl) ?_))|(refine rg 5 (vV (ix T rfl (by omega) (qN _) hgk) (lW T rfl (cO (cN T rfl) rfl (bC T rfl rfl rfl rfl rfl rfl (by decide) rfl ?_)))))|(refine rg 6 (mW rfl (iK T rfl (mW rfl (vV (ix T rfl (by omega) (dY _) q1) (lW T rfl (cO (by exact bG T rfl rfl (by decide) (by decide) rfl rfl rfl) rfl ?_))))));refine gJ T rfl rfl rfl rfl rfl rfl (by omega) (kK.whole rfl rfl) rfl (by simp;omega) (by simp;omega) rfl ?_;refine aV ?_)|(refine rg 7 (vV (cK rfl rfl (by omega) (by omega)) (mV ?_)))|refine nZ ?_));all_goals try omega
  exact ⟨⟨k+1,hlt⟩,by dsimp only;omega,⟨[3],rfl,(by repeat first|exact trivial|refine ⟨rfl,?_⟩),⟨.inr (aC rfl (by dsimp only;rw [q5];exact jW q4.symm) (bF _)),trivial⟩,by decide,jP _⟩⟩
 ·obtain rfl:k=ws.length:=by omega
  rw [show P.take ws.length=P by rw [← hil,cM]]
  rw [← hil] at *
  (repeat' (first|refine wS ?_|refine wR ?_|refine wE ?_|(refine wC rfl ?_ ?_<;>(intro hb;(try simp only [nm] at hb);try omega))|(refine rg 4 (vV (aK rfl rfl) ?_))|(refine rg 8 (mW rfl (bT [0] rfl rfl (hs1) rfl rfl (by decide) ⟨.inr (aC rfl rfl (bF _)),trivial⟩ (by simp) rfl ?_)))|(refine rg 9 (mW rfl (bT [0] rfl rfl (hs2) rfl rfl (by decide) ⟨.inr (aC rfl (bB _ (bF _)) (bF _)),trivial⟩ (by simp) rfl ?_));refine aV ?_)|refine nZ ?_));all_goals try omega
  exact ⟨.inl rfl,[0],_,rfl,rfl,rfl,⟨.inr (aC rfl (bB _ (bF _)) (bF _)),trivial⟩,by decide,jP _⟩
end Go.Proofs.Q
namespace Go.Ld
open Go.Ab Go.Proofs.Q
def zN2 (a b:SP):SP:=(min a.1 b.1,max a.2 b.2)
def XZ (g:G) (i k:Nat):SP:=(g.2.take k).foldl (fun r w=>zN2 r (gC w i)) (gC (iV g) i)
def zZ1 (g:G) (i:Nat):SP:=XZ g i g.2.length
theorem XY {g:G}{i k:Nat}(h:k<g.2.length):XZ g i (k+1)=zN2 (XZ g i k) (gC g.2[k] i):=by
 unfold XZ;rw [aL h,zV1];rfl
def D2 (g:G) (p q:List Int) (w:W) (i:Nat):Bool:=decide (gP w i=p.getD (g.1.getD i 0).toNat 0)&&yU (gC w i).1 (gC w i).2 (q.getD (p.getD (g.1.getD i 0).toNat 0).toNat 0)
def EY (g:G) (p q:List Int) (w:W):Bool:=(List.range g.1.length).all (D2 g p q w)
def zR4 (g:G) (p q:List Int) (m:Int) (w:W):Int:=if EY g p q w&&(decide (m<0)||decide (w.2.1<m)) then w.2.1 else m
def BA (g:G) (p q:List Int) (k:Nat):Int:=(g.2.take k).foldl (zR4 g p q) (-1)
def L9 (g:G) (p q:List Int):Int:=BA g p q g.2.length
theorem UH {g:G}{p q:List Int}{k:Nat}(h:k<g.2.length):BA g p q (k+1)=zR4 g p q (BA g p q k) g.2[k]:=by
 unfold BA;rw [aL h,zV1];rfl
def yN6 (gs:List G) (p q:List Int) (k:Nat):Int:=((gs.take k).map fun g=>L9 g p q).sum
def yT8 (c:Cx) (gs:List G) (p q:List Int):Bool:=
 decide (p.length=c.bs.length)&&decide (q.length=p.length)&&Go.Pm.permB p&&gs.all (fun g=>decide (0≤L9 g p q))&&decide (yN6 gs p q gs.length≤c.m)
end Go.Ld
namespace Go.Proofs.Q
open Go Go.Ab Go.Ld Go.Pm
attribute [local irreducible] VC AW bW aM iU
theorem yD6 (n:Int) (h:n≤17592186043904):aM Tryz.prog 67 [.i n] [] (.sl 0 0 n.toNat 1) [.arr (ints (nats (List.range n.toNat))) 1]:=by
 refine bS T Tryz.func67 rfl rfl rfl rfl ?_
 (repeat' (first|refine wS ?_|refine wB ?_|(refine rg 0 (aV ?_))|(refine rg 1 (aV ?_))|(refine rg 2 (mW rfl (vV (N2 rfl rfl) (mV ?_))))|refine nZ ?_));refine zR7 3 1 rfl (by decide) ?_
 refine dI (X:={i:Nat // i≤n.toNat}) (fun i=>[(3,.sl 0 0 i.1 1),(6,.i (max n 0)),(7,.i (i.1:Int))]) (fun i=>[.arr (ints (nats (List.range i.1))) 1]) (fun i=>n.toNat-i.1) ⟨0,bZ _⟩ ⟨[0],rfl,⟨rfl,rfl,rfl,trivial⟩,⟨.inr rfl,trivial⟩,by decide,AM⟩ ?_
 rintro ⟨i,hi⟩;dsimp only;have hl:(ints (nats (List.range i))).length=i:=by simp
 by_cases hlt:i<n.toNat
 ·have hs:ints (nats (List.range i))++[[AV.i (i:Int)]]=ints (nats (List.range (i+1))):=by rw [wI,YX]
  (repeat' (first|refine wS ?_|refine wB ?_|refine wK ?_|(refine wC rfl ?_ ?_<;>(intro hb;(try simp only [nm] at hb);try omega))|(refine rg 3 (vV (aK rfl rfl) ?_))|(refine rg 4 (mW rfl (aV ?_)))|(refine rg 5 (dJ rfl (cO (by exact bG T rfl rfl (by decide) (by decide) rfl rfl rfl) rfl ?_));refine gJ T rfl rfl rfl rfl rfl rfl (by simp) (kK.whole rfl rfl) rfl (by simp;omega) (by simp;omega) rfl ?_;refine aV ?_)|(refine rg 6 (vV (cK rfl rfl (by omega) (by omega)) (mV ?_)))|refine nZ ?_));all_goals first|omega | skip
  exact ⟨⟨i+1,hlt⟩,by dsimp only;omega,[2],rfl,⟨rfl,rfl,rfl,trivial⟩,⟨.inr (aC rfl ((jW hl.symm).trans hs) (bF _)),trivial⟩,by decide,AM⟩
 ·obtain rfl:i=n.toNat:=by omega
  (repeat' (first|refine wS ?_|refine wR ?_|refine wE ?_|(refine wC rfl ?_ ?_<;>(intro hb;(try simp only [nm] at hb);try omega))|(refine rg 3 (vV (aK rfl rfl) ?_))|(refine rg 7 (mW rfl (aV ?_)))|refine nZ ?_));all_goals first|omega | exact ⟨.inl rfl,[0],_,rfl,rfl,rfl,⟨.inr (aC rfl rfl (bF _)),trivial⟩,by decide,AM⟩
end Go.Proofs.Q
namespace Go.Ab
open Go
theorem qL.freezeEl {n:Nat × Nat}{c:pS}{ρ:Pl}{S:Nat→Prop}{env:eG}{h:Hp}{a:Act}{w:World}{j f k len sz sz2:Nat}{es es' es2:List (List AV)}(s:qL n c ρ S env h a w) (hj:h[j]? = some (.arr es sz)) (hne:j≠k) (h0:es≠[]) (hf:es.flatten[f]? = some (.sl k 0 len sz2)) (hk:h[k]? = some (.arr es2 sz2)) (hn:len=es2.length) (hi:AV.idfL es2.flatten=true)
  (hl:∀ e,e∈es'→e.length=sz) (he:es'.flatten=es.flatten.set f (.rowE es2 sz2)) :
  qL n c ρ (fun b=>S b∨∃ o,ρ k=some (b,o)) env ((h.set k .gone).set j (.arr es' sz)) a w:=by
 have h1:=s.hs.freeze hk;have hj':(h.set k .gone)[j]? = some (.arr es sz):=by rw [iN (Ne.symm hne)];exact hj
 refine ⟨s.size,s.defers.st (fun _ h=>.inl h),fun t' x hx=>zB7 (fun _ h=>.inl h) (s.env t' x hx),h1.alter hj' (fun _=>?_) (by simp),s.cm⟩
 have hb:=s.hs.blk j _ hj;simp only [RB] at hb ⊢;obtain ⟨b1,b2,b3⟩:=hb;refine ⟨hl,b2,?_⟩;rcases b3 with ⟨e,_⟩ | ⟨b,o,ys,e1,e2,e3⟩
 ·exact absurd e h0
 ·refine .inr ⟨b,o,ys,e1,e2,?_⟩;rw [he];refine CP (fun _ h=>.inl h) (fun y hy=>?_) hf e3;rw [hn] at hy;exact J1 hi (s.hs.blk k _ hk) hy
section
variable {P:Program}{n:Nat × Nat}{ops:Array Oper}{env:eG}{h:Hp}{K:eG→Hp→Prop}{rest:List Oper}{Q:Exit→eG→Hp→Prop}{code:Code}
theorem QW (j f:Nat){k len sz sz2:Nat}{es:List (List AV)}(es':List (List AV)){es2:List (List AV)}(hj:h[j]? = some (.arr es sz)) (hne:j≠k) (h0:es≠[]) (hf:es.flatten[f]? = some (.sl k 0 len sz2)) (hk:h[k]? = some (.arr es2 sz2)) (hn:len=es2.length) (hi:AV.idfL es2.flatten=true)
  (hl:∀ e,e∈es'→e.length=sz) (he:es'.flatten=es.flatten.set f (.rowE es2 sz2)) (hv:AW P n code env ((h.set k .gone).set j (.arr es' sz)) Q):AW P n code env h Q:=
 fun c ρ S a w QQ s hQ=>hv c ρ _ a w QQ (s.freezeEl hj hne h0 hf hk hn hi hl he) hQ
end
end Go.Ab
namespace Go.Ld
open Go.Ab Go.Proofs.Q
theorem zT5 {es:List (List AV)}(h:∀ e,e∈es→e.all AV.one=true):es.flatten.all AV.one=true:=by
 rw [bJ];intro x hx;obtain ⟨e,he,hx⟩:=List.mem_flatten.1 hx;exact bJ.1 (h e he) x hx
theorem KR {α:Type}{f:α→List AV}(hf:∀ x,(f x).all AV.one=true) (l:List α):(l.map f).flatten.all AV.one=true:=zT5 fun e he=>by
 obtain ⟨x,_,rfl⟩:=bD.1 he;exact hf x
theorem KZ {α:Type}{f:α→List AV}(hf:∀ x,AV.idfL (f x)=true) (l:List α):∀ e,e∈l.map f→AV.idfL e=true:=fun e he=>by
 obtain ⟨x,_,rfl⟩:=bD.1 he;exact hf x
def NS (n:Int):Bool:=decide (n<0∨1048576<n)
def NT (c:Cx):Bool:=[c.m,c.st,c.er,c.sl].any NS
theorem XT {c:Cx}:NT c=false↔oY c.m c.st c.er c.sl:=by
 unfold NT oY NS;simp;omega
end Go.Ld
namespace Go.Proofs.Q
open Go Go.Ab Go.Ld
attribute [local irreducible] VC AW bW aM iU
theorem zQ7 (l:List KD) (hl:l.length≤1000000):aM Tryz.prog 68 [.rowE (jA l) 2] [] (.rowE (jA l) 2) []:=by
 have hll:(jA l).length=l.length:=aU _;have hid:=KZ (f:=fun b:KD=>[AV.v (.string b.1),AV.i b.2]) (fun _=>rfl) l;have hon:=KR (f:=fun b:KD=>[AV.v (.string b.1),AV.i b.2]) (fun _=>rfl) l;refine kZ (len:=l.length) hll.symm (eX hid) ?_;refine bS T Tryz.func68 rfl rfl rfl rfl ?_
 repeat' (first|refine wS ?_|refine wK ?_|refine wT ?_|refine wU ?_|(refine rg 0 (aV ?_))|(refine rg 1 (mV ?_);refine vE T rfl rfl rfl rfl fun b hb=>?_;cases b)|refine nZ ?_)
 ·(repeat' (first|refine wR ?_|(refine rg 3 (cO (by exact bG T rfl rfl (by decide) (by decide) rfl rfl rfl) rfl ?_);refine mW rfl (gJ T rfl rfl rfl rfl rfl rfl (by decide) (.row (yK l)) hon (by simp;omega) (by simp;omega) rfl ?_);refine aV ?_)|(refine nZ ?_)));exact ⟨.inl rfl,[1],_,rfl,(by show AV.sl 1 0 (0+(jA l).length) 2=AV.sl 1 0 l.length 2;simp),rfl,⟨.inr (aC rfl rfl hid),trivial⟩,by decide,AM⟩
 ·have hl0:l=[]:=fH.1 (Classical.byContradiction fun h=>by have:=hb (by omega);cases this)
  subst hl0
  (repeat' (first|refine wR ?_|(refine rg 2 (vV (eD rfl) (oF 2 2 rfl (by decide) ?_)))|refine nZ ?_));exact ⟨.inl rfl,[0],_,rfl,rfl,rfl,⟨.inr (aC rfl rfl hid),trivial⟩,by decide,AM⟩
theorem QM (l:List LT) (hl:l.length≤1000000):aM Tryz.prog 36 [.rowE (kE l) 3] [] (.rowE (kE l) 3) []:=by
 have hll:(kE l).length=l.length:=aU _;have hid:=KZ (f:=fun b:LT=>[AV.i b.1,AV.i b.2.1,AV.b b.2.2]) (fun _=>rfl) l;have hon:=KR (f:=fun b:LT=>[AV.i b.1,AV.i b.2.1,AV.b b.2.2]) (fun _=>rfl) l;refine kZ (len:=l.length) hll.symm (eX hid) ?_;refine bS T Tryz.func36 rfl rfl rfl rfl ?_
 repeat' (first|refine wS ?_|refine wK ?_|refine wT ?_|refine wU ?_|(refine rg 0 (aV ?_))|(refine rg 1 (mV ?_);refine vE T rfl rfl rfl rfl fun b hb=>?_;cases b)|refine nZ ?_)
 ·(repeat' (first|refine wR ?_|(refine rg 3 (cO (by exact bG T rfl rfl (by decide) (by decide) rfl rfl rfl) rfl ?_);refine mW rfl (gJ T rfl rfl rfl rfl rfl rfl (by decide) (.row (E9 l)) hon (by simp;omega) (by simp;omega) rfl ?_);refine aV ?_)|(refine nZ ?_)));exact ⟨.inl rfl,[1],_,rfl,(by show AV.sl 1 0 (0+(kE l).length) 3=AV.sl 1 0 l.length 3;simp),rfl,⟨.inr (aC rfl rfl hid),trivial⟩,by decide,AM⟩
 ·have hl0:l=[]:=fH.1 (Classical.byContradiction fun h=>by have:=hb (by omega);cases this)
  subst hl0
  (repeat' (first|refine wR ?_|(refine rg 2 (vV (eD rfl) (oF 2 3 rfl (by decide) ?_)))|refine nZ ?_));exact ⟨.inl rfl,[0],_,rfl,rfl,rfl,⟨.inr (aC rfl rfl hid),trivial⟩,by decide,AM⟩
theorem QN (l:List BX) (hl:l.length≤1000000):aM Tryz.prog 37 [.rowE (fL l) 3] [] (.rowE (fL l) 3) []:=by
 have hll:(fL l).length=l.length:=aU _;have hid:=KZ (f:=fun b:BX=>[AV.i b.1,AV.i b.2.1,AV.i b.2.2]) (fun _=>rfl) l;have hon:=KR (f:=fun b:BX=>[AV.i b.1,AV.i b.2.1,AV.i b.2.2]) (fun _=>rfl) l;refine kZ (len:=l.length) hll.symm (eX hid) ?_;refine bS T Tryz.func37 rfl rfl rfl rfl ?_
 repeat' (first|refine wS ?_|refine wK ?_|refine wT ?_|refine wU ?_|(refine rg 0 (aV ?_))|(refine rg 1 (mV ?_);refine vE T rfl rfl rfl rfl fun b hb=>?_;cases b)|refine nZ ?_)
 ·(repeat' (first|refine wR ?_|(refine rg 3 (cO (by exact bG T rfl rfl (by decide) (by decide) rfl rfl rfl) rfl ?_);refine mW rfl (gJ T rfl rfl rfl rfl rfl rfl (by decide) (.row (pF l)) hon (by simp;omega) (by simp;omega) rfl ?_);refine aV ?_)|(refine nZ ?_)));exact ⟨.inl rfl,[1],_,rfl,(by show AV.sl 1 0 (0+(fL l).length) 3=AV.sl 1 0 l.length 3;simp),rfl,⟨.inr (aC rfl rfl hid),trivial⟩,by decide,AM⟩
 ·have hl0:l=[]:=fH.1 (Classical.byContradiction fun h=>by have:=hb (by omega);cases this)
  subst hl0
  (repeat' (first|refine wR ?_|(refine rg 2 (vV (eD rfl) (oF 2 3 rfl (by decide) ?_)))|refine nZ ?_));exact ⟨.inl rfl,[0],_,rfl,rfl,rfl,⟨.inr (aC rfl rfl hid),trivial⟩,by decide,AM⟩
theorem zY4 (n:Int):aM Tryz.prog 100 [.i n] [] (.b (NS n)) []:=by
 unfold NS;by_cases h:n<0
 ·rw [decide_eq_true (.inl h)];refine bS T Tryz.func100 rfl rfl rfl rfl ?_
  (repeat' (first|refine wS ?_|refine wR ?_|(refine rg 0 (aV ?_))|(refine rg 1 (mW rfl (vV (S4 rfl rfl (by omega)) (mV ?_)));(iterate 2 refine gF ?_);refine pW rfl (aV ?_))|refine nZ ?_));all_goals first|omega | exact rQ
 ·refine bS T Tryz.func100 rfl rfl rfl rfl ?_
  (repeat' (first|refine wS ?_|refine wR ?_|(refine rg 0 (aV ?_))|(refine rg 1 (mW rfl (vV (S6 rfl rfl (by omega)) (mW rfl (yN rfl (yV (fK rfl rfl) (pW rfl (aV ?_))))))))|refine nZ ?_));all_goals first|omega | (refine dU (.inl rfl) rfl (oM ?_);simp;omega)
theorem GG (c:Cx):aM Tryz.prog 65 [.agg [.i c.m,.i c.st,.i c.er,.i c.sl]] [] (.b (!NT c)) []:=by
 have hh:=yQ9 (l:=[c.m,c.st,c.er,c.sl]) (F:=100) (caps:=[]) (p:=NS) (by simp) rfl (fun x hx=>zY4 x)
 change aM _ _ _ _ (.b (NT c)) _ at hh;generalize NT c=v at *;refine bS T Tryz.func65 rfl rfl rfl rfl ?_
 (repeat' (first|refine wS ?_|refine wR ?_|(refine rg 0 (cO (dR rfl rfl) rfl (aV ?_)))|(refine rg 1 (iK T rfl (iK T rfl (iK T rfl (iK T rfl (cO (by exact bG T rfl rfl (by decide) (by decide) rfl rfl rfl) rfl ?_)))));refine nI 11 rfl rfl rfl rfl ?_;refine vV (kC (hh)) (vV (dS rfl) (aV ?_)))|refine nZ ?_));all_goals first|omega | exact rQ
end Go.Proofs.Q
