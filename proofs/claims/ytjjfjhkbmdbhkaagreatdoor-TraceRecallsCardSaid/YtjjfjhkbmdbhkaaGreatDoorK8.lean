/-
  Texts of the logic and of the layer,in one module (part 8).
-/
import Derived.Test.YtjjfjhkbmdbhkaaGreatDoorK7
set_option maxHeartbeats 4000000
set_option linter.unusedVariables false
set_option linter.unusedSimpArgs false
set_option linter.unnecessarySimpa false
namespace Go.Ld
open Go.Ab Go.Proofs.Q
abbrev yC2 (c:Cx) (x:AV):List AV:=[.i c.m,.i c.st,.i c.er,.i c.sl,.rowE (jA c.ks) 2,.rowE (kE c.ls) 3,.rowE (fL c.bs) 3,x]
theorem zP7 {h:Hp}{i sz:Nat}{θ:Nat→Nat}{A A':List (List AV)}{E E':List AV}(hk:h[i]? = some (.arr (A'++[E']) sz)) (hA:A'=A) (hE:E'=AV.mapL θ E) (hi:∀ e,e∈A→AV.idfL e=true):h[i]? = some ((AB.arr (A++[E]) sz).map θ):=by
 subst hA hE;rw [hk];simp only [AB.map,bU,bB θ hi];rfl
theorem yF5 {A:List (List AV)}{x y:AV}:(A++[[x,y]]).flatten[A.flatten.length]? = some x:=by simp
theorem yF4 {A:List (List AV)}{x y:AV}:(A++[[x,y]]).flatten[A.flatten.length+1]? = some y:=by
 rw [fE,aF (by omega)];simp
theorem yF2 {A:List (List AV)}{x y z:AV}:(A++[[z,y]]).flatten=(A++[[x,y]]).flatten.set A.flatten.length z:=by
 rw [fE,fE,jC _ _ (by omega)];simp
theorem yF1 {A:List (List AV)}{x y z:AV}:(A++[[x,z]]).flatten=(A++[[x,y]]).flatten.set (A.flatten.length+1) z:=by
 rw [fE,fE,jC _ _ (by omega)];simp
theorem zL0 (c:Cx):(rU c).length=c.bs.length:=by rw [zP];simp
theorem YW {c:Cx}{k:Nat}(h:k<c.bs.length):(rU c).take (k+1)=(rU c).take k++[BN c k]:=by
 rw [zP,← lB,← lB,aL (by simpa using h),bU]
 simp
end Go.Ld
namespace Go.Proofs.Q
open Go Go.Ab Go.Ld
attribute [local irreducible] VC AW bW aM iU
theorem yX6 (c:Cx) (hc:iZ c) (hid:aM Tryz.prog 67 [.i (fL c.bs).length] [] (.rowE (ints (nats (List.range c.bs.length))) 1) []) (htr:aM Tryz.prog 66 [.rowE (jA c.ks) 2,.rowE (kE c.ls) 3,.rowE (ints (nats (List.range c.bs.length))) 1,.rowE (fL c.bs) 3] [] (.b true) []) :
  aM Tryz.prog 35 [.agg [.i c.m,.i c.st,.i c.er,.i c.sl],.rowE (jA c.ks) 2,.rowE (kE c.ls) 3,.rowE (fL c.bs) 3] [] (.tup [.ptr 0 0,.i 0]) [.cells (jY c (rU c))]:=by
 have hn1:=hc.f.n1;have hn8:=hc.f.n8;have hk10:=hc.f.k10;have hl10:=hc.f.l10;have hnl:(nats (List.range c.bs.length)).length=c.bs.length:=by simp
 have hsn:=GG c;rw [XT.2 hc.s] at hsn;have h1:=zQ7 c.ks (by omega)
 have h2:=QM c.ls (by omega)
 have h3:=QN c.bs (by omega)
 have hbl:(fL c.bs).length=c.bs.length:=aU _;have hNl:=zL0 c;refine bS T Tryz.func35 rfl rfl rfl rfl ?_
 (repeat' (first|refine wS ?_|(refine rg 0 (cO (dR rfl rfl) rfl (pT ?_)))|refine nZ ?_));refine iG 4 rfl rfl rfl ?_
 (repeat' (first|refine wS ?_|refine wK ?_|refine wU ?_|(refine rg 1 (lW T rfl (vV (kC (hsn)) (vV (dS rfl) (mW rfl (yN rfl (yN rfl (yN rfl (gT (qV T ?_)))))))));refine yV (kC (hid)) (yN rfl (yV (kC (htr)) (yV (dS rfl) (pV ?_)))))|(refine cH (id:=3) 69 [[],[],[1],[],[1,2,3],[],rM 1 5,rN 7,rN 8] (rM 27 9) [[],[27],[27],[27,28,29],[27],rM 27 5,[27],[],[]] cP rfl (by decide +kernel) (dO T rfl (dN rfl (dV rfl (kC (h1)) (dN rfl (dV rfl (kC (h2)) (dN rfl (dV rfl (kC (h3)) (dV rfl (by exact eT T rfl rfl rfl rfl) ?_))))))));refine K2 rfl rfl rfl (by exact dR rfl rfl) rfl ?_;refine dE ?_;refine aV ?_)|refine nZ ?_));all_goals try omega
 refine fF [(3,.rowE (fL c.bs) 3),(10,.ptr 0 0)] [.cells (yC2 c .nils)] ⟨[1],rfl,(by repeat first|exact trivial|refine ⟨rfl,?_⟩),⟨.inr rfl,trivial⟩,by decide,jP _⟩ ?_
 refine mQ 0 7 2 rfl rfl (by decide) ?_
 (repeat' (first|refine wB ?_|(refine rg 4 (mW rfl (qW T rfl (mV ?_))))|refine nZ ?_));all_goals try omega
 refine dI (X:={k:Nat // k≤c.bs.length}) (fun k=>[(10,.ptr 0 0),(36,.rowE (fL c.bs) 3),(37,.i (fL c.bs).length),(38,.i k.1)]) (fun k=>[.cells (yC2 c (.sl 1 0 k.1 2)),.arr (kY ((rU c).take k.1)) 2]) (fun k=>c.bs.length-k.1) ⟨0,bZ _⟩ ⟨[0,1],rfl,(by repeat first|exact trivial|refine ⟨rfl,?_⟩),⟨.inr rfl,.inr rfl,trivial⟩,by decide,jP _⟩ ?_
 rintro ⟨k,hk⟩;dsimp only;by_cases hlt:k<c.bs.length
 ·have hb:=hc.f.b k hlt;have hbx:c.bs[k]? = some (c.bs.getD k (0,0,0)):=by rw [aE,aB hlt];rfl
  have hge:c.bs[k]=c.bs.getD k (0,0,0):=by rw [aE,aB hlt];rfl
  rw [hge] at hb;have qb:(fL c.bs)[((k:Int)).toNat]? = some [.i (c.bs.getD k (0,0,0)).1,.i (c.bs.getD k (0,0,0)).2.1,.i (c.bs.getD k (0,0,0)).2.2]:=by rw [bI,bN,hbx];rfl
  have hsu:=YW hlt;have hA:kY ((rU c).take (k+1))=kY ((rU c).take k)++[gA (BN c k)]:=by rw [hsu,kY,bU];rfl
  have hAl:(kY ((rU c).take k)).length=k:=by rw [jX,aY];omega
  have hAi:=eR ((rU c).take k);have hA3:=sW ((rU c).take k);have hAi2:=eR ((rU c).take (k+1));unfold BN at hA;generalize c.bs.getD k (0,0,0)=bx at *;obtain ⟨lot,cnt,ta⟩:=bx;dsimp only at *;generalize hG:kY ((rU c).take k)=A at *
  (repeat' (first|refine wS ?_|refine wB ?_|refine wK ?_|(refine wC rfl ?_ ?_<;>(intro hb;(try simp only [nm] at hb);try omega))|(refine rg 5 (vV (aK rfl rfl) ?_))|(refine rg 6 (mW rfl (vV (ix T rfl (by omega) (pF _) qb) (lW T rfl (cO (cN T rfl) rfl (aW rfl (bC T rfl rfl rfl rfl rfl rfl (by decide) rfl ?_)))))))|refine nZ ?_));all_goals try omega
  refine iG 12 (cs:=[.i lot,.i cnt,.i ta]) rfl rfl rfl ?_
  (repeat' (first|(refine rg 7 (mW rfl (cO (by exact bG T rfl rfl (by decide) (by decide) rfl rfl rfl) rfl ?_));refine nI 44 rfl rfl rfl rfl ?_;refine iK T rfl (iK T rfl (vV (cK rfl rfl (by omega) (by omega)) (vV (by exact eT T rfl rfl rfl rfl) ?_)));refine cO (by exact bG T rfl rfl (by decide) (by decide) rfl rfl rfl) rfl ?_;refine nI 51 rfl rfl rfl rfl ?_;refine vV (by exact eT T rfl rfl rfl rfl) ?_;refine cO (cN T rfl) rfl (bC T rfl rfl rfl rfl rfl rfl (by decide) rfl ?_))|refine nZ ?_));all_goals try omega
  refine iG 13 (cs:=wA ([(k:Int)],0,[(cnt,cnt+1)])) rfl rfl rfl ?_;refine fF [(10,.ptr 0 0),(36,.rowE (fL c.bs) 3),(37,.i (fL c.bs).length),(38,.i k),(11,.i k),(13,.pr (wA ([(k:Int)],0,[(cnt,cnt+1)])) 0)] [.cells (yC2 c (.sl 1 0 k 2)),.arr A 2] ⟨[0,1],rfl,(by repeat first|exact trivial|refine ⟨rfl,?_⟩),⟨.inr rfl,.inr (aC rfl rfl hAi),trivial⟩,by decide,jP _⟩ ?_
  (repeat' (first|(refine lY (id:=8) 69 [[],[],[1],[1,2],[1,2,3],[],[5],[],[7],rM 5 4,rM 5 5,rM 1 10,rN 12,rN 13,rN 14] (rM 53 14) [[],[53],[53],[53],[53],rM 53 5,rM 53 5,rM 53 7,rM 53 7,rM 53 5,rM 53 5,[53],[],[],[]] [(11,1),(14,0)] cP rfl (by decide +kernel) (cQ rfl rfl rfl rfl (by exact bV rfl) ?_);refine cQ rfl rfl rfl rfl (by exact bV rfl) ?_;refine cQ rfl rfl rfl rfl (by exact cF rfl rfl) ?_;refine cQ rfl rfl rfl rfl (by exact bR T rfl rfl rfl) ?_;refine cQ rfl rfl rfl rfl (by exact bA T rfl rfl rfl rfl) ?_;refine cQ rfl rfl rfl rfl (by exact bV rfl) ?_;refine B9 rfl rfl rfl rfl (by exact bG T rfl rfl (by decide) (by decide) rfl rfl rfl) rfl ?_;refine cQ rfl rfl rfl rfl (by exact bA T rfl rfl rfl rfl) ?_;refine B9 rfl rfl rfl rfl (by exact bG T rfl rfl (by decide) (by decide) rfl rfl rfl) rfl ?_;refine cQ rfl rfl rfl rfl (by exact eT T rfl rfl rfl rfl) ?_;refine B9 rfl rfl rfl rfl (by exact bG T rfl rfl (by decide) (by decide) rfl rfl rfl) rfl ?_;refine oT rfl rfl rfl rfl (aI rfl) (by exact oC T rfl rfl rfl rfl rfl rfl (by omega) (kK.whole rfl rfl) rfl (by simp;omega) (by simp;omega)) ?_;refine cQ rfl rfl rfl rfl (by exact cF rfl rfl) ?_;refine cQ rfl rfl rfl rfl (by exact bR T rfl rfl rfl) ?_;refine F5 rfl rfl rfl rfl (aI rfl) T rfl rfl rfl rfl rfl rfl (by decide) rfl ?_;refine qK rfl rfl rfl (by exact rfl) ?_)|refine nZ ?_));all_goals try omega
  show AW _ _ _ _ _ _;refine fF [(10,.ptr 0 0),(36,.rowE (fL c.bs) 3),(37,.i (fL c.bs).length),(38,.i k)] [.cells (yC2 c (.sl 3 0 (k+1) 2)),.arr (ints [(k:Int)]) 1,.arr (gN [([(k:Int)],0,[(cnt,cnt+1)])]) 3,.arr (A++[[.sl 1 0 1 1,.sl 2 0 1 3]]) 2]
   ⟨[0,2,3,5],rfl,(by repeat first|exact trivial|refine ⟨rfl,?_⟩),⟨.inr rfl,.inr rfl,.inr rfl,.inr (zP7 rfl (by rw [jJ];exact bO (by omega)) rfl hAi),trivial⟩,by decide,jP _⟩ ?_
  have hE:∀ (x y:AV) (e:List AV),e∈A++[[x,y]]→e.length=2:=fun x y e he=>by
   rcases bH.1 he with he | he
   ·exact hA3 e he
   ·rw [bE.1 he];rfl
  refine QW 3 A.flatten.length (A++[[.rowE (ints [(k:Int)]) 1,.sl 2 0 1 3]]) rfl (by decide) (by simp) yF5 rfl rfl rfl (hE _ _) yF2 ?_
  refine QW 3 (A.flatten.length+1) (A++[[.rowE (ints [(k:Int)]) 1,.rowE (gN [([(k:Int)],0,[(cnt,cnt+1)])]) 3]]) rfl (by decide) (by simp) yF4 rfl rfl rfl (hE _ _) yF1 ?_
  (repeat' (first|(refine rg 9 (vV (cK rfl rfl (by omega) (by omega)) (mV ?_)))|refine nZ ?_));all_goals try omega
  exact ⟨⟨k+1,hlt⟩,by dsimp only;omega,⟨[0,3],rfl,(by repeat first|exact trivial|refine ⟨rfl,?_⟩),⟨.inr rfl,.inr (aC rfl (by dsimp only;rw [hA]) hAi2),trivial⟩,by decide,jP _⟩⟩
 ·obtain rfl:k=c.bs.length:=by omega
  rw [← hNl,cM,hNl];refine nY 0 7 (es:=kY (rU c)) rfl rfl rfl (by rw [jX,hNl]) (eX (eR _)) ?_
  (repeat' (first|refine wS ?_|refine wR ?_|refine wE ?_|(refine wC rfl ?_ ?_<;>(intro hb;(try simp only [nm] at hb);try omega))|(refine rg 5 (vV (aK rfl rfl) ?_))|(refine rg 10 (mW rfl (pT ?_)))|refine nZ ?_));all_goals try omega
  all_goals exact ⟨.inl rfl,[0],_,rfl,rfl,rfl,⟨.inr rfl,trivial⟩,by decide,jP _⟩
end Go.Proofs.Q
namespace Go.Ld
open Go.Ab Go.Proofs.Q
def XD (p q:List Int) (x:Int × SP) (b:Int):Prop:=x.1=p.getD b.toNat 0∧yU x.2.1 x.2.2 (q.getD (p.getD b.toNat 0).toNat 0)=true
theorem yG0 {g:G}{p q:List Int}{w:W}:EY g p q w=true↔∀ i,i<g.1.length→XD p q (gP w i,gC w i) (g.1.getD i 0):=by
 unfold EY D2 XD;rw [bJ];constructor
 ·intro h i hi;have:=h i (fG.2 hi);simp only [aN,decide_eq_true_eq] at this;exact this
 ·intro h i hi;have:=h i (fG.1 hi);simp only [aN,decide_eq_true_eq];exact this
theorem FL {g:G}{p q:List Int}(h0:∀ w,w∈g.2→0≤w.2.1):∀ k,k≤g.2.length→(BA g p q k = -1∧∀ w,w∈g.2.take k→EY g p q w=false)∨(∃ w,w∈g.2.take k∧EY g p q w=true∧w.2.1=BA g p q k∧∀ v,v∈g.2.take k→EY g p q v=true→BA g p q k≤v.2.1)
 | 0,_=>.inl ⟨rfl,fun w hw=>by simp at hw⟩
 | k+1,hk=>by
  have ih:=FL (p:=p) (q:=q) h0 k (by omega)
  have hx:=h0 g.2[k] (aO _);rw [UH (by omega)]
  have ht:∀ w,w∈g.2.take (k+1)↔w∈g.2.take k∨w=g.2[k]:=fun w=>by
   rw [aL (by omega),bH,bE]
  simp only [ht];unfold zR4;generalize g.2[k]=x at *;generalize BA g p q k=m at *;cases hf:EY g p q x with
  | false=>
   rw [Bool.false_and,if_neg (by simp)]
   rcases ih with ⟨h1,h2⟩ | ⟨w,h1,h2,h3,h4⟩
   ·refine .inl ⟨h1,fun w hw=>?_⟩
    rcases hw with hw | rfl
    ·exact h2 w hw
    ·exact hf
   ·refine .inr ⟨w,.inl h1,h2,h3,fun v hv hvf=>?_⟩
    rcases hv with hv | rfl
    ·exact h4 v hv hvf
    ·rw [hf] at hvf;cases hvf
  | true=>
   rw [nH];rcases ih with ⟨h1,h2⟩ | ⟨w,h1,h2,h3,h4⟩
   ·rw [decide_eq_true (show m<0 by omega),Bool.true_or,if_pos rfl]
    refine .inr ⟨x,.inr rfl,hf,rfl,fun v hv hvf=>?_⟩
    rcases hv with hv | rfl
    ·rw [h2 v hv] at hvf;cases hvf
    ·exact eW _
   ·have hm0:0≤m:=by rw [← h3];exact h0 w (eJ h1)
    rw [decide_eq_false (show ¬ m<0 by omega),xF1]
    by_cases hlt:x.2.1<m
    ·rw [if_pos (decide_eq_true hlt)];refine .inr ⟨x,.inr rfl,hf,rfl,fun v hv hvf=>?_⟩
     rcases hv with hv | rfl
     ·have:=h4 v hv hvf;omega
     ·exact eW _
    ·rw [if_neg (by simpa using hlt)]
     refine .inr ⟨w,.inl h1,h2,h3,fun v hv hvf=>?_⟩
     rcases hv with hv | rfl
     ·exact h4 v hv hvf
     ·omega
theorem JG {g:G}{p q:List Int}(h0:∀ w,w∈g.2→0≤w.2.1):(L9 g p q = -1∧∀ w,w∈g.2→EY g p q w=false)∨(∃ w,w∈g.2∧EY g p q w=true∧w.2.1=L9 g p q∧∀ v,v∈g.2→EY g p q v=true→L9 g p q≤v.2.1):=by
 have:=FL (p:=p) (q:=q) h0 g.2.length (aX _);rw [cM] at this;exact this
def JJ (g:G) (w:W):As:=fun b=>(gP w (g.1.idxOf b),gC w (g.1.idxOf b))
theorem T9 {n:Nat}{g:G}{w:W}(ok:H2 n g) (hw:JM n g.1.length w):pM g.1 w (JJ g w):=by
 unfold pM JJ gP gC;constructor
 ·refine lP (by rw [aU];exact hw.pl) fun i h1 h2=>?_
  rw [qF,ok.nd.idxOf_getElem];dsimp only;rw [aE,aB h1];rfl
 ·refine lP (by rw [aU];exact hw.cl) fun i h1 h2=>?_
  rw [qF,ok.nd.idxOf_getElem];dsimp only;rw [aE,aB h1];rfl
theorem zO9 {n:Nat}{g:G}{p q:List Int}{w:W}{f:As}(ok:H2 n g) (hf:pM g.1 w f):EY g p q w=true↔∀ b,b∈g.1→XD p q (f b) b:=by
 rw [yG0];have key:∀ i (hi:i<g.1.length),(gP w i,gC w i)=f g.1[i]∧g.1.getD i 0=g.1[i]:=fun i hi=>by
  rw [ET hf hi,EU hf hi];exact ⟨rfl,by rw [aE,aB hi];rfl⟩
 constructor
 ·intro h b hb;obtain ⟨i,hi,rfl⟩:=List.getElem_of_mem hb;have:=h i hi;rw [(key i hi).1,(key i hi).2] at this;exact this
 ·intro h i hi;rw [(key i hi).1,(key i hi).2];exact h _ (aO hi)
theorem zT8 {n:Nat}{p q:List Int}:∀ {gs:List G},(gs.flatMap (·.1)).Nodup→(∀ g,g∈gs→H2 n g)→∀ {M:Int},
  ((∀ g,g∈gs→0≤L9 g p q)∧(gs.map fun g=>L9 g p q).sum≤M)↔∃ f:As,(∀ g,g∈gs→∀ b,b∈g.1→XD p q (f b) b)∧Sem gs f M
 | [],_,_,M=>by
  constructor
  ·rintro ⟨_,h⟩;exact ⟨fun _=>(0,(0,0)),by simp,by simpa [Sem] using h⟩
  ·rintro ⟨f,_,h⟩;exact ⟨by simp,by simpa [Sem] using h⟩
 | g::gs,hnd,hok,M=>by
  rw [bP] at hnd;obtain ⟨_,n2,n3⟩:=dB.1 hnd;have og:=hok g aR;have h0:∀ w,w∈g.2→0≤w.2.1:=fun w hw=>(og.ws w hw).m0;have ih:=fun M=>zT8 (p:=p) (q:=q) (gs:=gs) n2 (fun x hx=>hok x (aH _ hx)) (M:=M);rw [List.map_cons,xE8];constructor
  ·rintro ⟨h1,h2⟩;rcases JG (p:=p) (q:=q) h0 with ⟨b1,_⟩ | ⟨w,b1,b2,b3,b4⟩
   ·have:=h1 g aR;omega
   obtain ⟨f,f1,f2⟩:=(ih (M-L9 g p q)).1 ⟨fun x hx=>h1 x (aH _ hx),by omega⟩
   have ow:=og.ws w b1;have hfi:=T9 og ow
   let f':As:=fun b=>if b∈g.1 then JJ g w b else f b
   have e1:∀ b,b∈g.1→f' b=JJ g w b:=fun b hb=>if_pos hb
   have e2:∀ x,x∈gs→∀ b,b∈x.1→f' b=f b:=fun x hx b hb=>if_neg fun q=>n3 b q b (qA hx hb) rfl;have hfi':pM g.1 w f':=⟨hfi.1.trans (kA fun b hb=>by rw [e1 b hb]),hfi.2.trans (kA fun b hb=>by rw [e1 b hb])⟩
   refine ⟨f',fun x hx b hb=>?_,L9 g p q,⟨w,b1,hfi',by omega⟩,(uX e2).2 f2⟩
   rcases bQ.1 hx with rfl | hx
   ·exact (zO9 og hfi').1 b2 b hb
   ·rw [e2 x hx b hb];exact f1 x hx b hb
  ·rintro ⟨f,f1,m,⟨w,w1,w2,w3⟩,f2⟩;have hfw:=(zO9 (p:=p) (q:=q) og w2).2 (f1 g aR);obtain ⟨i1,i2⟩:=(ih (M-m)).2 ⟨f,fun x hx=>f1 x (aH _ hx),f2⟩;rcases JG (p:=p) (q:=q) h0 with ⟨_,b2⟩ | ⟨v,b1,b2,b3,b4⟩
   ·rw [b2 w w1] at hfw;cases hfw
   ·have:=b4 w w1 hfw;have:=h0 v b1;refine ⟨fun x hx=>?_,by omega⟩
    rcases bQ.1 hx with rfl | hx
    ·omega
    ·exact i1 x hx
theorem MB {c:Cx}{gs:List G}{p q:List Int}(h:qH c gs):yT8 c gs p q=true↔p.length=c.bs.length∧q.length=p.length∧Go.Pm.permB p=true∧∃ f:As,(∀ b:Int,0≤b→b<c.bs.length→XD p q (f b) b)∧Sem gs f c.m:=by
 have hs:=zT8 (p:=p) (q:=q) h.mid.out.nd h.mid.out.ok (M:=c.m);have e:yN6 gs p q gs.length=(gs.map fun g=>L9 g p q).sum:=by unfold yN6;rw [cM]
 unfold yT8;simp only [aN,decide_eq_true_eq,bJ,e,and_assoc];rw [hs];have hb:∀ f:As,(∀ g,g∈gs→∀ b,b∈g.1→XD p q (f b) b)↔∀ b:Int,0≤b→b<c.bs.length→XD p q (f b) b:=fun f=>by
  constructor
  ·intro h1 b b0 b1;obtain ⟨g,hg,hbg⟩:=h.mid.find ⟨b0,b1⟩;exact h1 g hg b hbg
  ·intro h1 g hg b hbg;have:=(h.mid.out.ok g hg).rg b hbg;exact h1 b this.1 this.2
 simp only [hb]
theorem WL {n:Nat}{g:G}{w:W}{f:As}(ok:H2 n g) (ow:JM n g.1.length w):pM g.1 w f↔∀ b,b∈g.1→JJ g w b=f b:=by
 have h:=T9 ok ow;constructor
 ·intro hf b hb;have e1:=h.1.symm.trans hf.1;have e2:=h.2.symm.trans hf.2;exact Prod.ext (BF.1 e1 b hb) (BF.1 e2 b hb)
 ·intro hp;exact ⟨h.1.trans (kA fun b hb=>by rw [hp b hb]),h.2.trans (kA fun b hb=>by rw [hp b hb])⟩
theorem HV {n:Nat}{x y:G}(jo:xS n x y){u v:W}(hu:u∈x.2) (hv:v∈y.2){f:As}:pM (nG x y).1 (L6 x y u v (nG x y).1) f↔pM x.1 u f∧pM y.1 v f:=by
 rw [WL jo.gx (jo.gx.ws u hu),WL jo.gy (jo.gy.ws v hv)];have hm:∀ b,b∈(nG x y).1↔b∈x.1∨b∈y.1:=fun b=>(nO x y).mem_iff.trans bH;generalize (nG x y).1=l at *;have e1:∀ b,(if b∈x.1 then gP u (x.1.idxOf b) else gP v (y.1.idxOf b))=(if b∈x.1 then JJ x u b else JJ y v b).1:=fun b=>by split <;> rfl
 have e2:∀ b,(if b∈x.1 then gC u (x.1.idxOf b) else gC v (y.1.idxOf b))=(if b∈x.1 then JJ x u b else JJ y v b).2:=fun b=>by split <;> rfl
 unfold pM L6;simp only [e1,e2];rw [BF,BF];constructor
 ·rintro ⟨h1,h2⟩;have h:∀ b,b∈l→(if b∈x.1 then JJ x u b else JJ y v b)=f b:=fun b hb=>Prod.ext (h1 b hb) (h2 b hb)
  refine ⟨fun b hb=>?_,fun b hb=>?_⟩
  ·have:=h b ((hm b).2 (.inl hb));rwa [if_pos hb] at this
  ·have:=h b ((hm b).2 (.inr hb));rwa [if_neg (fun q=>jo.dj b q hb)] at this
 ·rintro ⟨h1,h2⟩;have h:∀ b,b∈l→(if b∈x.1 then JJ x u b else JJ y v b)=f b:=fun b hb=>by
   by_cases hx:b∈x.1
   ·rw [if_pos hx];exact h1 b hx
   ·rw [if_neg hx];exact h2 b (((hm b).1 hb).resolve_left hx)
  exact ⟨fun b hb=>by rw [h b hb],fun b hb=>by rw [h b hb]⟩
theorem zK3 {n:Nat}{x y:G}(jo:xS n x y){f:As}{M:Int}:O4 (nG x y) f M↔∃ m,O4 x f m∧O4 y f (M-m):=by
 constructor
 ·rintro ⟨w,hw,hf,hm⟩;obtain ⟨u,v,hu,hv,rfl⟩:=I4 hw;obtain ⟨h1,h2⟩:=(HV jo hu hv).1 hf;change u.2.1+v.2.1≤M at hm;exact ⟨u.2.1,⟨u,hu,h1,eW _⟩,v,hv,h2,by omega⟩
 ·rintro ⟨m,⟨u,hu,h1,h3⟩,v,hv,h2,h4⟩;refine ⟨L6 x y u v (nG x y).1,gO.2 ⟨u,hu,bD.2 ⟨v,hv,rfl⟩⟩,(HV jo hu hv).2 ⟨h1,h2⟩,?_⟩;show u.2.1+v.2.1≤M;omega
theorem VE {u v J:G}{L:List G}{f:As}(h:∀ M,O4 J f M↔∃ m,O4 u f m∧O4 v f (M-m)){M:Int}:Sem (J::L) f M↔Sem (u::v::L) f M:=by
 simp only [Sem,h];constructor
 ·rintro ⟨m,⟨m',h1,h2⟩,h3⟩;exact ⟨m',h1,m-m',h2,h3.mono (by omega)⟩
 ·rintro ⟨m,h1,m',h2,h3⟩;exact ⟨m+m',⟨m,h1,by rw [show m+m'-m=m' by omega];exact h2⟩,h3.mono (by omega)⟩
theorem E6 {P Q R:List G}{u v:G}:(P++u::(Q++v::R)).Perm (u::v::(P++(Q++R))):=by
 refine List.perm_middle.trans (List.Perm.cons _ ?_);rw [← bM,← bM];exact iX
theorem zL7 {c:Cx}{gs all:List G}{a b:Int}(h:pA c c.m gs) (ha:0≤a∧a<c.bs.length) (hb:0≤b∧b<c.bs.length) (e:join gs a b=some all){f:As}{M:Int}:Sem all f M↔Sem gs f M:=by
 obtain ⟨i,x,hi,hix,hax⟩:=jD (h.find ha);obtain ⟨k,y,hk,hky,hby⟩:=jD (h.find hb);have hx:=aQ hix;have hy:=aQ hky;unfold join at e;dsimp only at e;rw [hi,hk] at e;split at e
 ·cases e;exact Iff.rfl
 ·rename_i hik;have gi:mJ gs ((i:Int)).toNat=x:=by unfold mJ;rw [aE];show (gs[i]?).getD _=x;rw [hix];rfl
  have gk:mJ gs ((k:Int)).toNat=y:=by unfold mJ;rw [aE];show (gs[k]?).getD _=y;rw [hky];rfl
  rw [gi,gk] at e;split at e
  ·cases e
  ·rename_i hsz;cases e;have nd:=h.out.nd;have ndi:(gs.flatMap fun g=>(iV g).1).Nodup:=h.idn.nodup_iff.2 (I2 _)
   have jo:xS c.bs.length x y:=by
    rcases jI (show i≠k by omega) with hlt | hlt
    ·obtain ⟨P,Q,R,e1,-⟩:=mU x hlt hix hky;rw [e1] at ndi nd;simp only [gE,bP] at ndi nd;exact ⟨h.out.ok x hx,h.out.ok y hy,h.ne x hx,h.ne y hy,fun b h1 h2=>(dB.1 (dB.1 nd).2.1).2.2 b h1 b (by simp [h2]) rfl,fun b h1 h2=>(dB.1 (dB.1 ndi).2.1).2.2 b h1 b (by simp [h2]) rfl,by omega⟩
    ·obtain ⟨P,Q,R,e1,-⟩:=mU y hlt hky hix;rw [e1] at ndi nd;simp only [gE,bP] at ndi nd;exact ⟨h.out.ok x hx,h.out.ok y hy,h.ne x hx,h.ne y hy,fun b h1 h2=>(dB.1 (dB.1 nd).2.1).2.2 b h2 b (by simp [h1]) rfl,fun b h1 h2=>(dB.1 (dB.1 ndi).2.1).2.2 b h2 b (by simp [h1]) rfl,by omega⟩
   have h1:=fun M=>zK3 jo (f:=f) (M:=M);have h2:∀ M,O4 (nG x y) f M↔∃ m,O4 y f m∧O4 x f (M-m):=fun M=>by
    rw [h1];constructor
    ·rintro ⟨m,a,b⟩;exact ⟨M-m,b,by rw [show M-(M-m)=m by omega];exact a⟩
    ·rintro ⟨m,a,b⟩;exact ⟨M-m,b,by rw [show M-(M-m)=m by omega];exact a⟩
   generalize nG x y=J at *;rcases jI (show i≠k by omega) with hlt | hlt
   ·obtain ⟨P,Q,R,e1,e2⟩:=mU J hlt hix hky;rw [show (min (i:Int) (k:Int)).toNat=i by omega,show (max (i:Int) (k:Int)).toNat=k by omega,e2,e1,pU E6,pU iX]
    exact VE h1
   ·obtain ⟨P,Q,R,e1,e2⟩:=mU J hlt hky hix;rw [show (min (i:Int) (k:Int)).toNat=k by omega,show (max (i:Int) (k:Int)).toNat=i by omega,e2,e1,pU E6,pU iX]
    exact VE h2
theorem yA0 {c:Cx}{M0:Int}{all:List G}{s:Ev}(h:C3 c M0 all s){i:Nat}{g:G}(hi:all[i]? = some g) (ha:s.a∈g.1) (hb:s.k=4→s.b∈g.1∧s.a≠s.b){f':As}{M:Int} :
  Sem (all.set i (g.1,gX (mY c s g))) f' M↔∃ f d,K3 c s f f' d∧Sem all f (M-d):=by
 have hg:=aQ hi;have og:=h.mid.out.ok g hg;have nd:=h.mid.out.nd;obtain ⟨A,B,e1,e2⟩:=rA (y:=(g.1,gX (mY c s g))) hi;have hon:=fun M=>zK2 (c:=c) og ha hb (f':=f') (M:=M);have hoff:∀ f d,K3 c s f f' d→∀ x,x∈A++B→∀ b,b∈x.1→f' b=f b:=fun f d st x hx b hbx=>by
  have hbg:b∉g.1:=fun q=>by
   rw [e1] at nd;simp only [gE,bP] at nd;obtain ⟨_,n1,n2⟩:=dB.1 nd;obtain ⟨_,_,n3⟩:=dB.1 n1;rcases bH.1 hx with hx | hx
   ·exact n2 b (qA hx hbx) b (bH.2 (.inl q)) rfl
   ·exact n3 b q b (qA hx hbx) rfl
  rcases st with ⟨_,rfl,_⟩ | ⟨hk,rfl,_⟩
  ·unfold upd;rw [if_neg (fun q:b=s.a=>hbg (q▸ha))]
  ·unfold MS;rw [if_neg (fun q:b=s.a=>hbg (q▸ha)),if_neg (fun q:b=s.b=>hbg (q▸(hb hk).1))]
 rw [e2,pU iX];have e1':∀ f M,Sem all f M↔Sem (g::(A++B)) f M:=fun f M=>by rw [e1];exact pU iX
 simp only [e1',Sem,hon];constructor
 ·rintro ⟨m,⟨f,d,st,h1⟩,h2⟩;exact ⟨f,d,st,m-d,h1,((uX (hoff f d st)).1 h2).mono (by omega)⟩
 ·rintro ⟨f,d,st,m,h1,h2⟩;exact ⟨m+d,⟨f,d,st,h1.mono (by omega)⟩,((uX (hoff f d st)).2 h2).mono (by omega)⟩
theorem NY {c:Cx}{M0:Int}{l all:List G}{s:Ev}(h:C3 c M0 all s) (hM:M0≤2200000) (hab:s.k=4→s.a≠s.b){f':As}{M:Int}(hm:M≤c.m) :
  ((tI c l all s).1=0→(Sem (tI c l all s).2 f' M↔∃ f d,K3 c s f f' d∧Sem all f (M-d)))∧((tI c l all s).1=26→¬ ∃ f d,K3 c s f f' d∧Sem all f (M-d)):=by
 obtain ⟨i,g,hi,hg,hgm,hat,ha,hb⟩:=h.at;have hp:=yA0 (c:=c) h hg ha (fun hk=>⟨hb hk,hab hk⟩) (f':=f') (M:=M);have hnx:=h.next hM hg ha hb
 unfold tI;dsimp only;rw [hat,hi,bI];by_cases h0:gX (mY c s g)=[]
 ·rw [if_pos h0];refine ⟨fun q=>(by cases q),fun _ q=>?_⟩
  have hs:=hp.2 q;obtain ⟨A,B,e1,e2⟩:=rA (y:=(g.1,gX (mY c s g))) hg;rw [e2,pU iX] at hs;obtain ⟨m,⟨w,hw,_⟩,_⟩:=hs;rw [h0] at hw;cases hw
 ·rw [if_neg h0];by_cases h1:1000<(gX (mY c s g)).length
  ·rw [if_pos h1];exact ⟨fun q=>(by cases q),fun q=>(by cases q)⟩
  ·rw [if_neg h1];obtain ⟨hm1,hasc⟩:=hnx h0 (by omega)
   generalize all.set i (g.1,gX (mY c s g))=N at *;have ht:Sem (xI c N) f' M↔Sem N f' M:=by
    unfold xI;rw [XU (hm1.out.paid c).ok,zG5 hm]
   by_cases hany:(xI c N).any (fun g=>g.2.isEmpty)=true
   ·rw [if_pos hany];refine ⟨fun q=>(by cases q),fun _ q=>?_⟩
    have hs:=ht.2 (hp.2 q);obtain ⟨x,hx,hxe⟩:=kX.1 hany;obtain ⟨A,B,e⟩:=zC2 hx;rw [e,pU iX] at hs;obtain ⟨m,⟨w,hw,_⟩,_⟩:=hs;rw [List.isEmpty_iff.1 hxe] at hw;cases hw
   ·rw [if_neg hany];exact ⟨fun _=>ht.trans hp,fun q=>(by cases q)⟩
theorem wN {c:Cx}{gs:List G}{s:Ev}(h:qH c gs) (hm0:0≤c.m) (hm1:c.m≤1048576) (hr:iP c.bs.length s=true){f':As}{M:Int}(hm:M≤c.m) :
  ((fI c gs s).1=0→(Sem (fI c gs s).2 f' M↔∃ f d,K3 c s f f' d∧Sem gs f (M-d)))∧((fI c gs s).1=26→¬ ∃ f d,K3 c s f f' d∧Sem gs f (M-d)):=by
 have hn:=h.mid.n12;obtain ⟨r1,r2,_⟩:=oP hr (by omega)
 have hab:s.k=4→s.a≠s.b:=fun hk=>by have:=r2 hk;omega
 unfold fI;rw [if_pos hr];by_cases hk:s.k=4
 ·rw [if_pos hk];cases hj:join gs s.a s.b with
  | none=>exact ⟨fun q=>(by cases q),fun q=>(by cases q)⟩
  | some all=>
   dsimp only;have:=NY (l:=gs) (vJ h (by omega) hm0 hm1 hr hk hj) (by omega) hab (f':=f') hm
   have hb:=r2 hk;have js:∀ f M,Sem all f M↔Sem gs f M:=fun f M=>zL7 h.mid r1 ⟨by omega,by omega⟩ hj
   simp only [js] at this;exact this
 ·rw [if_neg hk];exact NY (l:=gs) (xZ h (by omega) hm0 hr hk) (by omega) hab hm
def c0:Cx:=⟨1,1,0,0,[(⟨#[110,117,116]⟩,10)],[(0,0,false),(0,0,false),(0,0,false)],[(0,5,0),(1,3,0),(2,2,0)]⟩
theorem NE {c:Cx}(hc:iZ c):xE c.ks c.ls (nats (List.range c.bs.length)) c.bs:=
 ⟨hc.f.len,fun i hi=>yI.2 ⟨by omega,by simp at hi;omega⟩,hc.f.k,hc.f.l,hc.f.b⟩
end Go.Ld
namespace Go.Proofs.Q
open Go Go.Ab Go.Ld
attribute [local irreducible] VC AW bW aM iU
theorem yD7 (n:Nat) (h:n≤17592186043904):aM Tryz.prog 67 [.i (n:Int)] [] (.rowE (ints (nats (List.range n))) 1) []:=by
 have h1:=yD6 (n:Int) (by omega)
 rw [bI] at h1;exact kZ (by simp) (eX (bF _)) h1
theorem yP4 (c:Cx) (hc:iZ c):aM Tryz.prog 35 [.agg [.i c.m,.i c.st,.i c.er,.i c.sl],.rowE (jA c.ks) 2,.rowE (kE c.ls) 3,.rowE (fL c.bs) 3] [] (.tup [.ptr 0 0,.i 0]) [.cells (jY c (rU c))]:=by
 have hbl:(fL c.bs).length=c.bs.length:=aU _;have h8:=hc.f.n8;have h9:=hc.f.k10;have h10:=hc.f.l10;have hnl:(nats (List.range c.bs.length)).length=c.bs.length:=by simp
 refine yX6 c hc ?_ (KC (NE hc) (by omega) (by omega) (by omega))
 rw [hbl];exact yD7 _ (by omega)
end Go.Proofs.Q
namespace Go.Ld
open Go.Ab Go.Proofs.Q
def e1:Ev:=⟨4,0,1,0,[]⟩
def e2:Ev:=⟨0,0,0,0,[1]⟩
def xG5:List G:=rU c0
def xG4:List G:=(fI c0 xG5 e1).2
def xI6:List G:=(fI c0 xG4 e2).2
def xI5:List G:=(fI c0 xI6 e2).2
theorem x0:(fI c0 xG5 e1).1=0:=by decide +kernel
theorem x1:(fI c0 xG4 e2).1=0:=by decide +kernel
theorem a3:yT8 c0 xI5 [1,0,2] [5,3,2]=true:=by unfold yT8 Go.Pm.permB;rw [vI];decide +kernel
end Go.Ld
namespace Go.Proofs.Q
open Go Go.Ab Go.Ld
attribute [local irreducible] VC AW bW aM iU
theorem SN (a b:List Int) (ha:a.length≤9223372036854775807):aM Tryz.prog 17 [.rowE (ints a) 1,.rowE (ints b) 1] [] (.b (decide (a=b))) []:=by
 have hal:(ints a).length=a.length:=by simp
 have hbl:(ints b).length=b.length:=by simp
 by_cases hl:a.length=b.length
 ·refine bS T Tryz.func17 rfl rfl rfl rfl ?_
  (repeat' (first|refine wS ?_|refine wB ?_|refine wK ?_|(refine wC rfl ?_ ?_<;>(intro hb;(try simp only [nm] at hb);try omega))|(refine rg 0 (aV ?_))|(refine rg 1 (mW rfl (qW T rfl (mW rfl (qW T rfl (vV (gI rfl rfl) ?_))))))|(refine rg 3 (aV ?_))|refine nZ ?_));all_goals try omega
  refine dI (X:={i:Nat // i≤a.length∧a.take i=b.take i}) (fun i=>[(0,.rowE (ints a) 1),(1,.rowE (ints b) 1),(5,.i i.1)]) (fun _=>[]) (fun i=>a.length-i.1) ⟨0,by omega,rfl⟩ (gQ []) ?_
  rintro ⟨i,hi,hg⟩;dsimp only;by_cases hlt:i<a.length
  ·have q1:=mC (l:=a) (k:=i) hlt;have q2:=mC (l:=b) (k:=i) (by omega)
   by_cases e:a[i]=b[i]
   ·(repeat' (first|refine wS ?_|refine wB ?_|refine wK ?_|(refine wC rfl (fun hb=>?_) (fun hb=>?_) <;> (((try simp only [nm] at hb);try omega)))|(refine rg 4 (dJ rfl (qW T rfl (vV (aK rfl rfl) ?_))))|(refine cH (id:=6) 26 xM8 (rM 17 9) xM9 cP rfl (by decide +kernel) (dN rfl (dN rfl (dV rfl (ix T rfl (by omega) (dY a) q1) (dO T rfl (dN rfl (dN rfl (dV rfl (ix T rfl (by omega) (dY b) q2) (dO T rfl (dV rfl (gI rfl rfl) ?_)))))))));refine dE ?_)|(refine iA 5 rfl rfl rfl (by omega) (by omega) ?_)|(refine nZ ?_)));all_goals try omega
    refine ⟨⟨i+1,hlt,?_⟩,by dsimp only;omega,gQ []⟩
    rw [aL hlt,aL (by omega),hg,e]
   ·rw [show decide (a=b)=false from decide_eq_false (fun h=>e (by subst h;rfl))]
    (repeat' (first|refine wS ?_|refine wB ?_|refine wK ?_|refine wR ?_|(refine wC rfl ?_ ?_<;>(intro hb;(try simp only [nm] at hb);try omega))|(refine rg 4 (dJ rfl (qW T rfl (vV (aK rfl rfl) ?_))))|(refine cH (id:=6) 26 xM8 (rM 17 9) xM9 cP rfl (by decide +kernel) (dN rfl (dN rfl (dV rfl (ix T rfl (by omega) (dY a) q1) (dO T rfl (dN rfl (dN rfl (dV rfl (ix T rfl (by omega) (dY b) q2) (dO T rfl (dV rfl (gI rfl rfl) ?_)))))))));refine dE ?_)|(refine rg 7 (aV ?_))|refine nZ ?_));all_goals first|omega | exact rQ
  ·rw [bO (by omega),bO (by omega)] at hg
   rw [show decide (a=b)=true from decide_eq_true hg]
   (repeat' (first|refine wS ?_|refine wR ?_|refine wE ?_|(refine wC rfl ?_ ?_<;>(intro hb;(try simp only [nm] at hb);try omega))|(refine rg 4 (dJ rfl (qW T rfl (vV (aK rfl rfl) ?_))))|(refine rg 8 (aV ?_))|refine nZ ?_));all_goals first|omega | exact rQ
 ·rw [show decide (a=b)=false from decide_eq_false (fun h=>hl (by rw [h]))]
  refine bS T Tryz.func17 rfl rfl rfl rfl ?_
  (repeat' (first|refine wS ?_|refine wR ?_|(refine wC rfl ?_ ?_<;>(intro hb;(try simp only [nm] at hb);try omega))|(refine rg 0 (aV ?_))|(refine rg 1 (mW rfl (qW T rfl (mW rfl (qW T rfl (vV (gI rfl rfl) ?_))))))|(refine rg 2 (aV ?_))|refine nZ ?_));all_goals first|omega | exact rQ
theorem RG {S:Nat→Prop}{w:World}{ρ:Pl}{a b d e:AV}{y:Value}(h:R S w (.agg [a,b,d,e,.nils]) ρ y):R S w (.agg [a,b,d,e,.rowE [] 1]) ρ y:=by
 simp only [R] at h ⊢;obtain ⟨ys,e1,h1⟩:=h;exact ⟨ys,e1,mH (fun _ h=>h) (fun _=>mH (fun _ h=>h) fun _=>mH (fun _ h=>h) fun _=>mH (fun _ h=>h) fun _=>mH (fun _ h=>UR h) fun _ h=>h) h1⟩
end Go.Proofs.Q
namespace Go.Ld
open Go.Ab Go.Proofs.Q Go.Pm
theorem DP {g:G}{i:Nat}{x:Int}:x∈wQ g i↔∃ w,w∈g.2∧gP w i=x:=by
 unfold wQ C1;rw [FG _ _ _ (aX _),cM];have:x∈jF (M7 g i)↔x∈M7 g i:=(sorted_perm _).mem_iff;rw [this];unfold M7;rw [bD]
theorem OD {g:G}{i:Nat}:∀ k,k≤g.2.length→∀ w,w∈g.2.take k→(XZ g i k).1≤(gC w i).1∧(gC w i).2≤(XZ g i k).2
 | 0,_,w,hw=>by simp at hw
 | k+1,hk,w,hw=>by
  rw [XY (by omega)]
  rw [aL (by omega)] at hw
  unfold zN2;dsimp only;rcases bH.1 hw with hw | hw
  ·have:=OD (i:=i) k (by omega) w hw
   omega
  ·obtain rfl:=bE.1 hw;omega
theorem zZ0 {g:G}{i:Nat}{w:W}(hw:w∈g.2):(zZ1 g i).1≤(gC w i).1∧(gC w i).2≤(zZ1 g i).2:=
 OD _ (aX _) w (by rw [cM];exact hw)
theorem xY:∀ {gs:List G}{f:As}{M:Int},Sem gs f M→∀ {g:G},g∈gs→∃ w,w∈g.2∧pM g.1 w f
 | [],_,_,_,_,hg=>by cases hg
 | x::gs,f,M,⟨m,⟨w,h1,h2,_⟩,h3⟩,g,hg=>by
  rcases bQ.1 hg with rfl | hg
  ·exact ⟨w,h1,h2⟩
  ·exact xY h3 hg
theorem CA {c:Cx}{gs:List G}{p q:List Int}(h:qH c gs) (ha:yT8 c gs p q=true){b:Int}(hb:0≤b∧b<c.bs.length){g:G}{i:Nat}(hg:BO gs b=some (g,i)) :
  p.getD b.toNat 0∈wQ g i∧(zZ1 g i).1≤q.getD (p.getD b.toNat 0).toNat 0∧q.getD (p.getD b.toNat 0).toNat 0<(zZ1 g i).2:=by
 obtain ⟨_,_,_,f,hf,hs⟩:=(MB h).1 ha;obtain ⟨k,h1,h2,h3,h4⟩:=R4 hg;obtain ⟨w,hw,hfw⟩:=xY hs (aQ h2);have hi:i<g.1.length:=by rw [h4];exact iE h3
 have hib:g.1[i]=b:=by
  obtain ⟨hx,e⟩:=zU h3;subst h4;exact e
 have e1:=ET hfw hi;have e2:=EU hfw hi;rw [hib] at e1 e2;obtain ⟨o1,o2⟩:=hf b hb.1 hb.2;have hc:=zZ0 (i:=i) hw;rw [e2] at hc;unfold yU at o2;simp only [aN,decide_eq_true_eq] at o2;exact ⟨DP.2 ⟨w,hw,by rw [e1,o1]⟩,by omega,by omega⟩
end Go.Ld
namespace Go.Ld
open Go.Ab Go.Proofs.Q
abbrev nQ (l:List Ev):List (List AV):=l.map C9
def D1 (l:List Ev):Nat:=l.countP fun s=>decide (s.k=4)
def LK (l:List Ev) (m:Nat):Bool:=(l.take (m+1)).all (fun s=>decide (s.ids.length≤12))&&decide (l.length≤m)&&decide (D1 (l.take (m+1))≤5)
theorem tD (l:List Ev):∀ e,e∈nQ l→e.length=5:=by intro e he;obtain ⟨n,_,rfl⟩:=bD.1 he;rfl
theorem QE {l:List Ev}{k:Nat}(h:k<l.length):(nQ l)[(k:Int).toNat]? = some (C9 l[k]):=by simp [h]
end Go.Ld
namespace Go.Proofs.Q
open Go Go.Ab Go.Ld
attribute [local irreducible] VC AW bW aM iU
theorem yR7 (l:List Ev) (m:Nat) (hm:m≤1000) (hids:∀ s,s∈l→s.ids.length≤9223372036854775807):aM Tryz.prog 34 [.rowE (nQ l) 5,.i m] [] (.b (LK l m)) []:=by
 have hll:(nQ l).length=l.length:=aU _;have hbad:∀ k (hk:k<l.length),k≤m→¬ l[k].ids.length≤12→LK l m=false:=fun k hk hkm hb=>by
  unfold LK;rw [show (l.take (m+1)).all (fun s=>decide (s.ids.length≤12))=false from List.all_eq_false.2 ⟨l[k],List.mem_take_iff_getElem.2 ⟨k,by omega,rfl⟩,by simpa using hb⟩];rfl
 have hgood:(∀ s,s∈l.take (m+1)→s.ids.length≤12)→LK l m=(decide (l.length≤m)&&decide (D1 (l.take (m+1))≤5)):=fun h=>by
  unfold LK;rw [bJ.2 fun s hs=>decide_eq_true (h s hs),nH]
 generalize LK l m=R at *;refine bS T Tryz.func34 rfl rfl rfl rfl ?_
 (repeat' (first|refine wS ?_|refine wB ?_|(refine rg 0 (aV ?_))|(refine rg 1 (aV ?_))|(refine rg 2 (aV ?_))|refine nZ ?_));refine dI (X:={k:Nat // k≤l.length∧k≤m+1∧∀ s,s∈l.take k→s.ids.length≤12}) (fun k=>[(0,.rowE (nQ l) 5),(1,.i m),(5,.i (D1 (l.take k.1))),(6,.i k.1)]) (fun _=>[]) (fun k=>l.length-k.1) ⟨0,bZ _,bZ _,fun s hs=>by simp at hs⟩ (gQ []) ?_
 rintro ⟨k,hk,hkm,hall⟩;dsimp only;have hsw:D1 (l.take k)≤k:=bL List.countP_le_length (by rw [aY];omega)
 by_cases hlt:k<l.length∧k≤m
 ·obtain ⟨h1,h2⟩:=hlt;have hg:=QE h1;have hts:l.take (k+1)=l.take k++[l[k]]:=aL h1;have hs1:D1 (l.take (k+1))=D1 (l.take k)+(if l[k].k=4 then 1 else 0):=by rw [hts];unfold D1;rw [zC1];simp [List.countP_cons]
  have hbk:=hbad k h1 h2;have hx:=hids l[k] (aO h1);have hil:(Go.Ab.ints l[k].ids).length=l[k].ids.length:=aU _;have hall2:l[k].ids.length≤12→∀ s,s∈l.take (k+1)→s.ids.length≤12:=fun hq s hs=>by
   rw [hts] at hs;rcases bH.1 hs with hs | hs
   ·exact hall s hs
   ·rw [bE.1 hs];exact hq
  generalize l[k]=s at *;generalize hS1:D1 (l.take (k+1))=S1 at *;generalize D1 (l.take k)=S at *;by_cases hi:s.ids.length≤12
  ·by_cases h4:s.k=4
   ·rw [if_pos h4] at hs1
    (repeat' (first|refine wS ?_|refine wB ?_|refine wK ?_|refine wT ?_|(refine wC rfl ?_ ?_<;>(intro hb;(try simp only [nm] at hb);try omega))|(refine rg 3 (dJ rfl (qW T rfl (vV (aK rfl rfl) (mV ?_))));refine cD rfl rfl ?_ ?_<;>(intro hb;rw [hb];(try simp only [nm] at hb);try omega);(all_goals (refine yN rfl (yN rfl (yV (iQ rfl rfl) (pV ?_))))))|(refine rg 5 (dJ rfl (vV (ix T rfl (by omega) (tD _) hg) (iK T rfl (qW T rfl (vV (fK rfl rfl) ?_))))))|(refine rg 7 (dJ rfl (vV (ix T rfl (by omega) (tD _) hg) (iK T rfl (vV (jL rfl rfl (by omega)) ?_)))))|(refine iA 8 rfl rfl rfl (by omega) (by omega) ?_)|(refine iA 4 rfl rfl rfl (by omega) (by omega) ?_)|refine nZ ?_));all_goals try omega
    exact ⟨⟨k+1,h1,by omega,hall2 hi⟩,by dsimp only;omega,[],rfl,⟨rfl,rfl,by dsimp only;rw [hS1,hs1];rfl,rfl,trivial⟩,trivial,eM,jP _⟩
   ·rw [if_neg h4] at hs1
    (repeat' (first|refine wS ?_|refine wB ?_|refine wK ?_|refine wU ?_|(refine wC rfl ?_ ?_<;>(intro hb;(try simp only [nm] at hb);try omega))|(refine rg 3 (dJ rfl (qW T rfl (vV (aK rfl rfl) (mV ?_))));refine cD rfl rfl ?_ ?_<;>(intro hb;rw [hb];(try simp only [nm] at hb);try omega);(all_goals (refine yN rfl (yN rfl (yV (iQ rfl rfl) (pV ?_))))))|(refine rg 5 (dJ rfl (vV (ix T rfl (by omega) (tD _) hg) (iK T rfl (qW T rfl (vV (fK rfl rfl) ?_))))))|(refine rg 7 (dJ rfl (vV (ix T rfl (by omega) (tD _) hg) (iK T rfl (vV (gR rfl rfl (by omega)) ?_)))))|(refine iA 4 rfl rfl rfl (by omega) (by omega) ?_)|refine nZ ?_));all_goals try omega
    exact ⟨⟨k+1,h1,by omega,hall2 hi⟩,by dsimp only;omega,[],rfl,⟨rfl,rfl,by dsimp only;rw [hS1,hs1];rfl,rfl,trivial⟩,trivial,eM,jP _⟩
  ·have hR:=hbk hi;subst hR
   (repeat' (first|refine wS ?_|refine wB ?_|refine wK ?_|refine wR ?_|(refine wC rfl ?_ ?_<;>(intro hb;(try simp only [nm] at hb);try omega))|(refine rg 3 (dJ rfl (qW T rfl (vV (aK rfl rfl) (mV ?_))));refine cD rfl rfl ?_ ?_<;>(intro hb;rw [hb];(try simp only [nm] at hb);try omega);(all_goals (refine yN rfl (yN rfl (yV (iQ rfl rfl) (pV ?_))))))|(refine rg 5 (dJ rfl (vV (ix T rfl (by omega) (tD _) hg) (iK T rfl (qW T rfl (vV (fK rfl rfl) ?_))))))|(refine rg 6 (aV ?_))|refine nZ ?_));all_goals try omega
   all_goals exact rQ
 ·have hke:l.take k=l.take (m+1):=by
   rcases jO k l.length with h | h
   ·rw [show k=m+1 by omega]
   ·rw [bO h,bO (by omega)]
  rw [hke] at hall hsw ⊢;have hR:=hgood hall;subst hR;generalize D1 (l.take (m+1))=S at *
  (repeat' (first|refine wS ?_|refine wR ?_|refine wE ?_|refine wU ?_|(refine wC rfl ?_ ?_<;>(intro hb;(try simp only [nm] at hb);try omega))|(refine rg 3 (dJ rfl (qW T rfl (vV (aK rfl rfl) (mV ?_))));refine cD rfl rfl ?_ ?_<;>(intro hb;rw [hb];(try simp only [nm] at hb);try omega);(all_goals first|(refine gT (mW rfl (gT (mW rfl (gT (vV (iQ rfl rfl) ?_))))))|(iterate 3 refine gF ?_));(all_goals (refine pV ?_)))|(refine rg 9 (mW rfl (qW T rfl (mW rfl (vV (iQ rfl rfl) (mV ?_)))));refine cD rfl rfl ?_ ?_<;>(intro hb;rw [hb];(try simp only [nm] at hb);try omega);(all_goals first|(refine gT (mW rfl (gT (vV (iQ rfl rfl) ?_))))|(iterate 2 refine gF ?_));(all_goals (refine pW rfl (aV ?_))))|refine nZ ?_));all_goals try omega
  all_goals (refine dU (.inl rfl) rfl (oM ?_);first|rfl | (rw [K9];simp;omega)|(simp [*];omega)|skip)
end Go.Proofs.Q
namespace Go.Proofs.Q
open Go Go.Ab
attribute [local irreducible] VC AW bW aM
def zV3 (N:Nat) (ks:List KD) (ls:List LT) (ps:List Int) (bs:List BX):Prop:=1≤ps.length∧ps.length≤N∧bs.length≤N∧ks.length≤10∧ls.length≤10
theorem zO4 (N:Nat) (hN:N≤8) (ks:List KD) (ls:List LT) (ps:List Int) (bs:List BX) (m st er sl:Int) (h:¬ zV3 N ks ls ps bs) :
  aM Tryz.prog 29 [zJ ks ls ps bs,qI m st er sl,.i N] [] (.b false) []:=by
 unfold zV3 at h;have e1:(jA ks).length=ks.length:=by simp
 have e2:(kE ls).length=ls.length:=by simp
 have e3:(ints ps).length=ps.length:=by simp
 have e4:(fL bs).length=bs.length:=by simp
 refine bS T Tryz.func29 rfl rfl rfl rfl ?_
 (repeat' (first|refine wS ?_|refine wR ?_|(refine rg 0 (cO (dR rfl rfl) rfl (cO (dR rfl rfl) rfl (aV ?_))))|(refine rg 1 (iK T rfl (qW T rfl (vV (iR rfl rfl) (mV ?_))));refine cD rfl rfl ?_ ?_<;>(intro hb;rw [hb];(try simp only [nm] at hb);try omega);(all_goals first|(refine gT (fW T rfl (gT (lW T rfl (gT (qW T rfl (gT (mW rfl (gT (vV (iQ rfl rfl) ?_))))))))))|(iterate 5 refine gF ?_));(all_goals (refine pW rfl (mV ?_)));(all_goals first|(refine gK ?_)|(refine cD rfl rfl ?_ ?_<;>(intro hb;rw [hb];(try simp only [nm] at hb);try omega)));(all_goals first|(refine gT (fW T rfl (gT (lW T rfl (gT (qW T rfl (gT (mW rfl (gT (vV (iQ rfl rfl) ?_))))))))))|(iterate 5 refine gF ?_));(all_goals (refine pW rfl (mV ?_)));(all_goals first|(refine gK ?_)|(refine cD rfl rfl ?_ ?_<;>(intro hb;rw [hb];(try simp only [nm] at hb);try omega)));(all_goals first|(refine gT (fW T rfl (gT (lW T rfl (gT (qW T rfl (gT (vV (iQ rfl rfl) ?_))))))))|(iterate 4 refine gF ?_));(all_goals (refine pW rfl (mV ?_)));(all_goals first|(refine gK ?_)|(refine cD rfl rfl ?_ ?_<;>(intro hb;rw [hb];(try simp only [nm] at hb);try omega)));(all_goals first|(refine gT (fW T rfl (gT (lW T rfl (gT (qW T rfl (gT (vV (iQ rfl rfl) ?_))))))))|(iterate 4 refine gF ?_));(all_goals (refine pW rfl (mV ?_)));(all_goals first|(refine gK ?_)|(refine cD rfl rfl ?_ ?_<;>(intro hb;rw [hb];(try simp only [nm] at hb);try omega)));(all_goals ((iterate 2 refine gF ?_);refine pW rfl (mV ?_);(iterate 9 refine gF ?_);refine pW rfl (aV ?_))))|refine nZ ?_));all_goals first|exact rQ | (exfalso;omega)|(refine dU (.inl rfl) rfl (oM ?_);simp;omega)
theorem S8 (N:Nat) (hN:N≤8) (ks:List KD) (ls:List LT) (ps:List Int) (bs:List BX) (m st er sl:Int) (h:zV3 N ks ls ps bs){v w:Bool}(hs:H9 m st er sl=v) (ht:vG ks ls ps bs=w) :
  aM Tryz.prog 29 [zJ ks ls ps bs,qI m st er sl,.i N] [] (.b (v&&w)) []:=by
 unfold zV3 at h;have e1:(jA ks).length=ks.length:=by simp
 have e2:(kE ls).length=ls.length:=by simp
 have e3:(ints ps).length=ps.length:=by simp
 have e4:(fL bs).length=bs.length:=by simp
 have c1:=hs▸zG4 m st er sl;have c2:=ht▸zW8 ks ls ps bs (by omega) (by omega) (by omega) (by omega)
 cases v <;> cases w
 all_goals
  refine bS T Tryz.func29 rfl rfl rfl rfl ?_
  repeat' (first|refine wS ?_|refine wR ?_|(refine rg 0 (cO (dR rfl rfl) rfl (cO (dR rfl rfl) rfl (aV ?_))))|(refine rg 1 (iK T rfl (qW T rfl (vV (iR rfl rfl) (mV ?_))));refine cD rfl rfl ?_ ?_<;>(intro hb;rw [hb];(try simp only [nm] at hb);try omega);(all_goals (refine yP T rfl (yO T rfl (gT (qW T rfl (yN rfl (yV (iQ rfl rfl) (pW rfl (mV ?_)))))));refine cD rfl rfl ?_ ?_<;>(intro hb;rw [hb];(try simp only [nm] at hb);try omega)));(all_goals (refine yP T rfl (yO T rfl (gT (qW T rfl (yN rfl (yV (iQ rfl rfl) (pW rfl (mV ?_)))))));refine cD rfl rfl ?_ ?_<;>(intro hb;rw [hb];(try simp only [nm] at hb);try omega)));(all_goals (refine yP T rfl (yO T rfl (gT (qW T rfl (yV (iQ rfl rfl) (pW rfl (mV ?_))))));refine cD rfl rfl ?_ ?_<;>(intro hb;rw [hb];(try simp only [nm] at hb);try omega)));(all_goals (refine yP T rfl (yO T rfl (gT (qW T rfl (yV (iQ rfl rfl) (pW rfl (mV ?_))))));refine cD rfl rfl ?_ ?_<;>(intro hb;rw [hb];(try simp only [nm] at hb);try omega)));(all_goals (refine yO T rfl (yV (kC (c1)) (pW rfl (mV ?_)))));(all_goals first|(refine gT (fW T rfl (gT (lW T rfl (gT (fW T rfl (gT (lW T rfl (gT (fV T ?_)))))))));refine gT (lW T rfl (gT (fW T rfl (gT (lW T rfl (gT (vV (kC (c2)) ?_))))))))|(iterate 9 refine gF ?_));(all_goals (refine pW rfl (aV ?_))))|refine nZ ?_)
 all_goals first|exact rQ | (exfalso;omega)
theorem yF9 (N:Nat) (hN:N≤8) (ks:List KD) (ls:List LT) (ps:List Int) (bs:List BX) (m st er sl:Int) :
  aM Tryz.prog 29 [zJ ks ls ps bs,qI m st er sl,.i N] [] (.b false) [] ∨
  (aM Tryz.prog 29 [zJ ks ls ps bs,qI m st er sl,.i N] [] (.b true) []∧yU9 ks ls ps bs∧oY m st er sl∧xE ks ls ps bs∧ps.length≤N):=by
 by_cases h:zV3 N ks ls ps bs
 ·cases hs:H9 m st er sl
  ·cases ht:vG ks ls ps bs
   ·exact .inl (S8 N hN ks ls ps bs m st er sl h hs ht)
   ·exact .inl (S8 N hN ks ls ps bs m st er sl h hs ht)
  ·cases ht:vG ks ls ps bs
   ·exact .inl (S8 N hN ks ls ps bs m st er sl h hs ht)
   ·exact .inr ⟨S8 N hN ks ls ps bs m st er sl h hs ht,yR6 ⟨h.1,by have:=h.2.1;omega,by have:=h.2.2.1;omega,h.2.2.2.1,h.2.2.2.2⟩ ht,XS hs,by unfold vG at ht;simpa using ht,h.2.1⟩
 ·exact .inl (zO4 N hN ks ls ps bs m st er sl h)
end Go.Proofs.Q
namespace Go.Ld
open Go.Ab Go.Proofs.Q
theorem zI4 {c:Cx}{gs:List G}(h:qH c gs){g:G}(hg:g∈gs){i:Nat}(hi:i<g.1.length):∀ x,x∈wQ g i→0≤x∧x<c.bs.length:=by
 intro x hx;obtain ⟨w,hw,rfl⟩:=DP.1 hx;obtain ⟨a,b,_⟩:=((h.mid.out.ok g hg).ws w hw).at hi;exact ⟨a,b⟩
theorem Q2 {g:G}{i:Nat}:(wQ g i).length≤g.2.length:=by
 unfold wQ C1;refine bL (qD _ _) ?_;have:(jF (M7 g i)).length=(M7 g i).length:=(Go.Pm.sorted_perm _).length_eq;rw [this];unfold M7;rw [aU];exact aX _
end Go.Ld
namespace Go.Proofs.Q
open Go Go.Ab Go.Ld
attribute [local irreducible] VC AW bW aM
abbrev mL (q:Int→Bool) (l:List Int):List Int:=l.filter fun x=>!q x
theorem EJ {q:Int→Bool}{l:List Int}{k:Nat}(h:k<l.length):mL q (l.take (k+1))=if q l[k] then mL q (l.take k) else mL q (l.take k)++[l[k]]:=by
 unfold mL;rw [aL h,rJ];cases e:q l[k] <;> simp [e]
theorem zL6 (q:Int→Bool) (l:List Int) (k:Nat):(mL q (l.take k)).length≤k:=bL (eZ _ _) (by simp;omega)
theorem xG9 {G l:List Int}{m:Nat}(hg:G.length≤m) (hm:m<l.length):(ints (G++l.drop G.length))[0+(m:Int).toNat]? = some [AV.i l[m]]:=by
 rw [Nat.zero_add,bI,bN,aF hg,eK,show G.length+(m-G.length)=m by omega,aB hm];rfl
theorem xB8 {G l:List Int}{x:Int}(hg:G.length<l.length):(ints (G++l.drop G.length)).set (0+(G.length:Int).toNat) [AV.i x]=ints ((G++[x])++l.drop (G++[x]).length):=by
 rw [Nat.zero_add,bI,← zC,jC _ _ (aX _),eI,aP hg,List.set_cons_zero];simp
theorem yY2 {G l:List Int}(hg:G.length≤l.length):(ints (G++l.drop G.length)).length=l.length:=by simp;omega
theorem yV8 {G l:List Int}:(ints (G++l.drop G.length)).take (0+(G.length:Int).toNat)=ints G:=by
 rw [Nat.zero_add,bI,← lB,rF (aX _),bO (aX _)]
theorem JA {F:FuncId}{caps:List AV}{q:Int→Bool}(l:List Int) (hl:l.length≤1000000) (hi:AV.idfL caps=true) (hp:AV.plnL caps=true) (hF:∀ x,x∈l→aM Tryz.prog F (.i x::caps) [] (.b (q x)) []) :
  aM Tryz.prog 43 [.sl 0 0 l.length 1,.clo (.func F) [] caps] [.arr (ints l) 1] (.sl 0 0 (mL q l).length 1) [.arr (ints (mL q l)) 1]:=by
 have hll:(ints l).length=l.length:=by simp
 have hix:=yK6 hl hi hF;refine bS T Tryz.func43 rfl rfl rfl rfl ?_;rcases I9 q l 0 with ⟨h1,h2⟩ | ⟨j,hj,h1,h2,h3⟩
 ·rw [h1] at hix;have hk:mL q l=l:=nC.2 fun x hx=>by rw [h2 x hx];rfl
  rw [hk]
  (repeat' (first|refine wS ?_|refine wR ?_|refine wT ?_|(refine rg 0 (aV ?_))|(refine rg 1 (dJ rfl (vV (by exact eH rfl rfl hix (.cons (sS rfl rfl) (.cons (.clo .nil (lK _ hp)) .nil)) rfl rfl) ?_));refine aV ?_)|(refine rg 2 (mW rfl (vV (fB rfl rfl) ?_)))|(refine rg 3 (mW rfl (aV ?_)))|refine nZ ?_));all_goals first|omega | exact ⟨.inl rfl,[0],_,rfl,rfl,rfl,⟨.inr (aC rfl rfl (bF _)),trivial⟩,by decide,lX⟩
 ·rw [h1,Nat.zero_add] at hix;have hk0:mL q (l.take (j+1))=l.take j:=by
   rw [EJ hj,if_pos h2];exact nC.2 fun x hx=>by rw [h3 x hx];rfl
  have hkl:(mL q (l.take (j+1))).length=j:=by rw [hk0];simp;omega
  have hka:mL q (l.take (j+1))++l.drop (mL q (l.take (j+1))).length=l:=by rw [hkl,hk0,bK]
  have hkf:mL q l=mL q (l.take l.length):=by rw [cM]
  rw [hkf]
  (repeat' (first|refine wS ?_|refine wB ?_|refine wK ?_|refine wU ?_|(refine rg 0 (aV ?_))|(refine rg 1 (dJ rfl (vV (by exact eH rfl rfl hix (.cons (sS rfl rfl) (.cons (.clo .nil (lK _ hp)) .nil)) rfl rfl) ?_));refine aV ?_)|(refine rg 2 (mW rfl (vV (fB rfl rfl) ?_)))|(refine iA 4 rfl rfl rfl (by omega) (by omega) ?_)|refine nZ ?_));all_goals try omega
  refine dI (X:={m:Nat // m≤l.length}) (fun m=>[(0,.sl 0 0 l.length 1),(1,.clo (.func F) [] caps),(5,.i (mL q (l.take m.1)).length),(6,.i m.1)]) (fun m=>[.arr (ints (mL q (l.take m.1)++l.drop (mL q (l.take m.1)).length)) 1]) (fun m=>l.length-m.1) ⟨j+1,hj⟩ ⟨[0],rfl,⟨rfl,by rw [lO hi];rfl,by dsimp only;rw [hkl];rfl,rfl,trivial⟩,⟨.inr (aC rfl (by dsimp only;rw [hka]) (bF _)),trivial⟩,by decide,lX⟩ ?_
  rintro ⟨m,hm⟩;dsimp only;have hle:=zL6 q l m;by_cases hlt:m<l.length
  ·have hs:=EJ (q:=q) hlt;have hget:=xG9 hle hlt;have hg2:=xG9 (G:=mL q (l.take m)) (l:=l) (aX _) (by omega)
   have hset:=xB8 (G:=mL q (l.take m)) (l:=l) (x:=l[m]) (by omega)
   have hc:=hF l[m] (aO hlt);have hal:=yY2 (G:=mL q (l.take m)) (l:=l) (by omega)
   generalize l[m]=x at *;generalize l[(mL q (l.take m)).length]=y at *;generalize hG:mL q (l.take m)=G at *;generalize hA:ints (G++l.drop G.length)=A at *;cases e:q x
   ·rw [e] at hc hs;rw [if_neg (by simp)] at hs
    (repeat' (first|refine wS ?_|refine wB ?_|refine wK ?_|refine wT ?_|(refine wC rfl ?_ ?_<;>(intro hb;(try simp only [nm] at hb);try omega))|(refine rg 5 (dJ rfl (qW T rfl (vV (aK rfl rfl) ?_))))|(refine rg 7 (dJ rfl (vV (by exact aT T rfl rfl rfl rfl rfl (by omega) (by omega)) ?_));refine vV (by exact bA T rfl rfl (bX rfl hget) rfl) ?_;refine aV ?_)|(refine rg 8 (dJ rfl (vV (by exact gD rfl rfl hc rfl (by simp [AV.idfL,AV.idf,hi]) rfl) ?_));refine vV (dS rfl) ?_)|(refine rg 9 (dJ rfl (mW rfl (vV (by exact aT T rfl rfl rfl rfl rfl (by omega) (by omega)) ?_)));refine bC T rfl rfl rfl rfl rfl rfl (by decide) (nJ rfl hg2 rfl) ?_)|(refine iA 10 rfl rfl rfl (by omega) (by omega) ?_)|(refine iA 6 rfl rfl rfl (by omega) (by omega) ?_)|refine nZ ?_));all_goals try omega
    all_goals exact ⟨⟨m+1,hlt⟩,by dsimp only;omega,[0],rfl,⟨rfl,by rw [lO hi];rfl,by rw [hs];simp only [aD];rfl,rfl,trivial⟩,⟨.inr (aC rfl (by rw [hs];exact hset) (bF _)),trivial⟩,by decide,lX⟩
   ·rw [e] at hc hs;rw [if_pos rfl] at hs
    (repeat' (first|refine wS ?_|refine wB ?_|refine wK ?_|refine wU ?_|(refine wC rfl ?_ ?_<;>(intro hb;(try simp only [nm] at hb);try omega))|(refine rg 5 (dJ rfl (qW T rfl (vV (aK rfl rfl) ?_))))|(refine rg 7 (dJ rfl (vV (by exact aT T rfl rfl rfl rfl rfl (by omega) (by omega)) ?_));refine vV (by exact bA T rfl rfl (bX rfl hget) rfl) ?_;refine aV ?_)|(refine rg 8 (dJ rfl (vV (by exact gD rfl rfl hc rfl (by simp [AV.idfL,AV.idf,hi]) rfl) ?_));refine vV (dS rfl) ?_)|(refine iA 6 rfl rfl rfl (by omega) (by omega) ?_)|refine nZ ?_));all_goals try omega
    all_goals exact ⟨⟨m+1,hlt⟩,by dsimp only;omega,[0],rfl,⟨rfl,by rw [lO hi];rfl,by rw [hs];rfl,rfl,trivial⟩,⟨.inr (aC rfl (by rw [hs];exact hA.symm) (bF _)),trivial⟩,by decide,lX⟩
  ·obtain rfl:m=l.length:=by omega
   have hal:=yY2 (G:=mL q (l.take l.length)) (l:=l) (by omega)
   have htk:=yV8 (G:=mL q (l.take l.length)) (l:=l);generalize mL q (l.take l.length)=G at *
   (repeat' (first|refine wS ?_|refine wR ?_|refine wE ?_|(refine wC rfl ?_ ?_<;>(intro hb;(try simp only [nm] at hb);try omega))|(refine rg 5 (dJ rfl (qW T rfl (vV (aK rfl rfl) ?_))))|(refine rg 11 (dJ rfl (vV (by exact kB T rfl rfl rfl rfl rfl rfl (by omega) (by omega) (by omega)) ?_));refine NA T rfl rfl rfl rfl rfl (by rw [hal];omega) ?_)|(refine rg 12 (dJ rfl (vV (by exact kB T rfl rfl rfl rfl rfl rfl (by omega) (by omega) (by omega)) ?_));refine aV ?_)|refine nZ ?_));all_goals try omega
   all_goals exact ⟨.inl rfl,[0],_,rfl,(by show AV.sl 0 0 ((G.length:Int)-0).toNat 1=AV.sl 0 0 G.length 1;rw [show ((G.length:Int)-0).toNat=G.length by omega]),rfl,⟨.inr (aC rfl htk (bF _)),trivial⟩,by decide,lX⟩
end Go.Proofs.Q
namespace Go.Ld
open Go.Ab Go.Proofs.Q
theorem yM6 {l u n:Int}(hu:0<u):(l+u-1) / u≤n↔l≤n*u:=by
 have h:(l+u-1) / u<n+1↔l+u-1<(n+1)*u:=Int.ediv_lt_iff_lt_mul hu;rw [Int.add_mul] at h;omega
theorem yM5 {l u n:Int}(hu:0<u):n<l / u+1↔n*u≤l:=by
 have h:n≤l / u↔n*u≤l:=Int.le_ediv_iff_mul_le hu;omega
theorem oQ {f t n:Int}:yU f t n=true↔f≤n∧n<t:=by unfold yU;simp
theorem FF {f t v:Int}(h0:0≤v) (h1:v≤20000):((T3 f t).2=true∧yU (T3 f t).1.1 (T3 f t).1.2 v=true)↔f≤v∧v<t:=by
 unfold T3;dsimp only;rw [oQ];rcases FE f t with ⟨a,b,d,e⟩ | ⟨a,b,d,e⟩
 ·rw [a,b,d];constructor
  ·rintro ⟨_,_⟩;omega
  ·intro _;exact ⟨rfl,by omega⟩
 ·rw [a];constructor
  ·rintro ⟨h,_⟩;cases h
  ·intro _;omega
theorem zV9 {t u w e v:Int}(hf:0≤t∧t≤1099511627776∧0≤u∧u≤1099511627776∧0≤w∧w≤1099511627776∧0≤e∧e≤1099511627776) (h0:0≤v) (h1:v≤20000) :
  ((zD3 t u w e).2=true∧yU (zD3 t u w e).1.1 (zD3 t u w e).1.2 v=true)↔w-e≤t+v*u∧t+v*u≤w+e:=by
 have b1:0≤v*u:=Int.mul_nonneg h0 hf.2.2.1;unfold zD3;rw [if_pos (show IY t u w e=true by unfold IY;rw [decide_eq_true_eq];exact hf)]
 by_cases c1:w+e-t<0∨u=0∧0<w-e-t
 ·rw [if_pos c1];constructor
  ·rintro ⟨h,_⟩;cases h
  ·rintro ⟨a,b⟩;rcases c1 with c1 | ⟨rfl,c1⟩ <;> omega
 ·rw [if_neg c1];by_cases c2:u=0
  ·rw [if_pos c2];dsimp only;rw [oQ];subst c2;constructor
   ·rintro ⟨_,_⟩;omega
   ·rintro _;exact ⟨rfl,by omega⟩
  ·rw [if_neg c2,FF h0 h1];have hu:0<u:=by omega
   have g1:yV2 t u w e≤v↔max (w-e-t) 0≤v*u:=yM6 hu;have g2:v<yV1 t u w e↔v*u≤w+e-t:=yM5 hu;omega
theorem XG {t u w e v:Int}{r:SP}(hf:0≤t∧t≤1099511627776∧0≤u∧u≤1099511627776∧0≤w∧w≤1099511627776∧0≤e∧e≤1099511627776) (h0:0≤v) (h1:v≤20000) :
  ((xH t u w e r).2=true∧yU (xH t u w e r).1.1 (xH t u w e r).1.2 v=true)↔yU r.1 r.2 v=true∧w-e≤t+v*u∧t+v*u≤w+e:=by
 have hw:=zV9 hf h0 h1;unfold xH;generalize zD3 t u w e=q at *;dsimp only;by_cases hq:q.2=true
 ·rw [if_pos hq,FF h0 h1,← hw,oQ,oQ];constructor
  ·intro h;exact ⟨by omega,hq,by omega⟩
  ·rintro ⟨a,_,b⟩;omega
 ·rw [if_neg hq,← hw];constructor
  ·rintro ⟨a,_⟩;exact absurd a hq
  ·rintro ⟨_,a,_⟩;exact absurd a hq
theorem WU {c:Cx}{s:Ev}{x:Int × SP}{v:Int}(hb:0≤(c.bs.getD x.1.toNat (0,0,0)).2.2∧(c.bs.getD x.1.toNat (0,0,0)).2.2≤1073741824)
  (hu:0≤sI c.ks c.ls (c.bs.getD x.1.toNat (0,0,0)).1∧sI c.ks c.ls (c.bs.getD x.1.toNat (0,0,0)).1≤1048576) (hs:oY c.m c.st c.er c.sl) (hn:s.k=1→0≤s.n∧s.n≤1099511627776) (h0:0≤v) (h1:v≤20000) (h2:s.k≠2) :
  ((zF c s x).2.2=true∧yU (zF c s x).1.2.1 (zF c s x).1.2.2 v=true)↔yU x.2.1 x.2.2 v=true∧zB5 c.st c.er c.sl x.1 v ((c.bs.getD x.1.toNat (0,0,0)).2.2+v*sI c.ks c.ls (c.bs.getD x.1.toNat (0,0,0)).1) s.k s.n s.ids=true:=by
 unfold oY at hs;unfold zF zB5;by_cases k0:s.k=0
 ·rw [if_pos k0,if_pos k0];by_cases hm:x.1∈s.ids
  ·rw [if_pos hm,if_pos hm];dsimp only;exact And.comm
  ·rw [if_neg hm,if_neg hm];dsimp only;rw [O5];exact And.comm
 rw [if_neg k0,if_neg k0];by_cases k1:s.k=1
 ·rw [if_pos k1,if_pos k1];dsimp only;have hn:=hn k1;rw [XG (by omega) h0 h1]
  unfold jK;simp
 rw [if_neg k1,if_neg k1,if_neg h2,if_neg h2];by_cases k3:s.k=3
 ·rw [if_pos k3,if_pos k3];dsimp only;rw [oQ,oQ,oQ,decide_eq_true_eq];omega
 rw [if_neg k3,if_neg k3];by_cases k5:s.k=5
 ·rw [if_pos k5,if_pos k5];dsimp only;rw [decide_eq_true_eq,decide_eq_true_eq];constructor
  ·rintro ⟨a,b⟩;exact ⟨b,a.symm⟩
  ·rintro ⟨a,b⟩;exact ⟨b.symm,a⟩
 ·rw [if_neg k5,if_neg k5];exact And.comm
theorem QT {c:Cx}{s:Ev}{x:Int × SP}{v:Int}(hx:0≤x.2.1∧x.2.1<x.2.2∧x.2.2≤20001) (hs:oY c.m c.st c.er c.sl) (hn:0≤s.n∧s.n≤1099511627776) (h0:0≤v) (h1:v≤20000) (h2:s.k=2) :
  ((zF c s x).2.2=true∧yU (zF c s x).1.2.1 (zF c s x).1.2.2 v=true)↔∃ u d:Int,yU x.2.1 x.2.2 u=true∧s.n-c.sl≤u∧0≤d∧d≤u∧s.n-c.sl≤d∧d≤s.n+c.sl∧v=u-d:=by
 unfold oY at hs;unfold zF;rw [if_neg (by omega),if_neg (by omega),if_pos h2]
 dsimp only;unfold E5;rw [if_pos (by omega),FF h0 h1]
 simp only [oQ];constructor
 ·intro h;by_cases hc:v+max (s.n-c.sl) 0≤x.2.1
  ·exact ⟨x.2.1,x.2.1-v,by omega,by omega,by omega,by omega,by omega,by omega,by omega⟩
  ·exact ⟨v+max (s.n-c.sl) 0,max (s.n-c.sl) 0,by omega,by omega,by omega,by omega,by omega,by omega,by omega⟩
 ·rintro ⟨u,d,a1,a2,a3,a4,a5,a6,rfl⟩;omega
theorem QU {c:Cx}{s:Ev}{x:Int × SP}(h:(zF c s x).2.2=true):(zF c s x).2.1=yM0 c.st x.1 s.k s.ids:=by
 unfold zF yM0 at *;by_cases k0:s.k=0
 ·rw [if_pos k0] at h ⊢;rw [if_pos k0];by_cases hm:x.1∈s.ids
  ·rw [if_pos hm] at h ⊢;simp only [if_pos hm];simp only [decide_eq_true_eq] at h;rw [if_neg (by omega)]
  ·rw [if_neg hm] at h ⊢;simp only [if_neg hm];simp only [decide_eq_true_eq] at h;rw [if_neg (by omega)]
 ·rw [if_neg k0,if_neg k0]
  repeat' split
  all_goals rfl
def xQ (p:List Int) (s:Ev) (done:Int):List Int:=if s.k=4∧done=1 then (p.set s.a.toNat (p.getD s.b.toNat 0)).set s.b.toNat (p.getD s.a.toNat 0) else p
def wJ (p q:List Int) (s:Ev) (done:Int):List Int:=if s.k=2 then q.set (p.getD s.a.toNat 0).toNat (q.getD (p.getD s.a.toNat 0).toNat 0-done) else q
def zT9 (c:Cx) (p q:List Int) (s:Ev):Bool:=
 zB5 c.st c.er c.sl (p.getD s.a.toNat 0) (q.getD (p.getD s.a.toNat 0).toNat 0) ((c.bs.getD (p.getD s.a.toNat 0).toNat (0,0,0)).2.2+q.getD (p.getD s.a.toNat 0).toNat 0*sI c.ks c.ls (c.bs.getD (p.getD s.a.toNat 0).toNat (0,0,0)).1) s.k s.n s.ids
def G1 (c:Cx) (p q:List Int) (s:Ev) (done:Int):Bool:=zB1 c.sl (q.getD (p.getD s.a.toNat 0).toNat 0) s.k s.n done
def tQ (c:Cx) (p:List Int) (s:Ev):Int:=yM0 c.st (p.getD s.a.toNat 0) s.k s.ids
def zB (c:Cx) (p q:List Int) (f:As):Prop:=∀ b:Int,0≤b→b<c.bs.length→XD p q (f b) b
structure PQ (c:Cx) (p q:List Int):Prop where
 pl:p.length=c.bs.length
 ql:q.length=c.bs.length
 pp:p.Perm (nats (List.range c.bs.length))
 q0:∀ x,x∈q→0≤x∧x≤20000
theorem OO {p:List Int}{n:Nat}(hl:p.length=n):Go.Pm.permB p=true↔p.Perm (nats (List.range n)):=by
 unfold Go.Pm.permB;rw [decide_eq_true_eq,hl];constructor
 ·intro h;rw [← h];exact (Go.Pm.sorted_perm p).symm
 ·intro h;refine List.Perm.eq_of_pairwise (le:=fun a b=>a≤b) (fun a b _ _ h1 h2=>Int.le_antisymm h1 h2) ?_ ?_ ((Go.Pm.sorted_perm p).trans h)
  ·have:=List.pairwise_mergeSort (le:=fun x y:Int=>decide (x≤y)) (fun a b d h1 h2=>decide_eq_true (GQ (of_decide_eq_true h1) (of_decide_eq_true h2))) (fun a b=>by rw [K8,decide_eq_true_eq,decide_eq_true_eq];omega) p
   exact this.imp (fun h=>of_decide_eq_true h)
  ·exact (GP (n:=n)).imp (fun h=>h) |>.map _ (fun a b h=>by omega)
theorem PQ.at {c:Cx}{p q:List Int}(h:PQ c p q){b:Int}(h0:0≤b) (h1:b<c.bs.length):0≤p.getD b.toNat 0∧p.getD b.toNat 0<c.bs.length:=by
 have hl:=h.pl;have hm:p.getD b.toNat 0∈p:=by rw [aE,aB (by omega)];exact aO _
 exact yI.1 (h.pp.mem_iff.1 hm)
theorem PQ.inj {c:Cx}{p q:List Int}(h:PQ c p q){a b:Int}(h0:0≤a) (h1:a<c.bs.length) (h2:0≤b) (h3:b<c.bs.length) (e:p.getD a.toNat 0=p.getD b.toNat 0):a=b:=by
 have hl:=h.pl;have nd:p.Nodup:=h.pp.nodup_iff.2 (I2 _);rw [aE,aB (by omega),aE,aB (by omega)] at e
 have:=(yJ2 nd).1 e;omega
theorem PQ.ct {c:Cx}{p q:List Int}(h:PQ c p q){x:Int}(h0:0≤x) (h1:x<c.bs.length):0≤q.getD x.toNat 0∧q.getD x.toNat 0≤20000:=by
 have hl:=h.ql;refine h.q0 _ ?_;rw [aE,aB (by omega)];exact aO _
theorem G0 {c:Cx}{p q:List Int}{s:Ev}{done:Int}(hk:s.k=2) (h:G1 c p q s done=true):0≤done∧done≤q.getD (p.getD s.a.toNat 0).toNat 0∧s.n-c.sl≤done∧done≤s.n+c.sl:=by
 unfold G1 zB1 jK at h;rw [if_pos hk] at h;simp only [aN,decide_eq_true_eq] at h;omega
theorem U6 {p:List Int}{s:Ev}{done:Int}:(xQ p s done).length=p.length:=by unfold xQ;split <;> simp
theorem zU0 {p q:List Int}{s:Ev}{done:Int}:(wJ p q s done).length=q.length:=by unfold wJ;split <;> simp
theorem HD {l:List Int}{i j:Nat}(hi:i<l.length) (hj:j<l.length) (hne:i≠j):((l.set i (l.getD j 0)).set j (l.getD i 0)).Perm l:=by
 have h:((l.set i (l.getD j 0)).set j (l.getD i 0)).Perm l:=List.perm_iff_count.2 fun x=>by
  have e1:l.getD i 0=l[i]:=by simp [List.getD,hi]
  have e2:l.getD j 0=l[j]:=by simp [List.getD,hj]
  rw [e1,e2,List.count_set (by simpa using hj),List.count_set hi,List.getElem_set_ne hne]
  have c1:l[i]∈l:=aO _;have c2:l[j]∈l:=aO _;have p1:=List.count_pos_iff.2 c1;have p2:=List.count_pos_iff.2 c2;by_cases a1:l[i]=x
  ·by_cases a2:l[j]=x
   ·rw [a1] at p1;simp [a1,a2];omega
   ·rw [a1] at p1;simp [a1,a2];omega
  ·by_cases a2:l[j]=x
   ·simp [a1,a2]
   ·simp [a1,a2]
 exact h
theorem PQ.aft {c:Cx}{p q:List Int}{s:Ev}{done:Int}(h:PQ c p q) (ha:0≤s.a∧s.a<c.bs.length) (hb:s.k=4→s.a<s.b∧s.b<c.bs.length) (hc:G1 c p q s done=true):PQ c (xQ p s done) (wJ p q s done) where
 pl:=by rw [U6];exact h.pl
 ql:=by rw [zU0];exact h.ql
 pp:=by
  refine List.Perm.trans ?_ h.pp;have hl:=h.pl;unfold xQ;split
  ·rename_i hk;have:=hb hk.1;exact HD (by omega) (by omega) (by omega)
  ·exact .refl _
 q0:=fun x hx=>by
  unfold wJ at hx;split at hx
  ·rename_i hk;rcases gB hx with hx | rfl
   ·exact h.q0 x hx
   ·have:=G0 hk hc;obtain ⟨i0,i1⟩:=h.at ha.1 ha.2;have:=h.ct i0 i1;omega
  ·exact h.q0 x hx
theorem F3 {l:List Int}{i j:Nat}{x:Int}(hj:i<l.length):(l.set i x).getD j 0=if j=i then x else l.getD j 0:=fU hj
theorem iZ.box {c:Cx}(h:iZ c){x:Int}(h0:0≤x) (h1:x<c.bs.length):(0≤(c.bs.getD x.toNat (0,0,0)).2.2∧(c.bs.getD x.toNat (0,0,0)).2.2≤1073741824)∧(0≤sI c.ks c.ls (c.bs.getD x.toNat (0,0,0)).1∧sI c.ks c.ls (c.bs.getD x.toNat (0,0,0)).1≤1048576):=by
 have hx:x.toNat<c.bs.length:=by omega
 have hb:=h.f.b _ hx;have e:c.bs.getD x.toNat (0,0,0)=c.bs[x.toNat]:=by rw [aE,aB hx];rfl
 rw [e];exact ⟨by omega,zW3 h.f hb.2.1⟩
theorem HL {c:Cx}{p q:List Int}{f:As}{s:Ev}{done:Int}(hc:iZ c) (h:PQ c p q) (hf:zB c p q f) (hS:∀ b:Int,0≤b→b<c.bs.length→SB (f b).2)
  (ha:0≤s.a∧s.a<c.bs.length) (hb:s.k=4→s.a<s.b∧s.b<c.bs.length) (hn:s.k=1∨s.k=2→0≤s.n∧s.n≤1099511627776) (hag:zT9 c p q s=true) (hcan:G1 c p q s done=true) :
  ∃ f',K3 c s f f' (tQ c p s)∧zB c (xQ p s done) (wJ p q s done) f':=by
 have hpl:=h.pl;have hql:=h.ql;by_cases hsw:s.k=4∧done=1
 ·refine ⟨MS f s.a s.b,.inr ⟨hsw.1,rfl,by unfold tQ yM0;rw [if_neg (by omega)]⟩,fun b b0 b1=>?_⟩
  have hb:=hb hsw.1;have eq:wJ p q s done=q:=by unfold wJ;rw [if_neg (by omega)]
  rw [eq];have ep:(xQ p s done).getD b.toNat 0=if b=s.a then p.getD s.b.toNat 0 else if b=s.b then p.getD s.a.toNat 0 else p.getD b.toNat 0:=by
   unfold xQ;rw [if_pos hsw,F3 (by simp;omega),F3 (by omega)]
   by_cases e1:b=s.a
   ·rw [if_pos e1,if_neg (by omega),if_pos (by omega)]
   ·rw [if_neg e1];by_cases e2:b=s.b
    ·rw [if_pos e2,if_pos (by omega)]
    ·rw [if_neg e2,if_neg (by omega),if_neg (by omega)]
  have h1:=hf s.a ha.1 ha.2;have h2:=hf s.b (by omega) hb.2
  have h3:=hf b b0 b1;unfold XD MS at *;rw [ep];by_cases e1:b=s.a
  ·rw [if_pos e1,if_pos e1];exact h2
  ·rw [if_neg e1,if_neg e1];by_cases e2:b=s.b
   ·rw [if_pos e2,if_pos e2];exact h1
   ·rw [if_neg e2,if_neg e2];exact h3
 ·have ep:xQ p s done=p:=by unfold xQ;rw [if_neg hsw]
  rw [ep];obtain ⟨i0,i1⟩:=h.at ha.1 ha.2;obtain ⟨q0,q1⟩:=h.ct i0 i1;obtain ⟨o1,o2⟩:=hf s.a ha.1 ha.2;obtain ⟨hbx,hu⟩:=hc.box i0 i1;have hsa:=hS s.a ha.1 ha.2;have key:(zF c s (f s.a)).2.2=true∧yU (zF c s (f s.a)).1.2.1 (zF c s (f s.a)).1.2.2 ((wJ p q s done).getD (p.getD s.a.toNat 0).toNat 0)=true:=by
   by_cases k2:s.k=2
   ·have hr:=G0 k2 hcan;have e:(wJ p q s done).getD (p.getD s.a.toNat 0).toNat 0=q.getD (p.getD s.a.toNat 0).toNat 0-done:=by
     unfold wJ;rw [if_pos k2,F3 (by omega),if_pos rfl]
    rw [e];refine (QT ⟨hsa.1,hsa.2.1,hsa.2.2⟩ hc.s (hn (.inr k2)) (by omega) (by omega) k2).2 ⟨_,done,o2,?_,by omega,by omega,by omega,by omega,rfl⟩
    unfold zT9 zB5 at hag;rw [if_neg (by omega),if_neg (by omega),if_pos k2,decide_eq_true_eq] at hag
    exact hag
   ·have e:wJ p q s done=q:=by unfold wJ;rw [if_neg k2]
    rw [e];have o1':(f s.a).1=p.getD s.a.toNat 0:=o1;refine (WU (by rw [o1'];exact hbx) (by rw [o1'];exact hu) hc.s (fun k=>hn (.inl k)) q0 q1 k2).2 ⟨o2,?_⟩
    rw [o1'];exact hag
  refine ⟨upd f s.a (zF c s (f s.a)).1,.inl ⟨key.1,rfl,?_⟩,fun b b0 b1=>?_⟩
  ·rw [QU key.1,show (f s.a).1=p.getD s.a.toNat 0 from o1];rfl
  ·have h3:=hf b b0 b1;unfold XD upd at *;by_cases e1:b=s.a
   ·rw [if_pos e1,LV,e1];exact ⟨o1,key.2⟩
   ·rw [if_neg e1];refine ⟨h3.1,?_⟩;have hne:(p.getD b.toNat 0).toNat≠(p.getD s.a.toNat 0).toNat:=fun e=>by
     obtain ⟨j0,j1⟩:=h.at b0 b1;exact e1 (h.inj b0 b1 ha.1 ha.2 (by omega))
    have e:(wJ p q s done).getD (p.getD b.toNat 0).toNat 0=q.getD (p.getD b.toNat 0).toNat 0:=by
     unfold wJ;split
     ·rw [F3 (by omega),if_neg hne]
     ·rfl
    rw [e];exact h3.2
theorem YB {c:Cx}{p' q':List Int}{f f':As}{s:Ev}{d:Int}(hc:iZ c) (h:PQ c p' q') (hst:K3 c s f f' d) (hf:zB c p' q' f') (hS:∀ b:Int,0≤b→b<c.bs.length→SB (f b).2)
  (ha:0≤s.a∧s.a<c.bs.length) (hb:s.k=4→s.a<s.b∧s.b<c.bs.length) (hn:s.k=1∨s.k=2→0≤s.n∧s.n≤1099511627776) :
  ∃ p q done,PQ c p q∧zB c p q f∧zT9 c p q s=true∧G1 c p q s done=true∧d=tQ c p s∧p'=xQ p s done∧q'=wJ p q s done:=by
 have hpl:=h.pl;have hql:=h.ql;rcases hst with ⟨hok,rfl,rfl⟩ | ⟨hk,rfl,rfl⟩
 ·obtain ⟨i0,i1⟩:=h.at ha.1 ha.2;obtain ⟨q0,q1⟩:=h.ct i0 i1;obtain ⟨hbx,hu⟩:=hc.box i0 i1;obtain ⟨o1,o2⟩:=hf s.a ha.1 ha.2;have hsa:=hS s.a ha.1 ha.2;unfold upd at o1 o2;rw [if_pos rfl] at o1 o2;rw [LV] at o1;have hm:(zF c s (f s.a)).2.1=tQ c p' s:=by rw [QU hok,o1];rfl
  by_cases k2:s.k=2
  ·obtain ⟨u,dn,a1,a2,a3,a4,a5,a6,a7⟩:=(QT ⟨hsa.1,hsa.2.1,hsa.2.2⟩ hc.s (hn (.inr k2)) q0 q1 k2).1 ⟨hok,o2⟩;have hu2:=oQ.1 a1;have hgx:(q'.set (p'.getD s.a.toNat 0).toNat u).getD (p'.getD s.a.toNat 0).toNat 0=u:=by rw [F3 (by omega),if_pos rfl]
   refine ⟨p',q'.set (p'.getD s.a.toNat 0).toNat u,dn,⟨hpl,by simpa using hql,h.pp,fun x hx=>?_⟩,fun b b0 b1=>?_,?_,?_,hm,?_,?_⟩
   ·rcases gB hx with hx | rfl
    ·exact h.q0 x hx
    ·have:=hsa.2.2;have:=hsa.1;omega
   ·have h3:=hf b b0 b1;unfold XD upd at *;by_cases e1:b=s.a
    ·subst e1;rw [hgx];exact ⟨o1,a1⟩
    ·rw [if_neg e1] at h3;refine ⟨h3.1,?_⟩;rw [F3 (by omega),if_neg]
     ·exact h3.2
     ·intro e;obtain ⟨j0,j1⟩:=h.at b0 b1;exact e1 (h.inj b0 b1 ha.1 ha.2 (by omega))
   ·unfold zT9 zB5;rw [if_neg (by omega),if_neg (by omega),if_pos k2,hgx,decide_eq_true_eq];exact a2
   ·unfold G1 zB1 jK;rw [if_pos k2,hgx];simp only [aN,decide_eq_true_eq];omega
   ·unfold xQ;rw [if_neg (by omega)]
   ·unfold wJ;rw [if_pos k2,hgx,List.set_set,← a7];exact (NR _ (by omega)).symm
  ·have hx:=(WU (c:=c) (s:=s) (x:=f s.a) (by rw [o1];exact hbx) (by rw [o1];exact hu) hc.s (fun k=>hn (.inl k)) q0 q1 k2).1 ⟨hok,o2⟩
   refine ⟨p',q',0,h,fun b b0 b1=>?_,?_,?_,hm,?_,?_⟩
   ·have h3:=hf b b0 b1;unfold XD upd at *;by_cases e1:b=s.a
    ·subst e1;exact ⟨o1,hx.1⟩
    ·rw [if_neg e1] at h3;exact h3
   ·have:=hx.2;rw [o1] at this;exact this
   ·unfold G1 zB1;rw [if_neg k2];split <;> rfl
   ·unfold xQ;rw [if_neg (by omega)]
   ·unfold wJ;rw [if_neg k2]
 ·have hb:=hb hk;have hag:∀ p q,zT9 c p q s=true:=fun p q=>by unfold zT9 zB5;rw [if_neg (by omega),if_neg (by omega),if_neg (by omega),if_neg (by omega),if_neg (by omega)]
  have hp1:((p'.set s.a.toNat (p'.getD s.b.toNat 0)).set s.b.toNat (p'.getD s.a.toNat 0)).Perm p':=HD (by omega) (by omega) (by omega)
  have g:∀ b:Int,0≤b→b<c.bs.length→((p'.set s.a.toNat (p'.getD s.b.toNat 0)).set s.b.toNat (p'.getD s.a.toNat 0)).getD b.toNat 0=if b=s.a then p'.getD s.b.toNat 0 else if b=s.b then p'.getD s.a.toNat 0 else p'.getD b.toNat 0:=fun b b0 b1=>by
   rw [F3 (by simp;omega),F3 (by omega)]
   by_cases e1:b=s.a
   ·rw [if_pos e1,if_neg (by omega),if_pos (by omega)]
   ·rw [if_neg e1];by_cases e2:b=s.b
    ·rw [if_pos e2,if_pos (by omega)]
    ·rw [if_neg e2,if_neg (by omega),if_neg (by omega)]
  refine ⟨(p'.set s.a.toNat (p'.getD s.b.toNat 0)).set s.b.toNat (p'.getD s.a.toNat 0),q',1,⟨by simpa using hpl,hql,hp1.trans h.pp,h.q0⟩,fun b b0 b1=>?_,hag _ _,?_,?_,?_,?_⟩
  ·have h1:=hf s.a ha.1 ha.2;have h2:=hf s.b (by omega) hb.2
   have h3:=hf b b0 b1;unfold XD MS at *;rw [g b b0 b1];rw [if_pos rfl] at h1;rw [if_neg (by omega),if_pos rfl] at h2
   by_cases e1:b=s.a
   ·subst e1;rw [if_pos rfl];exact h2
   ·rw [if_neg e1] at h3 ⊢;by_cases e2:b=s.b
    ·subst e2;rw [if_pos rfl];exact h1
    ·rw [if_neg e2] at h3 ⊢;exact h3
  ·unfold G1 zB1;rw [if_neg (by omega),if_pos hk];rfl
  ·unfold tQ yM0;rw [if_neg (by omega)]
  ·unfold xQ;rw [if_pos ⟨hk,rfl⟩,g s.a ha.1 ha.2,g s.b (by omega) hb.2,if_pos rfl,if_neg (by omega),if_pos rfl]
   refine lP (by simp) fun i h1 h2=>?_
   simp only [List.getElem_set];have ea:p'.getD s.a.toNat 0=p'[s.a.toNat]'(by omega):=by simp [List.getD,show s.a.toNat<p'.length by omega]
   have eb:p'.getD s.b.toNat 0=p'[s.b.toNat]'(by omega):=by simp [List.getD,show s.b.toNat<p'.length by omega]
   split
   ·rename_i h;subst h;exact eb.symm▸rfl
   ·split
    ·rename_i h;subst h;exact ea.symm▸rfl
    ·rfl
  ·unfold wJ;rw [if_neg (by omega)]
theorem PY {bs:List Int}{w:W}{f:As}(h:pM bs w f){b:Int}(hb:b∈bs):gP w (bs.idxOf b)=(f b).1∧gC w (bs.idxOf b)=(f b).2:=by
 obtain ⟨hx,e⟩:=zU hb;have e1:=ET h hx;have e2:=EU h hx;rw [e] at e1 e2;exact ⟨e1,e2⟩
theorem KE {c:Cx}{M0:Int}{gs:List G}(h:pA c M0 gs){f:As}{M:Int}(hs:Sem gs f M){b:Int}(h0:0≤b) (h1:b<c.bs.length):SB (f b).2∧0≤(f b).1∧(f b).1<c.bs.length:=by
 obtain ⟨g,hg,hb⟩:=h.find ⟨h0,h1⟩;obtain ⟨w,hw,hf⟩:=xY hs hg;obtain ⟨e1,e2⟩:=PY hf hb;have hi:=iE hb;obtain ⟨a,d,e⟩:=((h.out.ok g hg).ws w hw).at hi;rw [e1] at a d;rw [e2] at e;exact ⟨e,a,d⟩
theorem VR {c:Cx}{f:As}{M:Int}:∀ {l:List Nat},Sem (l.map (BN c)) f M↔0≤M∧∀ i,i∈l→f (i:Int)=((i:Int),((c.bs.getD i (0,0,0)).2.1,(c.bs.getD i (0,0,0)).2.1+1))
 | []=>by simp [Sem]
 | i::l=>by
  have ih:=fun M=>VR (c:=c) (f:=f) (M:=M) (l:=l);simp only [List.map_cons,Sem,ih];constructor
  ·rintro ⟨m,⟨w,hw,hf,hm⟩,h0,h1⟩;obtain rfl:=bE.1 hw;obtain ⟨f1,f2⟩:=hf;have f1:[(i:Int)]=[(f i).1]:=f1;have f2:[((c.bs.getD i (0,0,0)).2.1,(c.bs.getD i (0,0,0)).2.1+1)]=[(f i).2]:=f2;have hm:(0:Int)≤m:=hm;refine ⟨by omega,fun k hk=>?_⟩
   rcases bQ.1 hk with rfl | hk
   ·exact Prod.ext (List.cons.inj f1).1.symm (List.cons.inj f2).1.symm
   ·exact h1 k hk
  ·rintro ⟨h0,h1⟩;have hi:=h1 i aR;refine ⟨0,⟨_,bE.2 rfl,⟨?_,?_⟩,eW _⟩,by omega,fun k hk=>h1 k (aH _ hk)⟩
   ·show [(i:Int)]=[(f i).1];rw [hi]
   ·show [_]=[(f i).2];rw [hi]
theorem yB1 {c:Cx}{f:As}{M:Int}:Sem (rU c) f M↔0≤M∧∀ b:Int,0≤b→b<c.bs.length→f b=(b,((c.bs.getD b.toNat (0,0,0)).2.1,(c.bs.getD b.toNat (0,0,0)).2.1+1)):=by
 rw [zP,VR];constructor
 ·rintro ⟨h0,h⟩;refine ⟨h0,fun b b0 b1=>?_⟩
  have:=h b.toNat (fG.2 (by omega))
  rwa [show ((b.toNat:Nat):Int)=b by omega] at this
 ·rintro ⟨h0,h⟩;refine ⟨h0,fun i hi=>?_⟩
  have:=h i (by omega) (by have:=fG.1 hi;omega)
  rwa [bI] at this
theorem zP4 {n:Nat}:∀ {gs:List G},(gs.flatMap (·.1)).Nodup→(∀ g,g∈gs→H2 n g)→(∀ g,g∈gs→g.2≠[])→∃ f,Sem gs f (kL gs)
 | [],_,_,_=>⟨fun _=>(0,(0,0)),by simp [Sem,kL]⟩
 | g::gs,nd,ok,ne=>by
  obtain ⟨f0,h0⟩:=zP4 (gs:=gs) (by rw [bP] at nd;exact (dB.1 nd).2.1) (fun x hx=>ok x (aH _ hx)) (fun x hx=>ne x (aH _ hx))
  obtain ⟨w,hw,hm⟩:=vA (ne g aR);have og:=ok g aR;refine ⟨fun b=>if b∈g.1 then JJ g w b else f0 b,gW g,?_,?_⟩
  ·refine (X8 (f:=JJ g w) (fun b hb=>(if_pos hb).symm)).1 ⟨w,hw,T9 og (og.ws w hw),by omega⟩
  ·refine (uX (f:=f0) (fun x hx b hb=>?_)).1 (h0.mono (by simp [kL];omega))
   rw [bP] at nd;rw [if_neg (fun q=>(dB.1 nd).2.2 b q b (qA hx hb) rfl)]
theorem yG3 {n:Nat}{gs:List G}(nd:(gs.flatMap (·.1)).Nodup) (ok:∀ g,g∈gs→H2 n g) (ne:∀ g,g∈gs→g.2≠[]){g:G}(hg:g∈gs){w:W}(hw:w∈g.2):∃ f,pM g.1 w f∧Sem gs f (w.2.1+(kL gs-gW g)):=by
 obtain ⟨A,B,rfl⟩:=zC2 hg;have hp:(A++g::B).Perm (g::(A++B)):=iX;have nd':((g::(A++B)).flatMap (·.1)).Nodup:=(hp.flatMap_right _).nodup_iff.1 nd;have hs:kL (A++g::B)=gW g+kL (A++B):=by simp [kL];omega
 rw [bP] at nd';obtain ⟨f0,h0⟩:=zP4 (gs:=A++B) (dB.1 nd').2.1 (fun x hx=>ok x (hp.mem_iff.2 (aH _ hx))) (fun x hx=>ne x (hp.mem_iff.2 (aH _ hx)));have og:=ok g hg;have hF:=T9 og (og.ws w hw);have hc:∀ b,b∈g.1→JJ g w b=(fun b=>if b∈g.1 then JJ g w b else f0 b) b:=fun b hb=>(if_pos hb).symm
 refine ⟨fun b=>if b∈g.1 then JJ g w b else f0 b,?_,(pU hp).2 ⟨w.2.1,?_,?_⟩⟩
 ·unfold pM at hF ⊢;rw [← kA (f:=fun b=>(JJ g w b).1) (fun b hb=>by rw [hc b hb]),← kA (f:=fun b=>(JJ g w b).2) (fun b hb=>by rw [hc b hb])]
  exact hF
 ·exact (X8 hc).1 ⟨w,hw,hF,eW _⟩
 ·refine (uX (f:=f0) (fun x hx b hb=>?_)).1 (h0.mono (by omega))
  rw [if_neg (fun q=>(dB.1 nd').2.2 b q b (qA hx hb) rfl)]
theorem L7 {α β:Type}(f g:α→List β):∀ l:List α,(∀ x,x∈l→(f x).Perm (g x))→(l.flatMap f).Perm (l.flatMap g)
 | [],_=>.refl _
 | x::l,h=>by
  rw [bP,bP];exact (h x aR).append (L7 f g l (fun y hy=>h y (aH _ hy)))
theorem PD {α β γ:Type}(f:β→γ) (g:α→List β):∀ l:List α,(l.flatMap g).map f=l.flatMap fun x=>(g x).map f
 | []=>rfl
 | x::l=>by rw [bP,bP,bU,PD f g l]
theorem zY5 {c:Cx}{M0:Int}{gs:List G}(h:pA c M0 gs){f:As}{M:Int}(hs:Sem gs f M):((nats (List.range c.bs.length)).map fun b=>(f b).1).Perm (nats (List.range c.bs.length)):=by
 refine ((h.cov.symm.map _).trans ?_).trans h.idn;rw [PD];refine L7 _ _ _ fun g hg=>?_
 obtain ⟨w,hw,hf⟩:=xY hs hg;rw [← hf.1];exact (h.out.ok g hg).same w (iV g) hw (jR (h.ne g hg))
theorem KS {n:Nat}{α:Type}(F:Int→α) (d:α){b:Int}(h0:0≤b) (h1:b<n):((nats (List.range n)).map F).getD b.toNat d=F b:=by
 rw [aE,aB (by simp;omega)]
 simp only [qF,List.getElem_range,nR];rw [show ((b.toNat:Nat):Int)=b by omega]
theorem OG {c:Cx}{M0:Int}{gs:List G}(h:pA c M0 gs){f:As}{M:Int}(hs:Sem gs f M):∃ p q,PQ c p q∧zB c p q f:=by
 have hi:=zY5 h hs;have hnl:(nats (List.range c.bs.length)).length=c.bs.length:=by simp
 generalize hp:((nats (List.range c.bs.length)).map fun b=>(f b).1)=p at *;have hpl:p.length=c.bs.length:=by rw [hi.length_eq,hnl]
 have nd:p.Nodup:=hi.nodup_iff.2 (I2 _);have hpg:∀ b:Int,0≤b→b<c.bs.length→p.getD b.toNat 0=(f b).1:=fun b h0 h1=>by rw [← hp];exact KS _ _ h0 h1
 refine ⟨p,(nats (List.range c.bs.length)).map fun x=>if x∈p then (f (p.idxOf x)).2.1 else 0,⟨hpl,by simp,hi,fun y hy=>?_⟩,fun b h0 h1=>⟨(hpg b h0 h1).symm,?_⟩⟩
 ·obtain ⟨x,hx,rfl⟩:=bD.1 hy;have hxm:=hi.mem_iff.2 hx;rw [if_pos hxm];have hlt:=iE hxm;have:=(KE h hs (b:=(p.idxOf x:Nat)) (by omega) (by omega)).1
  unfold SB at this;omega
 ·have hr:=KE h hs h0 h1;rw [hpg b h0 h1,KS _ _ hr.2.1 hr.2.2];have hb:b.toNat<p.length:=by omega
  have e:(f b).1=p[b.toNat]:=by rw [← hpg b h0 h1,aE,aB hb];rfl
  rw [if_pos (by rw [e];exact aO _),e,nd.idxOf_getElem,show ((b.toNat:Nat):Int)=b by omega,oQ]
  have:=hr.1;unfold SB at this;omega
def tB (c:Cx) (gs:List G):Prop:=∀ g,g∈gs→∀ w,w∈g.2→w.2.1+(kL gs-gW g)≤c.m
theorem PI {g g':G}(h:g.2≠[]) (h1:∀ w,w∈g'.2→∃ v,v∈g.2∧v.2.1≤w.2.1) (h2:∀ w,w∈g.2→∃ v,v∈g'.2∧v.2.1≤w.2.1):gW g'=gW g:=by
 obtain ⟨w,hw,e⟩:=vA h;obtain ⟨v,hv,hvw⟩:=h2 w hw;have hne:g'.2≠[]:=fun q=>by rw [q] at hv;cases hv
 obtain ⟨w',hw',e'⟩:=vA hne;obtain ⟨v',hv',hvw'⟩:=h1 w' hw';have a:=vO hv;have b:=vO hv';omega
theorem SZ {c:Cx}{N:List G}(hne:∀ g,g∈paid c N→g.2≠[]):kL (paid c N)=kL N∧∀ g,g∈N→gW (g.1,g.2.filter fun w=>decide (w.2.1+(kL N-gW g)≤c.m))=gW g:=by
 have key:∀ g,g∈N→gW (g.1,g.2.filter fun w=>decide (w.2.1+(kL N-gW g)≤c.m))=gW g:=fun g hg=>by
  have hn:=hne _ (bD.2 ⟨g,hg,rfl⟩);obtain ⟨w,hw⟩:=Z9 _ hn;obtain ⟨hwg,hwm⟩:=dX.1 hw;simp only [decide_eq_true_eq] at hwm;have hgn:g.2≠[]:=fun q=>by rw [q] at hwg;cases hwg
  have:=vO hwg;refine PI hgn (fun v hv=>⟨v,(dX.1 hv).1,eW _⟩) fun v hv=>?_
  obtain ⟨u,hu,eu⟩:=vA hgn;exact ⟨u,dX.2 ⟨hu,by simp only [decide_eq_true_eq];omega⟩,by have:=vO hv;omega⟩
 refine ⟨?_,key⟩;unfold kL;congr 1;unfold paid;rw [uF];exact kA fun g hg=>key g hg
theorem YL {c:Cx}{N:List G}(hne:∀ g,g∈paid c N→g.2≠[]):tB c (paid c N):=by
 obtain ⟨e,k⟩:=SZ hne;intro g hg w hw;rw [e];obtain ⟨x,hx,rfl⟩:=bD.1 hg;rw [k x hx];have:=(dX.1 hw).2;simp only [decide_eq_true_eq] at this;exact this
theorem IK (g:G) (k:Nat):gW (oG g k)=0:=rfl
theorem TJ {g:G}{k:Nat}(h:g.2≠[]):gW (kG g k)=gW g:=by
 refine PI h (fun w hw=>?_) fun w hw=>?_
 ·obtain ⟨v,hv,rfl⟩:=bD.1 (rC hw);exact ⟨v,hv,eW _⟩
 ·obtain ⟨v,hv,_,_,h3⟩:=zN (bD.2 ⟨w,hw,rfl⟩:(w.1.eraseIdx k,w.2.1,w.2.2.eraseIdx k)∈g.2.map fun w=>(w.1.eraseIdx k,w.2.1,w.2.2.eraseIdx k));exact ⟨v,hv,h3⟩
theorem uJ (l:List G) (g:G):kL (g::l)=gW g+kL l:=by simp [kL]
theorem DU:∀ (m:Nat){g:G},g.2≠[]→kL (mA m g)=gW g∧∀ x,x∈mA m g→∀ w,w∈x.2→∃ v,v∈g.2∧w.2.1-gW x≤v.2.1-gW g
 | 0,g,h=>⟨by simp [mA,kL],fun x hx w hw=>by obtain rfl:=bE.1 hx;exact ⟨w,hw,eW _⟩⟩
 | m+1,g,h=>by
  unfold mA;split
  ·exact ⟨by simp [kL],fun x hx w hw=>by obtain rfl:=bE.1 hx;exact ⟨w,hw,eW _⟩⟩
  ·rename_i k hk;obtain ⟨i1,i2⟩:=DU m (VJ (k:=k) h);have hl:=TJ (k:=k) h;refine ⟨by rw [uJ,i1,IK,hl];omega,fun x hx w hw=>?_⟩
   rcases bQ.1 hx with rfl | hx
   ·obtain rfl:=bE.1 hw;obtain ⟨u,hu,e⟩:=vA h;exact ⟨u,hu,by rw [IK];show (0:Int)-0≤_;omega⟩
   ·obtain ⟨v,hv,h3⟩:=i2 x hx w hw;obtain ⟨v',hv',rfl⟩:=bD.1 (rC hv);refine ⟨v',hv',?_⟩;rw [hl] at h3;exact h3
theorem XN {a b:List G}(h:a.Perm b):kL a=kL b:=by
 induction h with
 | nil=>rfl
 | cons x _ ih=>rw [uJ,uJ,ih]
 | swap x y l=>rw [uJ,uJ,uJ,uJ];omega
 | trans _ _ h1 h2=>rw [h1,h2]
theorem NJ {F:G→List G}:∀ {l:List G},(∀ g,g∈l→kL (F g)=gW g)→kL (l.flatMap F)=kL l
 | [],_=>rfl
 | g::l,h=>by
  have a:=NJ (l:=l) fun x hx=>h x (aH _ hx);have b:=h g aR;rw [bP,uJ,← b,← a];simp [kL]
theorem SY {c:Cx}{P:List G}(hp:tB c P) (hne:∀ g,g∈P→g.2≠[]):tB c (sK P):=by
 have hs:kL (sK P)=kL P:=by
  unfold sK;rw [XN (dW cG _)];exact NJ fun g hg=>(DU _ (hne g hg)).1
 intro x hx w hw;rw [hs];unfold sK at hx;obtain ⟨g,hg,hxg⟩:=gO.1 ((dW cG _).mem_iff.1 hx);obtain ⟨v,hv,h3⟩:=(DU _ (hne g hg)).2 x hxg w hw;have:=hp g hg v hv;omega
theorem XL {c:Cx}{N:List G}(h:(xI c N).any (fun g=>g.2.isEmpty)=false):tB c (xI c N):=by
 have hne:∀ g,g∈paid c N→g.2≠[]:=fun g hg q=>by
  have:g∈xI c N:=by
   unfold xI sK;refine (dW cG _).mem_iff.2 (gO.2 ⟨g,hg,?_⟩);rw [OP q];exact bE.2 rfl
  rw [List.any_eq_false] at h;have:=h g this;rw [List.isEmpty_iff.2 q] at this;exact this rfl
 unfold xI;exact SY (YL hne) hne
theorem HI {c:Cx}{l all:List G}{s:Ev}(hl:tB c l):tB c (tI c l all s).2:=by
 unfold tI;dsimp only;split
 ·exact hl
 ·split
  ·exact hl
  ·split
   ·exact hl
   ·rename_i h;exact XL (zV4.2 h)
theorem zG9 {c:Cx}{l:List G}{s:Ev}(hl:tB c l):tB c (fI c l s).2:=by
 unfold fI;split
 ·split
  ·split
   ·exact hl
   ·exact HI hl
  ·exact HI hl
 ·exact hl
theorem zK8 {c:Cx}(hm:0≤c.m):tB c (rU c):=by
 have h0:∀ l:List Nat,kL (l.map (BN c))=0:=fun l=>by
  induction l with
  | nil=>rfl
  | cons i l ih=>rw [List.map_cons,uJ,ih];rfl
 intro g hg w hw;rw [zP,h0];rw [zP] at hg;obtain ⟨i,_,rfl⟩:=bD.1 hg;obtain rfl:=bE.1 hw;show (0:Int)+(0-0)≤c.m;omega
theorem YK {c:Cx}{gs:List G}(h:qH c gs) (hp:tB c gs){g:G}(hg:g∈gs){w:W}(hw:w∈g.2):∃ f,pM g.1 w f∧Sem gs f c.m:=by
 obtain ⟨f,h1,h2⟩:=yG3 h.mid.out.nd h.mid.out.ok h.mid.ne hg hw;exact ⟨f,h1,h2.mono (hp g hg w hw)⟩
theorem W7 {c:Cx}{gs:List G}(h:qH c gs) (hp:tB c gs) (hn:0<c.bs.length):∃ f,Sem gs f c.m:=by
 obtain ⟨g,hg,_⟩:=h.mid.find (b:=0) ⟨by omega,by omega⟩
 obtain ⟨w,hw⟩:=Z9 _ (h.mid.ne g hg);obtain ⟨f,_,h2⟩:=YK h hp hg hw;exact ⟨f,h2⟩
def iB:List G→Nat
 | []=>1
 | g::l=>g.2.length*iB l
theorem I0:∀ a b:List G,iB (a++b)=iB a*iB b
 | [],b=>by simp [iB]
 | g::a,b=>by simp only [List.cons_append,iB,I0 a b,wF]
theorem qP {a b:List G}(h:a.Perm b):iB a=iB b:=by
 induction h with
 | nil=>rfl
 | cons x _ ih=>simp only [iB,ih]
 | swap x y l=>simp only [iB];rw [Nat.mul_left_comm]
 | trans _ _ h1 h2=>rw [h1,h2]
theorem X4:∀ {l:List G},(∀ g,g∈l→g.2≠[])→0<iB l
 | [],_=>RM
 | g::l,h=>Nat.mul_pos (eO.2 (h g aR)) (X4 fun x hx=>h x (aH _ hx))
theorem DN {F:G→List G}:∀ {l:List G},(∀ g,g∈l→iB (F g)≤g.2.length)→iB (l.flatMap F)≤iB l
 | [],_=>aX _
 | g::l,h=>by
  rw [bP,I0];exact RN (h g aR) (DN fun x hx=>h x (aH _ hx))
theorem HO {F:G→G}:∀ {l:List G},(∀ g,g∈l→(F g).2.length≤g.2.length)→iB (l.map F)≤iB l
 | [],_=>aX _
 | g::l,h=>RN (h g aR) (HO fun x hx=>h x (aH _ hx))
theorem zH8 (g:G) (k:Nat):(kG g k).2.length≤g.2.length:=by
 show (gX _).length≤_;refine bL (tK _) ?_;rw [aU];exact aX _
theorem HP:∀ (m:Nat){g:G},iB (mA m g)≤g.2.length
 | 0,g=>by simp [mA,iB]
 | m+1,g=>by
  unfold mA;split
  ·simp [iB]
  ·rename_i k _;show 1*iB (mA m (kG g k))≤_;rw [BD];exact bL (HP m) (zH8 g k)
theorem XK (c:Cx) (N:List G):iB (xI c N)≤iB N:=by
 unfold xI sK;rw [qP (dW cG _)];refine bL (DN fun g _=>HP _) (HO fun g _=>?_);exact eZ _ _
def zE8 (s:Ev):Nat:=if s.k=4 then 2 else 1
theorem WK {α β:Type}(F:α→List β) (n:Nat):∀ l:List α,(∀ x,x∈l→(F x).length≤n)→(l.flatMap F).length≤l.length*n
 | [],_=>by simp
 | x::l,h=>by
  have a:=WK F n l fun y hy=>h y (aH _ hy);have b:=h x aR;rw [bP,aD,List.length_cons,eQ];omega
theorem OY (c:Cx) (s:Ev) (g:G):(gX (mY c s g)).length≤g.2.length*zE8 s:=by
 refine bL (tK _) ?_;unfold mY;refine WK _ _ _ fun w _=>?_
 unfold zE8;rw [aD];split <;> split <;> simp
theorem zG3 {all:List G}{i:Nat}{g y:G}{k:Nat}(h:all[i]? = some g) (hy:y.2.length≤g.2.length*k):iB (all.set i y)≤iB all*k:=by
 obtain ⟨A,B,e1,e2⟩:=rA (y:=y) h;rw [e2,e1,I0,I0];simp only [iB];have:=fT (iB B) hy;have:=Nat.mul_le_mul_left (iB A) this;rw [show iB A*(g.2.length*iB B)*k=iB A*(g.2.length*k*iB B) by rw [wF,wF,xJ0 (iB B) k,wF]]
 exact this
theorem HH {c:Cx}{M0:Int}{l all:List G}{s:Ev}(h:C3 c M0 all s) (hl:iB l≤iB all*zE8 s):iB (tI c l all s).2≤iB all*zE8 s:=by
 obtain ⟨i,g,hi,hg,hgm,hat,ha,hb⟩:=h.at;unfold tI;dsimp only;rw [hat,hi,bI];split
 ·exact hl
 ·split
  ·exact hl
  ·split
   ·exact hl
   ·exact bL (XK c _) (zG3 hg (OY c s g))
theorem IM {gs all:List G}{a b:Int}{c:Cx}{M:Int}(h:pA c M gs) (ha:0≤a∧a<c.bs.length) (hb:0≤b∧b<c.bs.length) (e:join gs a b=some all):iB all=iB gs:=by
 obtain ⟨i,x,hi,hix,hax⟩:=jD (h.find ha);obtain ⟨k,y,hk,hky,hby⟩:=jD (h.find hb);unfold join at e;dsimp only at e;rw [hi,hk] at e;split at e
 ·cases e;rfl
 ·rename_i hik;have gi:mJ gs ((i:Int)).toNat=x:=by unfold mJ;rw [aE];show (gs[i]?).getD _=x;rw [hix];rfl
  have gk:mJ gs ((k:Int)).toNat=y:=by unfold mJ;rw [aE];show (gs[k]?).getD _=y;rw [hky];rfl
  rw [gi,gk] at e;split at e
  ·cases e
  ·cases e;have hj:=IN x y;generalize nG x y=J at *;rcases jI (show i≠k by omega) with hlt | hlt
   ·obtain ⟨P,Q,R,e1,e2⟩:=mU J hlt hix hky;rw [show (min (i:Int) (k:Int)).toNat=i by omega,show (max (i:Int) (k:Int)).toNat=k by omega,e2,e1,qP E6,qP iX]
    simp only [iB,hj,wF]
   ·obtain ⟨P,Q,R,e1,e2⟩:=mU J hlt hky hix;rw [show (min (i:Int) (k:Int)).toNat=k by omega,show (max (i:Int) (k:Int)).toNat=i by omega,e2,e1,qP E6,qP iX]
    simp only [iB,hj,wF,Nat.mul_left_comm]
theorem zG8 {c:Cx}{gs:List G}{s:Ev}(h:qH c gs) (hm0:0≤c.m) (hm1:c.m≤1048576):iB (fI c gs s).2≤iB gs*zE8 s:=by
 have hn:=h.mid.n12;have hself:iB gs≤iB gs*zE8 s:=by unfold zE8;split <;> omega
 unfold fI;by_cases hr:iP c.bs.length s=true
 ·rw [if_pos hr];obtain ⟨r1,r2,_⟩:=oP hr (by omega)
  by_cases hk:s.k=4
  ·rw [if_pos hk];cases hj:join gs s.a s.b with
   | none=>exact hself
   | some all=>
    dsimp only;have hb:=r2 hk;have he:=IM h.mid r1 ⟨by omega,by omega⟩ hj
    have:=HH (l:=gs) (vJ h (by omega) hm0 hm1 hr hk hj) (by rw [he];exact hself)
    rwa [he] at this
  ·rw [if_neg hk];exact HH (xZ h (by omega) hm0 hr hk) hself
 ·rw [if_neg hr];exact hself
theorem yN0 {l:List G}(ne:∀ g,g∈l→g.2≠[]){i k:Nat}{x y:G}(hik:i≠k) (hi:l[i]? = some x) (hk:l[k]? = some y):x.2.length*y.2.length≤iB l∧x.1.length+y.1.length≤(l.flatMap (·.1)).length:=by
 have key:∀ {i k:Nat} {x y:G},i<k→l[i]? = some x→l[k]? = some y→x.2.length*y.2.length≤iB l∧x.1.length+y.1.length≤(l.flatMap (·.1)).length:=fun {i k x y} hlt hi hk=>by
  obtain ⟨P,Q,R,e1,-⟩:=mU x hlt hi hk;have hp:l.Perm (x::y::(P++(Q++R))):=by rw [e1];exact E6
  have h0:=X4 (l:=P++(Q++R)) fun g hg=>ne g (hp.mem_iff.2 (aH _ (aH _ hg)));rw [qP hp,(hp.flatMap_right _).length_eq];constructor
  ·simp only [iB];rw [← wF];exact FX _ h0
  ·simp only [bP,aD];omega
 rcases jI hik with hlt | hlt
 ·exact key hlt hi hk
 ·have:=key hlt hk hi;rw [xJ0];omega
theorem yO9 {l:List G}(ne:∀ g,g∈l→g.2≠[]){g:G}(hg:g∈l):g.2.length≤iB l:=by
 obtain ⟨A,B,rfl⟩:=zC2 hg;have h0:=X4 (l:=A++B) fun x hx=>ne x ((iX (a:=g)).mem_iff.2 (aH _ hx));rw [qP iX];exact FX _ h0
theorem HG {c:Cx}{M0:Int}{l all:List G}{s:Ev}(h:C3 c M0 all s) (ne:∀ g,g∈all→g.2≠[]) (hr:2*iB all≤1000):(tI c l all s).1≠6:=by
 obtain ⟨i,g,hi,hg,hgm,hat,ha,hb⟩:=h.at;unfold tI;dsimp only;rw [hat,hi,bI];have h1:=OY c s g;have h2:=yO9 ne hgm;have h3:g.2.length*zE8 s≤2*g.2.length:=by unfold zE8;split <;> omega
 split
 ·simp
 ·split
  ·omega
  ·split <;> simp
theorem zG7 {c:Cx}{gs:List G}{s:Ev}(h:qH c gs) (hm0:0≤c.m) (hm1:c.m≤1048576) (hn6:c.bs.length≤6) (hr:2*iB gs≤1000):(fI c gs s).1≠6:=by
 have hn:=h.mid.n12;unfold fI;by_cases hri:iP c.bs.length s=true
 ·rw [if_pos hri];obtain ⟨r1,r2,_⟩:=oP hri (by omega)
  by_cases hk:s.k=4
  ·rw [if_pos hk];have hb:=r2 hk;cases hj:join gs s.a s.b with
   | none=>
    exfalso;obtain ⟨i,x,hi,hix,hax⟩:=jD (h.mid.find r1);obtain ⟨k,y,hk,hky,hby⟩:=jD (h.mid.find (b:=s.b) ⟨by omega,by omega⟩)
    unfold join at hj;dsimp only at hj;rw [hi,hk] at hj;split at hj
    ·cases hj
    ·rename_i hik;have gi:mJ gs ((i:Int)).toNat=x:=by unfold mJ;rw [aE];show (gs[i]?).getD _=x;rw [hix];rfl
     have gk:mJ gs ((k:Int)).toNat=y:=by unfold mJ;rw [aE];show (gs[k]?).getD _=y;rw [hky];rfl
     rw [gi,gk] at hj;obtain ⟨t1,t2⟩:=yN0 h.mid.ne (show i≠k by omega) hix hky
     have hc:=h.mid.cov.length_eq;simp only [aU,List.length_range] at hc;split at hj
     ·rename_i hbad;rcases hbad with hbad | hbad <;> omega
     ·cases hj
   | some all=>
    dsimp only;have he:=IM h.mid r1 ⟨by omega,by omega⟩ hj
    have so:=vJ h (by omega) hm0 hm1 hri hk hj
    exact HG so so.mid.ne (by omega)
  ·rw [if_neg hk];have so:=xZ h (by omega) hm0 hri hk
   exact HG so so.mid.ne hr
 ·rw [if_neg hri];simp
theorem zK7 (c:Cx):iB (rU c)=1:=by
 rw [zP];generalize List.range c.bs.length=l
 induction l with
 | nil=>rfl
 | cons i l ih=>rw [List.map_cons];simp only [iB,ih];rfl
theorem NX (c:Cx) (gs:List G) (s:Ev):(fI c gs s).1=0∨(fI c gs s).1=1∧iP c.bs.length s=false∨(fI c gs s).1=6∨(fI c gs s).1=26:=by
 have h2:∀ all,(tI c gs all s).1=0∨(tI c gs all s).1=6∨(tI c gs all s).1=26:=fun all=>by
  unfold tI;dsimp only;split
  ·simp
  ·split
   ·simp
   ·split <;> simp
 unfold fI;split
 ·split
  ·split
   ·simp
   ·rename_i all _;have:=h2 all;omega
  ·have:=h2 gs;omega
 ·rename_i h;exact .inr (.inl ⟨rfl,zV4.2 h⟩)
theorem zG6 {c:Cx}{gs:List G}{s:Ev}(h:(fI c gs s).1≠0):(fI c gs s).2=gs:=by
 have h2:∀ all,(tI c gs all s).1≠0→(tI c gs all s).2=gs:=fun all h=>by
  unfold tI at h ⊢;dsimp only at h ⊢;split
  ·rfl
  ·rename_i h1;rw [if_neg h1] at h;split
   ·rfl
   ·rename_i h2;rw [if_neg h2] at h;split
    ·rfl
    ·rename_i h3;rw [if_neg h3] at h;exact absurd rfl h
 unfold fI at h ⊢;split
 ·rename_i h1;rw [if_pos h1] at h;split
  ·rename_i h3;rw [if_pos h3] at h;cases hj:join gs s.a s.b with
   | none=>rfl
   | some all=>rw [hj] at h;exact h2 all h
  ·rename_i h3;rw [if_neg h3] at h;exact h2 gs h
 ·rfl
abbrev TR:=List Int × List BX × Int
def pP (bs:List BX):List Int:=bs.map (·.2.1)
theorem zQ4 (bs:List BX):(pP bs).length=bs.length:=aU _
theorem LO (bs:List BX) (i:Nat):(pP bs).getD i 0=(bs.getD i (0,0,0)).2.1:=by
 unfold pP;rw [aE,aE,bN];cases bs[i]? <;> rfl
structure vZ (c:Cx) (ps:List Int) (bs:List BX):Prop where
 t:xE c.ks c.ls ps bs
 len:ps.length=c.bs.length
 same:∀ i,(bs.getD i (0,0,0)).1=(c.bs.getD i (0,0,0)).1∧(bs.getD i (0,0,0)).2.2=(c.bs.getD i (0,0,0)).2.2
theorem vZ.pq {c:Cx}{ps:List Int}{bs:List BX}(h:vZ c ps bs):PQ c ps (pP bs) where
 pl:=h.len
 ql:=by rw [zQ4,← h.t.len,h.len]
 pp:=by
  refine (DS (nats (List.range c.bs.length)) ps (I2 _) (fun x hx=>?_) (by simp [h.len])).symm
  obtain ⟨h0,h1⟩:=yI.1 hx;have:=h.t.p x.toNat (by rw [h.len];omega)
  rwa [show ((x.toNat:Nat):Int)=x by omega] at this
 q0:=fun x hx=>by
  obtain ⟨b,hb,rfl⟩:=bD.1 hx;obtain ⟨i,hi,rfl⟩:=List.getElem_of_mem hb;have:=h.t.b i hi;omega
theorem vZ.fit {c:Cx}{ps:List Int}{bs:List BX}(hc:iZ c) (h:vZ c ps bs):yU9 c.ks c.ls ps bs where
 n1:=by have:=hc.f.n1;simp at this;rw [h.len];omega
 n8:=by have:=hc.f.n8;simp at this;rw [h.len];omega
 len:=h.t.len
 k10:=hc.f.k10
 l10:=hc.f.l10
 k:=hc.f.k
 l:=hc.f.l
 p := fun i hi=>by
  have:=h.pq.pp.mem_iff.1 (aO hi);rw [h.len];exact yI.1 this
 b:=h.t.b
def O1 (ps:List Int) (bs:List BX) (s:Ev) (done:Int):List BX:=
 if s.k=2 then bs.set (ps.getD s.a.toNat 0).toNat ((bs.getD (ps.getD s.a.toNat 0).toNat (0,0,0)).1,(bs.getD (ps.getD s.a.toNat 0).toNat (0,0,0)).2.1-done,(bs.getD (ps.getD s.a.toNat 0).toNat (0,0,0)).2.2) else bs
theorem yZ (ps:List Int) (bs:List BX) (s:Ev) (done:Int):pP (O1 ps bs s done)=wJ ps (pP bs) s done:=by
 unfold O1 wJ;split
 ·rw [LO];unfold pP;rw [zC]
 ·rfl
theorem RD (ps:List Int) (bs:List BX) (s:Ev) (done:Int):(O1 ps bs s done).length=bs.length:=by
 unfold O1;split <;> simp
theorem vZ.aft {c:Cx}{ps:List Int}{bs:List BX}{s:Ev}{done:Int}(h:vZ c ps bs) (ha:0≤s.a∧s.a<c.bs.length) (hb:s.k=4→s.a<s.b∧s.b<c.bs.length) (hc:G1 c ps (pP bs) s done=true):vZ c (xQ ps s done) (O1 ps bs s done) where
 len:=by rw [U6];exact h.len
 same:=fun i=>by
  unfold O1;split
  ·by_cases e:i=(ps.getD s.a.toNat 0).toNat
   ·by_cases hl:(ps.getD s.a.toNat 0).toNat<bs.length
    ·rw [fU hl,if_pos e,e];exact h.same _
    ·rw [List.set_eq_of_length_le (by omega)];exact h.same i
   ·by_cases hl:(ps.getD s.a.toNat 0).toNat<bs.length
    ·rw [fU hl,if_neg e];exact h.same _
    ·rw [List.set_eq_of_length_le (by omega)];exact h.same i
  ·exact h.same i
 t := by
  have hp:=(h.pq.aft ha hb hc).pp;refine ⟨by rw [U6,RD];exact h.t.len,fun i hi=>?_,h.t.k,h.t.l,fun i hi=>?_⟩
  ·rw [U6,h.len] at hi;exact hp.mem_iff.2 (yI.2 ⟨by omega,by omega⟩)
  ·rw [RD] at hi;have h0:=h.t.b i hi;by_cases hk:s.k=2
   ·have hr:=G0 hk hc;rw [LO] at hr;have e:O1 ps bs s done=bs.set (ps.getD s.a.toNat 0).toNat ((bs.getD (ps.getD s.a.toNat 0).toNat (0,0,0)).1,(bs.getD (ps.getD s.a.toNat 0).toNat (0,0,0)).2.1-done,(bs.getD (ps.getD s.a.toNat 0).toNat (0,0,0)).2.2):=if_pos hk;simp only [e];rw [List.getElem_set];split
    ·rename_i hx;rw [hx] at hr ⊢;have eb:bs.getD i (0,0,0)=bs[i]:=by rw [aE,aB hi];rfl
     rw [eb] at hr ⊢;dsimp only;refine ⟨h0.1,h0.2.1,by omega,by omega,fun q=>?_,h0.2.2.2.2.2⟩
     have:=h0.2.2.2.2.1 q;omega
    ·exact h0
   ·have e:O1 ps bs s done=bs:=if_neg hk;simp only [e];exact h0
def O9:List TR→TR→List TR
 | [],x=>[x]
 | t::l,x=>if t.1=x.1∧t.2.1=x.2.1 then (if x.2.2<t.2.2 then x::l else t::l) else t::O9 l x
theorem GS:∀ {l:List TR}{x t:TR},t∈O9 l x→t∈l∨t=x
 | [],x,t,h=>.inr (bE.1 h)
 | y::l,x,t,h=>by
  unfold O9 at h;split at h
  ·split at h
   ·rcases bQ.1 h with rfl | h
    ·exact .inr rfl
    ·exact .inl (aH _ h)
   ·exact .inl h
  ·rcases bQ.1 h with rfl | h
   ·exact .inl aR
   ·rcases GS h with h | h
    ·exact .inl (aH _ h)
    ·exact .inr h
def XE (l:List TR) (p:List Int) (bs:List BX) (M:Int):Prop:=∃ t,t∈l∧t.1=p∧t.2.1=bs∧t.2.2≤M
theorem GU:∀ {l:List TR}{x:TR}{p:List Int}{bs:List BX}{M:Int},XE (O9 l x) p bs M↔XE l p bs M∨(x.1=p∧x.2.1=bs∧x.2.2≤M)
 | [],x,p,bs,M=>by simp [O9,XE]
 | y::l,x,p,bs,M=>by
  have hc:∀ (z:TR) (l:List TR),XE (z::l) p bs M↔(z.1=p∧z.2.1=bs∧z.2.2≤M)∨XE l p bs M:=fun z l=>by unfold XE;simp
  unfold O9;split
  ·rename_i he;split
   ·rename_i hlt;rw [hc,hc];constructor
    ·rintro (h | h)
     ·exact .inr h
     ·exact .inl (.inr h)
    ·rintro ((⟨a,b,d⟩ | h) | h)
     ·exact .inl ⟨he.1.symm.trans a,he.2.symm.trans b,by omega⟩
     ·exact .inr h
     ·exact .inl h
   ·rename_i hlt;rw [hc];constructor
    ·exact .inl
    ·rintro (h | ⟨a,b,d⟩)
     ·exact h
     ·exact .inl ⟨he.1.trans a,he.2.trans b,by omega⟩
  ·rw [hc,hc,GU];constructor
   ·rintro (h | h | h)
    ·exact .inl (.inl h)
    ·exact .inl (.inr h)
    ·exact .inr h
   ·rintro ((h | h) | h)
    ·exact .inl h
    ·exact .inr (.inl h)
    ·exact .inr (.inr h)
theorem IW:∀ {L l:List TR}{t:TR},t∈L.foldl O9 l→t∈l∨t∈L
 | [],l,t,h=>.inl h
 | x::L,l,t,h=>by
  rcases IW (L:=L) h with h | h
  ·rcases GS h with h | h
   ·exact .inl h
   ·exact .inr (by rw [h];exact aR)
  ·exact .inr (aH _ h)
theorem IX:∀ {L l:List TR}{p:List Int}{bs:List BX}{M:Int},XE (L.foldl O9 l) p bs M↔XE l p bs M∨XE L p bs M
 | [],l,p,bs,M=>by simp [XE]
 | x::L,l,p,bs,M=>by
  rw [K6,IX,GU];have hc:XE (x::L) p bs M↔(x.1=p∧x.2.1=bs∧x.2.2≤M)∨XE L p bs M:=by unfold XE;simp
  rw [hc,or_assoc]
def yI6 (c:Cx) (s:Ev) (t:TR) (done:Int):TR:=(xQ t.1 s done,O1 t.1 t.2.1 s done,t.2.2+tQ c t.1 s)
def IR (c:Cx) (s:Ev) (t:TR):Bool:=zT9 c t.1 (pP t.2.1) s&&decide (t.2.2+tQ c t.1 s≤c.m)
def zO2 (c:Cx) (s:Ev) (t:TR) (k:Nat):List TR:=if IR c s t then ((List.range k).filter fun d=>G1 c t.1 (pP t.2.1) s (d:Nat)).map fun d=>yI6 c s t (d:Nat) else []
def Z6 (c:Cx) (s:Ev) (all:List TR):List TR:=(all.flatMap fun t=>zO2 c s t 4).foldl O9 []
structure UT (c:Cx) (gs:List G) (all:List TR):Prop where
 ok:∀ t,t∈all→vZ c t.1 t.2.1∧0≤t.2.2∧t.2.2≤c.m∧∀ x,x∈pP t.2.1→x≤3
 iff:∀ p q,PQ c p q→∀ M,M≤c.m→((∃ f,zB c p q f∧Sem gs f M)↔∃ t,t∈all∧t.1=p∧pP t.2.1=q∧t.2.2≤M)
theorem XA (st id k:Int) (ids:List Int):0≤yM0 st id k ids∧yM0 st id k ids≤1:=by
 unfold yM0;repeat' split
 all_goals omega
theorem TT {c:Cx}{gs:List G}(h:qH c gs){f:As}{M:Int}(hs:Sem gs f M):∀ b:Int,0≤b→b<c.bs.length→SB (f b).2:=fun b h0 h1=>(KE h.mid hs h0 h1).1
theorem P9 {c:Cx}{gs:List G}(h:qH c gs){s:Ev}(hr:iP c.bs.length s=true):(0≤s.a∧s.a<c.bs.length)∧(s.k=4→s.a<s.b∧s.b<c.bs.length)∧(s.k=1∨s.k=2∨s.k=3→0≤s.n∧s.n≤1099511627776):=by
 have hn:=h.mid.n12;obtain ⟨r1,r2,r3⟩:=oP hr (by omega)
 refine ⟨r1,fun k=>?_,fun k=>?_⟩
 ·have:=r2 k;omega
 ·unfold iP at hr;rw [aN] at hr;have hr:=hr.2;rw [if_neg (by omega),if_pos k,decide_eq_true_eq] at hr
  exact hr
theorem W2 {c:Cx}{gs:List G}{p q:List Int}{f:As}{s:Ev}{M done:Int}(hc:iZ c) (h:qH c gs) (hr:iP c.bs.length s=true) (hp:PQ c p q) (hf:zB c p q f) (hs:Sem gs f M)
  (hag:zT9 c p q s=true) (hcan:G1 c p q s done=true) (hM:M+tQ c p s≤c.m) :
  (fI c gs s).1≠26∧((fI c gs s).1=0→∃ f',zB c (xQ p s done) (wJ p q s done) f'∧Sem (fI c gs s).2 f' (M+tQ c p s)):=by
 obtain ⟨r1,r2,r3⟩:=P9 h hr;obtain ⟨m0,m1,_⟩:=hc.s;obtain ⟨f',st,ok⟩:=HL hc hp hf (TT h hs) r1 r2 (fun k=>r3 (by omega)) hag hcan
 have hse:=wN h m0 m1 hr (f':=f') hM;have hex:∃ f d,K3 c s f f' d∧Sem gs f (M+tQ c p s-d):=⟨f,_,st,hs.mono (by omega)⟩
 exact ⟨fun q=>hse.2 q hex,fun q=>⟨f',ok,(hse.1 q).2 hex⟩⟩
theorem IV {c:Cx}{s:Ev}{t x:TR}{k:Nat}:x∈zO2 c s t k↔IR c s t=true∧∃ d:Nat,d<k∧G1 c t.1 (pP t.2.1) s d=true∧x=yI6 c s t d:=by
 unfold zO2;split
 ·rename_i h;rw [bD];constructor
  ·rintro ⟨d,hd,rfl⟩;obtain ⟨h1,h2⟩:=dX.1 hd;exact ⟨h,d,fG.1 h1,h2,rfl⟩
  ·rintro ⟨_,d,h1,h2,rfl⟩;exact ⟨d,dX.2 ⟨fG.2 h1,h2⟩,rfl⟩
 ·rename_i h;constructor
  ·intro q;cases q
  ·rintro ⟨q,_⟩;exact absurd q h
theorem Z5 {c:Cx}{s:Ev}{all:List TR}{x:TR}(h:x∈Z6 c s all):∃ t,t∈all∧IR c s t=true∧∃ d:Nat,d<4∧G1 c t.1 (pP t.2.1) s d=true∧x=yI6 c s t d:=by
 rcases IW h with h | h
 ·cases h
 ·obtain ⟨t,ht,hx⟩:=gO.1 h;exact ⟨t,ht,IV.1 hx⟩
theorem R6 {c:Cx}{s:Ev}{t:TR}:IR c s t=true↔zT9 c t.1 (pP t.2.1) s=true∧t.2.2+tQ c t.1 s≤c.m:=by
 unfold IR;rw [aN,decide_eq_true_eq]
theorem UT.step {c:Cx}{gs:List G}{all:List TR}{s:Ev}(hc:iZ c) (h:qH c gs) (hr:iP c.bs.length s=true) (e:UT c gs all) :
  ((fI c gs s).1=0→UT c (fI c gs s).2 (Z6 c s all))∧((fI c gs s).1=26→Z6 c s all=[]):=by
 obtain ⟨r1,r2,r3⟩:=P9 h hr;obtain ⟨m0,m1,_⟩:=hc.s;have key:∀ t,t∈all→IR c s t=true→∀ d:Nat,G1 c t.1 (pP t.2.1) s d=true→∃ f,zB c t.1 (pP t.2.1) f∧Sem gs f t.2.2:=fun t ht hg d hd=>by
  obtain ⟨a,b,b',_⟩:=e.ok t ht;exact (e.iff t.1 (pP t.2.1) a.pq t.2.2 b').2 ⟨t,ht,rfl,rfl,eW _⟩
 constructor
 ·intro h0;refine ⟨fun x hx=>?_,fun p q hpq M hM=>⟨?_,?_⟩⟩
  ·obtain ⟨t,ht,hg,d,hd,hcan,rfl⟩:=Z5 hx;obtain ⟨a,b,b',b3⟩:=e.ok t ht;obtain ⟨g1,g2⟩:=R6.1 hg;have:=(XA c.st (t.1.getD s.a.toNat 0) s.k s.ids).1;refine ⟨a.aft r1 r2 hcan,?_,g2,fun y hy=>?_⟩
   ·show 0≤t.2.2+tQ c t.1 s;unfold tQ;omega
   ·change y∈pP (O1 t.1 t.2.1 s d) at hy;rw [yZ] at hy;unfold wJ at hy;split at hy
    ·rename_i hk;have hrg:=G0 hk hcan;rcases gB hy with hy | rfl
     ·exact b3 y hy
     ·obtain ⟨i0,i1⟩:=a.pq.at r1.1 r1.2;have:(pP t.2.1).getD (t.1.getD s.a.toNat 0).toNat 0∈pP t.2.1:=by
       have:=a.pq.ql;rw [aE,aB (by omega)];exact aO _
      have:=b3 _ this;omega
    ·exact b3 y hy
  ·rintro ⟨f',hf',hs'⟩;obtain ⟨f,d,st,hs⟩:=((wN h m0 m1 hr (f':=f') hM).1 h0).1 hs';obtain ⟨p0,q0,done,hpq0,hf0,hag,hcan,rfl,e1,e2⟩:=YB hc hpq st hf' (TT h hs) r1 r2 (fun k=>r3 (by omega))
   have hm:=(XA c.st (p0.getD s.a.toNat 0) s.k s.ids).1;obtain ⟨t,ht,rfl,rfl,htm⟩:=(e.iff p0 q0 hpq0 (M-tQ c p0 s) (by unfold tQ;omega)).1 ⟨f,hf0,hs⟩
   obtain ⟨a,b,b',b3⟩:=e.ok t ht;have hd:0≤done∧done<4:=by
    by_cases hk:s.k=2
    ·have hrg:=G0 hk hcan;obtain ⟨i0,i1⟩:=a.pq.at r1.1 r1.2;have:(pP t.2.1).getD (t.1.getD s.a.toNat 0).toNat 0∈pP t.2.1:=by
      have:=a.pq.ql;rw [aE,aB (by omega)];exact aO _
     have:=b3 _ this;omega
    ·unfold G1 zB1 at hcan;rw [if_neg hk] at hcan;split at hcan
     ·rw [K8,decide_eq_true_eq,decide_eq_true_eq] at hcan;omega
     ·rw [decide_eq_true_eq] at hcan;omega
   have hdn:((done.toNat:Nat):Int)=done:=by omega
   have hx:XE (Z6 c s all) (xQ t.1 s done) (O1 t.1 t.2.1 s done) M:=by
    refine IX.2 (.inr ⟨yI6 c s t (done.toNat:Nat),gO.2 ⟨t,ht,IV.2 ⟨R6.2 ⟨hag,by omega⟩,done.toNat,by omega,by rw [hdn];exact hcan,rfl⟩⟩,?_,?_,?_⟩)
    ·rw [hdn];rfl
    ·rw [hdn];rfl
    ·show t.2.2+tQ c t.1 s≤M;omega
   obtain ⟨x,hx1,hx2,hx3,hx4⟩:=hx;exact ⟨x,hx1,hx2.trans e1.symm,by rw [hx3,yZ];exact e2.symm,hx4⟩
  ·rintro ⟨x,hx,rfl,rfl,hxm⟩;obtain ⟨t,ht,hg,d,hd,hcan,rfl⟩:=Z5 hx;obtain ⟨f,hf,hs⟩:=key t ht hg d hcan;obtain ⟨a,b,b',b3⟩:=e.ok t ht;obtain ⟨g1,g2⟩:=R6.1 hg;obtain ⟨f',ok,hs'⟩:=(W2 hc h hr a.pq hf hs g1 hcan g2).2 h0;refine ⟨f',?_,hs'.mono hxm⟩;show zB c (xQ t.1 s d) (pP (O1 t.1 t.2.1 s d)) f';rw [yZ];exact ok
 ·intro h26;cases hn:Z6 c s all with
  | nil=>rfl
  | cons x l=>
   exfalso;have hx:x∈Z6 c s all:=by rw [hn];exact aR
   obtain ⟨t,ht,hg,d,hd,hcan,rfl⟩:=Z5 hx;obtain ⟨f,hf,hs⟩:=key t ht hg d hcan;obtain ⟨a,b,b',b3⟩:=e.ok t ht;obtain ⟨g1,g2⟩:=R6.1 hg;exact (W2 hc h hr a.pq hf hs g1 hcan g2).1 h26
theorem UT.some {c:Cx}{gs:List G}{all:List TR}(hc:iZ c) (h:qH c gs) (hp:tB c gs) (e:UT c gs all):all≠[]:=by
 have hn:=hc.f.n1;simp at hn;obtain ⟨f,hs⟩:=W7 h hp (by omega)
 obtain ⟨p,q,hpq,hf⟩:=OG h.mid hs;obtain ⟨t,ht,_⟩:=(e.iff p q hpq c.m (eW _)).1 ⟨f,hf,hs⟩;exact fun q=>by rw [q] at ht;cases ht
def zT4 (all:List TR) (p q:List Int):Bool:=all.any fun t=>decide (t.1=p)&&decide (pP t.2.1=q)
theorem UT.among {c:Cx}{gs:List G}{all:List TR}{p q:List Int}(h:qH c gs) (e:UT c gs all) (hp:PQ c p q):yT8 c gs p q=zT4 all p q:=by
 rw [K9,MB h];unfold zT4;rw [kX];have hi:=e.iff p q hp c.m (eW _);constructor
 ·rintro ⟨_,_,_,f,hf,hs⟩;obtain ⟨t,ht,e1,e2,_⟩:=hi.1 ⟨f,hf,hs⟩;exact ⟨t,ht,by rw [e1,e2];simp⟩
 ·rintro ⟨t,ht,hx⟩;rw [aN,decide_eq_true_eq,decide_eq_true_eq] at hx;obtain ⟨f,hf,hs⟩:=hi.2 ⟨t,ht,hx.1,hx.2,(e.ok t ht).2.2.1⟩;exact ⟨hp.pl,by rw [hp.ql,hp.pl],(OO hp.pl).2 hp.pp,f,hf,hs⟩
theorem PB {c:Cx}(hc:iZ c):vZ c (nats (List.range c.bs.length)) c.bs:=⟨NE hc,by simp,fun i=>⟨rfl,rfl⟩⟩
theorem yB2 {n:Nat}{b:Int}(h0:0≤b) (h1:b<n):(nats (List.range n)).getD b.toNat 0=b:=by
 have:=KS (n:=n) (fun x=>x) 0 h0 h1
 rwa [List.map_id'] at this
theorem VS {c:Cx}:∃ f,zB c (nats (List.range c.bs.length)) (pP c.bs) f∧Sem (rU c) f 0:=by
 refine ⟨fun b=>(b,((c.bs.getD b.toNat (0,0,0)).2.1,(c.bs.getD b.toNat (0,0,0)).2.1+1)),fun b h0 h1=>?_,yB1.2 ⟨eW _,fun b h0 h1=>rfl⟩⟩
 unfold XD;rw [yB2 h0 h1,LO];exact ⟨rfl,oQ.2 ⟨eW _,by dsimp only;omega⟩⟩
end Go.Ld
namespace Go.Proofs.Q
open Go Go.Ab Go.Ld
attribute [local irreducible] VC AW bW aM iU
theorem WI {l:List BX}{i:Nat}(h:i<l.length):l[i]? = some ((l.getD i (0,0,0)).1,(l.getD i (0,0,0)).2.1,(l.getD i (0,0,0)).2.2):=by
 rw [aE,aB h];rfl
end Go.Proofs.Q
namespace Go.Ld
open Go.Ab Go.Proofs.Q
structure FR (c:Cx) (gs:List G) (ps:List Int) (bs:List BX) (M:Int):Prop where
 gk:qH c gs
 re:vZ c ps bs
 m0:0≤M
 m1:M≤c.m
 f:∃ f,zB c ps (pP bs) f∧Sem gs f M
theorem FR.new {c:Cx}(hc:iZ c) (hn:c.bs.length≤12):FR c (rU c) (nats (List.range c.bs.length)) c.bs 0:=
 ⟨zK9 hc hn hc.s.1,PB hc,eW _,hc.s.1,VS⟩
theorem FR.step {c:Cx}{gs:List G}{ps:List Int}{bs:List BX}{M done:Int}{s:Ev}(hc:iZ c) (h:FR c gs ps bs M) (hr:iP c.bs.length s=true) (hag:zT9 c ps (pP bs) s=true) (hcan:G1 c ps (pP bs) s done=true) (hM:M+tQ c ps s≤c.m) :
  (fI c gs s).1=6∨(fI c gs s).1=0∧FR c (fI c gs s).2 (xQ ps s done) (O1 ps bs s done) (M+tQ c ps s)∧yT8 c (fI c gs s).2 (xQ ps s done) (pP (O1 ps bs s done))=true:=by
 obtain ⟨r1,r2,r3⟩:=P9 h.gk hr;obtain ⟨m0,m1,_⟩:=hc.s;obtain ⟨f,hf,hs⟩:=h.f;obtain ⟨t1,t2⟩:=W2 hc h.gk hr h.re.pq hf hs hag hcan hM;have hmis:=(XA c.st (ps.getD s.a.toNat 0) s.k s.ids).1;have hm0:=h.m0;have hre:=h.re.aft r1 r2 hcan;rcases NX c gs s with h0 | ⟨_,h0⟩ | h0 | h0
 ·refine .inr ⟨h0,?_⟩;obtain ⟨f',ok,hs'⟩:=t2 h0;rw [← yZ] at ok;have hg:=KG (s:=s) h.gk m0 m1;refine ⟨⟨hg,hre,by unfold tQ;omega,hM,f',ok,hs'⟩,?_⟩
  exact (MB hg).2 ⟨hre.pq.pl,by rw [hre.pq.ql,hre.pq.pl],(OO hre.pq.pl).2 hre.pq.pp,f',ok,hs'.mono hM⟩
 ·rw [h0] at hr;cases hr
 ·exact .inl h0
 ·exact absurd h0 t1
def FV (c:Cx):List Ev→As→As→Int→Prop
 | [],f,f',d=>f'=f∧d=0
 | s::L,f,f',d=>∃ f1 d1 d2,K3 c s f f1 d1∧FV c L f1 f' d2∧d=d1+d2
def UQ (c:Cx):List G→List Ev→List G→Prop
 | gs,[],gs'=>gs'=gs
 | gs,s::L,gs'=>(fI c gs s).1=0∧UQ c (fI c gs s).2 L gs'
def wW (c:Cx):List G→List Ev→Bool
 | _,[]=>true
 | gs,s::L=>!decide ((fI c gs s).1=26)&&wW c (fI c gs s).2 L
theorem yZ9 {c:Cx}{s:Ev}{x:Int × SP}:0≤(zF c s x).2.1∧(zF c s x).2.1≤1:=by
 unfold zF;dsimp only
 repeat' split
 all_goals (dsimp only;omega)
theorem yN8 {c:Cx}{s:Ev}{f f':As}{d:Int}(h:K3 c s f f' d):0≤d:=by
 rcases h with ⟨_,_,rfl⟩ | ⟨_,_,rfl⟩
 ·exact yZ9.1
 ·exact eW _
theorem X5 {c:Cx}:∀ {L:List Ev}{f f':As}{d:Int},FV c L f f' d→0≤d
 | [],_,_,_,⟨_,h⟩=>by omega
 | s::L,_,_,_,⟨f1,d1,d2,h1,h2,h3⟩=>by
  have:=yN8 h1;have:=X5 h2;omega
theorem HR {c:Cx}{s:Ev}:∀ {L:List Ev}{f f' f'':As}{d e:Int},FV c L f f' d→K3 c s f' f'' e→FV c (L++[s]) f f'' (d+e)
 | [],f,f',f'',d,e,⟨h1,h2⟩,h=>by
  subst h1;subst h2;exact ⟨f'',e,0,h,⟨rfl,rfl⟩,by omega⟩
 | x::L,f,f',f'',d,e,⟨f1,d1,d2,h1,h2,h3⟩,h=>⟨f1,d1,d2+e,h1,HR h2 h,by omega⟩
theorem HJ {c:Cx}{s:Ev}:∀ {L:List Ev}{gs gs':List G},UQ c gs L gs'→(fI c gs' s).1=0→UQ c gs (L++[s]) (fI c gs' s).2
 | [],gs,gs',h,h0=>by
  have e:gs'=gs:=h;subst e;exact ⟨h0,rfl⟩
 | x::L,gs,gs',⟨h1,h2⟩,h0=>⟨h1,HJ h2 h0⟩
theorem HY {c:Cx}{s:Ev}:∀ {L:List Ev}{gs:List G},wW c gs (L++[s])=true→wW c gs L=true
 | [],_,_=>rfl
 | x::L,gs,h=>by
  rw [List.cons_append] at h;unfold wW at h ⊢;rw [aN] at h ⊢;exact ⟨h.1,HY h.2⟩
structure RQ (c:Cx) (gs:List G) (m:Nat):Prop where
 gk:qH c gs
 pd:tB c gs
 pr:iB gs≤2 ^ m
theorem yO3 {m:Nat}(h:m≤5):2 ^ m≤32:=Nat.pow_le_pow_right (by decide) h
theorem yW1 (s:Ev) (m:Nat):2 ^ m*zE8 s=2 ^ (m+if s.k=4 then 1 else 0):=by
 unfold zE8;split <;> simp [xI9]
theorem RQ.see {c:Cx}{gs:List G}{m:Nat}(hc:iZ c) (h:RQ c gs m) (s:Ev):RQ c (fI c gs s).2 (m+if s.k=4 then 1 else 0):=by
 have hm0:=hc.s.1;have hm1:=hc.s.2.1;refine ⟨KG h.gk hm0 hm1,zG9 h.pd,?_⟩;rw [← yW1];exact bL (zG8 h.gk hm0 hm1) (fT _ h.pr)
theorem RQ.new {c:Cx}(hc:iZ c):RQ c (rU c) 0:=by
 have hn:=hc.f.n8;simp at hn;exact ⟨zK9 hc (by omega) hc.s.1,zK8 hc.s.1,by rw [zK7];exact aX _⟩
theorem RQ.room {c:Cx}{gs:List G}{m:Nat}(hc:iZ c) (hn:c.bs.length≤6) (h:RQ c gs m) (hm:m≤5) (s:Ev):(fI c gs s).1≠6:=by
 have:=yO3 hm;have:=h.pr;exact zG7 h.gk hc.s.1 hc.s.2.1 hn (by omega)
theorem RQ.code {c:Cx}{gs:List G}{m:Nat}(hc:iZ c) (hn:c.bs.length≤6) (h:RQ c gs m) (hm:m≤5){s:Ev}(hr:iP c.bs.length s=true):(fI c gs s).1=0∨(fI c gs s).1=26:=by
 have h6:=h.room hc hn hm s;rcases NX c gs s with h1 | ⟨_,h1⟩ | h1 | h1
 ·exact .inl h1
 ·rw [hr] at h1;cases h1
 ·exact absurd h1 h6
 ·exact .inr h1
theorem CW (s:Ev) (L:List Ev):D1 (s::L)=(if s.k=4 then 1 else 0)+D1 L:=by
 unfold D1;rw [List.countP_cons];by_cases h:s.k=4 <;> simp [h,rI]
theorem JZ (a b:List Ev):D1 (a++b)=D1 a+D1 b:=zC1
theorem OA {c:Cx}(hc:iZ c):∀ {L:List Ev}{gs gs':List G}{m:Nat},RQ c gs m→(∀ s,s∈L→iP c.bs.length s=true)→UQ c gs L gs'→∀ {f':As}{M:Int},M≤c.m →
  (Sem gs' f' M↔∃ f d,FV c L f f' d∧Sem gs f (M-d))
 | [],gs,gs',m,h,hr,e,f',M,hM=>by
  have e:gs'=gs:=e;subst e;constructor
  ·intro q;exact ⟨f',0,⟨rfl,rfl⟩,by rw [O5];exact q⟩
  ·rintro ⟨f,d,⟨rfl,rfl⟩,q⟩;rw [O5] at q;exact q
 | s::L,gs,gs',m,h,hr,⟨e0,e1⟩,f',M,hM=>by
  have hs:=hr s aR;rw [OA hc (h.see hc s) (fun x hx=>hr x (aH _ hx)) e1 hM];constructor
  ·rintro ⟨f1,d2,p,q⟩;have:=X5 p;obtain ⟨f,d1,st,q1⟩:=((wN h.gk hc.s.1 hc.s.2.1 hs (f':=f1) (M:=M-d2) (by omega)).1 e0).1 q
   exact ⟨f,d1+d2,⟨f1,d1,d2,st,p,rfl⟩,by rw [show M-(d1+d2)=M-d2-d1 by omega];exact q1⟩
  ·rintro ⟨f,d,⟨f1,d1,d2,st,p,rfl⟩,q⟩;have:=X5 p;refine ⟨f1,d2,p,((wN h.gk hc.s.1 hc.s.2.1 hs (f':=f1) (M:=M-d2) (by omega)).1 e0).2 ⟨f,d1,st,?_⟩⟩
   rw [show M-d2-d1=M-(d1+d2) by omega];exact q
theorem HZ {c:Cx}(hc:iZ c) (hn:c.bs.length≤6):∀ {L:List Ev}{gs:List G}{m:Nat},RQ c gs m→m+D1 L≤5→(∀ s,s∈L→iP c.bs.length s=true) →
  (wW c gs L=true↔∃ f f' d,FV c L f f' d∧Sem gs f (c.m-d))
 | [],gs,m,h,hm,hr=>by
  have h1:=hc.f.n1;simp at h1;obtain ⟨f,hf⟩:=W7 h.gk h.pd (by omega)
  exact ⟨fun _=>⟨f,f,0,⟨rfl,rfl⟩,by rw [O5];exact hf⟩,fun _=>rfl⟩
 | s::L,gs,m,h,hm,hr=>by
  have hs:=hr s aR;rw [CW] at hm;have ih:=HZ hc hn (h.see hc s) (by omega) fun x hx=>hr x (aH _ hx)
  unfold wW;rw [aN];rcases h.code hc hn (by omega) hs with h0 | h0
  ·rw [ih];constructor
   ·rintro ⟨_,f1,f',d2,p,q⟩;have:=X5 p;obtain ⟨f,d1,st,q1⟩:=((wN h.gk hc.s.1 hc.s.2.1 hs (f':=f1) (M:=c.m-d2) (by omega)).1 h0).1 q
    exact ⟨f,f',d1+d2,⟨f1,d1,d2,st,p,rfl⟩,by rw [show c.m-(d1+d2)=c.m-d2-d1 by omega];exact q1⟩
   ·rintro ⟨f,f',d,⟨f1,d1,d2,st,p,rfl⟩,q⟩;have:=X5 p;refine ⟨by rw [h0];rfl,f1,f',d2,p,((wN h.gk hc.s.1 hc.s.2.1 hs (f':=f1) (M:=c.m-d2) (by omega)).1 h0).2 ⟨f,d1,st,?_⟩⟩
    rw [show c.m-d2-d1=c.m-(d1+d2) by omega];exact q
  ·constructor
   ·rintro ⟨q,_⟩;rw [h0] at q;cases q
   ·rintro ⟨f,f',d,⟨f1,d1,d2,st,p,rfl⟩,q⟩;exfalso;have:=X5 p;refine (wN h.gk hc.s.1 hc.s.2.1 hs (f':=f1) (M:=c.m) (eW _)).2 h0 ⟨f,d1,st,q.mono ?_⟩;omega
structure Sl where
 t:Int
 o:Int
 b:Int
 n:Int
structure Sd where
 s:Sl
 gs:List G
 n:Nat
structure Tr where
 gs:List G
 seen:List Ev
 sales:List Sd
 ord:List Bool
def pL (b i:Int):Ev:=⟨5,b,0,i,[]⟩
def zH1 (c:Cx) (t:Tr) (s:Ev):Int × Tr:=
 if (fI c t.gs s).1=0 then (0,⟨(fI c t.gs s).2,t.seen++[s],t.sales,t.ord++[false]⟩) else ((fI c t.gs s).1,t)
def EI (t:Tr):Int:=(t.sales.getLast?.map fun x=>x.s.t).getD 0
def pK (c:Cx) (t:Tr) (x:Sl):Int:=
 if x.b<0∨(c.bs.length:Int)≤x.b then 4
 else if x.n<1∨20000<x.n∨x.o<0∨x.t<0∨20000<x.t then 1
 else if 0<t.sales.length∧x.t<EI t then 3
 else if 500≤t.sales.length then 6
 else 0
def L5 (c:Cx) (seen:List Ev) (x:Sd) (i:Int):Bool:=wW c x.gs (pL x.s.b i::seen.drop x.n)
def K1 (x:Sd):List Int:=match BO x.gs x.s.b with
 | some (g,i)=>wQ g i
 | none=>[]
def jM (c:Cx) (seen:List Ev) (x:Sd):List Int:=(K1 x).filter (L5 c seen x)
structure xE6 (c:Cx) (t:Tr) (x:Sd):Prop where
 b:0≤x.s.b∧x.s.b<c.bs.length
 n:x.n≤t.seen.length
 lk:RQ c x.gs (D1 (t.seen.take x.n))
 ru:UQ c x.gs (t.seen.drop x.n) t.gs
structure jZ (c:Cx) (t:Tr):Prop where
 lk:RQ c t.gs (D1 t.seen)
 rt:∀ s,s∈t.seen→iP c.bs.length s=true
 sd:∀ x,x∈t.sales→xE6 c t x
theorem jZ.new {c:Cx}(hc:iZ c):jZ c ⟨rU c,[],[],[]⟩:=⟨RQ.new hc,fun s hs=>absurd hs iY,fun x hx=>absurd hx iY⟩
theorem XV {c:Cx}{gs:List G}{s:Ev}(h:(fI c gs s).1=0):iP c.bs.length s=true:=by
 unfold fI at h;split at h
 ·assumption
 ·cases h
theorem jZ.see {c:Cx}{t:Tr}{s:Ev}(hc:iZ c) (h:jZ c t) (h0:(fI c t.gs s).1=0):jZ c ⟨(fI c t.gs s).2,t.seen++[s],t.sales,t.ord++[false]⟩:=by
 refine ⟨?_,fun x hx=>?_,fun x hx=>?_⟩
 ·have:=h.lk.see hc s;show RQ c _ (D1 (t.seen++[s]));rw [JZ,show D1 [s]=if s.k=4 then 1 else 0 by rw [CW];rfl]
  exact this
 ·rcases bH.1 hx with hx | hx
  ·exact h.rt x hx
  ·rw [bE.1 hx];exact XV h0
 ·obtain ⟨b,n,lk,ru⟩:=h.sd x hx;refine ⟨b,by show x.n≤(t.seen++[s]).length;rw [aD];omega,?_,?_⟩
  ·show RQ c x.gs (D1 ((t.seen++[s]).take x.n));rw [rF n];exact lk
  ·show UQ c x.gs ((t.seen++[s]).drop x.n) _;rw [H1 n];exact HJ ru h0
theorem jZ.sell {c:Cx}{t:Tr}(h:jZ c t) (x:Sl) (hb:0≤x.b∧x.b<c.bs.length):jZ c ⟨t.gs,t.seen,t.sales++[⟨x,t.gs,t.seen.length⟩],t.ord++[true]⟩:=by
 refine ⟨h.lk,h.rt,fun y hy=>?_⟩
 rcases bH.1 hy with hy | hy
 ·obtain ⟨b,n,lk,ru⟩:=h.sd y hy;exact ⟨b,n,lk,ru⟩
 ·rw [bE.1 hy];refine ⟨hb,aX _,?_,?_⟩
  ·show RQ c t.gs (D1 (t.seen.take t.seen.length));rw [cM];exact h.lk
  ·show UQ c t.gs (t.seen.drop t.seen.length) t.gs;rw [yJ4];rfl
theorem zE6 (L:List Ev) (n:Nat):D1 (L.take n)+D1 (L.drop n)=D1 L:=by rw [← JZ,bK]
theorem TH {c:Cx}{f:As}{b:Int}:K3 c (pL b (f b).1) f f 0:=by
 refine .inl ⟨?_,?_,?_⟩
 ·unfold zF pL;simp
 ·unfold zF pL upd;funext x;simp only;by_cases e:x=b
  ·subst e;simp
  ·rw [if_neg e]
 ·unfold zF pL;simp
theorem yB9 {c:Cx}{f f':As}{b i d:Int}(h:K3 c (pL b i) f f' d):(f b).1=i∧f'=f∧d=0:=by
 rcases h with ⟨h1,h2,h3⟩ | ⟨h1,_⟩
 ·have e:zF c (pL b i) (f b)=(f b,0,decide ((f b).1=i)):=by unfold zF pL;simp
  change (zF c (pL b i) (f b)).2.2=true at h1;change f'=upd f b (zF c (pL b i) (f b)).1 at h2;change d=(zF c (pL b i) (f b)).2.1 at h3;rw [e] at h1 h2 h3;refine ⟨of_decide_eq_true h1,?_,h3⟩;rw [h2];funext x;unfold upd;dsimp only;by_cases q:x=b
  ·rw [if_pos q,q]
  ·rw [if_neg q]
 ·cases h1
theorem PG {n:Nat}{b i:Int}(hb:0≤b∧b<n) (hi:0≤i∧i<n):iP n (pL b i)=true:=by
 unfold iP pL;dsimp only;rw [if_neg (by decide),if_neg (by decide),if_neg (by decide),if_pos rfl,decide_eq_true ⟨hb.1,by omega⟩,decide_eq_true (.inr rfl),decide_eq_true (.inr rfl),decide_eq_true ⟨hi.1,by omega⟩];rfl
theorem jZ.poss {c:Cx}{t:Tr}{x:Sd}{i:Int}(hc:iZ c) (hn:c.bs.length≤6) (h:jZ c t) (h5:D1 t.seen≤5) (hx:x∈t.sales) (hi:0≤i∧i<c.bs.length) :
  L5 c t.seen x i=true↔∃ f f' d,(f x.s.b).1=i∧FV c (t.seen.drop x.n) f f' d∧Sem x.gs f (c.m-d):=by
 obtain ⟨b,n,lk,ru⟩:=h.sd x hx;have hd:=zE6 t.seen x.n;unfold L5;have e0:D1 (pL x.s.b i::t.seen.drop x.n)=D1 (t.seen.drop x.n):=by
  rw [CW,if_neg (show ¬ (pL x.s.b i).k=4 from fun q=>by cases q),Nat.zero_add]
 rw [HZ hc hn lk (by rw [e0];omega) (fun s hs=>by
  rcases bQ.1 hs with rfl | hs
  ·exact PG b hi
  ·exact h.rt s (eB hs))]
 constructor
 ·rintro ⟨f,f',d,⟨f1,d1,d2,st,p,rfl⟩,q⟩;obtain ⟨e1,rfl,rfl⟩:=yB9 st;exact ⟨_,f',d2,e1,p,by rw [Int.zero_add] at q;exact q⟩
 ·rintro ⟨f,f',d,rfl,p,q⟩;exact ⟨f,f',0+d,⟨f,0,d,TH,p,rfl⟩,by rw [Int.zero_add];exact q⟩
theorem KJ {c:Cx}{t:Tr}{x:Sd}(h:jZ c t) (hx:x∈t.sales):(∀ i,i∈K1 x→0≤i∧i<c.bs.length)∧∀ f M,Sem x.gs f M→(f x.s.b).1∈K1 x:=by
 obtain ⟨b,n,lk,ru⟩:=h.sd x hx;obtain ⟨g,hg,hgm,hbg⟩:=ER (lk.gk.mid.find b);have e:K1 x=wQ g (g.1.idxOf x.s.b):=by unfold K1;rw [hg]
 have hi:=iE hbg;rw [e];refine ⟨zI4 lk.gk hgm hi,fun f M hs=>?_⟩
 obtain ⟨w,hw,hf⟩:=xY hs hgm;exact DP.2 ⟨w,hw,(PY hf hbg).1⟩
theorem jZ.ids {c:Cx}{t:Tr}{x:Sd}{i:Int}(hc:iZ c) (hn:c.bs.length≤6) (h:jZ c t) (h5:D1 t.seen≤5) (hx:x∈t.sales) :
  i∈jM c t.seen x↔∃ f f' d,(f x.s.b).1=i∧FV c (t.seen.drop x.n) f f' d∧Sem x.gs f (c.m-d):=by
 obtain ⟨r1,r2⟩:=KJ h hx;unfold jM;rw [dX];constructor
 ·rintro ⟨a,b⟩;exact (h.poss hc hn h5 hx (r1 i a)).1 b
 ·rintro ⟨f,f',d,rfl,p,q⟩;have:=r2 f _ q;exact ⟨this,(h.poss hc hn h5 hx (r1 _ this)).2 ⟨f,f',d,rfl,p,q⟩⟩
theorem jZ.some {c:Cx}{t:Tr}{x:Sd}(hc:iZ c) (hn:c.bs.length≤6) (h:jZ c t) (h5:D1 t.seen≤5) (hx:x∈t.sales):jM c t.seen x≠[]:=by
 have h1:=hc.f.n1;simp at h1;obtain ⟨f',hf⟩:=W7 h.lk.gk h.lk.pd (by omega)
 obtain ⟨b,n,lk,ru⟩:=h.sd x hx;obtain ⟨f,d,p,q⟩:=(OA hc lk (fun s hs=>h.rt s (eB hs)) ru (eW c.m)).1 hf;exact List.ne_nil_of_mem ((h.ids hc hn h5 hx).2 ⟨f,f',d,rfl,p,q⟩)
theorem zN0 {c:Cx}{x:Sd}{seen:List Ev}{s:Ev}(hn:x.n≤seen.length):∀ i,i∈jM c (seen++[s]) x→i∈jM c seen x:=fun i hi=>by
 unfold jM at hi ⊢;obtain ⟨a,b⟩:=dX.1 hi;refine dX.2 ⟨a,?_⟩;unfold L5 at b ⊢;rw [H1 hn,← List.cons_append] at b;exact HY b
end Go.Ld
namespace Go.Ld
open Go.Ab Go.Proofs.Q Go.Pm
def uD (c:Cx) (i:Int):Int:=(c.bs.getD i.toNat (0,0,0)).1
def jN (c:Cx) (l:List Int):List Int:=C1 (jF (l.map (uD c)))
def mB (l:List Int):List Int:=l.filter fun a=>!decide (a<0)
def oL (l:List Int):Int × Bool:=if l.length=1∧0≤l.getD 0 0 then (l.getD 0 0,true) else (0,false)
theorem U5 {c:Cx}{l:List Int}{a:Int}:a∈jN c l↔∃ i,i∈l∧uD c i=a:=by
 unfold jN C1;rw [FG _ _ _ (aX _),cM,(sorted_perm _).mem_iff,bD]
theorem zT7 (c:Cx) (l:List Int):(jN c l).length≤l.length:=by
 unfold jN C1;refine bL (qD _ _) ?_;rw [(sorted_perm _).length_eq,aU];exact aX _
theorem CX {l:List Int}:(oL l).2=true↔∃ a,0≤a∧l=[a]:=by
 unfold oL;constructor
 ·intro h;split at h
  ·rename_i q;obtain ⟨a,rfl⟩:=nF.1 q.1;exact ⟨a,q.2,rfl⟩
  ·cases h
 ·rintro ⟨a,h0,rfl⟩;rw [if_pos ⟨rfl,h0⟩]
theorem PE {l:List Int}{a:Int}:a∈mB l↔a∈l∧0≤a:=by
 unfold mB;rw [dX];simp
structure FS (c:Cx) (t:Tr) (p:List Int) (bs:List BX) (M:Int) (real:List Int):Prop where
 tr:jZ c t
 re:vZ c p bs
 m0:0≤M
 m1:M≤c.m
 f:∃ f,zB c p (pP bs) f∧Sem t.gs f M∧∀ (k:Nat) x r,t.sales[k]? = some x→real[k]? = some r→∃ g d,FV c (t.seen.drop x.n) g f d∧Sem x.gs g (M-d)∧(g x.s.b).1=r
 len:real.length=t.sales.length
 rg:∀ r,r∈real→0≤r∧r<c.bs.length
theorem FS.new {c:Cx}(hc:iZ c):FS c ⟨rU c,[],[],[]⟩ (nats (List.range c.bs.length)) c.bs 0 []:=by
 obtain ⟨f,h1,h2⟩:=VS (c:=c);exact ⟨jZ.new hc,PB hc,eW _,hc.s.1,⟨f,h1,h2,fun k x r hx=>by cases hx⟩,rfl,fun r hr=>absurd hr iY⟩
theorem FS.see {c:Cx}{t:Tr}{p:List Int}{bs:List BX}{M done:Int}{real:List Int}{s:Ev}(hc:iZ c) (hn:c.bs.length≤6) (h:FS c t p bs M real) (h5:D1 t.seen≤5) (hr:iP c.bs.length s=true)
  (hag:zT9 c p (pP bs) s=true) (hcan:G1 c p (pP bs) s done=true) (hM:M+tQ c p s≤c.m) :
  (fI c t.gs s).1=0∧FS c ⟨(fI c t.gs s).2,t.seen++[s],t.sales,t.ord++[false]⟩ (xQ p s done) (O1 p bs s done) (M+tQ c p s) real:=by
 obtain ⟨r1,r2,r3⟩:=P9 h.tr.lk.gk hr;obtain ⟨m0,m1,_⟩:=hc.s;obtain ⟨f,hf,hs,hp⟩:=h.f;have hmis:=(XA c.st (p.getD s.a.toNat 0) s.k s.ids).1;have hm0:=h.m0;obtain ⟨f',st,ok⟩:=HL hc h.re.pq hf (TT h.tr.lk.gk hs) r1 r2 (fun k=>r3 (by omega)) hag hcan
 have hsem:=wN h.tr.lk.gk m0 m1 hr (f':=f') hM;have hex:∃ f d,K3 c s f f' d∧Sem t.gs f (M+tQ c p s-d):=⟨f,_,st,hs.mono (by omega)⟩
 have h0:(fI c t.gs s).1=0:=(h.tr.lk.code hc hn h5 hr).resolve_right fun q=>hsem.2 q hex
 refine ⟨h0,h.tr.see hc h0,h.re.aft r1 r2 hcan,by unfold tQ;omega,hM,⟨f',by rw [yZ];exact ok,(hsem.1 h0).2 hex,fun k x r hx hk=>?_⟩,h.len,h.rg⟩
 obtain ⟨g,d,q1,q2,q3⟩:=hp k x r hx hk;refine ⟨g,d+tQ c p s,?_,by rw [show M+tQ c p s-(d+tQ c p s)=M-d by omega];exact q2,q3⟩
 show FV c ((t.seen++[s]).drop x.n) g f' _;rw [H1 (h.tr.sd x (aQ hx)).n];exact HR q1 st
theorem FS.sell {c:Cx}{t:Tr}{p:List Int}{bs:List BX}{M:Int}{real:List Int}(h:FS c t p bs M real) (x:Sl) (hb:0≤x.b∧x.b<c.bs.length) :
  FS c ⟨t.gs,t.seen,t.sales++[⟨x,t.gs,t.seen.length⟩],t.ord++[true]⟩ p bs M (real++[p.getD x.b.toNat 0]):=by
 obtain ⟨f,hf,hs,hp⟩:=h.f;refine ⟨h.tr.sell x hb,h.re,h.m0,h.m1,⟨f,hf,hs,fun k y r hy hr=>?_⟩,by simp [h.len],fun r hr=>?_⟩
 ·have hl:=h.len;by_cases e:k<t.sales.length
  ·rw [aG e] at hy;rw [aG (by omega)] at hr
   exact hp k y r hy hr
  ·have hk:k=t.sales.length:=by
    have:=(aA.1 hy).1;rw [aD,MN] at this;omega
   subst hk;rw [aF (aX _),eI] at hy;rw [← hl,aF (aX _),eI] at hr;cases hy;cases hr;refine ⟨f,0,?_,by rw [O5];exact hs,(hf x.b hb.1 hb.2).1⟩
   show FV c (t.seen.drop t.seen.length) f f 0;rw [yJ4];exact ⟨rfl,rfl⟩
 ·rcases bH.1 hr with hr | hr
  ·exact h.rg r hr
  ·rw [bE.1 hr];exact h.re.pq.at hb.1 hb.2
theorem FS.has {c:Cx}{t:Tr}{p:List Int}{bs:List BX}{M:Int}{real:List Int}{k:Nat}{x:Sd}{r:Int}(hc:iZ c) (hn:c.bs.length≤6) (h:FS c t p bs M real) (h5:D1 t.seen≤5) (hx:t.sales[k]? = some x) (hr:real[k]? = some r) :
  r∈jM c t.seen x:=by
 obtain ⟨f,hf,hs,hp⟩:=h.f;obtain ⟨g,d,q1,q2,q3⟩:=hp k x r hx hr;have:=h.m1;exact (h.tr.ids hc hn h5 (aQ hx)).2 ⟨g,f,d,q3,q1,q2.mono (by omega)⟩
theorem FS.fin {c:Cx}{l:List Int}{r:Int}(hr:r∈l):(0≤uD c r→uD c r∈mB (jN c l))∧((oL (jN c l)).2=true→(oL (jN c l)).1=uD c r):=by
 have hm:uD c r∈jN c l:=U5.2 ⟨r,hr,rfl⟩;refine ⟨fun h=>PE.2 ⟨hm,h⟩,fun h=>?_⟩
 obtain ⟨a,h0,e⟩:=CX.1 h;rw [e] at hm ⊢;rw [bE.1 hm];unfold oL;rw [if_pos ⟨rfl,h0⟩];rfl
end Go.Ld
namespace Go.Ld
open Go.Ab Go.Proofs.Q
abbrev uT (l:List Bool):List (List AV):=l.map fun b=>[AV.b b]
abbrev yW4 (x:Sl):List AV:=[.i x.t,.i x.o,.i x.b,.i x.n]
abbrev zY7 (c:Cx) (x:Sd):List AV:=[.i x.s.t,.i x.s.o,.i x.s.b,.i x.s.n,.pr (jY c x.gs) 0,.i (x.n:Int)]
abbrev E0 (l:List Sl):List (List AV):=l.map yW4
abbrev rG (c:Cx) (l:List Sd):List (List AV):=l.map (zY7 c)
abbrev GB (c:Cx) (t:Tr):List AV:=[.rowE (kE c.ls) 3,.rowE (fL c.bs) 3,.pr (jY c t.gs) 0,.rowE (nQ t.seen) 5,.rowE (rG c t.sales) 6,.rowE (uT t.ord) 1]
abbrev xA5 (c:Cx) (n m q:Nat):List AV:=[.rowE (kE c.ls) 3,.rowE (fL c.bs) 3,.ptr 1 0,.sl 2 0 n 5,.sl 3 0 m 6,.sl 4 0 q 1]
abbrev GF (c:Cx) (t:Tr):Hp:=[.cells (xA5 c t.seen.length t.sales.length t.ord.length),.cells (jY c t.gs),.arr (nQ t.seen) 5,.arr (rG c t.sales) 6,.arr (uT t.ord) 1]
abbrev D9 (c:Cx) (t:Tr):Hp:=[.cells [.rowE (kE c.ls) 3,.rowE (fL c.bs) 3,.ptr 1 0,.sl 5 0 t.seen.length 5,.sl 3 0 t.sales.length 6,.sl 6 0 t.ord.length 1],.cells (jY c t.gs),.gone,.arr (rG c t.sales) 6,.gone,.arr (nQ t.seen) 5,.arr (uT t.ord) 1]
abbrev M3 (c:Cx) (t:Tr):Hp:=[.cells [.rowE (kE c.ls) 3,.rowE (fL c.bs) 3,.ptr 1 0,.sl 2 0 t.seen.length 5,.sl 5 0 t.sales.length 6,.sl 6 0 t.ord.length 1],.cells (jY c t.gs),.arr (nQ t.seen) 5,.gone,.gone,.arr (rG c t.sales) 6,.arr (uT t.ord) 1]
theorem cW (l:List Bool):∀ e,e∈uT l→AV.idfL e=true:=by intro e he;obtain ⟨i,_,rfl⟩:=bD.1 he;rfl
theorem cX (c:Cx) (l:List Sd):∀ e,e∈rG c l→AV.idfL e=true:=by intro e he;obtain ⟨i,_,rfl⟩:=bD.1 he;rfl
theorem cT (l:List Ev):∀ e,e∈nQ l→AV.idfL e=true:=by intro e he;obtain ⟨i,_,rfl⟩:=bD.1 he;rfl
theorem H7 (l:List Sl):∀ e,e∈E0 l→AV.idfL e=true:=by intro e he;obtain ⟨i,_,rfl⟩:=bD.1 he;rfl
theorem P8 (c:Cx) (l:List Sd):∀ e,e∈rG c l→e.length=6:=by intro e he;obtain ⟨n,_,rfl⟩:=bD.1 he;rfl
theorem sU (c:Cx) (l:List Sd):(rG c l).length=l.length:=aU _
theorem sY (l:List Ev):(nQ l).length=l.length:=aU _
theorem A7 (l:List Bool):(uT l).length=l.length:=aU _
theorem DC (l:List Sl):(E0 l).length=l.length:=aU _
theorem DG {c:Cx}{l:List Sd}{j:Int}{k:Nat}{x:Sd}(h:l[k]? = some x) (e:j=k):(rG c l)[j.toNat]? = some (zY7 c x):=by
 subst e;rw [bI,bN,h];rfl
theorem zH2 {c:Cx}{l:List Sd}{j:Int}{k:Nat}{x:Sd}(h:l[k]? = some x) (e:j=k):(rG c l)[0+j.toNat]? = some (zY7 c x):=by rw [Nat.zero_add];exact DG h e
end Go.Ld
namespace Go.Proofs.Q
open Go Go.Ab Go.Ld
attribute [local irreducible] VC AW bW aM iU
theorem SJ (c:Cx) (hc:iZ c) :
  aM Tryz.prog 7 [qI c.m c.st c.er c.sl,.rowE (jA c.ks) 2,.rowE (kE c.ls) 3,.rowE (fL c.bs) 3] [] (.tup [.ptr 0 0,.i 0]) [.cells [.rowE (kE c.ls) 3,.rowE (fL c.bs) 3,.ptr 1 0,.nils,.nils,.nils],.cells (jY c (rU c))]:=by
 have hn:=yP4 c hc;have hn8:=hc.f.n8;have hl10:=hc.f.l10;simp at hn8;have c2:=QM c.ls (by omega)
 have c3:=QN c.bs (by omega)
 refine bS T Tryz.func7 rfl rfl rfl rfl ?_
 (repeat' (first|refine wS ?_|(refine rg 0 (cO (dR rfl rfl) rfl (pT ?_)))|refine nZ ?_));refine iG 4 (cs:=[.i c.m,.i c.st,.i c.er,.i c.sl]) rfl rfl rfl ?_
 (repeat' (first|refine wS ?_|refine wK ?_|refine wR ?_|refine wU ?_|(refine rg 1 (lW T rfl (dJ rfl (mW rfl (cO (by exact gH rfl rfl hn (.inr ⟨rfl,rfl,by simp⟩)) rfl ?_))));refine mW rfl (xW rfl (xW rfl (pT ?_))))|(refine rg 2 (mW rfl (vV (gI rfl rfl) ?_)))|(refine rg 4 (mW rfl (vV (kC (c2)) (mW rfl (vV (kC (c3)) (mW rfl (vV (by exact eT T rfl rfl rfl rfl) ?_))))));refine cO (dR rfl rfl) rfl (pT ?_))|refine nZ ?_));all_goals try omega
 all_goals exact ⟨.inl rfl,[2,1],_,rfl,rfl,rfl,⟨.inr rfl,.inr rfl,trivial⟩,by decide,jP _⟩
theorem yB5 (a b:Nat):∀ i:Nat,i<5→([0,1,2,3,4,a,b]:List Nat)[i]? = some i:=by intro i hi;match i,hi with | 0,_=>rfl | 1,_=>rfl | 2,_=>rfl | 3,_=>rfl | 4,_=>rfl
theorem yB6:∀ i:Nat,i<5→([0,1,2,3,4]:List Nat)[i]? = some i:=by decide
theorem JX (c:Cx) (t:Tr) (s:Ev) (hc:iZ c) (h:jZ c t) (hids:s.ids.length≤1000000) (hn:t.seen.length≤100000) (hm:t.ord.length≤100000) (h0:(fI c t.gs s).1=0) :
  aM Tryz.prog 33 [.ptr 0 0,yY8 s] (GF c t) (.i 0) (D9 c ⟨(fI c t.gs s).2,t.seen++[s],t.sales,t.ord++[false]⟩):=by
 have hse:=zH0 c t.gs s hc h.lk.gk (by omega)
 have hcl:=kZ (len:=s.ids.length) (dD _).symm (eX (bF _)) (LQ s.ids (by omega))
 obtain ⟨gs,seen,sales,ord⟩:=t;dsimp only at *;generalize fI c gs s=R at *;obtain ⟨code,gs'⟩:=R;dsimp only at *;have hel:=sY seen;have hol:=A7 ord;subst h0;have e1:nQ (seen++[s])=nQ seen++[C9 s]:=by rw [nQ,bU];rfl
 have e2:uT (ord++[false])=uT ord++[[.b false]]:=by rw [uT,bU];rfl
 have i1:=cT (seen++[s]);have i2:=cW (ord++[false]);have i3:=cX c sales;have l1:(seen++[s]).length=seen.length+1:=by simp
 have l2:(ord++[false]).length=ord.length+1:=by simp
 unfold D9;dsimp only;rw [l1,l2];refine bS T Tryz.func33 rfl rfl rfl rfl ?_
 (repeat' (first|refine wS ?_|refine wK ?_|refine wU ?_|(refine rg 0 (cO (dR rfl rfl) rfl (aV ?_)))|(refine lY (id:=1) 38 [[],[0],[0,1],[0,1,2],[],rN 5] (rM 6 6) [[],[],[],[],rM 6 4,[]] [(5,1)] cP rfl (by decide +kernel) (cQ rfl rfl rfl rfl (by exact bV rfl) ?_);refine cQ rfl rfl rfl rfl (by exact cF rfl rfl) ?_;refine cQ rfl rfl rfl rfl (by exact bR T rfl rfl rfl) ?_;refine cQ rfl rfl rfl rfl (by exact bA T rfl rfl rfl rfl) ?_;refine cQ rfl rfl rfl rfl (by exact bA T rfl rfl rfl rfl) ?_;refine oT rfl rfl rfl rfl (aI rfl) (by exact tX [1] rfl rfl (qX hse) (fun _=>rfl) rfl (by decide) (fun _=>⟨.inr rfl,trivial⟩) (by simp) rfl (fun _ _=>rfl) rfl rfl) ?_;refine qK rfl rfl rfl (by exact rfl) ?_;refine aV ?_)|(refine rg 2 (mW rfl (vV (gI rfl rfl) ?_)))|(refine rg 4 (iK T rfl (vV (kC (hcl)) (fW T rfl (bC T rfl rfl rfl rfl rfl rfl (by decide) rfl ?_)))))|refine nZ ?_));all_goals try omega
 refine iG 3 (cs:=C9 s) rfl rfl rfl ?_
 (repeat' (first|refine wS ?_|refine wR ?_|(refine lY (id:=5) 38 [[],[],[],[2],[2,3],[2,3,4],[],[6],rM 2 6,[],[9],[9,10],[9,10,11],[],rM 2 12,[0,2,3,4,5,6,7,8,9,10,11,12,13,14],[0,2,3,4,5,6,7,8,9,10,11,12,13,14,15],[0,2,3,4,5,6,7,8,9,10,11,12,13,14,15,16],rN 18,rN 19,rN 20] (rM 19 19) [[],[19],[19,20],[19,20],[19,20],[19,20],rM 19 6,rM 19 6,[19,20],rM 19 9,rM 19 9,rM 19 9,rM 19 9,rM 19 13,[19,20],[20],[20],[20],[],[],[]] [(8,2),(14,4),(17,0),(20,0)] cP rfl (by decide +kernel) (cQ rfl rfl rfl rfl (by exact bV rfl) ?_);refine cQ rfl rfl rfl rfl (by exact bV rfl) ?_;refine cQ rfl rfl rfl rfl (by exact bV rfl) ?_;refine cQ rfl rfl rfl rfl (by exact cF rfl rfl) ?_;refine cQ rfl rfl rfl rfl (by exact bR T rfl rfl rfl) ?_;refine cQ rfl rfl rfl rfl (by exact bA T rfl rfl rfl rfl) ?_;refine cQ rfl rfl rfl rfl (by exact bA T rfl rfl rfl rfl) ?_;refine B9 rfl rfl rfl rfl (by exact bG T rfl rfl (by decide) (by decide) rfl rfl rfl) rfl ?_;refine oT rfl rfl rfl rfl (aI rfl) (by exact oC T rfl rfl rfl rfl rfl rfl (by omega) (kK.whole rfl rfl) rfl (by simp;omega) (by simp;omega)) ?_;refine cQ rfl rfl rfl rfl (by exact bV rfl) ?_;refine cQ rfl rfl rfl rfl (by exact cF rfl rfl) ?_;refine cQ rfl rfl rfl rfl (by exact bR T rfl rfl rfl) ?_;refine cQ rfl rfl rfl rfl (by exact bA T rfl rfl rfl rfl) ?_;refine B9 rfl rfl rfl rfl (by exact bG T rfl rfl (by decide) (by decide) rfl rfl rfl) rfl ?_;refine oT rfl rfl rfl rfl (aI rfl) (by exact oC T rfl rfl rfl rfl rfl rfl (by omega) (kK.whole rfl rfl) rfl (by simp;omega) (by simp;omega)) ?_;refine cQ rfl rfl rfl rfl (by exact cF rfl rfl) ?_;refine cQ rfl rfl rfl rfl (by exact bR T rfl rfl rfl) ?_;refine F5 rfl rfl rfl rfl (aI rfl) T rfl rfl rfl rfl rfl rfl (by decide) rfl ?_;refine cQ rfl rfl rfl rfl (by exact cF rfl rfl) ?_;refine cQ rfl rfl rfl rfl (by exact bR T rfl rfl rfl) ?_;refine F5 rfl rfl rfl rfl (aI rfl) T rfl rfl rfl rfl rfl rfl (by decide) rfl ?_;refine qK rfl rfl rfl (by exact rfl) ?_)|(refine rg 6 (aV ?_))|refine nZ ?_));all_goals try omega
 all_goals exact ⟨.inl rfl,[0,1,2,3,4,8,10],_,rfl,rfl,rfl,⟨.inr rfl,.inr rfl,.inl rfl,.inr (aC rfl rfl i3),.inl rfl,.inr (aC rfl (by rw [e1];exact jW hel.symm) i1),.inr (aC rfl (by rw [e2];exact jW hol.symm) i2),trivial⟩,by decide,yB5 _ _⟩
theorem zW7 (c:Cx) (t:Tr) (s:Ev) (hc:iZ c) (h:jZ c t) (hids:s.ids.length≤1000000) (h0:(fI c t.gs s).1≠0) :
  aM Tryz.prog 33 [.ptr 0 0,yY8 s] (GF c t) (.i (fI c t.gs s).1) (GF c t):=by
 have hse:=zH0 c t.gs s hc h.lk.gk (by omega)
 rw [zG6 h0] at hse;obtain ⟨gs,seen,sales,ord⟩:=t;dsimp only at *;generalize (fI c gs s).1=code at *;refine bS T Tryz.func33 rfl rfl rfl rfl ?_
 (repeat' (first|refine wS ?_|refine wR ?_|(refine wC rfl ?_ ?_<;>(intro hb;(try simp only [nm] at hb);try omega))|(refine rg 0 (cO (dR rfl rfl) rfl (aV ?_)))|(refine lY (id:=1) 38 [[],[0],[0,1],[0,1,2],[],rN 5] (rM 6 6) [[],[],[],[],rM 6 4,[]] [(5,1)] cP rfl (by decide +kernel) (cQ rfl rfl rfl rfl (by exact bV rfl) ?_);refine cQ rfl rfl rfl rfl (by exact cF rfl rfl) ?_;refine cQ rfl rfl rfl rfl (by exact bR T rfl rfl rfl) ?_;refine cQ rfl rfl rfl rfl (by exact bA T rfl rfl rfl rfl) ?_;refine cQ rfl rfl rfl rfl (by exact bA T rfl rfl rfl rfl) ?_;refine oT rfl rfl rfl rfl (aI rfl) (by exact tX [1] rfl rfl (qX hse) (fun _=>rfl) rfl (by decide) (fun _=>⟨.inr rfl,trivial⟩) (by simp) rfl (fun _ _=>rfl) rfl rfl) ?_;refine qK rfl rfl rfl (by exact rfl) ?_;refine aV ?_)|(refine rg 2 (mW rfl (vV (gI rfl rfl) ?_)))|(refine rg 3 (mW rfl (aV ?_)))|refine nZ ?_));all_goals try omega
 all_goals exact ⟨.inl rfl,[0,1,2,3,4],_,rfl,rfl,rfl,⟨.inr rfl,.inr rfl,.inr (aC rfl rfl (cT _)),.inr (aC rfl rfl (cX _ _)),.inr (aC rfl rfl (cW _)),trivial⟩,by decide,yB6⟩
end Go.Proofs.Q
namespace Go.Ab
open Go
theorem qL.freezeElP {n:Nat × Nat}{c:pS}{ρ:Pl}{S:Nat→Prop}{env:eG}{h:Hp}{a:Act}{w:World}{j f k off sz:Nat}{es es':List (List AV)}{cs:List AV}(s:qL n c ρ S env h a w) (hj:h[j]? = some (.arr es sz)) (hne:j≠k) (h0:es≠[]) (hf:es.flatten[f]? = some (.ptr k off)) (hk:h[k]? = some (.cells cs)) (hi:AV.idfL cs=true)
  (hl:∀ e,e∈es'→e.length=sz) (he:es'.flatten=es.flatten.set f (.pr cs off)) :
  qL n c ρ (fun b=>S b∨∃ o,ρ k=some (b,o)) env ((h.set k .gone).set j (.arr es' sz)) a w:=by
 have h1:=s.hs.freezeC hk (by simp)
 have hj':(h.set k .gone)[j]? = some (.arr es sz):=by rw [iN (Ne.symm hne)];exact hj
 refine ⟨s.size,s.defers.st (fun _ h=>.inl h),fun t' x hx=>zB7 (fun _ h=>.inl h) (s.env t' x hx),h1.alter hj' (fun _=>?_) (by simp),s.cm⟩
 have hb:=s.hs.blk j _ hj;simp only [RB] at hb ⊢;obtain ⟨b1,b2,b3⟩:=hb;refine ⟨hl,b2,?_⟩;rcases b3 with ⟨e,_⟩ | ⟨b,o,ys,e1,e2,e3⟩
 ·exact absurd e h0
 ·refine .inr ⟨b,o,ys,e1,e2,?_⟩;rw [he];exact CP (fun _ h=>.inl h) (fun y hy=>EV hi (s.hs.blk k _ hk) hy) hf e3
section
variable {P:Program}{n:Nat × Nat}{env:eG}{h:Hp}{Q:Exit→eG→Hp→Prop}{code:Code}
theorem zB3 (j f:Nat){k off sz:Nat}{es:List (List AV)}(es':List (List AV)){cs:List AV}(hj:h[j]? = some (.arr es sz)) (hne:j≠k) (h0:es≠[]) (hf:es.flatten[f]? = some (.ptr k off)) (hk:h[k]? = some (.cells cs)) (hi:AV.idfL cs=true)
  (hl:∀ e,e∈es'→e.length=sz) (he:es'.flatten=es.flatten.set f (.pr cs off)) (hv:AW P n code env ((h.set k .gone).set j (.arr es' sz)) Q):AW P n code env h Q:=
 fun c ρ S a w QQ s hQ=>hv c ρ _ a w QQ (s.freezeElP hj hne h0 hf hk hi hl he) hQ
end
end Go.Ab
namespace Go.Ld
open Go.Ab Go.Proofs.Q
def uG (t:Tr) (x:Sl):Tr:=⟨t.gs,t.seen,t.sales++[⟨x,t.gs,t.seen.length⟩],t.ord++[true]⟩
theorem xC7 (a b d:Nat):∀ i:Nat,i<5→([0,1,2,3,4,a,b,d]:List Nat)[i]? = some i:=by intro i hi;match i,hi with | 0,_=>rfl | 1,_=>rfl | 2,_=>rfl | 3,_=>rfl | 4,_=>rfl
theorem DE (c:Cx) (t:Tr) (x:Sl) :
  (pK c t x=4∧(x.b<0∨(c.bs.length:Int)≤x.b))∨(¬ (x.b<0∨(c.bs.length:Int)≤x.b) ∧
  ((pK c t x=1∧(x.n<1∨20000<x.n∨x.o<0∨x.t<0∨20000<x.t))∨(¬ (x.n<1∨20000<x.n∨x.o<0∨x.t<0∨20000<x.t) ∧
  ((pK c t x=3∧0<t.sales.length∧x.t<EI t)∨(¬ (0<t.sales.length∧x.t<EI t) ∧
  ((pK c t x=6∧500≤t.sales.length)∨(pK c t x=0∧t.sales.length<500))))))):=by
 unfold pK;by_cases c1:x.b<0∨(c.bs.length:Int)≤x.b
 ·exact .inl ⟨if_pos c1,c1⟩
 ·rw [if_neg c1];refine .inr ⟨c1,?_⟩;by_cases c2:x.n<1∨20000<x.n∨x.o<0∨x.t<0∨20000<x.t
  ·exact .inl ⟨if_pos c2,c2⟩
  ·rw [if_neg c2];refine .inr ⟨c2,?_⟩;by_cases c3:0<t.sales.length∧x.t<EI t
   ·exact .inl ⟨if_pos c3,c3⟩
   ·rw [if_neg c3];refine .inr ⟨c3,?_⟩;by_cases c4:500≤t.sales.length
    ·exact .inl ⟨if_pos c4,c4⟩
    ·exact .inr ⟨if_neg c4,by omega⟩
theorem yC3 {t:Tr}(h0:0<t.sales.length):∃ y,t.sales[t.sales.length-1]? = some y∧EI t=y.s.t:=by
 refine ⟨t.sales[t.sales.length-1],aB (by omega),?_⟩
 unfold EI;rw [List.getLast?_eq_getElem?,aB (by omega)];rfl
theorem yF3 {A:List (List AV)}{a b c d x e:AV}:(A++[[a,b,c,d,x,e]]).flatten[A.flatten.length+4]? = some x:=by
 rw [fE,aF (by omega),show A.flatten.length+4-A.flatten.length=4 by omega];rfl
theorem yF0 {A:List (List AV)}{a b c d x y e:AV}:(A++[[a,b,c,d,y,e]]).flatten=(A++[[a,b,c,d,x,e]]).flatten.set (A.flatten.length+4) y:=by
 rw [fE,fE,jC _ _ (by omega),show A.flatten.length+4-A.flatten.length=4 by omega];rfl
end Go.Ld
namespace Go.Proofs.Q
open Go Go.Ab Go.Ld
attribute [local irreducible] VC AW bW aM iU
theorem yH3 (c:Cx) (gs:List G) (hl:gs.length≤1000):aM Tryz.prog 73 [.pr (jY c gs) 0] [] (.ptr 0 0) [.cells (jY c gs)]:=by
 have hc:=kZ (jX gs).symm (eX (eR gs)) (T4 gs (by omega))
 refine bS T Tryz.func73 rfl rfl rfl rfl ?_
 (repeat' (first|refine wS ?_|refine wR ?_|(refine rg 0 (aV ?_))|(refine rg 1 (mW rfl (nV ?_));refine lW T rfl (cO (cN T rfl) rfl (bC T rfl rfl rfl rfl rfl rfl (by decide) rfl ?_)))|(refine rg 2 (mW rfl (nV ?_));refine iK T rfl (vV (kC (hc)) (fW T rfl (bC T rfl rfl rfl rfl rfl rfl (by decide) rfl ?_))))|(refine rg 3 (aV ?_))|refine nZ ?_));all_goals exact ⟨.inl rfl,[0],_,rfl,rfl,rfl,⟨.inr rfl,trivial⟩,by decide,jP _⟩
theorem yH2 (c:Cx) (gs:List G) (hl:gs.length≤1000):aM Tryz.prog 73 [.ptr 0 0] [.cells (jY c gs)] (.ptr 1 0) ([.cells (jY c gs)]++[.cells (jY c gs)]):=by
 have hc:=kZ (jX gs).symm (eX (eR gs)) (T4 gs (by omega))
 refine bS T Tryz.func73 rfl rfl rfl rfl ?_
 (repeat' (first|refine wS ?_|refine wR ?_|(refine rg 0 (aV ?_))|(refine rg 1 (mW rfl (nV ?_));refine lW T rfl (cO (cN T rfl) rfl (bC T rfl rfl rfl rfl rfl rfl (by decide) rfl ?_)))|(refine rg 2 (mW rfl (nV ?_));refine iK T rfl (vV (kC (hc)) (fW T rfl (bC T rfl rfl rfl rfl rfl rfl (by decide) rfl ?_))))|(refine rg 3 (aV ?_))|refine nZ ?_));all_goals exact ⟨.inl rfl,[0,1],_,rfl,rfl,rfl,⟨.inr rfl,.inr rfl,trivial⟩,by decide,O6 _⟩
theorem JW (c:Cx) (t:Tr) (x:Sl) (h:jZ c t) (hb:c.bs.length≤1000) (hn:t.seen.length≤100000) (hq:t.ord.length≤100000) (hm:t.sales.length≤100000) :
  aM Tryz.prog 41 [.ptr 0 0,.agg (yW4 x)] (GF c t) (.i (pK c t x)) (if pK c t x=0 then M3 c (uG t x) else GF c t):=by
 have hgl:t.gs.length≤12:=bL h.lk.gk.mid.out.len h.lk.gk.mid.out.ln;have hcs:=DE c t x;have hlast:=yC3 (t:=t);unfold uG;generalize pK c t x=code at *;generalize EI t=lt at *;obtain ⟨gs,seen,sales,ord⟩:=t;obtain ⟨xt,xo,xb,xn⟩:=x;dsimp only at *;have hel:=sY seen;have hol:=A7 ord;have hsl:=sU c sales;have hbl:(fL c.bs).length=c.bs.length:=aU _;have e1:rG c (sales++[⟨⟨xt,xo,xb,xn⟩,gs,seen.length⟩])=rG c sales++[[.i xt,.i xo,.i xb,.i xn,.pr (jY c gs) 0,.i (seen.length:Int)]]:=by rw [rG,bU];rfl
 have e2:uT (ord++[true])=uT ord++[[.b true]]:=by rw [uT,bU];rfl
 have l1:(sales++[(⟨⟨xt,xo,xb,xn⟩,gs,seen.length⟩:Sd)]).length=sales.length+1:=by simp
 have l2:(ord++[true]).length=ord.length+1:=by simp
 have i2:=cW (ord++[true]);have hcp:=yH2 c gs (by omega)
 refine bS T Tryz.func41 rfl rfl rfl rfl ?_
 (repeat' (first|refine wS ?_|refine wB ?_|(refine rg 0 (cO (dR rfl rfl) rfl (aV ?_)))|(refine rg 1 (mW rfl (nV ?_));refine iK T rfl (qW T rfl (aV ?_)))|refine nZ ?_));refine iG 3 (cs:=yW4 ⟨xt,xo,xb,xn⟩) rfl rfl rfl ?_
 rcases hcs with ⟨he,c1⟩ | ⟨c1,hcs⟩
 ·subst he
  (repeat' (first|refine wS ?_|refine wR ?_|refine wT ?_|(refine wC rfl ?_ ?_<;>(intro hb;(try simp only [nm] at hb);try omega))|(refine cH (id:=2) 100 xN0 [12,13,14,15,16,17,18,19,20,21,22,23,24,11] xN1 cP rfl (by decide +kernel) (dP T rfl (dO T rfl (dV rfl (aK rfl rfl) (dM ?_))));(refine rY rfl rfl rfl rfl ?_ ?_<;>(intro hb;rw [hb];(try simp only [nm] at hb);try omega)<;>first|(refine tF T ?_)|(refine dG ?_));(all_goals first|(refine tL T ?_)|(refine dG ?_));(all_goals first|(refine tM ?_)|(refine dG ?_));(all_goals first|(refine dT rfl (by exact cF rfl rfl) ?_)|(refine dG ?_));(all_goals first|(refine tF T ?_)|(refine dG ?_));(all_goals first|(refine tL T ?_)|(refine dG ?_));(all_goals first|(refine dT rfl (mZ T rfl rfl) ?_)|(refine dG ?_));(all_goals first|(refine dT rfl (iR rfl rfl) ?_)|(refine dG ?_));(all_goals (refine dV rfl (by first|exact jE rfl rfl|exact iM rfl rfl) ?_;refine dV rfl (eD rfl) (dE ?_))))|(refine rg 3 (aV ?_))|refine nZ ?_));all_goals try omega
  all_goals exact ⟨.inl rfl,[0,1,2,3,4],_,rfl,rfl,rfl,⟨.inr rfl,.inr rfl,.inr (aC rfl rfl (cT _)),.inr (aC rfl rfl (cX _ _)),.inr (aC rfl rfl (cW _)),trivial⟩,by decide,yB6⟩
 (repeat' (first|refine wS ?_|(refine wC rfl ?_ ?_<;>(intro hb;(try simp only [nm] at hb);try omega))|(refine cH (id:=2) 100 xN0 [12,13,14,15,16,17,18,19,20,21,22,23,24,11] xN1 cP rfl (by decide +kernel) (dP T rfl (dO T rfl (dV rfl (aK rfl rfl) (dM ?_))));refine rY rfl rfl rfl rfl ?_ ?_<;>(intro hb;rw [hb];(try simp only [nm] at hb);try omega)<;>(refine tF T ?_);(all_goals (refine tO T rfl (tN rfl (dT rfl (by exact cF rfl rfl) ?_));refine tP T rfl (tO T rfl (dT rfl (mZ T rfl rfl) (dT rfl (iR rfl rfl) (dV rfl (iM rfl rfl) (dV rfl (eD rfl) (dE ?_)))))))))|refine nZ ?_));all_goals try omega
 rcases hcs with ⟨he,c2⟩ | ⟨c2,hcs⟩
 ·subst he
  (repeat' (first|refine wS ?_|refine wR ?_|refine wT ?_|(refine wC rfl ?_ ?_<;>(intro hb;(try simp only [nm] at hb);try omega))|(refine rg 4 (iK T rfl (vV (aK rfl rfl) (mV ?_)));refine cD rfl rfl ?_ ?_<;>(intro hb;rw [hb];(try simp only [nm] at hb);try omega);(all_goals first|(refine gT (fW T rfl (gT (lW T rfl (gT (vV (fK rfl rfl) ?_))))))|(iterate 3 refine gF ?_));(all_goals (refine pW rfl (mV ?_)));(all_goals first|(refine gK ?_)|(refine cD rfl rfl ?_ ?_<;>(intro hb;rw [hb];(try simp only [nm] at hb);try omega)));(all_goals first|(refine gT (fW T rfl (gT (lW T rfl (gT (vV (aK rfl rfl) ?_))))))|(iterate 3 refine gF ?_));(all_goals (refine pW rfl (mV ?_)));(all_goals first|(refine gK ?_)|(refine cD rfl rfl ?_ ?_<;>(intro hb;rw [hb];(try simp only [nm] at hb);try omega)));(all_goals first|(refine gT (fW T rfl (gT (lW T rfl (gT (vV (aK rfl rfl) ?_))))))|(iterate 3 refine gF ?_));(all_goals (refine pW rfl (mV ?_)));(all_goals first|(refine gK ?_)|(refine cD rfl rfl ?_ ?_<;>(intro hb;rw [hb];(try simp only [nm] at hb);try omega)));(all_goals first|(refine gT (fW T rfl (gT (lW T rfl (gT (vV (fK rfl rfl) ?_))))))|(iterate 3 refine gF ?_));(all_goals (refine pW rfl (aV ?_))))|(refine rg 5 (aV ?_))|refine nZ ?_));all_goals try omega
  all_goals exact ⟨.inl rfl,[0,1,2,3,4],_,rfl,rfl,rfl,⟨.inr rfl,.inr rfl,.inr (aC rfl rfl (cT _)),.inr (aC rfl rfl (cX _ _)),.inr (aC rfl rfl (cW _)),trivial⟩,by decide,yB6⟩
 (repeat' (first|refine wS ?_|(refine wC rfl ?_ ?_<;>(intro hb;(try simp only [nm] at hb);try omega))|(refine rg 4 (iK T rfl (vV (aK rfl rfl) (mV ?_)));refine cD rfl rfl ?_ ?_<;>(intro hb;rw [hb];(try simp only [nm] at hb);try omega);(all_goals (refine yP T rfl (yO T rfl (yV (fK rfl rfl) (pW rfl (mV ?_))));refine cD rfl rfl ?_ ?_<;>(intro hb;rw [hb];(try simp only [nm] at hb);try omega)));(all_goals (refine yP T rfl (yO T rfl (yV (aK rfl rfl) (pW rfl (mV ?_))));refine cD rfl rfl ?_ ?_<;>(intro hb;rw [hb];(try simp only [nm] at hb);try omega)));(all_goals (refine yP T rfl (yO T rfl (yV (aK rfl rfl) (pW rfl (mV ?_))));refine cD rfl rfl ?_ ?_<;>(intro hb;rw [hb];(try simp only [nm] at hb);try omega)));(all_goals (refine yP T rfl (yO T rfl (yV (fK rfl rfl) (pW rfl (aV ?_)))))))|refine nZ ?_));all_goals try omega
 rcases hcs with ⟨he,c3,c4⟩ | ⟨c3,hcs⟩
 ·obtain ⟨y,hy,rfl⟩:=hlast c3;have qy:=zH2 (c:=c) (j:=(sales.length:Int)-1) hy (by omega)
  subst he
  (repeat' (first|refine wS ?_|refine wR ?_|(refine wC rfl ?_ ?_<;>(intro hb;(try simp only [nm] at hb);try omega))|(refine cH (id:=6) 100 xN2 [50,51,52,53,54,55,56,57,58,59,60,61,62,63,64,65,66,49] xN3 cP rfl (by decide +kernel) (dN rfl (dV rfl (fK rfl rfl) (dM ?_)));refine rY rfl rfl rfl rfl ?_ ?_<;>(intro hb;rw [hb];(try simp only [nm] at hb);try omega)<;>(refine tF T ?_);(all_goals (refine tO T rfl (tN rfl (dT rfl (by exact cF rfl rfl) ?_));refine tP T rfl (tO T rfl (tN rfl (dT rfl (dC rfl rfl (by omega) (by omega)) (dT rfl (by exact aT T rfl rfl rfl rfl rfl (by omega) (by omega)) ?_))));refine tP T rfl (tP T rfl (dT rfl (by exact bA T rfl rfl (bX rfl qy) rfl) ?_));refine dT rfl (aK rfl rfl) (dV rfl (jE rfl rfl) (dV rfl (eD rfl) (dE ?_))))))|(refine rg 7 (aV ?_))|refine nZ ?_));all_goals try omega
  all_goals exact ⟨.inl rfl,[0,1,2,3,4],_,rfl,rfl,rfl,⟨.inr rfl,.inr rfl,.inr (aC rfl rfl (cT _)),.inr (aC rfl rfl (cX _ _)),.inr (aC rfl rfl (cW _)),trivial⟩,by decide,yB6⟩
 apply Go.Ab.cutT
 ·intro rest;by_cases hs0:0<sales.length
  ·obtain ⟨y,hy,rfl⟩:=hlast hs0;have qy:=zH2 (c:=c) (j:=(sales.length:Int)-1) hy (by omega)
   have c5:¬ xt<y.s.t:=fun q=>c3 ⟨hs0,q⟩
   (repeat' (first|refine wS ?_|(refine wC rfl ?_ ?_<;>(intro hb;(try simp only [nm] at hb);try omega))|(refine cH (id:=6) 100 xN2 [50,51,52,53,54,55,56,57,58,59,60,61,62,63,64,65,66,49] xN3 cP rfl (by decide +kernel) (dN rfl (dV rfl (fK rfl rfl) (dM ?_)));refine rY rfl rfl rfl rfl ?_ ?_<;>(intro hb;rw [hb];(try simp only [nm] at hb);try omega)<;>(refine tF T ?_);(all_goals (refine tO T rfl (tN rfl (dT rfl (by exact cF rfl rfl) ?_));refine tP T rfl (tO T rfl (tN rfl (dT rfl (dC rfl rfl (by omega) (by omega)) (dT rfl (by exact aT T rfl rfl rfl rfl rfl (by omega) (by omega)) ?_))));refine tP T rfl (tP T rfl (dT rfl (by exact bA T rfl rfl (bX rfl qy) rfl) ?_));refine dT rfl (aK rfl rfl) (dV rfl (jE rfl rfl) (dV rfl (eD rfl) (dE ?_))))))|refine nZ ?_));all_goals try omega
   all_goals exact fF [(0,.ptr 0 0),(3,.pr [.i xt,.i xo,.i xb,.i xn] 0),(5,.i (sales.length:Int))] [.cells (xA5 c seen.length sales.length ord.length),.cells (jY c gs),.arr (nQ seen) 5,.arr (rG c sales) 6,.arr (uT ord) 1] ⟨[0,1,2,3,4],rfl,(by repeat first|exact trivial|refine ⟨rfl,?_⟩),⟨.inr rfl,.inr rfl,.inr (aC rfl rfl (cT _)),.inr (aC rfl rfl (cX _ _)),.inr (aC rfl rfl (cW _)),trivial⟩,by decide,yB6⟩ rest.get
  ·(repeat' (first|refine wS ?_|refine T8 rfl ?_|(refine cH (id:=6) 100 xN2 [50,51,52,53,54,55,56,57,58,59,60,61,62,63,64,65,66,49] xN3 cP rfl (by decide +kernel) (dN rfl (dV rfl (fK rfl rfl) (dM ?_)));refine rY rfl rfl rfl rfl (fun hb=>?_) (fun hb=>?_) <;> ((rw [hb];(try simp only [nm] at hb);try ((exfalso;omega);done))) <;> (refine dG ?_);(all_goals (refine tG rfl (tG rfl (tG rfl (tG rfl (tG rfl (tG rfl (tG rfl (tG rfl (tG rfl (dG ?_)))))))));refine tG rfl (tG rfl (dV rfl (iM rfl rfl) (dV rfl (eD rfl) (dE ?_)))))))|(refine nZ ?_)));all_goals try omega
   all_goals exact fF [(0,.ptr 0 0),(3,.pr [.i xt,.i xo,.i xb,.i xn] 0),(5,.i (sales.length:Int))] [.cells (xA5 c seen.length sales.length ord.length),.cells (jY c gs),.arr (nQ seen) 5,.arr (rG c sales) 6,.arr (uT ord) 1] ⟨[0,1,2,3,4],rfl,(by repeat first|exact trivial|refine ⟨rfl,?_⟩),⟨.inr rfl,.inr rfl,.inr (aC rfl rfl (cT _)),.inr (aC rfl rfl (cX _ _)),.inr (aC rfl rfl (cW _)),trivial⟩,by decide,yB6⟩ rest.get
 rcases hcs with ⟨he,c4⟩ | ⟨he,c4⟩
 ·subst he
  (repeat' (first|refine wS ?_|refine wR ?_|(refine wC rfl ?_ ?_<;>(intro hb;(try simp only [nm] at hb);try omega))|(refine rg 8 (mW rfl (vV (iR rfl rfl) (aV ?_))))|(refine rg 9 (aV ?_))|refine nZ ?_));all_goals try omega
  all_goals exact ⟨.inl rfl,[0,1,2,3,4],_,rfl,rfl,rfl,⟨.inr rfl,.inr rfl,.inr (aC rfl rfl (cT _)),.inr (aC rfl rfl (cX _ _)),.inr (aC rfl rfl (cW _)),trivial⟩,by decide,yB6⟩
 ·subst he;rw [if_pos rfl];unfold M3;dsimp only;rw [l1,l2]
  (repeat' (first|refine wS ?_|refine wK ?_|(refine wC rfl ?_ ?_<;>(intro hb;(try simp only [nm] at hb);try omega))|(refine rg 8 (mW rfl (vV (iR rfl rfl) (aV ?_))))|(refine lY (id:=10) 100 [[],[],[],[2],[2,3],[2,3,4],[],[],[7],[7,8],[7,8,9],rM 7 4,[],[12],[12,13],[12,13,14],rM 12 4,rM 6 11,rM 6 12,rM 2 17,[],[20],[20,21],[20,21,22],[],rM 2 23,[0,2,3,4,5,6,7,8,9,10,11,12,13,14,15,16,17,18,19,20,21,22,23,24,25],[0,2,3,4,5,6,7,8,9,10,11,12,13,14,15,16,17,18,19,20,21,22,23,24,25,26],[0,2,3,4,5,6,7,8,9,10,11,12,13,14,15,16,17,18,19,20,21,22,23,24,25,26,27],rN 29,rN 30,rN 31] (rM 70 30) [[],[70],[70,71],[70,71],[70,71],[70,71],rM 70 6,rM 70 7,rM 70 7,rM 70 7,rM 70 7,rM 70 7,rM 70 12,rM 70 12,rM 70 12,rM 70 12,rM 70 12,rM 70 6,rM 70 6,[70,71],rM 70 20,rM 70 20,rM 70 20,rM 70 20,rM 70 24,[70,71],[71],[71],[71],[],[],[]] [(11,1),(19,3),(25,4),(28,0),(31,0)] cP rfl (by decide +kernel) (cQ rfl rfl rfl rfl (by exact bV rfl) ?_);refine cQ rfl rfl rfl rfl (by exact bV rfl) ?_;refine cQ rfl rfl rfl rfl (by exact bV rfl) ?_;refine cQ rfl rfl rfl rfl (by exact cF rfl rfl) ?_;refine cQ rfl rfl rfl rfl (by exact bR T rfl rfl rfl) ?_;refine cQ rfl rfl rfl rfl (by exact bA T rfl rfl rfl rfl) ?_;refine cQ rfl rfl rfl rfl (by exact bA T rfl rfl rfl rfl) ?_;refine cQ rfl rfl rfl rfl (by exact bV rfl) ?_;refine cQ rfl rfl rfl rfl (by exact cF rfl rfl) ?_;refine cQ rfl rfl rfl rfl (by exact bR T rfl rfl rfl) ?_;refine cQ rfl rfl rfl rfl (by exact bA T rfl rfl rfl rfl) ?_;refine oT rfl rfl rfl rfl (aI rfl) (by exact tX [1] rfl rfl hcp (fun _=>rfl) rfl (by decide) (fun _=>⟨.inr rfl,trivial⟩) (by simp) rfl (fun _ _=>rfl) rfl rfl) ?_;refine cQ rfl rfl rfl rfl (by exact bV rfl) ?_;refine cQ rfl rfl rfl rfl (by exact cF rfl rfl) ?_;refine cQ rfl rfl rfl rfl (by exact bR T rfl rfl rfl) ?_;refine cQ rfl rfl rfl rfl (by exact bA T rfl rfl rfl rfl) ?_;refine cQ rfl rfl rfl rfl (by exact Z0 T rfl rfl) ?_;refine cQ rfl rfl rfl rfl (by exact eT T rfl rfl rfl rfl) ?_;refine B9 rfl rfl rfl rfl (by exact bG T rfl rfl (by decide) (by decide) rfl rfl rfl) rfl ?_;refine oT rfl rfl rfl rfl (aI rfl) (by exact oC T rfl rfl rfl rfl rfl rfl (by omega) (kK.whole rfl rfl) rfl (by simp;omega) (by simp;omega)) ?_;refine cQ rfl rfl rfl rfl (by exact bV rfl) ?_;refine cQ rfl rfl rfl rfl (by exact cF rfl rfl) ?_;refine cQ rfl rfl rfl rfl (by exact bR T rfl rfl rfl) ?_;refine cQ rfl rfl rfl rfl (by exact bA T rfl rfl rfl rfl) ?_;refine B9 rfl rfl rfl rfl (by exact bG T rfl rfl (by decide) (by decide) rfl rfl rfl) rfl ?_;refine oT rfl rfl rfl rfl (aI rfl) (by exact oC T rfl rfl rfl rfl rfl rfl (by omega) (kK.whole rfl rfl) rfl (by simp;omega) (by simp;omega)) ?_;refine cQ rfl rfl rfl rfl (by exact cF rfl rfl) ?_;refine cQ rfl rfl rfl rfl (by exact bR T rfl rfl rfl) ?_;refine F5 rfl rfl rfl rfl (aI rfl) T rfl rfl rfl rfl rfl rfl (by decide) rfl ?_;refine cQ rfl rfl rfl rfl (by exact cF rfl rfl) ?_;refine cQ rfl rfl rfl rfl (by exact bR T rfl rfl rfl) ?_;refine F5 rfl rfl rfl rfl (aI rfl) T rfl rfl rfl rfl rfl rfl (by decide) rfl ?_;refine qK rfl rfl rfl (by exact rfl) ?_)|refine nZ ?_));all_goals try omega
  refine fF [] [.cells [.rowE (kE c.ls) 3,.rowE (fL c.bs) 3,.ptr 1 0,.sl 2 0 seen.length 5,.sl 5 0 (sales.length+1) 6,.sl 6 0 (ord.length+1) 1],.cells (jY c gs),.arr (nQ seen) 5,.gone,.gone,.arr (rG c sales++[[.i xt,.i xo,.i xb,.i xn,.ptr 7 0,.i (seen.length:Int)]]) 6,.arr (uT (ord++[true])) 1,.cells (jY c gs)] ⟨[0,1,2,3,4,7,9,5],rfl,trivial,⟨.inr rfl,.inr rfl,.inr (aC rfl rfl (cT _)),.inl rfl,.inl rfl,.inr (zP7 rfl (by rw [jJ];exact bO (by omega)) rfl (cX _ _)),.inr (aC rfl (by rw [e2];exact jW hol.symm) i2),.inr rfl,trivial⟩,by decide,xC7 _ _ _⟩ ?_
  refine zB3 5 ((rG c sales).flatten.length+4) (rG c (sales++[⟨⟨xt,xo,xb,xn⟩,gs,seen.length⟩])) rfl (by decide) (by simp) yF3 rfl rfl (P8 _ _) (by rw [e1];exact yF0) ?_
  (repeat' (first|refine wR ?_|(refine rg 11 (aV ?_))|refine nZ ?_));all_goals try omega
  all_goals exact ⟨.inl rfl,[0,1,2,3,4,5,6],_,rfl,rfl,rfl,⟨.inr rfl,.inr rfl,.inr (aC rfl rfl (cT _)),.inl rfl,.inl rfl,.inr (aC rfl rfl (cX _ _)),.inr (aC rfl rfl (cW _)),trivial⟩,by decide,yB5 _ _⟩
theorem zD7 (c:Cx) (t:Tr) (hm:t.sales.length≤100000):aM Tryz.prog 15 [.pr (GB c t) 0] [] (.sl 0 0 t.sales.length 4) [.arr (E0 (t.sales.map (·.s))) 4]:=by
 obtain ⟨gs,seen,sales,ord⟩:=t;dsimp only at *;have hsl:=sU c sales;refine bS T Tryz.func15 rfl rfl rfl rfl ?_
 (repeat' (first|refine wS ?_|(refine rg 0 (aV ?_))|refine nZ ?_));all_goals try omega
 (repeat' (first|refine wS ?_|(refine rg 1 (vV (eD rfl) (oF 3 4 rfl (by decide) ?_)))|refine nZ ?_));all_goals try omega
 (repeat' (first|refine wB ?_|(refine rg 2 (mW rfl (nV ?_));refine iK T rfl (qW T rfl (mV ?_)))|refine nZ ?_));all_goals try omega
 refine dI (X:={k:Nat // k≤sales.length}) (fun k=>[(3,.sl 0 0 k.1 4),(9,.rowE (rG c sales) 6),(10,.i (rG c sales).length),(11,.i k.1)]) (fun k=>[.arr (E0 ((sales.take k.1).map (·.s))) 4]) (fun k=>sales.length-k.1) ⟨0,bZ _⟩ ⟨[0],rfl,(by repeat first|exact trivial|refine ⟨rfl,?_⟩),⟨.inr rfl,trivial⟩,by decide,jP _⟩ ?_
 rintro ⟨k,hk⟩;dsimp only;by_cases hlt:k<sales.length
 ·have hg:=DG (c:=c) (j:=(k:Int)) (aB hlt) rfl;have e1:E0 ((sales.take (k+1)).map (·.s))=E0 ((sales.take k).map (·.s))++[yW4 sales[k].s]:=by rw [aL hlt,bU,E0,bU];rfl
  have hl:(E0 ((sales.take k).map (·.s))).length=k:=by rw [DC,aU,aY];omega
  have i1:=H7 ((sales.take (k+1)).map (·.s));generalize E0 ((sales.take k).map (·.s))=A at *;generalize sales[k]=x at *;obtain ⟨⟨xt,xo,xb,xn⟩,xg,xm⟩:=x;dsimp only at *
  (repeat' (first|refine wS ?_|refine wB ?_|refine wK ?_|(refine wC rfl ?_ ?_<;>(intro hb;(try simp only [nm] at hb);try omega))|(refine rg 3 (vV (aK rfl rfl) ?_))|(refine rg 4 (vV (ix T rfl (by omega) (P8 _ _) hg) (lW T rfl (cO (cN T rfl) rfl (bC T rfl rfl rfl rfl rfl rfl (by decide) rfl ?_)))))|refine nZ ?_));all_goals try omega
  refine iG 5 (cs:=zY7 c ⟨⟨xt,xo,xb,xn⟩,xg,xm⟩) rfl rfl rfl ?_
  (repeat' (first|(refine rg 5 (mW rfl (iK T rfl (cO (by exact bG T rfl rfl (by decide) (by decide) rfl rfl rfl) rfl ?_)));refine gJ T rfl rfl rfl rfl rfl rfl (by omega) (kK.whole rfl rfl) rfl (by simp;omega) (by simp;omega) rfl ?_;refine aV ?_)|(refine rg 6 (vV (cK rfl rfl (by omega) (by omega)) (mV ?_)))|refine nZ ?_));all_goals try omega
  all_goals exact ⟨⟨k+1,hlt⟩,by dsimp only;omega,⟨[3],rfl,(by repeat first|exact trivial|refine ⟨rfl,?_⟩),⟨.inr (aC rfl (by dsimp only;rw [e1];exact jW hl.symm) i1),trivial⟩,by decide,jP _⟩⟩
 ·obtain rfl:k=sales.length:=by omega
  rw [cM]
  (repeat' (first|refine wS ?_|refine wR ?_|refine wE ?_|(refine wC rfl ?_ ?_<;>(intro hb;(try simp only [nm] at hb);try omega))|(refine rg 3 (vV (aK rfl rfl) ?_))|(refine rg 7 (mW rfl (aV ?_)))|refine nZ ?_));all_goals try omega
  exact ⟨.inl rfl,[0],_,rfl,rfl,rfl,⟨.inr (aC rfl rfl (H7 _)),trivial⟩,by decide,jP _⟩
end Go.Proofs.Q
namespace Go.Ld
theorem TD (c:Cx) (gs:List G) (s:Ev) (L:List Ev):wW c gs (s::L)=(!decide ((fI c gs s).1=26)&&wW c (fI c gs s).2 L):=rfl
def KH (c:Cx):List G→List Ev→List G
 | gs,[]=>gs
 | gs,s::L=>if (fI c gs s).1=26 then (fI c gs s).2 else KH c (fI c gs s).2 L
def KX (c:Cx):List G→List Ev→Nat→Int
 | _,[],_=>-1
 | gs,s::L,k=>if (fI c gs s).1=26 then (k:Int) else KX c (fI c gs s).2 L (k+1)
theorem HK (c:Cx) (gs:List G) (s:Ev) (L:List Ev):KH c gs (s::L)=if (fI c gs s).1=26 then (fI c gs s).2 else KH c (fI c gs s).2 L:=rfl
theorem Y8 (c:Cx) (gs:List G) (s:Ev) (L:List Ev) (k:Nat):KX c gs (s::L) k=if (fI c gs s).1=26 then (k:Int) else KX c (fI c gs s).2 L (k+1):=rfl
theorem WD {c:Cx}:∀ {L:List Ev}{gs:List G}{k:Nat},decide (0≤KX c gs L k) = !wW c gs L
 | [],gs,k=>by simp [KX,wW]
 | s::L,gs,k=>by
  rw [Y8,TD];by_cases h:(fI c gs s).1=26
  ·rw [if_pos h,decide_eq_true h];simp
  ·rw [if_neg h,decide_eq_false h,WD];simp
end Go.Ld
namespace Go.Proofs.Q
open Go Go.Ab Go.Ld
attribute [local irreducible] VC AW bW aM iU wD
abbrev GK (c:Cx) (gs:List G):Hp:=[.cells [.ptr 1 0],.cells (jY c gs)]
theorem YY:∀ i:Nat,i<2→([0,1]:List Nat)[i]? = some i:=by decide
theorem QD (c:Cx) (gs:List G) (s:Ev) (hc:iZ c) (h:qH c gs) (hids:s.ids.length≤9223372036854775807) :
  aM Tryz.prog 78 [yY8 s,.ptr 0 0] (GK c gs) (.b (decide ((fI c gs s).1=26))) (GK c (fI c gs s).2):=by
 have hse:=zH0 c gs s hc h hids;generalize fI c gs s=R at *;obtain ⟨code,gs'⟩:=R;dsimp only at *;refine bS T Tryz.func78 rfl rfl rfl rfl ?_
 (repeat' (first|refine wS ?_|(refine rg 0 (cO (dR rfl rfl) rfl (aV ?_)))|refine nZ ?_));refine iG 2 (cs:=C9 s) rfl rfl rfl ?_
 (repeat' (first|refine wR ?_|(refine rg 1 (lW T rfl (lW T rfl (bT [1] rfl rfl (hse) rfl rfl (by decide) ⟨.inr rfl,trivial⟩ (by simp) rfl ?_)));refine vV (fB rfl rfl) (aV ?_))|refine nZ ?_));all_goals try omega
 all_goals exact ⟨.inl rfl,[0,1],_,rfl,rfl,rfl,⟨.inr rfl,.inr rfl,trivial⟩,by decide,YY⟩
theorem ZY (c:Cx) (gs:List G) (b i:Int) (hc:iZ c) (h:qH c gs) :
  aM Tryz.prog 78 [.agg [.i 5,.i b,.i 0,.i i,.nils],.ptr 0 0] (GK c gs) (.b (decide ((fI c gs (pL b i)).1=26))) (GK c (fI c gs (pL b i)).2):=
 JL (QD c gs (pL b i) hc h (bZ _)) fun S w ρ ys=>mH (fun _ h=>RG h) fun _ h=>h
theorem yC8 (c:Cx) (gs:List G) (L:List Ev) (hc:iZ c) (h:qH c gs) (hl:L.length≤100000) (hids:∀ s,s∈L→s.ids.length≤9223372036854775807) :
  aM Tryz.prog 119 [.rowE (nQ L) 5,.clo (.func 78) [] [.ptr 0 0]] (GK c gs) (.i (KX c gs L 0)) (GK c (KH c gs L)):=by
 have hel:=sY L;have hm0:=hc.s.1;have hm1:=hc.s.2.1;refine bS T Tryz.func119 rfl rfl rfl rfl ?_
 (repeat' (first|refine wS ?_|refine wB ?_|(refine rg 0 (aV ?_))|(refine rg 1 (mW rfl (qW T rfl (mV ?_))))|refine nZ ?_));refine dI (X:={x:Nat × List G // x.1≤L.length∧qH c x.2∧KH c gs L=KH c x.2 (L.drop x.1)∧KX c gs L 0=KX c x.2 (L.drop x.1) x.1}) (fun x=>[(0,.rowE (nQ L) 5),(1,.clo (.func 78) [] [.ptr 0 0]),(7,.i (nQ L).length),(8,.i x.1.1)]) (fun x=>GK c x.1.2) (fun x=>L.length-x.1.1) ⟨(0,gs),bZ _,h,rfl,rfl⟩ ⟨[0,1],rfl,(by repeat first|exact trivial|refine ⟨rfl,?_⟩),⟨.inr rfl,.inr rfl,trivial⟩,by decide,YY⟩ ?_
 rintro ⟨⟨k,g⟩,hk,hg,hok,hix⟩;dsimp only at hk hg hok hix ⊢;rw [hok,hix];by_cases hlt:k<L.length
 ·have hgt:=QE hlt;have hfc:=QD c g L[k] hc hg (hids _ (aO hlt));have hg2:=KG (s:=L[k]) hg hm0 hm1;rw [aP hlt,HK] at hok;rw [aP hlt,Y8] at hix;rw [aP hlt,HK,Y8];generalize L[k]=s at *;generalize fI c g s=R at *;obtain ⟨code,g'⟩:=R;dsimp only at *;by_cases h26:code=26
  ·rw [decide_eq_true h26] at hfc;rw [if_pos h26,if_pos h26]
   (repeat' (first|refine wS ?_|refine wB ?_|refine wK ?_|refine wR ?_|refine wT ?_|(refine wC rfl ?_ ?_<;>(intro hb;(try simp only [nm] at hb);try omega))|(refine rg 2 (vV (aK rfl rfl) ?_))|(refine rg 3 (mW rfl (aV ?_)))|(refine rg 4 (dJ rfl (mW rfl (vV (ix T rfl (by omega) (tD _) hgt) (lW T rfl (bT [0,1] rfl rfl (hfc) rfl rfl (by decide) ⟨.inr rfl,.inr rfl,trivial⟩ (by simp) rfl ?_))))))|(refine rg 5 (mW rfl (aV ?_)))|refine nZ ?_));all_goals try omega
   all_goals exact ⟨.inl rfl,[0,1],_,rfl,rfl,rfl,⟨.inr rfl,.inr rfl,trivial⟩,by decide,YY⟩
  ·rw [decide_eq_false h26] at hfc;rw [if_neg h26] at hok hix;rw [if_neg h26,if_neg h26];rw [← hok,← hix]
   (repeat' (first|refine wS ?_|refine wB ?_|refine wK ?_|refine wU ?_|(refine wC rfl ?_ ?_<;>(intro hb;(try simp only [nm] at hb);try omega))|(refine rg 2 (vV (aK rfl rfl) ?_))|(refine rg 3 (mW rfl (aV ?_)))|(refine rg 4 (dJ rfl (mW rfl (vV (ix T rfl (by omega) (tD _) hgt) (lW T rfl (bT [0,1] rfl rfl (hfc) rfl rfl (by decide) ⟨.inr rfl,.inr rfl,trivial⟩ (by simp) rfl ?_))))))|(refine rg 6 (vV (cK rfl rfl (by omega) (by omega)) (mV ?_)))|refine nZ ?_));all_goals try omega
   all_goals exact ⟨⟨(k+1,g'),hlt,hg2,hok,hix⟩,by dsimp only;omega,⟨[0,1],rfl,(by repeat first|exact trivial|refine ⟨rfl,?_⟩),⟨.inr rfl,.inr rfl,trivial⟩,by decide,YY⟩⟩
 ·have e:L.drop k=[]:=cY (by omega)
  rw [e]
  (repeat' (first|refine wS ?_|refine wR ?_|refine wE ?_|(refine wC rfl ?_ ?_<;>(intro hb;(try simp only [nm] at hb);try omega))|(refine rg 2 (vV (aK rfl rfl) ?_))|(refine rg 7 (aV ?_))|refine nZ ?_));all_goals try omega
  all_goals exact ⟨.inl rfl,[0,1],_,rfl,rfl,rfl,⟨.inr rfl,.inr rfl,trivial⟩,by decide,YY⟩
theorem zN6 (c:Cx) (gs:List G) (L:List Ev) (hc:iZ c) (h:qH c gs) (hl:L.length≤100000) (hids:∀ s,s∈L→s.ids.length≤9223372036854775807) :
  aM Tryz.prog 79 [.rowE (nQ L) 5,.clo (.func 78) [] [.ptr 0 0]] (GK c gs) (.b (!wW c gs L)) (GK c (KH c gs L)):=by
 have hix:=yC8 c gs L hc h hl hids;have hok:=WD (c:=c) (L:=L) (gs:=gs) (k:=0);generalize KX c gs L 0=n at *;generalize KH c gs L=g' at *;rw [← hok];refine bS T Tryz.func79 rfl rfl rfl rfl ?_
 (repeat' (first|refine wS ?_|refine wR ?_|(refine rg 0 (aV ?_))|(refine rg 1 (dJ rfl (bT [0,1] rfl rfl (hix) rfl rfl (by decide) ⟨.inr rfl,.inr rfl,trivial⟩ (by simp) rfl ?_));refine vV (iR rfl rfl) (aV ?_))|refine nZ ?_));all_goals exact ⟨.inl rfl,[0,1],_,rfl,rfl,rfl,⟨.inr rfl,.inr rfl,trivial⟩,by decide,YY⟩
theorem zN3 {c:Cx}{g':List G}{pp:Nat}{h:Hp}(h2:h[2]? = some (.cells [.ptr 1 0])):∀ H:Hp,(∀ (j:Nat) b,h[j]? = some b→b≠.gone→H[j]? = some b)→C7 H [2,1] ((GK c g').map (AB.map (qE [2,1] pp)))=H.set 1 (.cells (jY c g')):=fun H hb=>by
 have h1:=hb 2 _ h2 (by simp)
 obtain ⟨h3,h4⟩:=aA.1 h1;show (H.set 2 (.cells [.ptr 1 0])).set 1 (.cells (jY c g'))=_;rw [← h4,List.set_getElem_self]
theorem zI5 (c:Cx) (t:Tr) (x:Sd) (i:Int) (hc:iZ c) (h:jZ c t) (hx:x∈t.sales) (hl:t.seen.length≤100000) (hids:∀ s,s∈t.seen→s.ids.length≤9223372036854775807) :
  aM Tryz.prog 46 [.pr (GB c t) 0,.agg (zY7 c x),.i i] [] (.b (L5 c t.seen x i)) []:=by
 obtain ⟨sb,sn,lk,ru⟩:=h.sd x hx;have hm0:=hc.s.1;have hm1:=hc.s.2.1;have hgl:x.gs.length≤12:=bL lk.gk.mid.out.len lk.gk.mid.out.ln;obtain ⟨gs,seen,sales,ord⟩:=t;obtain ⟨⟨xt,xo,xb,xn⟩,xg,xm⟩:=x;dsimp only at *;have hel:=sY seen;have hcp:=yH3 c xg (by omega)
 have hfc:=ZY c xg xb i hc lk.gk;have hg2:=KG (s:=pL xb i) lk.gk hm0 hm1;have e0:L5 c seen ⟨⟨xt,xo,xb,xn⟩,xg,xm⟩ i=(!decide ((fI c xg (pL xb i)).1=26)&&wW c (fI c xg (pL xb i)).2 (seen.drop xm)):=rfl;rw [e0];clear e0;generalize fI c xg (pL xb i)=R at *;obtain ⟨code,g'⟩:=R;dsimp only at *;have hhas:=zN6 c g' (seen.drop xm) hc hg2 (by rw [dK];omega) (fun s hs=>hids s (eB hs))
 refine bS T Tryz.func46 rfl rfl rfl rfl ?_
 (repeat' (first|refine wS ?_|(refine rg 0 (cO (dR rfl rfl) rfl (aV ?_)))|refine nZ ?_));refine iG 4 (cs:=zY7 c ⟨⟨xt,xo,xb,xn⟩,xg,xm⟩) rfl rfl rfl ?_
 (repeat' (first|refine wS ?_|(refine rg 1 (iK T rfl (cO (by exact gH rfl rfl hcp (.inr ⟨rfl,rfl,by simp⟩)) rfl ?_));refine cO (cN T rfl) rfl (bC T rfl rfl rfl rfl rfl rfl (by decide) rfl ?_))|(refine rg 2 (vV (by exact kT rfl rfl) ?_);refine aV ?_)|refine nZ ?_));by_cases h26:code=26
 ·rw [decide_eq_true h26] at hfc ⊢
  (repeat' (first|refine wR ?_|(refine lY (id:=3) 33 xN4 (rM 13 20) xN5 [(6,1)] cP rfl (by decide +kernel) (cQ rfl rfl rfl rfl (by exact bV rfl) ?_);refine cQ rfl rfl rfl rfl (by exact bR T rfl rfl rfl) ?_;refine cQ rfl rfl rfl rfl (by exact bR T rfl rfl rfl) ?_;refine cQ rfl rfl rfl rfl (by exact bA T rfl rfl rfl rfl) ?_;refine cQ rfl rfl rfl rfl (by exact bV rfl) ?_;refine cQ rfl rfl rfl rfl (by exact eT T rfl rfl rfl rfl) ?_;refine oT rfl rfl rfl rfl (aI rfl) (by exact tX [2,1] rfl rfl (qX hfc) (fun _=>rfl) rfl (by decide) (fun _=>⟨.inr rfl,.inr rfl,trivial⟩) (by simp) rfl (zN3 rfl) rfl rfl) ?_;refine cQ rfl rfl rfl rfl (by exact dS rfl) ?_;refine cQ rfl rfl rfl rfl (by exact bV rfl) ?_;refine xO rfl rfl rfl rfl rfl rfl ?_;refine xO rfl rfl rfl rfl rfl rfl ?_;refine xO rfl rfl rfl rfl rfl rfl ?_;refine xO rfl rfl rfl rfl rfl rfl ?_;refine xO rfl rfl rfl rfl rfl rfl ?_;refine xO rfl rfl rfl rfl rfl rfl ?_;refine xO rfl rfl rfl rfl rfl rfl ?_;refine xO rfl rfl rfl rfl rfl rfl ?_;refine xO rfl rfl rfl rfl rfl rfl ?_;refine xO rfl rfl rfl rfl rfl rfl ?_;refine cQ rfl rfl rfl rfl (by exact iM rfl rfl) ?_;refine qK rfl rfl rfl (by exact rfl) ?_;refine aV ?_)|refine nZ ?_));all_goals first|omega | exact rQ
 ·rw [decide_eq_false h26] at hfc ⊢;have hd:nQ (seen.drop xm)=(nQ seen).drop xm:=by unfold nQ;rw [xE9]
  rw [hd] at hhas;generalize wW c g' (seen.drop xm)=ok at *;generalize KH c g' (seen.drop xm)=g2 at *
  (repeat' (first|refine wR ?_|(refine lY (id:=3) 33 xN4 (rM 13 20) xN5 [(6,1),(17,1)] cP rfl (by decide +kernel) (cQ rfl rfl rfl rfl (by exact bV rfl) ?_);refine cQ rfl rfl rfl rfl (by exact bR T rfl rfl rfl) ?_;refine cQ rfl rfl rfl rfl (by exact bR T rfl rfl rfl) ?_;refine cQ rfl rfl rfl rfl (by exact bA T rfl rfl rfl rfl) ?_;refine cQ rfl rfl rfl rfl (by exact bV rfl) ?_;refine cQ rfl rfl rfl rfl (by exact eT T rfl rfl rfl rfl) ?_;refine oT rfl rfl rfl rfl (aI rfl) (by exact tX [2,1] rfl rfl (qX hfc) (fun _=>rfl) rfl (by decide) (fun _=>⟨.inr rfl,.inr rfl,trivial⟩) (by simp) rfl (zN3 rfl) rfl rfl) ?_;refine cQ rfl rfl rfl rfl (by exact dS rfl) ?_;refine cQ rfl rfl rfl rfl (by exact bV rfl) ?_;refine A4 rfl rfl rfl rfl rfl rfl (by exact bV rfl) ?_;refine A4 rfl rfl rfl rfl rfl rfl (by exact cF rfl rfl) ?_;refine A4 rfl rfl rfl rfl rfl rfl (by exact bR T rfl rfl rfl) ?_;refine A4 rfl rfl rfl rfl rfl rfl (by exact bA T rfl rfl rfl rfl) ?_;refine A4 rfl rfl rfl rfl rfl rfl (by exact bR T rfl rfl rfl) ?_;refine A4 rfl rfl rfl rfl rfl rfl (by exact bA T rfl rfl rfl rfl) ?_;refine A4 rfl rfl rfl rfl rfl rfl (by exact xM T rfl rfl rfl rfl rfl (by dsimp only;omega) (tD _)) ?_;refine A4 rfl rfl rfl rfl rfl rfl (by exact bV rfl) ?_;refine yG5 rfl rfl rfl rfl (aI rfl) rfl rfl (by exact tX [2,1] rfl rfl (qX hhas) (fun _=>rfl) rfl (by decide) (fun _=>⟨.inr rfl,.inr rfl,trivial⟩) (by simp) rfl (zN3 rfl) rfl rfl) ?_;refine A4 rfl rfl rfl rfl rfl rfl (by exact dS rfl) ?_;refine cQ rfl rfl rfl rfl (by exact jE rfl rfl) ?_;refine qK rfl rfl rfl (by exact rfl) ?_;refine aV ?_)|refine nZ ?_));all_goals try omega
  all_goals refine dU (.inl rfl) rfl (oM ?_)
  all_goals simp
theorem yQ5 (c:Cx) (t:Tr) (x:Sd) (i:Int) (hc:iZ c) (h:jZ c t) (hx:x∈t.sales) (hl:t.seen.length≤100000) (hids:∀ s,s∈t.seen→s.ids.length≤9223372036854775807) :
  aM Tryz.prog 45 [.i i,.pr [.pr (GB c t) 0] 0,.pr (zY7 c x) 0] [] (.b (!L5 c t.seen x i)) []:=by
 have hp:=zI5 c t x i hc h hx hl hids;generalize L5 c t.seen x i=v at *;refine bS T Tryz.func45 rfl rfl rfl rfl ?_
 (repeat' (first|refine wS ?_|refine wR ?_|(refine rg 0 (aV ?_))|(refine rg 1 (lW T rfl (lW T rfl (mW rfl (vV (kC (hp)) (vV (dS rfl) (aV ?_)))))))|refine nZ ?_));all_goals first|omega | exact rQ
theorem zY6 (c:Cx) (l:List Sd):AV.plnL (rG c l).flatten=true:=rR (fun _=>rfl) l
theorem WN (l:List Ev):AV.plnL (nQ l).flatten=true:=rR (fun _=>rfl) l
theorem yI1 (l:List Bool):AV.plnL (uT l).flatten=true:=rR (fun _=>rfl) l
theorem WF (c:Cx) (t:Tr) (k:Nat){x:Sd}(hc:iZ c) (h:jZ c t) (hk:t.sales[k]? = some x) (hl:t.seen.length≤100000) (hids:∀ s,s∈t.seen→s.ids.length≤9223372036854775807) :
  aM Tryz.prog 18 [.pr (GB c t) 0,.i (k:Int)] [] (.sl 0 0 (jM c t.seen x).length 1) [.arr (ints (jM c t.seen x)) 1]:=by
 have hx:=aQ hk;have hkl:k<t.sales.length:=(aA.1 hk).1;obtain ⟨sb,sn,lk,ru⟩:=h.sd x hx;obtain ⟨g,hg,hgm,hbg⟩:=ER (lk.gk.mid.find sb);have hp:=yO4 c x.gs x.s.b lk.gk hg;have hpl:=Q2 (g:=g) (i:=g.1.idxOf x.s.b);have hwl:=lk.gk.mid.wl g hgm;have e:K1 x=wQ g (g.1.idxOf x.s.b):=by unfold K1;rw [hg]
 rw [← e] at hp hpl;have hb:=fun i (_:i∈K1 x)=>yQ5 c t x i hc h hx hl hids;have hd:=JA (F:=45) (caps:=[.pr [.pr (GB c t) 0] 0,.pr (zY7 c x) 0]) (q:=fun i=>!L5 c t.seen x i) (K1 x) (by omega) rfl rfl hb
 have ek:mL (fun i=>!L5 c t.seen x i) (K1 x)=jM c t.seen x:=by unfold jM mL;simp
 rw [ek] at hd;have qk:=DG (c:=c) (j:=(k:Int)) hk rfl;have hsl:=sU c t.sales;generalize jM c t.seen x=R at *;generalize K1 x=Q at *;clear hb ek;have hql:(ints Q).length=Q.length:=dD _;refine bS T Tryz.func18 rfl rfl rfl rfl ?_
 (repeat' (first|refine wS ?_|(refine rg 0 (cO (dR rfl rfl) rfl (aV ?_)))|refine nZ ?_));refine iG 2 (cs:=[.pr (GB c t) 0]) rfl rfl rfl ?_
 (repeat' (first|refine wS ?_|refine wK ?_|(refine wC rfl ?_ ?_<;>(intro hb;(try simp only [nm] at hb);try omega))|(refine rg 1 (mW rfl (vV (aK rfl rfl) (mW rfl (yN rfl (yO T rfl (gT (nV ?_)))))));refine yP T rfl (yO T rfl (gT (qW T rfl (yV (iR rfl rfl) (pV ?_))))))|(refine rg 3 (lW T rfl (nV ?_));refine iK T rfl (mW rfl (vV (ix T rfl (by omega) (P8 _ _) qk) (lW T rfl (cO (cN T rfl) rfl (bC T rfl rfl rfl rfl rfl rfl (by decide) rfl ?_))))))|refine nZ ?_));all_goals try omega
 refine iG 5 (cs:=zY7 c x) rfl rfl rfl ?_
 (repeat' (first|refine wR ?_|(refine rg 4 (iK T rfl (fW T rfl (iK T rfl (cO (by exact gH rfl rfl hp (.inr ⟨rfl,rfl,by simp⟩)) rfl ?_))));refine vV (by exact kT rfl rfl) ?_;refine bT [2] rfl rfl hd rfl rfl (by decide) ⟨.inr (aC rfl (bB _ (bF _)) (bF _)),trivial⟩ (by simp) rfl ?_;refine aV ?_)|refine nZ ?_));all_goals try omega
 all_goals exact ⟨.inl rfl,[2],_,rfl,rfl,rfl,⟨.inr (aC rfl (bB _ (bF _)) (bF _)),trivial⟩,by decide,jP _⟩
theorem yD5 (c:Cx) (t:Tr) (k:Nat){x:Sd}(hc:iZ c) (h:jZ c t) (hk:t.sales[k]? = some x) (hl:t.seen.length≤100000) (hids:∀ s,s∈t.seen→s.ids.length≤9223372036854775807) :
  aM Tryz.prog 18 [.pr (GB c t) 0,.i (k:Int)] [] (.rowE (ints (jM c t.seen x)) 1) []:=
 kZ (dD _).symm (eX (bF _)) (WF c t k hc h hk hl hids)
end Go.Proofs.Q
