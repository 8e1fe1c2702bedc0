/-
  Texts of the logic and of the layer,in one module (part 7).
-/
import Derived.Test.YtmmmeebiobjnbaaGreatY6
set_option linter.unusedVariables false
set_option linter.unusedSimpArgs false
set_option linter.unnecessarySimpa false
namespace Go.Ld
open Go.Ab Go.Proofs.YtmmmeebiobjnbaaGreat
theorem yK0:∀ i:Nat,i<3→([0,1,2]:List Nat)[i]? = some i:=by decide
theorem zD9 {r:Int}{L:List AV}(h:AV.idfL L=true):AV.idfL [AV.pr [.i r] 0,.pr [.pr L 0] 0]=true:=by simp [AV.idfL,AV.idf,h]
theorem uI {h:Hp}{i:Nat}{θ:Nat→Nat}{cs:List AV}(hk:h[i]? = some (.cells cs)) (hi:AV.idfL cs=true):h[i]? = some ((AB.cells cs).map θ):=by
  rw [hk];show _=some (AB.cells (AV.mapL θ cs));rw [sW θ cs hi]
theorem HW {h:Hp}(x:W):oF h (.agg (wA x)) (.agg (wA x)):=.agg (.cons (.row _ _ _) (.cons (.v _) (.cons (.row _ _ _) .nil)))
end Go.Ld
namespace Go.Proofs.YtmmmeebiobjnbaaGreat
open Go Go.Ab Go.Ld
attribute [local irreducible] VC AW cD aT
set_option maxHeartbeats 4000000
theorem XD {F:FuncId}{r:Int}{L:List AV}{q:W→Bool}(l:List W) (hl:l.length≤1000000) (hL:AV.idfL L=true) (hp:AV.plnL L=true) (hF:∀ x,x∈l→aT Tryz.prog F [.agg (wA x),.pr [.i r] 0,.pr [.pr L 0] 0] [] (.b (q x)) []) :
    aT Tryz.prog 100 [.sl 0 0 l.length 3,.clo (.func F) [] [.pr [.i r] 0,.ptr 1 0]] [.arr (gM l) 3,.cells [.ptr 2 0],.cells L] (.sl 0 0 (gN q l).length 3) [.arr (gM (gN q l)) 3,.cells [.ptr 2 0],.cells L]:=by
  have hll:(gM l).length=l.length:=fR l;have hi:AV.idfL [AV.pr [.i r] 0,.pr [.pr L 0] 0]=true:=zD9 hL;have hix:=zC9 hl hi hF;have hvc:∀ {X:AB} {Y:Hp},mM (X :: .cells [.ptr 2 0] :: .cells L::Y) [AV.pr [.i r] 0,.ptr 1 0] [.pr [.i r] 0,.pr [.pr L 0] 0]:=fun {X Y}=>.cons (.pr _ _) (.cons (.ptr rfl (.cons (.ptr rfl (lJ _ hp)) .nil)) .nil);have hvw:oF [.arr (gM l) 3,.cells [.ptr 2 0],.cells L] (.sl 0 0 l.length 3) (.rowE (gM l) 3):=nP rfl hll.symm (pG (fun _=>rfl) _);refine bU T Tryz.func100 rfl rfl rfl rfl ?_;rcases F5 q l 0 with ⟨h1,h2⟩ | ⟨j,hj,h1,h2,h3⟩
  · rw [h1] at hix;have hk:gN q l=l:=pC.2 fun x hx=>by rw [h2 x hx];rfl
    rw [hk]
    (repeat' (first|refine wS ?_|refine wR ?_|refine wT ?_|(refine rg 0 (aV ?_))|(refine rg 1 (dI rfl (vV (by exact fM rfl rfl hix (.cons hvw (.cons (.clo .nil hvc) .nil)) rfl rfl) ?_));refine aV ?_)|(refine rg 2 (mW rfl (vV (eD rfl rfl) ?_)))|(refine rg 3 (mW rfl (aV ?_)))|refine nZ ?_));all_goals first | (exfalso;omega) | exact ⟨.inl rfl,[0,1,2],_,rfl,rfl,rfl,⟨.inr (aC rfl rfl (bX _)),.inr rfl,.inr (uI rfl hL),trivial⟩,by decide,yK0⟩
  · rw [h1,Nat.zero_add] at hix;have hk0:gN q (l.take (j+1))=l.take j:=by
      rw [yJ hj,if_pos h2];exact pC.2 fun x hx=>by rw [h3 x hx];rfl
    have hkl:(gN q (l.take (j+1))).length=j:=by rw [hk0];simp;omega
    have hka:gN q (l.take (j+1))++l.drop (gN q (l.take (j+1))).length=l:=by rw [hkl,hk0,bS]
    have hkf:gN q l=gN q (l.take l.length):=by rw [cQ]
    rw [hkf]
    (repeat' (first|refine wS ?_|refine wB ?_|refine wK ?_|refine wU ?_|(refine rg 0 (aV ?_))|(refine rg 1 (dI rfl (vV (by exact fM rfl rfl hix (.cons hvw (.cons (.clo .nil hvc) .nil)) rfl rfl) ?_));refine aV ?_)|(refine rg 2 (mW rfl (vV (eD rfl rfl) ?_)))|(refine iA 4 rfl rfl rfl (by omega) (by omega) ?_)|refine nZ ?_));all_goals try (exfalso;omega)
    refine dA (X:={m:Nat // m≤l.length}) (fun m=>[(0,.sl 0 0 l.length 3),(1,.clo (.func F) [] [.pr [.i r] 0,.ptr 1 0]),(5,.i (gN q (l.take m.1)).length),(6,.i m.1)]) (fun m=>[.arr (gM (gN q (l.take m.1)++l.drop (gN q (l.take m.1)).length)) 3,.cells [.ptr 2 0],.cells L]) (fun m=>l.length-m.1) ⟨j+1,hj⟩ ⟨[0,1,2],rfl,⟨rfl,rfl,by dsimp only;rw [hkl];rfl,rfl,trivial⟩,⟨.inr (aC rfl (by dsimp only;rw [hka]) (bX _)),.inr rfl,.inr (uI rfl hL),trivial⟩,by decide,yK0⟩ ?_
    rintro ⟨m,hm⟩;dsimp only;have hle:=NA q l m;by_cases hlt:m<l.length
    · have hs:=yJ (q:=q) hlt;have hget:=RM (G:=gN q (l.take m)) (l:=l) (m:=m) (i:=0+(m:Int).toNat) hle hlt (by omega)
      have hg2:=RM (G:=gN q (l.take m)) (l:=l) (m:=(gN q (l.take m)).length) (i:=0+(((gN q (l.take m)).length:Nat):Int).toNat) (aU _) (by omega) (by omega)
      rw [pI hlt] at hget;have hset:=yB0 (G:=gN q (l.take m)) (l:=l) (x:=l[m]) (j:=(((gN q (l.take m)).length:Nat):Int)) (by omega) rfl
      have hc:=hF l[m] (aM hlt);have hal:=WH (G:=gN q (l.take m)) (l:=l) (by omega)
      generalize l[m]=x at *;generalize l.getD (gN q (l.take m)).length w0=y at *;generalize hG:gN q (l.take m)=G at *;generalize hA:gM (G++l.drop G.length)=A at *;cases e:q x
      · rw [e] at hc hs;rw [if_neg (by simp)] at hs
        (repeat' (first|refine wS ?_|refine wB ?_|refine wK ?_|refine wT ?_|(refine wC rfl ?_ ?_<;>(intro hb;(try simp only [nm] at hb);try (exfalso;omega)))|(refine rg 5 (dI rfl (qW T rfl (vV (aL rfl rfl) ?_))))|(refine rg 7 (dI rfl (vV (by exact aI T rfl rfl rfl rfl rfl (by omega) (by omega)) ?_));refine vV (by exact aK T rfl rfl (bF rfl hget) rfl) ?_;refine cC (cM T rfl) rfl (bD T rfl rfl rfl rfl rfl rfl (by decide) rfl ?_))|(refine rg 8 (mW rfl (vV (aK T rfl rfl rfl rfl) (vV (by exact fM rfl rfl hc (.cons (HW x) hvc) rfl rfl) ?_)));refine vV (eH rfl) ?_)|(refine rg 9 (dI rfl (vV (aK T rfl rfl rfl rfl) (vV (by exact aI T rfl rfl rfl rfl rfl (by omega) (by omega)) ?_)));refine bD T rfl rfl rfl rfl rfl rfl (by decide) (lR rfl hg2 rfl) ?_)|(refine iA 10 rfl rfl rfl (by omega) (by omega) ?_)|(refine iA 6 rfl rfl rfl (by omega) (by omega) ?_)|refine nZ ?_));all_goals try (exfalso;omega)
        all_goals exact ⟨⟨m+1,hlt⟩,by dsimp only;omega,[0,1,2],rfl,⟨rfl,rfl,by rw [hs];simp only [aF];rfl,rfl,trivial⟩,⟨.inr (aC rfl (by rw [hs];exact hset) (bX _)),.inr rfl,.inr (uI rfl hL),trivial⟩,by decide,yK0⟩
      · rw [e] at hc hs;rw [if_pos rfl] at hs
        (repeat' (first|refine wS ?_|refine wB ?_|refine wK ?_|refine wU ?_|(refine wC rfl ?_ ?_<;>(intro hb;(try simp only [nm] at hb);try (exfalso;omega)))|(refine rg 5 (dI rfl (qW T rfl (vV (aL rfl rfl) ?_))))|(refine rg 7 (dI rfl (vV (by exact aI T rfl rfl rfl rfl rfl (by omega) (by omega)) ?_));refine vV (by exact aK T rfl rfl (bF rfl hget) rfl) ?_;refine cC (cM T rfl) rfl (bD T rfl rfl rfl rfl rfl rfl (by decide) rfl ?_))|(refine rg 8 (mW rfl (vV (aK T rfl rfl rfl rfl) (vV (by exact fM rfl rfl hc (.cons (HW x) hvc) rfl rfl) ?_)));refine vV (eH rfl) ?_)|(refine iA 6 rfl rfl rfl (by omega) (by omega) ?_)|refine nZ ?_));all_goals try (exfalso;omega)
        all_goals exact ⟨⟨m+1,hlt⟩,by dsimp only;omega,[0,1,2],rfl,⟨rfl,rfl,by rw [hs];rfl,rfl,trivial⟩,⟨.inr (aC rfl (by rw [hs];exact hA.symm) (bX _)),.inr rfl,.inr (uI rfl hL),trivial⟩,by decide,yK0⟩
    · obtain rfl:m=l.length:=by omega
      have hal:=WH (G:=gN q (l.take l.length)) (l:=l) (by omega)
      have htk:=YK (G:=gN q (l.take l.length)) (l:=l);generalize gN q (l.take l.length)=G at *
      (repeat' (first|refine wS ?_|refine wR ?_|refine wE ?_|(refine wC rfl ?_ ?_<;>(intro hb;(try simp only [nm] at hb);try (exfalso;omega)))|(refine rg 5 (dI rfl (qW T rfl (vV (aL rfl rfl) ?_))))|(refine rg 11 (dI rfl (vV (by exact jZ T rfl rfl rfl rfl rfl rfl (by omega) (by omega) (by omega)) ?_));refine Q4 T rfl rfl rfl ⟨rfl,rfl,by decide⟩ rfl (by rw [hal];omega) ?_)|(refine rg 12 (dI rfl (vV (by exact jZ T rfl rfl rfl rfl rfl rfl (by omega) (by omega) (by omega)) ?_));refine aV ?_)|refine nZ ?_));all_goals try (exfalso;omega)
      all_goals exact ⟨.inl rfl,[0,1,2],_,rfl,(by show AV.sl 0 0 ((G.length:Int)-0).toNat 3=AV.sl 0 0 G.length 3;rw [show ((G.length:Int)-0).toNat=G.length by omega]),rfl,⟨.inr (aC rfl htk (bX _)),.inr rfl,.inr (uI rfl hL),trivial⟩,by decide,yK0⟩
end Go.Proofs.YtmmmeebiobjnbaaGreat
namespace Go.Ab
open Go
theorem RV {P:Program}{f:FuncId}{args:List AV}{hin hout:Hp}{es:List (List AV)}{len sz k:Nat}(hk:k=hout.length) (hn:len=es.length) (hi:AV.idfL es.flatten=true) (h:aT P f args hin (.sl k 0 len sz) (hout++[.arr es sz])):aT P f args hin (.rowE es sz) (hout++[.gone]):=by
  refine ⟨h.1,fun ρ S w vs hs ha=>(h.2 ρ S w vs hs ha).mono ?_⟩;rintro e w' ⟨y,ρ',S',rfl,h2,h3⟩;rw [hn] at h3;have hb:(hout++[AB.arr es sz])[k]? = some (.arr es sz):=by subst hk;simp
  have e:(hout++[AB.arr es sz]).set k .gone=hout++[.gone]:=by subst hk;simp
  exact ⟨y,_,_,rfl,e▸h2.freeze (k:=k) hb,vP hi (h2.blk k _ hb) h3⟩
theorem xH (L:List Nat):∀ i:Nat,i<1→(0::L)[i]? = some i:=fun i hi=>by cases i with | zero=>rfl | succ i=>omega
end Go.Ab
namespace Go.Proofs.YtmmmeebiobjnbaaGreat
open Go Go.Ab Go.Ld
attribute [local irreducible] VC AW cD aT
set_option maxHeartbeats 4000000
theorem zN4 (c:Cx) (gs all:List G){n:Nat}(ok:oG n all) (up:OM all) (hne:∀ g,g∈all→g.2≠[]) :
    aT Tryz.prog 65 [.ptr 0 0,.rowE (kU all) 2] [.cells (kI c gs)] (.rowE (kU (wD c all)) 2) [.cells (kI c gs),.gone]:=by
  have h12:all.length≤12:=bG ok.len ok.ln;have hal:(kU all).length=all.length:=jW _;have hlb:∀ g,g∈all→0≤gQ g∧gQ g≤4000000:=fun g hg=>GN (ok.ok g hg) (hne g hg);have hsb:=IB hlb;refine RV (k:=1) (hout:=[.cells (kI c gs)]) rfl (by rw [jW]:(wD c all).length=(kU (wD c all)).length) (gV (eN _)) ?_
  refine bU T Tryz.func65 rfl rfl rfl rfl ?_
  repeat' (first|refine wS ?_|(refine rg 0 (cC (cO rfl rfl) rfl (aV ?_)))|(refine rg 1 (aV ?_))|refine nZ ?_)
  (repeat' (first|refine wB ?_|(refine rg 2 (mW rfl (qW T rfl (mV ?_))))|refine nZ ?_));refine dA (X:={k:Nat // k≤all.length}) (fun k=>[(1,.rowE (kU all) 2),(2,.ptr 1 0),(5,.i (kH (all.take k.1))),(16,.rowE (kU all) 2),(17,.i (kU all).length),(18,.i k.1)]) (fun _=>[.cells (kI c gs),.cells [.ptr 0 0]]) (fun k=>all.length-k.1) ⟨0,bW _⟩ ⟨[0,1],rfl,(by repeat first|exact trivial|refine ⟨rfl,?_⟩),⟨.inr rfl,.inr rfl,trivial⟩,by decide,xH _⟩ ?_
  rintro ⟨k,hk⟩;dsimp only;by_cases hlt:k<all.length
  · have hg:=JC hlt;have hs:=YR hlt;have hb:=IB (l:=all.take k) fun g hg=>hlb g (dS hg);have hkl:(all.take k).length≤12:=by rw [bH];omega
    have hl1:=hlb _ (aM hlt);have hc:=TH all[k] (hne _ (aM hlt)) (by have:=ok.ws _ (aM hlt);omega)
    generalize all[k]=g at *;generalize kH (all.take k)=S at *;generalize gQ g=v at *
    (repeat' (first|refine wS ?_|refine wB ?_|refine wK ?_|(refine wC rfl ?_ ?_<;>(intro hb;(try simp only [nm] at hb);try (exfalso;omega)))|(refine rg 3 (vV (aL rfl rfl) ?_))|(refine rg 4 (vV (ix T rfl (by omega) (rZ _) hg) (lW T rfl (cC (cM T rfl) rfl (bD T rfl rfl rfl rfl rfl rfl (by decide) rfl ?_)))))|(refine rg 5 (mW rfl (lW T rfl (vV (kC (hc)) (vV (cE rfl rfl (by omega) (by omega)) (aV ?_))))))|(refine rg 6 (vV (cE rfl rfl (by omega) (by omega)) (mV ?_)))|refine nZ ?_));all_goals first | (exfalso;omega) | exact ⟨⟨k+1,hlt⟩,by dsimp only;omega,[0,1],rfl,⟨rfl,rfl,by dsimp only;rw [hs];rfl,rfl,rfl,rfl,trivial⟩,⟨.inr rfl,.inr rfl,trivial⟩,by decide,xH _⟩
  obtain rfl:k=all.length:=by omega
  rw [cQ]
  (repeat' (first|refine wS ?_|refine wB ?_|refine wE ?_|(refine wC rfl ?_ ?_<;>(intro hb;(try simp only [nm] at hb);try (exfalso;omega)))|(refine rg 3 (vV (aL rfl rfl) ?_))|(refine rg 7 (vV (dK rfl) (nY 8 2 rfl (by decide) ?_)))|(refine rg 8 (mW rfl (qW T rfl (mV ?_))))|refine nZ ?_));all_goals try (exfalso;omega)
  refine dA (X:={k:Nat // k≤all.length}) (fun k=>[(2,.ptr 1 0),(5,.i (kH all)),(8,.sl 2 0 k.1 2),(27,.rowE (kU all) 2),(28,.i (kU all).length),(29,.i k.1)]) (fun k=>[.cells (kI c gs),.cells [.ptr 0 0],.arr (kU ((paid c all).take k.1)) 2]) (fun k=>all.length-k.1) ⟨0,bW _⟩ ⟨[0,1,2],rfl,(by repeat first|exact trivial|refine ⟨rfl,?_⟩),⟨.inr rfl,.inr rfl,.inr rfl,trivial⟩,by decide,xH _⟩ ?_
  clear hk hlt;rintro ⟨k,hk⟩;dsimp only;have hpl:=zA4 c all;by_cases hlt:k<all.length
  · have hg:=JC hlt;have hp:=VT (c:=c) hlt;have hl1:=hlb _ (aM hlt);have hgo:=ok.ok _ (aM hlt);have hgw:=ok.ws _ (aM hlt);have hc:=TH all[k] (hne _ (aM hlt)) (by omega)
    have htl:((paid c all).take k).length=k:=by rw [bH];omega
    generalize (paid c all).take k=Q at *;generalize all[k]=g at *;obtain ⟨bs,ws⟩:=g;dsimp only at hgw hp;generalize hv:gQ (bs,ws)=v at *;generalize kH all=S at *;have hcl:=NX ws (by omega)
    have hd:=XD (r:=S-v) (L:=kI c gs) (q:=fun w=>decide (w.2.1+(S-v) > c.m)) ws (by omega) rfl rfl (fun x hx=>zN6 c gs x (S-v) ⟨(hgo.ws x hx).m0,(hgo.ws x hx).m1⟩ (by omega))
    generalize gN (fun w=>decide (w.2.1+(S-v) > c.m)) ws=ws' at *;have hQl:(kU Q).length=k:=by rw [jW,htl]
    have hQ:kU (Q++[(bs,ws')])=kU Q++[[.rowE (ints bs) 1,.rowE (gM ws') 3]]:=by rw [kU,bT];rfl
    rw [← hp] at hQ;generalize kU Q=Q' at *
    (repeat' (first|refine wS ?_|refine wB ?_|refine wK ?_|(refine wC rfl ?_ ?_<;>(intro hb;(try simp only [nm] at hb);try (exfalso;omega)))|(refine rg 9 (vV (aL rfl rfl) ?_))|(refine rg 10 (vV (ix T rfl (by omega) (rZ _) hg) (lW T rfl (cC (cM T rfl) rfl (bD T rfl rfl rfl rfl rfl rfl (by decide) rfl ?_)))))|(refine rg 11 (mW rfl (lW T rfl (vV (kC (hc)) (vV (cT rfl rfl (by omega) (by omega)) (cC (cM T rfl) rfl (bD T rfl rfl rfl rfl rfl rfl (by decide) rfl ?_)))))))|refine nZ ?_));all_goals try (exfalso;omega)
    refine fH 11 rfl rfl rfl ?_
    repeat' (first|(refine rg 12 (gI T rfl (cC (by exact fN rfl rfl hcl (.inr ⟨rfl,rfl,by simp⟩)) rfl ?_));refine vV (by exact lG rfl rfl) ?_;refine eC [5,1,0] rfl rfl (hd) rfl rfl (by decide) ⟨.inr (aC rfl (bB _ (bX _)) (bX _)),.inr rfl,.inr rfl,trivial⟩ (by simp) rfl ?_;refine mN (es:=gM ws') 41 rfl (congrArg (fun x=>some (AB.arr x 3)) (bB _ (bX _))) (fR _).symm (gV (bX _)) ?_;refine fW T rfl (bD T rfl rfl rfl rfl rfl rfl (by decide) rfl ?_))|(refine rg 13 (mW rfl (lW T rfl (cC (by exact bE T rfl rfl (by decide) (by decide) rfl rfl rfl) rfl ?_)));refine fS T rfl rfl rfl rfl rfl rfl (by omega) (iK.whole rfl rfl) rfl (by simp;omega) (by simp;omega) rfl ?_;refine aV ?_)|(refine rg 14 (vV (cE rfl rfl (by omega) (by omega)) (mV ?_)))|refine nZ ?_)
    show ∃ x',_;exact ⟨⟨k+1,hlt⟩,by dsimp only;omega,⟨[0,1,7],rfl,(by repeat first|exact trivial|refine ⟨rfl,?_⟩),⟨.inr rfl,.inr rfl,.inr (aC rfl (by dsimp only;rw [hQ];exact jF hQl.symm) (eN _)),trivial⟩,by decide,xH _⟩⟩
  obtain rfl:k=all.length:=by omega
  rw [← hpl,cQ,hpl];have pok:=ok.paid c;have pst:=pY.start pok (SE up (c:=c));rw [← hpl];generalize hL:paid c all=L at *;rw [show wD c all=rT L by rw [← hL];rfl]
  (repeat' (first|refine wS ?_|refine wB ?_|refine wE ?_|(refine wC rfl ?_ ?_<;>(intro hb;(try simp only [nm] at hb);try (exfalso;omega)))|(refine rg 9 (vV (aL rfl rfl) ?_))|(refine rg 15 (aV ?_))|refine nZ ?_));all_goals try (exfalso;omega)
  refine dA (X:={q:List G × Nat // pY n L q.1 q.2}) (fun q=>[(8,.sl 1 0 q.1.1.length 2),(12,.i q.1.2)]) (fun q=>[.cells (kI c gs),.arr (kU q.1.1) 2]) (fun q=>100*zX8 q.1.1+(q.1.1.length-q.1.2)) ⟨(L,0),pst⟩ ⟨[0,2],rfl,(by repeat first|exact trivial|refine ⟨rfl,?_⟩),⟨.inr rfl,.inr (aC rfl rfl (eN _)),trivial⟩,by decide,xH _⟩ ?_
  clear hsb hlb hne h12 hal pok up ok;rintro ⟨⟨o,i⟩,hq⟩;dsimp only at hq ⊢;have hol:(kU o).length=o.length:=jW _;have ho12:o.length≤12:=bG hq.ok.len hq.ok.ln;have hio:=hq.hi;by_cases hlt:i<o.length
  · have hgi:o[i]? = some o[i]:=aA hlt;have hgm:=aM hlt;generalize o[i]=g at *;have hgo:=hq.ok.ok g hgm;have hgw:=hq.ok.ws g hgm;have hsz:=hgo.sz hgw;have q1:=C2 (L:=o) (j:=(i:Int)) (i:=i) hgi rfl;have hcc:=XH g hsz;cases hcr:iR g with
    | none=>
      have hk:=hq.keep hgi hcr;rw [show D0 g = -1 by unfold D0;rw [hcr]] at hcc
      (repeat' (first|refine wS ?_|refine wB ?_|refine wK ?_|refine wU ?_|(refine wC rfl ?_ ?_<;>(intro hb;(try simp only [nm] at hb);try (exfalso;omega)))|(refine rg 16 (dI rfl (qW T rfl (vV (aL rfl rfl) ?_))))|(refine rg 18 (dI rfl (vV (by exact aI T rfl rfl rfl rfl rfl (by omega) (by omega)) ?_));refine vV (by exact aK T rfl rfl (bF rfl q1) rfl) ?_;refine vV (kC (hcc)) (aV ?_))|(refine rg 19 (mW rfl (vV (iC rfl rfl) ?_)))|(refine iA 17 rfl rfl rfl (by omega) (by omega) ?_)|refine nZ ?_));all_goals try (exfalso;omega)
      exact ⟨⟨(o,i+1),hk⟩,by dsimp only;omega,⟨[0,1],rfl,(by repeat first|exact trivial|refine ⟨rfl,?_⟩),⟨.inr rfl,.inr (aC rfl rfl (eN _)),trivial⟩,by decide,xH _⟩⟩
    | some k=>
      have hk:=hq.next hgi hcr
      obtain ⟨f1,f2,f3,_⟩:=kM hcr;have hwg:=zB4 hgi hcr;have hno:=TC hq.ok hgi hcr;have hsp:=zO0 g hsz f3 f1 f2 (by omega)
      have hll:(o.set i (kD g k)++[nR g k]).length=o.length+1:=by simp
      have hso:=zO2 (o.set i (kD g k)++[nR g k]) hno.dist (by have:=hno.len;have:=hno.ln;omega) hno.hd
      have hw2:zX8 (GH o i k g)=zX8 (o.set i (kD g k)++[nR g k]):=XX (dU _ _);have hl2:(GH o i k g).length=o.length+1:=by rw [GH,(dU _ _).length_eq,hll]
      rw [show D0 g=(k:Int) by unfold D0;rw [hcr]] at hcc
      have t1:=M7 (L:=o) (j:=(i:Int)) (i:=i) (x:=kD g k) rfl;have e1:kU (o.set i (kD g k)++[nR g k])=(kU o).set (0+(i:Int).toNat) (gA (kD g k))++[gA (nR g k)]:=by rw [t1,kU,bT];rfl
      have e2:((kU o).set (0+(i:Int).toNat) (gA (kD g k))).length=o.length:=by rw [gW,hol]
      change aT _ _ _ _ _ [.arr (kU (GH o i k g)) 2] at hso;rw [hll] at hso;generalize GH o i k g=o' at *;generalize hN:o.set i (kD g k)++[nR g k]=N at *;generalize kD g k=r at *;generalize nR g k=u at *;obtain ⟨rb,rw_⟩:=r;obtain ⟨ub,uw⟩:=u
      (repeat' (first|refine wS ?_|refine wB ?_|refine wK ?_|refine wT ?_|(refine wC rfl ?_ ?_<;>(intro hb;(try simp only [nm] at hb);try (exfalso;omega)))|(refine rg 16 (dI rfl (qW T rfl (vV (aL rfl rfl) ?_))))|(refine rg 18 (dI rfl (vV (by exact aI T rfl rfl rfl rfl rfl (by omega) (by omega)) ?_));refine vV (by exact aK T rfl rfl (bF rfl q1) rfl) ?_;refine vV (kC (hcc)) (aV ?_))|(refine rg 19 (mW rfl (vV (iC rfl rfl) ?_)))|(refine rg 20 (dI rfl (vV (by exact aI T rfl rfl rfl rfl rfl (by omega) (by omega)) ?_));refine vV (by exact aK T rfl rfl (bF rfl q1) rfl) ?_;refine mW rfl (vV (kC (hsp)) (mW rfl (xW rfl (xW rfl (cC (cM T rfl) rfl (cC (cM T rfl) rfl (bD T rfl rfl rfl rfl rfl rfl (by decide) rfl (bD T rfl rfl rfl rfl rfl rfl (by decide) rfl ?_)))))))))|(refine rg 21 (dI rfl (vV (aK T rfl rfl rfl rfl) (vV (by exact aI T rfl rfl rfl rfl rfl (by omega) (by omega)) ?_)));refine bD T rfl rfl rfl rfl rfl rfl (by decide) (lR rfl q1 rfl) ?_)|(refine rg 22 (mW rfl (vV (aK T rfl rfl rfl rfl) (cC (by exact bE T rfl rfl (by decide) (by decide) rfl rfl rfl) rfl ?_)));refine fS T rfl rfl rfl rfl rfl rfl (by simp) (iK.whole rfl rfl) rfl (by simp;omega) (by simp;omega) rfl ?_;refine aV ?_)|refine nZ ?_));all_goals try (exfalso;omega)
      refine fO [(8,.sl 1 0 (o.length+1) 2),(12,.i i)] [.cells (kI c gs),.arr (kU N) 2] ⟨[0,5],rfl,(by repeat first|exact trivial|refine ⟨rfl,?_⟩),⟨.inr rfl,.inr (aC rfl (by rw [e1];exact jF e2.symm) (eN _)),trivial⟩,by decide,xH _⟩ ?_
      (repeat' (first|(refine rg 23 (mW rfl (eC [1] rfl rfl (hso) rfl rfl (by decide) ⟨.inr (aC rfl rfl (eN _)),trivial⟩ (by simp) rfl ?_)))|(refine rg 24 (aV ?_))|(refine iA 17 rfl rfl rfl (by omega) (by omega) ?_)|refine nZ ?_));all_goals try (exfalso;omega)
      exact ⟨⟨(o',0),hk⟩,by dsimp only;omega,⟨[0,1],rfl,⟨by dsimp only;rw [hl2];rfl,rfl,trivial⟩,⟨.inr rfl,.inr (aC rfl (bB _ (eN _)) (eN _)),trivial⟩,by decide,xH _⟩⟩
  · have hfin:=hq.fin (by omega)
    rw [hfin]
    (repeat' (first|refine wS ?_|refine wR ?_|refine wE ?_|(refine wC rfl ?_ ?_<;>(intro hb;(try simp only [nm] at hb);try (exfalso;omega)))|(refine rg 16 (dI rfl (qW T rfl (vV (aL rfl rfl) ?_))))|(refine rg 25 (mW rfl (aV ?_)))|refine nZ ?_));all_goals first | (exfalso;omega) | exact ⟨.inl rfl,[0,1],_,rfl,rfl,rfl,⟨.inr rfl,.inr (aC rfl rfl (eN _)),trivial⟩,by decide,xH _⟩
end Go.Proofs.YtmmmeebiobjnbaaGreat
namespace Go.Ld
open Go.Ab Go.Proofs.YtmmmeebiobjnbaaGreat
structure oH (c:Cx) (M:Int) (gs:List G):Prop where
  out:oG c.bs.length gs
  up:OM gs
  ne:∀ g,g∈gs→g.2≠[]
  ml:∀ g,g∈gs→∀ w,w∈g.2→w.2.1≤M
  cov:(gs.flatMap (·.1)).Perm (nats (List.range c.bs.length))
  idn:(gs.flatMap fun g=>(iU g).1).Perm (nats (List.range c.bs.length))
  wl:∀ g,g∈gs→g.2.length≤1000
structure pR (c:Cx) (gs:List G):Prop where
  mid:oH c c.m gs
  cer:∀ g,g∈gs→iR g=none
  asc:∀ g,g∈gs→g.2.Pairwise fun a b=>pH a b<0
theorem E9 (n:Nat):(nats (List.range n)).Nodup:=List.Pairwise.map (R:=fun a b=>a≠b) _ (fun a b h e=>h (Int.ofNat.inj e)) zX3
theorem xF {n:Nat}{b:Int}:b∈nats (List.range n)↔0≤b∧b<n:=by
  constructor
  · intro h;obtain ⟨i,hi,rfl⟩:=bA.1 h;have:=eU.1 hi;exact ⟨by omega,by omega⟩
  · intro h;exact bA.2 ⟨b.toNat,eU.2 (by omega),by omega⟩
theorem oH.find {c:Cx}{M:Int}{gs:List G}(h:oH c M gs){b:Int}(hb:0≤b∧b<c.bs.length):∃ g,g∈gs∧b∈g.1:=by
  have:=h.cov.mem_iff.2 (xF.2 hb);obtain ⟨g,hg,hbg⟩:=fC.1 this;exact ⟨g,hg,hbg⟩
theorem GA {α:Type}{A B l:List Int}{x y:List α}{d:α}(hA:A.Nodup) (hB:B.Nodup) (dj:∀ b,b∈A→b∉B) (hl:l.Perm (A++B)) (hx:x.length=A.length) (hy:y.length=B.length) :
    (l.map fun k=>if k∈A then x.getD (A.idxOf k) d else y.getD (B.idxOf k) d).Perm (x++y):=by
  refine (hl.map _).trans ?_;rw [bT];have e1:A.map (fun k=>if k∈A then x.getD (A.idxOf k) d else y.getD (B.idxOf k) d)=x:=by
    refine jQ (by simp [hx]) fun i h1 h2=>?_
    rw [pP,if_pos (aM _),hA.idxOf_getElem,aD,aA h2];rfl
  have e2:B.map (fun k=>if k∈A then x.getD (A.idxOf k) d else y.getD (B.idxOf k) d)=y:=by
    refine jQ (by simp [hy]) fun i h1 h2=>?_
    have hb:B[i]'(by simpa using h1)∈B:=aM _
    rw [pP,if_neg (fun q=>dj _ q hb),hB.idxOf_getElem,aD,aA h2];rfl
  rw [e1,e2]
structure wQ (n:Nat) (x y:G):Prop where
  gx:D8 n x
  gy:D8 n y
  nx:x.2≠[]
  ny:y.2≠[]
  dj:∀ b,b∈x.1→b∉y.1
  di:∀ b,b∈(iU x).1→b∉(iU y).1
  ln:x.1.length+y.1.length≤6
theorem F1 {x y:G}{w:W}(h:w∈(mX x y).2):∃ u v,u∈x.2∧v∈y.2∧w=H5 x y u v (mX x y).1:=by
  obtain ⟨u,hu,h⟩:=fC.1 h;obtain ⟨v,hv,h⟩:=bA.1 h;exact ⟨u,v,hu,hv,h.symm⟩
theorem nD (x y:G):(mX x y).1.Perm (x.1++y.1):=dU _ _
theorem wQ.pair {n:Nat}{x y:G}(h:wQ n x y){u v:W}(hu:u∈x.2) (hv:v∈y.2):(H5 x y u v (mX x y).1).1.Perm (u.1++v.1)∧(H5 x y u v (mX x y).1).2.2.Perm (u.2.2++v.2.2):=
  ⟨GA h.gx.nd h.gy.nd h.dj (nD x y) (h.gx.ws u hu).pl (h.gy.ws v hv).pl,GA h.gx.nd h.gy.nd h.dj (nD x y) (h.gx.ws u hu).cl (h.gy.ws v hv).cl⟩
theorem wQ.same {n:Nat}{x y:G}(h:wQ n x y){w:W}(hw:w∈(mX x y).2):w.1.Perm ((iU x).1++(iU y).1):=by
  obtain ⟨u,v,hu,hv,rfl⟩:=F1 hw;exact (h.pair hu hv).1.trans ((h.gx.same _ _ hu (jS h.nx)).append (h.gy.same _ _ hv (jS h.ny)))
theorem wQ.ok {n:Nat}{x y:G}(h:wQ n x y){M:Int}(h1:∀ w,w∈x.2→w.2.1≤M) (h2:∀ w,w∈y.2→w.2.1≤M) (hM:M≤2000000):D8 n (mX x y) where
  ne e:=by
    have:=(nD x y).length_eq;rw [e] at this;have:=fD.2 h.gx.ne;simp at *;omega
  up:=by
    have h1:=mB rI (x.1++y.1);have hnd:(mX x y).1.Nodup:=(nD x y).nodup_iff.2 (dB.2 ⟨h.gx.nd,h.gy.nd,fun a ha b hb e=>h.dj a ha (e▸hb)⟩);refine (h1.and hnd).imp fun {a b} h=>?_
    have:=h.1;have:=h.2;unfold cI at *;by_cases e:a<b
    · exact e
    · rw [if_neg e] at *;by_cases e':b<a
      · rw [if_pos e'] at *;omega
      · omega
  rg b hb:=by
    rcases bL.1 ((nD x y).mem_iff.1 hb) with hb | hb
    · exact h.gx.rg b hb
    · exact h.gy.rg b hb
  ln:=by rw [(nD x y).length_eq,aF];exact h.ln
  ws w hw:=by
    have hs:=h.same hw;obtain ⟨u,v,hu,hv,rfl⟩:=F1 hw;obtain ⟨p1,p2⟩:=h.pair hu hv;have ou:=h.gx.ws u hu;have ov:=h.gy.ws v hv;refine ⟨aX _,aX _,fun b hb=>?_,hs.nodup_iff.2 (dB.2 ⟨(h.gx.ws _ (jS h.nx)).nd,(h.gy.ws _ (jS h.ny)).nd,fun a ha b hb e=>h.di a ha (e▸hb)⟩),?_,?_,fun r hr=>?_⟩
    · rcases bL.1 (p1.mem_iff.1 hb) with hb | hb
      · exact ou.pr b hb
      · exact ov.pr b hb
    · have:=ou.m0;have:=ov.m0;show 0≤u.2.1+v.2.1;omega
    · have:=h1 u hu;have:=h2 v hv;show u.2.1+v.2.1≤4000000;omega
    · rcases bL.1 (p2.mem_iff.1 hr) with hr | hr
      · exact ou.sp r hr
      · exact ov.sp r hr
  same w v hw hv:=(h.same hw).trans (h.same hv).symm
theorem zC8 {x y:G}(hx:x.2≠[]) (hy:y.2≠[]):(mX x y).2≠[]:=by
  show qC x y _≠[];unfold qC;cases hu:x.2 with
  | nil=>exact absurd hu hx
  | cons u l=>
    cases hv:y.2 with
    | nil=>exact absurd hv hy
    | cons v m=>simp
theorem GQ (x y:G):(mX x y).2.length=x.2.length*y.2.length:=by
  show (qC x y _).length=_;unfold qC;generalize eJ cI (x.1++y.1)=l
  induction x.2 with
  | nil=>simp
  | cons u m ih=>rw [bM,aF,ih,aX,List.length_cons,Nat.succ_mul,qT]
theorem mO {α:Type}{l:List α}{i k:Nat}{u v:α}(J:α) (hik:i<k) (hi:l[i]? = some u) (hk:l[k]? = some v):∃ P Q R,l=P++u::(Q++v::R)∧(l.set i J).eraseIdx k=P++J::(Q++R):=by
  obtain ⟨hl,e2⟩:=aB.1 hk;have hil:i<l.length:=by omega
  have e1:l[i]=u:=(aB.1 hi).2;have d1:l.drop i=u::l.drop (i+1):=by rw [aY hil,e1]
  have d2:l.drop k=v::l.drop (k+1):=by rw [aY hl,e2]
  have d3:l.drop (i+1)=(l.drop (i+1)).take (k-(i+1))++v::l.drop (k+1):=by
    have:l.drop (i+1)=(l.drop (i+1)).take (k-(i+1))++(l.drop (i+1)).drop (k-(i+1)):=(bS _ _).symm;rw [OU,show i+1+(k-(i+1))=k by omega,d2] at this
    exact this
  have e:l=l.take i++u::((l.drop (i+1)).take (k-(i+1))++v::l.drop (k+1)):=by
    rw [← d3,← d1,bS]
  refine ⟨_,_,_,e,?_⟩;have ht:(l.take i).length=i:=by rw [bH];omega
  have hq:((l.drop (i+1)).take (k-(i+1))).length=k-(i+1):=by rw [bH,dQ];omega
  generalize l.take i=P at *;generalize (l.drop (i+1)).take (k-(i+1))=Q at *;generalize l.drop (k+1)=R at *;clear d1 d2 d3;subst e;rw [iZ _ _ (by omega),show i-P.length=0 by omega,List.set_cons_zero,List.eraseIdx_append_of_length_le (by omega),show k-P.length=(k-(i+1))+1 by omega,List.eraseIdx_cons_succ,List.eraseIdx_append_of_length_le (by omega),hq,dY,List.eraseIdx_cons_zero]
theorem zW7 (l:List Int) (n:Int):zW8 l n=JZ l n:=by
  by_cases h:∀ i,i<l.length→Z3 l n i
  · rw [DS h];unfold zW8;exact bK.2 fun i hi=>decide_eq_true (h i (eU.1 hi))
  · obtain ⟨i,hi⟩:=Classical.not_forall.1 h;obtain ⟨hi,ho⟩:=Classical.not_forall.1 hi;rw [JY hi ho];unfold zW8;unfold Z3 at ho;exact List.all_eq_false.2 ⟨i,eU.2 hi,fun q=>ho (of_decide_eq_true q)⟩
theorem zV4 {p q:Prop} [Decidable p] [Decidable q]:decide (p∧q)=(decide p&&decide q):=by simp
theorem rY (n k a b m:Int) (ids:List Int):iQ n ⟨k,a,b,m,ids⟩=(jN a 0 (n-1)&&decide (k=0∨ids.length=0)&&decide (k=4∨b=0)&&(if k=0 then decide (m=0)&&JZ ids n else if k=1∨k=2∨k=3 then jN m 0 1099511627776 else if k=4 then decide (m=0)&&jN b (a+1) (n-1) else if k=5 then jN m 0 (n-1) else false)):=by
  unfold iQ jN;simp only [zV4,zW7]
end Go.Ld
namespace Go.Proofs.YtmmmeebiobjnbaaGreat
open Go Go.Ab Go.Ld
attribute [local irreducible] VC AW cD aT
set_option maxHeartbeats 4000000
theorem ZJ (n k a b m:Int) (ids:List Int) (hl:ids.length≤9223372036854775807) (hn:0≤n∧n≤1000) :
    aT Tryz.prog 18 [.i n,oW k a b m ids] [] (.b (iQ n ⟨k,a,b,m,ids⟩)) []:=by
  have hil:(ints ids).length=ids.length:=by simp
  have ca:=pD a 0 (n-1);have cs:=HJ ids n hl hn;cases hA:jN a 0 (n-1)
  · rw [hA] at ca;have e:iQ n ⟨k,a,b,m,ids⟩=(false):=by rw [rY];first | (rw [hA];rfl) | (rw [hAb];rcases h1 with h | h;(rw [decide_eq_false (by omega:¬ (k=0∨ids.length=0))];simp);(rw [decide_eq_false (by omega:¬ (k=4∨b=0))];simp)) | (rw [hAb,decide_eq_true hid,decide_eq_true hbz];simp only [mY];first | rw [if_pos k0] | rw [if_neg k0,if_pos k1] | rw [if_neg k0,if_neg k1,if_pos k4] | rw [if_neg k0,if_neg k1,if_neg k4,if_pos k5] | rw [if_neg k0,if_neg k1,if_neg k4,if_neg k5])
    rw [e];refine bU T Tryz.func18 rfl rfl rfl rfl ?_
    (repeat' (first|refine wS ?_|refine wR ?_|refine wT ?_|(refine rg 0 (cC (cO rfl rfl) rfl (aV ?_)))|(refine rg 1 (gI T rfl (mW rfl (vV (cT rfl rfl (by omega) (by omega)) (vV (kC (ca)) (vV (eH rfl) (mV ?_))))));(iterate 4 refine gF ?_);(iterate 4 refine gU ?_);refine gF (pW rfl (mV ?_));(iterate 4 refine gF ?_);(iterate 3 refine gU ?_);refine gF (pV ?_))|(refine rg 2 (aV ?_))|refine nZ ?_));exact rQ
  · rw [hA] at ca;have hAb:=hA;simp only [jN,aN,decide_eq_true_eq] at hA;by_cases h1:k≠0∧0<ids.length∨k≠4∧b≠0
    · have e:iQ n ⟨k,a,b,m,ids⟩=(false):=by rw [rY];first | (rw [hA];rfl) | (rw [hAb];rcases h1 with h | h;(rw [decide_eq_false (by omega:¬ (k=0∨ids.length=0))];simp);(rw [decide_eq_false (by omega:¬ (k=4∨b=0))];simp)) | (rw [hAb,decide_eq_true hid,decide_eq_true hbz];simp only [mY];first | rw [if_pos k0] | rw [if_neg k0,if_pos k1] | rw [if_neg k0,if_neg k1,if_pos k4] | rw [if_neg k0,if_neg k1,if_neg k4,if_pos k5] | rw [if_neg k0,if_neg k1,if_neg k4,if_neg k5])
      rw [e];refine bU T Tryz.func18 rfl rfl rfl rfl ?_
      (repeat' (first|refine wS ?_|refine wR ?_|refine wT ?_|(refine wC rfl ?_ ?_<;>(intro hb;(try simp only [nm] at hb);try (exfalso;omega)))|(refine rg 0 (cC (cO rfl rfl) rfl (aV ?_)))|(refine rg 1 (gI T rfl (mW rfl (vV (cT rfl rfl (by omega) (by omega)) (vV (kC (ca)) (vV (eH rfl) (mW rfl (yP T rfl (yO T rfl (yV (gB rfl rfl) ?_)))))))));refine yM ?_;refine bQ rfl rfl ?_ ?_<;>(intro hb;rw [hb];(try simp only [nm] at hb);try (exfalso;omega));(all_goals first|(refine gT (fW T rfl (gT (lW T rfl (gT (qW T rfl (gT (vV (fA rfl rfl) ?_))))))))|(iterate 4 refine gF ?_));(all_goals (refine gT (pW rfl (pW rfl (mV ?_)))));(all_goals first|(refine gK ?_)|(refine bQ rfl rfl ?_ ?_<;>(intro hb;rw [hb];(try simp only [nm] at hb);try (exfalso;omega))));(all_goals first|(refine gT (fW T rfl (gT (lW T rfl (gT (vV (gB rfl rfl) (gT (mV ?_))))))))|(iterate 4 refine gF ?_));(all_goals first|(refine gK ?_)|(refine bQ rfl rfl ?_ ?_<;>(intro hb;rw [hb];(try simp only [nm] at hb);try (exfalso;omega))));(all_goals first|(refine gT (fW T rfl (gT (lW T rfl (gT (vV (gB rfl rfl) ?_))))))|(iterate 3 refine gU ?_));(all_goals first|(refine gT (pV ?_))|(refine gF ?_));(all_goals (refine pV ?_)))|(refine rg 2 (aV ?_))|refine nZ ?_));all_goals exact rQ
    · have hid:k=0∨ids.length=0:=by omega
      have hbz:k=4∨b=0:=by omega
      by_cases k0:k=0
      · have e:iQ n ⟨k,a,b,m,ids⟩=(decide (m=0)&&JZ ids n):=by rw [rY];first | (rw [hA];rfl) | (rw [hAb];rcases h1 with h | h;(rw [decide_eq_false (by omega:¬ (k=0∨ids.length=0))];simp);(rw [decide_eq_false (by omega:¬ (k=4∨b=0))];simp)) | (rw [hAb,decide_eq_true hid,decide_eq_true hbz];simp only [mY];first | rw [if_pos k0] | rw [if_neg k0,if_pos k1] | rw [if_neg k0,if_neg k1,if_pos k4] | rw [if_neg k0,if_neg k1,if_neg k4,if_pos k5] | rw [if_neg k0,if_neg k1,if_neg k4,if_neg k5])
        rw [e];refine bU T Tryz.func18 rfl rfl rfl rfl ?_
        (repeat' (first|refine wS ?_|refine wB ?_|refine wK ?_|refine wR ?_|(refine wC rfl ?_ ?_<;>(intro hb;(try simp only [nm] at hb);try (exfalso;omega)))|(refine rg 0 (cC (cO rfl rfl) rfl (aV ?_)))|(refine rg 1 (gI T rfl (mW rfl (vV (cT rfl rfl (by omega) (by omega)) (vV (kC (ca)) (vV (eH rfl) (mW rfl (yP T rfl (yO T rfl (yV (gB rfl rfl) ?_)))))))));refine yM ?_;refine bQ rfl rfl ?_ ?_<;>(intro hb;rw [hb];(try simp only [nm] at hb);try (exfalso;omega));(all_goals ((iterate 4 refine gF ?_);refine gT (pW rfl (pW rfl (mW rfl (yP T rfl (yO T rfl (yV (gB rfl rfl) (yM ?_)))))));refine bQ rfl rfl ?_ ?_<;>(intro hb;rw [hb];(try simp only [nm] at hb);try (exfalso;omega))));(all_goals (refine yP T rfl (yO T rfl (yV (gB rfl rfl) (gT (pW rfl (pV ?_))))))))|(refine rg 3 (JF T ?_))|(refine rg 4 (vV (eD rfl rfl) (aV ?_)))|(refine rg 5 (gI T rfl (vV (eD rfl rfl) (mV ?_)));refine bQ rfl rfl ?_ ?_<;>(intro hb;rw [hb];(try simp only [nm] at hb);try (exfalso;omega));(all_goals first|(refine gT (fW T rfl (gT (lW T rfl (gT (mW rfl (gT (vV (kC (cs)) ?_))))))))|(iterate 4 refine gF ?_));(all_goals (refine pW rfl (aV ?_))))|refine nZ ?_));all_goals first | (exfalso;omega) | (refine dJ (.inl rfl) rfl (nM ?_);simp [*])
      · by_cases k1:k=1∨k=2∨k=3
        · have e:iQ n ⟨k,a,b,m,ids⟩=(jN m 0 1099511627776):=by rw [rY];first | (rw [hA];rfl) | (rw [hAb];rcases h1 with h | h;(rw [decide_eq_false (by omega:¬ (k=0∨ids.length=0))];simp);(rw [decide_eq_false (by omega:¬ (k=4∨b=0))];simp)) | (rw [hAb,decide_eq_true hid,decide_eq_true hbz];simp only [mY];first | rw [if_pos k0] | rw [if_neg k0,if_pos k1] | rw [if_neg k0,if_neg k1,if_pos k4] | rw [if_neg k0,if_neg k1,if_neg k4,if_pos k5] | rw [if_neg k0,if_neg k1,if_neg k4,if_neg k5])
          rw [e];refine bU T Tryz.func18 rfl rfl rfl rfl ?_
          (repeat' (first|refine wS ?_|refine wB ?_|refine wK ?_|refine wR ?_|(refine wC rfl ?_ ?_<;>(intro hb;(try simp only [nm] at hb);try (exfalso;omega)))|(refine rg 0 (cC (cO rfl rfl) rfl (aV ?_)))|(refine rg 1 (gI T rfl (mW rfl (vV (cT rfl rfl (by omega) (by omega)) (vV (kC (ca)) (vV (eH rfl) (mW rfl (yP T rfl (yO T rfl (yV (gB rfl rfl) ?_)))))))));refine yM ?_;refine bQ rfl rfl ?_ ?_<;>(intro hb;rw [hb];(try simp only [nm] at hb);try (exfalso;omega));(all_goals (refine yP T rfl (yO T rfl (gT (qW T rfl (yV (fA rfl rfl) (gT (pW rfl (pW rfl (mV ?_))))))));refine bQ rfl rfl ?_ ?_<;>(intro hb;rw [hb];(try simp only [nm] at hb);try (exfalso;omega))));(all_goals (refine yP T rfl (yO T rfl (yV (gB rfl rfl) (yM ?_)));refine bQ rfl rfl ?_ ?_<;>(intro hb;rw [hb];(try simp only [nm] at hb);try (exfalso;omega))));(all_goals (refine yP T rfl (yO T rfl (yV (gB rfl rfl) (gT (pW rfl (pV ?_))))))))|(refine rg 3 (JF T ?_))|(refine rg 4 (vV (eD rfl rfl) (aV ?_)))|(refine rg 6 (vV (eD rfl rfl) (aV ?_)))|(refine rg 7 (vV (eD rfl rfl) (aV ?_)))|(refine rg 8 (vV (eD rfl rfl) (aV ?_)))|(refine rg 9 (gI T rfl (vV (by exact fQ rfl rfl (pD _ _ _) rfl rfl rfl) ?_));refine aV ?_)|refine nZ ?_));all_goals first | (exfalso;omega) | exact rQ
        · by_cases k4:k=4
          · have e:iQ n ⟨k,a,b,m,ids⟩=(decide (m=0)&&jN b (a+1) (n-1)):=by rw [rY];first | (rw [hA];rfl) | (rw [hAb];rcases h1 with h | h;(rw [decide_eq_false (by omega:¬ (k=0∨ids.length=0))];simp);(rw [decide_eq_false (by omega:¬ (k=4∨b=0))];simp)) | (rw [hAb,decide_eq_true hid,decide_eq_true hbz];simp only [mY];first | rw [if_pos k0] | rw [if_neg k0,if_pos k1] | rw [if_neg k0,if_neg k1,if_pos k4] | rw [if_neg k0,if_neg k1,if_neg k4,if_pos k5] | rw [if_neg k0,if_neg k1,if_neg k4,if_neg k5])
            rw [e];refine bU T Tryz.func18 rfl rfl rfl rfl ?_
            (repeat' (first|refine wS ?_|refine wB ?_|refine wK ?_|refine wR ?_|refine wU ?_|(refine wC rfl ?_ ?_<;>(intro hb;(try simp only [nm] at hb);try (exfalso;omega)))|(refine rg 0 (cC (cO rfl rfl) rfl (aV ?_)))|(refine rg 1 (gI T rfl (mW rfl (vV (cT rfl rfl (by omega) (by omega)) (vV (kC (ca)) (vV (eH rfl) (mW rfl (yP T rfl (yO T rfl (yV (gB rfl rfl) ?_)))))))));refine yM ?_;refine bQ rfl rfl ?_ ?_<;>(intro hb;rw [hb];(try simp only [nm] at hb);try (exfalso;omega));(all_goals (refine yP T rfl (yO T rfl (gT (qW T rfl (yV (fA rfl rfl) (gT (pW rfl (pW rfl (mV ?_))))))));refine bQ rfl rfl ?_ ?_<;>(intro hb;rw [hb];(try simp only [nm] at hb);try (exfalso;omega))));(all_goals (refine yP T rfl (yO T rfl (yV (gB rfl rfl) (yM ?_)));refine bQ rfl rfl ?_ ?_<;>(intro hb;rw [hb];(try simp only [nm] at hb);try (exfalso;omega))));(all_goals ((iterate 3 refine gF ?_);refine gT (pW rfl (pV ?_)))))|(refine rg 3 (JF T ?_))|(refine rg 4 (vV (eD rfl rfl) (aV ?_)))|(refine rg 6 (vV (eD rfl rfl) (aV ?_)))|(refine rg 7 (vV (eD rfl rfl) (aV ?_)))|(refine rg 8 (vV (eD rfl rfl) (aV ?_)))|(refine rg 10 (vV (eD rfl rfl) (aV ?_)))|(refine rg 11 (gI T rfl (vV (eD rfl rfl) (mV ?_)));refine bQ rfl rfl ?_ ?_<;>(intro hb;rw [hb];(try simp only [nm] at hb);try (exfalso;omega));(all_goals first|(refine gT (fW T rfl (gT (lW T rfl (gT (fW T rfl (gT (lW T rfl (gT (vV (cE rfl rfl (by omega) (by omega)) ?_)))))))));refine gT (mW rfl (gT (vV (cT rfl rfl (by omega) (by omega)) (gT (vV (by exact fQ rfl rfl (pD _ _ _) rfl rfl rfl) ?_))))))|(iterate 8 refine gF ?_));(all_goals (refine pW rfl (aV ?_))))|refine nZ ?_));all_goals first | (exfalso;omega) | (refine dJ (.inl rfl) rfl (nM ?_);simp [*])
          · by_cases k5:k=5
            · have e:iQ n ⟨k,a,b,m,ids⟩=(jN m 0 (n-1)):=by rw [rY];first | (rw [hA];rfl) | (rw [hAb];rcases h1 with h | h;(rw [decide_eq_false (by omega:¬ (k=0∨ids.length=0))];simp);(rw [decide_eq_false (by omega:¬ (k=4∨b=0))];simp)) | (rw [hAb,decide_eq_true hid,decide_eq_true hbz];simp only [mY];first | rw [if_pos k0] | rw [if_neg k0,if_pos k1] | rw [if_neg k0,if_neg k1,if_pos k4] | rw [if_neg k0,if_neg k1,if_neg k4,if_pos k5] | rw [if_neg k0,if_neg k1,if_neg k4,if_neg k5])
              rw [e];refine bU T Tryz.func18 rfl rfl rfl rfl ?_
              (repeat' (first|refine wS ?_|refine wB ?_|refine wK ?_|refine wR ?_|(refine wC rfl ?_ ?_<;>(intro hb;(try simp only [nm] at hb);try (exfalso;omega)))|(refine rg 0 (cC (cO rfl rfl) rfl (aV ?_)))|(refine rg 1 (gI T rfl (mW rfl (vV (cT rfl rfl (by omega) (by omega)) (vV (kC (ca)) (vV (eH rfl) (mW rfl (yP T rfl (yO T rfl (yV (gB rfl rfl) ?_)))))))));refine yM ?_;refine bQ rfl rfl ?_ ?_<;>(intro hb;rw [hb];(try simp only [nm] at hb);try (exfalso;omega));(all_goals (refine yP T rfl (yO T rfl (gT (qW T rfl (yV (fA rfl rfl) (gT (pW rfl (pW rfl (mV ?_))))))));refine bQ rfl rfl ?_ ?_<;>(intro hb;rw [hb];(try simp only [nm] at hb);try (exfalso;omega))));(all_goals (refine yP T rfl (yO T rfl (yV (gB rfl rfl) (yM ?_)));refine bQ rfl rfl ?_ ?_<;>(intro hb;rw [hb];(try simp only [nm] at hb);try (exfalso;omega))));(all_goals (refine yP T rfl (yO T rfl (yV (gB rfl rfl) (gT (pW rfl (pV ?_))))))))|(refine rg 3 (JF T ?_))|(refine rg 4 (vV (eD rfl rfl) (aV ?_)))|(refine rg 6 (vV (eD rfl rfl) (aV ?_)))|(refine rg 7 (vV (eD rfl rfl) (aV ?_)))|(refine rg 8 (vV (eD rfl rfl) (aV ?_)))|(refine rg 10 (vV (eD rfl rfl) (aV ?_)))|(refine rg 12 (vV (eD rfl rfl) (aV ?_)))|(refine rg 13 (gI T rfl (mW rfl (vV (cT rfl rfl (by omega) (by omega)) (vV (by exact fQ rfl rfl (pD _ _ _) rfl rfl rfl) ?_))));refine aV ?_)|refine nZ ?_));all_goals first | (exfalso;omega) | exact rQ
            · have e:iQ n ⟨k,a,b,m,ids⟩=(false):=by rw [rY];first | (rw [hA];rfl) | (rw [hAb];rcases h1 with h | h;(rw [decide_eq_false (by omega:¬ (k=0∨ids.length=0))];simp);(rw [decide_eq_false (by omega:¬ (k=4∨b=0))];simp)) | (rw [hAb,decide_eq_true hid,decide_eq_true hbz];simp only [mY];first | rw [if_pos k0] | rw [if_neg k0,if_pos k1] | rw [if_neg k0,if_neg k1,if_pos k4] | rw [if_neg k0,if_neg k1,if_neg k4,if_pos k5] | rw [if_neg k0,if_neg k1,if_neg k4,if_neg k5])
              rw [e];refine bU T Tryz.func18 rfl rfl rfl rfl ?_
              (repeat' (first|refine wS ?_|refine wB ?_|refine wK ?_|refine wR ?_|(refine wC rfl ?_ ?_<;>(intro hb;(try simp only [nm] at hb);try (exfalso;omega)))|(refine rg 0 (cC (cO rfl rfl) rfl (aV ?_)))|(refine rg 1 (gI T rfl (mW rfl (vV (cT rfl rfl (by omega) (by omega)) (vV (kC (ca)) (vV (eH rfl) (mW rfl (yP T rfl (yO T rfl (yV (gB rfl rfl) ?_)))))))));refine yM ?_;refine bQ rfl rfl ?_ ?_<;>(intro hb;rw [hb];(try simp only [nm] at hb);try (exfalso;omega));(all_goals (refine yP T rfl (yO T rfl (gT (qW T rfl (yV (fA rfl rfl) (gT (pW rfl (pW rfl (mV ?_))))))));refine bQ rfl rfl ?_ ?_<;>(intro hb;rw [hb];(try simp only [nm] at hb);try (exfalso;omega))));(all_goals (refine yP T rfl (yO T rfl (yV (gB rfl rfl) (yM ?_)));refine bQ rfl rfl ?_ ?_<;>(intro hb;rw [hb];(try simp only [nm] at hb);try (exfalso;omega))));(all_goals (refine yP T rfl (yO T rfl (yV (gB rfl rfl) (gT (pW rfl (pV ?_))))))))|(refine rg 3 (JF T ?_))|(refine rg 4 (vV (eD rfl rfl) (aV ?_)))|(refine rg 6 (vV (eD rfl rfl) (aV ?_)))|(refine rg 7 (vV (eD rfl rfl) (aV ?_)))|(refine rg 8 (vV (eD rfl rfl) (aV ?_)))|(refine rg 10 (vV (eD rfl rfl) (aV ?_)))|(refine rg 12 (vV (eD rfl rfl) (aV ?_)))|(refine rg 14 (aV ?_))|refine nZ ?_));all_goals first | (exfalso;omega) | exact rQ
end Go.Proofs.YtmmmeebiobjnbaaGreat
namespace Go.Ld
open Go.Ab Go.Proofs.YtmmmeebiobjnbaaGreat
theorem JB {l:List Int}(h:l≠[]):l.headD 0∈l:=by
  cases l with
  | nil=>exact absurd rfl h
  | cons x l=>exact aQ
theorem zE3 {l:List Int}(h:l.Pairwise (· < ·)){z:Int}(hz:z∈l):l.headD 0≤z:=by
  cases l with
  | nil=>cases hz
  | cons x l=>
    rcases bN.1 hz with rfl | hz
    · exact dX _
    · have:=(fB.1 h).1 z hz;show x≤z;omega
theorem zZ4 {a b:Int}:cI a b≤0↔a≤b:=by unfold cI;split <;> (try split) <;> omega
theorem L3 {l:List G}:OM l↔(l.map fun g=>g.1.headD 0).Pairwise (fun a b=>a≤b):=by
  rw [zL3];exact ⟨fun h=>h.imp fun {a b} h=>zZ4.1 h,fun h=>h.imp fun {a b} h=>zZ4.2 h⟩
theorem SJ {c:Cx}{M:Int}{gs P Q R:List G}{u v J:G}(h:oH c M gs) (e:gs=P++u::(Q++v::R)) (hM:0≤M){M':Int}(hMM:M≤M')
    (hp:J.1.Perm (u.1++v.1)) (hJ:D8 c.bs.length J) (hne:J.2≠[]) (hf:(iU J).1.Perm ((iU u).1++(iU v).1)) (hm:∀ w,w∈J.2→w.2.1≤M') (hl:J.2.length≤1000):oH c M' (P++J::(Q++R)):=by
  have hmem:∀ g,g∈P++J::(Q++R)→g=J∨g∈gs:=fun g hg=>by
    subst e;simp only [bL,bN] at hg ⊢;rcases hg with hg | hg | hg | hg
    · exact .inr (.inl hg)
    · exact .inl hg
    · exact .inr (.inr (.inr (.inl hg)))
    · exact .inr (.inr (.inr (.inr (.inr hg))))
  have fl:∀ F:G→List Int,(F J).Perm (F u++F v)→((P++J::(Q++R)).flatMap F).Perm (gs.flatMap F):=fun F hF=>by
    subst e;simp only [fX,bM,bZ];refine List.Perm.append_left _ ?_;refine (hF.append_right _).trans ?_;rw [bZ];refine List.Perm.append_left _ ?_;rw [← bZ,← bZ];exact List.perm_append_comm.append_right _
  have cov:=(fl (·.1) hp).trans h.cov;have hlen:(gs.flatMap (·.1)).length=((P++J::(Q++R)).flatMap (·.1)).length:=(fl (·.1) hp).length_eq.symm;refine ⟨⟨fun g hg=>?_,(fl (·.1) hp).nodup_iff.2 h.out.nd,by rw [← hlen];exact h.out.ln,fun g hg=>?_⟩,?_,fun g hg=>?_,fun g hg=>?_,cov,(fl _ hf).trans h.idn,fun g hg=>?_⟩
  · rcases hmem g hg with rfl | hg
    · exact hJ
    · exact h.out.ok g hg
  · rcases hmem g hg with rfl | hg
    · omega
    · exact h.out.ws g hg
  · have hu:u∈gs:=by subst e;simp
    have hv:v∈gs:=by subst e;simp
    have hup:=L3.1 h.up;have ou:=h.out.ok u hu;have ov:=h.out.ok v hv;have huv:u.1.headD 0≤v.1.headD 0:=by
      subst e;simp only [bT,List.map_cons] at hup;exact (fB.1 (eX.1 hup).2.1).1 _ (by simp)
    have hh:J.1.headD 0=u.1.headD 0:=by
      have h1:J.1.headD 0≤u.1.headD 0:=zE3 hJ.up (hp.mem_iff.2 (bL.2 (.inl (JB ou.ne))));have h2:u.1.headD 0≤J.1.headD 0:=by
        rcases bL.1 (hp.mem_iff.1 (JB hJ.ne)) with hq | hq
        · exact zE3 ou.up hq
        · have:=zE3 ov.up hq;omega
      omega
    refine L3.2 (hup.sublist ?_);subst e;simp only [bT,List.map_cons,hh];refine List.Sublist.append_left (List.Sublist.cons_cons _ (List.Sublist.append_left (List.sublist_cons_self _ _) _)) _
  · rcases hmem g hg with rfl | hg
    · exact hne
    · exact h.ne g hg
  · rcases hmem g hg with rfl | hg
    · exact hm
    · exact fun w hw=>K9 (h.ml g hg w hw) hMM
  · rcases hmem g hg with rfl | hg
    · exact hl
    · exact h.wl g hg
theorem zC7 {c:Cx}{gs all:List G}{a b:Int}(h:oH c c.m gs) (hm0:0≤c.m) (hm1:c.m≤1048576) (ha:0≤a∧a<c.bs.length) (hb:0≤b∧b<c.bs.length) (e:join gs a b=some all) :
    oH c (2*c.m) all∧∃ g,g∈all∧a∈g.1∧b∈g.1:=by
  obtain ⟨i,x,hi,hix,hax⟩:=jC (h.find ha);obtain ⟨k,y,hk,hky,hby⟩:=jC (h.find hb);have hx:=aO hix;have hy:=aO hky;unfold join at e;dsimp only at e;rw [hi,hk] at e;split at e
  · rename_i hik;obtain rfl:i=k:=by omega
    cases e;have:x=y:=by rw [hix] at hky;exact Option.some.inj hky
    subst this;exact ⟨⟨h.out,h.up,h.ne,fun g hg w hw=>by have:=h.ml g hg w hw;omega,h.cov,h.idn,h.wl⟩,x,hx,hax,hby⟩
  · rename_i hik;have hxy:x≠y:=fun q=>by
      subst q;have h1:=(aB.1 hix).2;have h2:=(aB.1 hky).2;have l1:=(aB.1 hix).1;have l2:=(aB.1 hky).1;have nd:(gs.map fun g=>g.1.headD 0).Nodup:=by
        have:=h.out.nd;have aux:∀ o:List G,(∀ g,g∈o→g.1≠[])→(o.flatMap (·.1)).Nodup→(o.map fun g=>g.1.headD 0).Nodup:=by
          intro o
          induction o with
          | nil=>intro _ _;exact eT
          | cons g o ih=>
            intro hg hn;rw [bM] at hn;obtain ⟨n1,n2,n3⟩:=dB.1 hn;rw [List.map_cons,fT];refine ⟨fun hc=>?_,ih (fun g h=>hg g (aJ _ h)) n2⟩;obtain ⟨g',hg',e'⟩:=bA.1 hc;exact n3 _ (JB (hg g aQ)) _ (pJ hg' (e'▸JB (hg g' (aJ _ hg')))) rfl
        exact aux gs (fun g hg=>(h.out.ok g hg).ne) this
      have e1:(gs.map fun g=>g.1.headD 0)[i]'(by simpa using l1)=(gs.map fun g=>g.1.headD 0)[k]'(by simpa using l2):=by rw [pP,pP,h1,h2]
      have:=(zX5 nd).1 e1;omega
    have gi:mK gs ((i:Int)).toNat=x:=by unfold mK;rw [aD];show (gs[i]?).getD _=x;rw [hix];rfl
    have gk:mK gs ((k:Int)).toNat=y:=by unfold mK;rw [aD];show (gs[k]?).getD _=y;rw [hky];rfl
    rw [gi,gk] at e;split at e
    · cases e
    · rename_i hsz;have hln:x.1.length+y.1.length≤6:=by omega
      have hwl:x.2.length*y.2.length≤1000:=by omega
      cases e;have dj:∀ (u v:G),u∈gs→v∈gs→u≠v→∀ b,b∈u.1→b∉v.1:=fun u v hu hv huv b h1 h2=>huv (AJ h.out.nd hu hv h1 h2);have ndi:(gs.flatMap fun g=>(iU g).1).Nodup:=h.idn.nodup_iff.2 (E9 _);have ndi':((gs.map fun g=>((iU g).1,g.2)).flatMap (·.1)).Nodup:=by rw [EH];exact ndi
      have jo:wQ c.bs.length x y:=by
        refine ⟨h.out.ok x hx,h.out.ok y hy,h.ne x hx,h.ne y hy,dj x y hx hy hxy,fun b h1 h2=>?_,hln⟩
        have l1:=(aB.1 hix).1;have l2:=(aB.1 hky).1;rcases jL (show i≠k by omega) with hlt | hlt
        · obtain ⟨P,Q,R,e1,-⟩:=mO x hlt hix hky;rw [e1] at ndi;simp only [fX,bM] at ndi;exact (dB.1 (dB.1 ndi).2.1).2.2 b h1 b (by simp [h2]) rfl
        · obtain ⟨P,Q,R,e1,-⟩:=mO y hlt hky hix;rw [e1] at ndi;simp only [fX,bM] at ndi;exact (dB.1 (dB.1 ndi).2.1).2.2 b h2 b (by simp [h1]) rfl
      have hJ:=jo.ok (h.ml x hx) (h.ml y hy) (by omega)
      have hJn:=zC8 (h.ne x hx) (h.ne y hy);have hJf:=jo.same (jS hJn);have hJm:∀ w,w∈(mX x y).2→w.2.1≤2*c.m:=fun w hw=>by
        obtain ⟨u,v,hu,hv,rfl⟩:=F1 hw;have:=h.ml x hx u hu;have:=h.ml y hy v hv;show u.2.1+v.2.1≤_;omega
      have hJp:=nD x y;have hJl:(mX x y).2.length≤1000:=by rw [GQ];exact hwl
      have hJa:a∈(mX x y).1:=hJp.mem_iff.2 (bL.2 (.inl hax));have hJb:b∈(mX x y).1:=hJp.mem_iff.2 (bL.2 (.inr hby));generalize mX x y=J at *;rcases jL (show i≠k by omega) with hlt | hlt
      · obtain ⟨P,Q,R,e1,e2⟩:=mO J hlt hix hky;rw [show (min (i:Int) (k:Int)).toNat=i by omega,show (max (i:Int) (k:Int)).toNat=k by omega,e2]
        exact ⟨SJ h e1 hm0 (by omega) hJp hJ hJn hJf hJm hJl,J,by simp,hJa,hJb⟩
      · obtain ⟨P,Q,R,e1,e2⟩:=mO J hlt hky hix;rw [show (min (i:Int) (k:Int)).toNat=k by omega,show (max (i:Int) (k:Int)).toNat=i by omega,e2]
        exact ⟨SJ h e1 hm0 (by omega) (hJp.trans zV) hJ hJn (hJf.trans zV) hJm hJl,J,by simp,hJa,hJb⟩
theorem UD {f t:Int}(h:(O3 f t).2=true):PC (O3 f t).1:=by
  have:=DK f t;unfold O3 at h ⊢;unfold PC;dsimp only at h ⊢;rcases this with ⟨h1,h2,h3,h4⟩ | ⟨h1,_⟩
  · rw [h2,h3];omega
  · rw [h1] at h;cases h
theorem UU {t u w e:Int}{r:SP}(h:(vZ t u w e r).2=true):PC (vZ t u w e r).1:=by
  unfold vZ at h ⊢;dsimp only at h ⊢;split at h
  · rename_i hq;rw [if_pos hq];exact UD h
  · rename_i hq;exact absurd h hq
theorem ZY {n s:Int}{r:SP}(h:(B5 r n s).2=true):PC (B5 r n s).1:=by
  unfold B5 at h ⊢;split at h
  · rename_i hq;rw [if_pos hq];exact UD h
  · cases h
theorem HO.sC {n q:Nat}{w:W}(h:HO n q w){i:Nat}{r:SP}(hr:PC r):HO n q (sC w i r) where
  pl:=h.pl
  cl:=by show (w.2.2.set i r).length=q;rw [gW];exact h.cl
  pr:=h.pr
  nd:=h.nd
  m0:=h.m0
  m1:=h.m1
  sp x hx:=by
    rcases fK hx with hx | rfl
    · exact h.sp x hx
    · exact hr
theorem XL {c:Cx}{n q:Nat}{w:W}{i:Nat}{s:Ev}(h:HO n q w) (hi:i<q) (hs:0≤s.n) (hm:w.2.1≤3000000) (hb:(kQ c w i s).2=true):HO n q (kQ c w i s).1∧(kQ c w i s).1.1=w.1∧(kQ c w i s).1.2.1≤w.2.1+1:=by
  obtain ⟨g1,g2,g3⟩:=h.at hi;unfold kQ at hb ⊢;by_cases k0:s.k=0
  · rw [if_pos k0] at hb ⊢;split
    · exact ⟨h,rfl,by dsimp only;omega⟩
    · exact ⟨⟨h.pl,h.cl,h.pr,h.nd,by have:=h.m0;dsimp only;omega,by dsimp only;omega,h.sp⟩,rfl,by dsimp only;omega⟩
  rw [if_neg k0] at hb ⊢;by_cases k1:s.k=1
  · rw [if_pos k1] at hb ⊢;dsimp only at hb ⊢;exact ⟨h.sC (UU hb),rfl,by show w.2.1≤_;omega⟩
  rw [if_neg k1] at hb ⊢;by_cases k2:s.k=2
  · rw [if_pos k2] at hb ⊢;dsimp only at hb ⊢;exact ⟨h.sC (ZY hb),rfl,by show w.2.1≤_;omega⟩
  rw [if_neg k2] at hb ⊢;by_cases k3:s.k=3
  · rw [if_pos k3] at hb ⊢;dsimp only at hb ⊢;unfold xL at hb;simp only [aN,decide_eq_true_eq] at hb;unfold PC at g3;exact ⟨h.sC (show PC (s.n,s.n+1) from ⟨by dsimp only;omega,by dsimp only;omega,by dsimp only;omega⟩),rfl,by show w.2.1≤_;omega⟩
  rw [if_neg k3] at hb ⊢;split
  · exact ⟨h,rfl,by dsimp only;omega⟩
  · exact ⟨h,rfl,by dsimp only;omega⟩
theorem FG {α:Type}{l:List α}{i k:Nat}{d:α}(hi:i<l.length) (hk:k<l.length):((l.set i (l.getD k d)).set k (l.getD i d)).Perm l:=by
  have e1:l.getD k d=l[k]:=by rw [aD,aA hk];rfl
  have e2:l.getD i d=l[i]:=by rw [aD,aA hi];rfl
  rw [e1,e2];exact List.set_set_perm hi hk
theorem zU4 {n q:Nat}{w:W}{i k:Nat}(h:HO n q w) (hi:i<q) (hk:k<q):HO n q (pL w i k)∧(pL w i k).1.Perm w.1:=by
  have p1:(pL w i k).1.Perm w.1:=FG (by rw [h.pl];exact hi) (by rw [h.pl];exact hk)
  have p2:(pL w i k).2.2.Perm w.2.2:=FG (by rw [h.cl];exact hi) (by rw [h.cl];exact hk)
  exact ⟨⟨p1.length_eq.trans h.pl,p2.length_eq.trans h.cl,fun x hx=>h.pr x (p1.mem_iff.1 hx),p1.nodup_iff.2 h.nd,h.m0,h.m1,fun r hr=>h.sp r (p2.mem_iff.1 hr)⟩,p1⟩
theorem MP {c:Cx}{M:Int}{gs:List G}(h:oH c M gs) (hM:M≤2200000){g:G}(hg:g∈gs){s:Ev}(hs:0≤s.n) (ha:s.a∈g.1) (hb:s.k=4→s.b∈g.1){w:W}(hw:w∈mQ c s g):HO c.bs.length g.1.length w∧w.1.Perm (iU g).1∧w.2.1≤M+1:=by
  have og:=h.out.ok g hg;obtain ⟨v,hv,hw⟩:=fC.1 hw;have ov:=og.ws v hv;have hvm:=h.ml g hg v hv;have hp:=og.same v _ hv (jS (h.ne g hg));obtain ⟨hi,_⟩:=yQ ha;rcases bL.1 hw with hw | hw
  · split at hw
    · rename_i hbt;obtain rfl:=bC.1 hw;obtain ⟨h1,h2,h3⟩:=XL ov hi hs (by omega) hbt
      exact ⟨h1,h2▸hp,by omega⟩
    · cases hw
  · split at hw
    · rename_i hk;obtain rfl:=bC.1 hw;obtain ⟨hj,_⟩:=yQ (hb hk);obtain ⟨h1,h2⟩:=zU4 ov hi hj;exact ⟨h1,h2.trans hp,by show v.2.1≤_;omega⟩
    · cases hw
theorem WB {c:Cx}{s:Ev}{g:G}:(mQ c s g).length≤2*g.2.length:=by
  unfold mQ;dsimp only
  induction g.2 with
  | nil=>simp
  | cons w l ih=>
    rw [bM,aF,List.length_cons,aF];have h1:∀ {p:Prop} [Decidable p] {x:W},(if p then [x] else []).length≤1:=by
      intro p _ x;split <;> simp
    have:=@h1 ((kQ c w (g.1.idxOf s.a) s).2=true) _ (kQ c w (g.1.idxOf s.a) s).1;have:=@h1 (s.k=4) _ (pL w (g.1.idxOf s.a) (g.1.idxOf s.b));omega
theorem zP8 {c:Cx}{M M':Int}{gs:List G}(h:oH c M gs){i:Nat}{g:G}(hi:gs[i]? = some g){ws:List W}(hne:ws≠[]) (hl:ws.length≤1000) (hM:M≤M')
    (hw:∀ w,w∈ws→HO c.bs.length g.1.length w∧w.1.Perm (iU g).1∧w.2.1≤M'):oH c M' (gs.set i (g.1,ws)):=by
  have hg:=aO hi;have og:=h.out.ok g hg;obtain ⟨A,B,e1,e2⟩:=qK (y:=(g.1,ws)) hi;rw [e2];subst e1;have hmem:∀ x,x∈A++(g.1,ws)::B→x=(g.1,ws)∨x∈A++g::B:=fun x hx=>by
    simp only [bL,bN] at hx ⊢;rcases hx with hx | hx | hx
    · exact .inr (.inl hx)
    · exact .inl hx
    · exact .inr (.inr (.inr hx))
  have hbod:((A++(g.1,ws)::B).flatMap (·.1))=((A++g::B).flatMap (·.1)):=by simp only [fX,bM]
  have hf:=(hw _ (jS (g:=(g.1,ws)) hne)).2.1;have ok:D8 c.bs.length (g.1,ws):=⟨og.ne,og.up,og.rg,og.ln,fun w h=>(hw w h).1,fun w v h1 h2=>(hw w h1).2.1.trans (hw v h2).2.1.symm⟩;refine ⟨⟨fun x hx=>?_,by rw [hbod];exact h.out.nd,by rw [hbod];exact h.out.ln,fun x hx=>?_⟩,?_,fun x hx=>?_,fun x hx=>?_,by rw [hbod];exact h.cov,?_,fun x hx=>?_⟩
  · rcases hmem x hx with rfl | hx
    · exact ok
    · exact h.out.ok x hx
  · rcases hmem x hx with rfl | hx
    · show ws.length≤2000;omega
    · exact h.out.ws x hx
  · have:=L3.1 h.up;refine L3.2 ?_;simp only [bT,List.map_cons] at this ⊢;exact this
  · rcases hmem x hx with rfl | hx
    · exact hne
    · exact h.ne x hx
  · rcases hmem x hx with rfl | hx
    · exact fun w hw'=>(hw w hw').2.2
    · exact fun w hw'=>K9 (h.ml x hx w hw') hM
  · refine List.Perm.trans ?_ h.idn;simp only [fX,bM];exact List.Perm.append_left _ (hf.append_right _)
  · rcases hmem x hx with rfl | hx
    · exact hl
    · exact h.wl x hx
theorem MD {g:G}{k:Nat}{w:W}(h:w∈(kD g k).2):∃ v,v∈g.2∧w=zU7 k v:=by
  obtain ⟨v,hv,e⟩:=bA.1 (qM h);exact ⟨v,hv,e.symm⟩
theorem SV {g:G}{k:Nat}(h:g.2≠[]):(kD g k).2≠[]:=fun e=>h (by
  have:=W4.1 e
  exact mS.1 this)
theorem zQ0 {m:Nat}{M:Int}(hM:0≤M):∀ {g:G},(∀ w,w∈g.2→w.2.1≤M)→∀ x,x∈mD m g→∀ w,w∈x.2→w.2.1≤M:=by
  induction m with
  | zero=>intro g h x hx;simp [mD] at hx;subst hx;exact h
  | succ m ih=>
    intro g h x hx;unfold mD at hx;split at hx
    · simp at hx;subst hx;exact h
    · rename_i k hk;rcases bN.1 hx with rfl | hx
      · intro w hw;obtain rfl:=bC.1 hw;exact hM
      · refine ih (fun w hw=>?_) x hx;obtain ⟨v,hv,rfl⟩:=MD hw;exact h v hv
theorem ZZ {m:Nat}:∀ {g:G},g.2.Pairwise (fun a b=>pH a b<0)→∀ x,x∈mD m g→x.2.Pairwise (fun a b=>pH a b<0):=by
  induction m with
  | zero=>intro g h x hx;simp [mD] at hx;subst hx;exact h
  | succ m ih=>
    intro g h x hx;unfold mD at hx;split at hx
    · simp at hx;subst hx;exact h
    · rcases bN.1 hx with rfl | hx
      · exact kR _ _
      · exact ih (CJ _) x hx
theorem ML {n:Nat}:∀ (m:Nat){g:G},D8 n g→g.2≠[]→((mD m g).flatMap fun x=>(iU x).1).Perm (iU g).1
  | 0,g,h,hne=>by simp [mD]
  | m+1,g,h,hne=>by
    unfold mD;split
    · simp
    · rename_i k hk;have hr:=SV (k:=k) hne;obtain ⟨v,hv,e⟩:=MD (jS hr);have ih:=ML m (h.rest hk) hr;rw [bM];have ofw:=h.ws _ (jS hne);have ov:=h.ws v hv;obtain ⟨_,_,hkl,hs⟩:=kM hk;have hgv:=(hs v hv).1;refine (List.Perm.append_left _ ih).trans ?_;rw [e];show (gP (iU g) k::(v.1.eraseIdx k)).Perm _;rw [← hgv];exact (kK v.1 k 0 (by rw [ov.pl];exact hkl)).trans (h.same _ _ hv (jS hne))
theorem tV {α β γ:Type}{F:β→List γ}{F':α→List γ}{P:α→List β}:∀ {l:List α},(∀ g,g∈l→((P g).flatMap F).Perm (F' g))→((l.flatMap P).flatMap F).Perm (l.flatMap F')
  | [],_=>.refl _
  | g::l,h=>by
    rw [bM,fX,bM];exact (h g aQ).append (tV fun x hx=>h x (aJ _ hx))
theorem W9 {α β γ:Type}{F:β→List γ}{F':α→List γ}{f:α→β}:∀ {l:List α},(∀ g,g∈l→(F (f g)).Perm (F' g))→((l.map f).flatMap F).Perm (l.flatMap F')
  | [],_=>.refl _
  | g::l,h=>by
    rw [List.map_cons,bM,bM];exact (h g aQ).append (W9 fun x hx=>h x (aJ _ hx))
theorem YS:∀ {l:List G},(∀ g,g∈l→0≤gQ g)→0≤kH l
  | [],_=>dX _
  | g::l,h=>by
    have:=YS fun x hx=>h x (aJ _ hx);have:=h g aQ;show 0≤gQ g+kH l;omega
theorem YT:∀ {l:List G},(∀ g,g∈l→0≤gQ g)→∀ {g:G},g∈l→gQ g≤kH l
  | x::l,h,g,hg=>by
    have h0:=YS fun x hx=>h x (aJ _ hx);have h1:=h x aQ;show gQ g≤gQ x+kH l;rcases bN.1 hg with rfl | hg
    · omega
    · have:=YT (fun x hx=>h x (aJ _ hx)) hg;omega
theorem zA0 {c:Cx}{L:List G}(h:oH c c.m L) (hm0:0≤c.m) (hasc:∀ g,g∈L→g.2.Pairwise fun a b=>pH a b<0):pR c (rT L):=by
  have hp:=dU cG (L.flatMap fun g=>mD g.1.length g);have hmem:∀ x,x∈rT L→∃ g,g∈L∧x∈mD g.1.length g:=fun x hx=>fC.1 (hp.mem_iff.1 hx);have bod:((rT L).flatMap (·.1)).Perm (L.flatMap (·.1)):=(hp.flatMap_right _).trans (tV fun g hg=>B7 _ (h.out.ok g hg));have idn:((rT L).flatMap fun g=>(iU g).1).Perm (L.flatMap fun g=>(iU g).1):=(hp.flatMap_right _).trans (tV fun g hg=>ML _ (h.out.ok g hg) (h.ne g hg));have wl:∀ x,x∈rT L→x.2.length≤1000:=fun x hx=>by
    obtain ⟨g,hg,hx⟩:=hmem x hx;exact MK (by omega) (h.wl g hg) x hx
  refine ⟨⟨⟨fun x hx=>?_,bod.nodup_iff.2 h.out.nd,by rw [bod.length_eq];exact h.out.ln,fun x hx=>by have:=wl x hx;omega⟩,tZ _,fun x hx=>?_,fun x hx=>?_,bod.trans h.cov,idn.trans h.idn,wl⟩,fun x hx=>?_,fun x hx=>?_⟩
  all_goals obtain ⟨g,hg,hx⟩:=hmem x hx
  · exact IM _ (h.out.ok g hg) x hx
  · exact zP9 (h.ne g hg) x hx
  · exact zQ0 hm0 (h.ml g hg) x hx
  · exact FY _ (h.out.ok g hg) (aU _) x hx
  · exact ZZ (hasc g hg) x hx
theorem zA3 {c:Cx}{M:Int}{gs:List G}(h:oH c M gs) (hne:∀ g,g∈paid c gs→g.2≠[]):oH c c.m (paid c gs):=by
  have h0:∀ g,g∈gs→0≤gQ g:=fun g hg=>(GN (h.out.ok g hg) (h.ne g hg)).1;refine ⟨h.out.paid c,SE h.up,hne,fun g hg w hw=>?_,by rw [R7];exact h.cov,?_,fun g hg=>?_⟩
  · obtain ⟨x,hx,rfl⟩:=bA.1 hg;have:=of_decide_eq_true (dW.1 hw).2;have:=YT h0 hx;omega
  · refine List.Perm.trans (W9 (F':=fun g=>(iU g).1) fun g hg=>?_) h.idn;have h1:=hne _ (bA.2 ⟨g,hg,rfl⟩);have h2:=jS h1;exact (h.out.ok g hg).same _ _ (dW.1 h2).1 (jS (h.ne g hg))
  · obtain ⟨x,hx,rfl⟩:=bA.1 hg;exact bG (fP _ _) (h.wl x hx)
theorem zN3 {c:Cx}{M:Int}{gs:List G}(h:oH c M gs) (hm0:0≤c.m) (hasc:∀ g,g∈gs→g.2.Pairwise fun a b=>pH a b<0) (hne:∀ g,g∈wD c gs→g.2≠[]):pR c (wD c gs):=by
  refine zA0 (zA3 h fun g hg e=>?_) hm0 fun g hg=>?_
  · refine hne g ?_ e;refine (dU cG _).mem_iff.2 (fC.2 ⟨g,hg,?_⟩);rw [MJ e];exact bC.2 rfl
  · obtain ⟨x,hx,rfl⟩:=bA.1 hg;exact (hasc x hx).sublist List.filter_sublist
theorem mU {n:Int}{s:Ev}(h:iQ n s=true) (hn:n≤1000000):(0≤s.a∧s.a<n)∧(s.k=4→s.a<s.b∧s.b<n)∧0≤s.n∧s.n≤1099511627776:=by
  obtain ⟨k,a,b,m,ids⟩:=s;unfold iQ at h;simp only [aN,decide_eq_true_eq] at h;obtain ⟨⟨⟨h1,h2⟩,h3⟩,h4⟩:=h;dsimp only;refine ⟨by omega,fun hk=>?_,?_⟩
  · subst hk;simp at h4;omega
  · by_cases k0:k=0
    · subst k0;simp at h4;omega
    · rw [if_neg k0] at h4;split at h4
      · simp at h4;omega
      · split at h4
        · simp at h4;omega
        · split at h4
          · simp at h4;omega
          · cases h4
theorem WJ {gs all:List G}{a b:Int}(e:join gs a b=some all) (ha:∃ g,g∈gs∧a∈g.1):∀ g,g∈all→g∈gs∨a∈g.1:=by
  intro g hg;obtain ⟨i,x,hi,hix,hax⟩:=jC ha;unfold join at e;dsimp only at e;split at e
  · cases e;exact .inl hg
  · split at e
    · cases e
    · cases e;rcases fK (List.mem_of_mem_eraseIdx hg) with hg | rfl
      · exact .inl hg
      · refine .inr ((nD _ _).mem_iff.2 (bL.2 (.inl ?_)));rw [hi];unfold mK;rw [aD,show ((i:Int)).toNat=i from rfl,hix]
        exact hax
structure zT (c:Cx) (M:Int) (all:List G) (s:Ev):Prop where
  mid:oH c M all
  asc:∀ g,g∈all→(g.2.Pairwise fun a b=>pH a b<0)∨s.a∈g.1
  a:0≤s.a∧s.a<c.bs.length
  b:s.k=4→∃ g,g∈all∧s.a∈g.1∧s.b∈g.1
  n0:0≤s.n
  n1:s.n≤1099511627776
theorem zT.at {c:Cx}{M:Int}{all:List G}{s:Ev}(h:zT c M all s):∃ (i:Nat) (g:G),pK all s.a=(i:Int)∧all[i]? = some g∧g∈all∧mK all (pK all s.a).toNat=g∧s.a∈g.1∧(s.k=4→s.b∈g.1):=by
  obtain ⟨i,g,hi,hg,ha⟩:=jC (h.mid.find h.a);have hm:=aO hg;refine ⟨i,g,hi,hg,hm,?_,ha,fun hk=>?_⟩
  · rw [hi];unfold mK;rw [aD,show ((i:Int)).toNat=i from rfl,hg];rfl
  · obtain ⟨x,hx,h1,h2⟩:=h.b hk;rw [AJ h.mid.out.nd hm hx ha h1];exact h2
theorem zT.next {c:Cx}{M:Int}{all:List G}{s:Ev}(h:zT c M all s) (hM:M≤2200000){i:Nat}{g:G}(hi:all[i]? = some g) (ha:s.a∈g.1) (hb:s.k=4→s.b∈g.1) (hne:gS (mQ c s g)≠[]) (hl:(gS (mQ c s g)).length≤1000) :
    oH c (M+1) (all.set i (g.1,gS (mQ c s g)))∧∀ x,x∈all.set i (g.1,gS (mQ c s g))→x.2.Pairwise fun a b=>pH a b<0:=by
  have hg:=aO hi;refine ⟨zP8 h.mid hi hne hl (by omega) fun w hw=>MP h.mid hM hg h.n0 ha hb (qM hw),fun x hx=>?_⟩
  obtain ⟨A,B,e1,e2⟩:=qK (y:=(g.1,gS (mQ c s g))) hi;rw [e2] at hx;have nd:=h.mid.out.nd;have hall:x=(g.1,gS (mQ c s g))∨x∈all∧s.a∉x.1:=by
    subst e1;simp only [fX,bM] at nd;obtain ⟨_,n1,n2⟩:=dB.1 nd;obtain ⟨_,_,n3⟩:=dB.1 n1;simp only [bL,bN] at hx ⊢;rcases hx with hx | hx | hx
    · exact .inr ⟨.inl hx,fun q=>n2 _ (pJ hx q) _ (bL.2 (.inl ha)) rfl⟩
    · exact .inl hx
    · exact .inr ⟨.inr (.inr hx),fun q=>n3 _ ha _ (pJ hx q) rfl⟩
  rcases hall with rfl | ⟨h1,h2⟩
  · exact CJ _
  · exact (h.asc x h1).resolve_right h2
theorem SR {c:Cx}{M:Int}{l all:List G}{s:Ev}(h:zT c M all s) (hM:M≤2200000) (hm0:0≤c.m) (hl:pR c l):pR c (sS c l all s).2:=by
  obtain ⟨i,g,hi,hg,hgm,hat,ha,hb⟩:=h.at;unfold sS;dsimp only;rw [hat];split
  · exact hl
  · rename_i hne;split
    · exact hl
    · rename_i hwl;split
      · exact hl
      · rename_i hany;obtain ⟨hm,hasc⟩:=h.next hM hg ha hb hne (by omega)
        rw [hi] at hany ⊢;refine zN3 hm hm0 hasc fun x hx e=>hany (iX.2 ⟨x,hx,by rw [e];rfl⟩)
theorem xA {c:Cx}{gs:List G}{s:Ev}(h:pR c gs) (hn:c.bs.length≤1000) (hm0:0≤c.m) (hr:iQ c.bs.length s=true) (hk:s.k≠4):zT c c.m gs s:=by
  obtain ⟨h1,h2,h3,h4⟩:=mU hr (by omega)
  exact ⟨h.mid,fun g hg=>.inl (h.asc g hg),h1,fun q=>absurd q hk,h3,h4⟩
theorem uK {c:Cx}{gs all:List G}{s:Ev}(h:pR c gs) (hn:c.bs.length≤1000) (hm0:0≤c.m) (hm1:c.m≤1048576) (hr:iQ c.bs.length s=true) (hk:s.k=4) (e:join gs s.a s.b=some all):zT c (2*c.m) all s:=by
  obtain ⟨h1,h2,h3,h4⟩:=mU hr (by omega)
  have h2:=h2 hk;obtain ⟨j1,j2⟩:=zC7 h.mid hm0 hm1 h1 ⟨by omega,by omega⟩ e
  exact ⟨j1,fun g hg=>(WJ e (h.mid.find h1) g hg).imp_left fun hg=>h.asc g hg,h1,fun _=>j2,h3,h4⟩
theorem oH.n12 {c:Cx}{M:Int}{gs:List G}(h:oH c M gs):c.bs.length≤12:=by
  have:=h.cov.length_eq;have:=h.out.ln;simp at *;omega
theorem IG {c:Cx}{gs:List G}{s:Ev}(h:pR c gs) (hm0:0≤c.m) (hm1:c.m≤1048576):pR c (eY c gs s).2:=by
  have hn:=h.mid.n12;unfold eY;split
  · rename_i hr;split
    · rename_i hk;split
      · exact h
      · rename_i all e;exact SR (uK h (by omega) hm0 hm1 hr hk e) (by omega) hm0 h
    · rename_i hk;exact SR (xA h (by omega) hm0 hr hk) (by omega) hm0 h
  · exact h
def LK (c:Cx) (s:Ev) (g:G) (w:W):List W:=
  (if (kQ c w (g.1.idxOf s.a) s).2 then [(kQ c w (g.1.idxOf s.a) s).1] else [])++(if s.k=4 then [pL w (g.1.idxOf s.a) (g.1.idxOf s.b)] else [])
def xE (c:Cx) (s:Ev) (g:G) (k:Nat):List W:=(g.2.take k).flatMap (LK c s g)
theorem WC (c:Cx) (s:Ev) (g:G):xE c s g g.2.length=mQ c s g:=by unfold xE;rw [cQ];rfl
theorem CN {c:Cx}{s:Ev}{g:G}{k:Nat}(h:k<g.2.length):xE c s g (k+1)=xE c s g k++LK c s g g.2[k]:=by
  unfold xE;rw [aP h,fX,bM,EG,List.append_nil]
theorem VE {c:Cx}{s:Ev}{g:G}{w:W}:(LK c s g w).length≤2:=by
  unfold LK;rw [aF];split <;> split <;> simp
theorem GI {c:Cx}{s:Ev}{g:G}:∀ {k:Nat},k≤g.2.length→(xE c s g k).length≤2*k
  | 0,_=>by simp [xE]
  | k+1,h=>by
    rw [CN (by omega),aF]
    have:=GI (c:=c) (s:=s) (g:=g) (k:=k) (by omega)
    have:=VE (c:=c) (s:=s) (g:=g) (w:=g.2[k]'(by omega))
    omega
theorem SU (l:List Int):AB.rf (.arr (Go.Ab.ints l) 1)=true:=by
  show (Go.Ab.ints l).all AV.rfL=true;rw [bK];intro e he;obtain ⟨x,_,rfl⟩:=bA.1 he;rfl
theorem ZK (l:List SP):AB.rf (.arr (fY l) 2)=true:=by
  show (fY l).all AV.rfL=true;rw [bK];intro e he;obtain ⟨x,_,rfl⟩:=bA.1 he;rfl
theorem zP2 (a:List Int) (b:List SP):[AB.arr (Go.Ab.ints a) 1,.arr (fY b) 2].all AB.rf=true:=by
  simp only [A8,SU,ZK,List.all_nil,Bool.and_self]
theorem LF {c:Cx}{n:Nat}{gs:List G}(h:oG n gs):oG n (wD c gs):=by
  have h:=h.paid c;unfold wD;generalize paid c gs=L at *;have hp:=dU cG (L.flatMap fun g=>mD g.1.length g);have hmem:∀ x,x∈rT L→∃ g,g∈L∧x∈mD g.1.length g:=fun x hx=>fC.1 (hp.mem_iff.1 hx);have bod:((rT L).flatMap (·.1)).Perm (L.flatMap (·.1)):=(hp.flatMap_right _).trans (tV fun g hg=>B7 _ (h.ok g hg));refine ⟨fun x hx=>?_,bod.nodup_iff.2 h.nd,by rw [bod.length_eq];exact h.ln,fun x hx=>?_⟩
  all_goals obtain ⟨g,hg,hx⟩:=hmem x hx
  · exact IM _ (h.ok g hg) x hx
  · exact MK (by omega) (h.ws g hg) x hx
abbrev xN (s:Ev):List AV:=[.i s.k,.i s.a,.i s.b,.i s.n,.rowE (Go.Ab.ints s.ids) 1]
end Go.Ld
namespace Go.Proofs.YtmmmeebiobjnbaaGreat
open Go Go.Ab Go.Ld
attribute [local irreducible] VC AW cD aT jE
set_option maxHeartbeats 4000000
theorem yB1 (g:G):aT Tryz.prog 67 [XV g] [] (.b g.2.isEmpty) []:=by
  obtain ⟨bs,ws⟩:=g;cases ws with
  | nil=>
    refine bU T Tryz.func67 rfl rfl rfl rfl ?_
    (repeat' (first|refine wS ?_|refine wR ?_|(refine rg 0 (cC (cO rfl rfl) rfl (aV ?_)))|(refine rg 1 (gI T rfl (qW T rfl (vV (eD rfl rfl) (aV ?_)))))|refine nZ ?_));all_goals first | (exfalso;omega) | exact rQ
  | cons w ws=>
    have hl:(gM (w::ws)).length≠0:=by rw [fR];simp
    refine bU T Tryz.func67 rfl rfl rfl rfl ?_
    (repeat' (first|refine wS ?_|refine wR ?_|(refine rg 0 (cC (cO rfl rfl) rfl (aV ?_)))|(refine rg 1 (gI T rfl (qW T rfl (vV (eD rfl rfl) (aV ?_)))))|refine nZ ?_));all_goals first | (exfalso;omega) | exact rQ
noncomputable def yI5:Code:=match Tryz.f46.body with
  | some (.seq _ (.seq _ (.seq _ (.seq _ c))))=>c
  | _=>.skip
noncomputable def yN1:Code:=match yI5 with
  | .seq a _=>a
  | _=>.skip
noncomputable def yN2:Code:=match yI5 with
  | .seq _ b=>b
  | _=>.skip
theorem PO (c:Cx) (l all:List G) (s:Ev){M:Int}(hc:iL c) (h:zT c M all s) (hM:M≤2200000) (hids:s.ids.length≤9223372036854775807) :
    AW Tryz.prog (Tryz.f46.ntmps,1) yN1 [(0,.ptr 0 0),(3,.pr (xN s) 0),(5,.sl 1 0 all.length 2)] [.cells (kI c l),.arr (kU all) 2] (MS (fun v h=>AW Tryz.prog (Tryz.f46.ntmps,1) yN2 v h (ZM T Tryz.f46.results.toList 1 (.i (sS c l all s).1) [.cells (kI c (sS c l all s).2)])) (ZM T Tryz.f46.results.toList 1 (.i (sS c l all s).1) [.cells (kI c (sS c l all s).2)])):=by
  obtain ⟨i,g,hi,hg,hgm,hat,ha,hb⟩:=h.at;have hn12:=h.mid.n12;have hal:(kU all).length=all.length:=jW _;have hl12:all.length≤12:=bG h.mid.out.len h.mid.out.ln;have og:=h.mid.out.ok g hgm;have hwl:=h.mid.wl g hgm;have hln:=og.ln;have hil:=(aB.1 hg).1;have f1:=C5 all s.a (by omega) (fun g hg=>by have:=(h.mid.out.ok g hg).ln;omega)
  have hvw:∀ {x:AB} {r:Hp},oF (x :: .arr (kU all) 2::r) (.sl 1 0 all.length 2) (.rowE (kU all) 2):=fun {x r}=>nP rfl hal.symm (pG (fun _=>rfl) _);have hix:=yK g.1 s.a (by omega)
  have hxi:yR g.1 s.a 0=((g.1.idxOf s.a:Nat):Int):=by have:=F4 g.1 s.a 0 ha;simpa using this
  rw [hxi] at hix;rw [hi] at f1;have q1:=C2 (L:=all) (j:=(i:Int)) (i:=i) hg rfl;unfold sS;dsimp only;rw [hat,hi,bP];obtain ⟨bs,ws⟩:=g;dsimp only at *;have hwsl:(gM ws).length=ws.length:=fR _
  (repeat' (first|refine wS ?_|(refine rg 9 (mW rfl (fW T rfl (vV (aK T rfl rfl rfl rfl) (vV (by exact fM rfl rfl f1 (.cons hvw (.cons (.v _) .nil)) rfl rfl) ?_))));refine aV ?_)|(refine rg 10 (dI rfl (vV (by exact aI T rfl rfl rfl rfl rfl (by omega) (by omega)) ?_));refine fW T rfl (vV (by exact aK T rfl rfl (bF rfl q1) rfl) ?_);refine vV (by exact eO T rfl rfl rfl rfl) ?_;refine cC (cM T rfl) rfl (bD T rfl rfl rfl rfl rfl rfl (by decide) rfl ?_))|refine nZ ?_));all_goals try (exfalso;omega)
  refine oN 2 1 3 rfl rfl (by decide) ?_
  (repeat' (first|refine wS ?_|refine wB ?_|(refine rg 11 (fW T rfl (vV (aK T rfl rfl rfl rfl) (fW T rfl (vV (aK T rfl rfl rfl rfl) (vV (kC (hix)) (aV ?_)))))))|(refine rg 12 (dI rfl (vV (by exact aI T rfl rfl rfl rfl rfl (by omega) (by omega)) ?_));refine fW T rfl (vV (by exact aK T rfl rfl (bF rfl q1) rfl) ?_);refine qW T rfl (mV ?_))|refine nZ ?_));all_goals try (exfalso;omega)
  refine dA (X:={k:Nat // k≤ws.length}) (fun k=>[(0,.ptr 0 0),(3,.pr (xN s) 0),(5,.sl 1 0 all.length 2),(8,.i i),(9,.ptr 2 0),(10,.i (bs.idxOf s.a:Nat)),(63,.rowE (gM ws) 3),(64,.i (gM ws).length),(65,.i k.1)]) (fun k=>[.cells (kI c l),.arr (kU all) 2,.cells [.rowE (ints bs) 1,.sl 3 0 (xE c s (bs,ws) k.1).length 3],.arr (gM (xE c s (bs,ws) k.1)) 3]) (fun k=>ws.length-k.1) ⟨0,bW _⟩ ⟨[0,1,2,3],rfl,(by repeat first|exact trivial|refine ⟨rfl,?_⟩),⟨.inr rfl,.inr (aC rfl rfl (eN _)),.inr rfl,.inr rfl,trivial⟩,by decide,xH _⟩ ?_
  rintro ⟨k,hk⟩;dsimp only;by_cases hlt:k<ws.length
  · have hgk:=D9 hlt;have hst:=CN (c:=c) (s:=s) (g:=(bs,ws)) (k:=k) hlt;have hal2:=GI (c:=c) (s:=s) (g:=(bs,ws)) (k:=k) hk;have ow:=og.ws ws[k] (aM hlt);obtain ⟨hidx,_⟩:=yQ ha;have hbw:=zH5 c l ws[k] s hc ow rfl hidx (by show bs.length≤1000;omega) hids ⟨h.n0,h.n1⟩
    obtain ⟨e1,e2⟩:=JQ c ws[k] (bs.idxOf s.a) s;have hk4:s.k=4→(kQ c ws[k] (bs.idxOf s.a) s).2=true:=fun q=>by unfold kQ;rw [q];rfl
    have hex:s.k=4→∃ j:Nat,yR bs s.b 0=(j:Int)∧j=bs.idxOf s.b∧j<bs.length:=fun q=>by
      obtain ⟨hj,_⟩:=yQ (hb q);exact ⟨bs.idxOf s.b,by have:=F4 bs s.b 0 (hb q);simpa using this,rfl,hj⟩
    have hiy:=yK bs s.b (by omega)
    unfold LK at hst;dsimp only at hst;have hpl:=ow.pl;have hcl:=ow.cl;have hal3:(gM (xE c s (bs,ws) k)).length=(xE c s (bs,ws) k).length:=fR _;generalize xE c s (bs,ws) k=acc at *;generalize hN:xE c s (bs,ws) (k+1)=acc' at *;generalize bs.idxOf s.a=ia at *;generalize hw:ws[k]=w at *;generalize kQ c w ia s=z at *;obtain ⟨⟨zp,zm,zc⟩,zb⟩:=z;dsimp only at e1 e2 hst hk4 hbw;subst e1;obtain ⟨wp,wm,wc⟩:=w;dsimp only at *;have hz1:(ints wp).length=wp.length:=cY _;have hz2:(fY zc).length=zc.length:=iP _
    (repeat' (first|refine wS ?_|refine wB ?_|refine wK ?_|(refine wC rfl ?_ ?_<;>(intro hb;(try simp only [nm] at hb);try (exfalso;omega)))|(refine rg 13 (vV (aL rfl rfl) ?_))|(refine rg 14 (vV (ix T rfl (by omega) (pZ _) hgk) (lW T rfl (cC (cM T rfl) rfl (bD T rfl rfl rfl rfl rfl rfl (by decide) rfl ?_)))))|refine nZ ?_));all_goals try (exfalso;omega)
    refine fH 12 (cs:=wA (wp,wm,wc)) rfl rfl rfl ?_
    (repeat' (first|refine wS ?_|(refine rg 15 (mW rfl (lW T rfl (mW rfl (lW T rfl (cC (by exact fN rfl rfl hbw (.inl ⟨.cons (.ptr rfl (lJ _ rfl)) (.cons (HW _) (.cons (.v _) (.cons (.agg (lJ _ rfl)) .nil))),zP2 _ _⟩)) rfl ?_)))));refine mW rfl (xW rfl (xW rfl (cC (cM T rfl) rfl (bD T rfl rfl rfl rfl rfl rfl (by decide) rfl (aV ?_))))))|refine nZ ?_));all_goals try (exfalso;omega)
    refine fO [(0,.ptr 0 0),(3,.pr (xN s) 0),(5,.sl 1 0 all.length 2),(8,.i i),(9,.ptr 2 0),(10,.i ia),(63,.rowE (gM ws) 3),(64,.i (gM ws).length),(65,.i k),(12,.pr (wA (wp,wm,wc)) 0),(13,.ptr 6 0),(14,.b zb)] [.cells (kI c l),.arr (kU all) 2,.cells [.rowE (ints bs) 1,.sl 3 0 acc.length 3],.arr (gM acc) 3,.arr (ints wp) 1,.arr (fY zc) 2,.cells [.sl 4 0 wp.length 1,.i zm,.sl 5 0 wc.length 2]]
      ⟨[0,1,2,3,5,6,7],rfl,(by repeat first|exact trivial|refine ⟨rfl,?_⟩),⟨.inr rfl,.inr (aC rfl rfl (eN _)),.inr rfl,.inr (aC rfl rfl (bX _)),.inr (aC rfl (bB _ (bJ _)) (bJ _)),.inr (aC rfl (bB _ (fL _)) (fL _)),.inr rfl,trivial⟩,by decide,xH _⟩ ?_
    refine nN 6 0 (es:=ints wp) rfl rfl rfl hz1.symm (gV (bJ _)) ?_;refine nN 6 2 (es:=fY zc) rfl rfl rfl (by omega) (gV (fL _)) ?_
    refine fH 13 (cs:=wA (wp,zm,zc)) rfl rfl rfl ?_;refine fO [(0,.ptr 0 0),(3,.pr (xN s) 0),(5,.sl 1 0 all.length 2),(8,.i i),(9,.ptr 2 0),(10,.i ia),(63,.rowE (gM ws) 3),(64,.i (gM ws).length),(65,.i k),(12,.pr (wA (wp,wm,wc)) 0),(13,.pr (wA (wp,zm,zc)) 0),(14,.b zb)] [.cells (kI c l),.arr (kU all) 2,.cells [.rowE (ints bs) 1,.sl 3 0 acc.length 3],.arr (gM acc) 3]
      ⟨[0,1,2,3],rfl,(by repeat first|exact trivial|refine ⟨rfl,?_⟩),⟨.inr rfl,.inr (aC rfl rfl (eN _)),.inr rfl,.inr (aC rfl rfl (bX _)),trivial⟩,by decide,xH _⟩ ?_
    have hA1:∀ (l:List W) (w:W),gM (l++[w])=gM l++[wA w]:=fun l w=>by rw [gM,bT];rfl
    by_cases k4:s.k=4
    · obtain rfl:=hk4 k4;rw [if_pos rfl,if_pos k4] at hst;obtain ⟨j,hj1,hj2,hj3⟩:=hex k4;rw [hj1] at hiy;rw [← hj2] at hst;have hxc:=yE4 (wp,wm,wc) (i:=ia) (k:=j) ⟨by dsimp only;omega,by dsimp only;omega⟩ (by dsimp only;omega) (by dsimp only;omega) (by dsimp only;omega)
      generalize pL (wp,wm,wc) ia j=u at *;obtain ⟨up,um,uc⟩:=u;have hW:=hA1 acc (wp,zm,zc);have hW2:=hA1 (acc++[(wp,zm,zc)]) (up,um,uc);rw [bZ,← hst] at hW2;have hacl:acc'.length=acc.length+2:=by rw [hst];simp
      have hWl:(gM (acc++[(wp,zm,zc)])).length=acc.length+1:=by rw [fR];simp
      have hidA:=bX (acc++[(wp,zm,zc)]);generalize gM (acc++[(wp,zm,zc)])=B at *;generalize gM acc=A at *
      (repeat' (first|refine wS ?_|refine wT ?_|(refine rg 16 (mV ?_))|(refine rg 17 (gI T rfl (lW T rfl (cC (by exact bE T rfl rfl (by decide) (by decide) rfl rfl rfl) rfl ?_)));refine fS T rfl rfl rfl rfl rfl rfl (by omega) (iK.whole rfl rfl) rfl (by simp;omega) (by simp;omega) rfl ?_;refine fW T rfl (bD T rfl rfl rfl rfl rfl rfl (by decide) rfl ?_))|refine nZ ?_));all_goals try (exfalso;omega)
      refine fO [(0,.ptr 0 0),(3,.pr (xN s) 0),(5,.sl 1 0 all.length 2),(8,.i i),(9,.ptr 2 0),(10,.i ia),(63,.rowE (gM ws) 3),(64,.i (gM ws).length),(65,.i k),(12,.pr (wA (wp,wm,wc)) 0)] [.cells (kI c l),.arr (kU all) 2,.cells [.rowE (ints bs) 1,.sl 3 0 (acc.length+1) 3],.arr B 3]
        ⟨[0,1,2,5],rfl,(by repeat first|exact trivial|refine ⟨rfl,?_⟩),⟨.inr rfl,.inr (aC rfl rfl (eN _)),.inr rfl,.inr (aC rfl (by rw [hW];exact jF hal3.symm) hidA),trivial⟩,by decide,xH _⟩ ?_
      (repeat' (first|refine wT ?_|(refine rg 18 (gI T rfl (vV (lE rfl rfl k4) ?_)))|(refine lZ (id:=19) 128 [[],[0],[],[],[],[4],[],[6],rM 4 4,rM 2 7,rM 2 8,rN 11] (rM 87 12) [[],[],[87,88],[87,88,89],rM 87 4,rM 87 4,rM 87 6,rM 87 6,rM 87 4,[87,88],[87,88],[]] [(11,3)] cK rfl (by decide +kernel) (cH rfl rfl rfl rfl (by exact bI T rfl rfl rfl) ?_);refine cH rfl rfl rfl rfl (by exact aK T rfl rfl rfl rfl) ?_;refine cH rfl rfl rfl rfl (by exact aK T rfl rfl rfl rfl) ?_;refine cH rfl rfl rfl rfl (by exact bR rfl) ?_;refine cH rfl rfl rfl rfl (by exact bI T rfl rfl rfl) ?_;refine cH rfl rfl rfl rfl (by exact aK T rfl rfl rfl rfl) ?_;refine cH rfl rfl rfl rfl (by exact bI T rfl rfl rfl) ?_;refine cH rfl rfl rfl rfl (by exact aK T rfl rfl rfl rfl) ?_;refine cH rfl rfl rfl rfl (by exact kC (hiy)) ?_;refine cH rfl rfl rfl rfl (by exact kC (hxc)) ?_;refine vR rfl rfl rfl rfl (by exact bE T rfl rfl (by decide) (by decide) rfl rfl rfl) rfl ?_;refine mR rfl rfl rfl rfl (aH rfl) (by exact mA T rfl rfl rfl rfl rfl rfl (by omega) (iK.whole rfl rfl) rfl (by simp;omega) (by simp;omega)) ?_;refine pU rfl rfl rfl (by exact rfl) ?_;refine fW T rfl (bD T rfl rfl rfl rfl rfl rfl (by decide) rfl ?_))|(refine rg 20 (vV (cE rfl rfl (by omega) (by omega)) (mV ?_)))|refine nZ ?_));all_goals try (exfalso;omega)
      exact ⟨⟨k+1,hlt⟩,by dsimp only;omega,⟨[0,1,2,5],rfl,(by repeat first|exact trivial|refine ⟨rfl,?_⟩),⟨.inr rfl,.inr (aC rfl rfl (eN _)),.inr (by dsimp only;rw [hN,hacl];rfl),.inr (aC rfl (by dsimp only;rw [hN,hW2];exact jF hWl.symm) (bX _)),trivial⟩,by decide,xH _⟩⟩
    · rw [if_neg k4,List.append_nil] at hst;cases zb with
      | true=>
        rw [if_pos rfl] at hst;have hW:=hA1 acc (wp,zm,zc);rw [← hst] at hW;have hacl:acc'.length=acc.length+1:=by rw [hst];simp
        generalize gM acc=A at *
        (repeat' (first|refine wS ?_|refine wK ?_|refine wT ?_|refine wU ?_|(refine rg 16 (mV ?_))|(refine rg 17 (gI T rfl (lW T rfl (cC (by exact bE T rfl rfl (by decide) (by decide) rfl rfl rfl) rfl ?_)));refine fS T rfl rfl rfl rfl rfl rfl (by omega) (iK.whole rfl rfl) rfl (by simp;omega) (by simp;omega) rfl ?_;refine fW T rfl (bD T rfl rfl rfl rfl rfl rfl (by decide) rfl ?_))|(refine rg 18 (gI T rfl (vV (iE rfl rfl (by omega)) ?_)))|(refine rg 20 (vV (cE rfl rfl (by omega) (by omega)) (mV ?_)))|refine nZ ?_));all_goals try (exfalso;omega)
        exact ⟨⟨k+1,hlt⟩,by dsimp only;omega,⟨[0,1,2,5],rfl,(by repeat first|exact trivial|refine ⟨rfl,?_⟩),⟨.inr rfl,.inr (aC rfl rfl (eN _)),.inr (by dsimp only;rw [hN,hacl];rfl),.inr (aC rfl (by dsimp only;rw [hN,hW];exact jF hal3.symm) (bX _)),trivial⟩,by decide,xH _⟩⟩
      | false=>
        rw [if_neg (by simp),List.append_nil] at hst
        subst hst
        (repeat' (first|refine wS ?_|refine wK ?_|refine wU ?_|(refine rg 16 (mV ?_))|(refine rg 18 (gI T rfl (vV (iE rfl rfl (by omega)) ?_)))|(refine rg 20 (vV (cE rfl rfl (by omega) (by omega)) (mV ?_)))|refine nZ ?_));all_goals try (exfalso;omega)
        exact ⟨⟨k+1,hlt⟩,by dsimp only;omega,⟨[0,1,2,3],rfl,(by repeat first|exact trivial|refine ⟨rfl,?_⟩),⟨.inr rfl,.inr (aC rfl rfl (eN _)),.inr (by dsimp only;rw [hN];rfl),.inr (aC rfl (by dsimp only;rw [hN]) (bX _)),trivial⟩,by decide,xH _⟩⟩
  · obtain rfl:k=ws.length:=by omega
    have hNA:=WC c s (bs,ws);dsimp only at hNA;rw [hNA];have hnl:=WB (c:=c) (s:=s) (g:=(bs,ws));dsimp only at hnl;have hno:∀ w,w∈mQ c s (bs,ws)→HO c.bs.length bs.length w:=fun w hw=>(MP h.mid hM hgm h.n0 ha hb hw).1;have hoc:=GC (mQ c s (bs,ws)) (by omega) (fun w hw=>⟨by have:=(hno w hw).pl;omega,by have:=(hno w hw).cl;omega⟩)
    have hnx:=h.next hM hg ha hb
    dsimp only at hnx;have hol:=sU (mQ c s (bs,ws));have hNl:(gM (mQ c s (bs,ws))).length=(mQ c s (bs,ws)).length:=fR _;generalize mQ c s (bs,ws)=nw at *
    (repeat' (first|refine wS ?_|refine wE ?_|(refine wC rfl ?_ ?_<;>(intro hb;(try simp only [nm] at hb);try (exfalso;omega)))|(refine rg 13 (vV (aL rfl rfl) ?_))|refine nZ ?_));all_goals try (exfalso;omega)
    refine nN 2 1 (es:=gM nw) rfl rfl rfl hNl.symm (gV (bX _)) ?_;generalize gS nw=ow at *;have how:(gM ow).length=ow.length:=fR _
    (repeat' (first|refine wS ?_|refine wB ?_|(refine rg 21 (gI T rfl (vV (kC (hoc)) (fW T rfl (bD T rfl rfl rfl rfl rfl rfl (by decide) rfl ?_)))))|refine nZ ?_));all_goals try (exfalso;omega)
    refine fO [(0,.ptr 0 0),(3,.pr (xN s) 0),(5,.sl 1 0 all.length 2),(8,.i i),(9,.ptr 2 0)] [.cells (kI c l),.arr (kU all) 2,.cells (gA (bs,ow))] ⟨[0,1,2],rfl,(by repeat first|exact trivial|refine ⟨rfl,?_⟩),⟨.inr rfl,.inr (aC rfl rfl (eN _)),.inr rfl,trivial⟩,by decide,xH _⟩ ?_
    by_cases h0:ow=[]
    · subst h0;rw [if_pos rfl]
      (repeat' (first|refine wS ?_|refine wR ?_|refine wT ?_|(refine rg 22 (gI T rfl (qW T rfl (vV (eD rfl rfl) (aV ?_)))))|(refine rg 23 (aV ?_))|refine nZ ?_));all_goals try (exfalso;omega)
      exact ⟨.inl rfl,[0],_,rfl,rfl,rfl,⟨.inr rfl,trivial⟩,by decide,xH _⟩
    · rw [if_neg h0];have hop:=fD.2 h0;by_cases h1:1000<ow.length
      · rw [if_pos h1]
        (repeat' (first|refine wS ?_|refine wR ?_|(refine wC rfl ?_ ?_<;>(intro hb;(try simp only [nm] at hb);try (exfalso;omega)))|(refine rg 22 (gI T rfl (qW T rfl (vV (eD rfl rfl) (aV ?_)))))|(refine rg 24 (gI T rfl (qW T rfl (vV (fA rfl rfl) (aV ?_)))))|(refine rg 25 (aV ?_))|refine nZ ?_));all_goals try (exfalso;omega)
        exact ⟨.inl rfl,[0],_,rfl,rfl,rfl,⟨.inr rfl,trivial⟩,by decide,xH _⟩
      · rw [if_neg h1];obtain ⟨hm1,hasc⟩:=hnx h0 (by omega)
        have hty:=zN4 c l (all.set i (bs,ow)) hm1.out hm1.up hm1.ne;have hset:=M7 (L:=all) (j:=(i:Int)) (i:=i) (x:=(bs,ow)) rfl;have hto:=(LF hm1.out (c:=c)).len;have hto2:=(LF hm1.out (c:=c)).ln;have hcf:=yD4 (l:=wD c (all.set i (bs,ow))) (F:=67) (caps:=[]) (p:=fun g=>g.2.isEmpty) (by omega) rfl (fun x hx=>yB1 x)
        have hNl2:all.length=(kU (all.set i (bs,ow))).length:=by rw [jW,gW]
        (repeat' (first|refine wS ?_|refine wK ?_|(refine wC rfl ?_ ?_<;>(intro hb;(try simp only [nm] at hb);try (exfalso;omega)))|(refine rg 22 (gI T rfl (qW T rfl (vV (eD rfl rfl) (aV ?_)))))|(refine rg 24 (gI T rfl (qW T rfl (vV (fA rfl rfl) (aV ?_)))))|(refine rg 26 (dI rfl (lW T rfl (vV (by exact aI T rfl rfl rfl rfl rfl (by omega) (by omega)) ?_)));refine bD T rfl rfl rfl rfl rfl rfl (by decide) (lR rfl q1 rfl) ?_)|refine nZ ?_));all_goals try (exfalso;omega)
        generalize all.set i (bs,ow)=N at *;refine fO [(0,.ptr 0 0),(5,.sl 1 0 all.length 2)] [.cells (kI c l),.arr (kU N) 2] ⟨[0,1],rfl,(by repeat first|exact trivial|refine ⟨rfl,?_⟩),⟨.inr rfl,.inr (aC rfl hset (eN _)),trivial⟩,by decide,xH _⟩ ?_
        refine JX 5 (es:=kU N) rfl rfl hNl2 (gV (eN _)) ?_;generalize wD c N=out at *
        (repeat' (first|refine wS ?_|(refine rg 27 (dI rfl (eC [0] rfl rfl (hty) rfl rfl (by decide) ⟨.inr rfl,trivial⟩ (by simp) rfl ?_));refine aV ?_)|refine nZ ?_));all_goals try (exfalso;omega)
        cases hany:out.any fun g=>g.2.isEmpty with
        | true=>
          rw [hany] at hcf;rw [if_pos rfl]
          (repeat' (first|refine wS ?_|refine wR ?_|refine wT ?_|(refine rg 28 (mW rfl (vV (kC (hcf)) ?_)))|(refine rg 29 (aV ?_))|refine nZ ?_));all_goals try (exfalso;omega)
          exact ⟨.inl rfl,[0],_,rfl,rfl,rfl,⟨.inr rfl,trivial⟩,by decide,xH _⟩
        | false=>
          rw [hany] at hcf;rw [if_neg (by simp)]
          (repeat' (first|refine wS ?_|refine wK ?_|refine wR ?_|refine wU ?_|(refine rg 28 (mW rfl (vV (kC (hcf)) ?_)))|(refine rg 30 (dI rfl (nV ?_));refine fW T rfl (bD T rfl rfl rfl rfl rfl rfl (by decide) rfl ?_))|(refine rg 31 (aV ?_))|refine nZ ?_));all_goals try (exfalso;omega)
          exact ⟨.inl rfl,[0],_,rfl,rfl,rfl,⟨.inr rfl,trivial⟩,by decide,xH _⟩
theorem ZF (c:Cx) (gs:List G) (s:Ev) (hc:iL c) (h:pR c gs) (hids:s.ids.length≤9223372036854775807) :
    aT Tryz.prog 46 [.ptr 0 0,zU6 s] [.cells (kI c gs)] (.i (eY c gs s).1) [.cells (kI c (eY c gs s).2)]:=by
  have hn12:=h.mid.n12;obtain ⟨hm0,hm1,_⟩:=hc.s;have hgl:(kU gs).length=gs.length:=jW _;have hgl12:gs.length≤12:=bG h.mid.out.len h.mid.out.ln;have hbl:(cW c.bs).length=c.bs.length:=aX _;have hright:=ZJ c.bs.length s.k s.a s.b s.n s.ids hids ⟨by omega,by omega⟩
  have hcl:=O6 gs (by omega)
  have hst:=xA (s:=s) h (by omega) hm0
  have hjo:=fun (hr:iQ c.bs.length s=true) (hk:s.k=4) (all:List G)=>uK (s:=s) (all:=all) h (by omega) hm0 hm1 hr hk
  unfold eY;generalize hv:iQ c.bs.length s=v at *;rw [← hbl] at hright;cases v with
  | false=>
    rw [if_neg (by simp)]
    refine bU T Tryz.func46 rfl rfl rfl rfl ?_
    (repeat' (first|refine wS ?_|(refine rg 0 (cC (cO rfl rfl) rfl (aV ?_)))|refine nZ ?_));refine fH 3 (cs:=xN s) rfl rfl rfl ?_
    (repeat' (first|refine wS ?_|refine wR ?_|refine wT ?_|(refine bV (id:=1) 128 yW3 (rM 15 8) yW4 cK rfl (by decide +kernel) (dN rfl (dV rfl (by exact cN rfl rfl) ?_));refine dP T rfl (dO T rfl (dV rfl (jB T rfl rfl) (dO T rfl (dV rfl (kC (hright)) (dV rfl (eH rfl) (dE ?_)))))))|(refine rg 2 (aV ?_))|refine nZ ?_));all_goals try (exfalso;omega)
    exact ⟨.inl rfl,[0],_,rfl,rfl,rfl,⟨.inr rfl,trivial⟩,by decide,xH _⟩
  | true=>
    rw [if_pos rfl];by_cases k4:s.k=4
    · rw [if_pos k4];obtain ⟨r1,r2,_⟩:=mU hv (by omega)
      have r2:=r2 k4;have fa:=h.mid.find r1;have fb:=h.mid.find (b:=s.b) ⟨by omega,by omega⟩
      cases hj:join gs s.a s.b with
      | none=>
        dsimp only;have hjc:=zS0 gs s.a s.b h.mid.out fa fb hj;refine bU T Tryz.func46 rfl rfl rfl rfl ?_
        (repeat' (first|refine wS ?_|(refine rg 0 (cC (cO rfl rfl) rfl (aV ?_)))|refine nZ ?_));refine fH 3 (cs:=xN s) rfl rfl rfl ?_
        (repeat' (first|refine wS ?_|refine wK ?_|refine wU ?_|(refine bV (id:=1) 128 yW3 (rM 15 8) yW4 cK rfl (by decide +kernel) (dN rfl (dV rfl (by exact cN rfl rfl) ?_));refine dP T rfl (dO T rfl (dV rfl (jB T rfl rfl) (dO T rfl (dV rfl (kC (hright)) (dV rfl (eH rfl) (dE ?_)))))))|(refine rg 3 (mW rfl (nV ?_));refine gI T rfl (cC (by exact fN rfl rfl hcl (.inr ⟨rfl,rfl,by simp⟩)) rfl ?_);refine aV ?_)|refine nZ ?_));all_goals try (exfalso;omega)
        refine fO [(0,.ptr 0 0),(3,.pr (xN s) 0),(5,.sl 1 0 gs.length 2)] [.cells (kI c gs),.arr (kU gs) 2] ⟨[0,2],rfl,(by repeat first|exact trivial|refine ⟨rfl,?_⟩),⟨.inr rfl,.inr (aC rfl (bB _ (eN _)) (eN _)),trivial⟩,by decide,xH _⟩ ?_
        refine JX 5 (es:=kU gs) rfl rfl hgl.symm (gV (eN _)) ?_
        (repeat' (first|refine wS ?_|refine wR ?_|refine wT ?_|(refine rg 4 (gI T rfl (vV (lE rfl rfl k4) ?_)))|(refine rg 5 (mW rfl (gI T rfl (gI T rfl (vV (kC (hjc)) (mW rfl (xW rfl (xW rfl (sG ?_)))))))))|(refine rg 6 (mW rfl (vV (gB rfl rfl) ?_)))|(refine rg 7 (mW rfl (aV ?_)))|refine nZ ?_));all_goals try (exfalso;omega)
        exact ⟨.inl rfl,[0],_,rfl,rfl,rfl,⟨.inr rfl,trivial⟩,by decide,xH _⟩
      | some all=>
        dsimp only;have hso:=hjo rfl k4 all hj;refine bU T Tryz.func46 rfl rfl rfl rfl ?_
        (repeat' (first|refine wS ?_|(refine rg 0 (cC (cO rfl rfl) rfl (aV ?_)))|refine nZ ?_));refine fH 3 (cs:=xN s) rfl rfl rfl ?_
        (repeat' (first|refine wS ?_|refine wK ?_|refine wU ?_|(refine bV (id:=1) 128 yW3 (rM 15 8) yW4 cK rfl (by decide +kernel) (dN rfl (dV rfl (by exact cN rfl rfl) ?_));refine dP T rfl (dO T rfl (dV rfl (jB T rfl rfl) (dO T rfl (dV rfl (kC (hright)) (dV rfl (eH rfl) (dE ?_)))))))|(refine rg 3 (mW rfl (nV ?_));refine gI T rfl (cC (by exact fN rfl rfl hcl (.inr ⟨rfl,rfl,by simp⟩)) rfl ?_);refine aV ?_)|refine nZ ?_));all_goals try (exfalso;omega)
        refine fO [(0,.ptr 0 0),(3,.pr (xN s) 0),(5,.sl 1 0 gs.length 2)] [.cells (kI c gs),.arr (kU gs) 2] ⟨[0,2],rfl,(by repeat first|exact trivial|refine ⟨rfl,?_⟩),⟨.inr rfl,.inr (aC rfl (bB _ (eN _)) (eN _)),trivial⟩,by decide,xH _⟩ ?_
        by_cases hs:pK gs s.a=pK gs s.b
        · have hjc:=zR8 gs s.a s.b h.mid.out fa fb hs;have:all=gs:=by unfold join at hj;dsimp only at hj;rw [if_pos hs] at hj;exact (Option.some.inj hj).symm
          subst this
          (repeat' (first|refine wS ?_|refine wK ?_|refine wT ?_|refine wU ?_|(refine rg 4 (gI T rfl (vV (lE rfl rfl k4) ?_)))|(refine rg 5 (mW rfl (gI T rfl (gI T rfl (eC [1] rfl rfl (hjc) rfl rfl (by decide) ⟨.inr (aC rfl rfl (eN _)),trivial⟩ (by simp) rfl ?_))));refine mW rfl (xW rfl (xW rfl (sG ?_))))|(refine rg 6 (mW rfl (vV (gB rfl rfl) ?_)))|(refine rg 8 (mW rfl (aV ?_)))|refine nZ ?_));all_goals try (exfalso;omega)
          refine fO [(0,.ptr 0 0),(3,.pr (xN s) 0),(5,.sl 1 0 all.length 2)] [.cells (kI c all),.arr (kU all) 2] ⟨[0,1],rfl,(by repeat first|exact trivial|refine ⟨rfl,?_⟩),⟨.inr rfl,.inr (aC rfl (bB _ (eN _)) (eN _)),trivial⟩,by decide,xH _⟩ ?_
          exact PO c all all s hc hso (by omega) hids
        · have hjc:=zR9 gs s.a s.b h.mid.out fa fb hj hs;refine JX 5 (es:=kU gs) rfl rfl hgl.symm (gV (eN _)) ?_
          (repeat' (first|refine wS ?_|refine wK ?_|refine wT ?_|refine wU ?_|(refine rg 4 (gI T rfl (vV (lE rfl rfl k4) ?_)))|(refine rg 5 (mW rfl (gI T rfl (gI T rfl (cC (by exact fN rfl rfl hjc (.inr ⟨rfl,rfl,by simp⟩)) rfl ?_))));refine mW rfl (xW rfl (xW rfl (sG ?_))))|(refine rg 6 (mW rfl (vV (gB rfl rfl) ?_)))|(refine rg 8 (mW rfl (aV ?_)))|refine nZ ?_));all_goals try (exfalso;omega)
          refine fO [(0,.ptr 0 0),(3,.pr (xN s) 0),(5,.sl 1 0 all.length 2)] [.cells (kI c gs),.arr (kU all) 2] ⟨[0,2],rfl,(by repeat first|exact trivial|refine ⟨rfl,?_⟩),⟨.inr rfl,.inr (aC rfl (bB _ (eN _)) (eN _)),trivial⟩,by decide,xH _⟩ ?_
          exact PO c gs all s hc hso (by omega) hids
    · rw [if_neg k4];refine bU T Tryz.func46 rfl rfl rfl rfl ?_
      (repeat' (first|refine wS ?_|(refine rg 0 (cC (cO rfl rfl) rfl (aV ?_)))|refine nZ ?_));refine fH 3 (cs:=xN s) rfl rfl rfl ?_
      (repeat' (first|refine wS ?_|refine wK ?_|refine wU ?_|(refine bV (id:=1) 128 yW3 (rM 15 8) yW4 cK rfl (by decide +kernel) (dN rfl (dV rfl (by exact cN rfl rfl) ?_));refine dP T rfl (dO T rfl (dV rfl (jB T rfl rfl) (dO T rfl (dV rfl (kC (hright)) (dV rfl (eH rfl) (dE ?_)))))))|(refine rg 3 (mW rfl (nV ?_));refine gI T rfl (cC (by exact fN rfl rfl hcl (.inr ⟨rfl,rfl,by simp⟩)) rfl ?_);refine aV ?_)|(refine rg 4 (gI T rfl (vV (iE rfl rfl (by omega)) ?_)))|refine nZ ?_));all_goals try (exfalso;omega)
      refine fO [(0,.ptr 0 0),(3,.pr (xN s) 0),(5,.sl 1 0 gs.length 2)] [.cells (kI c gs),.arr (kU gs) 2] ⟨[0,2],rfl,(by repeat first|exact trivial|refine ⟨rfl,?_⟩),⟨.inr rfl,.inr (aC rfl (bB _ (eN _)) (eN _)),trivial⟩,by decide,xH _⟩ ?_
      exact PO c gs gs s hc (hst rfl k4) (by omega) hids
end Go.Proofs.YtmmmeebiobjnbaaGreat
namespace Go.Ld
open Go.Ab Go.Proofs.YtmmmeebiobjnbaaGreat
def Z5 (c:Cx) (i:Nat):G:=([(i:Int)],[([(i:Int)],0,[((c.bs.getD i (0,0,0)).2.1,(c.bs.getD i (0,0,0)).2.1+1)])])
theorem yG (c:Cx):oB c=(List.range c.bs.length).map (Z5 c):=rfl
theorem DC {α β:Type}(f:α→β):∀ l:List α,(l.flatMap fun x=>[f x])=l.map f
  | []=>rfl
  | x::l=>by rw [bM,DC f l];rfl
theorem zB8 {c:Cx}(hc:iL c) (hn:c.bs.length≤12) (hm:0≤c.m):pR c (oB c):=by
  rw [yG];have hmem:∀ g,g∈(List.range c.bs.length).map (Z5 c)→∃ i,i<c.bs.length∧g=Z5 c i:=fun g hg=>by
    obtain ⟨i,hi,e⟩:=bA.1 hg;exact ⟨i,eU.1 hi,e.symm⟩
  have fl:(((List.range c.bs.length).map (Z5 c)).flatMap (·.1))=nats (List.range c.bs.length):=by
    rw [EH];exact DC _ _
  have fw:(((List.range c.bs.length).map (Z5 c)).flatMap fun g=>(iU g).1)=nats (List.range c.bs.length):=by
    rw [EH];exact DC _ _
  refine ⟨⟨⟨fun g hg=>?_,by rw [fl];exact E9 _,by rw [fl];simpa using hn,fun g hg=>?_⟩,?_,fun g hg=>?_,fun g hg w hw=>?_,by rw [fl],by rw [fw],fun g hg=>?_⟩,fun g hg=>?_,fun g hg=>?_⟩
  · obtain ⟨i,hi,rfl⟩:=hmem g hg;have hb:=hc.f.b i hi;have e:c.bs.getD i (0,0,0)=c.bs[i]:=by rw [aD,aA hi];rfl
    unfold Z5;rw [e];generalize c.bs[i]=x at *;refine ⟨by simp,kR _ _,fun b hb=>by obtain rfl:=bC.1 hb;omega,by simp,fun w hw=>?_,fun w v hw hv=>by obtain rfl:=bC.1 hw;obtain rfl:=bC.1 hv;exact .refl _⟩
    obtain rfl:=bC.1 hw;refine ⟨rfl,rfl,fun b hb=>by obtain rfl:=bC.1 hb;omega,kR _ _,dX _,by dsimp only;omega,fun r hr=>?_⟩
    obtain rfl:=bC.1 hr;unfold PC;dsimp only;omega
  · obtain ⟨i,hi,rfl⟩:=hmem g hg;show 1≤2000;omega
  · refine L3.2 ?_;rw [ES];show ((List.range c.bs.length).map fun i:Nat=>((i:Int))).Pairwise _;refine zL3.2 ((xS).imp fun {a b} h=>by omega)
  · obtain ⟨i,hi,rfl⟩:=hmem g hg;unfold Z5;simp
  · obtain ⟨i,hi,rfl⟩:=hmem g hg;obtain rfl:=bC.1 hw;exact hm
  · obtain ⟨i,hi,rfl⟩:=hmem g hg;show 1≤1000;omega
  · obtain ⟨i,hi,rfl⟩:=hmem g hg;unfold iR;rw [if_pos (.inl (by show 1<2;omega))]
  · obtain ⟨i,hi,rfl⟩:=hmem g hg;exact kR _ _
def Z6 (gs:List G) (b:Int):Option (G × Nat):=match gs.findIdx? fun g=>decide (b∈g.1) with
  | some i=>some (mK gs i,(mK gs i).1.idxOf b)
  | none=>none
theorem M8 {gs:List G}{b:Int}{g:G}{i:Nat}(h:Z6 gs b=some (g,i)):∃ k:Nat,pK gs b=(k:Int)∧gs[k]? = some g∧b∈g.1∧i=g.1.idxOf b:=by
  unfold Z6 at h;cases hq:gs.findIdx? fun g=>decide (b∈g.1) with
  | none=>rw [hq] at h;cases h
  | some k=>
    rw [hq] at h;dsimp only at h;cases h;obtain ⟨hk,hb,_⟩:=List.findIdx?_eq_some_iff_getElem.1 hq;have e:mK gs k=gs[k]:=by unfold mK;rw [aD,aA hk];rfl
    refine ⟨k,by unfold pK;rw [hq],by rw [e];exact aA hk,by rw [e];simpa using hb,rfl⟩
theorem zE6 {gs:List G}{b:Int}(h:Z6 gs b=none):pK gs b = -1:=by
  unfold Z6 at h;cases hq:gs.findIdx? fun g=>decide (b∈g.1) with
  | none=>unfold pK;rw [hq]
  | some k=>rw [hq] at h;cases h
theorem T3 {gs:List G}{b:Int}(h:∃ g,g∈gs∧b∈g.1):∃ g,Z6 gs b=some (g,g.1.idxOf b)∧g∈gs∧b∈g.1:=by
  cases hq:Z6 gs b with
  | none=>
    obtain ⟨i,g,h1,_⟩:=jC h;have:=zE6 hq;omega
  | some x=>
    obtain ⟨g,i⟩:=x;obtain ⟨k,_,h2,h3,rfl⟩:=M8 hq;exact ⟨g,rfl,aO h2,h3⟩
end Go.Ld
namespace Go.Proofs.YtmmmeebiobjnbaaGreat
open Go Go.Ab Go.Ld
attribute [local irreducible] VC AW cD aT jE
set_option maxHeartbeats 4000000
theorem zS8 (c:Cx) (gs:List G) (b:Int) (hl:gs.length≤1000000) (hg:∀ g,g∈gs→g.1.length≤1000000){g:G}{i:Nat}(h:Z6 gs b=some (g,i)) :
    aT Tryz.prog 55 [.pr (kI c gs) 0,.i b] [] (.tup [XV g,.i i,.b true]) []:=by
  obtain ⟨k,h1,h2,h3,rfl⟩:=M8 h;have hf:=C5 gs b hl hg;rw [h1] at hf;have hgl:(kU gs).length=gs.length:=jW _;have hkl:=(aB.1 h2).1;have q:(kU gs)[((k:Int)).toNat]? = some (gA g):=by rw [bP,bY,h2];rfl
  have hix:=yK g.1 b (by have:=hg g (aO h2);omega)
  have hxi:yR g.1 b 0=((g.1.idxOf b:Nat):Int):=by have:=F4 g.1 b 0 h3;simpa using this
  rw [hxi] at hix;generalize g.1.idxOf b=ia at *;obtain ⟨bs,ws⟩:=g;dsimp only at *;refine bU T Tryz.func55 rfl rfl rfl rfl ?_
  (repeat' (first|refine wS ?_|refine wK ?_|refine wR ?_|refine wU ?_|(refine rg 0 (cC (cM T rfl) rfl (sG ?_)))|(refine rg 1 (mW rfl (nV ?_));refine gI T rfl (mW rfl (vV (kC (hf)) (aV ?_))))|(refine rg 2 (mW rfl (vV (aL rfl rfl) ?_)))|(refine rK (id:=4) 17 34 [[],[0],[0,1],[0,1,2],[],rN 5,rN 6,[],[7],[7,8],[7,8,9],[],rM 7 5,rM 7 6,rM 7 7,[],rM 7 9,rN 17,rN 18,rN 19] [[],[0],[0,1],[0,1,2],[],rN 5,rN 6,[],[7],[7,8],[7,8,9],[],rM 7 5,rM 7 6,rM 7 7,[],rM 7 9] (rM 17 17) [[],[],[],[],rM 17 4,[],[],rM 17 7,rM 17 7,rM 17 7,rM 17 7,rM 17 11,rM 17 7,rM 17 7,rM 17 7,rM 17 15,rM 17 7] cK rfl (by decide +kernel) (by decide +kernel) ?_;(dsimp only [List.take,List.drop]);refine dN rfl (dV rfl (by exact cN rfl rfl) ?_);refine dP T rfl (dO T rfl (dN rfl (dV rfl (ix T rfl (by omega) (rZ _) q) (dO T rfl (dN rfl (dV rfl (by exact cN rfl rfl) ?_))))));refine dP T rfl (dO T rfl (dN rfl (dV rfl (ix T rfl (by omega) (rZ _) q) (dP T rfl (dO T rfl (dN rfl (dV rfl (kC (hix)) (dE ?_))))))));refine iM ?_;refine bD T rfl rfl rfl rfl rfl rfl (by decide) rfl (sG ?_))|refine nZ ?_));all_goals try (exfalso;omega)
  all_goals exact ⟨.inl rfl,[],_,rfl,rfl,rfl,trivial,by decide,jY _⟩
end Go.Proofs.YtmmmeebiobjnbaaGreat
namespace Go.Ld
open Go.Ab Go.Proofs.YtmmmeebiobjnbaaGreat
def J4 (g:G) (i:Nat):List Int:=g.2.map fun w=>gP w i
theorem WQ {g:G}{i k:Nat}(h:k<g.2.length):(J4 g i).take (k+1)=(J4 g i).take k++[gP g.2[k] i]:=by
  unfold J4;rw [← kY,← kY,aP h,bT];rfl
end Go.Ld
namespace Go.Proofs.YtmmmeebiobjnbaaGreat
open Go Go.Ab Go.Ld
attribute [local irreducible] VC AW cD aT jE
set_option maxHeartbeats 4000000
abbrev yL9 (l:List Int):Prop:=l.Pairwise (· < ·)
theorem zI4 {G l:List Int}{m:Nat}(hg:G.length≤m) (hm:m<l.length):(ints (G++l.drop G.length))[0+(m:Int).toNat]? = some [AV.i l[m]]:=by
  rw [Nat.zero_add,bP,bY,aE hg,eF,show G.length+(m-G.length)=m by omega,aA hm];rfl
theorem zO3 {G l:List Int}{x:Int}(hg:G.length<l.length):(ints (G++l.drop G.length)).set (0+(G.length:Int).toNat) [AV.i x]=ints ((G++[x])++l.drop (G++[x]).length):=by
  rw [Nat.zero_add,bP,← oK,iZ _ _ (aU _),dY,aY hg,List.set_cons_zero];simp
theorem SZ {G l:List Int}(hg:G.length≤l.length):(ints (G++l.drop G.length)).length=l.length:=by simp;omega
theorem YJ {G l:List Int}:(ints (G++l.drop G.length)).take (0+(G.length:Int).toNat)=ints G:=by
  rw [Nat.zero_add,bP,← kY,qR (aU _),bO (aU _)]
def jJ (l:List Int):Nat→List Int
  | 0=>[]
  | m+1=>if 0<m∧l.getD m 0=l.getD (m-1) 0 then jJ l m else jJ l m++[l.getD m 0]
def zR (l:List Int):List Int:=jJ l l.length
theorem O5 {l:List Int}{m:Nat}(h:0<m) (e:l.getD m 0=l.getD (m-1) 0):jJ l (m+1)=jJ l m:=by
  unfold jJ;rw [if_pos ⟨h,e⟩];cases m <;> rfl
theorem NU {l:List Int}{m:Nat}(e:l.getD m 0≠l.getD (m-1) 0):jJ l (m+1)=jJ l m++[l.getD m 0]:=by
  unfold jJ;rw [if_neg (fun q=>e q.2)];cases m <;> rfl
theorem NT (l:List Int):jJ l 1=[l.getD 0 0]:=by
  unfold jJ;rw [if_neg (fun q=>Nat.lt_irrefl _ q.1)];rfl
theorem sN {l:List Int}{m:Nat}(h:m<l.length):l.getD m 0=l[m]:=by rw [aD,aA h];rfl
theorem UJ {G l:List Int}{m:Nat}{i:Nat}(hg:G.length≤m) (hm:m<l.length) (hi:i=m):(ints (G++l.drop G.length))[i]? = some [AV.i (l.getD m 0)]:=by
  have:=zI4 hg hm;rw [Nat.zero_add,bP] at this;rw [hi,this,sN hm]
theorem UK {l:List Int}{m i:Nat}(hm:m<l.length) (hi:i=m):(ints l)[i]? = some [AV.i (l.getD m 0)]:=by
  rw [hi,mE hm,sN hm]
theorem HC (l:List Int) (hl:l.length≤1000000):aT Tryz.prog 53 [.sl 0 0 l.length 1] [.arr (ints l) 1] (.sl 0 0 (zR l).length 1) [.arr (ints (zR l)) 1]:=by
  have hll:(ints l).length=l.length:=by simp
  refine bU T Tryz.func53 rfl rfl rfl rfl ?_;by_cases h2:l.length<2
  · have hk:zR l=l:=by
      match l,h2 with
      | [],_=>rfl
      | [a],_=>exact NT _
      | _::_::_,h=>exact absurd h (by simp)
    rw [hk]
    (repeat' (first|refine wS ?_|refine wR ?_|(refine wC rfl ?_ ?_<;>(intro hb;(try simp only [nm] at hb);try (exfalso;omega)))|(refine rg 0 (aV ?_))|(refine rg 1 (mW rfl (qW T rfl (vV (aL rfl rfl) ?_))))|(refine rg 2 (mW rfl (aV ?_)))|refine nZ ?_));all_goals first | (exfalso;omega) | exact ⟨.inl rfl,[0],_,rfl,rfl,rfl,⟨.inr (aC rfl rfl (bJ _)),trivial⟩,by decide,IV⟩
  · (repeat' (first|refine wS ?_|refine wB ?_|refine wK ?_|(refine wC rfl (fun hb=>?_) (fun hb=>?_) <;> (((try simp only [nm] at hb);try (exfalso;omega))))|(refine rg 0 (aV ?_))|(refine rg 1 (mW rfl (qW T rfl (vV (aL rfl rfl) ?_))))|(refine rg 3 (aV ?_))|(refine nZ ?_)));all_goals try (exfalso;omega)
    refine dA (X:={k:Nat // 1≤k∧k≤l.length∧jJ l k=l.take k}) (fun k=>[(0,.sl 0 0 l.length 1),(3,.i k.1)]) (fun _=>[.arr (ints l) 1]) (fun k=>l.length-k.1) ⟨1,by omega,by omega,by rw [NT,sN (by omega),aP (by omega)];rfl⟩ ⟨[0],rfl,by (repeat (first | exact trivial | refine ⟨rfl,?_⟩)),⟨.inr (aC rfl rfl (bJ _)),trivial⟩,by decide,IV⟩ ?_
    rintro ⟨k,hk1,hk,hkc⟩;dsimp only;by_cases hlt:k<l.length
    · have e1:=UK (i:=0+(k:Int).toNat) hlt (by omega)
      have e2:=UK (l:=l) (m:=k-1) (i:=0+((k:Int)-1).toNat) (by omega) (by omega)
      by_cases hd:l.getD k 0=l.getD (k-1) 0
      · have hc1:=O5 (l:=l) hk1 hd;rw [hkc] at hc1;generalize l.getD k 0=a at *;generalize l.getD (k-1) 0=b at *
        (repeat' (first|refine wS ?_|refine wB ?_|refine wK ?_|refine wT ?_|(refine wC rfl ?_ ?_<;>(intro hb;(try simp only [nm] at hb);try (exfalso;omega)))|(refine rg 4 (dI rfl (qW T rfl (vV (aL rfl rfl) ?_))))|(refine bV (id:=6) 61 yW5 (rM 16 10) yW6 cK rfl (by decide +kernel) (dN rfl (dN rfl (dV rfl (by exact aI T rfl rfl rfl rfl rfl (by omega) (by omega)) ?_)));refine dV rfl (by exact aK T rfl rfl (bF rfl e1) rfl) ?_;refine dN rfl (dN rfl (dV rfl (cT rfl rfl (by omega) (by omega)) (dV rfl (by exact aI T rfl rfl rfl rfl rfl (by omega) (by omega)) ?_)));refine dV rfl (by exact aK T rfl rfl (bF rfl e2) rfl) ?_;refine dV rfl (lE rfl rfl (by omega)) (dE ?_))|(refine rg 7 (dI rfl (vV (by exact jZ T rfl rfl rfl rfl rfl rfl (by omega) (by omega) (by omega)) ?_));refine aV ?_)|(refine rg 8 (aV ?_))|refine nZ ?_));all_goals try (exfalso;omega)
        have hl1:(jJ l (k+1)).length=k:=by rw [hc1];simp;omega
        refine dA (X:={j:Nat // 1≤j∧k+j≤l.length∧(jJ l (k+j)).length+1≤k+j}) (fun j=>[(0,.sl 0 0 l.length 1),(3,.i (jJ l (k+j.1)).length),(4,.sl 0 (0+(k:Int).toNat) ((l.length:Int)-(k:Int)).toNat 1),(5,.i j.1)]) (fun j=>[.arr (ints (jJ l (k+j.1)++l.drop (jJ l (k+j.1)).length)) 1]) (fun j=>l.length-(k+j.1)) ⟨1,by omega,by omega,by omega⟩ ⟨[0],rfl,⟨rfl,by dsimp only;rw [hl1];rfl,rfl,rfl,trivial⟩,⟨.inr (aC rfl (by dsimp only;rw [hl1,hc1,bS]) (bJ _)),trivial⟩,by decide,IV⟩ ?_
        clear e1 e2 hd hl1 hc1;rintro ⟨j,hj1,hj,hjc⟩;dsimp only;by_cases hjl:k+j<l.length
        · have e1:=UJ (G:=jJ l (k+j)) (l:=l) (m:=k+j) (i:=0+(k:Int).toNat+(j:Int).toNat) (by omega) hjl (by omega)
          have e2:=UJ (G:=jJ l (k+j)) (l:=l) (m:=k+j-1) (i:=0+(k:Int).toNat+((j:Int)-1).toNat) (by omega) (by omega) (by omega)
          have e3:=zI4 (G:=jJ l (k+j)) (l:=l) (aU _) (by omega)
          have hset:=zO3 (G:=jJ l (k+j)) (l:=l) (x:=l.getD (k+j) 0) (by omega)
          have hal:=SZ (G:=jJ l (k+j)) (l:=l) (by omega)
          have hdup:=O5 (l:=l) (m:=k+j) (by omega)
          have hnew:=NU (l:=l) (m:=k+j);have hnl:∀ G:List Int,(G++[l.getD (k+j) 0]).length=G.length+1:=fun G=>by simp
          rw [show k+j+1=k+(j+1) by omega] at hdup hnew
          generalize l.getD (k+j) 0=a at *;generalize l.getD (k+j-1) 0=b at *;generalize l[(jJ l (k+j)).length]=y at *;generalize jJ l (k+j)=G at *;by_cases hd:a=b
          · have hdup:=hdup hd;generalize hA:ints (G++l.drop G.length)=A at *
            (repeat' (first|refine wS ?_|refine wB ?_|refine wK ?_|refine wU ?_|(refine wC rfl ?_ ?_<;>(intro hb;(try simp only [nm] at hb);try (exfalso;omega)))|(refine rg 9 (dI rfl (qW T rfl (vV (aL rfl rfl) ?_))))|(refine bV (id:=11) 61 yW5 (rM 35 10) yW7 cK rfl (by decide +kernel) (dN rfl (dN rfl (dV rfl (by exact aI T rfl rfl rfl rfl rfl (by omega) (by omega)) ?_)));refine dV rfl (by exact aK T rfl rfl (bF rfl e1) rfl) ?_;refine dN rfl (dN rfl (dV rfl (cT rfl rfl (by omega) (by omega)) (dV rfl (by exact aI T rfl rfl rfl rfl rfl (by omega) (by omega)) ?_)));refine dV rfl (by exact aK T rfl rfl (bF rfl e2) rfl) ?_;refine dV rfl (AM rfl rfl (by omega)) (dE ?_))|(refine iA 10 rfl rfl rfl (by omega) (by omega) ?_)|refine nZ ?_));all_goals try (exfalso;omega)
            all_goals exact ⟨⟨j+1,by omega,by omega,by rw [hdup];omega⟩,by dsimp only;omega,[0],rfl,⟨rfl,by dsimp only;rw [hdup];rfl,rfl,rfl,trivial⟩,⟨.inr (aC rfl (by dsimp only;rw [hdup];exact hA.symm) (bJ _)),trivial⟩,by decide,IV⟩
          · have hnew:=hnew hd;have hgl:=hnl G;generalize hA:ints (G++l.drop G.length)=A at *
            (repeat' (first|refine wS ?_|refine wB ?_|refine wK ?_|refine wT ?_|(refine wC rfl ?_ ?_<;>(intro hb;(try simp only [nm] at hb);try (exfalso;omega)))|(refine rg 9 (dI rfl (qW T rfl (vV (aL rfl rfl) ?_))))|(refine bV (id:=11) 61 yW5 (rM 35 10) yW7 cK rfl (by decide +kernel) (dN rfl (dN rfl (dV rfl (by exact aI T rfl rfl rfl rfl rfl (by omega) (by omega)) ?_)));refine dV rfl (by exact aK T rfl rfl (bF rfl e1) rfl) ?_;refine dN rfl (dN rfl (dV rfl (cT rfl rfl (by omega) (by omega)) (dV rfl (by exact aI T rfl rfl rfl rfl rfl (by omega) (by omega)) ?_)));refine dV rfl (by exact aK T rfl rfl (bF rfl e2) rfl) ?_;refine dV rfl (N3 rfl rfl (by omega)) (dE ?_))|(refine rg 12 (dI rfl (dI rfl (vV (by exact aI T rfl rfl rfl rfl rfl (by omega) (by omega)) ?_)));refine vV (by exact aK T rfl rfl (bF rfl e1) rfl) ?_;refine vV (by exact aI T rfl rfl rfl rfl rfl (by omega) (by omega)) ?_;refine bD T rfl rfl rfl rfl rfl rfl (by decide) (lR rfl e3 rfl) ?_)|(refine iA 13 rfl rfl rfl (by omega) (by omega) ?_)|(refine iA 10 rfl rfl rfl (by omega) (by omega) ?_)|refine nZ ?_));all_goals try (exfalso;omega)
            all_goals exact ⟨⟨j+1,by omega,by omega,by rw [hnew];omega⟩,by dsimp only;omega,[0],rfl,⟨rfl,by dsimp only;rw [hnew,hgl];rfl,rfl,rfl,trivial⟩,⟨.inr (aC rfl (by dsimp only;rw [hnew];exact hset) (bJ _)),trivial⟩,by decide,IV⟩
        · have hkj:k+j=l.length:=by omega
          have hcm:zR l=jJ l (k+j):=by rw [hkj];rfl
          have hal:=SZ (G:=jJ l (k+j)) (l:=l) (by omega)
          have htk:=YJ (G:=jJ l (k+j)) (l:=l);rw [hcm];generalize jJ l (k+j)=G at *
          (repeat' (first|refine wS ?_|refine wR ?_|refine wE ?_|(refine wC rfl ?_ ?_<;>(intro hb;(try simp only [nm] at hb);try (exfalso;omega)))|(refine rg 9 (dI rfl (qW T rfl (vV (aL rfl rfl) ?_))))|(refine rg 14 (dI rfl (vV (by exact jZ T rfl rfl rfl rfl rfl rfl (by omega) (by omega) (by omega)) ?_));refine KZ T rfl rfl rfl rfl rfl (by rw [hal];omega) ?_)|(refine rg 15 (dI rfl (vV (by exact jZ T rfl rfl rfl rfl rfl rfl (by omega) (by omega) (by omega)) ?_));refine aV ?_)|refine nZ ?_));all_goals try (exfalso;omega)
          all_goals exact ⟨.inl rfl,[0],_,rfl,(by show AV.sl 0 0 ((G.length:Int)-0).toNat 1=AV.sl 0 0 G.length 1;rw [show ((G.length:Int)-0).toNat=G.length by omega]),rfl,⟨.inr (aC rfl htk (bJ _)),trivial⟩,by decide,IV⟩
      · have hnew:=NU (l:=l) hd;rw [hkc,sN hlt,← aP hlt] at hnew;generalize l.getD k 0=a at *;generalize l.getD (k-1) 0=b at *
        (repeat' (first|refine wS ?_|refine wB ?_|refine wK ?_|refine wU ?_|(refine wC rfl ?_ ?_<;>(intro hb;(try simp only [nm] at hb);try (exfalso;omega)))|(refine rg 4 (dI rfl (qW T rfl (vV (aL rfl rfl) ?_))))|(refine bV (id:=6) 61 yW5 (rM 16 10) yW6 cK rfl (by decide +kernel) (dN rfl (dN rfl (dV rfl (by exact aI T rfl rfl rfl rfl rfl (by omega) (by omega)) ?_)));refine dV rfl (by exact aK T rfl rfl (bF rfl e1) rfl) ?_;refine dN rfl (dN rfl (dV rfl (cT rfl rfl (by omega) (by omega)) (dV rfl (by exact aI T rfl rfl rfl rfl rfl (by omega) (by omega)) ?_)));refine dV rfl (by exact aK T rfl rfl (bF rfl e2) rfl) ?_;refine dV rfl (iE rfl rfl (by omega)) (dE ?_))|(refine iA 5 rfl rfl rfl (by omega) (by omega) ?_)|refine nZ ?_));all_goals try (exfalso;omega)
        all_goals exact ⟨⟨k+1,by omega,hlt,hnew⟩,by dsimp only;omega,[0],rfl,by (repeat (first | exact trivial | refine ⟨rfl,?_⟩)),⟨.inr (aC rfl rfl (bJ _)),trivial⟩,by decide,IV⟩
    · obtain rfl:k=l.length:=by omega
      have hcm:zR l=l:=by
        show jJ l l.length=l;rw [hkc,cQ]
      rw [hcm]
      (repeat' (first|refine wS ?_|refine wR ?_|refine wE ?_|(refine wC rfl ?_ ?_<;>(intro hb;(try simp only [nm] at hb);try (exfalso;omega)))|(refine rg 4 (dI rfl (qW T rfl (vV (aL rfl rfl) ?_))))|(refine rg 16 (mW rfl (aV ?_)))|refine nZ ?_));all_goals first | (exfalso;omega) | exact ⟨.inl rfl,[0],_,rfl,rfl,rfl,⟨.inr (aC rfl rfl (bJ _)),trivial⟩,by decide,IV⟩
theorem O4 (l:List Int) (x:Int):∀ m,m≤l.length→(x∈jJ l m↔x∈l.take m)
  | 0,_=>by simp [jJ]
  | m+1,hm=>by
    have ih:=O4 l x m (by omega)
    rw [aP (by omega)]
    by_cases e:0<m∧l.getD m 0=l.getD (m-1) 0
    · rw [O5 e.1 e.2,ih,bL,bC];refine ⟨.inl,fun h=>h.elim id fun h=>?_⟩
      have e2:=e.2;rw [sN (by omega),sN (by omega)] at e2
      rw [h,e2];exact V0.2 ⟨m-1,by omega,rfl⟩
    · have:jJ l (m+1)=jJ l m++[l.getD m 0]:=by
        unfold jJ;rw [if_neg e];cases m <;> rfl
      rw [this,bL,bL,ih,sN (by omega)]
theorem NV {l:List Int}(hs:l.Pairwise (·≤·)):∀ m,m≤l.length→yL9 (jJ l m)
  | 0,_=>List.Pairwise.nil
  | m+1,hm=>by
    have ih:=NV hs m (by omega)
    by_cases e:0<m∧l.getD m 0=l.getD (m-1) 0
    · rw [O5 e.1 e.2];exact ih
    · have:jJ l (m+1)=jJ l m++[l.getD m 0]:=by
        unfold jJ;rw [if_neg e];cases m <;> rfl
      rw [this];refine eX.2 ⟨ih,kR _ _,fun x hx y hy=>?_⟩
      rw [bC] at hy;rw [O4 l x m (by omega)] at hx
      obtain ⟨i,hi,rfl⟩:=V0.1 hx;have him:i<m:=by omega
      rw [hy,sN (by omega)]
      have h1:l[m-1]≤l[m]:=lH.1 hs (m-1) m _ _ (by omega)
      have h2:l[i]≤l[m-1]:=by
        by_cases ei:i=m-1
        · subst ei;exact dX _
        · exact lH.1 hs i (m-1) _ _ (by omega)
      have h3:l[m]≠l[m-1]:=fun q=>e ⟨by omega,by rw [sN (by omega),sN (by omega)];exact q⟩
      omega
theorem pM (l:List Int):∀ m,(jJ l m).length≤m
  | 0=>by simp [jJ]
  | m+1=>by
    have ih:=pM l m;unfold jJ;split
    · omega
    · simp;omega
abbrev vI (g:G) (i:Nat):List Int:=zR (jD (J4 g i))
theorem yB4 (c:Cx) (gs:List G) (b:Int) (h:pR c gs){g:G}{i:Nat}(hg:Z6 gs b=some (g,i)) :
    aT Tryz.prog 35 [.pr (kI c gs) 0,.i b] [] (.sl 0 0 (vI g i).length 1) [.arr (ints (vI g i)) 1]:=by
  unfold vI;obtain ⟨k0,h1,h2,h3,h4⟩:=M8 hg;have hgm:=aO h2;have og:=h.mid.out.ok g hgm;have hwl:=h.mid.wl g hgm;have hl12:gs.length≤12:=bG h.mid.out.len h.mid.out.ln;have hgr:=zS8 c gs b (by omega) (fun x hx=>by have:=(h.mid.out.ok x hx).ln;omega) hg
  have hi:i<g.1.length:=by rw [h4];exact hC h3
  have hln:=og.ln;have hil:(J4 g i).length=g.2.length:=aX _;have htk:∀ k (h:k<g.2.length),_:=fun k h=>WQ (g:=g) (i:=i) h;have hwg:∀ k (h:k<g.2.length),(ints g.2[k].1)[((i:Int)).toNat]? = some [.i (gP g.2[k] i)]∧(ints g.2[k].1).length=g.1.length:=fun k h=>by
    have:=(og.ws _ (aM h)).pl;exact ⟨sK 0 (by omega) rfl,by rw [cY];exact this⟩
  have hs1:=PM (J4 g i) (by omega)
  have hsl:=yB (J4 g i);have hs2:=HC (jD (J4 g i)) (by omega)
  rw [hsl] at hs2;obtain ⟨bs,ws⟩:=g;dsimp only at *;generalize J4 (bs,ws) i=P at *;have hwsl:(gM ws).length=ws.length:=fR _;refine bU T Tryz.func35 rfl rfl rfl rfl ?_
  (repeat' (first|refine wS ?_|(refine rg 0 (aV ?_))|(refine rg 1 (dI rfl (vV (kC (hgr)) (mW rfl (xW rfl (xW rfl (xW rfl (cC (cM T rfl) rfl (bD T rfl rfl rfl rfl rfl rfl (by decide) rfl (sG ?_))))))))))|refine nZ ?_));all_goals try (exfalso;omega)
  refine fH 5 (cs:=gA (bs,ws)) rfl rfl rfl ?_
  (repeat' (first|refine wS ?_|(refine rg 2 (vV (dK rfl) (nY 8 1 rfl (by decide) ?_)))|refine nZ ?_));all_goals try (exfalso;omega)
  (repeat' (first|refine wB ?_|(refine rg 3 (gI T rfl (qW T rfl (mV ?_))))|refine nZ ?_));all_goals try (exfalso;omega)
  refine dA (X:={k:Nat // k≤ws.length}) (fun k=>[(6,.i i),(8,.sl 0 0 k.1 1),(19,.rowE (gM ws) 3),(20,.i (gM ws).length),(21,.i k.1)]) (fun k=>[.arr (ints (P.take k.1)) 1]) (fun k=>ws.length-k.1) ⟨0,bW _⟩ ⟨[1],rfl,(by repeat first|exact trivial|refine ⟨rfl,?_⟩),⟨.inr rfl,trivial⟩,by decide,jY _⟩ ?_
  rintro ⟨k,hk⟩;dsimp only;by_cases hlt:k<ws.length
  · have hgk:=D9 hlt;obtain ⟨q1,q2⟩:=hwg k hlt;have q3:=htk k hlt;have q4:(ints (P.take k)).length=k:=by rw [cY,bH];omega
    have q5:ints (P.take (k+1))=ints (P.take k)++[[.i (gP ws[k] i)]]:=by rw [q3,T1]
    generalize ints (P.take k)=A at *;generalize gP ws[k] i=v at *;generalize ws[k]=w at *;obtain ⟨wp,wm,wc⟩:=w;dsimp only at *
    (repeat' (first|refine wS ?_|refine wB ?_|refine wK ?_|(refine wC rfl ?_ ?_<;>(intro hb;(try simp only [nm] at hb);try (exfalso;omega)))|(refine rg 4 (vV (aL rfl rfl) ?_))|(refine rg 5 (vV (ix T rfl (by omega) (pZ _) hgk) (lW T rfl (cC (cM T rfl) rfl (bD T rfl rfl rfl rfl rfl rfl (by decide) rfl ?_)))))|(refine rg 6 (mW rfl (gI T rfl (mW rfl (vV (ix T rfl (by omega) (dR _) q1) (lW T rfl (cC (by exact bE T rfl rfl (by decide) (by decide) rfl rfl rfl) rfl ?_))))));refine fS T rfl rfl rfl rfl rfl rfl (by omega) (iK.whole rfl rfl) rfl (by simp;omega) (by simp;omega) rfl ?_;refine aV ?_)|(refine rg 7 (vV (cE rfl rfl (by omega) (by omega)) (mV ?_)))|refine nZ ?_));all_goals try (exfalso;omega)
    exact ⟨⟨k+1,hlt⟩,by dsimp only;omega,⟨[3],rfl,(by repeat first|exact trivial|refine ⟨rfl,?_⟩),⟨.inr (aC rfl (by dsimp only;rw [q5];exact jF q4.symm) (bJ _)),trivial⟩,by decide,jY _⟩⟩
  · obtain rfl:k=ws.length:=by omega
    rw [show P.take ws.length=P by rw [← hil,cQ]]
    rw [← hil] at *
    (repeat' (first|refine wS ?_|refine wR ?_|refine wE ?_|(refine wC rfl ?_ ?_<;>(intro hb;(try simp only [nm] at hb);try (exfalso;omega)))|(refine rg 4 (vV (aL rfl rfl) ?_))|(refine rg 8 (mW rfl (eC [0] rfl rfl (hs1) rfl rfl (by decide) ⟨.inr (aC rfl rfl (bJ _)),trivial⟩ (by simp) rfl ?_)))|(refine rg 9 (mW rfl (eC [0] rfl rfl (hs2) rfl rfl (by decide) ⟨.inr (aC rfl (bB _ (bJ _)) (bJ _)),trivial⟩ (by simp) rfl ?_));refine aV ?_)|refine nZ ?_));all_goals try (exfalso;omega)
    exact ⟨.inl rfl,[0],_,rfl,rfl,rfl,⟨.inr (aC rfl (bB _ (bJ _)) (bJ _)),trivial⟩,by decide,jY _⟩
end Go.Proofs.YtmmmeebiobjnbaaGreat
namespace Go.Ld
open Go.Ab Go.Proofs.YtmmmeebiobjnbaaGreat
def zE0 (a b:SP):SP:=(min a.1 b.1,max a.2 b.2)
def VM (g:G) (i k:Nat):SP:=(g.2.take k).foldl (fun r w=>zE0 r (gC w i)) (gC (iU g) i)
def zO9 (g:G) (i:Nat):SP:=VM g i g.2.length
theorem VL {g:G}{i k:Nat}(h:k<g.2.length):VM g i (k+1)=zE0 (VM g i k) (gC g.2[k] i):=by
  unfold VM;rw [aP h,rV];rfl
end Go.Ld
namespace Go.Proofs.YtmmmeebiobjnbaaGreat
open Go Go.Ab Go.Ld
attribute [local irreducible] VC AW cD aT jE
set_option maxHeartbeats 4000000
end Go.Proofs.YtmmmeebiobjnbaaGreat
namespace Go.Ld
open Go.Ab Go.Proofs.YtmmmeebiobjnbaaGreat
def Z4 (g:G) (p q:List Int) (w:W) (i:Nat):Bool:=decide (gP w i=p.getD (g.1.getD i 0).toNat 0)&&xL (gC w i).1 (gC w i).2 (q.getD (p.getD (g.1.getD i 0).toNat 0).toNat 0)
def DE (g:G) (p q:List Int) (w:W):Bool:=(List.range g.1.length).all (Z4 g p q w)
end Go.Ld
namespace Go.Proofs.YtmmmeebiobjnbaaGreat
open Go Go.Ab Go.Ld
attribute [local irreducible] VC AW cD aT jE
set_option maxHeartbeats 4000000
end Go.Proofs.YtmmmeebiobjnbaaGreat
namespace Go.Ld
open Go.Ab Go.Proofs.YtmmmeebiobjnbaaGreat
def zH4 (g:G) (p q:List Int) (m:Int) (w:W):Int:=if DE g p q w&&(decide (m<0)||decide (w.2.1<m)) then w.2.1 else m
def Y3 (g:G) (p q:List Int) (k:Nat):Int:=(g.2.take k).foldl (zH4 g p q) (-1)
def I0 (g:G) (p q:List Int):Int:=Y3 g p q g.2.length
theorem RJ {g:G}{p q:List Int}{k:Nat}(h:k<g.2.length):Y3 g p q (k+1)=zH4 g p q (Y3 g p q k) g.2[k]:=by
  unfold Y3;rw [aP h,rV];rfl
def yA9 (gs:List G) (p q:List Int) (k:Nat):Int:=((gs.take k).map fun g=>I0 g p q).sum
def yF9 (c:Cx) (gs:List G) (p q:List Int):Bool:=
  decide (p.length=c.bs.length)&&decide (q.length=p.length)&&Go.Pm.permB p&&gs.all (fun g=>decide (0≤I0 g p q))&&decide (yA9 gs p q gs.length≤c.m)
end Go.Ld
namespace Go.Proofs.YtmmmeebiobjnbaaGreat
open Go Go.Ab Go.Ld Go.Pm
attribute [local irreducible] VC AW cD aT jE
set_option maxHeartbeats 4000000
theorem zS6 (n:Int) (h:n≤17592186043904):aT Tryz.prog 50 [.i n] [] (.sl 0 0 n.toNat 1) [.arr (ints (nats (List.range n.toNat))) 1]:=by
  refine bU T Tryz.func50 rfl rfl rfl rfl ?_
  (repeat' (first|refine wS ?_|refine wB ?_|(refine rg 0 (aV ?_))|(refine rg 1 (aV ?_))|(refine rg 2 (mW rfl (vV (yW rfl rfl) (mV ?_))))|refine nZ ?_));refine yF6 3 1 rfl (by decide) ?_
  refine dA (X:={i:Nat // i≤n.toNat}) (fun i=>[(3,.sl 0 0 i.1 1),(6,.i (max n 0)),(7,.i (i.1:Int))]) (fun i=>[.arr (ints (nats (List.range i.1))) 1]) (fun i=>n.toNat-i.1) ⟨0,bW _⟩ ⟨[0],rfl,⟨rfl,rfl,rfl,trivial⟩,⟨.inr rfl,trivial⟩,by decide,R9⟩ ?_
  rintro ⟨i,hi⟩;dsimp only;have hl:(ints (nats (List.range i))).length=i:=by simp
  by_cases hlt:i<n.toNat
  · have hs:ints (nats (List.range i))++[[AV.i (i:Int)]]=ints (nats (List.range (i+1))):=by rw [rR,WE]
    (repeat' (first|refine wS ?_|refine wB ?_|refine wK ?_|(refine wC rfl ?_ ?_<;>(intro hb;(try simp only [nm] at hb);try (exfalso;omega)))|(refine rg 3 (vV (aL rfl rfl) ?_))|(refine rg 4 (mW rfl (aV ?_)))|(refine rg 5 (dI rfl (cC (by exact bE T rfl rfl (by decide) (by decide) rfl rfl rfl) rfl ?_));refine fS T rfl rfl rfl rfl rfl rfl (by simp) (iK.whole rfl rfl) rfl (by simp;omega) (by simp;omega) rfl ?_;refine aV ?_)|(refine rg 6 (vV (cE rfl rfl (by omega) (by omega)) (mV ?_)))|refine nZ ?_));all_goals first | (exfalso;omega) | skip
    exact ⟨⟨i+1,hlt⟩,by dsimp only;omega,[2],rfl,⟨rfl,rfl,rfl,trivial⟩,⟨.inr (aC rfl ((jF hl.symm).trans hs) (bJ _)),trivial⟩,by decide,R9⟩
  · obtain rfl:i=n.toNat:=by omega
    (repeat' (first|refine wS ?_|refine wR ?_|refine wE ?_|(refine wC rfl ?_ ?_<;>(intro hb;(try simp only [nm] at hb);try (exfalso;omega)))|(refine rg 3 (vV (aL rfl rfl) ?_))|(refine rg 7 (mW rfl (aV ?_)))|refine nZ ?_));all_goals first | (exfalso;omega) | exact ⟨.inl rfl,[0],_,rfl,rfl,rfl,⟨.inr (aC rfl rfl (bJ _)),trivial⟩,by decide,R9⟩
end Go.Proofs.YtmmmeebiobjnbaaGreat
namespace Go.Ab
open Go
theorem pX.freezeEl {n:Nat × Nat}{c:pA}{ρ:Pl}{S:Nat→Prop}{env:eE}{h:Hp}{a:Act}{w:World}{j f k len sz sz2:Nat}{es es' es2:List (List AV)}(s:pX n c ρ S env h a w) (hj:h[j]? = some (.arr es sz)) (hne:j≠k) (h0:es≠[]) (hf:es.flatten[f]? = some (.sl k 0 len sz2)) (hk:h[k]? = some (.arr es2 sz2)) (hn:len=es2.length) (hi:AV.idfL es2.flatten=true)
    (hl:∀ e,e∈es'→e.length=sz) (he:es'.flatten=es.flatten.set f (.rowE es2 sz2)) :
    pX n c ρ (fun b=>S b∨∃ o,ρ k=some (b,o)) env ((h.set k .gone).set j (.arr es' sz)) a w:=by
  have h1:=s.hs.freeze hk;have hj':(h.set k .gone)[j]? = some (.arr es sz):=by rw [iN (Ne.symm hne)];exact hj
  refine ⟨s.size,s.defers.st (fun _ h=>.inl h),fun t' x hx=>KF (fun _ h=>.inl h) (s.env t' x hx),h1.alter hj' (fun _=>?_) (by simp),s.cm⟩
  have hb:=s.hs.blk j _ hj;simp only [RB] at hb ⊢;obtain ⟨b1,b2,b3⟩:=hb;refine ⟨hl,b2,?_⟩;rcases b3 with ⟨e,_⟩ | ⟨b,o,ys,e1,e2,e3⟩
  · exact absurd e h0
  · refine .inr ⟨b,o,ys,e1,e2,?_⟩;rw [he];refine AU (fun _ h=>.inl h) (fun y hy=>?_) hf e3;rw [hn] at hy;exact vP hi (s.hs.blk k _ hk) hy
section
variable {P:Program}{n:Nat × Nat}{ops:Array Oper}{env:eE}{h:Hp}{K:eE→Hp→Prop}{rest:List Oper}{Q:Exit→eE→Hp→Prop}{code:Code}
theorem OF (j f:Nat){k len sz sz2:Nat}{es:List (List AV)}(es':List (List AV)){es2:List (List AV)}(hj:h[j]? = some (.arr es sz)) (hne:j≠k) (h0:es≠[]) (hf:es.flatten[f]? = some (.sl k 0 len sz2)) (hk:h[k]? = some (.arr es2 sz2)) (hn:len=es2.length) (hi:AV.idfL es2.flatten=true)
    (hl:∀ e,e∈es'→e.length=sz) (he:es'.flatten=es.flatten.set f (.rowE es2 sz2)) (hv:AW P n code env ((h.set k .gone).set j (.arr es' sz)) Q):AW P n code env h Q:=
  fun c ρ S a w QQ s hQ=>hv c ρ _ a w QQ (s.freezeEl hj hne h0 hf hk hn hi hl he) hQ
end
end Go.Ab
namespace Go.Ld
open Go.Ab Go.Proofs.YtmmmeebiobjnbaaGreat
theorem zJ5 {es:List (List AV)}(h:∀ e,e∈es→e.all AV.one=true):es.flatten.all AV.one=true:=by
  rw [bK];intro x hx;obtain ⟨e,he,hx⟩:=zX4.1 hx;exact bK.1 (h e he) x hx
theorem IR {α:Type}{f:α→List AV}(hf:∀ x,(f x).all AV.one=true) (l:List α):(l.map f).flatten.all AV.one=true:=zJ5 fun e he=>by
  obtain ⟨x,_,rfl⟩:=bA.1 he;exact hf x
theorem JA {α:Type}{f:α→List AV}(hf:∀ x,AV.idfL (f x)=true) (l:List α):∀ e,e∈l.map f→AV.idfL e=true:=fun e he=>by
  obtain ⟨x,_,rfl⟩:=bA.1 he;exact hf x
def LS (n:Int):Bool:=decide (n<0∨1048576<n)
def LU (c:Cx):Bool:=[c.m,c.st,c.er,c.sl].any LS
theorem VI {c:Cx}:LU c=false↔mH c.m c.st c.er c.sl:=by
  unfold LU mH LS;simp;omega
end Go.Ld
namespace Go.Proofs.YtmmmeebiobjnbaaGreat
open Go Go.Ab Go.Ld
attribute [local irreducible] VC AW cD aT jE
set_option maxHeartbeats 4000000
theorem zG9 (l:List KD) (hl:l.length≤1000000):aT Tryz.prog 51 [.rowE (gE l) 2] [] (.rowE (gE l) 2) []:=by
  have hll:(gE l).length=l.length:=aX _;have hid:=JA (f:=fun b:KD=>[AV.v (.string b.1),AV.i b.2]) (fun _=>rfl) l;have hon:=IR (f:=fun b:KD=>[AV.v (.string b.1),AV.i b.2]) (fun _=>rfl) l;refine kL (len:=l.length) hll.symm (gV hid) ?_;refine bU T Tryz.func51 rfl rfl rfl rfl ?_
  repeat' (first|refine wS ?_|refine wK ?_|refine wT ?_|refine wU ?_|(refine rg 0 (aV ?_))|(refine rg 1 (mV ?_);refine uG T rfl rfl rfl rfl fun b hb=>?_;cases b)|refine nZ ?_)
  · (repeat' (first|refine wR ?_|(refine rg 3 (cC (by exact bE T rfl rfl (by decide) (by decide) rfl rfl rfl) rfl ?_);refine mW rfl (fS T rfl rfl rfl rfl rfl rfl (by decide) (.row (xI l)) hon (by simp;omega) (by simp;omega) rfl ?_);refine aV ?_)|(refine nZ ?_)));exact ⟨.inl rfl,[1],_,rfl,(by show AV.sl 1 0 (0+(gE l).length) 2=AV.sl 1 0 l.length 2;simp),rfl,⟨.inr (aC rfl rfl hid),trivial⟩,by decide,R9⟩
  · have hl0:l=[]:=fI.1 (Classical.byContradiction fun h=>by have:=hb (by omega);cases this)
    subst hl0
    (repeat' (first|refine wR ?_|(refine rg 2 (vV (dK rfl) (nY 2 2 rfl (by decide) ?_)))|refine nZ ?_));exact ⟨.inl rfl,[0],_,rfl,rfl,rfl,⟨.inr (aC rfl rfl hid),trivial⟩,by decide,R9⟩
theorem NY (l:List LT) (hl:l.length≤1000000):aT Tryz.prog 31 [.rowE (iI l) 3] [] (.rowE (iI l) 3) []:=by
  have hll:(iI l).length=l.length:=aX _;have hid:=JA (f:=fun b:LT=>[AV.i b.1,AV.i b.2.1,AV.b b.2.2]) (fun _=>rfl) l;have hon:=IR (f:=fun b:LT=>[AV.i b.1,AV.i b.2.1,AV.b b.2.2]) (fun _=>rfl) l;refine kL (len:=l.length) hll.symm (gV hid) ?_;refine bU T Tryz.func31 rfl rfl rfl rfl ?_
  repeat' (first|refine wS ?_|refine wK ?_|refine wT ?_|refine wU ?_|(refine rg 0 (aV ?_))|(refine rg 1 (mV ?_);refine uG T rfl rfl rfl rfl fun b hb=>?_;cases b)|refine nZ ?_)
  · (repeat' (first|refine wR ?_|(refine rg 3 (cC (by exact bE T rfl rfl (by decide) (by decide) rfl rfl rfl) rfl ?_);refine mW rfl (fS T rfl rfl rfl rfl rfl rfl (by decide) (.row (B8 l)) hon (by simp;omega) (by simp;omega) rfl ?_);refine aV ?_)|(refine nZ ?_)));exact ⟨.inl rfl,[1],_,rfl,(by show AV.sl 1 0 (0+(iI l).length) 3=AV.sl 1 0 l.length 3;simp),rfl,⟨.inr (aC rfl rfl hid),trivial⟩,by decide,R9⟩
  · have hl0:l=[]:=fI.1 (Classical.byContradiction fun h=>by have:=hb (by omega);cases this)
    subst hl0
    (repeat' (first|refine wR ?_|(refine rg 2 (vV (dK rfl) (nY 2 3 rfl (by decide) ?_)))|refine nZ ?_));exact ⟨.inl rfl,[0],_,rfl,rfl,rfl,⟨.inr (aC rfl rfl hid),trivial⟩,by decide,R9⟩
theorem NZ (l:List BX) (hl:l.length≤1000000):aT Tryz.prog 32 [.rowE (cW l) 3] [] (.rowE (cW l) 3) []:=by
  have hll:(cW l).length=l.length:=aX _;have hid:=JA (f:=fun b:BX=>[AV.i b.1,AV.i b.2.1,AV.i b.2.2]) (fun _=>rfl) l;have hon:=IR (f:=fun b:BX=>[AV.i b.1,AV.i b.2.1,AV.i b.2.2]) (fun _=>rfl) l;refine kL (len:=l.length) hll.symm (gV hid) ?_;refine bU T Tryz.func32 rfl rfl rfl rfl ?_
  repeat' (first|refine wS ?_|refine wK ?_|refine wT ?_|refine wU ?_|(refine rg 0 (aV ?_))|(refine rg 1 (mV ?_);refine uG T rfl rfl rfl rfl fun b hb=>?_;cases b)|refine nZ ?_)
  · (repeat' (first|refine wR ?_|(refine rg 3 (cC (by exact bE T rfl rfl (by decide) (by decide) rfl rfl rfl) rfl ?_);refine mW rfl (fS T rfl rfl rfl rfl rfl rfl (by decide) (.row (iS l)) hon (by simp;omega) (by simp;omega) rfl ?_);refine aV ?_)|(refine nZ ?_)));exact ⟨.inl rfl,[1],_,rfl,(by show AV.sl 1 0 (0+(cW l).length) 3=AV.sl 1 0 l.length 3;simp),rfl,⟨.inr (aC rfl rfl hid),trivial⟩,by decide,R9⟩
  · have hl0:l=[]:=fI.1 (Classical.byContradiction fun h=>by have:=hb (by omega);cases this)
    subst hl0
    (repeat' (first|refine wR ?_|(refine rg 2 (vV (dK rfl) (nY 2 3 rfl (by decide) ?_)))|refine nZ ?_));exact ⟨.inl rfl,[0],_,rfl,rfl,rfl,⟨.inr (aC rfl rfl hid),trivial⟩,by decide,R9⟩
theorem zO4 (n:Int):aT Tryz.prog 69 [.i n] [] (.b (LS n)) []:=by
  unfold LS;by_cases h:n<0
  · rw [decide_eq_true (.inl h)];refine bU T Tryz.func69 rfl rfl rfl rfl ?_
    (repeat' (first|refine wS ?_|refine wR ?_|(refine rg 0 (aV ?_))|(refine rg 1 (mW rfl (vV (AN rfl rfl (by omega)) (mV ?_)));(iterate 2 refine gF ?_);refine pW rfl (aV ?_))|refine nZ ?_));all_goals first | (exfalso;omega) | exact rQ
  · refine bU T Tryz.func69 rfl rfl rfl rfl ?_
    (repeat' (first|refine wS ?_|refine wR ?_|(refine rg 0 (aV ?_))|(refine rg 1 (mW rfl (vV (TW rfl rfl (by omega)) (mW rfl (yN rfl (yV (fA rfl rfl) (pW rfl (aV ?_))))))))|refine nZ ?_));all_goals first | (exfalso;omega) | (refine dJ (.inl rfl) rfl (nM ?_);simp;omega)
theorem EL (c:Cx):aT Tryz.prog 48 [.agg [.i c.m,.i c.st,.i c.er,.i c.sl]] [] (.b (!LU c)) []:=by
  have hh:=yD3 (l:=[c.m,c.st,c.er,c.sl]) (F:=69) (caps:=[]) (p:=LS) (by simp) rfl (fun x hx=>zO4 x)
  change aT _ _ _ _ (.b (LU c)) _ at hh;generalize LU c=v at *;refine bU T Tryz.func48 rfl rfl rfl rfl ?_
  (repeat' (first|refine wS ?_|refine wR ?_|(refine rg 0 (cC (cO rfl rfl) rfl (aV ?_)))|(refine rg 1 (gI T rfl (gI T rfl (gI T rfl (gI T rfl (cC (by exact bE T rfl rfl (by decide) (by decide) rfl rfl rfl) rfl ?_)))));refine mN 11 rfl rfl rfl rfl ?_;refine vV (kC (hh)) (vV (eH rfl) (aV ?_)))|refine nZ ?_));all_goals first | (exfalso;omega) | exact rQ
end Go.Proofs.YtmmmeebiobjnbaaGreat
namespace Go.Ld
open Go.Ab Go.Proofs.YtmmmeebiobjnbaaGreat
abbrev zR5 (c:Cx) (x:AV):List AV:=[.i c.m,.i c.st,.i c.er,.i c.sl,.rowE (gE c.ks) 2,.rowE (iI c.ls) 3,.rowE (cW c.bs) 3,x]
theorem QW {h:Hp}{i sz:Nat}{θ:Nat→Nat}{A A':List (List AV)}{E E':List AV}(hk:h[i]? = some (.arr (A'++[E']) sz)) (hA:A'=A) (hE:E'=AV.mapL θ E) (hi:∀ e,e∈A→AV.idfL e=true):h[i]? = some ((AB.arr (A++[E]) sz).map θ):=by
  subst hA hE;rw [hk];simp only [AB.map,bT,bB θ hi];rfl
theorem zT7 {A:List (List AV)}{x y:AV}:(A++[[x,y]]).flatten[A.flatten.length]? = some x:=by simp
theorem zT6 {A:List (List AV)}{x y:AV}:(A++[[x,y]]).flatten[A.flatten.length+1]? = some y:=by
  rw [fU,aE (by omega)];simp
theorem zT5 {A:List (List AV)}{x y z:AV}:(A++[[z,y]]).flatten=(A++[[x,y]]).flatten.set A.flatten.length z:=by
  rw [fU,fU,iZ _ _ (by omega)];simp
theorem zT4 {A:List (List AV)}{x y z:AV}:(A++[[x,z]]).flatten=(A++[[x,y]]).flatten.set (A.flatten.length+1) z:=by
  rw [fU,fU,iZ _ _ (by omega)];simp
theorem zB9 (c:Cx):(oB c).length=c.bs.length:=by rw [yG];simp
theorem WD {c:Cx}{k:Nat}(h:k<c.bs.length):(oB c).take (k+1)=(oB c).take k++[Z5 c k]:=by
  rw [yG,← kY,← kY,aP (by simpa using h),bT]
  simp
end Go.Ld
namespace Go.Proofs.YtmmmeebiobjnbaaGreat
open Go Go.Ab Go.Ld
attribute [local irreducible] VC AW cD aT jE
set_option maxHeartbeats 4000000
theorem yJ3 (c:Cx) (hc:iL c) (hid:aT Tryz.prog 50 [.i (cW c.bs).length] [] (.rowE (ints (nats (List.range c.bs.length))) 1) []) (htr:aT Tryz.prog 49 [.rowE (gE c.ks) 2,.rowE (iI c.ls) 3,.rowE (ints (nats (List.range c.bs.length))) 1,.rowE (cW c.bs) 3] [] (.b true) []) :
    aT Tryz.prog 30 [.agg [.i c.m,.i c.st,.i c.er,.i c.sl],.rowE (gE c.ks) 2,.rowE (iI c.ls) 3,.rowE (cW c.bs) 3] [] (.tup [.ptr 0 0,.i 0]) [.cells (kI c (oB c))]:=by
  have hn1:=hc.f.n1;have hn8:=hc.f.n8;have hk10:=hc.f.k10;have hl10:=hc.f.l10;have hnl:(nats (List.range c.bs.length)).length=c.bs.length:=by simp
  have hsn:=EL c;rw [VI.2 hc.s] at hsn;have h1:=zG9 c.ks (by omega)
  have h2:=NY c.ls (by omega)
  have h3:=NZ c.bs (by omega)
  have hbl:(cW c.bs).length=c.bs.length:=aX _;have hNl:=zB9 c;refine bU T Tryz.func30 rfl rfl rfl rfl ?_
  (repeat' (first|refine wS ?_|(refine rg 0 (cC (cO rfl rfl) rfl (sG ?_)))|refine nZ ?_));refine fH 4 rfl rfl rfl ?_
  (repeat' (first|refine wS ?_|refine wK ?_|refine wU ?_|(refine rg 1 (lW T rfl (vV (kC (hsn)) (vV (eH rfl) (mW rfl (yN rfl (yN rfl (yN rfl (gT (qV T ?_)))))))));refine yV (kC (hid)) (yN rfl (yV (kC (htr)) (yV (eH rfl) (pV ?_)))))|(refine bV (id:=3) 69 [[],[],[1],[],[1,2,3],[],rM 1 5,rN 7,rN 8] (rM 27 9) [[],[27],[27],[27,28,29],[27],rM 27 5,[27],[],[]] cK rfl (by decide +kernel) (dO T rfl (dN rfl (dV rfl (kC (h1)) (dN rfl (dV rfl (kC (h2)) (dN rfl (dV rfl (kC (h3)) (dV rfl (by exact eO T rfl rfl rfl rfl) ?_))))))));refine xO rfl rfl rfl (by exact cO rfl rfl) rfl ?_;refine dE ?_;refine aV ?_)|refine nZ ?_));all_goals try (exfalso;omega)
  refine fO [(3,.rowE (cW c.bs) 3),(10,.ptr 0 0)] [.cells (zR5 c .nils)] ⟨[1],rfl,(by repeat first|exact trivial|refine ⟨rfl,?_⟩),⟨.inr rfl,trivial⟩,by decide,jY _⟩ ?_
  refine oN 0 7 2 rfl rfl (by decide) ?_
  (repeat' (first|refine wB ?_|(refine rg 4 (mW rfl (qW T rfl (mV ?_))))|refine nZ ?_));all_goals try (exfalso;omega)
  refine dA (X:={k:Nat // k≤c.bs.length}) (fun k=>[(10,.ptr 0 0),(36,.rowE (cW c.bs) 3),(37,.i (cW c.bs).length),(38,.i k.1)]) (fun k=>[.cells (zR5 c (.sl 1 0 k.1 2)),.arr (kU ((oB c).take k.1)) 2]) (fun k=>c.bs.length-k.1) ⟨0,bW _⟩ ⟨[0,1],rfl,(by repeat first|exact trivial|refine ⟨rfl,?_⟩),⟨.inr rfl,.inr rfl,trivial⟩,by decide,jY _⟩ ?_
  rintro ⟨k,hk⟩;dsimp only;by_cases hlt:k<c.bs.length
  · have hb:=hc.f.b k hlt;have hbx:c.bs[k]? = some (c.bs.getD k (0,0,0)):=by rw [aD,aA hlt];rfl
    have hge:c.bs[k]=c.bs.getD k (0,0,0):=by rw [aD,aA hlt];rfl
    rw [hge] at hb;have qb:(cW c.bs)[((k:Int)).toNat]? = some [.i (c.bs.getD k (0,0,0)).1,.i (c.bs.getD k (0,0,0)).2.1,.i (c.bs.getD k (0,0,0)).2.2]:=by rw [bP,bY,hbx];rfl
    have hsu:=WD hlt;have hA:kU ((oB c).take (k+1))=kU ((oB c).take k)++[gA (Z5 c k)]:=by rw [hsu,kU,bT];rfl
    have hAl:(kU ((oB c).take k)).length=k:=by rw [jW,bH];omega
    have hAi:=eN ((oB c).take k);have hA3:=rZ ((oB c).take k);have hAi2:=eN ((oB c).take (k+1));unfold Z5 at hA;generalize c.bs.getD k (0,0,0)=bx at *;obtain ⟨lot,cnt,ta⟩:=bx;dsimp only at *;generalize hG:kU ((oB c).take k)=A at *
    (repeat' (first|refine wS ?_|refine wB ?_|refine wK ?_|(refine wC rfl ?_ ?_<;>(intro hb;(try simp only [nm] at hb);try (exfalso;omega)))|(refine rg 5 (vV (aL rfl rfl) ?_))|(refine rg 6 (mW rfl (vV (ix T rfl (by omega) (iS _) qb) (lW T rfl (cC (cM T rfl) rfl (aW rfl (bD T rfl rfl rfl rfl rfl rfl (by decide) rfl ?_)))))))|refine nZ ?_));all_goals try (exfalso;omega)
    refine fH 12 (cs:=[.i lot,.i cnt,.i ta]) rfl rfl rfl ?_
    (repeat' (first|(refine rg 7 (mW rfl (cC (by exact bE T rfl rfl (by decide) (by decide) rfl rfl rfl) rfl ?_));refine mN 44 rfl rfl rfl rfl ?_;refine gI T rfl (gI T rfl (vV (cE rfl rfl (by omega) (by omega)) (vV (by exact eO T rfl rfl rfl rfl) ?_)));refine cC (by exact bE T rfl rfl (by decide) (by decide) rfl rfl rfl) rfl ?_;refine mN 51 rfl rfl rfl rfl ?_;refine vV (by exact eO T rfl rfl rfl rfl) ?_;refine cC (cM T rfl) rfl (bD T rfl rfl rfl rfl rfl rfl (by decide) rfl ?_))|refine nZ ?_));all_goals try (exfalso;omega)
    refine fH 13 (cs:=wA ([(k:Int)],0,[(cnt,cnt+1)])) rfl rfl rfl ?_;refine fO [(10,.ptr 0 0),(36,.rowE (cW c.bs) 3),(37,.i (cW c.bs).length),(38,.i k),(11,.i k),(13,.pr (wA ([(k:Int)],0,[(cnt,cnt+1)])) 0)] [.cells (zR5 c (.sl 1 0 k 2)),.arr A 2] ⟨[0,1],rfl,(by repeat first|exact trivial|refine ⟨rfl,?_⟩),⟨.inr rfl,.inr (aC rfl rfl hAi),trivial⟩,by decide,jY _⟩ ?_
    (repeat' (first|(refine lZ (id:=8) 69 [[],[],[1],[1,2],[1,2,3],[],[5],[],[7],rM 5 4,rM 5 5,rM 1 10,rN 12,rN 13,rN 14] (rM 53 14) [[],[53],[53],[53],[53],rM 53 5,rM 53 5,rM 53 7,rM 53 7,rM 53 5,rM 53 5,[53],[],[],[]] [(11,1),(14,0)] cK rfl (by decide +kernel) (cH rfl rfl rfl rfl (by exact bR rfl) ?_);refine cH rfl rfl rfl rfl (by exact bR rfl) ?_;refine cH rfl rfl rfl rfl (by exact cN rfl rfl) ?_;refine cH rfl rfl rfl rfl (by exact bI T rfl rfl rfl) ?_;refine cH rfl rfl rfl rfl (by exact aK T rfl rfl rfl rfl) ?_;refine cH rfl rfl rfl rfl (by exact bR rfl) ?_;refine vR rfl rfl rfl rfl (by exact bE T rfl rfl (by decide) (by decide) rfl rfl rfl) rfl ?_;refine cH rfl rfl rfl rfl (by exact aK T rfl rfl rfl rfl) ?_;refine vR rfl rfl rfl rfl (by exact bE T rfl rfl (by decide) (by decide) rfl rfl rfl) rfl ?_;refine cH rfl rfl rfl rfl (by exact eO T rfl rfl rfl rfl) ?_;refine vR rfl rfl rfl rfl (by exact bE T rfl rfl (by decide) (by decide) rfl rfl rfl) rfl ?_;refine mR rfl rfl rfl rfl (aH rfl) (by exact mA T rfl rfl rfl rfl rfl rfl (by omega) (iK.whole rfl rfl) rfl (by simp;omega) (by simp;omega)) ?_;refine cH rfl rfl rfl rfl (by exact cN rfl rfl) ?_;refine cH rfl rfl rfl rfl (by exact bI T rfl rfl rfl) ?_;refine wM rfl rfl rfl rfl (aH rfl) T rfl rfl rfl rfl rfl rfl (by decide) rfl ?_;refine pU rfl rfl rfl (by exact rfl) ?_)|refine nZ ?_));all_goals try (exfalso;omega)
    show AW _ _ _ _ _ _;refine fO [(10,.ptr 0 0),(36,.rowE (cW c.bs) 3),(37,.i (cW c.bs).length),(38,.i k)] [.cells (zR5 c (.sl 3 0 (k+1) 2)),.arr (ints [(k:Int)]) 1,.arr (gM [([(k:Int)],0,[(cnt,cnt+1)])]) 3,.arr (A++[[.sl 1 0 1 1,.sl 2 0 1 3]]) 2]
      ⟨[0,2,3,5],rfl,(by repeat first|exact trivial|refine ⟨rfl,?_⟩),⟨.inr rfl,.inr rfl,.inr rfl,.inr (QW rfl (by rw [kG];exact bO (by omega)) rfl hAi),trivial⟩,by decide,jY _⟩ ?_
    have hE:∀ (x y:AV) (e:List AV),e∈A++[[x,y]]→e.length=2:=fun x y e he=>by
      rcases bL.1 he with he | he
      · exact hA3 e he
      · rw [bC.1 he];rfl
    refine OF 3 A.flatten.length (A++[[.rowE (ints [(k:Int)]) 1,.sl 2 0 1 3]]) rfl (by decide) (by simp) zT7 rfl rfl rfl (hE _ _) zT5 ?_
    refine OF 3 (A.flatten.length+1) (A++[[.rowE (ints [(k:Int)]) 1,.rowE (gM [([(k:Int)],0,[(cnt,cnt+1)])]) 3]]) rfl (by decide) (by simp) zT6 rfl rfl rfl (hE _ _) zT4 ?_
    (repeat' (first|(refine rg 9 (vV (cE rfl rfl (by omega) (by omega)) (mV ?_)))|refine nZ ?_));all_goals try (exfalso;omega)
    exact ⟨⟨k+1,hlt⟩,by dsimp only;omega,⟨[0,3],rfl,(by repeat first|exact trivial|refine ⟨rfl,?_⟩),⟨.inr rfl,.inr (aC rfl (by dsimp only;rw [hA]) hAi2),trivial⟩,by decide,jY _⟩⟩
  · obtain rfl:k=c.bs.length:=by omega
    rw [← hNl,cQ,hNl];refine nN 0 7 (es:=kU (oB c)) rfl rfl rfl (by rw [jW,hNl]) (gV (eN _)) ?_
    (repeat' (first|refine wS ?_|refine wR ?_|refine wE ?_|(refine wC rfl ?_ ?_<;>(intro hb;(try simp only [nm] at hb);try (exfalso;omega)))|(refine rg 5 (vV (aL rfl rfl) ?_))|(refine rg 10 (mW rfl (sG ?_)))|refine nZ ?_));all_goals try (exfalso;omega)
    all_goals exact ⟨.inl rfl,[0],_,rfl,rfl,rfl,⟨.inr rfl,trivial⟩,by decide,jY _⟩
end Go.Proofs.YtmmmeebiobjnbaaGreat
namespace Go.Ld
open Go.Ab Go.Proofs.YtmmmeebiobjnbaaGreat
def UQ (p q:List Int) (x:Int × SP) (b:Int):Prop:=x.1=p.getD b.toNat 0∧xL x.2.1 x.2.2 (q.getD (p.getD b.toNat 0).toNat 0)=true
theorem zU2 {g:G}{p q:List Int}{w:W}:DE g p q w=true↔∀ i,i<g.1.length→UQ p q (gP w i,gC w i) (g.1.getD i 0):=by
  unfold DE Z4 UQ;rw [bK];constructor
  · intro h i hi;have:=h i (eU.2 hi);simp only [aN,decide_eq_true_eq] at this;exact this
  · intro h i hi;have:=h i (eU.1 hi);simp only [aN,decide_eq_true_eq];exact this
theorem DP {g:G}{p q:List Int}(h0:∀ w,w∈g.2→0≤w.2.1):∀ k,k≤g.2.length→(Y3 g p q k = -1∧∀ w,w∈g.2.take k→DE g p q w=false)∨(∃ w,w∈g.2.take k∧DE g p q w=true∧w.2.1=Y3 g p q k∧∀ v,v∈g.2.take k→DE g p q v=true→Y3 g p q k≤v.2.1)
  | 0,_=>.inl ⟨rfl,fun w hw=>by simp at hw⟩
  | k+1,hk=>by
    have ih:=DP (p:=p) (q:=q) h0 k (by omega)
    have hx:=h0 g.2[k] (aM _);rw [RJ (by omega)]
    have ht:∀ w,w∈g.2.take (k+1)↔w∈g.2.take k∨w=g.2[k]:=fun w=>by
      rw [aP (by omega),bL,bC]
    simp only [ht];unfold zH4;generalize g.2[k]=x at *;generalize Y3 g p q k=m at *;cases hf:DE g p q x with
    | false=>
      rw [Bool.false_and,if_neg (by simp)]
      rcases ih with ⟨h1,h2⟩ | ⟨w,h1,h2,h3,h4⟩
      · refine .inl ⟨h1,fun w hw=>?_⟩
        rcases hw with hw | rfl
        · exact h2 w hw
        · exact hf
      · refine .inr ⟨w,.inl h1,h2,h3,fun v hv hvf=>?_⟩
        rcases hv with hv | rfl
        · exact h4 v hv hvf
        · rw [hf] at hvf;cases hvf
    | true=>
      rw [mY];rcases ih with ⟨h1,h2⟩ | ⟨w,h1,h2,h3,h4⟩
      · rw [decide_eq_true (show m<0 by omega),Bool.true_or,if_pos rfl]
        refine .inr ⟨x,.inr rfl,hf,rfl,fun v hv hvf=>?_⟩
        rcases hv with hv | rfl
        · rw [h2 v hv] at hvf;cases hvf
        · exact dX _
      · have hm0:0≤m:=by rw [← h3];exact h0 w (dS h1)
        rw [decide_eq_false (show ¬ m<0 by omega),yP6]
        by_cases hlt:x.2.1<m
        · rw [if_pos (decide_eq_true hlt)];refine .inr ⟨x,.inr rfl,hf,rfl,fun v hv hvf=>?_⟩
          rcases hv with hv | rfl
          · have:=h4 v hv hvf;omega
          · exact dX _
        · rw [if_neg (by simpa using hlt)]
          refine .inr ⟨w,.inl h1,h2,h3,fun v hv hvf=>?_⟩
          rcases hv with hv | rfl
          · exact h4 v hv hvf
          · omega
theorem HG {g:G}{p q:List Int}(h0:∀ w,w∈g.2→0≤w.2.1):(I0 g p q = -1∧∀ w,w∈g.2→DE g p q w=false)∨(∃ w,w∈g.2∧DE g p q w=true∧w.2.1=I0 g p q∧∀ v,v∈g.2→DE g p q v=true→I0 g p q≤v.2.1):=by
  have:=DP (p:=p) (q:=q) h0 g.2.length (aU _);rw [cQ] at this;exact this
def HK (g:G) (w:W):As:=fun b=>(gP w (g.1.idxOf b),gC w (g.1.idxOf b))
theorem P2 {n:Nat}{g:G}{w:W}(ok:D8 n g) (hw:HO n g.1.length w):oV g.1 w (HK g w):=by
  unfold oV HK gP gC;constructor
  · refine jQ (by rw [aX];exact hw.pl) fun i h1 h2=>?_
    rw [pP,ok.nd.idxOf_getElem];dsimp only;rw [aD,aA h1];rfl
  · refine jQ (by rw [aX];exact hw.cl) fun i h1 h2=>?_
    rw [pP,ok.nd.idxOf_getElem];dsimp only;rw [aD,aA h1];rfl
theorem zF7 {n:Nat}{g:G}{p q:List Int}{w:W}{f:As}(ok:D8 n g) (hf:oV g.1 w f):DE g p q w=true↔∀ b,b∈g.1→UQ p q (f b) b:=by
  rw [zU2];have key:∀ i (hi:i<g.1.length),(gP w i,gC w i)=f g.1[i]∧g.1.getD i 0=g.1[i]:=fun i hi=>by
    rw [CX hf hi,CY hf hi];exact ⟨rfl,by rw [aD,aA hi];rfl⟩
  constructor
  · intro h b hb;obtain ⟨i,hi,rfl⟩:=I2 hb;have:=h i hi;rw [(key i hi).1,(key i hi).2] at this;exact this
  · intro h i hi;rw [(key i hi).1,(key i hi).2];exact h _ (aM hi)
theorem zJ9 {n:Nat}{p q:List Int}:∀ {gs:List G},(gs.flatMap (·.1)).Nodup→(∀ g,g∈gs→D8 n g)→∀ {M:Int},
    ((∀ g,g∈gs→0≤I0 g p q)∧(gs.map fun g=>I0 g p q).sum≤M)↔∃ f:As,(∀ g,g∈gs→∀ b,b∈g.1→UQ p q (f b) b)∧Sem gs f M
  | [],_,_,M=>by
    constructor
    · rintro ⟨_,h⟩;exact ⟨fun _=>(0,(0,0)),by simp,by simpa [Sem] using h⟩
    · rintro ⟨f,_,h⟩;exact ⟨by simp,by simpa [Sem] using h⟩
  | g::gs,hnd,hok,M=>by
    rw [bM] at hnd;obtain ⟨_,n2,n3⟩:=dB.1 hnd;have og:=hok g aQ;have h0:∀ w,w∈g.2→0≤w.2.1:=fun w hw=>(og.ws w hw).m0;have ih:=fun M=>zJ9 (p:=p) (q:=q) (gs:=gs) n2 (fun x hx=>hok x (aJ _ hx)) (M:=M);rw [List.map_cons,yP3];constructor
    · rintro ⟨h1,h2⟩;rcases HG (p:=p) (q:=q) h0 with ⟨b1,_⟩ | ⟨w,b1,b2,b3,b4⟩
      · have:=h1 g aQ;omega
      obtain ⟨f,f1,f2⟩:=(ih (M-I0 g p q)).1 ⟨fun x hx=>h1 x (aJ _ hx),by omega⟩
      have ow:=og.ws w b1;have hfi:=P2 og ow
      let f':As:=fun b=>if b∈g.1 then HK g w b else f b
      have e1:∀ b,b∈g.1→f' b=HK g w b:=fun b hb=>if_pos hb
      have e2:∀ x,x∈gs→∀ b,b∈x.1→f' b=f b:=fun x hx b hb=>if_neg fun q=>n3 b q b (pJ hx hb) rfl;have hfi':oV g.1 w f':=⟨hfi.1.trans (jX fun b hb=>by rw [e1 b hb]),hfi.2.trans (jX fun b hb=>by rw [e1 b hb])⟩
      refine ⟨f',fun x hx b hb=>?_,I0 g p q,⟨w,b1,hfi',by omega⟩,(uA e2).2 f2⟩
      rcases bN.1 hx with rfl | hx
      · exact (zF7 og hfi').1 b2 b hb
      · rw [e2 x hx b hb];exact f1 x hx b hb
    · rintro ⟨f,f1,m,⟨w,w1,w2,w3⟩,f2⟩;have hfw:=(zF7 (p:=p) (q:=q) og w2).2 (f1 g aQ);obtain ⟨i1,i2⟩:=(ih (M-m)).2 ⟨f,fun x hx=>f1 x (aJ _ hx),f2⟩;rcases HG (p:=p) (q:=q) h0 with ⟨_,b2⟩ | ⟨v,b1,b2,b3,b4⟩
      · rw [b2 w w1] at hfw;cases hfw
      · have:=b4 w w1 hfw;have:=h0 v b1;refine ⟨fun x hx=>?_,by omega⟩
        rcases bN.1 hx with rfl | hx
        · omega
        · exact i1 x hx
theorem KC {c:Cx}{gs:List G}{p q:List Int}(h:pR c gs):yF9 c gs p q=true↔p.length=c.bs.length∧q.length=p.length∧Go.Pm.permB p=true∧∃ f:As,(∀ b:Int,0≤b→b<c.bs.length→UQ p q (f b) b)∧Sem gs f c.m:=by
  have hs:=zJ9 (p:=p) (q:=q) h.mid.out.nd h.mid.out.ok (M:=c.m);have e:yA9 gs p q gs.length=(gs.map fun g=>I0 g p q).sum:=by unfold yA9;rw [cQ]
  unfold yF9;simp only [aN,decide_eq_true_eq,bK,e,and_assoc];rw [hs];have hb:∀ f:As,(∀ g,g∈gs→∀ b,b∈g.1→UQ p q (f b) b)↔∀ b:Int,0≤b→b<c.bs.length→UQ p q (f b) b:=fun f=>by
    constructor
    · intro h1 b b0 b1;obtain ⟨g,hg,hbg⟩:=h.mid.find ⟨b0,b1⟩;exact h1 g hg b hbg
    · intro h1 g hg b hbg;have:=(h.mid.out.ok g hg).rg b hbg;exact h1 b this.1 this.2
  simp only [hb]
theorem UA {n:Nat}{g:G}{w:W}{f:As}(ok:D8 n g) (ow:HO n g.1.length w):oV g.1 w f↔∀ b,b∈g.1→HK g w b=f b:=by
  have h:=P2 ok ow;constructor
  · intro hf b hb;have e1:=h.1.symm.trans hf.1;have e2:=h.2.symm.trans hf.2;exact Prod.ext (Y7.1 e1 b hb) (Y7.1 e2 b hb)
  · intro hp;exact ⟨h.1.trans (jX fun b hb=>by rw [hp b hb]),h.2.trans (jX fun b hb=>by rw [hp b hb])⟩
theorem GB {n:Nat}{x y:G}(jo:wQ n x y){u v:W}(hu:u∈x.2) (hv:v∈y.2){f:As}:oV (mX x y).1 (H5 x y u v (mX x y).1) f↔oV x.1 u f∧oV y.1 v f:=by
  rw [UA jo.gx (jo.gx.ws u hu),UA jo.gy (jo.gy.ws v hv)];have hm:∀ b,b∈(mX x y).1↔b∈x.1∨b∈y.1:=fun b=>(nD x y).mem_iff.trans bL;generalize (mX x y).1=l at *;have e1:∀ b,(if b∈x.1 then gP u (x.1.idxOf b) else gP v (y.1.idxOf b))=(if b∈x.1 then HK x u b else HK y v b).1:=fun b=>by split <;> rfl
  have e2:∀ b,(if b∈x.1 then gC u (x.1.idxOf b) else gC v (y.1.idxOf b))=(if b∈x.1 then HK x u b else HK y v b).2:=fun b=>by split <;> rfl
  unfold oV H5;simp only [e1,e2];rw [Y7,Y7];constructor
  · rintro ⟨h1,h2⟩;have h:∀ b,b∈l→(if b∈x.1 then HK x u b else HK y v b)=f b:=fun b hb=>Prod.ext (h1 b hb) (h2 b hb)
    refine ⟨fun b hb=>?_,fun b hb=>?_⟩
    · have:=h b ((hm b).2 (.inl hb));rwa [if_pos hb] at this
    · have:=h b ((hm b).2 (.inr hb));rwa [if_neg (fun q=>jo.dj b q hb)] at this
  · rintro ⟨h1,h2⟩;have h:∀ b,b∈l→(if b∈x.1 then HK x u b else HK y v b)=f b:=fun b hb=>by
      by_cases hx:b∈x.1
      · rw [if_pos hx];exact h1 b hx
      · rw [if_neg hx];exact h2 b (((hm b).1 hb).resolve_left hx)
    exact ⟨fun b hb=>by rw [h b hb],fun b hb=>by rw [h b hb]⟩
theorem zB3 {n:Nat}{x y:G}(jo:wQ n x y){f:As}{M:Int}:K8 (mX x y) f M↔∃ m,K8 x f m∧K8 y f (M-m):=by
  constructor
  · rintro ⟨w,hw,hf,hm⟩;obtain ⟨u,v,hu,hv,rfl⟩:=F1 hw;obtain ⟨h1,h2⟩:=(GB jo hu hv).1 hf;change u.2.1+v.2.1≤M at hm;exact ⟨u.2.1,⟨u,hu,h1,dX _⟩,v,hv,h2,by omega⟩
  · rintro ⟨m,⟨u,hu,h1,h3⟩,v,hv,h2,h4⟩;refine ⟨H5 x y u v (mX x y).1,fC.2 ⟨u,hu,bA.2 ⟨v,hv,rfl⟩⟩,(GB jo hu hv).2 ⟨h1,h2⟩,?_⟩;show u.2.1+v.2.1≤M;omega
theorem SO {u v J:G}{L:List G}{f:As}(h:∀ M,K8 J f M↔∃ m,K8 u f m∧K8 v f (M-m)){M:Int}:Sem (J::L) f M↔Sem (u::v::L) f M:=by
  simp only [Sem,h];constructor
  · rintro ⟨m,⟨m',h1,h2⟩,h3⟩;exact ⟨m',h1,m-m',h2,h3.mono (by omega)⟩
  · rintro ⟨m,h1,m',h2,h3⟩;exact ⟨m+m',⟨m,h1,by rw [show m+m'-m=m' by omega];exact h2⟩,h3.mono (by omega)⟩
theorem B6 {P Q R:List G}{u v:G}:(P++u::(Q++v::R)).Perm (u::v::(P++(Q++R))):=by
  refine List.perm_middle.trans (List.Perm.cons _ ?_);rw [← bZ,← bZ];exact iW
theorem zC6 {c:Cx}{gs all:List G}{a b:Int}(h:oH c c.m gs) (ha:0≤a∧a<c.bs.length) (hb:0≤b∧b<c.bs.length) (e:join gs a b=some all){f:As}{M:Int}:Sem all f M↔Sem gs f M:=by
  obtain ⟨i,x,hi,hix,hax⟩:=jC (h.find ha);obtain ⟨k,y,hk,hky,hby⟩:=jC (h.find hb);have hx:=aO hix;have hy:=aO hky;unfold join at e;dsimp only at e;rw [hi,hk] at e;split at e
  · cases e;exact Iff.rfl
  · rename_i hik;have gi:mK gs ((i:Int)).toNat=x:=by unfold mK;rw [aD];show (gs[i]?).getD _=x;rw [hix];rfl
    have gk:mK gs ((k:Int)).toNat=y:=by unfold mK;rw [aD];show (gs[k]?).getD _=y;rw [hky];rfl
    rw [gi,gk] at e;split at e
    · cases e
    · rename_i hsz;cases e;have nd:=h.out.nd;have ndi:(gs.flatMap fun g=>(iU g).1).Nodup:=h.idn.nodup_iff.2 (E9 _)
      have jo:wQ c.bs.length x y:=by
        rcases jL (show i≠k by omega) with hlt | hlt
        · obtain ⟨P,Q,R,e1,-⟩:=mO x hlt hix hky;rw [e1] at ndi nd;simp only [fX,bM] at ndi nd;exact ⟨h.out.ok x hx,h.out.ok y hy,h.ne x hx,h.ne y hy,fun b h1 h2=>(dB.1 (dB.1 nd).2.1).2.2 b h1 b (by simp [h2]) rfl,fun b h1 h2=>(dB.1 (dB.1 ndi).2.1).2.2 b h1 b (by simp [h2]) rfl,by omega⟩
        · obtain ⟨P,Q,R,e1,-⟩:=mO y hlt hky hix;rw [e1] at ndi nd;simp only [fX,bM] at ndi nd;exact ⟨h.out.ok x hx,h.out.ok y hy,h.ne x hx,h.ne y hy,fun b h1 h2=>(dB.1 (dB.1 nd).2.1).2.2 b h2 b (by simp [h1]) rfl,fun b h1 h2=>(dB.1 (dB.1 ndi).2.1).2.2 b h2 b (by simp [h1]) rfl,by omega⟩
      have h1:=fun M=>zB3 jo (f:=f) (M:=M);have h2:∀ M,K8 (mX x y) f M↔∃ m,K8 y f m∧K8 x f (M-m):=fun M=>by
        rw [h1];constructor
        · rintro ⟨m,a,b⟩;exact ⟨M-m,b,by rw [show M-(M-m)=m by omega];exact a⟩
        · rintro ⟨m,a,b⟩;exact ⟨M-m,b,by rw [show M-(M-m)=m by omega];exact a⟩
      generalize mX x y=J at *;rcases jL (show i≠k by omega) with hlt | hlt
      · obtain ⟨P,Q,R,e1,e2⟩:=mO J hlt hix hky;rw [show (min (i:Int) (k:Int)).toNat=i by omega,show (max (i:Int) (k:Int)).toNat=k by omega,e2,e1,pE B6,pE iW]
        exact SO h1
      · obtain ⟨P,Q,R,e1,e2⟩:=mO J hlt hky hix;rw [show (min (i:Int) (k:Int)).toNat=k by omega,show (max (i:Int) (k:Int)).toNat=i by omega,e2,e1,pE B6,pE iW]
        exact SO h2
theorem zP7 {c:Cx}{M0:Int}{all:List G}{s:Ev}(h:zT c M0 all s){i:Nat}{g:G}(hi:all[i]? = some g) (ha:s.a∈g.1) (hb:s.k=4→s.b∈g.1∧s.a≠s.b){f':As}{M:Int} :
    Sem (all.set i (g.1,gS (mQ c s g))) f' M↔∃ f d,A6 c s f f' d∧Sem all f (M-d):=by
  have hg:=aO hi;have og:=h.mid.out.ok g hg;have nd:=h.mid.out.nd;obtain ⟨A,B,e1,e2⟩:=qK (y:=(g.1,gS (mQ c s g))) hi;have hon:=fun M=>zB2 (c:=c) og ha hb (f':=f') (M:=M);have hoff:∀ f d,A6 c s f f' d→∀ x,x∈A++B→∀ b,b∈x.1→f' b=f b:=fun f d st x hx b hbx=>by
    have hbg:b∉g.1:=fun q=>by
      rw [e1] at nd;simp only [fX,bM] at nd;obtain ⟨_,n1,n2⟩:=dB.1 nd;obtain ⟨_,_,n3⟩:=dB.1 n1;rcases bL.1 hx with hx | hx
      · exact n2 b (pJ hx hbx) b (bL.2 (.inl q)) rfl
      · exact n3 b q b (pJ hx hbx) rfl
    rcases st with ⟨_,rfl,_⟩ | ⟨hk,rfl,_⟩
    · unfold upd;rw [if_neg (fun q:b=s.a=>hbg (q▸ha))]
    · unfold KP;rw [if_neg (fun q:b=s.a=>hbg (q▸ha)),if_neg (fun q:b=s.b=>hbg (q▸(hb hk).1))]
  rw [e2,pE iW];have e1':∀ f M,Sem all f M↔Sem (g::(A++B)) f M:=fun f M=>by rw [e1];exact pE iW
  simp only [e1',Sem,hon];constructor
  · rintro ⟨m,⟨f,d,st,h1⟩,h2⟩;exact ⟨f,d,st,m-d,h1,((uA (hoff f d st)).1 h2).mono (by omega)⟩
  · rintro ⟨f,d,st,m,h1,h2⟩;exact ⟨m+d,⟨f,d,st,h1.mono (by omega)⟩,((uA (hoff f d st)).2 h2).mono (by omega)⟩
theorem LZ {c:Cx}{M0:Int}{l all:List G}{s:Ev}(h:zT c M0 all s) (hM:M0≤2200000) (hab:s.k=4→s.a≠s.b){f':As}{M:Int}(hm:M≤c.m) :
    ((sS c l all s).1=0→(Sem (sS c l all s).2 f' M↔∃ f d,A6 c s f f' d∧Sem all f (M-d)))∧((sS c l all s).1=26→¬ ∃ f d,A6 c s f f' d∧Sem all f (M-d)):=by
  obtain ⟨i,g,hi,hg,hgm,hat,ha,hb⟩:=h.at;have hp:=zP7 (c:=c) h hg ha (fun hk=>⟨hb hk,hab hk⟩) (f':=f') (M:=M);have hnx:=h.next hM hg ha hb
  unfold sS;dsimp only;rw [hat,hi,bP];by_cases h0:gS (mQ c s g)=[]
  · rw [if_pos h0];refine ⟨fun q=>(by cases q),fun _ q=>?_⟩
    have hs:=hp.2 q;obtain ⟨A,B,e1,e2⟩:=qK (y:=(g.1,gS (mQ c s g))) hg;rw [e2,pE iW] at hs;obtain ⟨m,⟨w,hw,_⟩,_⟩:=hs;rw [h0] at hw;cases hw
  · rw [if_neg h0];by_cases h1:1000<(gS (mQ c s g)).length
    · rw [if_pos h1];exact ⟨fun q=>(by cases q),fun q=>(by cases q)⟩
    · rw [if_neg h1];obtain ⟨hm1,hasc⟩:=hnx h0 (by omega)
      generalize all.set i (g.1,gS (mQ c s g))=N at *;have ht:Sem (wD c N) f' M↔Sem N f' M:=by
        unfold wD;rw [VJ (hm1.out.paid c).ok,ZA hm]
      by_cases hany:(wD c N).any (fun g=>g.2.isEmpty)=true
      · rw [if_pos hany];refine ⟨fun q=>(by cases q),fun _ q=>?_⟩
        have hs:=ht.2 (hp.2 q);obtain ⟨x,hx,hxe⟩:=iX.1 hany;obtain ⟨A,B,e⟩:=XS hx;rw [e,pE iW] at hs;obtain ⟨m,⟨w,hw,_⟩,_⟩:=hs;rw [List.isEmpty_iff.1 hxe] at hw;cases hw
      · rw [if_neg hany];exact ⟨fun _=>ht.trans hp,fun q=>(by cases q)⟩
theorem tS {c:Cx}{gs:List G}{s:Ev}(h:pR c gs) (hm0:0≤c.m) (hm1:c.m≤1048576) (hr:iQ c.bs.length s=true){f':As}{M:Int}(hm:M≤c.m) :
    ((eY c gs s).1=0→(Sem (eY c gs s).2 f' M↔∃ f d,A6 c s f f' d∧Sem gs f (M-d)))∧((eY c gs s).1=26→¬ ∃ f d,A6 c s f f' d∧Sem gs f (M-d)):=by
  have hn:=h.mid.n12;obtain ⟨r1,r2,_⟩:=mU hr (by omega)
  have hab:s.k=4→s.a≠s.b:=fun hk=>by have:=r2 hk;omega
  unfold eY;rw [if_pos hr];by_cases hk:s.k=4
  · rw [if_pos hk];cases hj:join gs s.a s.b with
    | none=>exact ⟨fun q=>(by cases q),fun q=>(by cases q)⟩
    | some all=>
      dsimp only;have:=LZ (l:=gs) (uK h (by omega) hm0 hm1 hr hk hj) (by omega) hab (f':=f') hm
      have hb:=r2 hk;have js:∀ f M,Sem all f M↔Sem gs f M:=fun f M=>zC6 h.mid r1 ⟨by omega,by omega⟩ hj
      simp only [js] at this;exact this
  · rw [if_neg hk];exact LZ (l:=gs) (xA h (by omega) hm0 hr hk) (by omega) hab hm
def c0:Cx:=⟨1,1,0,0,[(⟨#[110,117,116]⟩,10)],[(0,0,false),(0,0,false),(0,0,false)],[(0,5,0),(1,3,0),(2,2,0)]⟩
theorem LD {c:Cx}(hc:iL c):vU c.ks c.ls (nats (List.range c.bs.length)) c.bs:=
  ⟨hc.f.len,fun i hi=>xF.2 ⟨by omega,by simp at hi;omega⟩,hc.f.k,hc.f.l,hc.f.b⟩
end Go.Ld
namespace Go.Proofs.YtmmmeebiobjnbaaGreat
open Go Go.Ab Go.Ld
attribute [local irreducible] VC AW cD aT jE
set_option maxHeartbeats 4000000
theorem zS7 (n:Nat) (h:n≤17592186043904):aT Tryz.prog 50 [.i (n:Int)] [] (.rowE (ints (nats (List.range n))) 1) []:=by
  have h1:=zS6 (n:Int) (by omega)
  rw [bP] at h1;exact kL (by simp) (gV (bJ _)) h1
theorem yC3 (c:Cx) (hc:iL c):aT Tryz.prog 30 [.agg [.i c.m,.i c.st,.i c.er,.i c.sl],.rowE (gE c.ks) 2,.rowE (iI c.ls) 3,.rowE (cW c.bs) 3] [] (.tup [.ptr 0 0,.i 0]) [.cells (kI c (oB c))]:=by
  have hbl:(cW c.bs).length=c.bs.length:=aX _;have h8:=hc.f.n8;have h9:=hc.f.k10;have h10:=hc.f.l10;have hnl:(nats (List.range c.bs.length)).length=c.bs.length:=by simp
  refine yJ3 c hc ?_ (ID (LD hc) (by omega) (by omega) (by omega))
  rw [hbl];exact zS7 _ (by omega)
end Go.Proofs.YtmmmeebiobjnbaaGreat
namespace Go.Ld
open Go.Ab Go.Proofs.YtmmmeebiobjnbaaGreat
def e1:Ev:=⟨4,0,1,0,[]⟩
def e2:Ev:=⟨0,0,0,0,[1]⟩
def yR2:List G:=oB c0
def yR1:List G:=(eY c0 yR2 e1).2
def yR8:List G:=(eY c0 yR1 e2).2
def yR7:List G:=(eY c0 yR8 e2).2
theorem x0:(eY c0 yR2 e1).1=0:=by decide +kernel
theorem x1:(eY c0 yR1 e2).1=0:=by decide +kernel
theorem a3:yF9 c0 yR7 [1,0,2] [5,3,2]=true:=by unfold yF9 Go.Pm.permB;rw [uJ];decide +kernel
end Go.Ld
namespace Go.Proofs.YtmmmeebiobjnbaaGreat
open Go Go.Ab Go.Ld
attribute [local irreducible] VC AW cD aT jE
set_option maxHeartbeats 4000000
theorem J1 (a b:List Int) (ha:a.length≤9223372036854775807):aT Tryz.prog 25 [.rowE (ints a) 1,.rowE (ints b) 1] [] (.b (decide (a=b))) []:=by
  have hal:(ints a).length=a.length:=by simp
  have hbl:(ints b).length=b.length:=by simp
  by_cases hl:a.length=b.length
  · refine bU T Tryz.func25 rfl rfl rfl rfl ?_
    (repeat' (first|refine wS ?_|refine wB ?_|refine wK ?_|(refine wC rfl ?_ ?_<;>(intro hb;(try simp only [nm] at hb);try (exfalso;omega)))|(refine rg 0 (aV ?_))|(refine rg 1 (mW rfl (qW T rfl (mW rfl (qW T rfl (vV (gB rfl rfl) ?_))))))|(refine rg 3 (aV ?_))|refine nZ ?_));all_goals try (exfalso;omega)
    refine dA (X:={i:Nat // i≤a.length∧a.take i=b.take i}) (fun i=>[(0,.rowE (ints a) 1),(1,.rowE (ints b) 1),(5,.i i.1)]) (fun _=>[]) (fun i=>a.length-i.1) ⟨0,by omega,rfl⟩ (gH []) ?_
    rintro ⟨i,hi,hg⟩;dsimp only;by_cases hlt:i<a.length
    · have q1:=mE (l:=a) (k:=i) hlt;have q2:=mE (l:=b) (k:=i) (by omega)
      by_cases e:a[i]=b[i]
      · (repeat' (first|refine wS ?_|refine wB ?_|refine wK ?_|(refine wC rfl (fun hb=>?_) (fun hb=>?_) <;> (((try simp only [nm] at hb);try (exfalso;omega))))|(refine rg 4 (dI rfl (qW T rfl (vV (aL rfl rfl) ?_))))|(refine bV (id:=6) 26 yW8 (rM 17 9) yW9 cK rfl (by decide +kernel) (dN rfl (dN rfl (dV rfl (ix T rfl (by omega) (dR a) q1) (dO T rfl (dN rfl (dN rfl (dV rfl (ix T rfl (by omega) (dR b) q2) (dO T rfl (dV rfl (gB rfl rfl) ?_)))))))));refine dE ?_)|(refine iA 5 rfl rfl rfl (by omega) (by omega) ?_)|(refine nZ ?_)));all_goals try (exfalso;omega)
        refine ⟨⟨i+1,hlt,?_⟩,by dsimp only;omega,gH []⟩
        rw [aP hlt,aP (by omega),hg,e]
      · rw [show decide (a=b)=false from decide_eq_false (fun h=>e (by subst h;rfl))]
        (repeat' (first|refine wS ?_|refine wB ?_|refine wK ?_|refine wR ?_|(refine wC rfl ?_ ?_<;>(intro hb;(try simp only [nm] at hb);try (exfalso;omega)))|(refine rg 4 (dI rfl (qW T rfl (vV (aL rfl rfl) ?_))))|(refine bV (id:=6) 26 yW8 (rM 17 9) yW9 cK rfl (by decide +kernel) (dN rfl (dN rfl (dV rfl (ix T rfl (by omega) (dR a) q1) (dO T rfl (dN rfl (dN rfl (dV rfl (ix T rfl (by omega) (dR b) q2) (dO T rfl (dV rfl (gB rfl rfl) ?_)))))))));refine dE ?_)|(refine rg 7 (aV ?_))|refine nZ ?_));all_goals first | (exfalso;omega) | exact rQ
    · rw [bO (by omega),bO (by omega)] at hg
      rw [show decide (a=b)=true from decide_eq_true hg]
      (repeat' (first|refine wS ?_|refine wR ?_|refine wE ?_|(refine wC rfl ?_ ?_<;>(intro hb;(try simp only [nm] at hb);try (exfalso;omega)))|(refine rg 4 (dI rfl (qW T rfl (vV (aL rfl rfl) ?_))))|(refine rg 8 (aV ?_))|refine nZ ?_));all_goals first | (exfalso;omega) | exact rQ
  · rw [show decide (a=b)=false from decide_eq_false (fun h=>hl (by rw [h]))]
    refine bU T Tryz.func25 rfl rfl rfl rfl ?_
    (repeat' (first|refine wS ?_|refine wR ?_|(refine wC rfl ?_ ?_<;>(intro hb;(try simp only [nm] at hb);try (exfalso;omega)))|(refine rg 0 (aV ?_))|(refine rg 1 (mW rfl (qW T rfl (mW rfl (qW T rfl (vV (gB rfl rfl) ?_))))))|(refine rg 2 (aV ?_))|refine nZ ?_));all_goals first | (exfalso;omega) | exact rQ
theorem ON {S:Nat→Prop}{w:World}{ρ:Pl}{a b d e:AV}{y:Value}(h:R S w (.agg [a,b,d,e,.nils]) ρ y):R S w (.agg [a,b,d,e,.rowE [] 1]) ρ y:=by
  simp only [R] at h ⊢;obtain ⟨ys,e1,h1⟩:=h;exact ⟨ys,e1,jG (fun _ h=>h) (fun _=>jG (fun _ h=>h) fun _=>jG (fun _ h=>h) fun _=>jG (fun _ h=>h) fun _=>jG (fun _ h=>EC h) fun _ h=>h) h1⟩
end Go.Proofs.YtmmmeebiobjnbaaGreat
namespace Go.Ld
open Go.Ab Go.Proofs.YtmmmeebiobjnbaaGreat Go.Pm
theorem CA {g:G}{i:Nat}{x:Int}:x∈vI g i↔∃ w,w∈g.2∧gP w i=x:=by
  unfold vI zR;rw [O4 _ _ _ (aU _),cQ];have:x∈jD (J4 g i)↔x∈J4 g i:=(sorted_perm _).mem_iff;rw [this];unfold J4;rw [bA]
theorem MC {g:G}{i:Nat}:∀ k,k≤g.2.length→∀ w,w∈g.2.take k→(VM g i k).1≤(gC w i).1∧(gC w i).2≤(VM g i k).2
  | 0,_,w,hw=>by simp at hw
  | k+1,hk,w,hw=>by
    rw [VL (by omega)]
    rw [aP (by omega)] at hw
    unfold zE0;dsimp only;rcases bL.1 hw with hw | hw
    · have:=MC (i:=i) k (by omega) w hw
      omega
    · obtain rfl:=bC.1 hw;omega
theorem zO8 {g:G}{i:Nat}{w:W}(hw:w∈g.2):(zO9 g i).1≤(gC w i).1∧(gC w i).2≤(zO9 g i).2:=
  MC _ (aU _) w (by rw [cQ];exact hw)
theorem wZ:∀ {gs:List G}{f:As}{M:Int},Sem gs f M→∀ {g:G},g∈gs→∃ w,w∈g.2∧oV g.1 w f
  | [],_,_,_,_,hg=>by cases hg
  | x::gs,f,M,⟨m,⟨w,h1,h2,_⟩,h3⟩,g,hg=>by
    rcases bN.1 hg with rfl | hg
    · exact ⟨w,h1,h2⟩
    · exact wZ h3 hg
theorem AF {c:Cx}{gs:List G}{p q:List Int}(h:pR c gs) (ha:yF9 c gs p q=true){b:Int}(hb:0≤b∧b<c.bs.length){g:G}{i:Nat}(hg:Z6 gs b=some (g,i)) :
    p.getD b.toNat 0∈vI g i∧(zO9 g i).1≤q.getD (p.getD b.toNat 0).toNat 0∧q.getD (p.getD b.toNat 0).toNat 0<(zO9 g i).2:=by
  obtain ⟨_,_,_,f,hf,hs⟩:=(KC h).1 ha;obtain ⟨k,h1,h2,h3,h4⟩:=M8 hg;obtain ⟨w,hw,hfw⟩:=wZ hs (aO h2);have hi:i<g.1.length:=by rw [h4];exact hC h3
  have hib:g.1[i]=b:=by
    obtain ⟨hx,e⟩:=yQ h3;subst h4;exact e
  have e1:=CX hfw hi;have e2:=CY hfw hi;rw [hib] at e1 e2;obtain ⟨o1,o2⟩:=hf b hb.1 hb.2;have hc:=zO8 (i:=i) hw;rw [e2] at hc;unfold xL at o2;simp only [aN,decide_eq_true_eq] at o2;exact ⟨CA.2 ⟨w,hw,by rw [e1,o1]⟩,by omega,by omega⟩
end Go.Ld
namespace Go.Ld
open Go.Ab Go.Proofs.YtmmmeebiobjnbaaGreat
abbrev oX (l:List Ev):List (List AV):=l.map xN
def zN (l:List Ev):Nat:=l.countP fun s=>decide (s.k=4)
def JI (l:List Ev) (m:Nat):Bool:=(l.take (m+1)).all (fun s=>decide (s.ids.length≤12))&&decide (l.length≤m)&&decide (zN (l.take (m+1))≤5)
theorem vQ (l:List Ev):∀ e,e∈oX l→e.length=5:=by intro e he;obtain ⟨n,_,rfl⟩:=bA.1 he;rfl
theorem NQ {l:List Ev}{k:Nat}(h:k<l.length):(oX l)[(k:Int).toNat]? = some (xN l[k]):=by simp [h]
end Go.Ld
namespace Go.Proofs.YtmmmeebiobjnbaaGreat
open Go Go.Ab Go.Ld
attribute [local irreducible] VC AW cD aT jE
set_option maxHeartbeats 4000000
theorem yE1 (l:List Ev) (m:Nat) (hm:m≤1000) (hids:∀ s,s∈l→s.ids.length≤9223372036854775807):aT Tryz.prog 27 [.rowE (oX l) 5,.i m] [] (.b (JI l m)) []:=by
  have hll:(oX l).length=l.length:=aX _;have hbad:∀ k (hk:k<l.length),k≤m→¬ l[k].ids.length≤12→JI l m=false:=fun k hk hkm hb=>by
    unfold JI;rw [show (l.take (m+1)).all (fun s=>decide (s.ids.length≤12))=false from List.all_eq_false.2 ⟨l[k],V0.2 ⟨k,by omega,rfl⟩,by simpa using hb⟩];rfl
  have hgood:(∀ s,s∈l.take (m+1)→s.ids.length≤12)→JI l m=(decide (l.length≤m)&&decide (zN (l.take (m+1))≤5)):=fun h=>by
    unfold JI;rw [bK.2 fun s hs=>decide_eq_true (h s hs),mY]
  generalize JI l m=R at *;refine bU T Tryz.func27 rfl rfl rfl rfl ?_
  (repeat' (first|refine wS ?_|refine wB ?_|(refine rg 0 (aV ?_))|(refine rg 1 (aV ?_))|(refine rg 2 (aV ?_))|refine nZ ?_));refine dA (X:={k:Nat // k≤l.length∧k≤m+1∧∀ s,s∈l.take k→s.ids.length≤12}) (fun k=>[(0,.rowE (oX l) 5),(1,.i m),(5,.i (zN (l.take k.1))),(6,.i k.1)]) (fun _=>[]) (fun k=>l.length-k.1) ⟨0,bW _,bW _,fun s hs=>by simp at hs⟩ (gH []) ?_
  rintro ⟨k,hk,hkm,hall⟩;dsimp only;have hsw:zN (l.take k)≤k:=bG List.countP_le_length (by rw [bH];omega)
  by_cases hlt:k<l.length∧k≤m
  · obtain ⟨h1,h2⟩:=hlt;have hg:=NQ h1;have hts:l.take (k+1)=l.take k++[l[k]]:=aP h1;have hs1:zN (l.take (k+1))=zN (l.take k)+(if l[k].k=4 then 1 else 0):=by rw [hts];unfold zN;rw [XR];simp [List.countP_cons]
    have hbk:=hbad k h1 h2;have hx:=hids l[k] (aM h1);have hil:(Go.Ab.ints l[k].ids).length=l[k].ids.length:=aX _;have hall2:l[k].ids.length≤12→∀ s,s∈l.take (k+1)→s.ids.length≤12:=fun hq s hs=>by
      rw [hts] at hs;rcases bL.1 hs with hs | hs
      · exact hall s hs
      · rw [bC.1 hs];exact hq
    generalize l[k]=s at *;generalize hS1:zN (l.take (k+1))=S1 at *;generalize zN (l.take k)=S at *;by_cases hi:s.ids.length≤12
    · by_cases h4:s.k=4
      · rw [if_pos h4] at hs1
        (repeat' (first|refine wS ?_|refine wB ?_|refine wK ?_|refine wT ?_|(refine wC rfl ?_ ?_<;>(intro hb;(try simp only [nm] at hb);try (exfalso;omega)))|(refine rg 3 (dI rfl (qW T rfl (vV (aL rfl rfl) (mV ?_))));refine bQ rfl rfl ?_ ?_<;>(intro hb;rw [hb];(try simp only [nm] at hb);try (exfalso;omega));(all_goals (refine yN rfl (yN rfl (yV (iB rfl rfl) (pV ?_))))))|(refine rg 5 (dI rfl (vV (ix T rfl (by omega) (vQ _) hg) (gI T rfl (qW T rfl (vV (fA rfl rfl) ?_))))))|(refine rg 7 (dI rfl (vV (ix T rfl (by omega) (vQ _) hg) (gI T rfl (vV (lE rfl rfl (by omega)) ?_)))))|(refine iA 8 rfl rfl rfl (by omega) (by omega) ?_)|(refine iA 4 rfl rfl rfl (by omega) (by omega) ?_)|refine nZ ?_));all_goals try (exfalso;omega)
        exact ⟨⟨k+1,h1,by omega,hall2 hi⟩,by dsimp only;omega,[],rfl,⟨rfl,rfl,by dsimp only;rw [hS1,hs1];rfl,rfl,trivial⟩,trivial,eT,jY _⟩
      · rw [if_neg h4] at hs1
        (repeat' (first|refine wS ?_|refine wB ?_|refine wK ?_|refine wU ?_|(refine wC rfl ?_ ?_<;>(intro hb;(try simp only [nm] at hb);try (exfalso;omega)))|(refine rg 3 (dI rfl (qW T rfl (vV (aL rfl rfl) (mV ?_))));refine bQ rfl rfl ?_ ?_<;>(intro hb;rw [hb];(try simp only [nm] at hb);try (exfalso;omega));(all_goals (refine yN rfl (yN rfl (yV (iB rfl rfl) (pV ?_))))))|(refine rg 5 (dI rfl (vV (ix T rfl (by omega) (vQ _) hg) (gI T rfl (qW T rfl (vV (fA rfl rfl) ?_))))))|(refine rg 7 (dI rfl (vV (ix T rfl (by omega) (vQ _) hg) (gI T rfl (vV (iE rfl rfl (by omega)) ?_)))))|(refine iA 4 rfl rfl rfl (by omega) (by omega) ?_)|refine nZ ?_));all_goals try (exfalso;omega)
        exact ⟨⟨k+1,h1,by omega,hall2 hi⟩,by dsimp only;omega,[],rfl,⟨rfl,rfl,by dsimp only;rw [hS1,hs1];rfl,rfl,trivial⟩,trivial,eT,jY _⟩
    · have hR:=hbk hi;subst hR
      (repeat' (first|refine wS ?_|refine wB ?_|refine wK ?_|refine wR ?_|(refine wC rfl ?_ ?_<;>(intro hb;(try simp only [nm] at hb);try (exfalso;omega)))|(refine rg 3 (dI rfl (qW T rfl (vV (aL rfl rfl) (mV ?_))));refine bQ rfl rfl ?_ ?_<;>(intro hb;rw [hb];(try simp only [nm] at hb);try (exfalso;omega));(all_goals (refine yN rfl (yN rfl (yV (iB rfl rfl) (pV ?_))))))|(refine rg 5 (dI rfl (vV (ix T rfl (by omega) (vQ _) hg) (gI T rfl (qW T rfl (vV (fA rfl rfl) ?_))))))|(refine rg 6 (aV ?_))|refine nZ ?_));all_goals try (exfalso;omega)
      all_goals exact rQ
  · have hke:l.take k=l.take (m+1):=by
      rcases jO k l.length with h | h
      · rw [show k=m+1 by omega]
      · rw [bO h,bO (by omega)]
    rw [hke] at hall hsw ⊢;have hR:=hgood hall;subst hR;generalize zN (l.take (m+1))=S at *
    (repeat' (first|refine wS ?_|refine wR ?_|refine wE ?_|refine wU ?_|(refine wC rfl ?_ ?_<;>(intro hb;(try simp only [nm] at hb);try (exfalso;omega)))|(refine rg 3 (dI rfl (qW T rfl (vV (aL rfl rfl) (mV ?_))));refine bQ rfl rfl ?_ ?_<;>(intro hb;rw [hb];(try simp only [nm] at hb);try (exfalso;omega));(all_goals first|(refine gT (mW rfl (gT (mW rfl (gT (vV (iB rfl rfl) ?_))))))|(iterate 3 refine gF ?_));(all_goals (refine pV ?_)))|(refine rg 9 (mW rfl (qW T rfl (mW rfl (vV (iB rfl rfl) (mV ?_)))));refine bQ rfl rfl ?_ ?_<;>(intro hb;rw [hb];(try simp only [nm] at hb);try (exfalso;omega));(all_goals first|(refine gT (mW rfl (gT (vV (iB rfl rfl) ?_))))|(iterate 2 refine gF ?_));(all_goals (refine pW rfl (aV ?_))))|refine nZ ?_));all_goals try (exfalso;omega)
    all_goals (refine dJ (.inl rfl) rfl (nM ?_);first | rfl | (rw [HV];simp;omega) | (simp [*];omega) | skip)
end Go.Proofs.YtmmmeebiobjnbaaGreat
namespace Go.Proofs.YtmmmeebiobjnbaaGreat
open Go Go.Ab
attribute [local irreducible] VC AW cD aT
set_option maxHeartbeats 4000000
def zL8 (N:Nat) (ks:List KD) (ls:List LT) (ps:List Int) (bs:List BX):Prop:=1≤ps.length∧ps.length≤N∧bs.length≤N∧ks.length≤10∧ls.length≤10
theorem zF2 (N:Nat) (hN:N≤8) (ks:List KD) (ls:List LT) (ps:List Int) (bs:List BX) (m st er sl:Int) (h:¬ zL8 N ks ls ps bs) :
    aT Tryz.prog 9 [wF ks ls ps bs,iH m st er sl,.i N] [] (.b false) []:=by
  unfold zL8 at h;have e1:(gE ks).length=ks.length:=by simp
  have e2:(iI ls).length=ls.length:=by simp
  have e3:(ints ps).length=ps.length:=by simp
  have e4:(cW bs).length=bs.length:=by simp
  refine bU T Tryz.func9 rfl rfl rfl rfl ?_
  (repeat' (first|refine wS ?_|refine wR ?_|(refine rg 0 (cC (cO rfl rfl) rfl (cC (cO rfl rfl) rfl (aV ?_))))|(refine rg 1 (gI T rfl (qW T rfl (vV (iC rfl rfl) (mV ?_))));refine bQ rfl rfl ?_ ?_<;>(intro hb;rw [hb];(try simp only [nm] at hb);try (exfalso;omega));(all_goals first|(refine gT (fW T rfl (gT (lW T rfl (gT (qW T rfl (gT (mW rfl (gT (vV (iB rfl rfl) ?_))))))))))|(iterate 5 refine gF ?_));(all_goals (refine pW rfl (mV ?_)));(all_goals first|(refine gK ?_)|(refine bQ rfl rfl ?_ ?_<;>(intro hb;rw [hb];(try simp only [nm] at hb);try (exfalso;omega))));(all_goals first|(refine gT (fW T rfl (gT (lW T rfl (gT (qW T rfl (gT (mW rfl (gT (vV (iB rfl rfl) ?_))))))))))|(iterate 5 refine gF ?_));(all_goals (refine pW rfl (mV ?_)));(all_goals first|(refine gK ?_)|(refine bQ rfl rfl ?_ ?_<;>(intro hb;rw [hb];(try simp only [nm] at hb);try (exfalso;omega))));(all_goals first|(refine gT (fW T rfl (gT (lW T rfl (gT (qW T rfl (gT (vV (iB rfl rfl) ?_))))))))|(iterate 4 refine gF ?_));(all_goals (refine pW rfl (mV ?_)));(all_goals first|(refine gK ?_)|(refine bQ rfl rfl ?_ ?_<;>(intro hb;rw [hb];(try simp only [nm] at hb);try (exfalso;omega))));(all_goals first|(refine gT (fW T rfl (gT (lW T rfl (gT (qW T rfl (gT (vV (iB rfl rfl) ?_))))))))|(iterate 4 refine gF ?_));(all_goals (refine pW rfl (mV ?_)));(all_goals first|(refine gK ?_)|(refine bQ rfl rfl ?_ ?_<;>(intro hb;rw [hb];(try simp only [nm] at hb);try (exfalso;omega))));(all_goals ((iterate 2 refine gF ?_);refine pW rfl (mV ?_);(iterate 9 refine gF ?_);refine pW rfl (aV ?_))))|refine nZ ?_));all_goals first | exact rQ | (exfalso;omega) | (refine dJ (.inl rfl) rfl (nM ?_);simp;omega)
theorem N7 (N:Nat) (hN:N≤8) (ks:List KD) (ls:List LT) (ps:List Int) (bs:List BX) (m st er sl:Int) (h:zL8 N ks ls ps bs){v w:Bool}(hs:E3 m st er sl=v) (ht:uH ks ls ps bs=w) :
    aT Tryz.prog 9 [wF ks ls ps bs,iH m st er sl,.i N] [] (.b (v&&w)) []:=by
  unfold zL8 at h;have e1:(gE ks).length=ks.length:=by simp
  have e2:(iI ls).length=ls.length:=by simp
  have e3:(ints ps).length=ps.length:=by simp
  have e4:(cW bs).length=bs.length:=by simp
  have c1:=hs▸YZ m st er sl;have c2:=ht▸zN1 ks ls ps bs (by omega) (by omega) (by omega) (by omega)
  cases v <;> cases w
  all_goals
    refine bU T Tryz.func9 rfl rfl rfl rfl ?_
    repeat' (first|refine wS ?_|refine wR ?_|(refine rg 0 (cC (cO rfl rfl) rfl (cC (cO rfl rfl) rfl (aV ?_))))|(refine rg 1 (gI T rfl (qW T rfl (vV (iC rfl rfl) (mV ?_))));refine bQ rfl rfl ?_ ?_<;>(intro hb;rw [hb];(try simp only [nm] at hb);try (exfalso;omega));(all_goals (refine yP T rfl (yO T rfl (gT (qW T rfl (yN rfl (yV (iB rfl rfl) (pW rfl (mV ?_)))))));refine bQ rfl rfl ?_ ?_<;>(intro hb;rw [hb];(try simp only [nm] at hb);try (exfalso;omega))));(all_goals (refine yP T rfl (yO T rfl (gT (qW T rfl (yN rfl (yV (iB rfl rfl) (pW rfl (mV ?_)))))));refine bQ rfl rfl ?_ ?_<;>(intro hb;rw [hb];(try simp only [nm] at hb);try (exfalso;omega))));(all_goals (refine yP T rfl (yO T rfl (gT (qW T rfl (yV (iB rfl rfl) (pW rfl (mV ?_))))));refine bQ rfl rfl ?_ ?_<;>(intro hb;rw [hb];(try simp only [nm] at hb);try (exfalso;omega))));(all_goals (refine yP T rfl (yO T rfl (gT (qW T rfl (yV (iB rfl rfl) (pW rfl (mV ?_))))));refine bQ rfl rfl ?_ ?_<;>(intro hb;rw [hb];(try simp only [nm] at hb);try (exfalso;omega))));(all_goals (refine yO T rfl (yV (kC (c1)) (pW rfl (mV ?_)))));(all_goals first|(refine gT (fW T rfl (gT (lW T rfl (gT (fW T rfl (gT (lW T rfl (gT (fV T ?_)))))))));refine gT (lW T rfl (gT (fW T rfl (gT (lW T rfl (gT (vV (kC (c2)) ?_))))))))|(iterate 9 refine gF ?_));(all_goals (refine pW rfl (aV ?_))))|refine nZ ?_)
  all_goals first | exact rQ | (exfalso;omega)
theorem zU1 (N:Nat) (hN:N≤8) (ks:List KD) (ls:List LT) (ps:List Int) (bs:List BX) (m st er sl:Int) :
    aT Tryz.prog 9 [wF ks ls ps bs,iH m st er sl,.i N] [] (.b false) [] ∨
    (aT Tryz.prog 9 [wF ks ls ps bs,iH m st er sl,.i N] [] (.b true) []∧zL7 ks ls ps bs∧mH m st er sl∧vU ks ls ps bs∧ps.length≤N):=by
  by_cases h:zL8 N ks ls ps bs
  · cases hs:E3 m st er sl
    · cases ht:uH ks ls ps bs
      · exact .inl (N7 N hN ks ls ps bs m st er sl h hs ht)
      · exact .inl (N7 N hN ks ls ps bs m st er sl h hs ht)
    · cases ht:uH ks ls ps bs
      · exact .inl (N7 N hN ks ls ps bs m st er sl h hs ht)
      · exact .inr ⟨N7 N hN ks ls ps bs m st er sl h hs ht,yE0 ⟨h.1,by have:=h.2.1;omega,by have:=h.2.2.1;omega,h.2.2.2.1,h.2.2.2.2⟩ ht,VH hs,by unfold uH at ht;simpa using ht,h.2.1⟩
  · exact .inl (zF2 N hN ks ls ps bs m st er sl h)
end Go.Proofs.YtmmmeebiobjnbaaGreat
namespace Go.Ld
open Go.Ab Go.Proofs.YtmmmeebiobjnbaaGreat
theorem ZU {c:Cx}{gs:List G}(h:pR c gs){g:G}(hg:g∈gs){i:Nat}(hi:i<g.1.length):∀ x,x∈vI g i→0≤x∧x<c.bs.length:=by
  intro x hx;obtain ⟨w,hw,rfl⟩:=CA.1 hx;obtain ⟨a,b,_⟩:=((h.mid.out.ok g hg).ws w hw).at hi;exact ⟨a,b⟩
theorem M2 {g:G}{i:Nat}:(vI g i).length≤g.2.length:=by
  unfold vI zR;refine bG (pM _ _) ?_;have:(jD (J4 g i)).length=(J4 g i).length:=(Go.Pm.sorted_perm _).length_eq;rw [this];unfold J4;rw [aX];exact aU _
end Go.Ld
