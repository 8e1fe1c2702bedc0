/-
  Texts of the logic and of the layer,in one module (part 9).
-/
import Derived.Test.YtjjfjhkbmdbhkaaGreatDoorK8
set_option maxHeartbeats 8000000
set_option linter.unusedVariables false
set_option linter.unusedSimpArgs false
set_option linter.unnecessarySimpa false
namespace Go.Proofs.Q
open Go Go.Ab Go.Ld
attribute [local irreducible] VC AW bW aM iU wD
theorem zT6 (c:Cx) (t:Tr) (k:Nat){x:Sd}(hc:iZ c) (h:jZ c t) (hk:t.sales[k]? = some x) (hl:t.seen.length≤100000) (hids:∀ s,s∈t.seen→s.ids.length≤9223372036854775807) :
  aM Tryz.prog 42 [.pr (GB c t) 0,.i (k:Int)] [] (.sl 0 0 (jN c (jM c t.seen x)).length 1) [.arr (ints (jN c (jM c t.seen x))) 1]:=by
 have hx:=aQ hk;have hi:=yD5 c t k hc h hk hl hids;obtain ⟨sb,sn,lk,ru⟩:=h.sd x hx;obtain ⟨g,hg,hgm,hbg⟩:=ER (lk.gk.mid.find sb);have hwl:=lk.gk.mid.wl g hgm;have hrg:∀ i,i∈jM c t.seen x→0≤i∧i<c.bs.length:=fun i hi=>(KJ h hx).1 i (dX.1 hi).1;have hrl:(jM c t.seen x).length≤1000:=by
  refine bL (eZ _ _) ?_;unfold K1;rw [hg];exact bL (Q2 (g:=g) (i:=g.1.idxOf x.s.b)) hwl
 clear hg hgm hbg hwl;generalize jM c t.seen x=l at *;have hbl:(fL c.bs).length=c.bs.length:=aU _;have hll:(ints l).length=l.length:=dD _;have hs1:=SL (l.map (uD c)) (by rw [aU];omega)
 have hs2:=JB (jF (l.map (uD c))) (by rw [(Go.Pm.sorted_perm _).length_eq,aU];omega)
 have e0:C1 (jF (l.map (uD c)))=jN c l:=rfl;rw [e0] at hs2;have hsl:(jF (l.map (uD c))).length=l.length:=by rw [(Go.Pm.sorted_perm _).length_eq,aU]
 rw [hsl] at hs2;rw [aU] at hs1;refine bS T Tryz.func42 rfl rfl rfl rfl ?_
 (repeat' (first|refine wS ?_|(refine rg 0 (aV ?_))|refine nZ ?_));all_goals try omega
 (repeat' (first|refine wS ?_|(refine rg 1 (vV (eD rfl) (oF 5 1 rfl (by decide) ?_)))|refine nZ ?_));all_goals try omega
 (repeat' (first|refine wB ?_|(refine rg 2 (dJ rfl (vV (kC (hi)) (qW T rfl (mV ?_)))))|refine nZ ?_));all_goals try omega
 refine dI (X:={k:Nat // k≤l.length}) (fun k=>[(0,.pr (GB c t) 0),(5,.sl 0 0 k.1 1),(10,.rowE (ints l) 1),(11,.i (ints l).length),(12,.i k.1)]) (fun k=>[.arr (ints ((l.take k.1).map (uD c))) 1]) (fun k=>l.length-k.1) ⟨0,bZ _⟩ ⟨[0],rfl,(by repeat first|exact trivial|refine ⟨rfl,?_⟩),⟨.inr rfl,trivial⟩,by decide,jP _⟩ ?_
 rintro ⟨j,hj⟩;dsimp only;by_cases hlt:j<l.length
 ·have q:=mC (l:=l) (k:=j) hlt;obtain ⟨i0,i1⟩:=hrg _ (aO hlt);have e1:ints ((l.take (j+1)).map (uD c))=ints ((l.take j).map (uD c))++[[.i (uD c l[j])]]:=by rw [aL hlt,bU,ints,bU];rfl
  have hal:(ints ((l.take j).map (uD c))).length=j:=by rw [dD,aU,aY];omega
  have ii:=bF ((l.take (j+1)).map (uD c));generalize l[j]=v at *;have hbx:=WI (l:=c.bs) (i:=v.toNat) (by omega)
  have qb:(fL c.bs)[v.toNat]? = some [.i (uD c v),.i (c.bs.getD v.toNat (0,0,0)).2.1,.i (c.bs.getD v.toNat (0,0,0)).2.2]:=by rw [bN,hbx];rfl
  generalize uD c v=lv at *;generalize ints ((l.take j).map (uD c))=A at *
  (repeat' (first|refine wS ?_|refine wB ?_|refine wK ?_|(refine wC rfl ?_ ?_<;>(intro hb;(try simp only [nm] at hb);try omega))|(refine rg 3 (vV (aK rfl rfl) ?_))|(refine rg 4 (vV (ix T rfl (by omega) (dY _) q) (lW T rfl (aV ?_))))|(refine rg 5 (dJ rfl (nV ?_));refine iK T rfl (mW rfl (vV (ix T rfl (by omega) (pF _) qb) (iK T rfl (cO (by exact bG T rfl rfl (by decide) (by decide) rfl rfl rfl) rfl ?_))));refine gJ T rfl rfl rfl rfl rfl rfl (by omega) (kK.whole rfl rfl) rfl (by simp;omega) (by simp;omega) rfl ?_;refine aV ?_)|(refine rg 6 (vV (cK rfl rfl (by omega) (by omega)) (mV ?_)))|refine nZ ?_));all_goals try omega
  all_goals exact ⟨⟨j+1,hlt⟩,by dsimp only;omega,⟨[2],rfl,(by repeat first|exact trivial|refine ⟨rfl,?_⟩),⟨.inr (aC rfl (by dsimp only;rw [e1];exact jW hal.symm) ii),trivial⟩,by decide,jP _⟩⟩
 ·obtain rfl:j=l.length:=by omega
  rw [cM]
  (repeat' (first|refine wS ?_|refine wR ?_|refine wE ?_|(refine wC rfl ?_ ?_<;>(intro hb;(try simp only [nm] at hb);try omega))|(refine rg 3 (vV (aK rfl rfl) ?_))|(refine rg 7 (mW rfl (bT [0] rfl rfl (hs1) rfl rfl (by decide) ⟨.inr (by exact aC rfl rfl (bF _)),trivial⟩ (by simp) rfl ?_)))|(refine rg 8 (mW rfl (bT [0] rfl rfl (hs2) rfl rfl (by decide) ⟨.inr (by exact aC rfl (bB _ (bF _)) (bF _)),trivial⟩ (by simp) rfl ?_));refine aV ?_)|refine nZ ?_));all_goals try omega
  exact ⟨.inl rfl,[0],_,rfl,rfl,rfl,⟨.inr (by first|exact aC rfl rfl (bF _)|exact aC rfl (bB _ (bF _)) (bF _)),trivial⟩,by decide,jP _⟩
theorem yB8 (a:Int):aM Tryz.prog 47 [.i a] [] (.b (decide (a<0))) []:=by
 refine bS T Tryz.func47 rfl rfl rfl rfl ?_
 (repeat' (first|refine wS ?_|refine wR ?_|(refine rg 0 (aV ?_))|(refine rg 1 (mW rfl (vV (aK rfl rfl) (aV ?_))))|refine nZ ?_));all_goals first|omega | exact rQ
section
variable {c:Cx}{t:Tr}{k:Nat}{x:Sd}
theorem U4 (h:jZ c t) (hk:t.sales[k]? = some x):(jN c (jM c t.seen x)).length≤1000:=by
 have hx:=aQ hk;obtain ⟨sb,sn,lk,ru⟩:=h.sd x hx;obtain ⟨g,hg,hgm,hbg⟩:=ER (lk.gk.mid.find sb);have hwl:=lk.gk.mid.wl g hgm;refine bL (zT7 _ _) (bL (eZ _ _) ?_);unfold K1;rw [hg];exact bL (Q2 (g:=g) (i:=g.1.idxOf x.s.b)) hwl
theorem EF (hc:iZ c) (h:jZ c t) (hk:t.sales[k]? = some x) (hl:t.seen.length≤100000) (hids:∀ s,s∈t.seen→s.ids.length≤9223372036854775807) :
  aM Tryz.prog 20 [.pr (GB c t) 0,.i (k:Int)] [] (.sl 0 0 (mB (jN c (jM c t.seen x))).length 1) [.arr (ints (mB (jN c (jM c t.seen x)))) 1]:=by
 have ha:=zT6 c t k hc h hk hl hids;have hal:=U4 h hk;generalize jN c (jM c t.seen x)=A at *;have hd:=JA (F:=47) (caps:=[]) (q:=fun a=>decide (a<0)) A (by omega) rfl rfl (fun a _=>yB8 a)
 have ek:mL (fun a=>decide (a<0)) A=mB A:=rfl;rw [ek] at hd;generalize mB A=B at *;clear ek;refine bS T Tryz.func20 rfl rfl rfl rfl ?_
 (repeat' (first|refine wS ?_|refine wR ?_|(refine rg 0 (aV ?_))|(refine rg 1 (dJ rfl (cO (by exact gH rfl rfl ha (.inr ⟨rfl,rfl,by simp⟩)) rfl ?_));refine bT [0] rfl rfl hd rfl rfl (by decide) ⟨.inr (aC rfl (bB _ (bF _)) (bF _)),trivial⟩ (by simp) rfl ?_;refine aV ?_)|refine nZ ?_));all_goals try omega
 all_goals exact ⟨.inl rfl,[0],_,rfl,rfl,rfl,⟨.inr (aC rfl (bB _ (bF _)) (bF _)),trivial⟩,by decide,jP _⟩
theorem zL4 (hc:iZ c) (h:jZ c t) (hk:t.sales[k]? = some x) (hl:t.seen.length≤100000) (hids:∀ s,s∈t.seen→s.ids.length≤9223372036854775807) :
  aM Tryz.prog 20 [.pr (GB c t) 0,.i (k:Int)] [] (.rowE (ints (mB (jN c (jM c t.seen x)))) 1) []:=
 kZ (dD _).symm (eX (bF _)) (EF hc h hk hl hids)
theorem yT7 (hc:iZ c) (h:jZ c t) (hk:t.sales[k]? = some x) (hl:t.seen.length≤100000) (hids:∀ s,s∈t.seen→s.ids.length≤9223372036854775807) :
  aM Tryz.prog 42 [.pr (GB c t) 0,.i (k:Int)] [] (.rowE (ints (jN c (jM c t.seen x))) 1) []:=
 kZ (dD _).symm (eX (bF _)) (zT6 c t k hc h hk hl hids)
theorem CY (hc:iZ c) (h:jZ c t) (hk:t.sales[k]? = some x) (hl:t.seen.length≤100000) (hids:∀ s,s∈t.seen→s.ids.length≤9223372036854775807) :
  aM Tryz.prog 12 [.pr (GB c t) 0,.i (k:Int)] [] (.tup [.i (oL (jN c (jM c t.seen x))).1,.b (oL (jN c (jM c t.seen x))).2]) []:=by
 have ha:=yT7 hc h hk hl hids;have hal:=U4 h hk;generalize jN c (jM c t.seen x)=A at *;have hll:(ints A).length=A.length:=dD _;unfold oL;by_cases h1:A.length=1
 ·have q:(ints A)[(0:Int).toNat]? = some [AV.i (A.getD 0 0)]:=uO (l:=A) (j:=0) (i:=0) 0 (by omega) rfl
  generalize A.getD 0 0=a at *;by_cases h2:0≤a
  ·rw [if_pos ⟨h1,h2⟩];refine bS T Tryz.func12 rfl rfl rfl rfl ?_
   (repeat' (first|refine wS ?_|refine wR ?_|(refine wC rfl ?_ ?_<;>(intro hb;(try simp only [nm] at hb);try omega))|(refine rg 0 (pT ?_))|(refine rg 1 (dJ rfl (vV (kC (ha)) (aV ?_))))|(refine rg 2 (mW rfl (qW T rfl (vV (jL rfl rfl (by omega)) (mW rfl (yN rfl (yV (ix T rfl (by omega) (dY _) q) (yO T rfl (yV (iR rfl rfl) (pV ?_))))))))))|(refine rg 3 (mW rfl (vV (ix T rfl (by omega) (dY _) q) (lW T rfl (pT ?_)))))|refine nZ ?_));all_goals first|omega | exact rQ
  ·rw [if_neg (fun q=>h2 q.2)];refine bS T Tryz.func12 rfl rfl rfl rfl ?_
   (repeat' (first|refine wS ?_|refine wK ?_|refine wR ?_|(refine wC rfl ?_ ?_<;>(intro hb;(try simp only [nm] at hb);try omega))|(refine rg 0 (pT ?_))|(refine rg 1 (dJ rfl (vV (kC (ha)) (aV ?_))))|(refine rg 2 (mW rfl (qW T rfl (vV (jL rfl rfl (by omega)) (mW rfl (yN rfl (yV (ix T rfl (by omega) (dY _) q) (yO T rfl (yV (iR rfl rfl) (pV ?_))))))))))|(refine rg 4 (pT ?_))|refine nZ ?_));all_goals first|omega | exact rQ
 ·rw [if_neg (fun q=>h1 q.1)];refine bS T Tryz.func12 rfl rfl rfl rfl ?_
  (repeat' (first|refine wS ?_|refine wK ?_|refine wR ?_|refine wU ?_|(refine rg 0 (pT ?_))|(refine rg 1 (dJ rfl (vV (kC (ha)) (aV ?_))))|(refine rg 2 (mW rfl (qW T rfl (vV (gR rfl rfl (by omega)) (mV ?_))));(iterate 4 refine gF ?_);refine pV ?_)|(refine rg 4 (pT ?_))|refine nZ ?_));all_goals first|omega | exact rQ
end
end Go.Proofs.Q
namespace Go.Ld
open Go.Ab Go.Proofs.Q
def rD (c:Cx) (t:Tr) (k:Nat):List Int:=match t.sales[k]? with
 | some x=>mB (jN c (jM c t.seen x))
 | none=>[]
def X3 (c:Cx) (t:Tr) (lot:Int):List Int:=nats ((List.range t.sales.length).filter fun k=>decide (lot∈rD c t k))
structure En where
 sold:Bool
 s:Ev
 x:Sl
abbrev yL5 (e:En):List AV:=[.b e.sold,.i e.s.k,.i e.s.a,.i e.s.b,.i e.s.n,.rowE (Go.Ab.ints e.s.ids) 1,.i e.x.t,.i e.x.o,.i e.x.b,.i e.x.n]
abbrev FC (l:List En):List (List AV):=l.map yL5
theorem J6 (l:List En):∀ e,e∈FC l→e.length=10:=by intro e he;obtain ⟨n,_,rfl⟩:=bD.1 he;rfl
theorem N4 (l:List En):(FC l).length=l.length:=aU _
theorem QG {l:List En}{k:Nat}(h:k<l.length):(FC l)[(k:Int).toNat]? = some (yL5 l[k]):=by
 rw [bI,bN,aB h];rfl
def rH (l:List En):List Ev:=(l.filter fun e=>!e.sold).map (·.s)
def NQ (l:List En):Nat:=l.countP (·.sold)
def QC (l:List En) (n m:Nat):Bool:=decide (l.length≤n+m)&&decide (NQ (l.take (n+m+1))≤m)&&LK (rH (l.take (n+m+1))) n
theorem J3 (l:List En) (e:En):rH (l++[e])=rH l++if e.sold then [] else [e.s]:=by
 unfold rH;rw [rJ,bU];cases h:e.sold <;> simp [h]
theorem H8 (l:List En) (e:En):NQ (l++[e])=NQ l+if e.sold then 1 else 0:=by
 unfold NQ;rw [zC1];cases h:e.sold <;> simp [h]
theorem QF (l:List En):(rH l).length≤l.length:=by
 unfold rH;rw [aU];exact eZ _ _
theorem NP (l:List En):NQ l≤l.length:=List.countP_le_length
end Go.Ld
namespace Go.Proofs.Q
open Go Go.Ab Go.Ld
attribute [local irreducible] VC AW bW aM iU wD
theorem OF (c:Cx) (t:Tr) (lot:Int) (hc:iZ c) (h:jZ c t) (hl:t.seen.length≤100000) (hs:t.sales.length≤100000) (hids:∀ s,s∈t.seen→s.ids.length≤9223372036854775807) :
  aM Tryz.prog 22 [.pr (GB c t) 0,.i lot] [] (.sl 0 0 (X3 c t lot).length 1) [.arr (ints (X3 c t lot)) 1]:=by
 have hsl:=sU c t.sales;have hrl:∀ k,(nats ((List.range k).filter fun k=>decide (lot∈rD c t k))).length≤k:=fun k=>by
  rw [aU];exact bL (eZ _ _) (by simp)
 refine bS T Tryz.func22 rfl rfl rfl rfl ?_
 (repeat' (first|refine wS ?_|(refine rg 0 (aV ?_))|refine nZ ?_));all_goals try omega
 (repeat' (first|refine wS ?_|(refine rg 1 (vV (eD rfl) (oF 5 1 rfl (by decide) ?_)))|refine nZ ?_));all_goals try omega
 (repeat' (first|refine wB ?_|(refine rg 2 (mW rfl (nV ?_));refine iK T rfl (qW T rfl (mV ?_)))|refine nZ ?_));all_goals try omega
 refine dI (X:={k:Nat // k≤t.sales.length}) (fun k=>[(0,.pr (GB c t) 0),(1,.i lot),(5,.sl 0 0 (nats ((List.range k.1).filter fun k=>decide (lot∈rD c t k))).length 1),(11,.i (rG c t.sales).length),(12,.i k.1)]) (fun k=>[.arr (ints (nats ((List.range k.1).filter fun k=>decide (lot∈rD c t k)))) 1]) (fun k=>t.sales.length-k.1) ⟨0,bZ _⟩ ⟨[0],rfl,(by repeat first|exact trivial|refine ⟨rfl,?_⟩),⟨.inr rfl,trivial⟩,by decide,jP _⟩ ?_
 rintro ⟨k,hk⟩;dsimp only;by_cases hlt:k<t.sales.length
 ·have hx:t.sales[k]? = some t.sales[k]:=aB hlt;have hlo:=zL4 hc h hx hl hids;have hlen:(mB (jN c (jM c t.seen t.sales[k]))).length≤1000:=bL (eZ _ _) (U4 h hx);have ek:rD c t k=mB (jN c (jM c t.seen t.sales[k])):=by unfold rD;rw [hx]
  rw [← ek] at hlo hlen;have hcn:=N7 (rD c t k) lot (by omega)
  have e0:(nats ((List.range (k+1)).filter fun k=>decide (lot∈rD c t k)))=nats ((List.range k).filter fun k=>decide (lot∈rD c t k))++if lot∈rD c t k then [(k:Int)] else []:=by
   rw [wI,rJ,nats,bU];by_cases q:lot∈rD c t k <;> simp [q]
  have hrk:=hrl k;clear ek;generalize rD c t k=Q at *;by_cases q:lot∈Q
  ·rw [if_pos q] at e0;rw [decide_eq_true q] at hcn;have hii:=bF (nats ((List.range (k+1)).filter fun k=>decide (lot∈rD c t k)));generalize hB:nats ((List.range k).filter fun k=>decide (lot∈rD c t k))=B at *;have e1:ints (nats ((List.range (k+1)).filter fun k=>decide (lot∈rD c t k)))=ints B++[[.i (k:Int)]]:=by rw [e0,ints,bU];rfl
   have e2:(nats ((List.range (k+1)).filter fun k=>decide (lot∈rD c t k))).length=B.length+1:=by rw [e0];simp
   have hBl:(ints B).length=B.length:=dD _
   (repeat' (first|refine wS ?_|refine wB ?_|refine wK ?_|refine wT ?_|(refine wC rfl ?_ ?_<;>(intro hb;(try simp only [nm] at hb);try omega))|(refine rg 3 (vV (aK rfl rfl) ?_))|(refine rg 4 (mW rfl (aV ?_)))|(refine rg 5 (dJ rfl (vV (kC (hlo)) (mW rfl (vV (kC (hcn)) ?_)))))|(refine rg 6 (dJ rfl (cO (by exact bG T rfl rfl (by decide) (by decide) rfl rfl rfl) rfl ?_));refine gJ T rfl rfl rfl rfl rfl rfl (by omega) (kK.whole rfl rfl) rfl (by simp;omega) (by simp;omega) rfl ?_;refine aV ?_)|(refine rg 7 (vV (cK rfl rfl (by omega) (by omega)) (mV ?_)))|refine nZ ?_));all_goals try omega
   all_goals exact ⟨⟨k+1,hlt⟩,by dsimp only;omega,⟨[2],rfl,(by dsimp only;rw [e2];(repeat (first|exact trivial|refine ⟨rfl,?_⟩))),⟨.inr (aC rfl (by dsimp only;rw [e1];exact jW hBl.symm) hii),trivial⟩,by decide,jP _⟩⟩
  ·rw [if_neg q,List.append_nil] at e0;rw [decide_eq_false q] at hcn
   (repeat' (first|refine wS ?_|refine wB ?_|refine wK ?_|refine wU ?_|(refine wC rfl ?_ ?_<;>(intro hb;(try simp only [nm] at hb);try omega))|(refine rg 3 (vV (aK rfl rfl) ?_))|(refine rg 4 (mW rfl (aV ?_)))|(refine rg 5 (dJ rfl (vV (kC (hlo)) (mW rfl (vV (kC (hcn)) ?_)))))|(refine rg 7 (vV (cK rfl rfl (by omega) (by omega)) (mV ?_)))|refine nZ ?_));all_goals try omega
   all_goals exact ⟨⟨k+1,hlt⟩,by dsimp only;omega,⟨[0],rfl,(by dsimp only;rw [e0];(repeat (first|exact trivial|refine ⟨rfl,?_⟩))),⟨.inr (aC rfl (by dsimp only;rw [e0]) (bF _)),trivial⟩,by decide,jP _⟩⟩
 ·obtain rfl:k=t.sales.length:=by omega
  (repeat' (first|refine wS ?_|refine wR ?_|refine wE ?_|(refine wC rfl ?_ ?_<;>(intro hb;(try simp only [nm] at hb);try omega))|(refine rg 3 (vV (aK rfl rfl) ?_))|(refine rg 8 (mW rfl (aV ?_)))|refine nZ ?_));all_goals try omega
  exact ⟨.inl rfl,[0],_,rfl,rfl,rfl,⟨.inr (aC rfl rfl (bF _)),trivial⟩,by decide,jP _⟩
theorem yY6 (n:Nat) (hn:n≤17592186043904):aM Tryz.prog 28 [.i (n:Int)] [] (.sl 0 0 n 1) [.arr (ints (nats (List.range n))) 1]:=by
 refine bS T Tryz.func28 rfl rfl rfl rfl ?_
 (repeat' (first|refine wS ?_|(refine rg 0 (aV ?_))|refine nZ ?_));all_goals try omega
 (repeat' (first|refine wS ?_|(refine rg 1 (vV (eD rfl) (oF 3 1 rfl (by decide) ?_)))|refine nZ ?_));all_goals try omega
 (repeat' (first|refine wB ?_|(refine rg 2 (aV ?_))|refine nZ ?_));all_goals try omega
 refine dI (X:={k:Nat // k≤n}) (fun k=>[(0,.i (n:Int)),(3,.sl 0 0 k.1 1),(4,.i k.1)]) (fun k=>[.arr (ints (nats (List.range k.1))) 1]) (fun k=>n-k.1) ⟨0,bZ _⟩ ⟨[0],rfl,(by repeat first|exact trivial|refine ⟨rfl,?_⟩),⟨.inr rfl,trivial⟩,by decide,jP _⟩ ?_
 rintro ⟨k,hk⟩;dsimp only;have hl:(ints (nats (List.range k))).length=k:=by simp
 by_cases hlt:k<n
 ·have e1:ints (nats (List.range (k+1)))=ints (nats (List.range k))++[[.i (k:Int)]]:=by rw [wI,nats,bU,ints,bU];rfl
  have hii:=bF (nats (List.range (k+1)));generalize ints (nats (List.range k))=B at *
  (repeat' (first|refine wS ?_|refine wB ?_|refine wK ?_|(refine wC rfl ?_ ?_<;>(intro hb;(try simp only [nm] at hb);try omega))|(refine rg 3 (dJ rfl (vV (aK rfl rfl) ?_)))|(refine rg 5 (dJ rfl (cO (by exact bG T rfl rfl (by decide) (by decide) rfl rfl rfl) rfl ?_));refine gJ T rfl rfl rfl rfl rfl rfl (by omega) (kK.whole rfl rfl) rfl (by simp;omega) (by simp;omega) rfl ?_;refine aV ?_)|(refine iA 4 rfl rfl rfl (by omega) (by omega) ?_)|refine nZ ?_));all_goals try omega
  all_goals exact ⟨⟨k+1,hlt⟩,by dsimp only;omega,⟨[2],rfl,(by repeat first|exact trivial|refine ⟨rfl,?_⟩),⟨.inr (aC rfl (by dsimp only;rw [e1];exact jW hl.symm) hii),trivial⟩,by decide,jP _⟩⟩
 ·obtain rfl:k=n:=by omega
  (repeat' (first|refine wS ?_|refine wR ?_|refine wE ?_|(refine wC rfl ?_ ?_<;>(intro hb;(try simp only [nm] at hb);try omega))|(refine rg 3 (dJ rfl (vV (aK rfl rfl) ?_)))|(refine rg 6 (mW rfl (aV ?_)))|refine nZ ?_));all_goals try omega
  exact ⟨.inl rfl,[0],_,rfl,rfl,rfl,⟨.inr (aC rfl rfl (bF _)),trivial⟩,by decide,jP _⟩
theorem zP1 (l:List En) (n m:Nat) (hn:n≤1000) (hm:m≤1000) (hids:∀ e,e∈l→e.s.ids.length≤9223372036854775807) :
  aM Tryz.prog 6 [.rowE (FC l) 10,.i (n:Int),.i (m:Int)] [] (.b (QC l n m)) []:=by
 have hll:=N4 l;refine bS T Tryz.func6 rfl rfl rfl rfl ?_
 (repeat' (first|refine wS ?_|(refine rg 0 (aV ?_))|refine nZ ?_));all_goals try omega
 (repeat' (first|refine wS ?_|(refine rg 1 (vV (eD rfl) (oF 7 5 rfl (by decide) ?_)))|refine nZ ?_));all_goals try omega
 (repeat' (first|refine wS ?_|refine wB ?_|(refine rg 2 (aV ?_))|(refine rg 3 (aV ?_))|refine nZ ?_));all_goals try omega
 refine dI (X:={k:Nat // k≤l.length∧k≤n+m+1}) (fun k=>[(0,.rowE (FC l) 10),(1,.i (n:Int)),(2,.i (m:Int)),(7,.sl 0 0 (rH (l.take k.1)).length 5),(8,.i (NQ (l.take k.1):Nat)),(9,.i k.1)]) (fun k=>[.arr (nQ (rH (l.take k.1))) 5]) (fun k=>l.length-k.1) ⟨0,bZ _,bZ _⟩ ⟨[0],rfl,(by repeat first|exact trivial|refine ⟨rfl,?_⟩),⟨.inr rfl,trivial⟩,by decide,jP _⟩ ?_
 rintro ⟨k,hk,hk2⟩;dsimp only;have h1:=QF (l.take k);have h2:=NP (l.take k);rw [aY] at h1 h2;have h3:=sY (rH (l.take k));by_cases hlt:k<l.length∧k≤n+m
 ·have hg:=QG hlt.1;have e1:=J3 (l.take k) (l[k]'hlt.1);have e2:=H8 (l.take k) (l[k]'hlt.1);rw [← aL hlt.1] at e1 e2;generalize (l[k]'hlt.1)=e at *;obtain ⟨es,⟨ek,ea,eb,en,eids⟩,⟨xt,xo,xb,xn⟩⟩:=e;dsimp only at *;cases es with
  | true=>
   rw [if_pos rfl] at e2;rw [if_pos rfl,List.append_nil] at e1
   (repeat' (first|refine wS ?_|refine wB ?_|refine wK ?_|refine wT ?_|(refine wC rfl ?_ ?_<;>(intro hb;(try simp only [nm] at hb);try omega))|(refine rg 4 (dJ rfl (qW T rfl (vV (aK rfl rfl) (mV ?_))));refine cD rfl rfl ?_ ?_<;>(intro hb;rw [hb];(try simp only [nm] at hb);try omega);(all_goals (refine yN rfl (yN rfl (yN rfl (yV (cK rfl rfl (by omega) (by omega)) (yV (iQ rfl rfl) (pV ?_))))))))|(refine rg 6 (dJ rfl (vV (ix T rfl (by omega) (J6 _) hg) (GD T ?_))))|(refine iA 7 rfl rfl rfl (by omega) (by omega) ?_)|(refine iA 5 rfl rfl rfl (by omega) (by omega) ?_)|refine nZ ?_));all_goals try omega
   all_goals exact ⟨⟨k+1,hlt.1,by omega⟩,by dsimp only;omega,⟨[0],rfl,(by dsimp only;rw [e1,e2];(repeat (first|exact trivial|refine ⟨rfl,?_⟩))),⟨.inr (aC rfl (by dsimp only;rw [e1]) (cT _)),trivial⟩,by decide,jP _⟩⟩
  | false=>
   rw [if_neg (by decide),Nat.add_zero] at e2
   rw [if_neg (by decide)] at e1
   have i1:=cT (rH (l.take (k+1)));have e3:nQ (rH (l.take (k+1)))=nQ (rH (l.take k))++[[.i ek,.i ea,.i eb,.i en,.rowE (Go.Ab.ints eids) 1]]:=by rw [e1,nQ,bU];rfl
   have e4:(rH (l.take (k+1))).length=(rH (l.take k)).length+1:=by rw [e1];simp
   generalize rH (l.take k)=B at *
   (repeat' (first|refine wS ?_|refine wB ?_|refine wK ?_|refine wU ?_|(refine wC rfl ?_ ?_<;>(intro hb;(try simp only [nm] at hb);try omega))|(refine rg 4 (dJ rfl (qW T rfl (vV (aK rfl rfl) (mV ?_))));refine cD rfl rfl ?_ ?_<;>(intro hb;rw [hb];(try simp only [nm] at hb);try omega);(all_goals (refine yN rfl (yN rfl (yN rfl (yV (cK rfl rfl (by omega) (by omega)) (yV (iQ rfl rfl) (pV ?_))))))))|(refine rg 6 (dJ rfl (vV (ix T rfl (by omega) (J6 _) hg) (GD T ?_))))|(refine rg 8 (dJ rfl (mW rfl (vV (ix T rfl (by omega) (J6 _) hg) (iK T rfl (cO (by exact bG T rfl rfl (by decide) (by decide) rfl rfl rfl) rfl ?_)))));refine gJ T rfl rfl rfl rfl rfl rfl (by omega) (kK.whole rfl rfl) rfl (by simp;omega) (by simp;omega) rfl ?_;refine aV ?_)|(refine iA 5 rfl rfl rfl (by omega) (by omega) ?_)|refine nZ ?_));all_goals try omega
   all_goals exact ⟨⟨k+1,hlt.1,by omega⟩,by dsimp only;omega,⟨[2],rfl,(by dsimp only;rw [e4,e2];(repeat (first|exact trivial|refine ⟨rfl,?_⟩))),⟨.inr (aC rfl (by dsimp only;rw [e3];exact jW h3.symm) i1),trivial⟩,by decide,jP _⟩⟩
 ·have ek:l.take (n+m+1)=l.take k:=by
   by_cases q:k<l.length
   ·rw [show k=n+m+1 by omega]
   ·rw [bO (by omega),bO (by omega)]
  have hfe:=yR7 (rH (l.take k)) n hn (fun s hs=>by
   obtain ⟨e,he,rfl⟩:=bD.1 hs
   exact hids e (eJ (dX.1 he).1))
  unfold QC;rw [ek];generalize LK (rH (l.take k)) n=fe at *;have hvw:oX [AB.arr (nQ (rH (l.take k))) 5] (.sl 0 0 (rH (l.take k)).length 5) (.rowE (nQ (rH (l.take k))) 5):=pD rfl h3.symm (WN _);by_cases q1:l.length≤n+m
  ·by_cases q2:NQ (l.take k)≤m
   ·rw [decide_eq_true q1,decide_eq_true q2]
    (repeat' (first|refine wS ?_|refine wR ?_|refine wE ?_|refine wU ?_|(refine rg 4 (dJ rfl (qW T rfl (vV (aK rfl rfl) (mV ?_))));refine cD rfl rfl ?_ ?_<;>(intro hb;rw [hb];(try simp only [nm] at hb);try omega);(all_goals ((iterate 5 refine gF ?_);refine pV ?_)))|(refine rg 9 (mW rfl (qW T rfl (dJ rfl (vV (cK rfl rfl (by omega) (by omega)) (vV (iQ rfl rfl) (mV ?_))))));refine cD rfl rfl ?_ ?_<;>(intro hb;rw [hb];(try simp only [nm] at hb);try omega);(all_goals (refine yN rfl (yN rfl (yV (iQ rfl rfl) (pW rfl (mV ?_))));refine cD rfl rfl ?_ ?_<;>(intro hb;rw [hb];(try simp only [nm] at hb);try omega)));(all_goals (refine yN rfl (yN rfl (yV (by exact eH rfl rfl hfe (.cons hvw (.cons (.v _) .nil)) rfl rfl) ?_));refine pW rfl (aV ?_))))|refine nZ ?_));all_goals first|omega | exact rQ
   ·rw [decide_eq_true q1,decide_eq_false q2]
    (repeat' (first|refine wS ?_|refine wR ?_|refine wE ?_|refine wU ?_|(refine rg 4 (dJ rfl (qW T rfl (vV (aK rfl rfl) (mV ?_))));refine cD rfl rfl ?_ ?_<;>(intro hb;rw [hb];(try simp only [nm] at hb);try omega);(all_goals ((iterate 5 refine gF ?_);refine pV ?_)))|(refine rg 9 (mW rfl (qW T rfl (dJ rfl (vV (cK rfl rfl (by omega) (by omega)) (vV (iQ rfl rfl) (mV ?_))))));refine cD rfl rfl ?_ ?_<;>(intro hb;rw [hb];(try simp only [nm] at hb);try omega);(all_goals (refine yN rfl (yN rfl (yV (iQ rfl rfl) (pW rfl (mV ?_))));refine cD rfl rfl ?_ ?_<;>(intro hb;rw [hb];(try simp only [nm] at hb);try omega)));(all_goals ((iterate 3 refine gF ?_);refine pW rfl (aV ?_))))|refine nZ ?_));all_goals first|omega | exact rQ
  ·rw [decide_eq_false q1]
   (repeat' (first|refine wS ?_|refine wR ?_|refine wE ?_|refine wU ?_|(refine wC rfl ?_ ?_<;>(intro hb;(try simp only [nm] at hb);try omega))|(refine rg 4 (dJ rfl (qW T rfl (vV (aK rfl rfl) (mV ?_))));refine cD rfl rfl ?_ ?_<;>(intro hb;rw [hb];(try simp only [nm] at hb);try omega);(all_goals first|(refine gT (mW rfl (gT (mW rfl (gT (mW rfl (gT (vV (cK rfl rfl (by omega) (by omega)) (gT (vV (iQ rfl rfl) ?_))))))))))|(iterate 5 refine gF ?_));(all_goals (refine pV ?_)))|(refine rg 9 (mW rfl (qW T rfl (dJ rfl (vV (cK rfl rfl (by omega) (by omega)) (vV (iQ rfl rfl) (mV ?_))))));refine cD rfl rfl ?_ ?_<;>(intro hb;rw [hb];(try simp only [nm] at hb);try omega);(all_goals ((iterate 3 refine gF ?_);refine pW rfl (mV ?_);(iterate 3 refine gF ?_);refine pW rfl (aV ?_))))|refine nZ ?_));all_goals first|omega | exact rQ
end Go.Proofs.Q
namespace Go.Ld
open Go.Ab Go.Proofs.Q
def zA (c:Cx) (t:Tr) (e:En):Int × Tr:=if e.sold then (if pK c t e.x=0 then (0,uG t e.x) else (pK c t e.x,t)) else zH1 c t e.s
def MC (c:Cx) (t:Tr) (e:En):Hp:=if e.sold then (if pK c t e.x=0 then M3 c (uG t e.x) else GF c t) else if (fI c t.gs e.s).1=0 then D9 c (zH1 c t e.s).2 else GF c t
theorem JK (c:Cx) (t:Tr) (e:En) :
  ((zA c t e).2=t∧MC c t e=GF c t) ∨
  (∃ s,e.sold=false∧s=e.s∧(fI c t.gs s).1=0∧(zA c t e).1=0∧(zA c t e).2=⟨(fI c t.gs s).2,t.seen++[s],t.sales,t.ord++[false]⟩∧MC c t e=D9 c (zA c t e).2) ∨
  (e.sold=true∧pK c t e.x=0∧(zA c t e).1=0∧(zA c t e).2=uG t e.x∧MC c t e=M3 c (zA c t e).2):=by
 unfold zA MC;by_cases h:e.sold=true
 ·rw [if_pos h,if_pos h];by_cases q:pK c t e.x=0
  ·rw [if_pos q,if_pos q];exact .inr (.inr ⟨h,q,rfl,rfl,rfl⟩)
  ·rw [if_neg q,if_neg q];exact .inl ⟨rfl,rfl⟩
 ·rw [if_neg h,if_neg h];unfold zH1;by_cases q:(fI c t.gs e.s).1=0
  ·rw [if_pos q,if_pos q];exact .inr (.inl ⟨_,by simpa using h,rfl,q,rfl,rfl,rfl⟩)
  ·rw [if_neg q,if_neg q];exact .inl ⟨rfl,rfl⟩
theorem HF {c:Cx}{t:Tr}{x:Sl}(h:pK c t x=0):0≤x.b∧x.b<c.bs.length:=by
 rcases DE c t x with ⟨q,_⟩ | ⟨q,_⟩
 ·omega
 ·omega
structure V7 (c:Cx) (l:List En) (k:Nat) (t:Tr):Prop where
 tr:jZ c t
 sub:t.seen.Sublist (rH (l.take k))
 sl:t.sales.length≤NQ (l.take k)
 od:t.ord.length≤k
theorem V7.new {c:Cx}(hc:iZ c) (l:List En):V7 c l 0 ⟨rU c,[],[],[]⟩:=⟨jZ.new hc,List.nil_sublist _,bZ _,bZ _⟩
theorem uV {l:List En}{k:Nat}(h:k<l.length):l.take (k+1)=l.take k++[l[k]]:=aL h
theorem V7.skip {c:Cx}{l:List En}{k:Nat}{t:Tr}(h:V7 c l k t) (hk:k<l.length):V7 c l (k+1) t:=by
 refine ⟨h.tr,?_,?_,BE h.od⟩
 ·rw [uV hk,J3];exact h.sub.trans (List.sublist_append_left _ _)
 ·rw [uV hk,H8];have:=h.sl;omega
theorem V7.see {c:Cx}{l:List En}{k:Nat}{t:Tr}(hc:iZ c) (h:V7 c l k t) (hk:k<l.length) (hs:l[k].sold=false) (h0:(fI c t.gs l[k].s).1=0):V7 c l (k+1) ⟨(fI c t.gs l[k].s).2,t.seen++[l[k].s],t.sales,t.ord++[false]⟩:=by
 refine ⟨h.tr.see hc h0,?_,?_,by simp;exact h.od⟩
 ·rw [uV hk,J3,if_neg (by rw [hs];decide)]
  exact h.sub.append (List.Sublist.refl _)
 ·rw [uV hk,H8];have:=h.sl;dsimp only;omega
theorem V7.sell {c:Cx}{l:List En}{k:Nat}{t:Tr}(h:V7 c l k t) (hk:k<l.length) (hs:l[k].sold=true) (h0:pK c t l[k].x=0):V7 c l (k+1) (uG t l[k].x):=by
 refine ⟨h.tr.sell _ (HF h0),?_,?_,by unfold uG;simp;exact h.od⟩
 ·rw [uV hk,J3];exact h.sub.trans (List.sublist_append_left _ _)
 ·rw [uV hk,H8,if_pos hs];have:=h.sl;unfold uG;simp;omega
theorem V7.add {c:Cx}{l:List En}{k:Nat}{t:Tr}(hc:iZ c) (h:V7 c l k t) (hk:k<l.length):V7 c l (k+1) (zA c t l[k]).2:=by
 rcases JK c t l[k] with ⟨e,_⟩ | ⟨s,e1,rfl,e2,_,e,_⟩ | ⟨e1,e2,_,e,_⟩
 ·rw [e];exact h.skip hk
 ·rw [e];exact h.see hc hk e1 e2
 ·rw [e];exact h.sell hk e1 e2
theorem V7.swap {c:Cx}{l:List En}{k:Nat}{t:Tr}(h:V7 c l k t) (h5:D1 (rH l)≤5):D1 t.seen≤5:=by
 refine bL (List.Sublist.countP_le h.sub) (bL ?_ h5);have e:rH l=rH (l.take k)++rH (l.drop k):=by
  unfold rH;rw [← bU,← rJ,bK]
 rw [e,JZ];exact gZ _ _
theorem V7.mem {c:Cx}{l:List En}{k:Nat}{t:Tr}(h:V7 c l k t):∀ s,s∈t.seen→∃ e,e∈l∧e.s=s:=fun s hs=>by
 obtain ⟨e,he,rfl⟩:=bD.1 (h.sub.mem hs);exact ⟨e,eJ (dX.1 he).1,rfl⟩
theorem V7.len {c:Cx}{l:List En}{k:Nat}{t:Tr}(h:V7 c l k t):t.seen.length≤k∧t.sales.length≤k:=by
 have h1:=h.sub.length_le;have h2:=QF (l.take k);have h3:=NP (l.take k);have h4:=h.sl;rw [aY] at h2 h3;omega
theorem QB {l:List En}{n m:Nat}(h:QC l n m=true):l.length≤n+m∧D1 (rH l)≤5∧∀ s,s∈rH l→s.ids.length≤12:=by
 unfold QC at h;simp only [aN,decide_eq_true_eq] at h;obtain ⟨⟨h1,h2⟩,h3⟩:=h;rw [bO (by omega)] at h3
 unfold LK at h3;simp only [aN,decide_eq_true_eq,bJ] at h3;obtain ⟨⟨h4,h5⟩,h6⟩:=h3;rw [bO (by omega)] at h4 h6
 exact ⟨h1,h6,h4⟩
theorem V7.ids {c:Cx}{l:List En}{k:Nat}{t:Tr}(h:V7 c l k t) (hx:∀ s,s∈rH l→s.ids.length≤12):∀ s,s∈t.seen→s.ids.length≤9223372036854775807:=fun s hs=>by
 obtain ⟨e,he,rfl⟩:=bD.1 (h.sub.mem hs);obtain ⟨h1,h2⟩:=dX.1 he;have:=hx e.s (bD.2 ⟨e,dX.2 ⟨eJ h1,h2⟩,rfl⟩);omega
def iF (t t':Tr):Prop:=(t'.seen=t.seen∨∃ s,t'.seen=t.seen++[s])∧∃ r,t'.sales=t.sales++r
theorem iF.get {t t':Tr}(h:iF t t'){k:Nat}{x:Sd}(hk:t.sales[k]? = some x):t'.sales[k]? = some x:=by
 obtain ⟨_,r,e⟩:=h;rw [e,aG (aA.1 hk).1];exact hk
theorem iF.ids {c:Cx}{t t':Tr}(h:iF t t'){x:Sd}(hn:x.n≤t.seen.length):∀ i,i∈jM c t'.seen x→i∈jM c t.seen x:=by
 rcases h.1 with e | ⟨s,e⟩
 ·rw [e];exact fun _ h=>h
 ·rw [e];exact zN0 hn
end Go.Ld
namespace Go.Proofs.Q
open Go Go.Ab Go.Ld
attribute [local irreducible] VC AW bW aM iU wD
theorem fX {h:Hp}{c:Cx}{t:Tr}{a b d e f n m q:Nat}(h0:h[a]? = some (.cells [.rowE (kE c.ls) 3,.rowE (fL c.bs) 3,.ptr b 0,.sl d 0 n 5,.sl e 0 m 6,.sl f 0 q 1])) (h1:h[b]? = some (.cells (jY c t.gs))) (h2:h[d]? = some (.arr (nQ t.seen) 5)) (h3:h[e]? = some (.arr (rG c t.sales) 6)) (h4:h[f]? = some (.arr (uT t.ord) 1))
  (e1:n=t.seen.length) (e2:m=t.sales.length) (e3:q=t.ord.length):oX h (.ptr a 0) (.pr (GB c t) 0):=
 .ptr h0 (.cons (.row _ _ _) (.cons (.row _ _ _) (.cons (.ptr h1 (lK _ rfl)) (.cons (pD h2 (by rw [e1,sY]) (WN _)) (.cons (pD h3 (by rw [e2,sU]) (zY6 _ _)) (.cons (pD h4 (by rw [e3,A7]) (yI1 _)) .nil))))))
theorem xA2 (c:Cx) (t:Tr) (e:En) (hc:iZ c) (h:jZ c t) (hb:c.bs.length≤1000) (hids:e.sold=false→e.s.ids.length≤1000000) (hn:t.seen.length≤100000) (hm:t.sales.length≤100000) (hq:t.ord.length≤100000) :
  aM Tryz.prog 11 [.ptr 0 0,.agg (yL5 e)] (GF c t) (.i (zA c t e).1) (MC c t e):=by
 have hs1:=JW c t e.x h hb hn hq hm;have hs2:=fun q=>JX c t e.s hc h (hids q) hn hq;have hs3:=fun q=>zW7 c t e.s hc h (hids q);obtain ⟨es,⟨ek,ea,eb,en,eids⟩,⟨xt,xo,xb,xn⟩⟩:=e;unfold zA MC zH1;dsimp only at *;have i1:=cT t.seen;have i2:=cX c t.sales;have i3:=cW t.ord;cases es with
 | true=>
  rw [if_pos rfl,if_pos rfl];by_cases q:pK c t ⟨xt,xo,xb,xn⟩=0
  ·rw [if_pos q] at hs1;rw [if_pos q,if_pos q];rw [q] at hs1;have j1:=cT (uG t ⟨xt,xo,xb,xn⟩).seen;have j2:=cX c (uG t ⟨xt,xo,xb,xn⟩).sales;have j3:=cW (uG t ⟨xt,xo,xb,xn⟩).ord;generalize uG t ⟨xt,xo,xb,xn⟩=t' at *;refine bS T Tryz.func11 rfl rfl rfl rfl ?_
   (repeat' (first|refine wS ?_|(refine rg 0 (cO (dR rfl rfl) rfl (aV ?_)))|refine nZ ?_));refine iG 3 (cs:=yL5 ⟨true,⟨ek,ea,eb,en,eids⟩,⟨xt,xo,xb,xn⟩⟩) rfl rfl rfl ?_
   (repeat' (first|refine wS ?_|refine wR ?_|refine wT ?_|(refine rg 1 (GD T ?_))|(refine rg 2 (mW rfl (iK T rfl (bT [0,1,2,3,4] rfl rfl (hs1) rfl rfl (by decide) ⟨.inr rfl,.inr rfl,.inr (aC rfl rfl i1),.inr (aC rfl rfl i2),.inr (aC rfl rfl i3),trivial⟩ (by simp) rfl ?_)));refine aV ?_)|refine nZ ?_));all_goals try omega
   all_goals exact ⟨.inl rfl,[0,1,2,3,4,6,7],_,rfl,rfl,rfl,⟨.inr rfl,.inr rfl,.inr (aC rfl (bB _ j1) j1),.inl rfl,.inl rfl,.inr (aC rfl (bB _ j2) j2),.inr (aC rfl (bB _ j3) j3),trivial⟩,by decide,yB5 _ _⟩
  ·rw [if_neg q] at hs1;rw [if_neg q,if_neg q];generalize pK c t ⟨xt,xo,xb,xn⟩=code at *;refine bS T Tryz.func11 rfl rfl rfl rfl ?_
   (repeat' (first|refine wS ?_|(refine rg 0 (cO (dR rfl rfl) rfl (aV ?_)))|refine nZ ?_));refine iG 3 (cs:=yL5 ⟨true,⟨ek,ea,eb,en,eids⟩,⟨xt,xo,xb,xn⟩⟩) rfl rfl rfl ?_
   (repeat' (first|refine wS ?_|refine wR ?_|refine wT ?_|(refine rg 1 (GD T ?_))|(refine rg 2 (mW rfl (iK T rfl (bT [0,1,2,3,4] rfl rfl (hs1) rfl rfl (by decide) ⟨.inr rfl,.inr rfl,.inr (aC rfl rfl i1),.inr (aC rfl rfl i2),.inr (aC rfl rfl i3),trivial⟩ (by simp) rfl ?_)));refine aV ?_)|refine nZ ?_));all_goals try omega
   all_goals exact ⟨.inl rfl,[0,1,2,3,4],_,rfl,rfl,rfl,⟨.inr rfl,.inr rfl,.inr (aC rfl (bB _ i1) i1),.inr (aC rfl (bB _ i2) i2),.inr (aC rfl (bB _ i3) i3),trivial⟩,by decide,yB6⟩
 | false=>
  rw [if_neg oA,if_neg oA];by_cases q:(fI c t.gs ⟨ek,ea,eb,en,eids⟩).1=0
  ·have hs2:=hs2 rfl q;rw [if_pos q,if_pos q];dsimp only;have j1:=cT (t.seen++[⟨ek,ea,eb,en,eids⟩]);have j3:=cW (t.ord++[false]);generalize (fI c t.gs ⟨ek,ea,eb,en,eids⟩).2=g' at *;generalize t.seen++[⟨ek,ea,eb,en,eids⟩]=se' at *;generalize t.ord++[false]=or' at *;refine bS T Tryz.func11 rfl rfl rfl rfl ?_
   (repeat' (first|refine wS ?_|(refine rg 0 (cO (dR rfl rfl) rfl (aV ?_)))|refine nZ ?_));refine iG 3 (cs:=yL5 ⟨false,⟨ek,ea,eb,en,eids⟩,⟨xt,xo,xb,xn⟩⟩) rfl rfl rfl ?_
   (repeat' (first|refine wS ?_|refine wK ?_|refine wR ?_|refine wU ?_|(refine rg 1 (GD T ?_))|(refine rg 3 (mW rfl (iK T rfl (bT [0,1,2,3,4] rfl rfl (hs2) rfl rfl (by decide) ⟨.inr rfl,.inr rfl,.inr (aC rfl rfl i1),.inr (aC rfl rfl i2),.inr (aC rfl rfl i3),trivial⟩ (by simp) rfl ?_)));refine aV ?_)|refine nZ ?_));all_goals try omega
   all_goals exact ⟨.inl rfl,[0,1,2,3,4,6,7],_,rfl,rfl,rfl,⟨.inr rfl,.inr rfl,.inl rfl,.inr (aC rfl (bB _ i2) i2),.inl rfl,.inr (aC rfl (bB _ j1) j1),.inr (aC rfl (bB _ j3) j3),trivial⟩,by decide,yB5 _ _⟩
  ·have hs3:=hs3 rfl q;rw [if_neg q,if_neg q];dsimp only;generalize (fI c t.gs ⟨ek,ea,eb,en,eids⟩).1=code at *;refine bS T Tryz.func11 rfl rfl rfl rfl ?_
   (repeat' (first|refine wS ?_|(refine rg 0 (cO (dR rfl rfl) rfl (aV ?_)))|refine nZ ?_));refine iG 3 (cs:=yL5 ⟨false,⟨ek,ea,eb,en,eids⟩,⟨xt,xo,xb,xn⟩⟩) rfl rfl rfl ?_
   (repeat' (first|refine wS ?_|refine wK ?_|refine wR ?_|refine wU ?_|(refine rg 1 (GD T ?_))|(refine rg 3 (mW rfl (iK T rfl (bT [0,1,2,3,4] rfl rfl (hs3) rfl rfl (by decide) ⟨.inr rfl,.inr rfl,.inr (aC rfl rfl i1),.inr (aC rfl rfl i2),.inr (aC rfl rfl i3),trivial⟩ (by simp) rfl ?_)));refine aV ?_)|refine nZ ?_));all_goals try omega
   all_goals exact ⟨.inl rfl,[0,1,2,3,4],_,rfl,rfl,rfl,⟨.inr rfl,.inr rfl,.inr (aC rfl (bB _ i1) i1),.inr (aC rfl (bB _ i2) i2),.inr (aC rfl (bB _ i3) i3),trivial⟩,by decide,yB6⟩
end Go.Proofs.Q
namespace Go.Ld
open Go.Ab Go.Proofs.Q
inductive tE where
 | see (s:Ev)
 | sell (x:Sl)
def tE.isSell:tE→Bool
 | .see _=>false
 | .sell _=>true
def tE.ev:tE→Option Ev
 | .see s=>some s
 | .sell _=>none
def tE.sl:tE→Option Sl
 | .see _=>none
 | .sell x=>some x
def sJ (c:Cx) (t:Tr):tE→Option Tr
 | .see s=>if (fI c t.gs s).1=0 then some ⟨(fI c t.gs s).2,t.seen++[s],t.sales,t.ord++[false]⟩ else none
 | .sell x=>if pK c t x=0 then some (uG t x) else none
def YV (c:Cx):Tr:=⟨rU c,[],[],[]⟩
def zL (c:Cx) (O:List tE):Option Tr:=O.foldlM (sJ c) (YV c)
theorem W9 (c:Cx) (O:List tE) (o:tE):zL c (O++[o])=(zL c O).bind fun t=>sJ c t o:=by
 unfold zL;rw [List.foldlM_append];show ((O.foldlM (sJ c) (YV c)).bind fun t=>[o].foldlM (sJ c) t)=_;congr 1;funext t;show (sJ c t o).bind (fun t=>some t)=_;cases sJ c t o <;> rfl
theorem XW {c:Cx}{O:List tE}{t:Tr}(h:zL c O=some t) (k:Nat):∃ u,zL c (O.take k)=some u:=by
 have e:zL c O=(zL c (O.take k)).bind fun t=>(O.drop k).foldlM (sJ c) t:=by
  unfold zL
  conv=>lhs;rw [← bK k O,List.foldlM_append]
  rfl
 rw [h] at e;cases q:zL c (O.take k) with
 | none=>rw [q] at e;cases e
 | some u=>exact ⟨u,rfl⟩
theorem XX {c:Cx}{O:List tE}{t u:Tr}(h:zL c O=some t){k:Nat}(hk:k<O.length) (hu:zL c (O.take k)=some u):∃ u',sJ c u O[k]=some u'∧zL c (O.take (k+1))=some u':=by
 obtain ⟨u',h'⟩:=XW h (k+1);have e:=h';rw [aL hk,W9,hu] at e;exact ⟨u',e,h'⟩
theorem zF6 {c:Cx}{t t':Tr}{o:tE}(hc:iZ c) (h:jZ c t) (hs:sJ c t o=some t'):jZ c t':=by
 cases o with
 | see s=>
  simp only [sJ] at hs;split at hs
  ·rename_i h0;cases hs;exact h.see hc h0
  ·cases hs
 | sell x=>
  simp only [sJ] at hs;split at hs
  ·rename_i h0;cases hs;exact h.sell x (HF h0)
  ·cases hs
theorem zY2 {P:List tE→Prop}(h0:P []) (h1:∀ O o,P O→P (O++[o])):∀ O,P O:=fun O=>by
 have:∀ n (O:List tE),O.length=n→P O:=fun n=>by
  induction n with
  | zero=>intro O h;rw [fH.1 h];exact h0
  | succ n ih=>
   intro O h;have hne:O≠[]:=fun q=>by rw [q] at h;cases h
   rw [← List.dropLast_concat_getLast hne];exact h1 _ _ (ih _ (by rw [List.length_dropLast];omega))
 exact this _ O rfl
structure XC (O:List tE) (t:Tr):Prop where
 ord:t.ord=O.map tE.isSell
 seen:t.seen=O.filterMap tE.ev
 sales:t.sales.map (·.s)=O.filterMap tE.sl
theorem zF7 {c:Cx}{O:List tE}{t t':Tr}{o:tE}(h:XC O t) (hs:sJ c t o=some t'):XC (O++[o]) t':=by
 cases o with
 | see s=>
  simp only [sJ] at hs;split at hs
  ·cases hs;exact ⟨by simp [h.ord,tE.isSell],by simp [h.seen,tE.ev],by simp [h.sales,tE.sl]⟩
  ·cases hs
 | sell x=>
  simp only [sJ] at hs;split at hs
  ·cases hs;unfold uG;exact ⟨by simp [h.ord,tE.isSell],by simp [h.seen,tE.ev],by simp [h.sales,tE.sl]⟩
  ·cases hs
theorem VH {c:Cx}(hc:iZ c):∀ (O:List tE) (t:Tr),zL c O=some t→jZ c t∧XC O t:=by
 refine zY2 (fun t h=>?_) fun O o ih t h=>?_
 ·cases h;exact ⟨jZ.new hc,rfl,rfl,rfl⟩
 ·rw [W9] at h;cases q:zL c O with
  | none=>rw [q] at h;cases h
  | some u=>
   rw [q] at h;obtain ⟨h1,h2⟩:=ih u q;exact ⟨zF6 hc h1 h,zF7 h2 h⟩
def yO8 (e:En):tE:=if e.sold then .sell e.x else .see e.s
theorem yI7 (c:Cx) (t:Tr) (e:En):((zA c t e).1≠0∧(zA c t e).2=t)∨sJ c t (yO8 e)=some (zA c t e).2:=by
 unfold zA yO8 sJ zH1;by_cases h:e.sold=true
 ·rw [if_pos h,if_pos h];dsimp only;by_cases q:pK c t e.x=0
  ·rw [if_pos q,if_pos q];exact .inr rfl
  ·rw [if_neg q,if_neg q];exact .inl ⟨q,rfl⟩
 ·rw [if_neg h,if_neg h];dsimp only;by_cases q:(fI c t.gs e.s).1=0
  ·rw [if_pos q,if_pos q];exact .inr rfl
  ·rw [if_neg q,if_neg q];exact .inl ⟨q,rfl⟩
def d0:Cx:=⟨0,0,0,0,[(⟨#[110,117,116]⟩,10)],[(0,0,false),(0,0,false),(0,0,false)],[(0,5,0),(1,3,0),(2,2,0)]⟩
theorem rZ:iZ d0:=⟨⟨by decide,by decide,by decide,by decide,by decide,by decide,by decide,by decide,by decide⟩,by unfold oY d0;decide⟩
def y1:Ev:=⟨4,0,1,0,[]⟩
def y2:Ev:=⟨5,1,0,1,[]⟩
def y3:Ev:=⟨5,0,0,0,[]⟩
def z1:Sl:=⟨1,0,0,1⟩
def h0:List G:=rU d0
def h1:List G:=(fI d0 h0 y1).2
def xG3:List G:=(fI d0 h1 y2).2
def xA7:List G:=(fI d0 h1 y1).2
def xG2:List G:=(fI d0 xA7 y3).2
def GC:Sd:=⟨z1,h1,1⟩
def u0:Tr:=⟨h0,[],[],[]⟩
def u1:Tr:=⟨h1,[y1],[],[false]⟩
def u2:Tr:=⟨h1,[y1],[GC],[false,true]⟩
def zW6:Tr:=⟨xG3,[y1,y2],[GC],[false,true,false]⟩
def yJ9:Tr:=⟨xA7,[y1,y1],[GC],[false,true,false]⟩
def zW5:Tr:=⟨xG2,[y1,y1,y3],[GC],[false,true,false,false]⟩
theorem v0:(fI d0 h0 y1).1=0:=by decide +kernel
theorem xF4:(fI d0 h1 y2).1=0:=by decide +kernel
theorem xF3:(fI d0 h1 y1).1=0:=by decide +kernel
theorem xF2:(fI d0 xA7 y3).1=0:=by decide +kernel
theorem k0:jZ d0 u0:=jZ.new rZ
theorem k1:jZ d0 u1:=k0.see rZ v0
theorem k2:jZ d0 u2:=k1.sell z1 (by decide)
theorem xD2:jZ d0 zW6:=by
 have h:jZ d0 ⟨xG3,[y1]++[y2],[GC],[false,true]++[false]⟩:=jZ.see (t:=u2) (s:=y2) rZ k2 xF4;exact h
theorem xG1:jZ d0 yJ9:=by
 have h:jZ d0 ⟨xA7,[y1]++[y1],[GC],[false,true]++[false]⟩:=jZ.see (t:=u2) (s:=y1) rZ k2 xF3;exact h
theorem xD1:jZ d0 zW5:=by
 have h:jZ d0 ⟨xG2,[y1,y1]++[y3],[GC],[false,true,false]++[false]⟩:=jZ.see (t:=yJ9) (s:=y3) rZ xG1 xF2;exact h
theorem xF7:pK d0 u1 z1=0:=by decide +kernel
theorem xI7:BO h1 0=some (mJ h1 0,0):=by kernel_rfl
theorem xC1:K1 GC=[0,1]:=by
 unfold K1;rw [show BO GC.gs GC.s.b=_ from xI7]
 show wQ (mJ h1 0) 0=[0,1];unfold wQ;rw [vI];decide +kernel
theorem xD6:jM d0 u2.seen GC=[0,1]:=by unfold jM;rw [xC1];decide +kernel
theorem xD5:jM d0 zW6.seen GC=[0]:=by unfold jM;rw [xC1];decide +kernel
theorem xD4:jM d0 zW5.seen GC=[0,1]:=by unfold jM;rw [xC1];decide +kernel
theorem yU8:jN d0 [0,1]=[0,1]:=by unfold jN;rw [vI];decide +kernel
theorem xE5:jN d0 [0]=[0]:=by unfold jN;rw [vI];decide +kernel
theorem zZ6 {c:Cx}{t:Tr}{x:Sd}(h:t.sales=[x]) (lot:Int):X3 c t lot=if lot∈mB (jN c (jM c t.seen x)) then [0] else []:=by
 unfold X3 rD;rw [h];by_cases q:lot∈mB (jN c (jM c t.seen x)) <;> simp [q,wI,nats]
end Go.Ld
namespace Go.Proofs.Q
open Go Go.Ab Go.Ld
attribute [local irreducible] VC AW bW aM iU wD
theorem OM:Tryz.prog.underlying 33=some (.pointer 78):=by kernel_rfl
theorem BZ (c:Cx) (t:Tr) (k a b n:Int) (hc:iZ c) (h:jZ c t) (hn:t.seen.length≤100000) (hm:t.ord.length≤100000) (h0:(fI c t.gs ⟨k,a,b,n,[]⟩).1=0) :
  aM Tryz.prog 33 [.ptr 0 0,.agg [.i k,.i a,.i b,.i n,.nils]] (GF c t) (.i 0) (D9 c ⟨(fI c t.gs ⟨k,a,b,n,[]⟩).2,t.seen++[⟨k,a,b,n,[]⟩],t.sales,t.ord++[false]⟩):=
 JL (JX c t ⟨k,a,b,n,[]⟩ hc h (bZ _) hn hm h0) fun S w ρ ys=>mH (fun _ h=>h) fun ys=>mH (fun _ h=>RG h) fun _ h=>h
theorem ZO:aM Tryz.prog 32 [] [] (.ptr 0 0) (GF d0 u2):=by
 have hn:=SJ d0 rZ;have hs:=BZ d0 u0 4 0 1 0 rZ k0 (by decide) (by decide) v0
 change aM _ _ _ _ _ (D9 d0 u1) at hs;have hz:=JW d0 u1 z1 k1 (by decide) (by decide) (by decide) (by decide)
 rw [if_pos xF7,xF7] at hz;change aM _ _ [.ptr 0 0,.agg [.i 1,.i 0,.i 0,.i 1]] _ _ (M3 d0 u2) at hz;change aM _ _ [.agg [.i 0,.i 0,.i 0,.i 0],.rowE [[.v (.string ⟨#[110,117,116]⟩),.i 10]] 2,.rowE [[.i 0,.i 0,.b false],[.i 0,.i 0,.b false],[.i 0,.i 0,.b false]] 3,.rowE [[.i 0,.i 5,.i 0],[.i 1,.i 3,.i 0],[.i 2,.i 2,.i 0]] 3] _ _ [.cells [.rowE (kE d0.ls) 3,.rowE (fL d0.bs) 3,.ptr 1 0,.nils,.nils,.nils],.cells (jY d0 h0)] at hn;have i1:=cT u1.seen;have i2:=cX d0 u1.sales;have i3:=cW u1.ord;have j1:=cT u2.seen;have j2:=cX d0 u2.sales;have j3:=cW u2.ord;have e0:u0.gs=h0:=rfl;have e1:u0.seen=[]:=rfl;have e2:u0.sales=[]:=rfl;have e3:u0.ord=[]:=rfl;generalize u0=U0 at *;generalize u1=U1 at *;generalize u2=U2 at *;generalize h0=H0 at *;obtain ⟨g0,s0,sa0,o0⟩:=U0;have hD:True:=trivial;dsimp only at e0 e1 e2 e3;subst e0 e1 e2 e3;clear hD;generalize d0=D at *;refine bS T Tryz.func32 rfl rfl rfl rfl ?_
 (repeat' (first|refine wS ?_|(refine rg 0 (aV ?_))|(refine rg 1 (vV (by exact eT T rfl rfl rfl rfl) ?_);refine cO (by exact bG T rfl rfl (by decide) (by decide) rfl rfl rfl) rfl ?_;refine nI 7 rfl rfl rfl rfl ?_;refine aV ?_)|(refine rg 2 (vV (by exact eT T rfl rfl rfl rfl) ?_);refine vV (by exact eT T rfl rfl rfl rfl) ?_;refine vV (by exact eT T rfl rfl rfl rfl) ?_;refine cO (by exact bG T rfl rfl (by decide) (by decide) rfl rfl rfl) rfl ?_;refine nI 11 rfl rfl rfl rfl ?_;refine aV ?_)|(refine rg 3 (vV (by exact eT T rfl rfl rfl rfl) ?_);refine vV (by exact eT T rfl rfl rfl rfl) ?_;refine vV (by exact eT T rfl rfl rfl rfl) ?_;refine cO (by exact bG T rfl rfl (by decide) (by decide) rfl rfl rfl) rfl ?_;refine nI 15 rfl rfl rfl rfl ?_;refine aV ?_)|refine nZ ?_));all_goals try omega
 (repeat' (first|refine wS ?_|(refine rg 4 (vV (by exact eT T rfl rfl rfl rfl) ?_);refine dJ rfl (mW rfl (cO (by exact gH rfl rfl hn (.inr ⟨rfl,rfl,by simp⟩)) rfl ?_));refine mW rfl (xW rfl (xW rfl (pT ?_))))|refine nZ ?_));all_goals try omega
 refine mQ 3 3 5 rfl rfl (by decide) ?_
 refine mQ 3 4 6 rfl rfl (by decide) ?_
 refine mQ 3 5 1 rfl rfl (by decide) ?_
 refine fF [(4,.ptr 0 0),(5,.i 0)] [.cells [.rowE (kE D.ls) 3,.rowE (fL D.bs) 3,.ptr 1 0,.sl 2 0 0 5,.sl 3 0 0 6,.sl 4 0 0 1],.cells (jY D g0),.arr [] 5,.arr [] 6,.arr [] 1] ⟨[3,4,5,6,7],rfl,(by repeat first|exact trivial|refine ⟨rfl,?_⟩),⟨.inr rfl,.inr rfl,.inr rfl,.inr rfl,.inr rfl,trivial⟩,by decide,jP _⟩ ?_
 (repeat' (first|refine wS ?_|refine wK ?_|refine wR ?_|refine wU ?_|(refine rg 5 (mW rfl (vV (gI rfl rfl) (mW rfl (yN rfl (yV (by exact sX OM rfl rfl rfl) ?_)))));refine pV ?_)|(refine rg 7 (mW rfl (vV (by exact eT T rfl rfl rfl rfl) ?_));refine bT [0,1,2,3,4] rfl rfl (hs) rfl rfl (by decide) ⟨.inr rfl,.inr rfl,.inr rfl,.inr rfl,.inr rfl,trivial⟩ (by simp) rfl ?_;refine vV (gI rfl rfl) (mW rfl (yN rfl (yV (by exact eT T rfl rfl rfl rfl) ?_)));refine gT (bT [0,1,5,3,6] rfl rfl (hz) rfl rfl (by decide) ⟨.inr rfl,.inr rfl,.inr (aC rfl (bB _ i1) i1),.inr (aC rfl (bB _ i2) i2),.inr (aC rfl (bB _ i3) i3),trivial⟩ (by simp) rfl ?_);refine yV (gI rfl rfl) (pV ?_))|(refine rg 9 (mW rfl (aV ?_)))|refine nZ ?_));all_goals try omega
 all_goals exact ⟨.inl rfl,[0,1,5,7,8],_,rfl,rfl,rfl,⟨.inr rfl,.inr rfl,.inr (aC rfl (bB _ j1) j1),.inr (aC rfl (bB _ j2) j2),.inr (aC rfl (bB _ j3) j3),trivial⟩,by decide,jP _⟩
end Go.Proofs.Q
namespace Go.Ld
open Go.Ab Go.Proofs.Q
abbrev NF (c:Cx) (t:Tr) (l:Hp):Hp:=.cells (xA5 c t.seen.length t.sales.length t.ord.length) :: .cells (jY c t.gs) :: .arr (nQ t.seen) 5 :: .arr (rG c t.sales) 6 :: .arr (uT t.ord) 1::l
abbrev yK0 (c:Cx) (t:Tr):Hp:=[.cells [.rowE (kE c.ls) 3,.rowE (fL c.bs) 3,.ptr 6 0,.sl 7 0 t.seen.length 5,.sl 8 0 t.sales.length 6,.sl 9 0 t.ord.length 1],.cells (jY c t.gs),.arr (nQ t.seen) 5,.arr (rG c t.sales) 6,.arr (uT t.ord) 1]
end Go.Ld
namespace Go.Proofs.Q
open Go Go.Ab Go.Ld
attribute [local irreducible] VC AW bW aM iU wD
theorem CA {c:Cx}{t:Tr}{x:Sd}{l a:List Int}(hc:iZ c) (h:jZ c t) (hk:t.sales[0]? = some x) (hl:t.seen.length≤10) (hids:∀ s,s∈t.seen→s.ids=[]) (e1:jM c t.seen x=l) (e2:jN c l=a) :
  aM Tryz.prog 12 [.pr (GB c t) 0,.i 0] [] (.tup [.i (oL a).1,.b (oL a).2]) []:=by
 have h1:=CY (k:=0) hc h hk (by omega) (fun s hs=>by rw [hids s hs];exact bZ _)
 rw [e1,e2] at h1;exact h1
theorem KU {c:Cx}{t:Tr}{x:Sd}{l a:List Int}(hc:iZ c) (h:jZ c t) (hk:t.sales[0]? = some x) (hl:t.seen.length≤10) (hids:∀ s,s∈t.seen→s.ids=[]) (e1:jM c t.seen x=l) (e2:jN c l=a) :
  aM Tryz.prog 20 [.pr (GB c t) 0,.i 0] [] (.sl 0 0 (mB a).length 1) [.arr (ints (mB a)) 1]:=by
 have h1:=EF (k:=0) hc h hk (by omega) (fun s hs=>by rw [hids s hs];exact bZ _)
 rw [e1,e2] at h1;exact h1
theorem SR {c:Cx}{t:Tr}{x:Sd}{l a:List Int}(lot:Int) (hc:iZ c) (h:jZ c t) (hk:t.sales=[x]) (hl:t.seen.length≤10) (hids:∀ s,s∈t.seen→s.ids=[]) (e1:jM c t.seen x=l) (e2:jN c l=a) :
  aM Tryz.prog 22 [.pr (GB c t) 0,.i lot] [] (.sl 0 0 (if lot∈mB a then [0] else []:List Int).length 1) [.arr (ints (if lot∈mB a then [0] else [])) 1]:=by
 have h1:=OF c t lot hc h (by omega) (by rw [hk];exact (by decide:1≤100000)) (fun s hs=>by rw [hids s hs];exact bZ _)
 rw [zZ6 hk,e1,e2] at h1;exact h1
theorem yP3:∀ s,s∈u2.seen→s.ids=[]:=by intro s hs;simp only [u2,bQ,iY,or_false] at hs;subst hs;rfl
theorem yP2:∀ s,s∈zW6.seen→s.ids=[]:=by intro s hs;simp only [zW6,bQ,iY,or_false] at hs;rcases hs with rfl | rfl <;> rfl
theorem yP1:∀ s,s∈zW5.seen→s.ids=[]:=by intro s hs;simp only [zW5,bQ,iY,or_false] at hs;rcases hs with rfl | rfl | rfl <;> rfl
theorem HC:aM Tryz.prog 5 [] [] (.b true) []:=by
 have hgv:=ZO;have s1:=BZ d0 u2 5 1 0 1 rZ k2 (by decide) (by decide) xF4
 change aM _ _ _ _ _ (D9 d0 zW6) at s1;have s2:=BZ d0 u2 4 0 1 0 rZ k2 (by decide) (by decide) xF3
 change aM _ _ _ _ _ (D9 d0 yJ9) at s2;have s3:=BZ d0 yJ9 5 0 0 0 rZ xG1 (by decide) (by decide) xF2
 change aM _ _ _ _ _ (D9 d0 zW5) at s3;have q1:=CA rZ k2 (x:=GC) rfl (by decide) yP3 xD6 yU8
 have q2:=KU rZ k2 (x:=GC) rfl (by decide) yP3 xD6 yU8
 have q3:=SR 1 rZ k2 (x:=GC) rfl (by decide) yP3 xD6 yU8
 have q4:=CA rZ xD2 (x:=GC) rfl (by decide) yP2 xD5 xE5
 have q5:=KU rZ xD2 (x:=GC) rfl (by decide) yP2 xD5 xE5
 have q6:=SR 1 rZ xD2 (x:=GC) rfl (by decide) yP2 xD5 xE5
 have q7:=CA rZ xD1 (x:=GC) rfl (by decide) yP1 xD4 yU8
 have q8:=KU rZ xD1 (x:=GC) rfl (by decide) yP1 xD4 yU8
 have q9:=SR 1 rZ xD1 (x:=GC) rfl (by decide) yP1 xD4 yU8
 change aM _ _ _ _ (.tup [.i 0,.b false]) _ at q1 q7;change aM _ _ _ _ (.tup [.i 0,.b true]) _ at q4;change aM _ _ _ _ (.sl 0 0 2 1) [.arr [[.i 0],[.i 1]] 1] at q2 q8;change aM _ _ _ _ (.sl 0 0 1 1) [.arr [[.i 0]] 1] at q5 q3 q9;change aM _ _ _ _ (.sl 0 0 0 1) [.arr [] 1] at q6;have i1:=cT u2.seen;have i2:=cX d0 u2.sales;have i3:=cW u2.ord;have j1:=cT zW6.seen;have j2:=cX d0 zW6.sales;have j3:=cW zW6.ord;have l1:=cT yJ9.seen;have l2:=cX d0 yJ9.sales;have l3:=cW yJ9.ord;have m1:=cT zW5.seen;have m2:=cX d0 zW5.sales;have m3:=cW zW5.ord;generalize u2=U2 at *;generalize zW6=U3 at *;generalize yJ9=V3 at *;generalize zW5=V4 at *;generalize d0=D at *;have t1:=SN [0,1] [0,1] (by decide)
 rw [show decide (([0,1]:List Int)=[0,1])=true from rfl] at t1
 have t2:=SN [0] [0] (by decide)
 rw [show decide (([0]:List Int)=[0])=true from rfl] at t2
 refine bS T Tryz.func5 rfl rfl rfl rfl ?_
 (repeat' (first|refine wS ?_|(refine rg 0 (aV ?_))|(refine rg 1 (cO (by exact gH rfl rfl hgv (.inr ⟨rfl,rfl,by simp⟩)) rfl ?_);refine aV ?_)|refine nZ ?_));refine fF [(1,.ptr 0 0)] (GF D U2) ⟨[0,1,2,3,4],rfl,(by repeat first|exact trivial|refine ⟨rfl,?_⟩),⟨.inr rfl,.inr rfl,.inr (aC rfl (bB _ i1) i1),.inr (aC rfl (bB _ i2) i2),.inr (aC rfl (bB _ i3) i3),trivial⟩,by decide,jP _⟩ ?_
 (repeat' (first|refine wS ?_|(refine rg 2 (cO (by exact gH rfl rfl hgv (.inr ⟨rfl,rfl,by simp⟩)) rfl ?_);refine aV ?_)|refine nZ ?_));refine fF [(1,.ptr 0 0),(2,.ptr 5 0)] (NF D U2 (yK0 D U2)) ⟨[0,1,2,3,4,5,6,7,8,9],rfl,(by repeat first|exact trivial|refine ⟨rfl,?_⟩),⟨.inr rfl,.inr rfl,.inr (aC rfl rfl i1),.inr (aC rfl rfl i2),.inr (aC rfl rfl i3),.inr rfl,.inr rfl,.inr (aC rfl (bB _ i1) i1),.inr (aC rfl (bB _ i2) i2),.inr (aC rfl (bB _ i3) i3),trivial⟩,by decide,jP _⟩ ?_
 (repeat' (first|refine wS ?_|refine wK ?_|refine wU ?_|(refine rg 3 (mW rfl (vV (by exact sX OM rfl rfl rfl) ?_));refine mW rfl (yN rfl (yV (by exact sX OM rfl rfl rfl) ?_));refine pV ?_)|refine nZ ?_));all_goals try omega
 (repeat' (first|refine wS ?_|(refine rg 5 (mW rfl (vV (by exact eH rfl rfl q1 (.cons (fX rfl rfl rfl rfl rfl rfl rfl rfl) (.cons (.v _) .nil)) rfl rfl) ?_));refine mW rfl (xW rfl (xW rfl (pT ?_))))|refine nZ ?_));all_goals try omega
 (repeat' (first|refine wS ?_|(refine rg 6 (mW rfl (cO (by exact gH rfl rfl q2 (.inl ⟨.cons (fX rfl rfl rfl rfl rfl rfl rfl rfl) (.cons (.v _) .nil),rfl⟩)) rfl ?_));refine nI 26 rfl rfl rfl rfl ?_;refine cO (by exact bG T rfl rfl (by decide) (by decide) rfl rfl rfl) rfl ?_;refine nI 27 rfl rfl rfl rfl ?_;refine vV (kC (t1)) (mW rfl (yN rfl (gT (cO (by exact gH rfl rfl q3 (.inl ⟨.cons (fX rfl rfl rfl rfl rfl rfl rfl rfl) (.cons (.v _) .nil),rfl⟩)) rfl ?_))));refine nI 31 rfl rfl rfl rfl ?_;refine gT (cO (by exact bG T rfl rfl (by decide) (by decide) rfl rfl rfl) rfl ?_);refine nI 32 rfl rfl rfl rfl ?_;refine yV (kC (t2)) (pW rfl (mW rfl (yN rfl (yV (dS rfl) (pW rfl (aV ?_)))))))|refine nZ ?_));all_goals try omega
 refine fF [(1,.ptr 0 0),(2,.ptr 5 0),(5,.b true)] (NF D U2 (yK0 D U2)) ⟨[0,1,2,3,4,5,6,7,8,9],rfl,(by repeat first|exact trivial|refine ⟨rfl,?_⟩),⟨.inr rfl,.inr rfl,.inr (aC rfl rfl i1),.inr (aC rfl rfl i2),.inr (aC rfl rfl i3),.inr rfl,.inr rfl,.inr (aC rfl rfl i1),.inr (aC rfl rfl i2),.inr (aC rfl rfl i3),trivial⟩,by decide,jP _⟩ ?_
 (repeat' (first|refine wS ?_|(refine rg 7 (mW rfl (vV (by exact eT T rfl rfl rfl rfl) ?_));refine bT [0,1,2,3,4] rfl rfl (s1) rfl rfl (by decide) ⟨.inr rfl,.inr rfl,.inr (aC rfl rfl i1),.inr (aC rfl rfl i2),.inr (aC rfl rfl i3),trivial⟩ (by simp) rfl ?_;refine aV ?_)|refine nZ ?_));all_goals try omega
 refine fF [(1,.ptr 0 0),(2,.ptr 5 0),(5,.b true),(6,.i 0)] (NF D U3 (yK0 D U2)) ⟨[0,1,10,3,11,5,6,7,8,9],rfl,(by repeat first|exact trivial|refine ⟨rfl,?_⟩),⟨.inr rfl,.inr rfl,.inr (aC rfl (bB _ j1) j1),.inr (aC rfl (bB _ j2) j2),.inr (aC rfl (bB _ j3) j3),.inr rfl,.inr rfl,.inr (aC rfl rfl i1),.inr (aC rfl rfl i2),.inr (aC rfl rfl i3),trivial⟩,by decide,jP _⟩ ?_
 (repeat' (first|refine wS ?_|(refine rg 8 (mW rfl (vV (by exact eH rfl rfl q4 (.cons (fX rfl rfl rfl rfl rfl rfl rfl rfl) (.cons (.v _) .nil)) rfl rfl) ?_));refine mW rfl (xW rfl (xW rfl (pT ?_))))|refine nZ ?_));all_goals try omega
 (repeat' (first|refine wS ?_|(refine rg 9 (mW rfl (vV (fB rfl rfl) (mW rfl (yN rfl (gT (cO (by exact gH rfl rfl q5 (.inl ⟨.cons (fX rfl rfl rfl rfl rfl rfl rfl rfl) (.cons (.v _) .nil),rfl⟩)) rfl ?_))))));refine nI 51 rfl rfl rfl rfl ?_;refine gT (cO (by exact bG T rfl rfl (by decide) (by decide) rfl rfl rfl) rfl ?_);refine nI 52 rfl rfl rfl rfl ?_;refine yV (kC (t2)) (pW rfl (mW rfl (yN rfl (gT (cO (by exact gH rfl rfl q6 (.inl ⟨.cons (fX rfl rfl rfl rfl rfl rfl rfl rfl) (.cons (.v _) .nil),rfl⟩)) rfl ?_)))));refine nI 57 rfl rfl rfl rfl ?_;refine gT (qW T rfl (yV (fB rfl rfl) (pW rfl (mW rfl (yN rfl (pW rfl (mW rfl (yN rfl (yV (fB rfl rfl) ?_)))))))));refine pW rfl (aV ?_))|refine nZ ?_));all_goals try omega
 refine fF [(1,.ptr 0 0),(2,.ptr 5 0),(5,.b true),(9,.b true)] (NF D U3 (yK0 D U2)) ⟨[0,1,2,3,4,5,6,7,8,9],rfl,(by repeat first|exact trivial|refine ⟨rfl,?_⟩),⟨.inr rfl,.inr rfl,.inr (aC rfl rfl j1),.inr (aC rfl rfl j2),.inr (aC rfl rfl j3),.inr rfl,.inr rfl,.inr (aC rfl rfl i1),.inr (aC rfl rfl i2),.inr (aC rfl rfl i3),trivial⟩,by decide,jP _⟩ ?_
 (repeat' (first|refine wS ?_|(refine rg 10 (mW rfl (vV (by exact eT T rfl rfl rfl rfl) ?_));refine bT [5,6,7,8,9] rfl rfl (s2) rfl rfl (by decide) ⟨.inr rfl,.inr rfl,.inr (aC rfl rfl i1),.inr (aC rfl rfl i2),.inr (aC rfl rfl i3),trivial⟩ (by simp) rfl ?_;refine aV ?_)|refine nZ ?_));all_goals try omega
 refine fF [(2,.ptr 0 0),(5,.b true),(9,.b true),(10,.i 0)] (GF D V3) ⟨[5,6,10,8,11],rfl,(by repeat first|exact trivial|refine ⟨rfl,?_⟩),⟨.inr rfl,.inr rfl,.inr (aC rfl (bB _ l1) l1),.inr (aC rfl (bB _ l2) l2),.inr (aC rfl (bB _ l3) l3),trivial⟩,by decide,jP _⟩ ?_
 (repeat' (first|refine wS ?_|(refine rg 11 (mW rfl (vV (by exact eT T rfl rfl rfl rfl) ?_));refine bT [0,1,2,3,4] rfl rfl (s3) rfl rfl (by decide) ⟨.inr rfl,.inr rfl,.inr (aC rfl rfl l1),.inr (aC rfl rfl l2),.inr (aC rfl rfl l3),trivial⟩ (by simp) rfl ?_;refine aV ?_)|refine nZ ?_));all_goals try omega
 refine fF [(2,.ptr 0 0),(5,.b true),(9,.b true),(10,.i 0),(11,.i 0)] (GF D V4) ⟨[0,1,5,3,6],rfl,(by repeat first|exact trivial|refine ⟨rfl,?_⟩),⟨.inr rfl,.inr rfl,.inr (aC rfl (bB _ m1) m1),.inr (aC rfl (bB _ m2) m2),.inr (aC rfl (bB _ m3) m3),trivial⟩,by decide,jP _⟩ ?_
 (repeat' (first|refine wS ?_|(refine rg 12 (mW rfl (vV (by exact eH rfl rfl q7 (.cons (fX rfl rfl rfl rfl rfl rfl rfl rfl) (.cons (.v _) .nil)) rfl rfl) ?_));refine mW rfl (xW rfl (xW rfl (aV ?_))))|refine nZ ?_));all_goals try omega
 (repeat' (first|refine wR ?_|(refine rg 13 (dJ rfl (yN rfl (pW rfl (mW rfl (yN rfl (yV (fB rfl rfl) (pW rfl (mW rfl (yM ?_)))))))));refine yV (fB rfl rfl) (pW rfl (mW rfl (yN rfl (gT (cO (by exact gH rfl rfl q8 (.inl ⟨.cons (fX rfl rfl rfl rfl rfl rfl rfl rfl) (.cons (.v _) .nil),rfl⟩)) rfl ?_)))));refine nI 93 rfl rfl rfl rfl ?_;refine gT (cO (by exact bG T rfl rfl (by decide) (by decide) rfl rfl rfl) rfl ?_);refine nI 94 rfl rfl rfl rfl ?_;refine yV (kC (t1)) (pW rfl (mW rfl (yN rfl (gT (cO (by exact gH rfl rfl q9 (.inl ⟨.cons (fX rfl rfl rfl rfl rfl rfl rfl rfl) (.cons (.v _) .nil),rfl⟩)) rfl ?_)))));refine nI 99 rfl rfl rfl rfl ?_;refine gT (cO (by exact bG T rfl rfl (by decide) (by decide) rfl rfl rfl) rfl ?_);refine nI 100 rfl rfl rfl rfl ?_;refine yV (kC (t2)) (pW rfl (mW rfl (yN rfl (yV (dS rfl) (pW rfl (aV ?_)))))))|refine nZ ?_));all_goals try omega
 all_goals exact rQ
end Go.Proofs.Q
namespace Go.Ld
open Go.Ab Go.Proofs.Q
theorem V7.nids {c:Cx}{l:List En}{k:Nat}{t:Tr}{x:Sd}(h:V7 c l k t) (hn:c.bs.length≤6) (hx:x∈t.sales):(jM c t.seen x).length≤1000:=by
 obtain ⟨sb,sn,lk,ru⟩:=h.tr.sd x hx;obtain ⟨g,hg,hgm,hbg⟩:=ER (lk.gk.mid.find sb);have hwl:=lk.gk.mid.wl g hgm;refine bL (eZ _ _) ?_;unfold K1;rw [hg];exact bL (Q2 (g:=g) (i:=g.1.idxOf x.s.b)) hwl
end Go.Ld
namespace Go.Proofs.Q
open Go Go.Ab Go.Ld
attribute [local irreducible] VC AW bW aM iU wD
theorem yK9 (n:Nat) (hn:n≤17592186043904):aM Tryz.prog 28 [.i (n:Int)] [] (.rowE (ints (nats (List.range n))) 1) []:=
 kZ (by simp) (eX (bF _)) (yY6 n hn)
end Go.Proofs.Q
namespace Go.Ld
open Go.Ab Go.Wr Go.Proofs.Q
def rP (l:List UInt8):List UInt8:=Go.Lib.itoa l.length++58::(l++[44])
abbrev N3 (s:Ev):SG:=(s.k,s.a,s.b,s.n,s.ids)
def N6:tE→List UInt8
 | .see s=>fY 0++rP (jV (N3 s))
 | .sell x=>fY 1++fY x.t++fY x.o++fY x.b++fY x.n
def tU (O:List tE):List UInt8:=(O.map N6).flatten
def uE (O:List tE):List UInt8:=fY O.length++tU O
def C4:tE→Prop
 | .see s=>xA3 (N3 s)∧s.ids.length≤12
 | .sell x=>V8 x.t∧V8 x.o∧V8 x.b∧V8 x.n
theorem H4 (l:List UInt8) (h:l.length≤1000000):(rP l).length≤l.length+23:=by
 have:=yQ (n:=(l.length:Int)) ⟨by omega,by omega⟩
 unfold rP;simp only [aD,List.length_cons,List.length_nil];omega
theorem N9 {x:SG}(h:xA3 x) (hl:x.2.2.2.2.length≤12):(jV x).length≤400:=by
 have l1:=gL h.k;have l2:=gL h.a;have l3:=gL h.b;have l4:=gL h.n;have l5:=IA h.ids (by omega)
 unfold jV;simp only [aD];omega
theorem QH {o:tE}(h:C4 o):(N6 o).length≤500:=by
 have i0:=gL (n:=0) ⟨by decide,by decide⟩
 have i1:=gL (n:=1) ⟨by decide,by decide⟩
 cases o with
 | see s=>
  have h1:=N9 h.1 h.2;have h2:=H4 (jV (N3 s)) (by omega)
  unfold N6;simp only [aD];omega
 | sell x=>
  obtain ⟨a,b,d,e⟩:=h;have l1:=gL a;have l2:=gL b;have l3:=gL d;have l4:=gL e;unfold N6;simp only [aD];omega
theorem FD {O:List tE}(h:∀ o,o∈O→C4 o):(tU O).length≤500*O.length:=by
 induction O with
 | nil=>simp [tU]
 | cons o O ih=>
  have h1:=QH (h o aR);have h2:=ih fun o ho=>h o (aH _ ho);unfold tU at h2 ⊢;rw [List.map_cons,dZ,aD,List.length_cons];omega
theorem zA1 {O:List tE}{k:Nat}(h:k<O.length):tU (O.take (k+1))=tU (O.take k)++N6 O[k]:=by
 unfold tU;rw [aL h,bU,fE];show _++(N6 O[k]++[])=_;rw [List.append_nil]
theorem zA2 {O:List tE}{k:Nat}(h:k<O.length):tU (O.drop k)=N6 O[k]++tU (O.drop (k+1)):=by
 unfold tU;rw [aP h,List.map_cons,dZ]
def KT (O:List tE) (k:Nat):Nat:=((O.take k).filterMap tE.ev).length
def Q4 (O:List tE) (k:Nat):Nat:=((O.take k).filterMap tE.sl).length
theorem yL2 {β:Type}(f:tE→Option β){O:List tE}{k:Nat}{b:β}(h:k<O.length) (hf:f O[k]=some b):(O.filterMap f)[((O.take k).filterMap f).length]? = some b∧((O.take (k+1)).filterMap f).length=((O.take k).filterMap f).length+1:=by
 constructor
 ·conv=>lhs;rw [← bK k O,MO]
  rw [aF (by simp)]
  simp only [bK,eI];rw [aP h,kJ hf];rfl
 ·rw [aL h,MO,kJ hf];simp
theorem yL1 {β:Type}(f:tE→Option β){O:List tE}{k:Nat}(h:k<O.length) (hf:f O[k]=none):((O.take (k+1)).filterMap f).length=((O.take k).filterMap f).length:=by
 rw [aL h,MO,BR hf];simp
end Go.Ld
namespace Go.Proofs.Q
open Go Go.Ab Go.Wr Go.Ld
attribute [local irreducible] VC AW bW aM iU wD
theorem yM4 {n:Int}(h:V8 n) (h0:0≤n):aM Tryz.prog 49 [.i n] [] (.s (fY n)) []:=by
 have hc:=uB h;refine bS T Tryz.func49 rfl rfl rfl rfl ?_
 (repeat' (first|refine wS ?_|refine wK ?_|refine wR ?_|(refine wC rfl ?_ ?_<;>(intro hb;(try simp only [nm] at hb);try omega))|(refine rg 0 (aV ?_))|(refine rg 1 (mW rfl (vV (aK rfl rfl) ?_)))|(refine rg 3 (mW rfl (vV (kC (hc)) (aV ?_))))|refine nZ ?_));all_goals first|omega | exact rQ
theorem WT (l:List Bool):∀ e,e∈uT l→e.length=1:=by intro e he;obtain ⟨n,_,rfl⟩:=bD.1 he;rfl
theorem zV6 (l:List UInt8) (hl:l.length≤1000000):aM Tryz.prog 51 [.s l] [] (.s (rP l)) []:=by
 have hc:=EL (n:=(l.length:Int)) ⟨by omega,by omega⟩
 have hi:=yQ (n:=(l.length:Int)) ⟨by omega,by omega⟩
 have e:rP l=Go.Lib.itoa (l.length:Int)++[58]++l++[44]:=by unfold rP;simp
 rw [e];generalize Go.Lib.itoa (l.length:Int)=b at *;refine bS T Tryz.func51 rfl rfl rfl rfl ?_
 (repeat' (first|refine wS ?_|refine wR ?_|(refine rg 0 (aV ?_))|(refine rg 1 (mW rfl (vV (tC mS rfl) (vV (kC (hc)) (vV (mE rfl rfl (by simp only [aD,List.length_cons,List.length_nil];omega)) ?_))));refine mW rfl (vV (mE rfl rfl (by simp only [aD,List.length_cons,List.length_nil];omega)) ?_);refine vV (mE rfl rfl (by simp only [aD,List.length_cons,List.length_nil];omega)) ?_;refine aV ?_)|refine nZ ?_));all_goals exact rQ
theorem zY8 (l r:List UInt8) (hl:l.length≤1000000) (hr:r.length≤100000000):aM Tryz.prog 88 [.ptr 0 0] [.cells [.s (rP l++r),.b false]] (.s l) [.cells [.s r,.b false]]:=by
 have htl:=H4 l hl;have hn:=Q3 (some (rP l++r)) 58 0 (by show (rP l++r).length≤_;rw [aD];omega)
 have e:rP l++r=Go.Lib.itoa (l.length:Int)++58::(l++44::r):=by unfold rP;simp
 have e1:nM (some (rP l++r)) 58 0=((l.length:Int),some (l++44::r)):=by
  rw [e];exact uY (CE ⟨by omega,by omega⟩ (by omega) (by decide))
 rw [e1] at hn;change aM _ _ [.ptr 0 0,.v (.int .u8 58),.i 0] [.cells [.s (rP l++r),.b false]] (.i (l.length:Int)) [.cells [.s (l++44::r),.b false]] at hn;have hc:=QK 44 r false;have hlr:(l++44::r).length=l.length+r.length+1:=by simp;omega
 have s1:((l++44::r).take ((l.length:Int)).toNat).drop (0:Int).toNat=l:=by simp
 have s2:((l++44::r).take (((l++44::r).length:Nat):Int).toNat).drop ((l.length:Int)).toNat=44::r:=by simp only [bI,cM,tZ]
 generalize rP l++r=tb at *;refine bS T Tryz.func88 rfl rfl rfl rfl ?_
 (repeat' (first|refine wS ?_|refine wK ?_|refine wR ?_|refine wU ?_|(refine wC rfl ?_ ?_<;>(intro hb;(try simp only [nm] at hb);try omega))|(refine rg 0 (aV ?_))|(refine rg 1 (mW rfl (bT [0] rfl rfl (hn) rfl rfl (by decide) ⟨.inr rfl,trivial⟩ (by simp) rfl ?_));refine aV ?_)|(refine rg 2 (dJ rfl (nV ?_));refine iK T rfl (vV (tC mS rfl) (vV (fK rfl rfl) ?_)))|(refine rg 5 (mW rfl (nV ?_));refine iK T rfl (mW rfl (vV (by exact iL mS rfl rfl rfl (by omega) (by omega) (by omega) s1) ?_));refine aV ?_)|(refine rg 6 (dJ rfl (nV ?_));refine iK T rfl (mW rfl (vV (by exact iL mS rfl rfl rfl (by omega) (by omega) (by omega) s2) ?_));refine nV ?_;refine fW T rfl (bC T rfl rfl rfl rfl rfl rfl (by decide) rfl ?_))|(refine rg 7 (mW rfl (bT [0] rfl rfl (hc) rfl rfl (by decide) ⟨.inr rfl,trivial⟩ (by simp) rfl ?_)))|(refine rg 8 (mW rfl (nV ?_));refine GD T ?_)|(refine rg 10 (mW rfl (aV ?_)))|refine nZ ?_));all_goals first|omega | exact ⟨.inl rfl,[0],_,rfl,rfl,rfl,⟨.inr rfl,trivial⟩,by decide,uN⟩
theorem zE2 (c:Cx) (t:Tr) (O:List tE) (h:XC O t) (hf:∀ o,o∈O→C4 o) (hl:O.length≤1000):aM Tryz.prog 26 [.pr (GB c t) 0] [] (.s (uE O)) []:=by
 have hol:t.ord.length=O.length:=by rw [h.ord,aU]
 have hbl:=A7 t.ord;have c0:=yM4 (n:=(O.length:Int)) ⟨by omega,by omega⟩ (by omega)
 have i0:=gL (n:=(O.length:Int)) ⟨by omega,by omega⟩
 have z0:=uB (n:=0) ⟨by decide,by decide⟩
 have z1:=uB (n:=1) ⟨by decide,by decide⟩
 have y0:=gL (n:=0) ⟨by decide,by decide⟩
 have y1:=gL (n:=1) ⟨by decide,by decide⟩
 refine bS T Tryz.func26 rfl rfl rfl rfl ?_;rw [← hol,← hbl] at c0
 (repeat' (first|refine wS ?_|refine wB ?_|(refine rg 0 (aV ?_))|(refine rg 1 (mW rfl (nV ?_));refine iK T rfl (qW T rfl (vV (kC (c0)) (aV ?_))))|(refine cH (id:=2) 72 [[],[0],[0,1],[0,1,2],[],[4],[4,5],[4,5,6],rN 4] [15,16,17,18,19,20,21,22,4] [[],[],[],[],rM 15 4,rM 15 4,rM 15 4,rM 15 4,rM 19 4] cP rfl (by decide +kernel) (dN rfl (dV rfl (by exact cF rfl rfl) ?_));refine dP T rfl (dO T rfl (dN rfl (dV rfl (by exact cF rfl rfl) ?_)));refine dP T rfl (dO T rfl (dV rfl (eD rfl) (dE ?_)));refine aV ?_)|(refine rg 3 (mW rfl (nV ?_));refine iK T rfl (qW T rfl (mV ?_)))|refine nZ ?_));all_goals try omega
 rw [hbl,hol];have h00:fY O.length++tU (O.take 0)=fY O.length:=by simp [tU]
 refine dI (X:={k:Nat // k≤O.length}) (fun k=>[(3,.s (fY O.length++tU (O.take k.1))),(4,.rowE (nQ (t.seen.drop (KT O k.1))) 5),(5,.rowE (rG c (t.sales.drop (Q4 O k.1))) 6),(26,.rowE (uT t.ord) 1),(27,.i (O.length:Int)),(28,.i (k.1:Int))]) (fun _=>[]) (fun k=>O.length-k.1) ⟨0,bZ _⟩ ⟨[],rfl,(by dsimp only;rw [h00];(repeat (first|exact trivial|refine ⟨rfl,?_⟩))),trivial,eM,jP _⟩ ?_
 rintro ⟨k,hk⟩;dsimp only;have hel:=FD (O:=O.take k) fun o ho=>hf o (eJ ho);rw [aY] at hel;by_cases hlt:k<O.length
 ·have qo:(uT t.ord)[(k:Int).toNat]? = some [.b (O[k].isSell)]:=by rw [bI,h.ord,bN,bN,aB hlt];rfl
  have he:=zA1 hlt;have hfo:=hf _ (aO hlt);have hx1:=fun s hs=>yL2 tE.ev (b:=s) hlt hs;have hx2:=fun hs=>yL1 tE.ev hlt hs
  have hx3:=fun s hs=>yL2 tE.sl (b:=s) hlt hs;have hx4:=fun hs=>yL1 tE.sl hlt hs
  change ∀ s,_→_∧KT O (k+1)=KT O k+1 at hx1;change _→KT O (k+1)=KT O k at hx2;change ∀ s,_→_∧Q4 O (k+1)=Q4 O k+1 at hx3;change _→Q4 O (k+1)=Q4 O k at hx4;have hE0:=QH hfo;generalize O[k]=o at *;cases o with
  | see s=>
   obtain ⟨q1,q2⟩:=hx1 s rfl;have q3:=hx4 rfl;rw [← h.seen] at q1;change t.seen[KT O k]? = some s at q1;obtain ⟨q1a,q1b⟩:=aA.1 q1;have hd:t.seen.drop (KT O k)=s::t.seen.drop (KT O (k+1)):=by rw [q2,aP q1a,q1b]
   have hbs:=QS hfo.1 (by have:=hfo.2;show s.ids.length≤1000000;omega)
   have hbl2:=N9 hfo.1 hfo.2;have hwt:=zV6 (jV (N3 s)) (by omega)
   have htl:=H4 (jV (N3 s)) (by omega)
   change tU (O.take (k+1))=tU (O.take k)++(fY 0++rP (jV (N3 s))) at he;rw [hd];generalize rP (jV (N3 s))=tb at *;generalize jV (N3 s)=sb at *;generalize tU (O.take k)=eb at *;generalize fY 0=b0 at *;generalize fY O.length=bn at *;generalize hS1:t.seen.drop (KT O (k+1))=S1 at *;obtain ⟨sk,sa,sbb,sn,sids⟩:=s;have qv:(nQ (⟨sk,sa,sbb,sn,sids⟩::S1))[(0:Int).toNat]? = some [.i sk,.i sa,.i sbb,.i sn,.rowE (Go.Ab.ints sids) 1]:=rfl;have qn:(nQ (⟨sk,sa,sbb,sn,sids⟩::S1)).length=S1.length+1:=by simp
   (repeat' (first|refine wS ?_|refine wB ?_|refine wK ?_|refine wE ?_|refine wT ?_|(refine wC rfl ?_ ?_<;>(intro hb;(try simp only [nm] at hb);try omega))|(refine rg 4 (vV (aK rfl rfl) ?_))|(refine rg 5 (vV (ix T rfl (by omega) (WT _) qo) (lW T rfl (aV ?_))))|(refine rg 6 (mW rfl (vV (dS rfl) ?_)))|(refine cH (id:=7) 72 [[],[],[],[2],[2,3],rM 1 4,rM 1 5,rM 1 6,rN 8] (rM 34 9) [[],[34],[34,35],[34,35],[34,35],[34],[34],[34],[]] cP rfl (by decide +kernel) (dN rfl (dV rfl (kC (z0)) (dN rfl (dV rfl (ix T rfl (by omega) (tD _) qv) (dO T rfl (dV rfl (kC (hbs)) (dV rfl (kC (hwt)) (dV rfl (mE rfl rfl (by omega)) (dV rfl (mE rfl rfl (by (simp only [aD];omega))) ?_)))))))));refine dE ?_;refine aV ?_)|(refine rg 8 (mW rfl (vV (by exact xM T rfl rfl rfl rfl rfl (by dsimp only;omega) (tD _)) ?_));refine aV ?_)|(refine rg 12 (vV (cK rfl rfl (by omega) (by omega)) (mV ?_)))|refine nZ ?_));all_goals try omega
   all_goals exact ⟨⟨k+1,hlt⟩,by dsimp only;omega,⟨[],rfl,(by dsimp only;rw [hS1,he,q3,← bM bn eb];(repeat (first|exact trivial|refine ⟨rfl,?_⟩))),trivial,eM,jP _⟩⟩
  | sell x=>
   obtain ⟨q1,q2⟩:=hx3 x rfl;have q3:=hx2 rfl;rw [← h.sales] at q1;change (t.sales.map (·.s))[Q4 O k]? = some x at q1;rw [bN] at q1;obtain ⟨y,q0,rfl⟩:=fD.1 q1;clear q1;obtain ⟨q1a,q1b⟩:=aA.1 q0;have hd:t.sales.drop (Q4 O k)=y::t.sales.drop (Q4 O (k+1)):=by rw [q2,aP q1a,q1b]
   obtain ⟨f1,f2,f3,f4⟩:=hfo;have w1:=uB f1;have w2:=uB f2;have w3:=uB f3;have w4:=uB f4;have v1:=gL f1;have v2:=gL f2;have v3:=gL f3;have v4:=gL f4;change tU (O.take (k+1))=tU (O.take k)++(fY 1++fY y.s.t++fY y.s.o++fY y.s.b++fY y.s.n) at he;obtain ⟨⟨xt,xo,xb,xn⟩,yg,ym⟩:=y;dsimp only at *;rw [hd];generalize hS1:t.sales.drop (Q4 O (k+1))=S1 at *;generalize tU (O.take k)=eb at *;generalize fY 1=b0 at *;generalize fY xt=b1 at *;generalize fY xo=b2 at *;generalize fY xb=b3 at *;generalize fY xn=b4 at *;generalize fY O.length=bn at *;have qv:(rG c (⟨⟨xt,xo,xb,xn⟩,yg,ym⟩::S1))[(0:Int).toNat]? = some [.i xt,.i xo,.i xb,.i xn,.pr (jY c yg) 0,.i (ym:Int)]:=rfl;have qn:(rG c (⟨⟨xt,xo,xb,xn⟩,yg,ym⟩::S1)).length=S1.length+1:=by simp
   (repeat' (first|refine wS ?_|refine wB ?_|refine wK ?_|refine wU ?_|(refine wC rfl ?_ ?_<;>(intro hb;(try simp only [nm] at hb);try omega))|(refine rg 4 (vV (aK rfl rfl) ?_))|(refine rg 5 (vV (ix T rfl (by omega) (WT _) qo) (lW T rfl (aV ?_))))|(refine rg 6 (mW rfl (vV (dS rfl) ?_)))|(refine rg 9 (mW rfl (vV (ix T rfl (by omega) (P8 _ _) qv) (iK T rfl (cO (cN T rfl) rfl (bC T rfl rfl rfl rfl rfl rfl (by decide) rfl ?_))))))|refine nZ ?_));all_goals try omega
   refine iG 8 (cs:=[.i xt,.i xo,.i xb,.i xn]) rfl rfl rfl ?_
   (repeat' (first|(refine cH (id:=10) 72 [[],[],[],[2],[1,2,3],rM 1 4,[],[6],[1,2,3,4,6,7],rM 1 8,[],[10],[1,2,3,4,6,7,8,10,11],rM 1 12,[],[14],[1,2,3,4,6,7,8,10,11,12,14,15],rM 1 16,rN 18] (rM 49 19) [[],[49],[49,50],[49,50],[49],[49],rM 49 6,rM 49 6,[49,54],[49],rM 49 10,rM 49 10,[49,54,58],[49],rM 49 14,rM 49 14,[49,54,58,62],[49],[]] cP rfl (by decide +kernel) (dN rfl (dV rfl (kC (z1)) (dP T rfl (dO T rfl (dV rfl (kC (w1)) (dV rfl (mE rfl rfl (by omega)) (dP T rfl (dO T rfl (dV rfl (kC (w2)) ?_)))))))));refine dV rfl (mE rfl rfl (by (simp only [aD];omega))) ?_;refine dP T rfl (dO T rfl (dV rfl (kC (w3)) (dV rfl (mE rfl rfl (by (simp only [aD];omega))) ?_)));refine dP T rfl (dO T rfl (dV rfl (kC (w4)) (dV rfl (mE rfl rfl (by (simp only [aD];omega))) ?_)));refine dV rfl (mE rfl rfl (by (simp only [aD];omega))) ?_;refine dE ?_;refine aV ?_)|(refine rg 11 (mW rfl (vV (by exact xM T rfl rfl rfl rfl rfl (by dsimp only;omega) (P8 _ _)) ?_));refine aV ?_)|(refine rg 12 (vV (cK rfl rfl (by omega) (by omega)) (mV ?_)))|refine nZ ?_));all_goals try omega
   all_goals exact ⟨⟨k+1,hlt⟩,by dsimp only;omega,⟨[],rfl,(by dsimp only;rw [hS1,he,q3,← bM bn eb];(repeat (first|exact trivial|refine ⟨rfl,?_⟩))),trivial,eM,jP _⟩⟩
 ·obtain rfl:k=O.length:=by omega
  rw [cM] at *
  (repeat' (first|refine wS ?_|refine wR ?_|refine wE ?_|(refine wC rfl ?_ ?_<;>(intro hb;(try simp only [nm] at hb);try omega))|(refine rg 4 (vV (aK rfl rfl) ?_))|(refine rg 13 (mW rfl (aV ?_)))|refine nZ ?_));all_goals first|omega | exact rQ
end Go.Proofs.Q
namespace Go.Ab
open Go
theorem BW {P:Program}{n:Nat × Nat}{ops:Array Oper}{rest:List Oper}{env:eG}{h:Hp}{K:eG→Hp→Prop}(env':eG) (h':Hp) (hs:MF n.2 env h env' h') (hv:VC P n ops rest env' h' K):VC P n ops rest env h K:=fun c ρ S a w Q s hQ=>by
 obtain ⟨ρ',s'⟩:=s.sub hs;exact hv c ρ' S a w Q s' hQ
end Go.Ab
namespace Go.Ld
open Go.Ab Go.Wr Go.Proofs.Q
abbrev MT (r:List UInt8):AB:=.cells [.s r,.b false]
abbrev yN1 (c:Cx) (t:Tr) (r:List UInt8):Hp:=[.cells [.rowE (kE c.ls) 3,.rowE (fL c.bs) 3,.ptr 1 0,.sl 6 0 t.seen.length 5,.sl 3 0 t.sales.length 6,.sl 7 0 t.ord.length 1],.cells (jY c t.gs),.gone,.arr (rG c t.sales) 6,.gone,MT r,.arr (nQ t.seen) 5,.arr (uT t.ord) 1]
abbrev zX0 (c:Cx) (t:Tr) (r:List UInt8):Hp:=[.cells [.rowE (kE c.ls) 3,.rowE (fL c.bs) 3,.ptr 1 0,.sl 2 0 t.seen.length 5,.sl 6 0 t.sales.length 6,.sl 7 0 t.ord.length 1],.cells (jY c t.gs),.arr (nQ t.seen) 5,.gone,.gone,MT r,.arr (rG c t.sales) 6,.arr (uT t.ord) 1]
theorem zL1:∀ i:Nat,i<6→([0,1,2,3,4,5]:List Nat)[i]? = some i:=by decide
theorem yP9 (a b:Nat):∀ i:Nat,i<6→([0,1,2,3,4,5,a,b]:List Nat)[i]? = some i:=by intro i hi;match i,hi with | 0,_=>rfl | 1,_=>rfl | 2,_=>rfl | 3,_=>rfl | 4,_=>rfl | 5,_=>rfl
end Go.Ld
namespace Go.Proofs.Q
open Go Go.Ab Go.Wr Go.Ld
attribute [local irreducible] VC AW bW aM iU wD
theorem yX5 (s:St) (hl:(s.getD []).length≤1000000000):aM Tryz.prog 60 [.ptr 0 0] (BL s) (.i (nM s 59 0).1) (BL (nM s 59 0).2):=by
 have hc:=Q3 s 59 0 hl;refine bS T Tryz.func60 rfl rfl rfl rfl ?_
 (repeat' (first|refine wS ?_|refine wR ?_|(refine rg 0 (aV ?_))|(refine rg 1 (mW rfl (bT [0] rfl rfl hc rfl rfl (by decide) ⟨.inr rfl,trivial⟩ (by simp) rfl ?_));refine aV ?_)|refine nZ ?_));all_goals exact ⟨.inl rfl,[0],_,rfl,rfl,rfl,⟨.inr rfl,trivial⟩,by decide,uN⟩
theorem X0 {n:Int}(h:V8 n) (r:List UInt8) (hr:r.length≤1000000):aM Tryz.prog 86 [.ptr 0 0] [MT (fY n++r)] (.i n) [MT r]:=by
 have hl:=gL h;have h1:=IP (some (fY n++r)) (by show (fY n++r).length≤_;rw [aD];omega)
 rw [yR h] at h1;exact h1
theorem zA0 (c:Cx) (t:Tr) (s:Ev) (r:List UInt8) (hc:iZ c) (h:jZ c t) (h0:(fI c t.gs s).1=0) (hf:C4 (.see s)) (hn:t.seen.length≤100000) (hm:t.ord.length≤100000) (hr:r.length≤100000) :
  aM Tryz.prog 61 [.ptr 0 0,.ptr 5 0] (NF c t [MT (N6 (.see s)++r)]) (.b true) (yN1 c ⟨(fI c t.gs s).2,t.seen++[s],t.sales,t.ord++[false]⟩ r):=by
 have hse:=JX c t s hc h (by have:=hf.2;omega) hn hm h0
 have hbl:=N9 hf.1 hf.2;have htl:=H4 (jV (N3 s)) (by omega)
 have hi:=X0 (n:=0) ⟨by decide,by decide⟩ (rP (jV (N3 s))++r) (by rw [aD];omega)
 have ht:=zY8 (jV (N3 s)) r (by omega) (by omega)
 have hrd:=zZ7 (jV (N3 s)) (by omega)
 rw [OH hf.1 (by have:=hf.2;show s.ids.length≤1000000;omega)] at hrd
 have e:N6 (.see s)++r=fY 0++(rP (jV (N3 s))++r):=by unfold N6;rw [bM]
 rw [e];generalize rP (jV (N3 s))++r=tr at *;generalize jV (N3 s)=sb at *;generalize fY 0++tr=itr at *;have j1:=cT (t.seen++[s]);have j3:=cW (t.ord++[false]);generalize (⟨(fI c t.gs s).2,t.seen++[s],t.sales,t.ord++[false]⟩:Tr)=t' at *;obtain ⟨sk,sa,sbb,sn,sids⟩:=s;change aM _ _ _ _ (.tup [.agg [.i sk,.i sa,.i sbb,.i sn,.sl 0 0 sids.length 1],.b true]) [.arr (ints sids) 1] at hrd;refine bS T Tryz.func61 rfl rfl rfl rfl ?_
 (repeat' (first|refine wS ?_|refine wB ?_|refine wT ?_|(refine rg 0 (aV ?_))|(refine rg 1 (mW rfl (bT [5] rfl rfl (hi) rfl rfl (by decide) ⟨.inr rfl,trivial⟩ (by simp) rfl ?_)))|(refine rg 2 (vV (fB rfl rfl) (aV ?_)))|(refine rg 3 (mW rfl (bT [5] rfl rfl (ht) rfl rfl (by decide) ⟨.inr rfl,trivial⟩ (by simp) rfl ?_));refine cO (by exact gH rfl rfl hrd (.inr ⟨rfl,rfl,by simp⟩)) rfl ?_;refine mW rfl (xW rfl (xW rfl (cO (cN T rfl) rfl (bC T rfl rfl rfl rfl rfl rfl (by decide) rfl (aV ?_))))))|refine nZ ?_));all_goals try omega
 refine fF [(0,.ptr 0 0),(1,.ptr 5 0),(5,.ptr 6 0),(6,.b true)] (NF c t [MT r,.cells [.i sk,.i sa,.i sbb,.i sn,.sl 7 0 sids.length 1],.arr (ints sids) 1]) ⟨[0,1,2,3,4,5,7,6],rfl,(by repeat first|exact trivial|refine ⟨rfl,?_⟩),⟨.inr rfl,.inr rfl,.inr (aC rfl rfl (cT _)),.inr (aC rfl rfl (cX _ _)),.inr (aC rfl rfl (cW _)),.inr rfl,.inr rfl,.inr (aC rfl (bB _ (bF _)) (bF _)),trivial⟩,by decide,yP9 _ _⟩ ?_
 refine nY 6 4 rfl rfl rfl (dD _).symm (eX (bF _)) ?_;refine iG 5 (cs:=C9 ⟨sk,sa,sbb,sn,sids⟩) rfl rfl rfl ?_
 (repeat' (first|refine wR ?_|(refine rg 4 (dJ rfl (yN rfl (yO T rfl (gT (bT [0,1,2,3,4] rfl rfl (hse) rfl rfl (by decide) ⟨.inr rfl,.inr rfl,.inr (aC rfl rfl (cT _)),.inr (aC rfl rfl (cX _ _)),.inr (aC rfl rfl (cW _)),trivial⟩ (by simp) rfl ?_)))));refine yV (fB rfl rfl) (pW rfl (aV ?_)))|refine nZ ?_));all_goals try omega
 all_goals exact ⟨.inl rfl,[0,1,2,3,4,5,8,9],_,rfl,rfl,rfl,⟨.inr rfl,.inr rfl,.inl rfl,.inr (aC rfl (bB _ (cX _ _)) (cX _ _)),.inl rfl,.inr rfl,.inr (aC rfl (bB _ (cT _)) (cT _)),.inr (aC rfl (bB _ (cW _)) (cW _)),trivial⟩,by decide,yP9 _ _⟩
theorem TU (c:Cx) (t:Tr) (x:Sl) (r:List UInt8) (hb:c.bs.length≤1000) (h:jZ c t) (h0:pK c t x=0) (hf:C4 (.sell x)) (hn:t.seen.length≤100000) (hm:t.ord.length≤100000) (hs:t.sales.length≤100000) (hr:r.length≤100000) :
  aM Tryz.prog 61 [.ptr 0 0,.ptr 5 0] (NF c t [MT (N6 (.sell x)++r)]) (.b true) (zX0 c (uG t x) r):=by
 have hsl:=JW c t x h hb hn hm hs;rw [if_pos h0,h0] at hsl;obtain ⟨f1,f2,f3,f4⟩:=hf;have v1:=gL f1;have v2:=gL f2;have v3:=gL f3;have v4:=gL f4;have i0:=X0 (n:=1) ⟨by decide,by decide⟩ (fY x.t++(fY x.o++(fY x.b++(fY x.n++r)))) (by simp only [aD];omega)
 have i1:=X0 f1 (fY x.o++(fY x.b++(fY x.n++r))) (by simp only [aD];omega)
 have i2:=X0 f2 (fY x.b++(fY x.n++r)) (by simp only [aD];omega)
 have i3:=X0 f3 (fY x.n++r) (by simp only [aD];omega)
 have i4:=X0 f4 r (by omega)
 have e:N6 (.sell x)++r=fY 1++(fY x.t++(fY x.o++(fY x.b++(fY x.n++r)))):=by unfold N6;simp only [bM]
 rw [e];generalize fY x.n++r=r4 at *;generalize fY x.b++r4=r3 at *;generalize fY x.o++r3=r2 at *;generalize fY x.t++r2=r1 at *;generalize fY 1++r1=r0 at *;generalize uG t x=t' at *;obtain ⟨xt,xo,xb,xn⟩:=x;dsimp only at *;refine bS T Tryz.func61 rfl rfl rfl rfl ?_
 (repeat' (first|refine wS ?_|refine wB ?_|refine wT ?_|refine wU ?_|(refine rg 0 (aV ?_))|(refine rg 1 (mW rfl (bT [5] rfl rfl (i0) rfl rfl (by decide) ⟨.inr rfl,trivial⟩ (by simp) rfl ?_)))|(refine rg 2 (vV (fB rfl rfl) (aV ?_)))|(refine rg 5 (vV (fB rfl rfl) (aV ?_)))|refine nZ ?_));all_goals try omega
 refine fF [(0,.ptr 0 0),(1,.ptr 5 0)] (NF c t [MT r1]) ⟨[0,1,2,3,4,5],rfl,(by repeat first|exact trivial|refine ⟨rfl,?_⟩),⟨.inr rfl,.inr rfl,.inr (aC rfl rfl (cT _)),.inr (aC rfl rfl (cX _ _)),.inr (aC rfl rfl (cW _)),.inr rfl,trivial⟩,by decide,zL1⟩ ?_
 (repeat' (first|refine wR ?_|(refine rg 6 (dJ rfl (bT [5] rfl rfl (i1) rfl rfl (by decide) ⟨.inr rfl,trivial⟩ (by simp) rfl ?_));refine BW [(0,.ptr 0 0),(1,.ptr 5 0),(26,.ptr 0 0),(28,.i xt)] (NF c t [MT r2]) ⟨[0,1,2,3,4,5],rfl,(by (repeat first|exact trivial|refine ⟨rfl,?_⟩)),⟨.inr rfl,.inr rfl,.inr (aC rfl rfl (cT _)),.inr (aC rfl rfl (cX _ _)),.inr (aC rfl rfl (cW _)),.inr rfl,trivial⟩,by decide,zL1⟩ ?_;(all_goals (refine mW rfl (bT [5] rfl rfl (i2) rfl rfl (by decide) ⟨.inr rfl,trivial⟩ (by simp) rfl ?_);refine BW [(0,.ptr 0 0),(1,.ptr 5 0),(26,.ptr 0 0),(28,.i xt),(30,.i xo)] (NF c t [MT r3]) ⟨[0,1,2,3,4,5],rfl,(by (repeat first|exact trivial|refine ⟨rfl,?_⟩)),⟨.inr rfl,.inr rfl,.inr (aC rfl rfl (cT _)),.inr (aC rfl rfl (cX _ _)),.inr (aC rfl rfl (cW _)),.inr rfl,trivial⟩,by decide,zL1⟩ ?_));(all_goals (refine mW rfl (bT [5] rfl rfl (i3) rfl rfl (by decide) ⟨.inr rfl,trivial⟩ (by simp) rfl ?_);refine BW [(0,.ptr 0 0),(1,.ptr 5 0),(26,.ptr 0 0),(28,.i xt),(30,.i xo),(32,.i xb)] (NF c t [MT r4]) ⟨[0,1,2,3,4,5],rfl,(by (repeat first|exact trivial|refine ⟨rfl,?_⟩)),⟨.inr rfl,.inr rfl,.inr (aC rfl rfl (cT _)),.inr (aC rfl rfl (cX _ _)),.inr (aC rfl rfl (cW _)),.inr rfl,trivial⟩,by decide,zL1⟩ ?_));(all_goals (refine mW rfl (bT [5] rfl rfl (i4) rfl rfl (by decide) ⟨.inr rfl,trivial⟩ (by simp) rfl ?_);refine BW [(0,.ptr 0 0),(1,.ptr 5 0),(26,.ptr 0 0),(28,.i xt),(30,.i xo),(32,.i xb),(34,.i xn)] (NF c t [MT r]) ⟨[0,1,2,3,4,5],rfl,(by (repeat first|exact trivial|refine ⟨rfl,?_⟩)),⟨.inr rfl,.inr rfl,.inr (aC rfl rfl (cT _)),.inr (aC rfl rfl (cX _ _)),.inr (aC rfl rfl (cW _)),.inr rfl,trivial⟩,by decide,zL1⟩ ?_));(all_goals (refine vV (by exact eT T rfl rfl rfl rfl) ?_;refine bT [0,1,2,3,4] rfl rfl (hsl) rfl rfl (by decide) ⟨.inr rfl,.inr rfl,.inr (aC rfl rfl (cT _)),.inr (aC rfl rfl (cX _ _)),.inr (aC rfl rfl (cW _)),trivial⟩ (by simp) rfl ?_;refine vV (fB rfl rfl) (aV ?_))))|refine nZ ?_));all_goals try omega
 all_goals exact ⟨.inl rfl,[0,1,2,3,4,5,6,7],_,rfl,rfl,rfl,⟨.inr rfl,.inr rfl,.inr (aC rfl (bB _ (cT _)) (cT _)),.inl rfl,.inl rfl,.inr rfl,.inr (aC rfl (bB _ (cX _ _)) (cX _ _)),.inr (aC rfl (bB _ (cW _)) (cW _)),trivial⟩,by decide,yP9 _ _⟩
theorem zW9 (c:Cx) (hc:iZ c) (hb:c.bs.length≤1000) (O:List tE) (t:Tr) (h:zL c O=some t) (hf:∀ o,o∈O→C4 o) (hl:O.length≤100) :
  aM Tryz.prog 30 [qI c.m c.st c.er c.sl,.rowE (jA c.ks) 2,.rowE (kE c.ls) 3,.rowE (fL c.bs) 3,.s (uE O)] [] (.tup [.ptr 0 0,.b true]) (GF c t):=by
 have hn:=SJ c hc;have hel:=FD hf;have il:=gL (n:=(O.length:Int)) ⟨by omega,by omega⟩
 have c0:=zJ7 (uE O);change aM _ _ _ _ _ [MT (uE O)] at c0;have hnum:=yX5 (some (uE O)) (by show (uE O).length≤_;unfold uE;rw [aD];omega)
 have e1:nM (some (uE O)) 59 0=((O.length:Int),some (tU O)):=by
  unfold uE fY;rw [bM,oD];exact uY (CE ⟨by omega,by omega⟩ (by omega) (by decide))
 rw [e1] at hnum;change aM _ _ _ [MT (uE O)] (.i (O.length:Int)) [MT (tU O)] at hnum;have hdn:=zP9 (some []);rw [decide_eq_true rfl] at hdn;change aM _ _ _ [MT []] _ [MT []] at hdn;generalize uE O=bt at *;refine bS T Tryz.func30 rfl rfl rfl rfl ?_
 (repeat' (first|refine wS ?_|(refine rg 0 (cO (dR rfl rfl) rfl (pT ?_)))|refine nZ ?_));refine iG 5 (cs:=[.i c.m,.i c.st,.i c.er,.i c.sl]) rfl rfl rfl ?_
 (repeat' (first|refine wS ?_|refine wK ?_|refine wU ?_|(refine rg 1 (lW T rfl (dJ rfl (mW rfl (cO (by exact gH rfl rfl hn (.inr ⟨rfl,rfl,by simp⟩)) rfl ?_))));refine mW rfl (xW rfl (xW rfl (pT ?_))))|(refine rg 2 (mW rfl (vV (gI rfl rfl) ?_)))|refine nZ ?_));all_goals try omega
 refine mQ 1 3 5 rfl rfl (by decide) ?_
 refine mQ 1 4 6 rfl rfl (by decide) ?_
 refine mQ 1 5 1 rfl rfl (by decide) ?_
 refine fF [(4,.s bt),(12,.ptr 0 0)] (GF c (YV c)) ⟨[1,2,3,4,5],rfl,(by repeat first|exact trivial|refine ⟨rfl,?_⟩),⟨.inr rfl,.inr rfl,.inr rfl,.inr rfl,.inr rfl,trivial⟩,by decide,jP _⟩ ?_
 (repeat' (first|refine wS ?_|refine wB ?_|(refine rg 4 (mW rfl (bT [] rfl rfl (c0) rfl rfl (by decide) trivial (by simp) rfl ?_));refine aV ?_)|(refine rg 5 (mW rfl (bT [5] rfl rfl (hnum) rfl rfl (by decide) ⟨.inr rfl,trivial⟩ (by simp) rfl ?_));refine aV ?_)|refine nZ ?_));all_goals try omega
 refine dI (X:={x:Nat × Tr // x.1≤O.length∧zL c (O.take x.1)=some x.2}) (fun x=>[(12,.ptr 0 0),(14,.ptr 5 0),(15,.i ((O.length:Int)-x.1.1))]) (fun x=>NF c x.1.2 [MT (tU (O.drop x.1.1))]) (fun x=>O.length-x.1.1) ⟨(0,YV c),bZ _,rfl⟩ ⟨[0,1,2,3,4,5],rfl,(by dsimp only;rw [show ((O.length:Int)-((0:Nat):Int))=O.length by omega];(repeat (first|exact trivial|refine ⟨rfl,?_⟩))),⟨.inr rfl,.inr rfl,.inr rfl,.inr rfl,.inr rfl,.inr rfl,trivial⟩,by decide,jP _⟩ ?_
 rintro ⟨⟨k,u⟩,hk,hu⟩;dsimp only at hk hu ⊢;obtain ⟨hT,hO⟩:=VH hc _ _ hu;have l1:u.ord.length≤100:=by rw [hO.ord,aU,aY];omega
 have l2:u.seen.length≤100:=by rw [hO.seen];exact bL (List.length_filterMap_le _ _) (by rw [aY];omega)
 have l3:u.sales.length≤100:=by rw [← aU (f:=(·.s)),hO.sales];exact bL (List.length_filterMap_le _ _) (by rw [aY];omega)
 by_cases hlt:k<O.length
 ·obtain ⟨u',hs,hu'⟩:=XX h hlt hu;have hfo:=hf _ (aO hlt);have hdr:=zA2 hlt;have hel2:=FD (O:=O.drop (k+1)) fun o ho=>hf o (eB ho);rw [dK] at hel2;rw [hdr];generalize O[k]=o at *;cases o with
  | see s=>
   simp only [sJ] at hs;split at hs
   ·rename_i h0;have he:=zA0 c u s (tU (O.drop (k+1))) hc hT h0 hfo (by omega) (by omega) (by omega)
    rw [Option.some.inj hs] at he;clear hdr;generalize hrr:tU (O.drop (k+1))=rr at *;generalize N6 (.see s)++rr=rr0 at *
    (repeat' (first|refine wS ?_|refine wB ?_|refine wK ?_|refine wU ?_|(refine wC rfl ?_ ?_<;>(intro hb;(try simp only [nm] at hb);try omega))|(refine rg 6 (mW rfl (vV (fK rfl rfl) ?_)))|(refine rg 8 (dJ rfl (bT [0,1,2,3,4,5] rfl rfl (he) rfl rfl (by decide) ⟨.inr rfl,.inr rfl,.inr (aC rfl rfl (cT _)),.inr (aC rfl rfl (cX _ _)),.inr (aC rfl rfl (cW _)),.inr rfl,trivial⟩ (by simp) rfl ?_));refine vV (dS rfl) ?_)|(refine rg 7 (mW rfl (vV (dC rfl rfl (by omega) (by omega)) (aV ?_))))|refine nZ ?_));all_goals try omega
    all_goals exact ⟨⟨(k+1,u'),hlt,hu'⟩,by dsimp only;omega,⟨[0,1,6,3,7,5],rfl,(by dsimp only;rw [show ((O.length:Int)-((k+1:Nat):Int))=(O.length:Int)-k-1 by omega];(repeat (first|exact trivial|refine ⟨rfl,?_⟩))),⟨.inr rfl,.inr rfl,.inr (aC rfl (bB _ (cT _)) (cT _)),.inr (aC rfl (bB _ (cX _ _)) (cX _ _)),.inr (aC rfl (bB _ (cW _)) (cW _)),.inr (by dsimp only;rw [hrr];rfl),trivial⟩,by decide,jP _⟩⟩
   ·exact absurd hs (by simp)
  | sell x=>
   simp only [sJ] at hs;split at hs
   ·rename_i h0;have he:=TU c u x (tU (O.drop (k+1))) hb hT h0 hfo (by omega) (by omega) (by omega) (by omega)
    rw [Option.some.inj hs] at he;clear hdr;generalize hrr:tU (O.drop (k+1))=rr at *;generalize N6 (.sell x)++rr=rr0 at *
    (repeat' (first|refine wS ?_|refine wB ?_|refine wK ?_|refine wU ?_|(refine wC rfl ?_ ?_<;>(intro hb;(try simp only [nm] at hb);try omega))|(refine rg 6 (mW rfl (vV (fK rfl rfl) ?_)))|(refine rg 8 (dJ rfl (bT [0,1,2,3,4,5] rfl rfl (he) rfl rfl (by decide) ⟨.inr rfl,.inr rfl,.inr (aC rfl rfl (cT _)),.inr (aC rfl rfl (cX _ _)),.inr (aC rfl rfl (cW _)),.inr rfl,trivial⟩ (by simp) rfl ?_));refine vV (dS rfl) ?_)|(refine rg 7 (mW rfl (vV (dC rfl rfl (by omega) (by omega)) (aV ?_))))|refine nZ ?_));all_goals try omega
    all_goals exact ⟨⟨(k+1,u'),hlt,hu'⟩,by dsimp only;omega,⟨[0,1,2,6,7,5],rfl,(by dsimp only;rw [show ((O.length:Int)-((k+1:Nat):Int))=(O.length:Int)-k-1 by omega];(repeat (first|exact trivial|refine ⟨rfl,?_⟩))),⟨.inr rfl,.inr rfl,.inr (aC rfl (bB _ (cT _)) (cT _)),.inr (aC rfl (bB _ (cX _ _)) (cX _ _)),.inr (aC rfl (bB _ (cW _)) (cW _)),.inr (by dsimp only;rw [hrr];rfl),trivial⟩,by decide,jP _⟩⟩
   ·exact absurd hs (by simp)
 ·obtain rfl:k=O.length:=by omega
  rw [cM,h] at hu;obtain rfl:=Option.some.inj hu;rw [yJ4]
  (repeat' (first|refine wS ?_|refine wK ?_|refine wR ?_|refine wE ?_|refine wU ?_|(refine wC rfl ?_ ?_<;>(intro hb;(try simp only [nm] at hb);try omega))|(refine rg 6 (mW rfl (vV (fK rfl rfl) ?_)))|(refine rg 10 (mW rfl (bT [5] rfl rfl (hdn) rfl rfl (by decide) ⟨.inr rfl,trivial⟩ (by simp) rfl ?_));refine vV (dS rfl) ?_)|(refine rg 12 (mW rfl (pT ?_)))|refine nZ ?_));all_goals try omega
  all_goals exact ⟨.inl rfl,[0,1,2,3,4],_,rfl,rfl,rfl,⟨.inr rfl,.inr rfl,.inr (aC rfl rfl (cT _)),.inr (aC rfl rfl (cX _ _)),.inr (aC rfl rfl (cW _)),trivial⟩,by decide,jP _⟩
end Go.Proofs.Q
namespace Go.Ld
open Go.Ab Go.Proofs.Q Go.Pm
def wM (c:Cx) (t:Tr) (k:Nat):Int × Bool:=match t.sales[k]? with
 | some x=>oL (jN c (jM c t.seen x))
 | none=>(0,false)
def zC5 (c:Cx) (t:Tr) (lot:Int):List Int:=nats ((List.range t.sales.length).filter fun k=>(wM c t k).2&&decide ((wM c t k).1=lot))
theorem zX7 {c:Cx}{t:Tr}{lot:Int}{k:Nat}(h:k<t.sales.length):(k:Int)∈zC5 c t lot↔(wM c t k).2=true∧(wM c t k).1=lot:=by
 unfold zC5;rw [nats,bD];constructor
 ·rintro ⟨j,hj,e⟩;obtain rfl:j=k:=by omega
  have:=(dX.1 hj).2;simpa using this
 ·intro q;exact ⟨k,dX.2 ⟨fG.2 h,by simpa using q⟩,rfl⟩
theorem zI0 {c:Cx}{t:Tr}{lot:Int}{k:Nat}(h:k<t.sales.length):(k:Int)∈X3 c t lot↔lot∈rD c t k:=by
 unfold X3;rw [nats,bD];constructor
 ·rintro ⟨j,hj,e⟩;obtain rfl:j=k:=by omega
  exact of_decide_eq_true (dX.1 hj).2
 ·intro q;exact ⟨k,dX.2 ⟨fG.2 h,decide_eq_true q⟩,rfl⟩
def yG (c:Cx) (l:List Int):Bool:=l.any fun i=>decide (uD c i<0)
theorem TF {c:Cx}{l:List Int}{k:Nat}(h:k<l.length):yG c (l.take (k+1))=(yG c (l.take k)||decide (uD c l[k]<0)):=by
 unfold yG;rw [aL h,List.any_append];simp
theorem PF {c:Cx}{l:List Int}(h:yG c l=false):mB (jN c l)=jN c l:=by
 unfold mB;rw [nC];intro a ha;obtain ⟨i,hi,rfl⟩:=U5.1 ha;have:=List.any_eq_false.1 h i hi;simpa using this
theorem zF0 {c:Cx}{l:List Int}(ne:l≠[]) :
  (oL (jN c l)).2=(decide ((mB (jN c l)).length=1) && !yG c l)∧((mB (jN c l)).length=0→yG c l=true) ∧
  ∀ lot,((oL (jN c l)).2=true∧(oL (jN c l)).1=lot)↔(lot∈mB (jN c l)∧(mB (jN c l)).length=1∧yG c l=false):=by
 have hneA:jN c l≠[]:=by
  obtain ⟨i,hi⟩:=Z9 _ ne;exact List.ne_nil_of_mem (U5.2 ⟨i,hi,rfl⟩)
 cases hn:yG c l with
 | true=>
  obtain ⟨i,hi,hlt⟩:=kX.1 hn;have hlt:uD c i<0:=of_decide_eq_true hlt;have hA:uD c i∈jN c l:=U5.2 ⟨i,hi,rfl⟩;have h0:(oL (jN c l)).2=false:=by
   rw [zV4];intro q;obtain ⟨a,ha,e⟩:=CX.1 q;rw [e] at hA;rw [bE.1 hA] at hlt;omega
  rw [h0];exact ⟨by simp,fun _=>rfl,fun lot=>by simp⟩
 | false=>
  rw [PF hn];have hall:∀ a,a∈jN c l→0≤a:=fun a ha=>by
   rw [← PF hn] at ha;exact (PE.1 ha).2
  have h1:(oL (jN c l)).2=decide ((jN c l).length=1):=by
   rw [K9,CX,decide_eq_true_eq];constructor
   ·rintro ⟨a,_,e⟩;rw [e];rfl
   ·intro q;obtain ⟨a,e⟩:=nF.1 q;exact ⟨a,hall a (by rw [e];exact bE.2 rfl),e⟩
  refine ⟨by rw [h1];simp,fun q=>absurd (fH.1 q) hneA,fun lot=>?_⟩
  rw [h1,decide_eq_true_eq];constructor
  ·rintro ⟨q,e⟩;obtain ⟨a,ea⟩:=nF.1 q;have ha:=hall a (by rw [ea];exact bE.2 rfl)
   refine ⟨?_,q,rfl⟩;unfold oL at e;rw [ea] at e ⊢;rw [if_pos ⟨rfl,ha⟩] at e;rw [← e];exact bE.2 rfl
  ·rintro ⟨hm,q,_⟩;refine ⟨q,?_⟩;obtain ⟨a,ea⟩:=nF.1 q;have ha:=hall a (by rw [ea];exact bE.2 rfl)
   unfold oL;rw [ea] at hm ⊢;rw [if_pos ⟨rfl,ha⟩,bE.1 hm];rfl
end Go.Ld
namespace Go.Ab
open Go
section
variable {P:Program}{env:eG}{h:Hp}{d:Option Nat}{ty:TypeId}{pos:String}{af:Array Edge}{g:Option (Nat × Bool)}
theorem zO0 {t t2:TypeId}{x y:Operand}{a b c e:Int}(ht:pJ P t 4) (hx:evu env x=some (.agg [.i a,.i b,.i c,.i e])) (hy:evu env y=some (.agg [.i a,.i b,.i c,.i e])) :
  bW P ⟨d,.binOp .neq t x y t2,ty,pos,af,g⟩ env h 0 (fun _=>.b false) (fun _=>[]):=by
 have:bW P ⟨d,.binOp .neq t x y t2,ty,pos,af,g⟩ env h 0 (fun _=>.b (!decide ([a,b,c,e]=[a,b,c,e]))) (fun _=>[]):=R8 ht hx hy rfl rfl;simpa using this
end
end Go.Ab
namespace Go.Proofs.Q
open Go Go.Ab Go.Ld
attribute [local irreducible] VC AW bW aM iU wD pJ
theorem yW6:pJ Tryz.prog 43 4:=by unfold pJ;kernel_rfl
theorem VD (l:List Sl):∀ e,e∈E0 l→e.length=4:=by intro e he;obtain ⟨n,_,rfl⟩:=bD.1 he;rfl
theorem NZ (l:List Sl) (hl:l.length≤1000000):aM Tryz.prog 14 [.rowE (E0 l) 4,.rowE (E0 l) 4] [] (.b true) []:=by
 have hll:=DC l;refine bS T Tryz.func14 rfl rfl rfl rfl ?_
 (repeat' (first|refine wS ?_|refine wB ?_|refine wK ?_|refine wU ?_|(refine rg 0 (aV ?_))|(refine rg 1 (mW rfl (qW T rfl (mW rfl (qW T rfl (vV (uP rfl rfl rfl) ?_))))))|(refine rg 3 (aV ?_))|refine nZ ?_));all_goals try omega
 refine dI (X:={i:Nat // i≤l.length}) (fun i=>[(0,.rowE (E0 l) 4),(1,.rowE (E0 l) 4),(5,.i (i.1:Int))]) (fun _=>[]) (fun i=>l.length-i.1) ⟨0,bZ _⟩ (gQ []) ?_;rintro ⟨i,hi⟩;dsimp only;by_cases hlt:i<l.length
 ·have q1:(E0 l)[(i:Int).toNat]? = some (yW4 l[i]):=by rw [bI,bN,aB hlt];rfl
  generalize l[i]=x at *;obtain ⟨xt,xo,xb,xn⟩:=x
  (repeat' (first|refine wS ?_|refine wB ?_|refine wK ?_|refine wU ?_|(refine wC rfl ?_ ?_<;>(intro hb;(try simp only [nm] at hb);try omega))|(refine rg 4 (dJ rfl (qW T rfl (vV (aK rfl rfl) ?_))))|(refine cH (id:=6) 26 xM8 (rM 17 9) xM9 cP rfl (by decide +kernel) (dN rfl (dN rfl (dV rfl (ix T rfl (by omega) (VD _) q1) (dO T rfl (dN rfl (dN rfl (dV rfl (ix T rfl (by omega) (VD _) q1) (dO T rfl (dV rfl (zO0 yW6 rfl rfl) ?_)))))))));refine dE ?_)|(refine iA 5 rfl rfl rfl (by omega) (by omega) ?_)|refine nZ ?_));all_goals try omega
  all_goals exact ⟨⟨i+1,hlt⟩,by dsimp only;omega,gQ []⟩
 ·(repeat' (first|refine wS ?_|refine wR ?_|refine wE ?_|(refine wC rfl (fun hb=>?_) (fun hb=>?_) <;> (((try simp only [nm] at hb);try omega)))|(refine rg 4 (dJ rfl (qW T rfl (vV (aK rfl rfl) ?_))))|(refine rg 8 (aV ?_))|(refine nZ ?_)));all_goals first|omega | exact rQ
theorem zE9 (c:Cx) (t:Tr) (lot:Int) (hc:iZ c) (h:jZ c t) (hl:t.seen.length≤100000) (hs:t.sales.length≤100000) (hids:∀ s,s∈t.seen→s.ids.length≤9223372036854775807) :
  aM Tryz.prog 24 [.pr (GB c t) 0,.i lot] [] (.sl 0 0 (zC5 c t lot).length 1) [.arr (ints (zC5 c t lot)) 1]:=by
 have hsl:=sU c t.sales
 let F:Nat→List Int:=fun k=>nats ((List.range k).filter fun k=>(wM c t k).2&&decide ((wM c t k).1=lot))
 have hF0:F 0=[]:=rfl;have hFe:F t.sales.length=zC5 c t lot:=rfl;have hFs:∀ k,F (k+1)=F k++if (wM c t k).2=true∧(wM c t k).1=lot then [(k:Int)] else []:=fun k=>by
  show nats _=nats _++_;rw [wI,rJ,nats,bU];by_cases q:(wM c t k).2=true∧(wM c t k).1=lot <;> simp [q]
 have hFl:∀ k,(F k).length≤k:=fun k=>by
  show (nats _).length≤k;rw [nats,aU];exact bL (eZ _ _) (by simp)
 rw [← hFe]
 clear_value F
 refine bS T Tryz.func24 rfl rfl rfl rfl ?_
 (repeat' (first|refine wS ?_|(refine rg 0 (aV ?_))|refine nZ ?_));all_goals try omega
 (repeat' (first|refine wS ?_|(refine rg 1 (vV (eD rfl) (oF 5 1 rfl (by decide) ?_)))|refine nZ ?_));all_goals try omega
 (repeat' (first|refine wB ?_|(refine rg 2 (mW rfl (nV ?_));refine iK T rfl (qW T rfl (mV ?_)))|refine nZ ?_));all_goals try omega
 refine dI (X:={k:Nat // k≤t.sales.length}) (fun k=>[(0,.pr (GB c t) 0),(1,.i lot),(5,.sl 0 0 (F k.1).length 1),(13,.i (rG c t.sales).length),(14,.i k.1)]) (fun k=>[.arr (ints (F k.1)) 1]) (fun k=>t.sales.length-k.1) ⟨0,bZ _⟩ ⟨[0],rfl,(by dsimp only;rw [hF0];(repeat (first|exact trivial|refine ⟨rfl,?_⟩))),⟨.inr (by dsimp only;rw [hF0];rfl),trivial⟩,by decide,jP _⟩ ?_
 rintro ⟨k,hk⟩;dsimp only;have hFl:=hFl k;have hBl:(ints (F k)).length=(F k).length:=dD _;by_cases hlt:k<t.sales.length
 ·have hx:t.sales[k]? = some t.sales[k]:=aB hlt;have hsu:=CY hc h hx hl hids;have ek:wM c t k=oL (jN c (jM c t.seen t.sales[k])):=by unfold wM;rw [hx]
  have e0:=hFs k;rw [ek] at e0;generalize (oL (jN c (jM c t.seen t.sales[k]))).1=si at *;generalize (oL (jN c (jM c t.seen t.sales[k]))).2=sb at *;clear ek;have hii:=bF (F (k+1));by_cases q:sb=true∧si=lot
  ·rw [if_pos q] at e0;obtain ⟨rfl,q2⟩:=q;have e1:ints (F (k+1))=ints (F k)++[[.i (k:Int)]]:=by rw [e0,ints,bU];rfl
   have e2:(F (k+1)).length=(F k).length+1:=by rw [e0];simp
   rw [e1] at hii;generalize ints (F k)=B at *
   (repeat' (first|refine wS ?_|refine wB ?_|refine wK ?_|refine wT ?_|(refine wC rfl ?_ ?_<;>(intro hb;(try simp only [nm] at hb);try omega))|(refine rg 3 (vV (aK rfl rfl) ?_))|(refine rg 4 (mW rfl (aV ?_)))|(refine rg 5 (dJ rfl (vV (kC (hsu)) (mW rfl (xW rfl (xW rfl (pT ?_)))))))|(refine rg 6 (dJ rfl (yN rfl (yN rfl (yV (jL rfl rfl q2) (pV ?_))))))|(refine rg 7 (dJ rfl (cO (by exact bG T rfl rfl (by decide) (by decide) rfl rfl rfl) rfl ?_));refine gJ T rfl rfl rfl rfl rfl rfl (by omega) (kK.whole rfl rfl) rfl (by simp;omega) (by simp;omega) rfl ?_;refine aV ?_)|(refine rg 8 (vV (cK rfl rfl (by omega) (by omega)) (mV ?_)))|refine nZ ?_));all_goals try omega
   all_goals exact ⟨⟨k+1,hlt⟩,by dsimp only;omega,⟨[2],rfl,(by dsimp only;rw [e2];(repeat (first|exact trivial|refine ⟨rfl,?_⟩))),⟨.inr (aC rfl (by dsimp only;rw [e1];exact jW hBl.symm) (by dsimp only;rw [e1];exact hii)),trivial⟩,by decide,jP _⟩⟩
  ·rw [if_neg q,List.append_nil] at e0;cases sb with
   | true=>
    have q2:si≠lot:=fun e=>q ⟨rfl,e⟩
    (repeat' (first|refine wS ?_|refine wB ?_|refine wK ?_|refine wU ?_|(refine wC rfl ?_ ?_<;>(intro hb;(try simp only [nm] at hb);try omega))|(refine rg 3 (vV (aK rfl rfl) ?_))|(refine rg 4 (mW rfl (aV ?_)))|(refine rg 5 (dJ rfl (vV (kC (hsu)) (mW rfl (xW rfl (xW rfl (pT ?_)))))))|(refine rg 6 (dJ rfl (yN rfl (yN rfl (yV (gR rfl rfl q2) (pV ?_))))))|(refine rg 8 (vV (cK rfl rfl (by omega) (by omega)) (mV ?_)))|refine nZ ?_));all_goals try omega
    all_goals exact ⟨⟨k+1,hlt⟩,by dsimp only;omega,⟨[0],rfl,(by dsimp only;rw [e0];(repeat (first|exact trivial|refine ⟨rfl,?_⟩))),⟨.inr (aC rfl (by dsimp only;rw [e0]) (bF _)),trivial⟩,by decide,jP _⟩⟩
   | false=>
    (repeat' (first|refine wS ?_|refine wB ?_|refine wK ?_|refine wU ?_|(refine wC rfl ?_ ?_<;>(intro hb;(try simp only [nm] at hb);try omega))|(refine rg 3 (vV (aK rfl rfl) ?_))|(refine rg 4 (mW rfl (aV ?_)))|(refine rg 5 (dJ rfl (vV (kC (hsu)) (mW rfl (xW rfl (xW rfl (pT ?_)))))))|(refine rg 6 (xC6 ?_);(iterate 3 refine gF ?_);refine pV ?_)|(refine rg 8 (vV (cK rfl rfl (by omega) (by omega)) (mV ?_)))|refine nZ ?_));all_goals try omega
    all_goals exact ⟨⟨k+1,hlt⟩,by dsimp only;omega,⟨[0],rfl,(by dsimp only;rw [e0];(repeat (first|exact trivial|refine ⟨rfl,?_⟩))),⟨.inr (aC rfl (by dsimp only;rw [e0]) (bF _)),trivial⟩,by decide,jP _⟩⟩
 ·obtain rfl:k=t.sales.length:=by omega
  (repeat' (first|refine wS ?_|refine wR ?_|refine wE ?_|(refine wC rfl ?_ ?_<;>(intro hb;(try simp only [nm] at hb);try omega))|(refine rg 3 (vV (aK rfl rfl) ?_))|(refine rg 9 (mW rfl (aV ?_)))|refine nZ ?_));all_goals try omega
  exact ⟨.inl rfl,[0],_,rfl,rfl,rfl,⟨.inr (aC rfl rfl (bF _)),trivial⟩,by decide,jP _⟩
end Go.Proofs.Q
namespace Go.Ab
open Go
section
variable {P:Program}{env:eG}{h:Hp}{d:Option Nat}{ty:TypeId}{pos:String}{af:Array Edge}{g:Option (Nat × Bool)}
theorem kH {x:Operand}{f:FuncId}{fs cs us xs:List AV}{args:List Operand}{ats:Array TypeId}{es:List (List AV)}{len sz:Nat}(hx:evu env x=some (.clo (.func f) fs cs)) (ha:C9 env args=some us)
  (hc:aM P f xs [] (.sl 0 0 len sz) [.arr es sz]) (hv:mM h (fs++us++cs) xs) (hn:len=es.length) (hr:AB.rf (.arr es sz)=true) (hi:AV.idfL es.flatten=true) :
  bW P ⟨d,.call { callee:=.value x,args:=args.toArray,argTypes:=ats },ty,pos,af,g⟩ env h 0 (fun _=>.rowE es sz) (fun _=>[]):=by
 intro ρ S a w p q hq K Q hk;have hxv:=p.evu hx;simp only [R] at hxv;obtain ⟨ys,zs,e1,h1,h2⟩:=hxv;have hall:RL S w (fs++us++cs) ρ (ys.toList++args.map a.eval++zs.toList):=iT (iT h1 (uR p ha)) h2;obtain ⟨hf,hc⟩:=hc;have hargs:=lS p.blk hv hall;have hS1w:∀ b,(S b∨lD h ρ b)→b<w.heap.size:=fun b hb=>by
  rcases hb with hb | ⟨k,x,o,_,_,hb⟩
  ·exact p.stab b hb
  ·exact p.rng k _ hb
 have hs0:HS (nX w (fun _=>none) (fun b=>S b∨lD h ρ b) []) (fun _=>none) (fun b=>S b∨lD h ρ b) [] w:=⟨fun _ _=>rfl,(fun _ _ h=>by cases h),(fun k b hb=>by simp at hb),(fun k b p hb=>by simp at hb),(fun k _ b _ _ _ hb=>by simp at hb),hS1w,nD.refl _ _,fun _ h=>h,fun _ h=>.inl h,aX _,(fun _ h=>by simp [nX] at h),p.glob.st fun _ h=>.inl h⟩
 have hcall:=hc (fun _=>none) (fun b=>S b∨lD h ρ b) w _ hs0 hargs;unfold Oper.wp;have hrun:(execOp a.eval ⟨d,.call { callee:=.value x,args:=args.toArray,argTypes:=ats },ty,pos,af,g⟩).run P w = .ok (.enter f (ys.toList++args.map a.eval++zs.toList).toArray) w:=by
  have e2:(ys++(args.toArray.map a.eval)++zs)=(ys.toList++args.map a.eval++zs.toList).toArray:=by
   apply Array.ext';simp
  simp only [execOp,resolve,e1,Deferred.ofValue,Sem.run_bind,Sem.run_pure,Result.andThen_ok,invoke];rw [e2];exact yB hf
 rw [hrun];simp only [Oper.upon];refine hcall.mono ?_;rintro e w' ⟨y,ρ',S',rfl,hs,hy⟩;simp only;have hM:∀ b,(nX w (fun _=>none) (fun b=>S b∨lD h ρ b) []).M b→w.heap.size≤b:=fun b hb=>by
  rcases hb with hb | ⟨k,x,o,hb,_⟩
  ·exact hb
  ·simp at hb
 have hext:nD (fun _=>False) w w':=hs.ext.mono fun b hb hm=>by have:=hM b hm;simp [nX] at hb;omega
 have hb0:RB S w' ρ' (ρ' 0) (.arr es sz):=yM1 hr (hs.blk 0 _ rfl);have hy0:R S w' (.sl 0 0 es.length sz) ρ' y:=by
  rw [← hn];exact zB8 ρ' _ _ rfl hy
 have hz:=JN ρ' ρ _ _ rfl (J1 hi hb0 hy0);refine hk y ρ (fun b=>S b∨∃ o,ρ' 0=some (b,o)) w' ⟨hext,rfl,fun _ _=>rfl,fun _ h=>.inl h,fun b hb=>?_,fun k r h1 h2=>by omega,fun k k' r r' h1 h2=>by omega,?_,fun j b hb=>by simp at hb⟩
 ·rcases hb with hb | ⟨o,ho⟩
  ·exact .inl hb
  ·exact .inr ⟨hM _ (hs.live 0 _ _ rfl (by simp) ho).1,hs.rng 0 _ ho⟩
 ·exact hz
end
end Go.Ab
namespace Go.Ld
open Go.Ab Go.Wr Go.Proofs.Q
theorem YA {c:Cx}{t:Tr}{lot:Int}:(X3 c t lot).length≤t.sales.length:=by
 unfold X3;rw [nats,aU];exact bL (eZ _ _) (by simp)
theorem yN7 {c:Cx}{t:Tr}{lot:Int}:(zC5 c t lot).length≤t.sales.length:=by
 unfold zC5;rw [nats,aU];exact bL (eZ _ _) (by simp)
end Go.Ld
namespace Go.Proofs.Q
open Go Go.Ab Go.Wr Go.Ld
attribute [local irreducible] VC AW bW aM iU wD RV
theorem mP:RV Tryz.prog 4:=by unfold RV;kernel_rfl
theorem xA1 {c:Cx}{l:List En}{k:Nat}{t:Tr}{O:List tE}(hc:iZ c) (hT:V7 c l k t) (hlt:k<l.length) (hb:c.bs.length≤1000) (hl:l.length≤1000) (hid2:∀ s,s∈rH l→s.ids.length≤12) (hO:zL c O=some t) (hf:∀ o,o∈O→C4 o) (hk:O.length≤k) (hfe:C4 (yO8 l[k])) :
  ∃ (t':Tr) (O':List tE) (code:Int) (AH:Hp),V7 c l (k+1) t'∧zL c O'=some t'∧(∀ o,o∈O'→C4 o)∧O'.length≤k+1∧aM Tryz.prog 11 [.ptr 0 0,.agg (yL5 l[k])] (GF c t) (.i code) AH∧((t'=t∧AH=GF c t)∨AH=D9 c t'∨AH=M3 c t'):=by
 obtain ⟨hsl,hll⟩:=hT.len;have hod:=hT.od
 have hacc:=xA2 c t l[k] hc hT.tr hb (fun hq=>by
  have:=hid2 l[k].s (bD.2 ⟨l[k],dX.2 ⟨aO hlt,by rw [hq];rfl⟩,rfl⟩)
  omega) (by omega) (by omega) (by omega)
 have hcs:((zA c t l[k]).2=t∧MC c t l[k]=GF c t)∨MC c t l[k]=D9 c (zA c t l[k]).2∨MC c t l[k]=M3 c (zA c t l[k]).2:=by
  rcases JK c t l[k] with ⟨e1,e2⟩ | ⟨_,_,_,_,_,_,e2⟩ | ⟨_,_,_,_,e2⟩
  ·exact .inl ⟨e1,e2⟩
  ·exact .inr (.inl e2)
  ·exact .inr (.inr e2)
 rcases yI7 c t l[k] with ⟨_,e⟩ | e
 ·exact ⟨(zA c t l[k]).2,O,_,_,hT.add hc hlt,by rw [e];exact hO,hf,by omega,hacc,hcs⟩
 ·refine ⟨(zA c t l[k]).2,O++[yO8 l[k]],_,_,hT.add hc hlt,by rw [W9,hO];exact e,fun o ho=>?_,by rw [aD,MN];omega,hacc,hcs⟩
  rcases bH.1 ho with ho | ho
  ·exact hf o ho
  ·rw [bE.1 ho];exact hfe
theorem zH9 (ks:List KD) (ls:List LT) (ps:List Int) (bs:List BX) (m st er sl:Int) (l:List En) (hb:bs.length≤17592186043904) (hids:∀ e,e∈l→e.s.ids.length≤9223372036854775807)
  (hf:QC l 12 4=false∨aM Tryz.prog 29 [zJ ks ls (nats (List.range bs.length)) bs,qI m st er sl,.i 6] [] (.b false) []) :
  aM Tryz.prog 4 [zJ ks ls ps bs,qI m st er sl,.rowE (FC l) 10] [] (.b true) []:=by
 have hbl:(fL bs).length=bs.length:=aU _;have hi:=yK9 bs.length hb;rw [← hbl] at hi;rw [hbl] at hi;have hsm:=HC;have hel:=N4 l;have hfe:=zP1 l 12 4 (by omega) (by omega) hids
 generalize QC l 12 4=v at *;generalize nats (List.range bs.length)=I at *;rw [← hbl] at hi;cases v
 all_goals
  first|(have hf:=hf.resolve_left (by decide))|skip
  refine bS T Tryz.func4 rfl rfl rfl rfl ?_
  (repeat' (first|refine wS ?_|(refine rg 0 (cO (dR rfl rfl) rfl (cO (dR rfl rfl) rfl (aV ?_))))|(refine rg 1 (vV (kC (hsm)) (aV ?_)))|(refine rg 2 (iK T rfl (qW T rfl (vV (kC (hi)) (fW T rfl (bC T rfl rfl rfl rfl rfl rfl (by decide) rfl ?_))))))|refine nZ ?_));refine iG 3 (cs:=[.rowE (jA ks) 2,.rowE (kE ls) 3,.rowE (ints I) 1,.rowE (fL bs) 3]) rfl rfl rfl ?_
  refine iG 4 (cs:=[.i m,.i st,.i er,.i sl]) rfl rfl rfl ?_
  (repeat' (first|refine wS ?_|refine wR ?_|refine wT ?_|(refine rg 3 (mW rfl (vV (kC (hfe)) (vV (dS rfl) (mV ?_))));(all_goals first|(refine gT (lW T rfl (gT (lW T rfl (gT (vV (kC (hf)) (gT (vV (dS rfl) ?_))))))))|(iterate 4 refine gF ?_));(all_goals (refine pV ?_)))|(refine rg 4 (mW rfl (aV ?_)))|refine nZ ?_));all_goals try omega
  all_goals exact rQ
theorem zZ5 (c:Cx) (hc:iZ c) (hn6:c.bs.length≤6) (ps:List Int) (l:List En)
  (hf:aM Tryz.prog 29 [zJ c.ks c.ls (nats (List.range c.bs.length)) c.bs,qI c.m c.st c.er c.sl,.i 6] [] (.b true) [])
  (hids:∀ e,e∈l→e.s.ids.length≤9223372036854775807) (hfew:QC l 12 4=true) (hof:∀ e,e∈l→C4 (yO8 e)) :
  aM Tryz.prog 4 [zJ c.ks c.ls ps c.bs,qI c.m c.st c.er c.sl,.rowE (FC l) 10] [] (.b true) []:=by
 have hbl:(fL c.bs).length=c.bs.length:=aU _;have hll:(kE c.ls).length=c.ls.length:=aU _;have hi:=yK9 c.bs.length (by omega)
 rw [← hbl] at hi;rw [hbl] at hi;have hsm:=HC;have hel:=N4 l;have hfe:=zP1 l 12 4 (by omega) (by omega) hids
 rw [hfew] at hfe;obtain ⟨hl16,h5,hid2⟩:=QB hfew;have hl10:=hc.f.l10;have hn:=SJ c hc;have hg0:=V7.new hc l;generalize nats (List.range c.bs.length)=I at *;rw [← hbl] at hi;refine bS T Tryz.func4 rfl rfl rfl rfl ?_
 (repeat' (first|refine wS ?_|(refine rg 0 (cO (dR rfl rfl) rfl (cO (dR rfl rfl) rfl (aV ?_))))|(refine rg 1 (vV (kC (hsm)) (aV ?_)))|(refine rg 2 (iK T rfl (qW T rfl (vV (kC (hi)) (fW T rfl (bC T rfl rfl rfl rfl rfl rfl (by decide) rfl ?_))))))|refine nZ ?_));refine iG 3 (cs:=[.rowE (jA c.ks) 2,.rowE (kE c.ls) 3,.rowE (ints I) 1,.rowE (fL c.bs) 3]) rfl rfl rfl ?_
 refine iG 4 (cs:=[.i c.m,.i c.st,.i c.er,.i c.sl]) rfl rfl rfl ?_
 (repeat' (first|refine wS ?_|refine wK ?_|refine wU ?_|(refine rg 3 (mW rfl (vV (kC (hfe)) (vV (dS rfl) (mW rfl (yO T rfl (yO T rfl (yV (kC (hf)) (yV (dS rfl) (pV ?_))))))))))|refine nZ ?_));all_goals try omega
 (repeat' (first|refine wS ?_|(refine rg 5 (lW T rfl (iK T rfl (iK T rfl (iK T rfl (cO (by exact gH rfl rfl hn (.inr ⟨rfl,rfl,by simp⟩)) rfl ?_)))));refine mW rfl (xW rfl (xW rfl (pT ?_))))|refine nZ ?_));all_goals try omega
 refine mQ 2 3 5 rfl rfl (by decide) ?_
 refine mQ 2 4 6 rfl rfl (by decide) ?_
 refine mQ 2 5 1 rfl rfl (by decide) ?_
 refine fF [(2,.rowE (FC l) 10),(3,.pr [.rowE (jA c.ks) 2,.rowE (kE c.ls) 3,.rowE (ints I) 1,.rowE (fL c.bs) 3] 0),(7,.b true),(8,.ptr 0 0),(4,.pr [.i c.m,.i c.st,.i c.er,.i c.sl] 0),(9,.i 0)] (GF c (YV c)) ⟨[2,3,4,5,6],rfl,(by repeat first|exact trivial|refine ⟨rfl,?_⟩),⟨.inr rfl,.inr rfl,.inr rfl,.inr rfl,.inr rfl,trivial⟩,by decide,jP _⟩ ?_
 (repeat' (first|refine wS ?_|refine wB ?_|refine wK ?_|refine wU ?_|(refine rg 6 (mW rfl (vV (gI rfl rfl) (mW rfl (yN rfl (yV (by exact sX OM rfl rfl rfl) ?_)))));refine pV ?_)|(refine rg 8 (aV ?_))|refine nZ ?_));all_goals try omega
 refine dI (X:={x:Nat × Tr × List tE // x.1≤l.length∧V7 c l x.1 x.2.1∧zL c x.2.2=some x.2.1∧(∀ o,o∈x.2.2→C4 o)∧x.2.2.length≤x.1}) (fun x=>[(2,.rowE (FC l) 10),(3,.pr [.rowE (jA c.ks) 2,.rowE (kE c.ls) 3,.rowE (ints I) 1,.rowE (fL c.bs) 3] 0),(7,.b true),(8,.ptr 0 0),(4,.pr [.i c.m,.i c.st,.i c.er,.i c.sl] 0),(10,.i (x.1.1:Int))]) (fun x=>GF c x.1.2.1) (fun x=>l.length-x.1.1) ⟨(0,YV c,[]),bZ _,hg0,rfl,fun o ho=>absurd ho iY,aX _⟩ ⟨[0,1,2,3,4],rfl,(by repeat first|exact trivial|refine ⟨rfl,?_⟩),⟨.inr rfl,.inr rfl,.inr rfl,.inr rfl,.inr rfl,trivial⟩,by decide,jP _⟩ ?_
 clear hsm hfe hf hi hn hg0;rintro ⟨⟨k,t,O⟩,hk,hT,hO,hfit,hOl⟩;dsimp only at hk hT hO hfit hOl ⊢;by_cases hlt:k<l.length
 ·have hg:=QG hlt;obtain ⟨t',O',code,AH,g1,g2,g3,g4,hadd,hA⟩:=xA1 hc hT hlt (by omega) (by omega) hid2 hO hfit hOl (hof _ (aO hlt))
  generalize l[k]=e at *;rcases hA with ⟨rfl,rfl⟩ | rfl | rfl
  ·(repeat' (first|refine wS ?_|refine wB ?_|refine wK ?_|(refine wC rfl (fun hb=>?_) (fun hb=>?_) <;> (((try simp only [nm] at hb);try omega)))|(refine rg 9 (dJ rfl (qW T rfl (vV (aK rfl rfl) ?_))))|(refine rg 11 (dJ rfl (mW rfl (vV (ix T rfl (by omega) (J6 _) hg) (lW T rfl (bT [0,1,2,3,4] rfl rfl (hadd) rfl rfl (by decide) ⟨.inr rfl,.inr rfl,.inr (aC rfl rfl (cT _)),.inr (aC rfl rfl (cX _ _)),.inr (aC rfl rfl (cW _)),trivial⟩ (by simp) rfl ?_))))))|(refine iA 10 rfl rfl rfl (by omega) (by omega) ?_)|(refine nZ ?_)));all_goals try omega
   all_goals exact ⟨⟨(k+1,_,O'),hlt,g1,g2,g3,g4⟩,by dsimp only;omega,⟨[0,1,2,3,4],rfl,(by repeat first|exact trivial|refine ⟨rfl,?_⟩),⟨.inr rfl,.inr rfl,.inr (aC rfl (bB _ (cT _)) (cT _)),.inr (aC rfl (bB _ (cX _ _)) (cX _ _)),.inr (aC rfl (bB _ (cW _)) (cW _)),trivial⟩,by decide,jP _⟩⟩
  ·(repeat' (first|refine wS ?_|refine wB ?_|refine wK ?_|(refine wC rfl (fun hb=>?_) (fun hb=>?_) <;> (((try simp only [nm] at hb);try omega)))|(refine rg 9 (dJ rfl (qW T rfl (vV (aK rfl rfl) ?_))))|(refine rg 11 (dJ rfl (mW rfl (vV (ix T rfl (by omega) (J6 _) hg) (lW T rfl (bT [0,1,2,3,4] rfl rfl (hadd) rfl rfl (by decide) ⟨.inr rfl,.inr rfl,.inr (aC rfl rfl (cT _)),.inr (aC rfl rfl (cX _ _)),.inr (aC rfl rfl (cW _)),trivial⟩ (by simp) rfl ?_))))))|(refine iA 10 rfl rfl rfl (by omega) (by omega) ?_)|(refine nZ ?_)));all_goals try omega
   all_goals exact ⟨⟨(k+1,t',O'),hlt,g1,g2,g3,g4⟩,by dsimp only;omega,⟨[0,1,5,3,6],rfl,(by repeat first|exact trivial|refine ⟨rfl,?_⟩),⟨.inr rfl,.inr rfl,.inr (aC rfl (bB _ (cT _)) (cT _)),.inr (aC rfl (bB _ (cX _ _)) (cX _ _)),.inr (aC rfl (bB _ (cW _)) (cW _)),trivial⟩,by decide,jP _⟩⟩
  ·(repeat' (first|refine wS ?_|refine wB ?_|refine wK ?_|(refine wC rfl (fun hb=>?_) (fun hb=>?_) <;> (((try simp only [nm] at hb);try omega)))|(refine rg 9 (dJ rfl (qW T rfl (vV (aK rfl rfl) ?_))))|(refine rg 11 (dJ rfl (mW rfl (vV (ix T rfl (by omega) (J6 _) hg) (lW T rfl (bT [0,1,2,3,4] rfl rfl (hadd) rfl rfl (by decide) ⟨.inr rfl,.inr rfl,.inr (aC rfl rfl (cT _)),.inr (aC rfl rfl (cX _ _)),.inr (aC rfl rfl (cW _)),trivial⟩ (by simp) rfl ?_))))))|(refine iA 10 rfl rfl rfl (by omega) (by omega) ?_)|(refine nZ ?_)));all_goals try omega
   all_goals exact ⟨⟨(k+1,t',O'),hlt,g1,g2,g3,g4⟩,by dsimp only;omega,⟨[0,1,2,5,6],rfl,(by repeat first|exact trivial|refine ⟨rfl,?_⟩),⟨.inr rfl,.inr rfl,.inr (aC rfl (bB _ (cT _)) (cT _)),.inr (aC rfl (bB _ (cX _ _)) (cX _ _)),.inr (aC rfl (bB _ (cW _)) (cW _)),trivial⟩,by decide,jP _⟩⟩
 obtain rfl:k=l.length:=by omega
 obtain ⟨hTr,hOps⟩:=VH hc _ _ hO;have hby:=zE2 c t O hOps hfit (by omega)
 have hrd:=zW9 c hc (by omega) O t hO hfit (by omega)
 obtain ⟨hsn0,hsl0⟩:=hT.len;have hidk:=hT.ids hid2;have hsw:=hT.swap h5;have hsal:=zD7 c t (by omega)
 have hss:=NZ (t.sales.map (·.s)) (by rw [aU];omega)
 have hsn:t.sales.length=(E0 (t.sales.map (·.s))).length:=by simp
 have rfS:AB.rf (.arr (E0 (t.sales.map (·.s))) 4)=true:=bJ.2 fun e he=>by obtain ⟨i,_,rfl⟩:=bD.1 he;rfl
 generalize uE O=bt at *
 (repeat' (first|refine wS ?_|refine wE ?_|(refine wC rfl ?_ ?_<;>(intro hb;(try simp only [nm] at hb);try omega))|(refine rg 9 (dJ rfl (qW T rfl (vV (aK rfl rfl) ?_))))|(refine cH (id:=12) 232 [[],[],[1],[],[3],[],[5],[],[7],rN 9,rN 10,rN 11,rN 11,rN 12] [70,71,72,73,74,75,76,77,78,79,69,80,81,11] [[],[70],[70],[70,71,72],[70,71,72],rM 70 5,rM 70 5,rM 70 7,rM 70 7,[],[],[],[80],[81]] cP rfl (by decide +kernel) (dO T rfl (dP T rfl (dO T rfl (dP T rfl (dO T rfl (dP T rfl (dO T rfl (dN rfl (dV rfl (by exact eH rfl rfl hby (.cons (fX rfl rfl rfl rfl rfl rfl rfl rfl) .nil) rfl rfl) ?_)))))))));refine K2 rfl rfl rfl (by exact gH rfl rfl hrd (.inr ⟨rfl,rfl,by simp⟩)) rfl ?_;refine dN rfl (dV rfl (by exact jG rfl rfl) ?_);refine dV rfl (by exact jG rfl rfl) ?_;refine dV rfl (eD rfl) (dE ?_);refine aV ?_)|refine nZ ?_));all_goals try omega
 refine fF [(3,.pr [.rowE (jA c.ks) 2,.rowE (kE c.ls) 3,.rowE (ints I) 1,.rowE (fL c.bs) 3] 0),(7,.b true),(8,.ptr 0 0),(11,.ptr 5 0),(12,.b true)] (NF c t (yK0 c t)) ⟨[0,1,2,3,4,5,6,7,8,9],rfl,(by repeat first|exact trivial|refine ⟨rfl,?_⟩),⟨.inr rfl,.inr rfl,.inr (aC rfl rfl (cT _)),.inr (aC rfl rfl (cX _ _)),.inr (aC rfl rfl (cW _)),.inr rfl,.inr rfl,.inr (aC rfl (bB _ (cT _)) (cT _)),.inr (aC rfl (bB _ (cX _ _)) (cX _ _)),.inr (aC rfl (bB _ (cW _)) (cW _)),trivial⟩,by decide,jP _⟩ ?_
 (repeat' (first|refine wS ?_|refine wB ?_|refine wK ?_|refine wU ?_|(refine rg 13 (mW rfl (vV (dS rfl) (mW rfl (yN rfl (yV (by exact sX OM rfl rfl rfl) ?_)))));refine pV ?_)|(refine rg 15 (mW rfl (vV (by exact eH rfl rfl hby (.cons (fX rfl rfl rfl rfl rfl rfl rfl rfl) .nil) rfl rfl) ?_));refine mW rfl (vV (by exact eH rfl rfl hby (.cons (fX rfl rfl rfl rfl rfl rfl rfl rfl) .nil) rfl rfl) ?_);refine vV (R9 rfl rfl rfl) (mW rfl (yN rfl (yV (by exact kH rfl rfl hsal (.cons (fX rfl rfl rfl rfl rfl rfl rfl rfl) .nil) hsn rfS (eX (H7 _))) ?_)));refine yN rfl (yV (by exact kH rfl rfl hsal (.cons (fX rfl rfl rfl rfl rfl rfl rfl rfl) .nil) hsn rfS (eX (H7 _))) ?_);refine yV (kC (hss)) (yV (dS rfl) (pV ?_)))|(refine rg 17 (aV ?_))|refine nZ ?_));all_goals try omega
 refine dI (X:={k:Nat // k≤t.sales.length}) (fun k=>[(3,.pr [.rowE (jA c.ks) 2,.rowE (kE c.ls) 3,.rowE (ints I) 1,.rowE (fL c.bs) 3] 0),(7,.b true),(8,.ptr 0 0),(11,.ptr 5 0),(13,.i (k.1:Int))]) (fun _=>NF c t (yK0 c t)) (fun k=>t.sales.length-k.1) ⟨0,bZ _⟩ ⟨[0,1,2,3,4,5,6,7,8,9],rfl,(by repeat first|exact trivial|refine ⟨rfl,?_⟩),⟨.inr rfl,.inr rfl,.inr (aC rfl rfl (cT _)),.inr (aC rfl rfl (cX _ _)),.inr (aC rfl rfl (cW _)),.inr rfl,.inr rfl,.inr (aC rfl rfl (cT _)),.inr (aC rfl rfl (cX _ _)),.inr (aC rfl rfl (cW _)),trivial⟩,by decide,jP _⟩ ?_
 clear hrd hby hss;rintro ⟨k,hk⟩;dsimp only;by_cases hlt:k<t.sales.length
 case neg=>
  (repeat' (first|refine wS ?_|refine wR ?_|refine wE ?_|(refine wC rfl ?_ ?_<;>(intro hb;(try simp only [nm] at hb);try omega))|(refine rg 18 (dJ rfl (vV (by exact kH rfl rfl hsal (.cons (fX rfl rfl rfl rfl rfl rfl rfl rfl) .nil) hsn rfS (eX (H7 _))) ?_));refine qW T rfl (vV (aK rfl rfl) ?_))|(refine rg 39 (mW rfl (aV ?_)))|refine nZ ?_));all_goals try omega
  all_goals exact rQ
 have hx:t.sales[k]? = some t.sales[k]:=aB hlt;have q1:=CY hc hTr hx (by omega) hidk
 have q2:=WF c t k hc hTr hx (by omega) hidk
 have q3:=EF hc hTr hx (by omega) hidk
 have n1:=hT.nids hn6 (aO hlt);have n2:=bL (eZ (fun a=>!decide (a<0)) _) (U4 hTr hx);change (mB (jN c (jM c t.seen t.sales[k]))).length≤1000 at n2;have ne:=hTr.some hc hn6 hsw (aO hlt);have hrg:∀ i,i∈jM c t.seen t.sales[k]→0≤i∧i<c.bs.length:=fun i hi=>(KJ hTr (aO hlt)).1 i (dX.1 hi).1;obtain ⟨p1,p2,p3⟩:=zF0 (c:=c) ne;have eS:wM c t k=oL (jN c (jM c t.seen t.sales[k])):=by unfold wM;rw [hx]
 have eL:rD c t k=mB (jN c (jM c t.seen t.sales[k])):=by unfold rD;rw [hx]
 have hre:∀ lot,(k:Int)∈X3 c t lot↔lot∈mB (jN c (jM c t.seen t.sales[k])):=fun lot=>by rw [zI0 hlt,eL]
 have hsu:∀ lot,(k:Int)∈zC5 c t lot↔(lot∈mB (jN c (jM c t.seen t.sales[k]))∧(mB (jN c (jM c t.seen t.sales[k]))).length=1∧yG c (jM c t.seen t.sales[k])=false):=fun lot=>by rw [zX7 hlt,eS,p3]
 clear p3 eS eL;generalize t.sales[k]=x at *;generalize (oL (jN c (jM c t.seen x))).1=si at *;generalize (oL (jN c (jM c t.seen x))).2=sb at *;generalize mB (jN c (jM c t.seen x))=L2 at *;generalize jM c t.seen x=L1 at *;have f1:(ints L1).length=L1.length:=dD L1;have f2:(ints L2).length=L2.length:=dD L2
 (repeat' (first|refine wS ?_|refine wB ?_|refine wK ?_|(refine wC rfl ?_ ?_<;>(intro hb;(try simp only [nm] at hb);try omega))|(refine rg 18 (dJ rfl (vV (by exact kH rfl rfl hsal (.cons (fX rfl rfl rfl rfl rfl rfl rfl rfl) .nil) hsn rfS (eX (H7 _))) ?_));refine qW T rfl (vV (aK rfl rfl) ?_))|(refine rg 20 (dJ rfl (vV (by exact kH rfl rfl q2 (.cons (fX rfl rfl rfl rfl rfl rfl rfl rfl) (.cons (.v _) .nil)) f1.symm (nL _) (eX (bF _))) ?_));refine aV ?_)|(refine rg 21 (dJ rfl (vV (by exact kH rfl rfl q3 (.cons (fX rfl rfl rfl rfl rfl rfl rfl rfl) (.cons (.v _) .nil)) f2.symm (nL _) (eX (bF _))) ?_));refine aV ?_)|(refine rg 22 (aV ?_))|(refine rg 23 (aV ?_))|refine nZ ?_));all_goals try omega
 refine dI (X:={j:Nat // j≤L1.length}) (fun j=>[(3,.pr [.rowE (jA c.ks) 2,.rowE (kE c.ls) 3,.rowE (ints I) 1,.rowE (fL c.bs) 3] 0),(7,.b true),(8,.ptr 0 0),(11,.ptr 5 0),(13,.i (k:Int)),(14,.rowE (ints L1) 1),(15,.rowE (ints L2) 1),(16,.b (yG c (L1.take j.1))),(17,.i (j.1:Int))]) (fun _=>NF c t (yK0 c t)) (fun j=>L1.length-j.1) ⟨0,bZ _⟩ ⟨[0,1,2,3,4,5,6,7,8,9],rfl,(by repeat first|exact trivial|refine ⟨rfl,?_⟩),⟨.inr rfl,.inr rfl,.inr (aC rfl rfl (cT _)),.inr (aC rfl rfl (cX _ _)),.inr (aC rfl rfl (cW _)),.inr rfl,.inr rfl,.inr (aC rfl rfl (cT _)),.inr (aC rfl rfl (cX _ _)),.inr (aC rfl rfl (cW _)),trivial⟩,by decide,jP _⟩ ?_
 rintro ⟨j,hj⟩;dsimp only;by_cases hjl:j<L1.length
 ·have v1:=mC (l:=L1) (k:=j) hjl;obtain ⟨r0,r1⟩:=hrg _ (aO hjl);have hno:=TF (c:=c) hjl;generalize L1[j]=v at *;have hbx:=WI (l:=c.bs) (i:=v.toNat) (by omega)
  have qb:(fL c.bs)[v.toNat]? = some [.i (uD c v),.i (c.bs.getD v.toNat (0,0,0)).2.1,.i (c.bs.getD v.toNat (0,0,0)).2.2]:=by rw [bN,hbx];rfl
  generalize yG c (L1.take j)=nb at *;generalize hnb:yG c (L1.take (j+1))=nb' at *;generalize uD c v=lv at *;cases nb with
  | true=>
   rw [Bool.true_or] at hno;subst hno
   (repeat' (first|refine wS ?_|refine wB ?_|refine wK ?_|refine wT ?_|refine wU ?_|(refine rg 24 (dJ rfl (qW T rfl (vV (S4 rfl rfl (by omega)) ?_))))|(refine cH (id:=26) 232 xN6 (rM 120 15) xN7 cP rfl (by decide +kernel) (dN rfl (dN rfl (dV rfl (ix T rfl (by omega) (dY L1) v1) (dO T rfl (dV rfl (S6 rfl rfl (by omega)) (dN rfl (tN rfl (tN rfl (dT rfl (ix T rfl (by omega) (dY L1) v1) ?_)))))))));refine tO T rfl (tP T rfl (tO T rfl (dT rfl (mZ T rfl rfl) (dT rfl (LG rfl rfl (by omega)) (dV rfl (iM rfl rfl) (dE ?_)))))))|(refine cH (id:=28) 232 xN8 (rM 135 13) xN9 cP rfl (by decide +kernel) (dN rfl (dN rfl (tG rfl (tG rfl (tG rfl (tG rfl (tG rfl (tG rfl (dG ?_)))))))));refine tG rfl (tG rfl (tG rfl (dV rfl (jE rfl rfl) (dE ?_))));refine aV ?_)|(refine iA 25 rfl rfl rfl (by omega) (by omega) ?_)|refine nZ ?_));all_goals try omega
   all_goals exact ⟨⟨j+1,hjl⟩,by dsimp only;omega,⟨[0,1,2,3,4,5,6,7,8,9],rfl,(by dsimp only;rw [hnb];(repeat (first|exact trivial|refine ⟨rfl,?_⟩))),⟨.inr rfl,.inr rfl,.inr (aC rfl rfl (cT _)),.inr (aC rfl rfl (cX _ _)),.inr (aC rfl rfl (cW _)),.inr rfl,.inr rfl,.inr (aC rfl rfl (cT _)),.inr (aC rfl rfl (cX _ _)),.inr (aC rfl rfl (cW _)),trivial⟩,by decide,jP _⟩⟩
  | false=>
   rw [xF1] at hno;by_cases hv:lv<0
   ·rw [decide_eq_true hv] at hno;subst hno
    (repeat' (first|refine wS ?_|refine wB ?_|refine wK ?_|refine wT ?_|refine wU ?_|(refine rg 24 (dJ rfl (qW T rfl (vV (S4 rfl rfl (by omega)) ?_))))|(refine cH (id:=26) 232 xN6 (rM 120 15) xN7 cP rfl (by decide +kernel) (dN rfl (dN rfl (dV rfl (ix T rfl (by omega) (dY L1) v1) (dO T rfl (dV rfl (S6 rfl rfl (by omega)) (dN rfl (tN rfl (tN rfl (dT rfl (ix T rfl (by omega) (dY L1) v1) ?_)))))))));refine tO T rfl (tP T rfl (tO T rfl (dT rfl (mZ T rfl rfl) (dT rfl (LG rfl rfl (by omega)) (dV rfl (iM rfl rfl) (dE ?_)))))))|(refine cH (id:=28) 232 xN8 (rM 135 13) xN9 cP rfl (by decide +kernel) (dN rfl (dN rfl (tP T rfl (tO T rfl (tN rfl (tN rfl (dT rfl (ix T rfl (by omega) (dY L1) v1) (tO T rfl (dT rfl (ix T rfl (by omega) (pF _) qb) ?_)))))))));refine tP T rfl (tO T rfl (dT rfl (S4 rfl rfl (by omega)) (dV rfl (iM rfl rfl) (dE ?_))));refine aV ?_)|(refine iA 25 rfl rfl rfl (by omega) (by omega) ?_)|refine nZ ?_));all_goals try omega
    all_goals exact ⟨⟨j+1,hjl⟩,by dsimp only;omega,⟨[0,1,2,3,4,5,6,7,8,9],rfl,(by dsimp only;rw [hnb];(repeat (first|exact trivial|refine ⟨rfl,?_⟩))),⟨.inr rfl,.inr rfl,.inr (aC rfl rfl (cT _)),.inr (aC rfl rfl (cX _ _)),.inr (aC rfl rfl (cW _)),.inr rfl,.inr rfl,.inr (aC rfl rfl (cT _)),.inr (aC rfl rfl (cX _ _)),.inr (aC rfl rfl (cW _)),trivial⟩,by decide,jP _⟩⟩
   ·rw [decide_eq_false hv] at hno;subst hno
    (repeat' (first|refine wS ?_|refine wB ?_|refine wK ?_|refine wT ?_|refine wU ?_|(refine rg 24 (dJ rfl (qW T rfl (vV (S4 rfl rfl (by omega)) ?_))))|(refine cH (id:=26) 232 xN6 (rM 120 15) xN7 cP rfl (by decide +kernel) (dN rfl (dN rfl (dV rfl (ix T rfl (by omega) (dY L1) v1) (dO T rfl (dV rfl (S6 rfl rfl (by omega)) (dN rfl (tN rfl (tN rfl (dT rfl (ix T rfl (by omega) (dY L1) v1) ?_)))))))));refine tO T rfl (tP T rfl (tO T rfl (dT rfl (mZ T rfl rfl) (dT rfl (LG rfl rfl (by omega)) (dV rfl (iM rfl rfl) (dE ?_)))))))|(refine cH (id:=28) 232 xN8 (rM 135 13) xN9 cP rfl (by decide +kernel) (dN rfl (dN rfl (tP T rfl (tO T rfl (tN rfl (tN rfl (dT rfl (ix T rfl (by omega) (dY L1) v1) (tO T rfl (dT rfl (ix T rfl (by omega) (pF _) qb) ?_)))))))));refine tP T rfl (tO T rfl (dT rfl (S6 rfl rfl (by omega)) (dV rfl (iM rfl rfl) (dE ?_))));refine aV ?_)|(refine iA 25 rfl rfl rfl (by omega) (by omega) ?_)|refine nZ ?_));all_goals try omega
    all_goals exact ⟨⟨j+1,hjl⟩,by dsimp only;omega,⟨[0,1,2,3,4,5,6,7,8,9],rfl,(by dsimp only;rw [hnb];(repeat (first|exact trivial|refine ⟨rfl,?_⟩))),⟨.inr rfl,.inr rfl,.inr (aC rfl rfl (cT _)),.inr (aC rfl rfl (cX _ _)),.inr (aC rfl rfl (cW _)),.inr rfl,.inr rfl,.inr (aC rfl rfl (cT _)),.inr (aC rfl rfl (cX _ _)),.inr (aC rfl rfl (cW _)),trivial⟩,by decide,jP _⟩⟩
 obtain rfl:j=L1.length:=by omega
 rw [cM];generalize yG c L1=none at *
 (repeat' (first|refine wS ?_|refine wB ?_|refine wE ?_|(refine wC rfl ?_ ?_<;>(intro hb;(try simp only [nm] at hb);try omega))|(refine rg 24 (dJ rfl (qW T rfl (vV (aK rfl rfl) ?_))))|(refine rg 29 (aV ?_))|refine nZ ?_));all_goals try omega
 refine dI (X:={n:Nat // n≤c.ls.length}) (fun n=>[(3,.pr [.rowE (jA c.ks) 2,.rowE (kE c.ls) 3,.rowE (ints I) 1,.rowE (fL c.bs) 3] 0),(7,.b true),(8,.ptr 0 0),(11,.ptr 5 0),(13,.i (k:Int)),(14,.rowE (ints L1) 1),(15,.rowE (ints L2) 1),(16,.b none),(18,.i (n.1:Int))]) (fun _=>NF c t (yK0 c t)) (fun n=>c.ls.length-n.1) ⟨0,bZ _⟩ ⟨[0,1,2,3,4,5,6,7,8,9],rfl,(by repeat first|exact trivial|refine ⟨rfl,?_⟩),⟨.inr rfl,.inr rfl,.inr (aC rfl rfl (cT _)),.inr (aC rfl rfl (cX _ _)),.inr (aC rfl rfl (cW _)),.inr rfl,.inr rfl,.inr (aC rfl rfl (cT _)),.inr (aC rfl rfl (cX _ _)),.inr (aC rfl rfl (cW _)),trivial⟩,by decide,jP _⟩ ?_
 rintro ⟨n,hn⟩;dsimp only;by_cases hnl:n<c.ls.length
 ·have h1:=WG L2 (n:Int) n2;have n4:=YA (c:=c) (t:=t) (lot:=(n:Int));have n5:=yN7 (c:=c) (t:=t) (lot:=(n:Int));have h2:=WG (X3 c t (n:Int)) (k:Int) (by omega)
  have h3:=WG (zC5 c t (n:Int)) (k:Int) (by omega)
  have q4:=OF c t (n:Int) hc hTr (by omega) (by omega) hidk
  have q5:=zE9 c t (n:Int) hc hTr (by omega) (by omega) hidk
  have a1:=hre (n:Int);have a2:=hsu (n:Int);have f4:(ints (X3 c t (n:Int))).length=(X3 c t (n:Int)).length:=dD _;have f5:(ints (zC5 c t (n:Int))).length=(zC5 c t (n:Int)).length:=dD _;generalize X3 c t (n:Int)=RT at *;generalize zC5 c t (n:Int)=SU at *;by_cases hin:(n:Int)∈L2
  ·rw [decide_eq_true hin] at h1;rw [decide_eq_true (a1.2 hin)] at h2;by_cases hone:L2.length=1
   ·cases none with
    | true=>
     rw [decide_eq_false (fun q=>by have:=(a2.1 q).2.2;cases this)] at h3
     subst_vars
     (repeat' (first|refine wS ?_|refine wB ?_|refine wK ?_|refine wU ?_|(refine wC rfl ?_ ?_<;>(intro hb;(try simp only [nm] at hb);try omega))|(refine rg 30 (mW rfl (iK T rfl (qW T rfl (vV (aK rfl rfl) ?_)))))|(refine rg 32 (dJ rfl (vV (kC (h1)) (aV ?_))))|(refine rg 33 (dJ rfl (vV (by exact kH rfl rfl q4 (.cons (fX rfl rfl rfl rfl rfl rfl rfl rfl) (.cons (.v _) .nil)) f4.symm (nL _) (eX (bF _))) ?_));refine mW rfl (vV (kC (h2)) (mW rfl (vV (lE mP rfl rfl) (mW rfl (yN rfl (yN rfl (yV (by exact kH rfl rfl q5 (.cons (fX rfl rfl rfl rfl rfl rfl rfl rfl) (.cons (.v _) .nil)) f5.symm (nL _) (eX (bF _))) ?_)))))));refine yN rfl (yV (kC (h3)) (yN rfl (yN rfl (yN rfl (gT (qW T rfl (yV (jL rfl rfl (by omega)) (gT (pV ?_)))))))));refine yN rfl (yN rfl (yV (dS rfl) (gT (pW rfl (yV (lE mP rfl rfl) (pV ?_)))))))|(refine iA 31 rfl rfl rfl (by omega) (by omega) ?_)|refine nZ ?_));all_goals try omega
     all_goals exact ⟨⟨n+1,hnl⟩,by dsimp only;omega,⟨[0,1,2,3,4,5,6,7,8,9],rfl,(by repeat first|exact trivial|refine ⟨rfl,?_⟩),⟨.inr rfl,.inr rfl,.inr (aC rfl rfl (cT _)),.inr (aC rfl rfl (cX _ _)),.inr (aC rfl rfl (cW _)),.inr rfl,.inr rfl,.inr (aC rfl rfl (cT _)),.inr (aC rfl rfl (cX _ _)),.inr (aC rfl rfl (cW _)),trivial⟩,by decide,jP _⟩⟩
    | false=>
     rw [decide_eq_true (a2.2 ⟨hin,hone,rfl⟩)] at h3
     subst_vars
     (repeat' (first|refine wS ?_|refine wB ?_|refine wK ?_|refine wU ?_|(refine wC rfl ?_ ?_<;>(intro hb;(try simp only [nm] at hb);try omega))|(refine rg 30 (mW rfl (iK T rfl (qW T rfl (vV (aK rfl rfl) ?_)))))|(refine rg 32 (dJ rfl (vV (kC (h1)) (aV ?_))))|(refine rg 33 (dJ rfl (vV (by exact kH rfl rfl q4 (.cons (fX rfl rfl rfl rfl rfl rfl rfl rfl) (.cons (.v _) .nil)) f4.symm (nL _) (eX (bF _))) ?_));refine mW rfl (vV (kC (h2)) (mW rfl (vV (lE mP rfl rfl) (mW rfl (yN rfl (yN rfl (yV (by exact kH rfl rfl q5 (.cons (fX rfl rfl rfl rfl rfl rfl rfl rfl) (.cons (.v _) .nil)) f5.symm (nL _) (eX (bF _))) ?_)))))));refine yN rfl (yV (kC (h3)) (yN rfl (yN rfl (yN rfl (gT (qW T rfl (yV (jL rfl rfl (by omega)) (gT (pV ?_)))))))));refine yN rfl (yN rfl (yV (dS rfl) (gT (pW rfl (yV (lE mP rfl rfl) (pV ?_)))))))|(refine iA 31 rfl rfl rfl (by omega) (by omega) ?_)|refine nZ ?_));all_goals try omega
     all_goals exact ⟨⟨n+1,hnl⟩,by dsimp only;omega,⟨[0,1,2,3,4,5,6,7,8,9],rfl,(by repeat first|exact trivial|refine ⟨rfl,?_⟩),⟨.inr rfl,.inr rfl,.inr (aC rfl rfl (cT _)),.inr (aC rfl rfl (cX _ _)),.inr (aC rfl rfl (cW _)),.inr rfl,.inr rfl,.inr (aC rfl rfl (cT _)),.inr (aC rfl rfl (cX _ _)),.inr (aC rfl rfl (cW _)),trivial⟩,by decide,jP _⟩⟩
   ·rw [decide_eq_false (fun q=>hone (a2.1 q).2.1)] at h3
    subst_vars
    (repeat' (first|refine wS ?_|refine wB ?_|refine wK ?_|refine wU ?_|(refine wC rfl ?_ ?_<;>(intro hb;(try simp only [nm] at hb);try omega))|(refine rg 30 (mW rfl (iK T rfl (qW T rfl (vV (aK rfl rfl) ?_)))))|(refine rg 32 (dJ rfl (vV (kC (h1)) (aV ?_))))|(refine rg 33 (dJ rfl (vV (by exact kH rfl rfl q4 (.cons (fX rfl rfl rfl rfl rfl rfl rfl rfl) (.cons (.v _) .nil)) f4.symm (nL _) (eX (bF _))) ?_));refine mW rfl (vV (kC (h2)) (mW rfl (vV (lE mP rfl rfl) (mW rfl (yN rfl (yN rfl (yV (by exact kH rfl rfl q5 (.cons (fX rfl rfl rfl rfl rfl rfl rfl rfl) (.cons (.v _) .nil)) f5.symm (nL _) (eX (bF _))) ?_)))))));refine yN rfl (yV (kC (h3)) (yN rfl (yN rfl (yN rfl (gT (qW T rfl (yV (gR rfl rfl (by omega)) (gT (pV ?_)))))))));refine yM ?_;(iterate 2 refine gF ?_);refine gT (pW rfl (yV (lE mP rfl rfl) (pV ?_))))|(refine iA 31 rfl rfl rfl (by omega) (by omega) ?_)|refine nZ ?_));all_goals try omega
    all_goals exact ⟨⟨n+1,hnl⟩,by dsimp only;omega,⟨[0,1,2,3,4,5,6,7,8,9],rfl,(by repeat first|exact trivial|refine ⟨rfl,?_⟩),⟨.inr rfl,.inr rfl,.inr (aC rfl rfl (cT _)),.inr (aC rfl rfl (cX _ _)),.inr (aC rfl rfl (cW _)),.inr rfl,.inr rfl,.inr (aC rfl rfl (cT _)),.inr (aC rfl rfl (cX _ _)),.inr (aC rfl rfl (cW _)),trivial⟩,by decide,jP _⟩⟩
  ·rw [decide_eq_false hin] at h1;rw [decide_eq_false (fun q=>hin (a1.1 q))] at h2;rw [decide_eq_false (fun q=>hin (a2.1 q).1)] at h3
   subst_vars
   (repeat' (first|refine wS ?_|refine wB ?_|refine wK ?_|refine wU ?_|(refine wC rfl ?_ ?_<;>(intro hb;(try simp only [nm] at hb);try omega))|(refine rg 30 (mW rfl (iK T rfl (qW T rfl (vV (aK rfl rfl) ?_)))))|(refine rg 32 (dJ rfl (vV (kC (h1)) (aV ?_))))|(refine rg 33 (dJ rfl (vV (by exact kH rfl rfl q4 (.cons (fX rfl rfl rfl rfl rfl rfl rfl rfl) (.cons (.v _) .nil)) f4.symm (nL _) (eX (bF _))) ?_));refine mW rfl (vV (kC (h2)) (mW rfl (vV (lE mP rfl rfl) (mW rfl (yN rfl (yN rfl (yV (by exact kH rfl rfl q5 (.cons (fX rfl rfl rfl rfl rfl rfl rfl rfl) (.cons (.v _) .nil)) f5.symm (nL _) (eX (bF _))) ?_)))))));refine yN rfl (yV (kC (h3)) (yN rfl (yM ?_)));(iterate 3 refine gF ?_);refine gT (pW rfl (yM ?_));(iterate 2 refine gF ?_);refine gT (pW rfl (yV (lE mP rfl rfl) (pV ?_))))|(refine iA 31 rfl rfl rfl (by omega) (by omega) ?_)|refine nZ ?_));all_goals try omega
   all_goals exact ⟨⟨n+1,hnl⟩,by dsimp only;omega,⟨[0,1,2,3,4,5,6,7,8,9],rfl,(by repeat first|exact trivial|refine ⟨rfl,?_⟩),⟨.inr rfl,.inr rfl,.inr (aC rfl rfl (cT _)),.inr (aC rfl rfl (cX _ _)),.inr (aC rfl rfl (cW _)),.inr rfl,.inr rfl,.inr (aC rfl rfl (cT _)),.inr (aC rfl rfl (cX _ _)),.inr (aC rfl rfl (cW _)),trivial⟩,by decide,jP _⟩⟩
 have hsa:=SN L1 L1 (by omega)
 rw [decide_eq_true rfl] at hsa;by_cases hone:L2.length=1
 ·rw [decide_eq_true hone,nH] at p1;cases none with
  | true=>
   subst p1
   (repeat' (first|refine wS ?_|refine wK ?_|refine wE ?_|refine wU ?_|(refine wC rfl ?_ ?_<;>(intro hb;(try simp only [nm] at hb);try omega))|(refine rg 30 (mW rfl (iK T rfl (qW T rfl (vV (aK rfl rfl) ?_)))))|(refine rg 35 (dJ rfl (vV (by exact eH rfl rfl q1 (.cons (fX rfl rfl rfl rfl rfl rfl rfl rfl) (.cons (.v _) .nil)) rfl rfl) ?_));refine mW rfl (xW rfl (xW rfl (pT ?_))))|(refine rg 36 (dJ rfl (vV (by exact eH rfl rfl q1 (.cons (fX rfl rfl rfl rfl rfl rfl rfl rfl) (.cons (.v _) .nil)) rfl rfl) ?_));refine mW rfl (xW rfl (xW rfl (pT ?_))))|(refine rg 37 (dJ rfl (vV (uP rfl rfl rfl) (mW rfl (yN rfl (yN rfl (yV (lE mP rfl rfl) (pW rfl (mW rfl (yM ?_)))))))));refine yN rfl (yV (by exact kH rfl rfl q2 (.cons (fX rfl rfl rfl rfl rfl rfl rfl rfl) (.cons (.v _) .nil)) f1.symm (nL _) (eX (bF _))) ?_);refine yN rfl (yV (kC (hsa)) (yV (dS rfl) (pW rfl (mW rfl (yN rfl (yN rfl (gT (qW T rfl (yV (jL rfl rfl (by omega)) ?_)))))))));refine yN rfl (yN rfl (yV (dS rfl) (gT (pW rfl (yV (lE mP rfl rfl) (pW rfl (mW rfl (yN rfl (gT ?_)))))))));refine qW T rfl (yV (fB rfl rfl) (yM ?_));refine cD rfl rfl ?_ ?_<;>(intro hb;rw [hb];(try simp only [nm] at hb);try omega);(all_goals ((iterate 2 refine gF ?_);refine gT (pW rfl (pV ?_)))))|(refine iA 19 rfl rfl rfl (by omega) (by omega) ?_)|refine nZ ?_));all_goals try omega
   all_goals exact ⟨⟨k+1,hlt⟩,by dsimp only;omega,⟨[0,1,2,3,4,5,6,7,8,9],rfl,(by repeat first|exact trivial|refine ⟨rfl,?_⟩),⟨.inr rfl,.inr rfl,.inr (aC rfl rfl (cT _)),.inr (aC rfl rfl (cX _ _)),.inr (aC rfl rfl (cW _)),.inr rfl,.inr rfl,.inr (aC rfl rfl (cT _)),.inr (aC rfl rfl (cX _ _)),.inr (aC rfl rfl (cW _)),trivial⟩,by decide,jP _⟩⟩
  | false=>
   subst p1
   (repeat' (first|refine wS ?_|refine wK ?_|refine wE ?_|refine wU ?_|(refine wC rfl ?_ ?_<;>(intro hb;(try simp only [nm] at hb);try omega))|(refine rg 30 (mW rfl (iK T rfl (qW T rfl (vV (aK rfl rfl) ?_)))))|(refine rg 35 (dJ rfl (vV (by exact eH rfl rfl q1 (.cons (fX rfl rfl rfl rfl rfl rfl rfl rfl) (.cons (.v _) .nil)) rfl rfl) ?_));refine mW rfl (xW rfl (xW rfl (pT ?_))))|(refine rg 36 (dJ rfl (vV (by exact eH rfl rfl q1 (.cons (fX rfl rfl rfl rfl rfl rfl rfl rfl) (.cons (.v _) .nil)) rfl rfl) ?_));refine mW rfl (xW rfl (xW rfl (pT ?_))))|(refine rg 37 (dJ rfl (vV (uP rfl rfl rfl) (mW rfl (yN rfl (yN rfl (yV (lE mP rfl rfl) (pW rfl (mW rfl (yM ?_)))))))));refine yN rfl (yV (by exact kH rfl rfl q2 (.cons (fX rfl rfl rfl rfl rfl rfl rfl rfl) (.cons (.v _) .nil)) f1.symm (nL _) (eX (bF _))) ?_);refine yN rfl (yV (kC (hsa)) (yV (dS rfl) (pW rfl (mW rfl (yN rfl (yN rfl (gT (qW T rfl (yV (jL rfl rfl (by omega)) ?_)))))))));refine yN rfl (yN rfl (yV (dS rfl) (gT (pW rfl (yV (lE mP rfl rfl) (pW rfl (mW rfl (yN rfl (gT ?_)))))))));refine qW T rfl (yV (fB rfl rfl) (yM ?_));refine cD rfl rfl ?_ ?_<;>(intro hb;rw [hb];(try simp only [nm] at hb);try omega);(all_goals ((iterate 2 refine gF ?_);refine gT (pW rfl (pV ?_)))))|(refine iA 19 rfl rfl rfl (by omega) (by omega) ?_)|refine nZ ?_));all_goals try omega
   all_goals exact ⟨⟨k+1,hlt⟩,by dsimp only;omega,⟨[0,1,2,3,4,5,6,7,8,9],rfl,(by repeat first|exact trivial|refine ⟨rfl,?_⟩),⟨.inr rfl,.inr rfl,.inr (aC rfl rfl (cT _)),.inr (aC rfl rfl (cX _ _)),.inr (aC rfl rfl (cW _)),.inr rfl,.inr rfl,.inr (aC rfl rfl (cT _)),.inr (aC rfl rfl (cX _ _)),.inr (aC rfl rfl (cW _)),trivial⟩,by decide,jP _⟩⟩
 ·rw [decide_eq_false hone,Bool.false_and] at p1;by_cases hz:L2.length=0
  ·obtain rfl:=p2 hz;subst p1
   (repeat' (first|refine wS ?_|refine wK ?_|refine wE ?_|refine wU ?_|(refine wC rfl ?_ ?_<;>(intro hb;(try simp only [nm] at hb);try omega))|(refine rg 30 (mW rfl (iK T rfl (qW T rfl (vV (aK rfl rfl) ?_)))))|(refine rg 35 (dJ rfl (vV (by exact eH rfl rfl q1 (.cons (fX rfl rfl rfl rfl rfl rfl rfl rfl) (.cons (.v _) .nil)) rfl rfl) ?_));refine mW rfl (xW rfl (xW rfl (pT ?_))))|(refine rg 36 (dJ rfl (vV (by exact eH rfl rfl q1 (.cons (fX rfl rfl rfl rfl rfl rfl rfl rfl) (.cons (.v _) .nil)) rfl rfl) ?_));refine mW rfl (xW rfl (xW rfl (pT ?_))))|(refine rg 37 (dJ rfl (vV (uP rfl rfl rfl) (mW rfl (yN rfl (yN rfl (yV (lE mP rfl rfl) (pW rfl (mW rfl (yM ?_)))))))));refine yN rfl (yV (by exact kH rfl rfl q2 (.cons (fX rfl rfl rfl rfl rfl rfl rfl rfl) (.cons (.v _) .nil)) f1.symm (nL _) (eX (bF _))) ?_);refine yN rfl (yV (kC (hsa)) (yV (dS rfl) (pW rfl (mW rfl (yN rfl (yN rfl (gT (qW T rfl (yV (gR rfl rfl (by omega)) ?_)))))))));refine yM ?_;(iterate 2 refine gF ?_);refine gT (pW rfl (yV (lE mP rfl rfl) (pW rfl (mW rfl (yN rfl (gT (qW T rfl (yV (jL rfl rfl (by omega)) (yM ?_)))))))));refine yN rfl (yV (dS rfl) (gT (pW rfl (pV ?_)))))|(refine iA 19 rfl rfl rfl (by omega) (by omega) ?_)|refine nZ ?_));all_goals try omega
   all_goals exact ⟨⟨k+1,hlt⟩,by dsimp only;omega,⟨[0,1,2,3,4,5,6,7,8,9],rfl,(by repeat first|exact trivial|refine ⟨rfl,?_⟩),⟨.inr rfl,.inr rfl,.inr (aC rfl rfl (cT _)),.inr (aC rfl rfl (cX _ _)),.inr (aC rfl rfl (cW _)),.inr rfl,.inr rfl,.inr (aC rfl rfl (cT _)),.inr (aC rfl rfl (cX _ _)),.inr (aC rfl rfl (cW _)),trivial⟩,by decide,jP _⟩⟩
  ·subst p1
   (repeat' (first|refine wS ?_|refine wK ?_|refine wE ?_|refine wU ?_|(refine wC rfl ?_ ?_<;>(intro hb;(try simp only [nm] at hb);try omega))|(refine rg 30 (mW rfl (iK T rfl (qW T rfl (vV (aK rfl rfl) ?_)))))|(refine rg 35 (dJ rfl (vV (by exact eH rfl rfl q1 (.cons (fX rfl rfl rfl rfl rfl rfl rfl rfl) (.cons (.v _) .nil)) rfl rfl) ?_));refine mW rfl (xW rfl (xW rfl (pT ?_))))|(refine rg 36 (dJ rfl (vV (by exact eH rfl rfl q1 (.cons (fX rfl rfl rfl rfl rfl rfl rfl rfl) (.cons (.v _) .nil)) rfl rfl) ?_));refine mW rfl (xW rfl (xW rfl (pT ?_))))|(refine rg 37 (dJ rfl (vV (uP rfl rfl rfl) (mW rfl (yN rfl (yN rfl (yV (lE mP rfl rfl) (pW rfl (mW rfl (yM ?_)))))))));refine yN rfl (yV (by exact kH rfl rfl q2 (.cons (fX rfl rfl rfl rfl rfl rfl rfl rfl) (.cons (.v _) .nil)) f1.symm (nL _) (eX (bF _))) ?_);refine yN rfl (yV (kC (hsa)) (yV (dS rfl) (pW rfl (mW rfl (yN rfl (yN rfl (gT (qW T rfl (yV (gR rfl rfl (by omega)) ?_)))))))));refine yM ?_;(iterate 2 refine gF ?_);refine gT (pW rfl (yV (lE mP rfl rfl) (pW rfl (mW rfl (yN rfl (gT (qW T rfl (yV (gR rfl rfl (by omega)) (yM ?_)))))))));(iterate 2 refine gF ?_);refine gT (pW rfl (pV ?_)))|(refine iA 19 rfl rfl rfl (by omega) (by omega) ?_)|refine nZ ?_));all_goals try omega
   all_goals exact ⟨⟨k+1,hlt⟩,by dsimp only;omega,⟨[0,1,2,3,4,5,6,7,8,9],rfl,(by repeat first|exact trivial|refine ⟨rfl,?_⟩),⟨.inr rfl,.inr rfl,.inr (aC rfl rfl (cT _)),.inr (aC rfl rfl (cX _ _)),.inr (aC rfl rfl (cW _)),.inr rfl,.inr rfl,.inr (aC rfl rfl (cT _)),.inr (aC rfl rfl (cX _ _)),.inr (aC rfl rfl (cW _)),trivial⟩,by decide,jP _⟩⟩
end Go.Proofs.Q
namespace Go.Ab
open Go
def DD (P:Program) (t:TypeId) (i o:Nat) (e:TypeId):Bool:=match P.underlying t with
 | some (.struct fs)=>(match fs[i]? with
  | some f=>f.offset == o&&P.cellsOf f.type == 1&&(match P.underlying f.type with
   | some (.slice e')=>e' == e
   | _=>false)
  | none=>false)
 | _=>false
theorem MJ {S:Nat→Prop}{w:World}{ρ:Pl}{x:AV}:∀ {k:Nat}{us:List AV}{ys:List Value},RL S w us ρ ys→us[k]? = some x→∃ y,ys[k]? = some y∧R S w x ρ y
 | _,[],_,_,h=>by simp at h
 | 0,u::us,ys,hr,h=>by
  simp only [RL] at hr;obtain ⟨y,zs,h1,h2,h3⟩:=hr;obtain rfl:u=x:=by simpa using h
  first
   | (subst h1;exact ⟨y,rfl,h2⟩)
   | (subst h2;exact ⟨y,rfl,h1⟩)
   | (subst h3;exact ⟨y,rfl,h1⟩)
 | k+1,u::us,ys,hr,h=>by
  simp only [RL] at hr;obtain ⟨y,zs,h1,h2,h3⟩:=hr;have h':us[k]? = some x:=by simpa using h
  first
   | (subst h1;exact MJ (k:=k) h3 h')
   | (subst h3;exact MJ (k:=k) h2 h')
theorem EH {P:Program}{H:Type}{enc:TypeId × Value→H}{ts:List TypeId}{ds:List (DataW H)}{j:Nat}{t e:TypeId}{d:DataW H}{W:World}{v:Value}{p:List MemPlace}{S:Nat→Prop}{ρ:Pl}{us:List AV}{cs:List AV}{len sz i o:Nat}
  (hw:(DataW.weightsEach P ts ds).all (·≤reachBytes)=true) (hts:ts[j]? = some t) (hds:ds[j]? = some d) (hf:DD P t i o e=true) (hv:DataW.Trod enc P W 0 (fun _=>true) true t v d p) (hr:R S W (.agg us) ρ v) (hu:us[o]? = some (.row cs len sz)):len*P.bytesOf e≤140737488351232:=by
 simp only [R] at hr;obtain ⟨ys,rfl,hl⟩:=hr;obtain ⟨y,hy,hry⟩:=MJ hl hu;simp only [R] at hry;obtain ⟨a,cap,rfl,_⟩:=hry;unfold DD at hf;split at hf
 ·rename_i fs ht;split at hf
  ·rename_i f hfi;simp only [aN,beq_iff_eq] at hf;obtain ⟨⟨h1,h2⟩,h3⟩:=hf;split at h3
   ·rename_i e' hs;have h3:e'=e:=by simpa using h3
    subst h3;obtain ⟨fuel,hft⟩:=hv;have hc:(Value.agg ys).cells.toList=ys.toList:=rfl;rw [hc] at hft;obtain ⟨xs,n,rfl,hx,_,hxl,hx2⟩:=DataW.trod_struct ht hft;have hx3:=hx2 i f hfi
    rw [h1,h2,show (ys.toList.drop o).take 1=[.slice a len cap] by
     rw [List.take_one,List.head?_drop,hy];rfl] at hx3
    have hil:i<xs.length:=by rw [hxl];exact (aJ.1 hfi).1
    rw [aB hil] at hx3;simp only [Prod.mk.injEq] at hx;rcases DataW.trod_slice hs hx3 with ⟨q1,_⟩ | ⟨a',len',cap',elems,rest,n',_,q2,q3,_,_,_,q4,_⟩
    ·simp only [List.cons.injEq,Value.slice.injEq] at q1;rw [q1.1.2.1];simp
    ·simp only [List.cons.injEq,Value.slice.injEq] at q2;rw [q2.1.2.1];have hmem:(elems.length+rest.length)*P.bytesOf e'∈d.weights P t:=by
      rw [hx.1];unfold DataW.weights;rw [ht];refine DataW.weights_mem_each (j:=i) (t:=f.type) (d:=xs[i].1) ?_ ?_ _ ?_
      ·rw [bN,kF,hfi];rfl
      ·rw [bN,aB hil];rfl
      ·rw [q3];simp only [DataW.weights,hs,aU];exact aR
     have h5:=bJ.1 hw _ (DataW.weights_mem_each hts hds _ hmem);have hrb:reachBytes=140737488351232:=by decide
     simp only [decide_eq_true_eq,hrb,eQ] at h5;rw [← q4];omega
   ·cases h3
  ·cases hf
 ·cases hf
end Go.Ab
namespace Go.Proofs.Q
open Go Go.Ab Go.Ld
attribute [local irreducible] VC AW bW aM
def D2 (n:Int):Prop:=(Lit.int .i64 n).wf=true
theorem rS:gY Tryz.prog 3 D2 (fun n=>[AV.i n]):=gY.int Tryz.underlying3 (by kernel_rfl)
theorem zK1:gY Tryz.prog 4 (fun _=>True) (fun b=>[AV.b b]):=gY.bool Tryz.underlying4 (by kernel_rfl)
theorem zJ9:gY Tryz.prog 9 (fun s=>s.size≤maxLen) (fun s=>[.v (.string s)]):=gY.string Tryz.underlying9 (by kernel_rfl)
theorem zK0:gY Tryz.prog 24 (fun l:List Int=>l.length≤maxLen∧∀ a,a∈l→D2 a) (fun l=>[.rowE (ints l) 1]):=
 gY.slice Tryz.underlying24 (by kernel_rfl) (by kernel_rfl) (by decide) rS
theorem yO7:gY Tryz.prog 100 (fun p:KD=>p.1.size≤maxLen∧D2 p.2) (fun p=>[AV.v (.string p.1),AV.i p.2]):=
 gY.struct (fs:=[(9,0),(3,1)]) (by kernel_rfl) (by kernel_rfl)
  (fun e W fuel css hl hx=>by
   obtain ⟨a,h1,h2,h3⟩:=gV.cons zJ9 (gV.cons rS gV.nil) e W fuel css hl hx
   exact ⟨(a.1,a.2.1),⟨h1.1,h1.2.1⟩,by simpa using h2,by simpa using h3⟩)
  (fun _=>by kernel_rfl)
theorem yX2:gY Tryz.prog 73 (fun p:LT=>D2 p.1∧D2 p.2.1) (fun p=>[AV.i p.1,AV.i p.2.1,AV.b p.2.2]):=
 gY.struct (fs:=[(3,0),(3,1),(4,2)]) (by kernel_rfl) (by kernel_rfl)
  (fun e W fuel css hl hx=>by
   obtain ⟨a,h1,h2,h3⟩:=gV.cons rS (gV.cons rS (gV.cons zK1 gV.nil)) e W fuel css hl hx
   exact ⟨(a.1,a.2.1,a.2.2.1),⟨h1.1,h1.2.1⟩,by simpa using h2,by simpa using h3⟩)
  (fun _=>by kernel_rfl)
theorem yX3:gY Tryz.prog 62 (fun p:BX=>D2 p.1∧D2 p.2.1∧D2 p.2.2) (fun p=>[AV.i p.1,AV.i p.2.1,AV.i p.2.2]):=
 gY.struct (fs:=[(3,0),(3,1),(3,2)]) (by kernel_rfl) (by kernel_rfl)
  (fun e W fuel css hl hx=>by
   obtain ⟨a,h1,h2,h3⟩:=gV.cons rS (gV.cons rS (gV.cons rS gV.nil)) e W fuel css hl hx
   exact ⟨(a.1,a.2.1,a.2.2.1),⟨h1.1,h1.2.1,h1.2.2.1⟩,by simpa using h2,by simpa using h3⟩)
  (fun _=>by kernel_rfl)
theorem yA7:gY Tryz.prog 22 (fun l:List KD=>l.length≤maxLen∧∀ a,a∈l→a.1.size≤maxLen∧D2 a.2) (fun l=>[.rowE (jA l) 2]):=
 gY.slice Tryz.underlying22 (by kernel_rfl) (by kernel_rfl) (by decide) yO7
theorem yO6:gY Tryz.prog 23 (fun l:List LT=>l.length≤maxLen∧∀ a,a∈l→D2 a.1∧D2 a.2.1) (fun l=>[.rowE (kE l) 3]):=
 gY.slice Tryz.underlying23 (by kernel_rfl) (by kernel_rfl) (by decide) yX2
theorem yA9:gY Tryz.prog 25 (fun l:List BX=>l.length≤maxLen∧∀ a,a∈l→D2 a.1∧D2 a.2.1∧D2 a.2.2) (fun l=>[.rowE (fL l) 3]):=
 gY.slice Tryz.underlying25 (by kernel_rfl) (by kernel_rfl) (by decide) yX3
theorem VO:gY Tryz.prog 27 (fun _:List KD × List LT × List Int × List BX=>True) (fun x=>[.rowE (jA x.1) 2,.rowE (kE x.2.1) 3,.rowE (ints x.2.2.1) 1,.rowE (fL x.2.2.2) 3]):=
 gY.struct (fs:=[(22,0),(23,1),(24,2),(25,3)]) (by kernel_rfl) (by kernel_rfl)
  (fun e W fuel css hl hx=>by
   obtain ⟨a,h1,h2,h3⟩:=gV.cons yA7 (gV.cons yO6 (gV.cons zK0 (gV.cons yA9 gV.nil))) e W fuel css hl hx
   exact ⟨(a.1,a.2.1,a.2.2.1,a.2.2.2.1),trivial,by simpa using h2,by simpa using h3⟩)
  (fun _=>by kernel_rfl)
theorem OU:gY Tryz.prog 29 (fun p:Int × Int × Int × Int=>D2 p.1∧D2 p.2.1∧D2 p.2.2.1∧D2 p.2.2.2) (fun p=>[AV.i p.1,AV.i p.2.1,AV.i p.2.2.1,AV.i p.2.2.2]):=
 gY.struct (fs:=[(3,0),(3,1),(3,2),(3,3)]) (by kernel_rfl) (by kernel_rfl)
  (fun e W fuel css hl hx=>by
   obtain ⟨a,h1,h2,h3⟩:=gV.cons rS (gV.cons rS (gV.cons rS (gV.cons rS gV.nil))) e W fuel css hl hx
   exact ⟨(a.1,a.2.1,a.2.2.1,a.2.2.2.1),⟨h1.1,h1.2.1,h1.2.2.1,h1.2.2.2.1⟩,by simpa using h2,by simpa using h3⟩)
  (fun _=>by kernel_rfl)
abbrev xI8 (x:List KD × List LT × List Int × List BX) (c:Int × Int × Int × Int):Cx:=⟨c.1,c.2.1,c.2.2.1,c.2.2.2,x.1,x.2.1,x.2.2.2⟩
end Go.Proofs.Q
