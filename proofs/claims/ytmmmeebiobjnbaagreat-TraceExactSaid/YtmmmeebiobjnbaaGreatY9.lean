/-
  Texts of the logic and of the layer,in one module (part 9).
-/
import Derived.Test.YtmmmeebiobjnbaaGreatY8
set_option linter.unusedVariables false
set_option linter.unusedSimpArgs false
set_option linter.unnecessarySimpa false
namespace Go.Ld
open Go.Ab Go.Proofs.YtmmmeebiobjnbaaGreat
def sY (c:Cx) (t:Tr) (k:Nat):List Int:=match t.sales[k]? with
  | some x=>sX (pO c (lD c t.seen x))
  | none=>[]
def zP4 (c:Cx) (t:Tr) (lot:Int):List Int:=nats ((List.range t.sales.length).filter fun k=>decide (lot∈sY c t k))
structure En where
  sold:Bool
  s:Ev
  x:Sl
abbrev zU9 (e:En):List AV:=[.b e.sold,.i e.s.k,.i e.s.a,.i e.s.b,.i e.s.n,.rowE (Go.Ab.ints e.s.ids) 1,.i e.x.t,.i e.x.o,.i e.x.b,.i e.x.n]
abbrev A4 (l:List En):List (List AV):=l.map zU9
theorem rF (l:List En):∀ e,e∈A4 l→e.length=10:=by intro e he;obtain ⟨n,_,rfl⟩:=bA.1 he;rfl
theorem J9 (l:List En):(A4 l).length=l.length:=aX _
theorem NS {l:List En}{k:Nat}(h:k<l.length):(A4 l)[(k:Int).toNat]? = some (zU9 l[k]):=by
  rw [bP,bY,aA h];rfl
def rE (l:List En):List Ev:=(l.filter fun e=>!e.sold).map (·.s)
def LQ (l:List En):Nat:=l.countP (·.sold)
def NO (l:List En) (n m:Nat):Bool:=decide (l.length≤n+m)&&decide (LQ (l.take (n+m+1))≤m)&&JI (rE (l.take (n+m+1))) n
theorem F9 (l:List En) (e:En):rE (l++[e])=rE l++if e.sold then [] else [e.s]:=by
  unfold rE;rw [nO,bT];cases h:e.sold <;> simp [h]
theorem E2 (l:List En) (e:En):LQ (l++[e])=LQ l+if e.sold then 1 else 0:=by
  unfold LQ;rw [XR];cases h:e.sold <;> simp [h]
theorem NR (l:List En):(rE l).length≤l.length:=by
  unfold rE;rw [aX];exact fP _ _
theorem LP (l:List En):LQ l≤l.length:=List.countP_le_length
end Go.Ld
namespace Go.Proofs.YtmmmeebiobjnbaaGreat
open Go Go.Ab Go.Ld
attribute [local irreducible] VC AW cD aT jE zU
set_option maxHeartbeats 4000000
theorem ZO (c:Cx) (t:Tr) (lot:Int) (hc:iL c) (h:kE c t) (hl:t.seen.length≤100000) (hs:t.sales.length≤100000) (hids:∀ s,s∈t.seen→s.ids.length≤9223372036854775807) :
    aT Tryz.prog 22 [.pr (HY c t) 0,.i lot] [] (.sl 0 0 (zP4 c t lot).length 1) [.arr (ints (zP4 c t lot)) 1]:=by
  have hsl:=uM c t.sales;have hrl:∀ k,(nats ((List.range k).filter fun k=>decide (lot∈sY c t k))).length≤k:=fun k=>by
    rw [aX];exact bG (fP _ _) (by simp)
  refine bU T Tryz.func22 rfl rfl rfl rfl ?_
  (repeat' (first|refine wS ?_|(refine rg 0 (aV ?_))|refine nZ ?_));all_goals try (exfalso;omega)
  (repeat' (first|refine wS ?_|(refine rg 1 (vV (dK rfl) (nY 5 1 rfl (by decide) ?_)))|refine nZ ?_));all_goals try (exfalso;omega)
  (repeat' (first|refine wB ?_|(refine rg 2 (mW rfl (nV ?_));refine gI T rfl (qW T rfl (mV ?_)))|refine nZ ?_));all_goals try (exfalso;omega)
  refine dA (X:={k:Nat // k≤t.sales.length}) (fun k=>[(0,.pr (HY c t) 0),(1,.i lot),(5,.sl 0 0 (nats ((List.range k.1).filter fun k=>decide (lot∈sY c t k))).length 1),(11,.i (tE c t.sales).length),(12,.i k.1)]) (fun k=>[.arr (ints (nats ((List.range k.1).filter fun k=>decide (lot∈sY c t k)))) 1]) (fun k=>t.sales.length-k.1) ⟨0,bW _⟩ ⟨[0],rfl,(by repeat first|exact trivial|refine ⟨rfl,?_⟩),⟨.inr rfl,trivial⟩,by decide,jY _⟩ ?_
  rintro ⟨k,hk⟩;dsimp only;by_cases hlt:k<t.sales.length
  · have hx:t.sales[k]? = some t.sales[k]:=aA hlt;have hlo:=zC3 hc h hx hl hids;have hlen:(sX (pO c (lD c t.seen t.sales[k]))).length≤1000:=bG (fP _ _) (DU h hx);have ek:sY c t k=sX (pO c (lD c t.seen t.sales[k])):=by unfold sY;rw [hx]
    rw [← ek] at hlo hlen;have hcn:=zF (sY c t k) lot (by omega)
    have e0:(nats ((List.range (k+1)).filter fun k=>decide (lot∈sY c t k)))=nats ((List.range k).filter fun k=>decide (lot∈sY c t k))++if lot∈sY c t k then [(k:Int)] else []:=by
      rw [rR,nO,nats,bT];by_cases q:lot∈sY c t k <;> simp [q]
    have hrk:=hrl k;clear ek;generalize sY c t k=Q at *;by_cases q:lot∈Q
    · rw [if_pos q] at e0;rw [decide_eq_true q] at hcn;have hii:=bJ (nats ((List.range (k+1)).filter fun k=>decide (lot∈sY c t k)));generalize hB:nats ((List.range k).filter fun k=>decide (lot∈sY c t k))=B at *;have e1:ints (nats ((List.range (k+1)).filter fun k=>decide (lot∈sY c t k)))=ints B++[[.i (k:Int)]]:=by rw [e0,ints,bT];rfl
      have e2:(nats ((List.range (k+1)).filter fun k=>decide (lot∈sY c t k))).length=B.length+1:=by rw [e0];simp
      have hBl:(ints B).length=B.length:=cY _
      (repeat' (first|refine wS ?_|refine wB ?_|refine wK ?_|refine wT ?_|(refine wC rfl ?_ ?_<;>(intro hb;(try simp only [nm] at hb);try (exfalso;omega)))|(refine rg 3 (vV (aL rfl rfl) ?_))|(refine rg 4 (mW rfl (aV ?_)))|(refine rg 5 (dI rfl (vV (kC (hlo)) (mW rfl (vV (kC (hcn)) ?_)))))|(refine rg 6 (dI rfl (cC (by exact bE T rfl rfl (by decide) (by decide) rfl rfl rfl) rfl ?_));refine fS T rfl rfl rfl rfl rfl rfl (by omega) (iK.whole rfl rfl) rfl (by simp;omega) (by simp;omega) rfl ?_;refine aV ?_)|(refine rg 7 (vV (cE rfl rfl (by omega) (by omega)) (mV ?_)))|refine nZ ?_));all_goals try (exfalso;omega)
      all_goals exact ⟨⟨k+1,hlt⟩,by dsimp only;omega,⟨[2],rfl,(by dsimp only;rw [e2];(repeat (first | exact trivial | refine ⟨rfl,?_⟩))),⟨.inr (aC rfl (by dsimp only;rw [e1];exact jF hBl.symm) hii),trivial⟩,by decide,jY _⟩⟩
    · rw [if_neg q,List.append_nil] at e0;rw [decide_eq_false q] at hcn
      (repeat' (first|refine wS ?_|refine wB ?_|refine wK ?_|refine wU ?_|(refine wC rfl ?_ ?_<;>(intro hb;(try simp only [nm] at hb);try (exfalso;omega)))|(refine rg 3 (vV (aL rfl rfl) ?_))|(refine rg 4 (mW rfl (aV ?_)))|(refine rg 5 (dI rfl (vV (kC (hlo)) (mW rfl (vV (kC (hcn)) ?_)))))|(refine rg 7 (vV (cE rfl rfl (by omega) (by omega)) (mV ?_)))|refine nZ ?_));all_goals try (exfalso;omega)
      all_goals exact ⟨⟨k+1,hlt⟩,by dsimp only;omega,⟨[0],rfl,(by dsimp only;rw [e0];(repeat (first | exact trivial | refine ⟨rfl,?_⟩))),⟨.inr (aC rfl (by dsimp only;rw [e0]) (bJ _)),trivial⟩,by decide,jY _⟩⟩
  · obtain rfl:k=t.sales.length:=by omega
    (repeat' (first|refine wS ?_|refine wR ?_|refine wE ?_|(refine wC rfl ?_ ?_<;>(intro hb;(try simp only [nm] at hb);try (exfalso;omega)))|(refine rg 3 (vV (aL rfl rfl) ?_))|(refine rg 8 (mW rfl (aV ?_)))|refine nZ ?_));all_goals try (exfalso;omega)
    exact ⟨.inl rfl,[0],_,rfl,rfl,rfl,⟨.inr (aC rfl rfl (bJ _)),trivial⟩,by decide,jY _⟩
theorem yK2 (n:Nat) (hn:n≤17592186043904):aT Tryz.prog 7 [.i (n:Int)] [] (.sl 0 0 n 1) [.arr (ints (nats (List.range n))) 1]:=by
  refine bU T Tryz.func7 rfl rfl rfl rfl ?_
  (repeat' (first|refine wS ?_|(refine rg 0 (aV ?_))|refine nZ ?_));all_goals try (exfalso;omega)
  (repeat' (first|refine wS ?_|(refine rg 1 (vV (dK rfl) (nY 3 1 rfl (by decide) ?_)))|refine nZ ?_));all_goals try (exfalso;omega)
  (repeat' (first|refine wB ?_|(refine rg 2 (aV ?_))|refine nZ ?_));all_goals try (exfalso;omega)
  refine dA (X:={k:Nat // k≤n}) (fun k=>[(0,.i (n:Int)),(3,.sl 0 0 k.1 1),(4,.i k.1)]) (fun k=>[.arr (ints (nats (List.range k.1))) 1]) (fun k=>n-k.1) ⟨0,bW _⟩ ⟨[0],rfl,(by repeat first|exact trivial|refine ⟨rfl,?_⟩),⟨.inr rfl,trivial⟩,by decide,jY _⟩ ?_
  rintro ⟨k,hk⟩;dsimp only;have hl:(ints (nats (List.range k))).length=k:=by simp
  by_cases hlt:k<n
  · have e1:ints (nats (List.range (k+1)))=ints (nats (List.range k))++[[.i (k:Int)]]:=by rw [rR,nats,bT,ints,bT];rfl
    have hii:=bJ (nats (List.range (k+1)));generalize ints (nats (List.range k))=B at *
    (repeat' (first|refine wS ?_|refine wB ?_|refine wK ?_|(refine wC rfl ?_ ?_<;>(intro hb;(try simp only [nm] at hb);try (exfalso;omega)))|(refine rg 3 (dI rfl (vV (aL rfl rfl) ?_)))|(refine rg 5 (dI rfl (cC (by exact bE T rfl rfl (by decide) (by decide) rfl rfl rfl) rfl ?_));refine fS T rfl rfl rfl rfl rfl rfl (by omega) (iK.whole rfl rfl) rfl (by simp;omega) (by simp;omega) rfl ?_;refine aV ?_)|(refine iA 4 rfl rfl rfl (by omega) (by omega) ?_)|refine nZ ?_));all_goals try (exfalso;omega)
    all_goals exact ⟨⟨k+1,hlt⟩,by dsimp only;omega,⟨[2],rfl,(by repeat first|exact trivial|refine ⟨rfl,?_⟩),⟨.inr (aC rfl (by dsimp only;rw [e1];exact jF hl.symm) hii),trivial⟩,by decide,jY _⟩⟩
  · obtain rfl:k=n:=by omega
    (repeat' (first|refine wS ?_|refine wR ?_|refine wE ?_|(refine wC rfl ?_ ?_<;>(intro hb;(try simp only [nm] at hb);try (exfalso;omega)))|(refine rg 3 (dI rfl (vV (aL rfl rfl) ?_)))|(refine rg 6 (mW rfl (aV ?_)))|refine nZ ?_));all_goals try (exfalso;omega)
    exact ⟨.inl rfl,[0],_,rfl,rfl,rfl,⟨.inr (aC rfl rfl (bJ _)),trivial⟩,by decide,jY _⟩
theorem zF9 (l:List En) (n m:Nat) (hn:n≤1000) (hm:m≤1000) (hids:∀ e,e∈l→e.s.ids.length≤9223372036854775807) :
    aT Tryz.prog 8 [.rowE (A4 l) 10,.i (n:Int),.i (m:Int)] [] (.b (NO l n m)) []:=by
  have hll:=J9 l;refine bU T Tryz.func8 rfl rfl rfl rfl ?_
  (repeat' (first|refine wS ?_|(refine rg 0 (aV ?_))|refine nZ ?_));all_goals try (exfalso;omega)
  (repeat' (first|refine wS ?_|(refine rg 1 (vV (dK rfl) (nY 7 5 rfl (by decide) ?_)))|refine nZ ?_));all_goals try (exfalso;omega)
  (repeat' (first|refine wS ?_|refine wB ?_|(refine rg 2 (aV ?_))|(refine rg 3 (aV ?_))|refine nZ ?_));all_goals try (exfalso;omega)
  refine dA (X:={k:Nat // k≤l.length∧k≤n+m+1}) (fun k=>[(0,.rowE (A4 l) 10),(1,.i (n:Int)),(2,.i (m:Int)),(7,.sl 0 0 (rE (l.take k.1)).length 5),(8,.i (LQ (l.take k.1):Nat)),(9,.i k.1)]) (fun k=>[.arr (oX (rE (l.take k.1))) 5]) (fun k=>l.length-k.1) ⟨0,bW _,bW _⟩ ⟨[0],rfl,(by repeat first|exact trivial|refine ⟨rfl,?_⟩),⟨.inr rfl,trivial⟩,by decide,jY _⟩ ?_
  rintro ⟨k,hk,hk2⟩;dsimp only;have h1:=NR (l.take k);have h2:=LP (l.take k);rw [bH] at h1 h2;have h3:=sD (rE (l.take k));by_cases hlt:k<l.length∧k≤n+m
  · have hg:=NS hlt.1;have e1:=F9 (l.take k) (l[k]'hlt.1);have e2:=E2 (l.take k) (l[k]'hlt.1);rw [← aP hlt.1] at e1 e2;generalize (l[k]'hlt.1)=e at *;obtain ⟨es,⟨ek,ea,eb,en,eids⟩,⟨xt,xo,xb,xn⟩⟩:=e;dsimp only at *;cases es with
    | true=>
      rw [if_pos rfl] at e2;rw [if_pos rfl,List.append_nil] at e1
      (repeat' (first|refine wS ?_|refine wB ?_|refine wK ?_|refine wT ?_|(refine wC rfl ?_ ?_<;>(intro hb;(try simp only [nm] at hb);try (exfalso;omega)))|(refine rg 4 (dI rfl (qW T rfl (vV (aL rfl rfl) (mV ?_))));refine bQ rfl rfl ?_ ?_<;>(intro hb;rw [hb];(try simp only [nm] at hb);try (exfalso;omega));(all_goals (refine yN rfl (yN rfl (yN rfl (yV (cE rfl rfl (by omega) (by omega)) (yV (iB rfl rfl) (pV ?_))))))))|(refine rg 6 (dI rfl (vV (ix T rfl (by omega) (rF _) hg) (JF T ?_))))|(refine iA 7 rfl rfl rfl (by omega) (by omega) ?_)|(refine iA 5 rfl rfl rfl (by omega) (by omega) ?_)|refine nZ ?_));all_goals try (exfalso;omega)
      all_goals exact ⟨⟨k+1,hlt.1,by omega⟩,by dsimp only;omega,⟨[0],rfl,(by dsimp only;rw [e1,e2];(repeat (first | exact trivial | refine ⟨rfl,?_⟩))),⟨.inr (aC rfl (by dsimp only;rw [e1]) (eZ _)),trivial⟩,by decide,jY _⟩⟩
    | false=>
      rw [if_neg (by decide),Nat.add_zero] at e2
      rw [if_neg (by decide)] at e1
      have i1:=eZ (rE (l.take (k+1)));have e3:oX (rE (l.take (k+1)))=oX (rE (l.take k))++[[.i ek,.i ea,.i eb,.i en,.rowE (Go.Ab.ints eids) 1]]:=by rw [e1,oX,bT];rfl
      have e4:(rE (l.take (k+1))).length=(rE (l.take k)).length+1:=by rw [e1];simp
      generalize rE (l.take k)=B at *
      (repeat' (first|refine wS ?_|refine wB ?_|refine wK ?_|refine wU ?_|(refine wC rfl ?_ ?_<;>(intro hb;(try simp only [nm] at hb);try (exfalso;omega)))|(refine rg 4 (dI rfl (qW T rfl (vV (aL rfl rfl) (mV ?_))));refine bQ rfl rfl ?_ ?_<;>(intro hb;rw [hb];(try simp only [nm] at hb);try (exfalso;omega));(all_goals (refine yN rfl (yN rfl (yN rfl (yV (cE rfl rfl (by omega) (by omega)) (yV (iB rfl rfl) (pV ?_))))))))|(refine rg 6 (dI rfl (vV (ix T rfl (by omega) (rF _) hg) (JF T ?_))))|(refine rg 8 (dI rfl (mW rfl (vV (ix T rfl (by omega) (rF _) hg) (gI T rfl (cC (by exact bE T rfl rfl (by decide) (by decide) rfl rfl rfl) rfl ?_)))));refine fS T rfl rfl rfl rfl rfl rfl (by omega) (iK.whole rfl rfl) rfl (by simp;omega) (by simp;omega) rfl ?_;refine aV ?_)|(refine iA 5 rfl rfl rfl (by omega) (by omega) ?_)|refine nZ ?_));all_goals try (exfalso;omega)
      all_goals exact ⟨⟨k+1,hlt.1,by omega⟩,by dsimp only;omega,⟨[2],rfl,(by dsimp only;rw [e4,e2];(repeat (first | exact trivial | refine ⟨rfl,?_⟩))),⟨.inr (aC rfl (by dsimp only;rw [e3];exact jF h3.symm) i1),trivial⟩,by decide,jY _⟩⟩
  · have ek:l.take (n+m+1)=l.take k:=by
      by_cases q:k<l.length
      · rw [show k=n+m+1 by omega]
      · rw [bO (by omega),bO (by omega)]
    have hfe:=yE1 (rE (l.take k)) n hn (fun s hs=>by
      obtain ⟨e,he,rfl⟩:=bA.1 hs
      exact hids e (dS (dW.1 he).1))
    unfold NO;rw [ek];generalize JI (rE (l.take k)) n=fe at *;have hvw:oF [AB.arr (oX (rE (l.take k))) 5] (.sl 0 0 (rE (l.take k)).length 5) (.rowE (oX (rE (l.take k))) 5):=nP rfl h3.symm (UC _);by_cases q1:l.length≤n+m
    · by_cases q2:LQ (l.take k)≤m
      · rw [decide_eq_true q1,decide_eq_true q2]
        (repeat' (first|refine wS ?_|refine wR ?_|refine wE ?_|refine wU ?_|(refine rg 4 (dI rfl (qW T rfl (vV (aL rfl rfl) (mV ?_))));refine bQ rfl rfl ?_ ?_<;>(intro hb;rw [hb];(try simp only [nm] at hb);try (exfalso;omega));(all_goals ((iterate 5 refine gF ?_);refine pV ?_)))|(refine rg 9 (mW rfl (qW T rfl (dI rfl (vV (cE rfl rfl (by omega) (by omega)) (vV (iB rfl rfl) (mV ?_))))));refine bQ rfl rfl ?_ ?_<;>(intro hb;rw [hb];(try simp only [nm] at hb);try (exfalso;omega));(all_goals (refine yN rfl (yN rfl (yV (iB rfl rfl) (pW rfl (mV ?_))));refine bQ rfl rfl ?_ ?_<;>(intro hb;rw [hb];(try simp only [nm] at hb);try (exfalso;omega))));(all_goals (refine yN rfl (yN rfl (yV (by exact fM rfl rfl hfe (.cons hvw (.cons (.v _) .nil)) rfl rfl) ?_));refine pW rfl (aV ?_))))|refine nZ ?_));all_goals first | (exfalso;omega) | exact rQ
      · rw [decide_eq_true q1,decide_eq_false q2]
        (repeat' (first|refine wS ?_|refine wR ?_|refine wE ?_|refine wU ?_|(refine rg 4 (dI rfl (qW T rfl (vV (aL rfl rfl) (mV ?_))));refine bQ rfl rfl ?_ ?_<;>(intro hb;rw [hb];(try simp only [nm] at hb);try (exfalso;omega));(all_goals ((iterate 5 refine gF ?_);refine pV ?_)))|(refine rg 9 (mW rfl (qW T rfl (dI rfl (vV (cE rfl rfl (by omega) (by omega)) (vV (iB rfl rfl) (mV ?_))))));refine bQ rfl rfl ?_ ?_<;>(intro hb;rw [hb];(try simp only [nm] at hb);try (exfalso;omega));(all_goals (refine yN rfl (yN rfl (yV (iB rfl rfl) (pW rfl (mV ?_))));refine bQ rfl rfl ?_ ?_<;>(intro hb;rw [hb];(try simp only [nm] at hb);try (exfalso;omega))));(all_goals ((iterate 3 refine gF ?_);refine pW rfl (aV ?_))))|refine nZ ?_));all_goals first | (exfalso;omega) | exact rQ
    · rw [decide_eq_false q1]
      (repeat' (first|refine wS ?_|refine wR ?_|refine wE ?_|refine wU ?_|(refine wC rfl ?_ ?_<;>(intro hb;(try simp only [nm] at hb);try (exfalso;omega)))|(refine rg 4 (dI rfl (qW T rfl (vV (aL rfl rfl) (mV ?_))));refine bQ rfl rfl ?_ ?_<;>(intro hb;rw [hb];(try simp only [nm] at hb);try (exfalso;omega));(all_goals first|(refine gT (mW rfl (gT (mW rfl (gT (mW rfl (gT (vV (cE rfl rfl (by omega) (by omega)) (gT (vV (iB rfl rfl) ?_))))))))))|(iterate 5 refine gF ?_));(all_goals (refine pV ?_)))|(refine rg 9 (mW rfl (qW T rfl (dI rfl (vV (cE rfl rfl (by omega) (by omega)) (vV (iB rfl rfl) (mV ?_))))));refine bQ rfl rfl ?_ ?_<;>(intro hb;rw [hb];(try simp only [nm] at hb);try (exfalso;omega));(all_goals ((iterate 3 refine gF ?_);refine pW rfl (mV ?_);(iterate 3 refine gF ?_);refine pW rfl (aV ?_))))|refine nZ ?_));all_goals first | (exfalso;omega) | exact rQ
end Go.Proofs.YtmmmeebiobjnbaaGreat
namespace Go.Ld
open Go.Ab Go.Proofs.YtmmmeebiobjnbaaGreat
def G4 (c:Cx) (t:Tr) (e:En):Int × Tr:=if e.sold then (if oT c t e.x=0 then (0,qJ t e.x) else (oT c t e.x,t)) else ZG c t e.s
def EQ (c:Cx) (t:Tr) (e:En):Hp:=if e.sold then (if oT c t e.x=0 then I9 c (qJ t e.x) else KO c t) else if (eY c t.gs e.s).1=0 then G9 c (ZG c t e.s).2 else KO c t
theorem XN (c:Cx) (t:Tr) (e:En) :
    ((G4 c t e).2=t∧EQ c t e=KO c t) ∨
    (∃ s,e.sold=false∧s=e.s∧(eY c t.gs s).1=0∧(G4 c t e).1=0∧(G4 c t e).2=⟨(eY c t.gs s).2,t.seen++[s],t.sales,t.ord++[false]⟩∧EQ c t e=G9 c (G4 c t e).2) ∨
    (e.sold=true∧oT c t e.x=0∧(G4 c t e).1=0∧(G4 c t e).2=qJ t e.x∧EQ c t e=I9 c (G4 c t e).2):=by
  unfold G4 EQ;by_cases h:e.sold=true
  · rw [if_pos h,if_pos h];by_cases q:oT c t e.x=0
    · rw [if_pos q,if_pos q];exact .inr (.inr ⟨h,q,rfl,rfl,rfl⟩)
    · rw [if_neg q,if_neg q];exact .inl ⟨rfl,rfl⟩
  · rw [if_neg h,if_neg h];unfold ZG;by_cases q:(eY c t.gs e.s).1=0
    · rw [if_pos q,if_pos q];exact .inr (.inl ⟨_,by simpa using h,rfl,q,rfl,rfl,rfl⟩)
    · rw [if_neg q,if_neg q];exact .inl ⟨rfl,rfl⟩
theorem Q9 {c:Cx}{t:Tr}{x:Sl}(h:oT c t x=0):0≤x.b∧x.b<c.bs.length:=by
  rcases BN c t x with ⟨q,_⟩ | ⟨q,_⟩
  · omega
  · omega
structure U7 (c:Cx) (l:List En) (k:Nat) (t:Tr):Prop where
  tr:kE c t
  sub:t.seen.Sublist (rE (l.take k))
  sl:t.sales.length≤LQ (l.take k)
  od:t.ord.length≤k
theorem U7.new {c:Cx}(hc:iL c) (l:List En):U7 c l 0 ⟨oB c,[],[],[]⟩:=⟨kE.new hc,List.nil_sublist _,bW _,bW _⟩
theorem tY {l:List En}{k:Nat}(h:k<l.length):l.take (k+1)=l.take k++[l[k]]:=aP h
theorem U7.skip {c:Cx}{l:List En}{k:Nat}{t:Tr}(h:U7 c l k t) (hk:k<l.length):U7 c l (k+1) t:=by
  refine ⟨h.tr,?_,?_,zL1 h.od⟩
  · rw [tY hk,F9];exact h.sub.trans (List.sublist_append_left _ _)
  · rw [tY hk,E2];have:=h.sl;omega
theorem U7.see {c:Cx}{l:List En}{k:Nat}{t:Tr}(hc:iL c) (h:U7 c l k t) (hk:k<l.length) (hs:l[k].sold=false) (h0:(eY c t.gs l[k].s).1=0):U7 c l (k+1) ⟨(eY c t.gs l[k].s).2,t.seen++[l[k].s],t.sales,t.ord++[false]⟩:=by
  refine ⟨h.tr.see hc h0,?_,?_,by simp;exact h.od⟩
  · rw [tY hk,F9,if_neg (by rw [hs];decide)]
    exact h.sub.append (List.Sublist.refl _)
  · rw [tY hk,E2];have:=h.sl;dsimp only;omega
theorem U7.sell {c:Cx}{l:List En}{k:Nat}{t:Tr}(h:U7 c l k t) (hk:k<l.length) (hs:l[k].sold=true) (h0:oT c t l[k].x=0):U7 c l (k+1) (qJ t l[k].x):=by
  refine ⟨h.tr.sell _ (Q9 h0),?_,?_,by unfold qJ;simp;exact h.od⟩
  · rw [tY hk,F9];exact h.sub.trans (List.sublist_append_left _ _)
  · rw [tY hk,E2,if_pos hs];have:=h.sl;unfold qJ;simp;omega
theorem U7.add {c:Cx}{l:List En}{k:Nat}{t:Tr}(hc:iL c) (h:U7 c l k t) (hk:k<l.length):U7 c l (k+1) (G4 c t l[k]).2:=by
  rcases XN c t l[k] with ⟨e,_⟩ | ⟨s,e1,rfl,e2,_,e,_⟩ | ⟨e1,e2,_,e,_⟩
  · rw [e];exact h.skip hk
  · rw [e];exact h.see hc hk e1 e2
  · rw [e];exact h.sell hk e1 e2
theorem U7.swap {c:Cx}{l:List En}{k:Nat}{t:Tr}(h:U7 c l k t) (h5:zN (rE l)≤5):zN t.seen≤5:=by
  refine bG (List.Sublist.countP_le h.sub) (bG ?_ h5);have e:rE l=rE (l.take k)++rE (l.drop k):=by
    unfold rE;rw [← bT,← nO,bS]
  rw [e,IA];exact iV _ _
theorem U7.mem {c:Cx}{l:List En}{k:Nat}{t:Tr}(h:U7 c l k t):∀ s,s∈t.seen→∃ e,e∈l∧e.s=s:=fun s hs=>by
  obtain ⟨e,he,rfl⟩:=bA.1 (h.sub.mem hs);exact ⟨e,dS (dW.1 he).1,rfl⟩
theorem U7.len {c:Cx}{l:List En}{k:Nat}{t:Tr}(h:U7 c l k t):t.seen.length≤k∧t.sales.length≤k:=by
  have h1:=h.sub.length_le;have h2:=NR (l.take k);have h3:=LP (l.take k);have h4:=h.sl;rw [bH] at h2 h3;omega
theorem zG0 {l:List En}{n m:Nat}(h:NO l n m=true):l.length≤n+m∧zN (rE l)≤5∧∀ s,s∈rE l→s.ids.length≤12:=by
  unfold NO at h;simp only [aN,decide_eq_true_eq] at h;obtain ⟨⟨h1,h2⟩,h3⟩:=h;rw [bO (by omega)] at h3
  unfold JI at h3;simp only [aN,decide_eq_true_eq,bK] at h3;obtain ⟨⟨h4,h5⟩,h6⟩:=h3;rw [bO (by omega)] at h4 h6
  exact ⟨h1,h6,h4⟩
theorem U7.ids {c:Cx}{l:List En}{k:Nat}{t:Tr}(h:U7 c l k t) (hx:∀ s,s∈rE l→s.ids.length≤12):∀ s,s∈t.seen→s.ids.length≤9223372036854775807:=fun s hs=>by
  obtain ⟨e,he,rfl⟩:=bA.1 (h.sub.mem hs);obtain ⟨h1,h2⟩:=dW.1 he;have:=hx e.s (bA.2 ⟨e,dW.2 ⟨dS h1,h2⟩,rfl⟩);omega
def iJ (t t':Tr):Prop:=(t'.seen=t.seen∨∃ s,t'.seen=t.seen++[s])∧∃ r,t'.sales=t.sales++r
theorem iJ.get {t t':Tr}(h:iJ t t'){k:Nat}{x:Sd}(hk:t.sales[k]? = some x):t'.sales[k]? = some x:=by
  obtain ⟨_,r,e⟩:=h;rw [e,aG (aB.1 hk).1];exact hk
theorem iJ.ids {c:Cx}{t t':Tr}(h:iJ t t'){x:Sd}(hn:x.n≤t.seen.length):∀ i,i∈lD c t'.seen x→i∈lD c t.seen x:=by
  rcases h.1 with e | ⟨s,e⟩
  · rw [e];exact fun _ h=>h
  · rw [e];exact zD7 hn
end Go.Ld
namespace Go.Proofs.YtmmmeebiobjnbaaGreat
open Go Go.Ab Go.Ld
attribute [local irreducible] VC AW cD aT jE zU
set_option maxHeartbeats 4000000
theorem pS {h:Hp}{c:Cx}{t:Tr}{a b d e f n m q:Nat}(h0:h[a]? = some (.cells [.rowE (iI c.ls) 3,.rowE (cW c.bs) 3,.ptr b 0,.sl d 0 n 5,.sl e 0 m 6,.sl f 0 q 1])) (h1:h[b]? = some (.cells (kI c t.gs))) (h2:h[d]? = some (.arr (oX t.seen) 5)) (h3:h[e]? = some (.arr (tE c t.sales) 6)) (h4:h[f]? = some (.arr (A5 t.ord) 1))
    (e1:n=t.seen.length) (e2:m=t.sales.length) (e3:q=t.ord.length):oF h (.ptr a 0) (.pr (HY c t) 0):=
  .ptr h0 (.cons (.row _ _ _) (.cons (.row _ _ _) (.cons (.ptr h1 (lJ _ rfl)) (.cons (nP h2 (by rw [e1,sD]) (UC _)) (.cons (nP h3 (by rw [e2,uM]) (zO6 _ _)) (.cons (nP h4 (by rw [e3,K3]) (zW6 _)) .nil))))))
theorem yL8 (c:Cx) (t:Tr) (e:En) (hc:iL c) (h:kE c t) (hb:c.bs.length≤1000) (hids:e.sold=false→e.s.ids.length≤1000000) (hn:t.seen.length≤100000) (hm:t.sales.length≤100000) (hq:t.ord.length≤100000) :
    aT Tryz.prog 15 [.ptr 0 0,.agg (zU9 e)] (KO c t) (.i (G4 c t e).1) (EQ c t e):=by
  have hs1:=SK c t e.x h hb hn hq hm;have hs2:=fun q=>SL c t e.s hc h (hids q) hn hq;have hs3:=fun q=>zN0 c t e.s hc h (hids q);obtain ⟨es,⟨ek,ea,eb,en,eids⟩,⟨xt,xo,xb,xn⟩⟩:=e;unfold G4 EQ ZG;dsimp only at *;have i1:=eZ t.seen;have i2:=fF c t.sales;have i3:=fG t.ord;cases es with
  | true=>
    rw [if_pos rfl,if_pos rfl];by_cases q:oT c t ⟨xt,xo,xb,xn⟩=0
    · rw [if_pos q] at hs1;rw [if_pos q,if_pos q];rw [q] at hs1;have j1:=eZ (qJ t ⟨xt,xo,xb,xn⟩).seen;have j2:=fF c (qJ t ⟨xt,xo,xb,xn⟩).sales;have j3:=fG (qJ t ⟨xt,xo,xb,xn⟩).ord;generalize qJ t ⟨xt,xo,xb,xn⟩=t' at *;refine bU T Tryz.func15 rfl rfl rfl rfl ?_
      (repeat' (first|refine wS ?_|(refine rg 0 (cC (cO rfl rfl) rfl (aV ?_)))|refine nZ ?_));refine fH 3 (cs:=zU9 ⟨true,⟨ek,ea,eb,en,eids⟩,⟨xt,xo,xb,xn⟩⟩) rfl rfl rfl ?_
      (repeat' (first|refine wS ?_|refine wR ?_|refine wT ?_|(refine rg 1 (JF T ?_))|(refine rg 2 (mW rfl (gI T rfl (eC [0,1,2,3,4] rfl rfl (hs1) rfl rfl (by decide) ⟨.inr rfl,.inr rfl,.inr (aC rfl rfl i1),.inr (aC rfl rfl i2),.inr (aC rfl rfl i3),trivial⟩ (by simp) rfl ?_)));refine aV ?_)|refine nZ ?_));all_goals try (exfalso;omega)
      all_goals exact ⟨.inl rfl,[0,1,2,3,4,6,7],_,rfl,rfl,rfl,⟨.inr rfl,.inr rfl,.inr (aC rfl (bB _ j1) j1),.inl rfl,.inl rfl,.inr (aC rfl (bB _ j2) j2),.inr (aC rfl (bB _ j3) j3),trivial⟩,by decide,zC0 _ _⟩
    · rw [if_neg q] at hs1;rw [if_neg q,if_neg q];generalize oT c t ⟨xt,xo,xb,xn⟩=code at *;refine bU T Tryz.func15 rfl rfl rfl rfl ?_
      (repeat' (first|refine wS ?_|(refine rg 0 (cC (cO rfl rfl) rfl (aV ?_)))|refine nZ ?_));refine fH 3 (cs:=zU9 ⟨true,⟨ek,ea,eb,en,eids⟩,⟨xt,xo,xb,xn⟩⟩) rfl rfl rfl ?_
      (repeat' (first|refine wS ?_|refine wR ?_|refine wT ?_|(refine rg 1 (JF T ?_))|(refine rg 2 (mW rfl (gI T rfl (eC [0,1,2,3,4] rfl rfl (hs1) rfl rfl (by decide) ⟨.inr rfl,.inr rfl,.inr (aC rfl rfl i1),.inr (aC rfl rfl i2),.inr (aC rfl rfl i3),trivial⟩ (by simp) rfl ?_)));refine aV ?_)|refine nZ ?_));all_goals try (exfalso;omega)
      all_goals exact ⟨.inl rfl,[0,1,2,3,4],_,rfl,rfl,rfl,⟨.inr rfl,.inr rfl,.inr (aC rfl (bB _ i1) i1),.inr (aC rfl (bB _ i2) i2),.inr (aC rfl (bB _ i3) i3),trivial⟩,by decide,zY7⟩
  | false=>
    rw [if_neg lQ,if_neg lQ];by_cases q:(eY c t.gs ⟨ek,ea,eb,en,eids⟩).1=0
    · have hs2:=hs2 rfl q;rw [if_pos q,if_pos q];dsimp only;have j1:=eZ (t.seen++[⟨ek,ea,eb,en,eids⟩]);have j3:=fG (t.ord++[false]);generalize (eY c t.gs ⟨ek,ea,eb,en,eids⟩).2=g' at *;generalize t.seen++[⟨ek,ea,eb,en,eids⟩]=se' at *;generalize t.ord++[false]=or' at *;refine bU T Tryz.func15 rfl rfl rfl rfl ?_
      (repeat' (first|refine wS ?_|(refine rg 0 (cC (cO rfl rfl) rfl (aV ?_)))|refine nZ ?_));refine fH 3 (cs:=zU9 ⟨false,⟨ek,ea,eb,en,eids⟩,⟨xt,xo,xb,xn⟩⟩) rfl rfl rfl ?_
      (repeat' (first|refine wS ?_|refine wK ?_|refine wR ?_|refine wU ?_|(refine rg 1 (JF T ?_))|(refine rg 3 (mW rfl (gI T rfl (eC [0,1,2,3,4] rfl rfl (hs2) rfl rfl (by decide) ⟨.inr rfl,.inr rfl,.inr (aC rfl rfl i1),.inr (aC rfl rfl i2),.inr (aC rfl rfl i3),trivial⟩ (by simp) rfl ?_)));refine aV ?_)|refine nZ ?_));all_goals try (exfalso;omega)
      all_goals exact ⟨.inl rfl,[0,1,2,3,4,6,7],_,rfl,rfl,rfl,⟨.inr rfl,.inr rfl,.inl rfl,.inr (aC rfl (bB _ i2) i2),.inl rfl,.inr (aC rfl (bB _ j1) j1),.inr (aC rfl (bB _ j3) j3),trivial⟩,by decide,zC0 _ _⟩
    · have hs3:=hs3 rfl q;rw [if_neg q,if_neg q];dsimp only;generalize (eY c t.gs ⟨ek,ea,eb,en,eids⟩).1=code at *;refine bU T Tryz.func15 rfl rfl rfl rfl ?_
      (repeat' (first|refine wS ?_|(refine rg 0 (cC (cO rfl rfl) rfl (aV ?_)))|refine nZ ?_));refine fH 3 (cs:=zU9 ⟨false,⟨ek,ea,eb,en,eids⟩,⟨xt,xo,xb,xn⟩⟩) rfl rfl rfl ?_
      (repeat' (first|refine wS ?_|refine wK ?_|refine wR ?_|refine wU ?_|(refine rg 1 (JF T ?_))|(refine rg 3 (mW rfl (gI T rfl (eC [0,1,2,3,4] rfl rfl (hs3) rfl rfl (by decide) ⟨.inr rfl,.inr rfl,.inr (aC rfl rfl i1),.inr (aC rfl rfl i2),.inr (aC rfl rfl i3),trivial⟩ (by simp) rfl ?_)));refine aV ?_)|refine nZ ?_));all_goals try (exfalso;omega)
      all_goals exact ⟨.inl rfl,[0,1,2,3,4],_,rfl,rfl,rfl,⟨.inr rfl,.inr rfl,.inr (aC rfl (bB _ i1) i1),.inr (aC rfl (bB _ i2) i2),.inr (aC rfl (bB _ i3) i3),trivial⟩,by decide,zY7⟩
end Go.Proofs.YtmmmeebiobjnbaaGreat
namespace Go.Ld
open Go.Ab Go.Proofs.YtmmmeebiobjnbaaGreat
def d0:Cx:=⟨0,0,0,0,[(⟨#[110,117,116]⟩,10)],[(0,0,false),(0,0,false),(0,0,false)],[(0,5,0),(1,3,0),(2,2,0)]⟩
theorem rG:iL d0:=⟨⟨by decide,by decide,by decide,by decide,by decide,by decide,by decide,by decide,by decide⟩,by unfold mH d0;decide⟩
def y1:Ev:=⟨4,0,1,0,[]⟩
def y2:Ev:=⟨5,1,0,1,[]⟩
def y3:Ev:=⟨5,0,0,0,[]⟩
def z1:Sl:=⟨1,0,0,1⟩
def h0:List G:=oB d0
def h1:List G:=(eY d0 h0 y1).2
def yR0:List G:=(eY d0 h1 y2).2
def yM2:List G:=(eY d0 h1 y1).2
def yQ9:List G:=(eY d0 yM2 y3).2
def EK:Sd:=⟨z1,h1,1⟩
def u0:Tr:=⟨h0,[],[],[]⟩
def u1:Tr:=⟨h1,[y1],[],[false]⟩
def u2:Tr:=⟨h1,[y1],[EK],[false,true]⟩
def zM8:Tr:=⟨yR0,[y1,y2],[EK],[false,true,false]⟩
def zY1:Tr:=⟨yM2,[y1,y1],[EK],[false,true,false]⟩
def zM7:Tr:=⟨yQ9,[y1,y1,y3],[EK],[false,true,false,false]⟩
theorem v0:(eY d0 h0 y1).1=0:=by decide +kernel
theorem yQ0:(eY d0 h1 y2).1=0:=by decide +kernel
theorem yP9:(eY d0 h1 y1).1=0:=by decide +kernel
theorem yP8:(eY d0 yM2 y3).1=0:=by decide +kernel
theorem k0:kE d0 u0:=kE.new rG
theorem k1:kE d0 u1:=k0.see rG v0
theorem k2:kE d0 u2:=k1.sell z1 (by decide)
theorem yN8:kE d0 zM8:=by
  have h:kE d0 ⟨yR0,[y1]++[y2],[EK],[false,true]++[false]⟩:=kE.see (t:=u2) (s:=y2) rG k2 yQ0;exact h
theorem yQ8:kE d0 zY1:=by
  have h:kE d0 ⟨yM2,[y1]++[y1],[EK],[false,true]++[false]⟩:=kE.see (t:=u2) (s:=y1) rG k2 yP9;exact h
theorem yN7:kE d0 zM7:=by
  have h:kE d0 ⟨yQ9,[y1,y1]++[y3],[EK],[false,true,false]++[false]⟩:=kE.see (t:=zY1) (s:=y3) rG yQ8 yP8;exact h
theorem yQ4:oT d0 u1 z1=0:=by decide +kernel
theorem yR9:Z6 h1 0=some (mK h1 0,0):=by kernel_rfl
theorem yN3:B4 EK=[0,1]:=by
  unfold B4;rw [show Z6 EK.gs EK.s.b=_ from yR9]
  show vI (mK h1 0) 0=[0,1];unfold vI;rw [uJ];decide +kernel
theorem yO1:lD d0 u2.seen EK=[0,1]:=by unfold lD;rw [yN3];decide +kernel
theorem yO0:lD d0 zM8.seen EK=[0]:=by unfold lD;rw [yN3];decide +kernel
theorem yN9:lD d0 zM7.seen EK=[0,1]:=by unfold lD;rw [yN3];decide +kernel
theorem yH1:pO d0 [0,1]=[0,1]:=by unfold pO;rw [uJ];decide +kernel
theorem yP0:pO d0 [0]=[0]:=by unfold pO;rw [uJ];decide +kernel
theorem zP3 {c:Cx}{t:Tr}{x:Sd}(h:t.sales=[x]) (lot:Int):zP4 c t lot=if lot∈sX (pO c (lD c t.seen x)) then [0] else []:=by
  unfold zP4 sY;rw [h];by_cases q:lot∈sX (pO c (lD c t.seen x)) <;> simp [q,rR,nats]
end Go.Ld
namespace Go.Proofs.YtmmmeebiobjnbaaGreat
open Go Go.Ab Go.Ld
attribute [local irreducible] VC AW cD aT jE zU
set_option maxHeartbeats 4000000
theorem SW:Tryz.prog.underlying 35=some (.pointer 83):=by kernel_rfl
theorem AE (c:Cx) (t:Tr) (k a b n:Int) (hc:iL c) (h:kE c t) (hn:t.seen.length≤100000) (hm:t.ord.length≤100000) (h0:(eY c t.gs ⟨k,a,b,n,[]⟩).1=0) :
    aT Tryz.prog 21 [.ptr 0 0,.agg [.i k,.i a,.i b,.i n,.nils]] (KO c t) (.i 0) (G9 c ⟨(eY c t.gs ⟨k,a,b,n,[]⟩).2,t.seen++[⟨k,a,b,n,[]⟩],t.sales,t.ord++[false]⟩):=
  HN (SL c t ⟨k,a,b,n,[]⟩ hc h (bW _) hn hm h0) fun S w ρ ys=>jG (fun _ h=>h) fun ys=>jG (fun _ h=>ON h) fun _ h=>h
theorem WT:aT Tryz.prog 26 [] [] (.ptr 0 0) (KO d0 u2):=by
  have hn:=YH d0 rG;have hs:=AE d0 u0 4 0 1 0 rG k0 (by decide) (by decide) v0
  change aT _ _ _ _ _ (G9 d0 u1) at hs;have hz:=SK d0 u1 z1 k1 (by decide) (by decide) (by decide) (by decide)
  rw [if_pos yQ4,yQ4] at hz;change aT _ _ [.ptr 0 0,.agg [.i 1,.i 0,.i 0,.i 1]] _ _ (I9 d0 u2) at hz;change aT _ _ [.agg [.i 0,.i 0,.i 0,.i 0],.rowE [[.v (.string ⟨#[110,117,116]⟩),.i 10]] 2,.rowE [[.i 0,.i 0,.b false],[.i 0,.i 0,.b false],[.i 0,.i 0,.b false]] 3,.rowE [[.i 0,.i 5,.i 0],[.i 1,.i 3,.i 0],[.i 2,.i 2,.i 0]] 3] _ _ [.cells [.rowE (iI d0.ls) 3,.rowE (cW d0.bs) 3,.ptr 1 0,.nils,.nils,.nils],.cells (kI d0 h0)] at hn;have i1:=eZ u1.seen;have i2:=fF d0 u1.sales;have i3:=fG u1.ord;have j1:=eZ u2.seen;have j2:=fF d0 u2.sales;have j3:=fG u2.ord;have e0:u0.gs=h0:=rfl;have e1:u0.seen=[]:=rfl;have e2:u0.sales=[]:=rfl;have e3:u0.ord=[]:=rfl;generalize u0=U0 at *;generalize u1=U1 at *;generalize u2=U2 at *;generalize h0=H0 at *;obtain ⟨g0,s0,sa0,o0⟩:=U0;have hD:True:=trivial;dsimp only at e0 e1 e2 e3;subst e0 e1 e2 e3;clear hD;generalize d0=D at *;refine bU T Tryz.func26 rfl rfl rfl rfl ?_
  (repeat' (first|refine wS ?_|(refine rg 0 (aV ?_))|(refine rg 1 (vV (by exact eO T rfl rfl rfl rfl) ?_);refine cC (by exact bE T rfl rfl (by decide) (by decide) rfl rfl rfl) rfl ?_;refine mN 7 rfl rfl rfl rfl ?_;refine aV ?_)|(refine rg 2 (vV (by exact eO T rfl rfl rfl rfl) ?_);refine vV (by exact eO T rfl rfl rfl rfl) ?_;refine vV (by exact eO T rfl rfl rfl rfl) ?_;refine cC (by exact bE T rfl rfl (by decide) (by decide) rfl rfl rfl) rfl ?_;refine mN 11 rfl rfl rfl rfl ?_;refine aV ?_)|(refine rg 3 (vV (by exact eO T rfl rfl rfl rfl) ?_);refine vV (by exact eO T rfl rfl rfl rfl) ?_;refine vV (by exact eO T rfl rfl rfl rfl) ?_;refine cC (by exact bE T rfl rfl (by decide) (by decide) rfl rfl rfl) rfl ?_;refine mN 15 rfl rfl rfl rfl ?_;refine aV ?_)|refine nZ ?_));all_goals try (exfalso;omega)
  (repeat' (first|refine wS ?_|(refine rg 4 (vV (by exact eO T rfl rfl rfl rfl) ?_);refine dI rfl (mW rfl (cC (by exact fN rfl rfl hn (.inr ⟨rfl,rfl,by simp⟩)) rfl ?_));refine mW rfl (xW rfl (xW rfl (sG ?_))))|refine nZ ?_));all_goals try (exfalso;omega)
  refine oN 3 3 5 rfl rfl (by decide) ?_
  refine oN 3 4 6 rfl rfl (by decide) ?_
  refine oN 3 5 1 rfl rfl (by decide) ?_
  refine fO [(4,.ptr 0 0),(5,.i 0)] [.cells [.rowE (iI D.ls) 3,.rowE (cW D.bs) 3,.ptr 1 0,.sl 2 0 0 5,.sl 3 0 0 6,.sl 4 0 0 1],.cells (kI D g0),.arr [] 5,.arr [] 6,.arr [] 1] ⟨[3,4,5,6,7],rfl,(by repeat first|exact trivial|refine ⟨rfl,?_⟩),⟨.inr rfl,.inr rfl,.inr rfl,.inr rfl,.inr rfl,trivial⟩,by decide,jY _⟩ ?_
  (repeat' (first|refine wS ?_|refine wK ?_|refine wR ?_|refine wU ?_|(refine rg 5 (mW rfl (vV (gB rfl rfl) (mW rfl (yN rfl (yV (by exact yS SW rfl rfl rfl) ?_)))));refine pV ?_)|(refine rg 7 (mW rfl (vV (by exact eO T rfl rfl rfl rfl) ?_));refine eC [0,1,2,3,4] rfl rfl (hs) rfl rfl (by decide) ⟨.inr rfl,.inr rfl,.inr rfl,.inr rfl,.inr rfl,trivial⟩ (by simp) rfl ?_;refine vV (gB rfl rfl) (mW rfl (yN rfl (yV (by exact eO T rfl rfl rfl rfl) ?_)));refine gT (eC [0,1,5,3,6] rfl rfl (hz) rfl rfl (by decide) ⟨.inr rfl,.inr rfl,.inr (aC rfl (bB _ i1) i1),.inr (aC rfl (bB _ i2) i2),.inr (aC rfl (bB _ i3) i3),trivial⟩ (by simp) rfl ?_);refine yV (gB rfl rfl) (pV ?_))|(refine rg 9 (mW rfl (aV ?_)))|refine nZ ?_));all_goals try (exfalso;omega)
  all_goals exact ⟨.inl rfl,[0,1,5,7,8],_,rfl,rfl,rfl,⟨.inr rfl,.inr rfl,.inr (aC rfl (bB _ j1) j1),.inr (aC rfl (bB _ j2) j2),.inr (aC rfl (bB _ j3) j3),trivial⟩,by decide,jY _⟩
end Go.Proofs.YtmmmeebiobjnbaaGreat
namespace Go.Ld
open Go.Ab Go.Proofs.YtmmmeebiobjnbaaGreat
abbrev zN2 (c:Cx) (t:Tr) (l:Hp):Hp:=.cells (yQ2 c t.seen.length t.sales.length t.ord.length) :: .cells (kI c t.gs) :: .arr (oX t.seen) 5 :: .arr (tE c t.sales) 6 :: .arr (A5 t.ord) 1::l
abbrev yM0 (c:Cx) (t:Tr):Hp:=[.cells [.rowE (iI c.ls) 3,.rowE (cW c.bs) 3,.ptr 6 0,.sl 7 0 t.seen.length 5,.sl 8 0 t.sales.length 6,.sl 9 0 t.ord.length 1],.cells (kI c t.gs),.arr (oX t.seen) 5,.arr (tE c t.sales) 6,.arr (A5 t.ord) 1]
end Go.Ld
namespace Go.Proofs.YtmmmeebiobjnbaaGreat
open Go Go.Ab Go.Ld
attribute [local irreducible] VC AW cD aT jE zU
set_option maxHeartbeats 4000000
theorem AF {c:Cx}{t:Tr}{x:Sd}{l a:List Int}(hc:iL c) (h:kE c t) (hk:t.sales[0]? = some x) (hl:t.seen.length≤10) (hids:∀ s,s∈t.seen→s.ids=[]) (e1:lD c t.seen x=l) (e2:pO c l=a) :
    aT Tryz.prog 12 [.pr (HY c t) 0,.i 0] [] (.tup [.i (H1 a).1,.b (H1 a).2]) []:=by
  have h1:=YQ (k:=0) hc h hk (by omega) (fun s hs=>by rw [hids s hs];exact bW _)
  rw [e1,e2] at h1;exact h1
theorem IW {c:Cx}{t:Tr}{x:Sd}{l a:List Int}(hc:iL c) (h:kE c t) (hk:t.sales[0]? = some x) (hl:t.seen.length≤10) (hids:∀ s,s∈t.seen→s.ids=[]) (e1:lD c t.seen x=l) (e2:pO c l=a) :
    aT Tryz.prog 14 [.pr (HY c t) 0,.i 0] [] (.sl 0 0 (sX a).length 1) [.arr (ints (sX a)) 1]:=by
  have h1:=MV (k:=0) hc h hk (by omega) (fun s hs=>by rw [hids s hs];exact bW _)
  rw [e1,e2] at h1;exact h1
theorem PV {c:Cx}{t:Tr}{x:Sd}{l a:List Int}(lot:Int) (hc:iL c) (h:kE c t) (hk:t.sales=[x]) (hl:t.seen.length≤10) (hids:∀ s,s∈t.seen→s.ids=[]) (e1:lD c t.seen x=l) (e2:pO c l=a) :
    aT Tryz.prog 22 [.pr (HY c t) 0,.i lot] [] (.sl 0 0 (if lot∈sX a then [0] else []:List Int).length 1) [.arr (ints (if lot∈sX a then [0] else [])) 1]:=by
  have h1:=ZO c t lot hc h (by omega) (by rw [hk];exact (by decide:1≤100000)) (fun s hs=>by rw [hids s hs];exact bW _)
  rw [zP3 hk,e1,e2] at h1;exact h1
theorem yC2:∀ s,s∈u2.seen→s.ids=[]:=by intro s hs;simp only [u2,bN,kS,or_false] at hs;subst hs;rfl
theorem yC1:∀ s,s∈zM8.seen→s.ids=[]:=by intro s hs;simp only [zM8,bN,kS,or_false] at hs;rcases hs with rfl | rfl <;> rfl
theorem yC0:∀ s,s∈zM7.seen→s.ids=[]:=by intro s hs;simp only [zM7,bN,kS,or_false] at hs;rcases hs with rfl | rfl | rfl <;> rfl
theorem FK:aT Tryz.prog 6 [] [] (.b true) []:=by
  have hgv:=WT;have s1:=AE d0 u2 5 1 0 1 rG k2 (by decide) (by decide) yQ0
  change aT _ _ _ _ _ (G9 d0 zM8) at s1;have s2:=AE d0 u2 4 0 1 0 rG k2 (by decide) (by decide) yP9
  change aT _ _ _ _ _ (G9 d0 zY1) at s2;have s3:=AE d0 zY1 5 0 0 0 rG yQ8 (by decide) (by decide) yP8
  change aT _ _ _ _ _ (G9 d0 zM7) at s3;have q1:=AF rG k2 (x:=EK) rfl (by decide) yC2 yO1 yH1
  have q2:=IW rG k2 (x:=EK) rfl (by decide) yC2 yO1 yH1
  have q3:=PV 1 rG k2 (x:=EK) rfl (by decide) yC2 yO1 yH1
  have q4:=AF rG yN8 (x:=EK) rfl (by decide) yC1 yO0 yP0
  have q5:=IW rG yN8 (x:=EK) rfl (by decide) yC1 yO0 yP0
  have q6:=PV 1 rG yN8 (x:=EK) rfl (by decide) yC1 yO0 yP0
  have q7:=AF rG yN7 (x:=EK) rfl (by decide) yC0 yN9 yH1
  have q8:=IW rG yN7 (x:=EK) rfl (by decide) yC0 yN9 yH1
  have q9:=PV 1 rG yN7 (x:=EK) rfl (by decide) yC0 yN9 yH1
  change aT _ _ _ _ (.tup [.i 0,.b false]) _ at q1 q7;change aT _ _ _ _ (.tup [.i 0,.b true]) _ at q4;change aT _ _ _ _ (.sl 0 0 2 1) [.arr [[.i 0],[.i 1]] 1] at q2 q8;change aT _ _ _ _ (.sl 0 0 1 1) [.arr [[.i 0]] 1] at q5 q3 q9;change aT _ _ _ _ (.sl 0 0 0 1) [.arr [] 1] at q6;have i1:=eZ u2.seen;have i2:=fF d0 u2.sales;have i3:=fG u2.ord;have j1:=eZ zM8.seen;have j2:=fF d0 zM8.sales;have j3:=fG zM8.ord;have l1:=eZ zY1.seen;have l2:=fF d0 zY1.sales;have l3:=fG zY1.ord;have m1:=eZ zM7.seen;have m2:=fF d0 zM7.sales;have m3:=fG zM7.ord;generalize u2=U2 at *;generalize zM8=U3 at *;generalize zY1=V3 at *;generalize zM7=V4 at *;generalize d0=D at *;have t1:=J1 [0,1] [0,1] (by decide)
  rw [show decide (([0,1]:List Int)=[0,1])=true from rfl] at t1
  have t2:=J1 [0] [0] (by decide)
  rw [show decide (([0]:List Int)=[0])=true from rfl] at t2
  refine bU T Tryz.func6 rfl rfl rfl rfl ?_
  (repeat' (first|refine wS ?_|(refine rg 0 (aV ?_))|(refine rg 1 (cC (by exact fN rfl rfl hgv (.inr ⟨rfl,rfl,by simp⟩)) rfl ?_);refine aV ?_)|refine nZ ?_));refine fO [(1,.ptr 0 0)] (KO D U2) ⟨[0,1,2,3,4],rfl,(by repeat first|exact trivial|refine ⟨rfl,?_⟩),⟨.inr rfl,.inr rfl,.inr (aC rfl (bB _ i1) i1),.inr (aC rfl (bB _ i2) i2),.inr (aC rfl (bB _ i3) i3),trivial⟩,by decide,jY _⟩ ?_
  (repeat' (first|refine wS ?_|(refine rg 2 (cC (by exact fN rfl rfl hgv (.inr ⟨rfl,rfl,by simp⟩)) rfl ?_);refine aV ?_)|refine nZ ?_));refine fO [(1,.ptr 0 0),(2,.ptr 5 0)] (zN2 D U2 (yM0 D U2)) ⟨[0,1,2,3,4,5,6,7,8,9],rfl,(by repeat first|exact trivial|refine ⟨rfl,?_⟩),⟨.inr rfl,.inr rfl,.inr (aC rfl rfl i1),.inr (aC rfl rfl i2),.inr (aC rfl rfl i3),.inr rfl,.inr rfl,.inr (aC rfl (bB _ i1) i1),.inr (aC rfl (bB _ i2) i2),.inr (aC rfl (bB _ i3) i3),trivial⟩,by decide,jY _⟩ ?_
  (repeat' (first|refine wS ?_|refine wK ?_|refine wU ?_|(refine rg 3 (mW rfl (vV (by exact yS SW rfl rfl rfl) ?_));refine mW rfl (yN rfl (yV (by exact yS SW rfl rfl rfl) ?_));refine pV ?_)|refine nZ ?_));all_goals try (exfalso;omega)
  (repeat' (first|refine wS ?_|(refine rg 5 (mW rfl (vV (by exact fM rfl rfl q1 (.cons (pS rfl rfl rfl rfl rfl rfl rfl rfl) (.cons (.v _) .nil)) rfl rfl) ?_));refine mW rfl (xW rfl (xW rfl (sG ?_))))|refine nZ ?_));all_goals try (exfalso;omega)
  (repeat' (first|refine wS ?_|(refine rg 6 (mW rfl (cC (by exact fN rfl rfl q2 (.inl ⟨.cons (pS rfl rfl rfl rfl rfl rfl rfl rfl) (.cons (.v _) .nil),rfl⟩)) rfl ?_));refine mN 26 rfl rfl rfl rfl ?_;refine cC (by exact bE T rfl rfl (by decide) (by decide) rfl rfl rfl) rfl ?_;refine mN 27 rfl rfl rfl rfl ?_;refine vV (kC (t1)) (mW rfl (yN rfl (gT (cC (by exact fN rfl rfl q3 (.inl ⟨.cons (pS rfl rfl rfl rfl rfl rfl rfl rfl) (.cons (.v _) .nil),rfl⟩)) rfl ?_))));refine mN 31 rfl rfl rfl rfl ?_;refine gT (cC (by exact bE T rfl rfl (by decide) (by decide) rfl rfl rfl) rfl ?_);refine mN 32 rfl rfl rfl rfl ?_;refine yV (kC (t2)) (pW rfl (mW rfl (yN rfl (yV (eH rfl) (pW rfl (aV ?_)))))))|refine nZ ?_));all_goals try (exfalso;omega)
  refine fO [(1,.ptr 0 0),(2,.ptr 5 0),(5,.b true)] (zN2 D U2 (yM0 D U2)) ⟨[0,1,2,3,4,5,6,7,8,9],rfl,(by repeat first|exact trivial|refine ⟨rfl,?_⟩),⟨.inr rfl,.inr rfl,.inr (aC rfl rfl i1),.inr (aC rfl rfl i2),.inr (aC rfl rfl i3),.inr rfl,.inr rfl,.inr (aC rfl rfl i1),.inr (aC rfl rfl i2),.inr (aC rfl rfl i3),trivial⟩,by decide,jY _⟩ ?_
  (repeat' (first|refine wS ?_|(refine rg 7 (mW rfl (vV (by exact eO T rfl rfl rfl rfl) ?_));refine eC [0,1,2,3,4] rfl rfl (s1) rfl rfl (by decide) ⟨.inr rfl,.inr rfl,.inr (aC rfl rfl i1),.inr (aC rfl rfl i2),.inr (aC rfl rfl i3),trivial⟩ (by simp) rfl ?_;refine aV ?_)|refine nZ ?_));all_goals try (exfalso;omega)
  refine fO [(1,.ptr 0 0),(2,.ptr 5 0),(5,.b true),(6,.i 0)] (zN2 D U3 (yM0 D U2)) ⟨[0,1,10,3,11,5,6,7,8,9],rfl,(by repeat first|exact trivial|refine ⟨rfl,?_⟩),⟨.inr rfl,.inr rfl,.inr (aC rfl (bB _ j1) j1),.inr (aC rfl (bB _ j2) j2),.inr (aC rfl (bB _ j3) j3),.inr rfl,.inr rfl,.inr (aC rfl rfl i1),.inr (aC rfl rfl i2),.inr (aC rfl rfl i3),trivial⟩,by decide,jY _⟩ ?_
  (repeat' (first|refine wS ?_|(refine rg 8 (mW rfl (vV (by exact fM rfl rfl q4 (.cons (pS rfl rfl rfl rfl rfl rfl rfl rfl) (.cons (.v _) .nil)) rfl rfl) ?_));refine mW rfl (xW rfl (xW rfl (sG ?_))))|refine nZ ?_));all_goals try (exfalso;omega)
  (repeat' (first|refine wS ?_|(refine rg 9 (mW rfl (vV (eD rfl rfl) (mW rfl (yN rfl (gT (cC (by exact fN rfl rfl q5 (.inl ⟨.cons (pS rfl rfl rfl rfl rfl rfl rfl rfl) (.cons (.v _) .nil),rfl⟩)) rfl ?_))))));refine mN 51 rfl rfl rfl rfl ?_;refine gT (cC (by exact bE T rfl rfl (by decide) (by decide) rfl rfl rfl) rfl ?_);refine mN 52 rfl rfl rfl rfl ?_;refine yV (kC (t2)) (pW rfl (mW rfl (yN rfl (gT (cC (by exact fN rfl rfl q6 (.inl ⟨.cons (pS rfl rfl rfl rfl rfl rfl rfl rfl) (.cons (.v _) .nil),rfl⟩)) rfl ?_)))));refine mN 57 rfl rfl rfl rfl ?_;refine gT (qW T rfl (yV (eD rfl rfl) (pW rfl (mW rfl (yN rfl (pW rfl (mW rfl (yN rfl (yV (eD rfl rfl) ?_)))))))));refine pW rfl (aV ?_))|refine nZ ?_));all_goals try (exfalso;omega)
  refine fO [(1,.ptr 0 0),(2,.ptr 5 0),(5,.b true),(9,.b true)] (zN2 D U3 (yM0 D U2)) ⟨[0,1,2,3,4,5,6,7,8,9],rfl,(by repeat first|exact trivial|refine ⟨rfl,?_⟩),⟨.inr rfl,.inr rfl,.inr (aC rfl rfl j1),.inr (aC rfl rfl j2),.inr (aC rfl rfl j3),.inr rfl,.inr rfl,.inr (aC rfl rfl i1),.inr (aC rfl rfl i2),.inr (aC rfl rfl i3),trivial⟩,by decide,jY _⟩ ?_
  (repeat' (first|refine wS ?_|(refine rg 10 (mW rfl (vV (by exact eO T rfl rfl rfl rfl) ?_));refine eC [5,6,7,8,9] rfl rfl (s2) rfl rfl (by decide) ⟨.inr rfl,.inr rfl,.inr (aC rfl rfl i1),.inr (aC rfl rfl i2),.inr (aC rfl rfl i3),trivial⟩ (by simp) rfl ?_;refine aV ?_)|refine nZ ?_));all_goals try (exfalso;omega)
  refine fO [(2,.ptr 0 0),(5,.b true),(9,.b true),(10,.i 0)] (KO D V3) ⟨[5,6,10,8,11],rfl,(by repeat first|exact trivial|refine ⟨rfl,?_⟩),⟨.inr rfl,.inr rfl,.inr (aC rfl (bB _ l1) l1),.inr (aC rfl (bB _ l2) l2),.inr (aC rfl (bB _ l3) l3),trivial⟩,by decide,jY _⟩ ?_
  (repeat' (first|refine wS ?_|(refine rg 11 (mW rfl (vV (by exact eO T rfl rfl rfl rfl) ?_));refine eC [0,1,2,3,4] rfl rfl (s3) rfl rfl (by decide) ⟨.inr rfl,.inr rfl,.inr (aC rfl rfl l1),.inr (aC rfl rfl l2),.inr (aC rfl rfl l3),trivial⟩ (by simp) rfl ?_;refine aV ?_)|refine nZ ?_));all_goals try (exfalso;omega)
  refine fO [(2,.ptr 0 0),(5,.b true),(9,.b true),(10,.i 0),(11,.i 0)] (KO D V4) ⟨[0,1,5,3,6],rfl,(by repeat first|exact trivial|refine ⟨rfl,?_⟩),⟨.inr rfl,.inr rfl,.inr (aC rfl (bB _ m1) m1),.inr (aC rfl (bB _ m2) m2),.inr (aC rfl (bB _ m3) m3),trivial⟩,by decide,jY _⟩ ?_
  (repeat' (first|refine wS ?_|(refine rg 12 (mW rfl (vV (by exact fM rfl rfl q7 (.cons (pS rfl rfl rfl rfl rfl rfl rfl rfl) (.cons (.v _) .nil)) rfl rfl) ?_));refine mW rfl (xW rfl (xW rfl (aV ?_))))|refine nZ ?_));all_goals try (exfalso;omega)
  (repeat' (first|refine wR ?_|(refine rg 13 (dI rfl (yN rfl (pW rfl (mW rfl (yN rfl (yV (eD rfl rfl) (pW rfl (mW rfl (yM ?_)))))))));refine yV (eD rfl rfl) (pW rfl (mW rfl (yN rfl (gT (cC (by exact fN rfl rfl q8 (.inl ⟨.cons (pS rfl rfl rfl rfl rfl rfl rfl rfl) (.cons (.v _) .nil),rfl⟩)) rfl ?_)))));refine mN 93 rfl rfl rfl rfl ?_;refine gT (cC (by exact bE T rfl rfl (by decide) (by decide) rfl rfl rfl) rfl ?_);refine mN 94 rfl rfl rfl rfl ?_;refine yV (kC (t1)) (pW rfl (mW rfl (yN rfl (gT (cC (by exact fN rfl rfl q9 (.inl ⟨.cons (pS rfl rfl rfl rfl rfl rfl rfl rfl) (.cons (.v _) .nil),rfl⟩)) rfl ?_)))));refine mN 99 rfl rfl rfl rfl ?_;refine gT (cC (by exact bE T rfl rfl (by decide) (by decide) rfl rfl rfl) rfl ?_);refine mN 100 rfl rfl rfl rfl ?_;refine yV (kC (t2)) (pW rfl (mW rfl (yN rfl (yV (eH rfl) (pW rfl (aV ?_)))))))|refine nZ ?_));all_goals try (exfalso;omega)
  all_goals exact rQ
end Go.Proofs.YtmmmeebiobjnbaaGreat
namespace Go.Ld
open Go.Ab Go.Proofs.YtmmmeebiobjnbaaGreat
theorem ZL (n:Nat) (l:List Sl):((AV.sl 0 0 n 4).rf&&[AB.arr (BL l) 4].all AB.rf)=true:=by
  rw [A8];have:AB.rf (.arr (BL l) 4)=true:=bK.2 fun e he=>by obtain ⟨i,_,rfl⟩:=bA.1 he;rfl
  rw [this];rfl
theorem U7.nids {c:Cx}{l:List En}{k:Nat}{t:Tr}{x:Sd}(h:U7 c l k t) (hn:c.bs.length≤6) (hx:x∈t.sales):(lD c t.seen x).length≤1000:=by
  obtain ⟨sb,sn,lk,ru⟩:=h.tr.sd x hx;obtain ⟨g,hg,hgm,hbg⟩:=T3 (lk.gk.mid.find sb);have hwl:=lk.gk.mid.wl g hgm;refine bG (fP _ _) ?_;unfold B4;rw [hg];exact bG (M2 (g:=g) (i:=g.1.idxOf x.s.b)) hwl
end Go.Ld
namespace Go.Proofs.YtmmmeebiobjnbaaGreat
open Go Go.Ab Go.Ld
attribute [local irreducible] VC AW cD aT jE zU
set_option maxHeartbeats 4000000
theorem zZ0 (n:Nat) (hn:n≤17592186043904):aT Tryz.prog 7 [.i (n:Int)] [] (.rowE (ints (nats (List.range n))) 1) []:=
  kL (by simp) (gV (bJ _)) (yK2 n hn)
end Go.Proofs.YtmmmeebiobjnbaaGreat
namespace Go.Ld
open Go.Ab Go.Proofs.YtmmmeebiobjnbaaGreat Go.Pm
structure PT where
  p:List Int
  b:List BX
  m:Int
  s:List Int
def iO:List PT→PT→List PT
  | [],x=>[x]
  | t::l,x=>if t.p=x.p∧t.b=x.b∧t.s=x.s then (if x.m<t.m then x::l else t::l) else t::iO l x
theorem FA:∀ {l:List PT}{x t:PT},t∈iO l x→t∈l∨t=x
  | [],x,t,h=>.inr (bC.1 h)
  | y::l,x,t,h=>by
    unfold iO at h;split at h
    · split at h
      · rcases bN.1 h with rfl | h
        · exact .inr rfl
        · exact .inl (aJ _ h)
      · exact .inl h
    · rcases bN.1 h with rfl | h
      · exact .inl aQ
      · rcases FA h with h | h
        · exact .inl (aJ _ h)
        · exact .inr h
def yP7 (x:PT) (p:List Int) (bs:List BX) (S:List Int) (M:Int):Prop:=x.p=p∧x.b=bs∧x.s=S∧x.m≤M
def Z8 (l:List PT) (p:List Int) (bs:List BX) (S:List Int) (M:Int):Prop:=∃ t,t∈l∧yP7 t p bs S M
theorem uC {z:PT}{l:List PT}{p:List Int}{bs:List BX}{S:List Int}{M:Int}:Z8 (z::l) p bs S M↔yP7 z p bs S M∨Z8 l p bs S M:=by unfold Z8;simp
theorem FC:∀ {l:List PT}{x:PT}{p:List Int}{bs:List BX}{S:List Int}{M:Int},Z8 (iO l x) p bs S M↔Z8 l p bs S M∨yP7 x p bs S M
  | [],x,p,bs,S,M=>by simp [iO,Z8]
  | y::l,x,p,bs,S,M=>by
    unfold iO;split
    · rename_i he;split
      · rename_i hlt;rw [uC,uC];constructor
        · rintro (h | h)
          · exact .inr h
          · exact .inl (.inr h)
        · rintro ((⟨a,b,d,e⟩ | h) | h)
          · exact .inl ⟨he.1.symm.trans a,he.2.1.symm.trans b,he.2.2.symm.trans d,by omega⟩
          · exact .inr h
          · exact .inl h
      · rename_i hlt;rw [uC];constructor
        · exact .inl
        · rintro (h | ⟨a,b,d,e⟩)
          · exact h
          · exact .inl ⟨he.1.trans a,he.2.1.trans b,he.2.2.trans d,by omega⟩
    · rw [uC,uC,FC,or_assoc]
theorem uD:∀ {L l:List PT}{t:PT},t∈L.foldl iO l→t∈l∨t∈L
  | [],l,t,h=>.inl h
  | x::L,l,t,h=>by
    rcases uD (L:=L) h with h | h
    · rcases FA h with h | h
      · exact .inl h
      · exact .inr (by rw [h];exact aQ)
    · exact .inr (aJ _ h)
theorem T8:∀ {L l:List PT}{p:List Int}{bs:List BX}{S:List Int}{M:Int},Z8 (L.foldl iO l) p bs S M↔Z8 l p bs S M∨Z8 L p bs S M
  | [],l,p,bs,S,M=>by simp [Z8]
  | x::L,l,p,bs,S,M=>by
    rw [rS,T8,FC,uC,or_assoc]
theorem FB:∀ (l:List PT) (x:PT),(iO l x).length≤l.length+1
  | [],x=>aU _
  | t::l,x=>by
    have:=FB l x;unfold iO;split
    · split <;> simp
    · simp;omega
theorem uE:∀ (L l:List PT),(L.foldl iO l).length≤l.length+L.length
  | [],l=>aU _
  | x::L,l=>by
    have:=uE L (iO l x);have:=FB l x;rw [rS,List.length_cons];omega
def RS (c:Cx) (s:Ev) (t:PT) (done:Int):PT:=⟨oY t.p s done,tD t.p t.b s done,t.m+nB c t.p s,t.s⟩
def X6 (c:Cx) (s:Ev) (t:PT):Bool:=HM c t.p (jK t.b) s&&decide (t.m+nB c t.p s≤c.m)
def rA (c:Cx) (s:Ev) (t:PT) (k:Nat):List PT:=if X6 c s t then ((List.range k).filter fun d=>rH c t.p (jK t.b) s (d:Nat)).map fun d=>RS c s t (d:Nat) else []
def uW (c:Cx) (s:Ev) (all:List PT):List PT:=(all.flatMap fun t=>rA c s t 4).foldl iO []
def L7 (b:Int) (y:PT):PT:=⟨y.p,y.b,y.m,y.s++[y.p.getD b.toNat 0]⟩
def V7 (b:Int) (all:List PT):List PT:=(all.map (L7 b)).foldl iO []
theorem F7 {c:Cx}{s:Ev}{t x:PT}{k:Nat}:x∈rA c s t k↔X6 c s t=true∧∃ d:Nat,d<k∧rH c t.p (jK t.b) s d=true∧x=RS c s t d:=by
  unfold rA;split
  · rename_i h;rw [bA];constructor
    · rintro ⟨d,hd,rfl⟩;obtain ⟨h1,h2⟩:=dW.1 hd;exact ⟨h,d,eU.1 h1,h2,rfl⟩
    · rintro ⟨_,d,h1,h2,rfl⟩;exact ⟨d,dW.2 ⟨eU.2 h1,h2⟩,rfl⟩
  · rename_i h;constructor
    · intro q;cases q
    · rintro ⟨q,_⟩;exact absurd q h
theorem T6 (c:Cx) (s:Ev) (t:PT) (k:Nat):(rA c s t k).length≤k:=by
  unfold rA;split
  · rw [aX];exact bG (fP _ _) (by rw [List.length_range];exact aU _)
  · exact bW _
theorem DY {c:Cx}{s:Ev}{all:List PT}{x:PT}(h:x∈uW c s all):∃ t,t∈all∧X6 c s t=true∧∃ d:Nat,d<4∧rH c t.p (jK t.b) s d=true∧x=RS c s t d:=by
  rcases uD h with h | h
  · cases h
  · obtain ⟨t,ht,hx⟩:=fC.1 h;exact ⟨t,ht,F7.1 hx⟩
theorem RQ (c:Cx) (s:Ev) (all:List PT):(uW c s all).length≤all.length*4:=by
  unfold uW;refine bG (uE _ _) ?_;rw [List.length_nil,Nat.zero_add];exact AQ _ _ _ fun t _=>T6 c s t 4
theorem FN {b:Int}{all:List PT}{x:PT}(h:x∈V7 b all):∃ t,t∈all∧x=L7 b t:=by
  rcases uD h with h | h
  · cases h
  · obtain ⟨t,ht,hx⟩:=bA.1 h;exact ⟨t,ht,hx.symm⟩
theorem VK (b:Int) (all:List PT):(V7 b all).length≤all.length:=by
  unfold V7;refine bG (uE _ _) ?_;rw [aX,List.length_nil];omega
theorem F6 {c:Cx}{s:Ev}{t:PT}:X6 c s t=true↔HM c t.p (jK t.b) s=true∧t.m+nB c t.p s≤c.m:=by
  unfold X6;rw [aN,decide_eq_true_eq]
theorem W3 {c:Cx}{s:Ev}:∀ {L:List Ev}{f f'':As}{e:Int},G5 c (L++[s]) f f'' e→∃ f' d d',G5 c L f f' d∧A6 c s f' f'' d'∧e=d+d'
  | [],f,f'',e,⟨f1,d1,d2,st,⟨h1,h2⟩,he⟩=>by
    subst h1;subst h2;exact ⟨f,0,d1,⟨rfl,rfl⟩,st,by omega⟩
  | x::L,f,f'',e,⟨f1,d1,d2,st,p,he⟩=>by
    obtain ⟨f',d,d',p',st',he'⟩:=W3 p;exact ⟨f',d1+d,d',⟨f1,d1,d,st,p',rfl⟩,st',by omega⟩
abbrev V6:=As→Int→List Int→Prop
structure EV (c:Cx) (t:Tr) (H:V6):Prop where
  len:∀ f M S,H f M S→S.length=t.sales.length
  mono:∀ f M M' S,H f M S→M≤M'→H f M' S
  sem:∀ f M,M≤c.m→((∃ S,H f M S)↔Sem t.gs f M)
  sale:∀ (k:Nat) x,t.sales[k]? = some x→∀ (i:Int) M f',M≤c.m→((∃ S,H f' M S∧S[k]? = some i)↔∃ f d,(f x.s.b).1=i∧G5 c (t.seen.drop x.n) f f' d∧Sem x.gs f (M-d))
def yJ4 (c:Cx):V6:=fun f M S=>S=[]∧Sem (oB c) f M
def seeH (c:Cx) (s:Ev) (H:V6):V6:=fun f' M S=>∃ f d,A6 c s f f' d∧H f (M-d) S
def zY3 (b:Int) (H:V6):V6:=fun f M S'=>∃ S,S'=S++[(f b).1]∧H f M S
theorem EV.new {c:Cx}:EV c ⟨oB c,[],[],[]⟩ (yJ4 c):=by
  refine ⟨fun f M S h=>?_,fun f M M' S h hm=>⟨h.1,h.2.mono hm⟩,fun f M hM=>?_,fun k x hk=>?_⟩
  · rw [h.1];rfl
  · exact ⟨fun ⟨S,h⟩=>h.2,fun h=>⟨[],rfl,h⟩⟩
  · cases hk
theorem EV.see {c:Cx}{t:Tr}{H:V6}{s:Ev}(hc:iL c) (hi:EV c t H) (ht:kE c t) (h0:(eY c t.gs s).1=0):EV c ⟨(eY c t.gs s).2,t.seen++[s],t.sales,t.ord++[false]⟩ (seeH c s H):=by
  have hr:=E4 h0;refine ⟨fun f M S ⟨g,d,st,h⟩=>hi.len _ _ _ h,fun f M M' S ⟨g,d,st,h⟩ hm=>⟨g,d,st,hi.mono _ _ _ _ h (by omega)⟩,fun f' M hM=>?_,fun k x hk i M f' hM=>?_⟩
  · have hse:=(tS ht.lk.gk hc.s.1 hc.s.2.1 hr (f':=f') hM).1 h0;constructor
    · rintro ⟨S,f,d,st,h⟩;have:=Q6 st;exact hse.2 ⟨f,d,st,(hi.sem f (M-d) (by omega)).1 ⟨S,h⟩⟩
    · intro hs;obtain ⟨f,d,st,hs⟩:=hse.1 hs;have:=Q6 st;obtain ⟨S,h⟩:=(hi.sem f (M-d) (by omega)).2 hs
      exact ⟨S,f,d,st,h⟩
  · have hn:=(ht.sd x (aO hk)).n;show _↔∃ f d,_∧G5 c ((t.seen++[s]).drop x.n) f f' d∧_;rw [qS hn];constructor
    · rintro ⟨S,⟨g,d,st,h⟩,hS⟩;have:=Q6 st;obtain ⟨f,d',e1,p,q⟩:=(hi.sale k x hk i (M-d) g (by omega)).1 ⟨S,h,hS⟩
      exact ⟨f,d'+d,e1,R5 p st,by rw [show M-(d'+d)=M-d-d' by omega];exact q⟩
    · rintro ⟨f,e,e1,p,q⟩;obtain ⟨g,d',d,p',st,rfl⟩:=W3 p;have:=Q6 st;obtain ⟨S,h,hS⟩:=(hi.sale k x hk i (M-d) g (by omega)).2 ⟨f,d',e1,p',by rw [show M-d-d'=M-(d'+d) by omega];exact q⟩
      exact ⟨S,⟨g,d,st,h⟩,hS⟩
theorem EV.sell {c:Cx}{t:Tr}{H:V6}(hi:EV c t H) (x0:Sl):EV c (qJ t x0) (zY3 x0.b H):=by
  refine ⟨fun f M S ⟨S0,e,h⟩=>?_,fun f M M' S ⟨S0,e,h⟩ hm=>⟨S0,e,hi.mono _ _ _ _ h hm⟩,fun f M hM=>?_,fun k x hk i M f' hM=>?_⟩
  · subst e;unfold qJ;simp [hi.len _ _ _ h]
  · show _↔Sem t.gs f M;rw [← hi.sem f M hM];exact ⟨fun ⟨S,S0,e,h⟩=>⟨S0,h⟩,fun ⟨S,h⟩=>⟨_,S,rfl,h⟩⟩
  · show _↔∃ f d,_∧G5 c (t.seen.drop x.n) f f' d∧_;unfold qJ at hk;dsimp only at hk;by_cases hl:k<t.sales.length
    · rw [aG hl] at hk;rw [← hi.sale k x hk i M f' hM];constructor
      · rintro ⟨_,⟨S,rfl,h⟩,hS⟩;rw [aG (by rw [hi.len _ _ _ h];exact hl)] at hS
        exact ⟨S,h,hS⟩
      · rintro ⟨S,h,hS⟩;exact ⟨_,⟨S,rfl,h⟩,by rw [aG (by rw [hi.len _ _ _ h];exact hl)];exact hS⟩
    · have hk2:=(aB.1 hk).1;rw [aF,zW] at hk2;obtain rfl:k=t.sales.length:=by omega
      rw [aE (aU _),dY] at hk;cases hk;dsimp only;rw [zX7];constructor
      · rintro ⟨_,⟨S,rfl,h⟩,hS⟩;rw [← hi.len _ _ _ h,aE (aU _),dY] at hS;cases hS;exact ⟨f',0,rfl,⟨rfl,rfl⟩,by rw [tQ];exact (hi.sem f' M hM).1 ⟨S,h⟩⟩
      · rintro ⟨f,d,e1,⟨rfl,rfl⟩,q⟩;rw [tQ] at q;obtain ⟨S,h⟩:=(hi.sem _ M hM).2 q;refine ⟨_,⟨S,rfl,h⟩,?_⟩;rw [← hi.len _ _ _ h,aE (aU _),dY,e1];rfl
structure P6 (c:Cx) (t:Tr) (all:List PT) (H:V6):Prop where
  h:EV c t H
  ok:∀ y,y∈all→oZ c y.p y.b∧0≤y.m∧y.m≤c.m∧(∀ x,x∈jK y.b→x≤3)∧y.s.length=t.sales.length
  iff:∀ p q S,PQ c p q→∀ M,M≤c.m→((∃ f,uY c p q f∧H f M S)↔∃ y,y∈all∧y.p=p∧jK y.b=q∧y.s=S∧y.m≤M)
theorem P6.new {c:Cx}(hc:iL c) (h3:∀ i,i<c.bs.length→(c.bs.getD i (0,0,0)).2.1≤3):P6 c ⟨oB c,[],[],[]⟩ [⟨nats (List.range c.bs.length),c.bs,0,[]⟩] (yJ4 c):=by
  have e:=zQ8 hc h3;refine ⟨EV.new,fun y hy=>?_,fun p q S hpq M hM=>?_⟩
  · obtain rfl:=bC.1 hy;obtain ⟨a,b,b',d⟩:=e.ok _ (bC.2 rfl);exact ⟨a,b,b',d,rfl⟩
  · have h1:=e.iff p q hpq M hM;constructor
    · rintro ⟨f,hf,rfl,hs⟩;obtain ⟨t,ht,e1,e2,e3⟩:=h1.1 ⟨f,hf,hs⟩;obtain rfl:=bC.1 ht;exact ⟨_,bC.2 rfl,e1,e2,rfl,e3⟩
    · rintro ⟨y,hy,e1,e2,e3,e4⟩;obtain rfl:=bC.1 hy;obtain ⟨f,hf,hs⟩:=h1.2 ⟨_,bC.2 rfl,e1,e2,e4⟩;exact ⟨f,hf,e3.symm,hs⟩
theorem P6.see {c:Cx}{t:Tr}{all:List PT}{H:V6}{s:Ev}(hc:iL c) (e:P6 c t all H) (ht:kE c t) (h0:(eY c t.gs s).1=0):P6 c ⟨(eY c t.gs s).2,t.seen++[s],t.sales,t.ord++[false]⟩ (uW c s all) (seeH c s H):=by
  have hr:=E4 h0;obtain ⟨r1,r2,r3⟩:=B2 ht.lk.gk hr;refine ⟨e.h.see hc ht h0,fun x hx=>?_,fun p q S hpq M hM=>⟨?_,?_⟩⟩
  · obtain ⟨y,hy,hg,d,hd,hcan,rfl⟩:=DY hx;obtain ⟨a,b,b',b3,b4⟩:=e.ok y hy;obtain ⟨g1,g2⟩:=F6.1 hg;have:=(HL c.st (y.p.getD s.a.toNat 0) s.k s.ids).1;refine ⟨a.aft r1 r2 hcan,?_,g2,fun z hz=>?_,b4⟩
    · show 0≤y.m+nB c y.p s;unfold nB;omega
    · change z∈jK (tD y.p y.b s d) at hz;rw [qQ] at hz;unfold uX at hz;split at hz
      · rename_i hk;have hrg:=tB hk hcan;rcases fK hz with hz | rfl
        · exact b3 z hz
        · obtain ⟨i0,i1⟩:=a.pq.at r1.1 r1.2;have:(jK y.b).getD (y.p.getD s.a.toNat 0).toNat 0∈jK y.b:=by
            have:=a.pq.ql;rw [aD,aA (by omega)];exact aM _
          have:=b3 _ this;omega
      · exact b3 z hz
  · rintro ⟨f',hf',f,d,st,hh⟩;have hd0:=Q6 st;have hs:=(e.h.sem f (M-d) (by omega)).1 ⟨S,hh⟩
    obtain ⟨p0,q0,done,hpq0,hf0,hag,hcan,rfl,e1,e2⟩:=FT hc hpq st hf' (DI ht.lk.gk hs) r1 r2 (fun k=>r3 (by omega))
    obtain ⟨y,hy,rfl,rfl,rfl,htm⟩:=(e.iff p0 q0 S hpq0 (M-nB c p0 s) (by omega)).1 ⟨f,hf0,hh⟩
    obtain ⟨a,b,b',b3,b4⟩:=e.ok y hy;have hd:0≤done∧done<4:=by
      by_cases hk:s.k=2
      · have hrg:=tB hk hcan;obtain ⟨i0,i1⟩:=a.pq.at r1.1 r1.2;have:(jK y.b).getD (y.p.getD s.a.toNat 0).toNat 0∈jK y.b:=by
          have:=a.pq.ql;rw [aD,aA (by omega)];exact aM _
        have:=b3 _ this;omega
      · unfold rH EP at hcan;rw [if_neg hk] at hcan;split at hcan
        · rw [vC,decide_eq_true_eq,decide_eq_true_eq] at hcan;omega
        · rw [decide_eq_true_eq] at hcan;omega
    have hdn:((done.toNat:Nat):Int)=done:=by omega
    have hx:Z8 (uW c s all) (oY y.p s done) (tD y.p y.b s done) y.s M:=by
      refine T8.2 (.inr ⟨RS c s y (done.toNat:Nat),fC.2 ⟨y,hy,F7.2 ⟨F6.2 ⟨hag,by omega⟩,done.toNat,by omega,by rw [hdn];exact hcan,rfl⟩⟩,?_,?_,rfl,?_⟩)
      · rw [hdn];rfl
      · rw [hdn];rfl
      · show y.m+nB c y.p s≤M;omega
    obtain ⟨x,hx1,hx2,hx3,hx4,hx5⟩:=hx;exact ⟨x,hx1,hx2.trans e1.symm,by rw [hx3,qQ];exact e2.symm,hx4,hx5⟩
  · rintro ⟨x,hx,rfl,rfl,rfl,hxm⟩;obtain ⟨y,hy,hg,d,hd,hcan,rfl⟩:=DY hx;obtain ⟨a,b,b',b3,b4⟩:=e.ok y hy;obtain ⟨f,hf,hh⟩:=(e.iff y.p (jK y.b) y.s a.pq y.m b').2 ⟨y,hy,rfl,rfl,rfl,dX _⟩;have hs:=(e.h.sem f y.m b').1 ⟨_,hh⟩;obtain ⟨g1,g2⟩:=F6.1 hg;obtain ⟨f',st,ok⟩:=R3 hc a.pq hf (DI ht.lk.gk hs) r1 r2 (fun k=>r3 (by omega)) g1 hcan
    refine ⟨f',?_,f,_,st,e.h.mono _ _ _ _ hh ?_⟩
    · show uY c (oY y.p s d) (jK (tD y.p y.b s d)) f';rw [qQ];exact ok
    · change y.m+nB c y.p s≤M at hxm;omega
theorem P6.sell {c:Cx}{t:Tr}{all:List PT}{H:V6}(e:P6 c t all H) (x0:Sl) (hb:0≤x0.b∧x0.b<c.bs.length):P6 c (qJ t x0) (V7 x0.b all) (zY3 x0.b H):=by
  refine ⟨e.h.sell x0,fun x hx=>?_,fun p q S hpq M hM=>⟨?_,?_⟩⟩
  · obtain ⟨y,hy,rfl⟩:=FN hx;obtain ⟨a,b,b',b3,b4⟩:=e.ok y hy;refine ⟨a,b,b',b3,?_⟩;unfold L7 qJ;simp [b4]
  · rintro ⟨f,hf,S0,rfl,hh⟩;obtain ⟨y,hy,rfl,rfl,rfl,hm⟩:=(e.iff p q S0 hpq M hM).1 ⟨f,hf,hh⟩;have hv:(f x0.b).1=y.p.getD x0.b.toNat 0:=(hf x0.b hb.1 hb.2).1;have hx:Z8 (V7 x0.b all) y.p y.b (y.s++[(f x0.b).1]) M:=T8.2 (.inr ⟨L7 x0.b y,bA.2 ⟨y,hy,rfl⟩,rfl,rfl,by rw [hv];rfl,hm⟩)
    obtain ⟨x,hx1,hx2,hx3,hx4,hx5⟩:=hx;exact ⟨x,hx1,hx2,by rw [hx3],hx4,hx5⟩
  · rintro ⟨x,hx,rfl,rfl,rfl,hxm⟩;obtain ⟨y,hy,rfl⟩:=FN hx;obtain ⟨f,hf,hh⟩:=(e.iff y.p (jK y.b) y.s hpq M hM).2 ⟨y,hy,rfl,rfl,rfl,hxm⟩;have hv:(f x0.b).1=y.p.getD x0.b.toNat 0:=(hf x0.b hb.1 hb.2).1;exact ⟨f,hf,y.s,by rw [hv];rfl,hh⟩
theorem P6.fin {c:Cx}{t:Tr}{all:List PT}{H:V6}(hc:iL c) (hn:c.bs.length≤6) (e:P6 c t all H) (ht:kE c t) (h5:zN t.seen≤5){k:Nat}{x:Sd}(hk:t.sales[k]? = some x) (i:Int) :
    i∈lD c t.seen x↔∃ y,y∈all∧y.s[k]? = some i:=by
  rw [ht.ids hc hn h5 (aO hk)];constructor
  · rintro ⟨f,f',d,e1,p,q⟩;obtain ⟨S,h,hS⟩:=(e.h.sale k x hk i c.m f' (dX _)).2 ⟨f,d,e1,p,q⟩;obtain ⟨p',q',hpq,hf⟩:=V9 ht.lk.gk.mid ((e.h.sem f' c.m (dX _)).1 ⟨S,h⟩);obtain ⟨y,hy,_,_,rfl,_⟩:=(e.iff p' q' S hpq c.m (dX _)).1 ⟨f',hf,h⟩;exact ⟨y,hy,hS⟩
  · rintro ⟨y,hy,hS⟩;obtain ⟨a,b,b',b3,b4⟩:=e.ok y hy;obtain ⟨f',hf,h⟩:=(e.iff y.p (jK y.b) y.s a.pq y.m b').2 ⟨y,hy,rfl,rfl,rfl,dX _⟩;obtain ⟨f,d,e1,p,q⟩:=(e.h.sale k x hk i y.m f' b').1 ⟨y.s,h,hS⟩;exact ⟨f,f',d,e1,p,q.mono (by omega)⟩
theorem DR:∀ {a b:List Int},yL9 a→yL9 b→(∀ x,x∈a↔x∈b)→a=b
  | [],[],_,_,_=>rfl
  | [],y::b,_,_,h=>by have:=(h y).2 aQ;cases this
  | x::a,[],_,_,h=>by have:=(h x).1 aQ;cases this
  | x::a,y::b,ha,hb,h=>by
    have ha1:=fun z hz=>List.rel_of_pairwise_cons ha (a':=z) hz;have hb1:=fun z hz=>List.rel_of_pairwise_cons hb (a':=z) hz;have e:x=y:=by
      rcases bN.1 ((h x).1 aQ) with e | hx
      · exact e
      · rcases bN.1 ((h y).2 aQ) with e | hy
        · exact e.symm
        · have:=ha1 y hy;have:=hb1 x hx;omega
    subst e;rw [DR (List.Pairwise.of_cons ha) (List.Pairwise.of_cons hb) fun z=>?_]
    constructor
    · intro hz;rcases bN.1 ((h z).1 (aJ _ hz)) with e | hz'
      · have:=ha1 z hz;omega
      · exact hz'
    · intro hz;rcases bN.1 ((h z).2 (aJ _ hz)) with e | hz'
      · have:=hb1 z hz;omega
      · exact hz'
theorem zD8 {c:Cx}{t:Tr}{x:Sd}(h:kE c t) (hx:x∈t.sales):yL9 (lD c t.seen x):=by
  obtain ⟨sb,sn,lk,ru⟩:=h.sd x hx;obtain ⟨g,hg,hgm,hbg⟩:=T3 (lk.gk.mid.find sb);unfold lD B4;rw [hg];refine List.Pairwise.filter _ ?_;have hs:(jD (g.2.map fun w=>w.1.getD (g.1.idxOf x.s.b) 0)).Pairwise (·≤·):=sorted_up _;exact NV hs _ (aU _)
def oS (all:List PT) (k n:Nat):List Int:=nats ((List.range n).filter fun id=>all.any fun y=>decide (y.s[k]? = some (id:Int)))
theorem UW (all:List PT) (k n:Nat):yL9 (oS all k n):=by
  unfold oS nats;refine List.Pairwise.map _ ?_ (List.Pairwise.filter _ xS);intro a b h;omega
theorem P6.want {c:Cx}{t:Tr}{all:List PT}{H:V6}(hc:iL c) (hn:c.bs.length≤6) (e:P6 c t all H) (ht:kE c t) (h5:zN t.seen≤5){k:Nat}{x:Sd}(hk:t.sales[k]? = some x) :
    lD c t.seen x=oS all k c.bs.length:=by
  refine DR (zD8 ht (aO hk)) (UW _ _ _) fun i=>?_
  rw [e.fin hc hn ht h5 hk];unfold oS;constructor
  · rintro ⟨y,hy,hS⟩;have hi:i∈lD c t.seen x:=(e.fin hc hn ht h5 hk i).2 ⟨y,hy,hS⟩;obtain ⟨r0,r1⟩:=(IJ ht (aO hk)).1 i (dW.1 hi).1;refine bA.2 ⟨i.toNat,dW.2 ⟨eU.2 (by omega),iX.2 ⟨y,hy,decide_eq_true ?_⟩⟩,by omega⟩
    rw [hS];congr 1;omega
  · intro h;obtain ⟨id,hid,rfl⟩:=bA.1 h;obtain ⟨y,hy,hS⟩:=iX.1 (dW.1 hid).2;exact ⟨y,hy,of_decide_eq_true hS⟩
end Go.Ld
namespace Go.Ld
open Go.Ab Go.Proofs.YtmmmeebiobjnbaaGreat
end Go.Ld
namespace Go.Ab
open Go
section
variable {P:Program}{env:eE}{h:Hp}{d:Option Nat}{ty:TypeId}{pos:String}{af:Array Edge}{g:Option (Nat × Bool)}
theorem WU {t t2:TypeId}{x y:Operand}{a b c a' b' c':Int}(ht:mT P t 3) (hx:evu env x=some (.agg [.i a,.i b,.i c])) (hy:evu env y=some (.agg [.i a',.i b',.i c'])) (e:(decide (a=a')&&decide (b=b')&&decide (c=c'))=false) :
    cD P ⟨d,.binOp .neq t x y t2,ty,pos,af,g⟩ env h 0 (fun _=>.b true) (fun _=>[]):=by
  have:cD P ⟨d,.binOp .neq t x y t2,ty,pos,af,g⟩ env h 0 (fun _=>.b (!decide ([a,b,c]=[a',b',c']))) (fun _=>[]):=yT ht hx hy rfl rfl;have hn:([a,b,c]=[a',b',c'])↔False:=by
    constructor
    · intro q;simp only [List.cons.injEq] at q;rw [decide_eq_true q.1,decide_eq_true q.2.1,decide_eq_true q.2.2.1] at e;cases e
    · exact False.elim
  rw [decide_eq_false (fun q=>hn.1 q)] at this;exact this
end
end Go.Ab
namespace Go.Proofs.YtmmmeebiobjnbaaGreat
open Go Go.Ab Go.Ld
attribute [local irreducible] VC AW cD aT jE mT
set_option maxHeartbeats 4000000
theorem yL5:mT Tryz.prog 61 3:=by unfold mT;kernel_rfl
theorem V8 (a b:List BX) (ha:a.length≤9223372036854775807):aT Tryz.prog 47 [.rowE (cW a) 3,.rowE (cW b) 3] [] (.b (decide (a=b))) []:=by
  have hal:(cW a).length=a.length:=aX _;have hbl:(cW b).length=b.length:=aX _;by_cases hl:a.length=b.length
  · refine bU T Tryz.func47 rfl rfl rfl rfl ?_
    (repeat' (first|refine wS ?_|refine wB ?_|refine wK ?_|(refine wC rfl ?_ ?_<;>(intro hb;(try simp only [nm] at hb);try (exfalso;omega)))|(refine rg 0 (aV ?_))|(refine rg 1 (mW rfl (qW T rfl (mW rfl (qW T rfl (vV (gB rfl rfl) ?_))))))|(refine rg 3 (aV ?_))|refine nZ ?_));all_goals try (exfalso;omega)
    refine dA (X:={i:Nat // i≤a.length∧a.take i=b.take i}) (fun i=>[(0,.rowE (cW a) 3),(1,.rowE (cW b) 3),(5,.i i.1)]) (fun _=>[]) (fun i=>a.length-i.1) ⟨0,by omega,rfl⟩ (gH []) ?_
    rintro ⟨i,hi,hg⟩;dsimp only;by_cases hlt:i<a.length
    · have q1:=xP (l:=a) (k:=i) hlt;have q2:=xP (l:=b) (k:=i) (by omega)
      have hne:a[i]≠b[i]→decide (a=b)=false:=fun e=>decide_eq_false (fun h=>e (by subst h;rfl))
      have hta:a.take (i+1)=a.take i++[a[i]]:=aP hlt;have htb:b.take (i+1)=b.take i++[b[i]]:=aP (by omega)
      generalize a[i]=x at *;generalize b[i]=y at *;obtain ⟨x1,x2,x3⟩:=x;obtain ⟨y1,y2,y3⟩:=y;dsimp only at *;by_cases e:(x1,x2,x3)=(y1,y2,y3)
      · simp only [Prod.mk.injEq] at e;obtain ⟨rfl,rfl,rfl⟩:=e
        (repeat' (first|refine wS ?_|refine wB ?_|refine wK ?_|refine wU ?_|(refine wC rfl ?_ ?_<;>(intro hb;(try simp only [nm] at hb);try (exfalso;omega)))|(refine rg 4 (dI rfl (qW T rfl (vV (aL rfl rfl) ?_))))|(refine bV (id:=6) 26 yW8 (rM 17 9) yW9 cK rfl (by decide +kernel) (dN rfl (dN rfl (dV rfl (ix T rfl (by omega) (iS a) q1) (dO T rfl (dN rfl (dN rfl (dV rfl (ix T rfl (by omega) (iS b) q2) (dO T rfl (dV rfl (zE7 yL5 rfl rfl rfl rfl rfl) ?_)))))))));refine dE ?_)|(refine iA 5 rfl rfl rfl (by omega) (by omega) ?_)|refine nZ ?_));all_goals try (exfalso;omega)
        refine ⟨⟨i+1,hlt,?_⟩,by dsimp only;omega,gH []⟩
        rw [hta,htb,hg]
      · rw [hne e];have hb3:(decide (x1=y1)&&decide (x2=y2)&&decide (x3=y3))=false:=by
          rw [Y9];intro h;simp only [aN,decide_eq_true_eq] at h;exact e (by rw [h.1.1,h.1.2,h.2])
        (repeat' (first|refine wS ?_|refine wB ?_|refine wK ?_|refine wR ?_|refine wT ?_|(refine wC rfl ?_ ?_<;>(intro hb;(try simp only [nm] at hb);try (exfalso;omega)))|(refine rg 4 (dI rfl (qW T rfl (vV (aL rfl rfl) ?_))))|(refine bV (id:=6) 26 yW8 (rM 17 9) yW9 cK rfl (by decide +kernel) (dN rfl (dN rfl (dV rfl (ix T rfl (by omega) (iS a) q1) (dO T rfl (dN rfl (dN rfl (dV rfl (ix T rfl (by omega) (iS b) q2) (dO T rfl (dV rfl (WU yL5 rfl rfl hb3) ?_)))))))));refine dE ?_)|(refine rg 7 (aV ?_))|refine nZ ?_));all_goals first | (exfalso;omega) | exact rQ
    · rw [bO (by omega),bO (by omega)] at hg
      rw [show decide (a=b)=true from decide_eq_true hg]
      (repeat' (first|refine wS ?_|refine wR ?_|refine wE ?_|(refine wC rfl ?_ ?_<;>(intro hb;(try simp only [nm] at hb);try (exfalso;omega)))|(refine rg 4 (dI rfl (qW T rfl (vV (aL rfl rfl) ?_))))|(refine rg 8 (aV ?_))|refine nZ ?_));all_goals first | (exfalso;omega) | exact rQ
  · rw [show decide (a=b)=false from decide_eq_false (fun h=>hl (by rw [h]))]
    refine bU T Tryz.func47 rfl rfl rfl rfl ?_
    (repeat' (first|refine wS ?_|refine wR ?_|(refine wC rfl ?_ ?_<;>(intro hb;(try simp only [nm] at hb);try (exfalso;omega)))|(refine rg 0 (aV ?_))|(refine rg 1 (mW rfl (qW T rfl (mW rfl (qW T rfl (vV (gB rfl rfl) ?_))))))|(refine rg 2 (aV ?_))|refine nZ ?_));all_goals first | (exfalso;omega) | exact rQ
end Go.Proofs.YtmmmeebiobjnbaaGreat
namespace Go.Ab
open Go
section
variable {P:Program}{env:eE}{h:Hp}{d:Option Nat}{ty:TypeId}{pos:String}{af:Array Edge}{g:Option (Nat × Bool)}
theorem zE8 {x:Operand}{f:FuncId}{fs cs us xs:List AV}{args:List Operand}{ats:Array TypeId}{es:List (List AV)}{len sz:Nat}(hx:evu env x=some (.clo (.func f) fs cs)) (ha:xN env args=some us)
    (hc:aT P f xs [] (.sl 0 0 len sz) [.arr es sz]) (hv:mM h (fs++us++cs) xs) (hn:len=es.length) (hr:AB.rf (.arr es sz)=true) (hi:AV.idfL es.flatten=true) :
    cD P ⟨d,.call { callee:=.value x,args:=args.toArray,argTypes:=ats },ty,pos,af,g⟩ env h 0 (fun _=>.rowE es sz) (fun _=>[]):=by
  intro ρ S a w p q hq K Q hk;have hxv:=p.evu hx;simp only [R] at hxv;obtain ⟨ys,zs,e1,h1,h2⟩:=hxv;have hall:RL S w (fs++us++cs) ρ (ys.toList++args.map a.eval++zs.toList):=iT (iT h1 (tW p ha)) h2;obtain ⟨hf,hc⟩:=hc;have hargs:=lT p.blk hv hall;have hS1w:∀ b,(S b∨lA h ρ b)→b<w.heap.size:=fun b hb=>by
    rcases hb with hb | ⟨k,x,o,_,_,hb⟩
    · exact p.stab b hb
    · exact p.rng k _ hb
  have hs0:HS (nL w (fun _=>none) (fun b=>S b∨lA h ρ b) []) (fun _=>none) (fun b=>S b∨lA h ρ b) [] w:=⟨fun _ _=>rfl,(fun _ _ h=>by cases h),(fun k b hb=>by simp at hb),(fun k b p hb=>by simp at hb),(fun k _ b _ _ _ hb=>by simp at hb),hS1w,nU.refl _ _,fun _ h=>h,fun _ h=>.inl h,aU _,(fun _ h=>by simp [nL] at h),p.glob.st fun _ h=>.inl h⟩
  have hcall:=hc (fun _=>none) (fun b=>S b∨lA h ρ b) w _ hs0 hargs;unfold Oper.wp;have hrun:(execOp a.eval ⟨d,.call { callee:=.value x,args:=args.toArray,argTypes:=ats },ty,pos,af,g⟩).run P w = .ok (.enter f (ys.toList++args.map a.eval++zs.toList).toArray) w:=by
    have e2:(ys++(args.toArray.map a.eval)++zs)=(ys.toList++args.map a.eval++zs.toList).toArray:=by
      apply Array.ext';simp
    simp only [execOp,resolve,e1,Deferred.ofValue,Sem.run_bind,Sem.run_pure,Result.andThen_ok,invoke];rw [e2];exact xB hf
  rw [hrun];simp only [Oper.upon];refine hcall.mono ?_;rintro e w' ⟨y,ρ',S',rfl,hs,hy⟩;simp only;have hM:∀ b,(nL w (fun _=>none) (fun b=>S b∨lA h ρ b) []).M b→w.heap.size≤b:=fun b hb=>by
    rcases hb with hb | ⟨k,x,o,hb,_⟩
    · exact hb
    · simp at hb
  have hext:nU (fun _=>False) w w':=hs.ext.mono fun b hb hm=>by have:=hM b hm;simp [nL] at hb;omega
  have hb0:RB S w' ρ' (ρ' 0) (.arr es sz):=zZ6 hr (hs.blk 0 _ rfl);have hy0:R S w' (.sl 0 0 es.length sz) ρ' y:=by
    rw [← hn];exact XO ρ' _ _ rfl hy
  have hz:=P4 ρ' ρ _ _ rfl (vP hi hb0 hy0);refine hk y ρ (fun b=>S b∨∃ o,ρ' 0=some (b,o)) w' ⟨hext,rfl,fun _ _=>rfl,fun _ h=>.inl h,fun b hb=>?_,fun k r h1 h2=>by omega,fun k k' r r' h1 h2=>by omega,?_,fun j b hb=>by simp at hb⟩
  · rcases hb with hb | ⟨o,ho⟩
    · exact .inl hb
    · exact .inr ⟨hM _ (hs.live 0 _ _ rfl (by simp) ho).1,hs.rng 0 _ ho⟩
  · exact hz
end
end Go.Ab
namespace Go.Ld
open Go.Ab Go.Proofs.YtmmmeebiobjnbaaGreat
abbrev zY4 (t:PT):List AV:=[.rowE (Go.Ab.ints t.p) 1,.rowE (cW t.b) 3,.i t.m,.rowE (Go.Ab.ints t.s) 1]
abbrev mC (l:List PT):List (List AV):=l.map zY4
theorem sJ (l:List PT):∀ e,e∈mC l→e.length=4:=by intro e he;obtain ⟨n,_,rfl⟩:=bA.1 he;rfl
theorem gR (l:List PT):∀ e,e∈mC l→AV.idfL e=true:=by intro e he;obtain ⟨n,_,rfl⟩:=bA.1 he;rfl
theorem BV:∀ l:List PT,AV.idfL (mC l).flatten=true
  | []=>rfl
  | _::l=>BV l
theorem BW {l:List PT}{k:Nat}(h:k<l.length):(mC l)[(k:Int).toNat]? = some (zY4 l[k]):=by simp [h]
theorem MH {l:List PT}{k:Nat}(h:k<l.length):(mC l)[0+(k:Int).toNat]? = some (zY4 l[k]):=by simp [h]
theorem ZS {l:List PT}{k:Nat}(x:PT):(mC l).set (0+(k:Int).toNat) (zY4 x)=mC (l.set k x):=by simp [oK]
theorem qA (l:List PT):(mC l).length=l.length:=aX _
theorem ZR (l:List PT) (x:PT):mC l++[zY4 x]=mC (l++[x]):=by simp
def tI (t x:PT):Bool:=decide (t.p=x.p)&&decide (t.b=x.b)&&decide (t.s=x.s)
theorem J2 {t x:PT}:tI t x=true↔t.p=x.p∧t.b=x.b∧t.s=x.s:=by unfold tI;simp [and_assoc]
theorem KU:∀ {l:List PT}{x:PT}{k:Nat}(hk:k<l.length),(∀ i (h:i<k),tI (l[i]'(by omega)) x=false)→tI l[k] x=true→iO l x=if x.m<l[k].m then l.set k x else l
  | [],_,_,hk,_,_=>by simp at hk
  | t::l,x,0,_,_,h=>by
    have h:t.p=x.p∧t.b=x.b∧t.s=x.s:=J2.1 h;unfold iO;rw [if_pos h];rfl
  | t::l,x,k+1,hk,h0,h=>by
    have hn:¬ (t.p=x.p∧t.b=x.b∧t.s=x.s):=fun q=>by
      have:=h0 0 (by omega)
      rw [show (t::l)[0]=t from rfl,J2.2 q] at this;cases this
    have ih:=KU (l:=l) (x:=x) (k:=k) (by simpa using hk) (fun i hi=>h0 (i+1) (by omega)) h
    unfold iO;rw [if_neg hn,ih];have hk':k<l.length:=by simpa using hk
    rw [show (t::l)[k+1]=l[k] from rfl]
    split <;> rfl
theorem FD:∀ {l:List PT}{x:PT},(∀ i (h:i<l.length),tI l[i] x=false)→iO l x=l++[x]
  | [],_,_=>rfl
  | t::l,x,h0=>by
    have hn:¬ (t.p=x.p∧t.b=x.b∧t.s=x.s):=fun q=>by
      have:=h0 0 (by simp)
      rw [show (t::l)[0]=t from rfl,J2.2 q] at this;cases this
    unfold iO;rw [if_neg hn,FD fun i hi=>h0 (i+1) (by simpa using hi)];rfl
def TT (l:List PT) (x:PT):Bool:=l.any fun t=>tI t x
theorem QM (c:Cx) (s:Ev) (t:PT) (k:Nat) (hg:X6 c s t=true):rA c s t (k+1)=rA c s t k++(if rH c t.p (jK t.b) s (k:Nat) then [RS c s t (k:Nat)] else []):=by
  unfold rA;rw [if_pos hg,if_pos hg,rR,nO,bT];congr 1;rw [zX6];split <;> rfl
theorem zF1 (c:Cx) (s:Ev) (t:PT) (k:Nat) (hg:X6 c s t=false):rA c s t k=[]:=by
  unfold rA;rw [if_neg (by rw [hg];simp)]
theorem QO (c:Cx) (s:Ev){all:List PT}{k:Nat}(h:k<all.length):(((all.take (k+1)).flatMap fun t=>rA c s t 4).foldl iO [])=(rA c s all[k] 4).foldl iO (((all.take k).flatMap fun t=>rA c s t 4).foldl iO []):=by
  rw [aP h,fX,rV,bM,EG,List.append_nil]
theorem QN (b:Int){all:List PT}{k:Nat}(h:k<all.length):((all.take (k+1)).map (L7 b)).foldl iO []=iO (((all.take k).map (L7 b)).foldl iO []) (L7 b all[k]):=by
  rw [aP h,bT,rV];rfl
def HP (t:PT):Prop:=t.p.length≤1000∧t.b.length≤1000∧t.s.length≤1000
end Go.Ld
namespace Go.Proofs.YtmmmeebiobjnbaaGreat
open Go Go.Ab Go.Ld
attribute [local irreducible] VC AW cD aT jE mT
set_option maxHeartbeats 4000000
theorem KT (l:List PT) (x:PT) (hl:l.length≤1000000) (hb:∀ t,t∈l→HP t) (hx:TT l x=true) :
    aT Tryz.prog 24 [.sl 0 0 l.length 4,.agg (zY4 x)] [.arr (mC l) 4] (.sl 0 0 (iO l x).length 4) [.arr (mC (iO l x)) 4]:=by
  have hll:(mC l).length=l.length:=qA l;have hat:=fun k hk h0 h=>KU (l:=l) (x:=x) (k:=k) hk h0 h;obtain ⟨px,bx,mx,sx⟩:=x;refine bU T Tryz.func24 rfl rfl rfl rfl ?_
  (repeat' (first|refine wS ?_|(refine rg 0 (cC (cO rfl rfl) rfl (aV ?_)))|refine nZ ?_));refine fH 3 (cs:=[.rowE (Go.Ab.ints px) 1,.rowE (cW bx) 3,.i mx,.rowE (Go.Ab.ints sx) 1]) rfl rfl rfl ?_
  (repeat' (first|refine wB ?_|(refine rg 1 (aV ?_))|refine nZ ?_));refine dA (X:={k:Nat // k≤l.length∧∀ i (h:i<l.length),i<k→tI l[i] ⟨px,bx,mx,sx⟩=false}) (fun k=>[(0,.sl 0 0 l.length 4),(3,.pr [.rowE (Go.Ab.ints px) 1,.rowE (cW bx) 3,.i mx,.rowE (Go.Ab.ints sx) 1] 0),(5,.i (k.1:Int))]) (fun _=>[.arr (mC l) 4]) (fun k=>l.length-k.1) ⟨0,bW _,fun i _ h=>absurd h (eG _)⟩ ⟨[0],rfl,(by repeat first|exact trivial|refine ⟨rfl,?_⟩),⟨.inr (aC rfl rfl (gR _)),trivial⟩,by decide,xH _⟩ ?_
  rintro ⟨k,hk,hno⟩;dsimp only at hk hno ⊢;by_cases hlt:k<l.length
  · have hat:=hat k hlt (fun i hi=>hno i (by omega) hi)
    obtain ⟨b1,b2,b3⟩:=hb _ (aM hlt);have q1:=MH hlt;have hst:=ZS (l:=l) (k:=k) ⟨px,bx,mx,sx⟩;have hnx:tI l[k] ⟨px,bx,mx,sx⟩=false→∀ i (h:i<l.length),i<k+1→tI l[i] ⟨px,bx,mx,sx⟩=false:=fun hs i h hi=>by
      by_cases e:i=k
      · subst e;exact hs
      · exact hno i h (by omega)
    have hsT:tI l[k] ⟨px,bx,mx,sx⟩=(decide (l[k].p=px)&&decide (l[k].b=bx)&&decide (l[k].s=sx)):=rfl;have s1:=J1 l[k].p px (by omega)
    have s2:=V8 l[k].b bx (by omega)
    have s3:=J1 l[k].s sx (by omega)
    generalize hS:iO l ⟨px,bx,mx,sx⟩=S at *;generalize l[k]=t at *;obtain ⟨pt,bt,mt,st⟩:=t;dsimp only at *
    replace q1:(mC l)[0+(k:Int).toNat]? = some [.rowE (Go.Ab.ints pt) 1,.rowE (cW bt) 3,.i mt,.rowE (Go.Ab.ints st) 1]:=q1
    cases e1:decide (pt=px) with
    | false=>
      rw [e1] at s1 hsT;have hnx:=hnx hsT
      (repeat' (first|refine wS ?_|refine wB ?_|refine wK ?_|refine wU ?_|(refine wC rfl ?_ ?_<;>(intro hb;(try simp only [nm] at hb);try (exfalso;omega)))|(refine rg 2 (dI rfl (qW T rfl (vV (aL rfl rfl) ?_))))|(refine bV (id:=4) 57 yX8 (rM 12 28) yX9 cK rfl (by decide +kernel) (dN rfl (dN rfl (dV rfl (by exact aI T rfl rfl rfl rfl rfl (by omega) (by omega)) ?_)));refine dP T rfl (dV rfl (by exact aK T rfl rfl (bF rfl q1) rfl) ?_);refine dP T rfl (dO T rfl (dV rfl (kC (s1)) (dN rfl (tG rfl (tG rfl (tG rfl (tG rfl (tG rfl (dG ?_)))))))));refine tG rfl (tG rfl (dV rfl (gJ rfl rfl) (dN rfl (tG rfl (tG rfl (tG rfl (tG rfl (tG rfl (dG ?_)))))))));refine tG rfl (tG rfl (dV rfl (gJ rfl rfl) (dE ?_))))|(refine iA 3 rfl rfl rfl (by omega) (by omega) ?_)|refine nZ ?_));all_goals try (exfalso;omega)
      all_goals exact ⟨⟨k+1,hlt,hnx⟩,by dsimp only;omega,⟨[0],rfl,(by repeat first|exact trivial|refine ⟨rfl,?_⟩),⟨.inr (aC rfl rfl (gR _)),trivial⟩,by decide,xH _⟩⟩
    | true=>
      rw [e1] at s1 hsT;cases e2:decide (bt=bx) with
      | false=>
        rw [e2] at s2 hsT;have hnx:=hnx hsT
        (repeat' (first|refine wS ?_|refine wB ?_|refine wK ?_|refine wU ?_|(refine wC rfl ?_ ?_<;>(intro hb;(try simp only [nm] at hb);try (exfalso;omega)))|(refine rg 2 (dI rfl (qW T rfl (vV (aL rfl rfl) ?_))))|(refine bV (id:=4) 57 yX8 (rM 12 28) yX9 cK rfl (by decide +kernel) (dN rfl (dN rfl (dV rfl (by exact aI T rfl rfl rfl rfl rfl (by omega) (by omega)) ?_)));refine dP T rfl (dV rfl (by exact aK T rfl rfl (bF rfl q1) rfl) ?_);refine dP T rfl (dO T rfl (dV rfl (kC (s1)) (dN rfl (tN rfl (tN rfl (dT rfl (by exact aI T rfl rfl rfl rfl rfl (by omega) (by omega)) ?_))))));refine tP T rfl (dT rfl (by exact aK T rfl rfl (bF rfl q1) rfl) ?_);refine tP T rfl (tO T rfl (dT rfl (kC (s2)) (dV rfl (gG rfl rfl) (dN rfl (tG rfl (tG rfl (tG rfl (tG rfl (dG ?_)))))))));refine tG rfl (tG rfl (tG rfl (dV rfl (gJ rfl rfl) (dE ?_)))))|(refine iA 3 rfl rfl rfl (by omega) (by omega) ?_)|refine nZ ?_));all_goals try (exfalso;omega)
        all_goals exact ⟨⟨k+1,hlt,hnx⟩,by dsimp only;omega,⟨[0],rfl,(by repeat first|exact trivial|refine ⟨rfl,?_⟩),⟨.inr (aC rfl rfl (gR _)),trivial⟩,by decide,xH _⟩⟩
      | true=>
        rw [e2] at s2 hsT;cases e3:decide (st=sx) with
        | false=>
          rw [e3] at s3 hsT;have hnx:=hnx hsT
          (repeat' (first|refine wS ?_|refine wB ?_|refine wK ?_|refine wU ?_|(refine wC rfl ?_ ?_<;>(intro hb;(try simp only [nm] at hb);try (exfalso;omega)))|(refine rg 2 (dI rfl (qW T rfl (vV (aL rfl rfl) ?_))))|(refine bV (id:=4) 57 yX8 (rM 12 28) yX9 cK rfl (by decide +kernel) (dN rfl (dN rfl (dV rfl (by exact aI T rfl rfl rfl rfl rfl (by omega) (by omega)) ?_)));refine dP T rfl (dV rfl (by exact aK T rfl rfl (bF rfl q1) rfl) ?_);refine dP T rfl (dO T rfl (dV rfl (kC (s1)) (dN rfl (tN rfl (tN rfl (dT rfl (by exact aI T rfl rfl rfl rfl rfl (by omega) (by omega)) ?_))))));refine tP T rfl (dT rfl (by exact aK T rfl rfl (bF rfl q1) rfl) ?_);refine tP T rfl (tO T rfl (dT rfl (kC (s2)) (dV rfl (gG rfl rfl) (dN rfl (tN rfl (tN rfl (dT rfl (by exact aI T rfl rfl rfl rfl rfl (by omega) (by omega)) ?_)))))));refine tP T rfl (dT rfl (by exact aK T rfl rfl (bF rfl q1) rfl) ?_);refine tP T rfl (tO T rfl (dT rfl (kC (s3)) (dV rfl (gG rfl rfl) (dE ?_)))))|(refine iA 3 rfl rfl rfl (by omega) (by omega) ?_)|refine nZ ?_));all_goals try (exfalso;omega)
          all_goals exact ⟨⟨k+1,hlt,hnx⟩,by dsimp only;omega,⟨[0],rfl,(by repeat first|exact trivial|refine ⟨rfl,?_⟩),⟨.inr (aC rfl rfl (gR _)),trivial⟩,by decide,xH _⟩⟩
        | true=>
          rw [e3] at s3 hsT;have hat:=hat hsT;by_cases hm:mx<mt
          · rw [if_pos hm] at hat;subst hat;rw [gW]
            (repeat' (first|refine wS ?_|refine wB ?_|refine wK ?_|refine wR ?_|refine wT ?_|(refine rg 2 (dI rfl (qW T rfl (vV (AN rfl rfl (by omega)) ?_))))|(refine bV (id:=4) 57 yX8 (rM 12 28) yX9 cK rfl (by decide +kernel) (dN rfl (dN rfl (dV rfl (by exact aI T rfl rfl rfl rfl rfl (by omega) (by omega)) ?_)));refine dP T rfl (dV rfl (by exact aK T rfl rfl (bF rfl q1) rfl) ?_);refine dP T rfl (dO T rfl (dV rfl (kC (s1)) (dN rfl (tN rfl (tN rfl (dT rfl (by exact aI T rfl rfl rfl rfl rfl (by omega) (by omega)) ?_))))));refine tP T rfl (dT rfl (by exact aK T rfl rfl (bF rfl q1) rfl) ?_);refine tP T rfl (tO T rfl (dT rfl (kC (s2)) (dV rfl (gG rfl rfl) (dN rfl (tN rfl (tN rfl (dT rfl (by exact aI T rfl rfl rfl rfl rfl (by omega) (by omega)) ?_)))))));refine tP T rfl (dT rfl (by exact aK T rfl rfl (bF rfl q1) rfl) ?_);refine tP T rfl (tO T rfl (dT rfl (kC (s3)) (dV rfl (gG rfl rfl) (dE ?_)))))|(refine bV (id:=5) 57 [[],[0],[],[],[2,3],[2,3,4],rM 2 4,rN 7] (rM 40 8) yY0 cK rfl (by decide +kernel) (dP T rfl (dO T rfl (dN rfl (dN rfl (dV rfl (by exact aI T rfl rfl rfl rfl rfl (by omega) (by omega)) ?_)))));refine dP T rfl (dV rfl (by exact aK T rfl rfl (bF rfl q1) rfl) ?_);refine dV rfl (AN rfl rfl (by omega)) (dE ?_))|(refine rg 6 (dI rfl (vV (aK T rfl rfl rfl rfl) (vV (by exact aI T rfl rfl rfl rfl rfl (by omega) (by omega)) ?_)));refine bD T rfl rfl rfl rfl rfl rfl (by decide) (lR rfl q1 rfl) ?_)|(refine rg 7 (mW rfl (aV ?_)))|refine nZ ?_));all_goals try (exfalso;omega)
            all_goals exact ⟨.inl rfl,[0],_,rfl,rfl,rfl,⟨.inr (aC rfl hst (gR _)),trivial⟩,by decide,xH _⟩
          · rw [if_neg hm] at hat;rw [hat];clear hat hS
            (repeat' (first|refine wS ?_|refine wB ?_|refine wK ?_|refine wR ?_|refine wT ?_|refine wU ?_|(refine rg 2 (dI rfl (qW T rfl (vV (AN rfl rfl (by omega)) ?_))))|(refine bV (id:=4) 57 yX8 (rM 12 28) yX9 cK rfl (by decide +kernel) (dN rfl (dN rfl (dV rfl (by exact aI T rfl rfl rfl rfl rfl (by omega) (by omega)) ?_)));refine dP T rfl (dV rfl (by exact aK T rfl rfl (bF rfl q1) rfl) ?_);refine dP T rfl (dO T rfl (dV rfl (kC (s1)) (dN rfl (tN rfl (tN rfl (dT rfl (by exact aI T rfl rfl rfl rfl rfl (by omega) (by omega)) ?_))))));refine tP T rfl (dT rfl (by exact aK T rfl rfl (bF rfl q1) rfl) ?_);refine tP T rfl (tO T rfl (dT rfl (kC (s2)) (dV rfl (gG rfl rfl) (dN rfl (tN rfl (tN rfl (dT rfl (by exact aI T rfl rfl rfl rfl rfl (by omega) (by omega)) ?_)))))));refine tP T rfl (dT rfl (by exact aK T rfl rfl (bF rfl q1) rfl) ?_);refine tP T rfl (tO T rfl (dT rfl (kC (s3)) (dV rfl (gG rfl rfl) (dE ?_)))))|(refine bV (id:=5) 57 [[],[0],[],[],[2,3],[2,3,4],rM 2 4,rN 7] (rM 40 8) yY0 cK rfl (by decide +kernel) (dP T rfl (dO T rfl (dN rfl (dN rfl (dV rfl (by exact aI T rfl rfl rfl rfl rfl (by omega) (by omega)) ?_)))));refine dP T rfl (dV rfl (by exact aK T rfl rfl (bF rfl q1) rfl) ?_);refine dV rfl (TW rfl rfl (by omega)) (dE ?_))|(refine rg 7 (mW rfl (aV ?_)))|refine nZ ?_));all_goals try (exfalso;omega)
            all_goals exact ⟨.inl rfl,[0],_,rfl,rfl,rfl,⟨.inr (aC rfl rfl (gR _)),trivial⟩,by decide,xH _⟩
  · exfalso;obtain ⟨t,ht,hs⟩:=iX.1 hx;obtain ⟨i,hi,rfl⟩:=I2 ht;rw [hno i hi (by omega)] at hs;cases hs
theorem EZ (l:List PT) (x:PT) (hl:l.length≤1000000) (hb:∀ t,t∈l→HP t) (hx:TT l x=false) :
    aT Tryz.prog 24 [.sl 0 0 l.length 4,.agg (zY4 x)] [.arr (mC l) 4] (.sl 1 0 (iO l x).length 4) [.gone,.arr (mC (iO l x)) 4]:=by
  have hll:(mC l).length=l.length:=qA l;have hno:∀ i (h:i<l.length),tI l[i] x=false:=fun i h=>by
    have:=List.any_eq_false.1 hx l[i] (aM h);exact Y9.2 this
  rw [FD hno];have hsn:=ZR l x;have hl1:(l++[x]).length=l.length+1:=by simp
  obtain ⟨px,bx,mx,sx⟩:=x;refine bU T Tryz.func24 rfl rfl rfl rfl ?_
  (repeat' (first|refine wS ?_|(refine rg 0 (cC (cO rfl rfl) rfl (aV ?_)))|refine nZ ?_));refine fH 3 (cs:=[.rowE (Go.Ab.ints px) 1,.rowE (cW bx) 3,.i mx,.rowE (Go.Ab.ints sx) 1]) rfl rfl rfl ?_
  (repeat' (first|refine wB ?_|(refine rg 1 (aV ?_))|refine nZ ?_));refine dA (X:={k:Nat // k≤l.length}) (fun k=>[(0,.sl 0 0 l.length 4),(3,.pr [.rowE (Go.Ab.ints px) 1,.rowE (cW bx) 3,.i mx,.rowE (Go.Ab.ints sx) 1] 0),(5,.i (k.1:Int))]) (fun _=>[.arr (mC l) 4]) (fun k=>l.length-k.1) ⟨0,bW _⟩ ⟨[0],rfl,(by repeat first|exact trivial|refine ⟨rfl,?_⟩),⟨.inr (aC rfl rfl (gR _)),trivial⟩,by decide,xH _⟩ ?_
  rintro ⟨k,hk⟩;dsimp only at hk ⊢;by_cases hlt:k<l.length
  · obtain ⟨b1,b2,b3⟩:=hb _ (aM hlt);have q1:=MH hlt;have hno:=hno k hlt;have hsT:tI l[k] ⟨px,bx,mx,sx⟩=(decide (l[k].p=px)&&decide (l[k].b=bx)&&decide (l[k].s=sx)):=rfl;have s1:=J1 l[k].p px (by omega)
    have s2:=V8 l[k].b bx (by omega)
    have s3:=J1 l[k].s sx (by omega)
    generalize l[k]=t at *;obtain ⟨pt,bt,mt,st⟩:=t;dsimp only at *
    replace q1:(mC l)[0+(k:Int).toNat]? = some [.rowE (Go.Ab.ints pt) 1,.rowE (cW bt) 3,.i mt,.rowE (Go.Ab.ints st) 1]:=q1
    rw [hsT] at hno;cases e1:decide (pt=px) with
    | false=>
      rw [e1] at s1
      (repeat' (first|refine wS ?_|refine wB ?_|refine wK ?_|refine wU ?_|(refine wC rfl ?_ ?_<;>(intro hb;(try simp only [nm] at hb);try (exfalso;omega)))|(refine rg 2 (dI rfl (qW T rfl (vV (aL rfl rfl) ?_))))|(refine bV (id:=4) 57 yX8 (rM 12 28) yX9 cK rfl (by decide +kernel) (dN rfl (dN rfl (dV rfl (by exact aI T rfl rfl rfl rfl rfl (by omega) (by omega)) ?_)));refine dP T rfl (dV rfl (by exact aK T rfl rfl (bF rfl q1) rfl) ?_);refine dP T rfl (dO T rfl (dV rfl (kC (s1)) (dN rfl (tG rfl (tG rfl (tG rfl (tG rfl (tG rfl (dG ?_)))))))));refine tG rfl (tG rfl (dV rfl (gJ rfl rfl) (dN rfl (tG rfl (tG rfl (tG rfl (tG rfl (tG rfl (dG ?_)))))))));refine tG rfl (tG rfl (dV rfl (gJ rfl rfl) (dE ?_))))|(refine iA 3 rfl rfl rfl (by omega) (by omega) ?_)|refine nZ ?_));all_goals try (exfalso;omega)
      all_goals exact ⟨⟨k+1,hlt⟩,by dsimp only;omega,⟨[0],rfl,(by repeat first|exact trivial|refine ⟨rfl,?_⟩),⟨.inr (aC rfl rfl (gR _)),trivial⟩,by decide,xH _⟩⟩
    | true=>
      rw [e1] at s1 hno;cases e2:decide (bt=bx) with
      | false=>
        rw [e2] at s2
        (repeat' (first|refine wS ?_|refine wB ?_|refine wK ?_|refine wU ?_|(refine wC rfl ?_ ?_<;>(intro hb;(try simp only [nm] at hb);try (exfalso;omega)))|(refine rg 2 (dI rfl (qW T rfl (vV (aL rfl rfl) ?_))))|(refine bV (id:=4) 57 yX8 (rM 12 28) yX9 cK rfl (by decide +kernel) (dN rfl (dN rfl (dV rfl (by exact aI T rfl rfl rfl rfl rfl (by omega) (by omega)) ?_)));refine dP T rfl (dV rfl (by exact aK T rfl rfl (bF rfl q1) rfl) ?_);refine dP T rfl (dO T rfl (dV rfl (kC (s1)) (dN rfl (tN rfl (tN rfl (dT rfl (by exact aI T rfl rfl rfl rfl rfl (by omega) (by omega)) ?_))))));refine tP T rfl (dT rfl (by exact aK T rfl rfl (bF rfl q1) rfl) ?_);refine tP T rfl (tO T rfl (dT rfl (kC (s2)) (dV rfl (gG rfl rfl) (dN rfl (tG rfl (tG rfl (tG rfl (tG rfl (dG ?_)))))))));refine tG rfl (tG rfl (tG rfl (dV rfl (gJ rfl rfl) (dE ?_)))))|(refine iA 3 rfl rfl rfl (by omega) (by omega) ?_)|refine nZ ?_));all_goals try (exfalso;omega)
        all_goals exact ⟨⟨k+1,hlt⟩,by dsimp only;omega,⟨[0],rfl,(by repeat first|exact trivial|refine ⟨rfl,?_⟩),⟨.inr (aC rfl rfl (gR _)),trivial⟩,by decide,xH _⟩⟩
      | true=>
        rw [e2] at s2 hno;rw [show decide (st=sx)=false from hno] at s3
        (repeat' (first|refine wS ?_|refine wB ?_|refine wK ?_|refine wU ?_|(refine wC rfl ?_ ?_<;>(intro hb;(try simp only [nm] at hb);try (exfalso;omega)))|(refine rg 2 (dI rfl (qW T rfl (vV (aL rfl rfl) ?_))))|(refine bV (id:=4) 57 yX8 (rM 12 28) yX9 cK rfl (by decide +kernel) (dN rfl (dN rfl (dV rfl (by exact aI T rfl rfl rfl rfl rfl (by omega) (by omega)) ?_)));refine dP T rfl (dV rfl (by exact aK T rfl rfl (bF rfl q1) rfl) ?_);refine dP T rfl (dO T rfl (dV rfl (kC (s1)) (dN rfl (tN rfl (tN rfl (dT rfl (by exact aI T rfl rfl rfl rfl rfl (by omega) (by omega)) ?_))))));refine tP T rfl (dT rfl (by exact aK T rfl rfl (bF rfl q1) rfl) ?_);refine tP T rfl (tO T rfl (dT rfl (kC (s2)) (dV rfl (gG rfl rfl) (dN rfl (tN rfl (tN rfl (dT rfl (by exact aI T rfl rfl rfl rfl rfl (by omega) (by omega)) ?_)))))));refine tP T rfl (dT rfl (by exact aK T rfl rfl (bF rfl q1) rfl) ?_);refine tP T rfl (tO T rfl (dT rfl (kC (s3)) (dV rfl (gG rfl rfl) (dE ?_)))))|(refine iA 3 rfl rfl rfl (by omega) (by omega) ?_)|refine nZ ?_));all_goals try (exfalso;omega)
        all_goals exact ⟨⟨k+1,hlt⟩,by dsimp only;omega,⟨[0],rfl,(by repeat first|exact trivial|refine ⟨rfl,?_⟩),⟨.inr (aC rfl rfl (gR _)),trivial⟩,by decide,xH _⟩⟩
  · obtain rfl:k=l.length:=by omega
    (repeat' (first|refine wS ?_|refine wR ?_|refine wE ?_|(refine wC rfl ?_ ?_<;>(intro hb;(try simp only [nm] at hb);try (exfalso;omega)))|(refine rg 2 (dI rfl (qW T rfl (vV (aL rfl rfl) ?_))))|(refine rg 8 (mW rfl (lW T rfl (cC (by exact bE T rfl rfl (by decide) (by decide) rfl rfl rfl) rfl ?_)));refine fS T rfl rfl rfl rfl rfl rfl (by omega) (iK.whole rfl rfl) rfl (by simp;omega) (by simp;omega) rfl ?_;refine aV ?_)|refine nZ ?_));all_goals try (exfalso;omega)
    rw [hl1];exact ⟨.inl rfl,[0,2],_,rfl,rfl,rfl,⟨.inl rfl,.inr (aC rfl (by rw [← hsn];exact jF hll.symm) (gR _)),trivial⟩,by decide,xH _⟩
theorem zK2 (c:Cx) (hc:iL c) (ps:List Int) (all:List PT) (s:Ev) (hall:∀ t,t∈all→oZ c t.p t.b∧0≤t.m∧t.m≤c.m∧t.s.length≤1000) (hl:all.length≤200000) (ha:0≤s.a∧s.a<c.bs.length) (hb:s.k=4→s.a<s.b∧s.b<c.bs.length) (hn:0≤s.n∧s.n≤1099511627776) (hids:s.ids.length≤9223372036854775807) :
    aT Tryz.prog 23 [wF c.ks c.ls ps c.bs,iH c.m c.st c.er c.sl,.rowE (mC all) 4,zU6 s] [] (.sl 0 0 (uW c s all).length 4) [.arr (mC (uW c s all)) 4]:=by
  have hll:(mC all).length=all.length:=qA all;have hm0:=hc.s.1;have hm1:=hc.s.2.1;have hn8:=hc.f.n8;have hnl:(nats (List.range c.bs.length)).length=c.bs.length:=by simp
  rw [hnl] at hn8
  let F:Nat→List PT:=fun i=>((all.take i).flatMap fun t=>rA c s t 4).foldl iO []
  have hF0:F 0=[]:=rfl;have hFs:∀ i (h:i<all.length),F (i+1)=(rA c s all[i] 4).foldl iO (F i):=fun i h=>QO c s h
  have hFl:∀ i,i≤all.length→(F i).length≤i*4:=fun i hi=>by
    refine bG (uE _ _) ?_;rw [List.length_nil,Nat.zero_add];refine bG (AQ _ 4 _ fun t _=>T6 c s t 4) ?_;rw [bH];omega
  have hFb:∀ i t,t∈F i→HP t:=fun i t ht=>by
    rcases uD ht with h | h
    · cases h
    · obtain ⟨u,hu,hx⟩:=fC.1 h;obtain ⟨_,d,_,hcan,rfl⟩:=F7.1 hx;have hr:=((hall u (dS hu)).1.aft ha hb hcan);have h1:=hr.len;have h2:=hr.t.len;exact ⟨by show (oY _ _ _).length≤1000;omega,by show (tD _ _ _ _).length≤1000;omega,(hall u (dS hu)).2.2.2⟩
  have hFe:F all.length=uW c s all:=by show ((all.take all.length).flatMap _).foldl iO []=_;rw [cQ];rfl
  clear_value F
  refine bU T Tryz.func23 rfl rfl rfl rfl ?_
  (repeat' (first|refine wS ?_|(refine rg 0 (cC (cO rfl rfl) rfl (cC (cO rfl rfl) rfl (cC (cO rfl rfl) rfl (aV ?_)))))|refine nZ ?_));refine fH 4 (cs:=[.rowE (gE c.ks) 2,.rowE (iI c.ls) 3,.rowE (ints ps) 1,.rowE (cW c.bs) 3]) rfl rfl rfl ?_
  refine fH 5 (cs:=[.i c.m,.i c.st,.i c.er,.i c.sl]) rfl rfl rfl ?_;refine fH 7 (cs:=xN s) rfl rfl rfl ?_
  repeat' (first|refine wS ?_|(refine rg 1 (vV (dK rfl) (nY 9 4 rfl (by decide) ?_)))|refine nZ ?_)
  (repeat' (first|refine wB ?_|(refine rg 2 (aV ?_))|refine nZ ?_));refine dA (X:={x:Nat × List PT // x.1≤all.length∧F x.1=x.2}) (fun x=>[(2,.rowE (mC all) 4),(4,.pr [.rowE (gE c.ks) 2,.rowE (iI c.ls) 3,.rowE (ints ps) 1,.rowE (cW c.bs) 3] 0),(5,.pr [.i c.m,.i c.st,.i c.er,.i c.sl] 0),(7,.pr (xN s) 0),(9,.sl 0 0 x.1.2.length 4),(10,.i (x.1.1:Int))]) (fun x=>[.arr (mC x.1.2) 4]) (fun x=>all.length-x.1.1) ⟨(0,[]),bW _,hF0⟩ ⟨[3],rfl,(by repeat first|exact trivial|refine ⟨rfl,?_⟩),⟨.inr rfl,trivial⟩,by decide,jY _⟩ ?_
  rintro ⟨⟨i,O⟩,hi,hO⟩;dsimp only at hi hO ⊢;have hFi:=hFl i hi;have hFb:=hFb i;rw [hO] at hFi hFb;by_cases hlt:i<all.length
  · have hFs:=hFs i hlt;obtain ⟨r1,r2,r3,r4⟩:=hall _ (aM hlt);have q1:=BW hlt;have hag:=XM hc r1 ha hn hids;have haf:=fun done=>zK1 hc r1 ha hb hn hids done
    have hmi:=HL c.st (all[i].p.getD s.a.toNat 0) s.k s.ids;change 0≤nB c all[i].p s∧nB c all[i].p s≤1 at hmi;have hge:=F6 (c:=c) (s:=s) (t:=all[i]);have hno:=fun k=>zF1 c s all[i] k
    have hsu:=fun k=>QM c s all[i] k
    have hfl:=fun k=>T6 c s all[i] k
    have hfb:∀ k x,x∈rA c s all[i] k→HP x:=fun k x hx=>by
      obtain ⟨_,d,_,hcan,rfl⟩:=F7.1 hx;have hr:=r1.aft ha hb hcan;have h1:=hr.len;have h2:=hr.t.len;exact ⟨by show (oY _ _ _).length≤1000;omega,by show (tD _ _ _ _).length≤1000;omega,r4⟩
    have hz:rA c s all[i] 0=[]:=by unfold rA;split <;> rfl
    have hat:∀ k:Int,RS c s all[i] k=⟨oY all[i].p s k,tD all[i].p all[i].b s k,all[i].m+nB c all[i].p s,all[i].s⟩:=fun k=>rfl
    generalize X6 c s all[i]=go at *;generalize hfr:rA c s all[i]=fr at *;generalize hfa:RS c s all[i]=fa at *;generalize all[i]=t at *;obtain ⟨pt,bt,mt,st⟩:=t
    replace q1:(mC all)[(i:Int).toNat]? = some [.rowE (Go.Ab.ints pt) 1,.rowE (cW bt) 3,.i mt,.rowE (Go.Ab.ints st) 1]:=q1
    dsimp only at *;generalize nB c pt s=mi at *;generalize jK bt=qt at *;generalize HM c pt qt s=ag at *;rw [hO] at hFs;generalize hO':F (i+1)=O' at *;cases go with
    | false=>
      have hn4:=hno 4 rfl;rw [hn4] at hFs;have hFs:O'=O:=hFs;subst hFs;have hng:¬ (ag=true∧mt+mi≤c.m):=fun q=>by have:=hge.2 q;cases this
      cases ag with
      | false=>
        (repeat' (first|refine wS ?_|refine wB ?_|refine wK ?_|(refine wC rfl ?_ ?_<;>(intro hb;(try simp only [nm] at hb);try (exfalso;omega)))|(refine rg 3 (dI rfl (qW T rfl (vV (aL rfl rfl) ?_))))|(refine rg 5 (dI rfl (vV (ix T rfl (by omega) (sJ _) q1) (lW T rfl (cC (cM T rfl) rfl (bD T rfl rfl rfl rfl rfl rfl (by decide) rfl ?_))))))|refine nZ ?_));all_goals try (exfalso;omega)
        refine fH 11 (cs:=[.rowE (Go.Ab.ints pt) 1,.rowE (cW bt) 3,.i mt,.rowE (Go.Ab.ints st) 1]) rfl rfl rfl ?_
        (repeat' (first|refine wS ?_|refine wB ?_|(refine rg 6 (lW T rfl (gI T rfl (gI T rfl (gI T rfl (gI T rfl (lW T rfl (vV (kC (hag)) (mW rfl (xV ?_)))))))));refine xW rfl (sG ?_))|(refine rg 7 (aV ?_))|refine nZ ?_));all_goals try (exfalso;omega)
        refine dA (X:=Unit) (fun _=>[(2,.rowE (mC all) 4),(4,.pr [.rowE (gE c.ks) 2,.rowE (iI c.ls) 3,.rowE (ints ps) 1,.rowE (cW c.bs) 3] 0),(5,.pr [.i c.m,.i c.st,.i c.er,.i c.sl] 0),(7,.pr (xN s) 0),(9,.sl 0 0 O'.length 4),(10,.i (i:Int)),(11,.pr [.rowE (Go.Ab.ints pt) 1,.rowE (cW bt) 3,.i mt,.rowE (Go.Ab.ints st) 1] 0),(12,.i mi),(13,.b false),(14,.i 0)]) (fun _=>[.arr (mC O') 4]) (fun _=>0) () ⟨[0],rfl,(by repeat first|exact trivial|refine ⟨rfl,?_⟩),⟨.inr (aC rfl rfl (gR _)),trivial⟩,by decide,jY _⟩ ?_
        rintro ⟨⟩
        (repeat' (first|refine wS ?_|refine wE ?_|refine wU ?_|(refine rg 8 (mW rfl (vV (iB rfl rfl) (mW rfl (yN rfl (pW rfl (mV ?_))))));(iterate 7 refine gF ?_);refine pV ?_)|(refine iA 4 rfl rfl rfl (by omega) (by omega) ?_)|refine nZ ?_));all_goals try (exfalso;omega)
        all_goals exact ⟨⟨(i+1,O'),hlt,hO'⟩,by dsimp only;omega,⟨[0],rfl,(by repeat first|exact trivial|refine ⟨rfl,?_⟩),⟨.inr (aC rfl rfl (gR _)),trivial⟩,by decide,jY _⟩⟩
      | true=>
        have hng2:¬ (mt+mi≤c.m):=fun q=>hng ⟨rfl,q⟩
        (repeat' (first|refine wS ?_|refine wB ?_|refine wK ?_|(refine wC rfl ?_ ?_<;>(intro hb;(try simp only [nm] at hb);try (exfalso;omega)))|(refine rg 3 (dI rfl (qW T rfl (vV (aL rfl rfl) ?_))))|(refine rg 5 (dI rfl (vV (ix T rfl (by omega) (sJ _) q1) (lW T rfl (cC (cM T rfl) rfl (bD T rfl rfl rfl rfl rfl rfl (by decide) rfl ?_))))))|refine nZ ?_));all_goals try (exfalso;omega)
        refine fH 11 (cs:=[.rowE (Go.Ab.ints pt) 1,.rowE (cW bt) 3,.i mt,.rowE (Go.Ab.ints st) 1]) rfl rfl rfl ?_
        (repeat' (first|refine wS ?_|refine wB ?_|(refine rg 6 (lW T rfl (gI T rfl (gI T rfl (gI T rfl (gI T rfl (lW T rfl (vV (kC (hag)) (mW rfl (xV ?_)))))))));refine xW rfl (sG ?_))|(refine rg 7 (aV ?_))|refine nZ ?_));all_goals try (exfalso;omega)
        refine dA (X:=Unit) (fun _=>[(2,.rowE (mC all) 4),(4,.pr [.rowE (gE c.ks) 2,.rowE (iI c.ls) 3,.rowE (ints ps) 1,.rowE (cW c.bs) 3] 0),(5,.pr [.i c.m,.i c.st,.i c.er,.i c.sl] 0),(7,.pr (xN s) 0),(9,.sl 0 0 O'.length 4),(10,.i (i:Int)),(11,.pr [.rowE (Go.Ab.ints pt) 1,.rowE (cW bt) 3,.i mt,.rowE (Go.Ab.ints st) 1] 0),(12,.i mi),(13,.b true),(14,.i 0)]) (fun _=>[.arr (mC O') 4]) (fun _=>0) () ⟨[0],rfl,(by repeat first|exact trivial|refine ⟨rfl,?_⟩),⟨.inr (aC rfl rfl (gR _)),trivial⟩,by decide,jY _⟩ ?_
        rintro ⟨⟩
        (repeat' (first|refine wS ?_|refine wE ?_|refine wU ?_|(refine rg 8 (mW rfl (vV (yX rfl rfl (by omega)) (mW rfl (yN rfl (pW rfl (mW rfl (yP T rfl (yO T rfl (yM ?_)))))))));refine yV (cE rfl rfl (by omega) (by omega)) (yP T rfl (yO T rfl (yV (TX rfl rfl (by omega)) (pV ?_)))))|(refine iA 4 rfl rfl rfl (by omega) (by omega) ?_)|refine nZ ?_));all_goals try (exfalso;omega)
        all_goals exact ⟨⟨(i+1,O'),hlt,hO'⟩,by dsimp only;omega,⟨[0],rfl,(by repeat first|exact trivial|refine ⟨rfl,?_⟩),⟨.inr (aC rfl rfl (gR _)),trivial⟩,by decide,jY _⟩⟩
    | true=>
      obtain ⟨g1,g2⟩:=hge.1 rfl;subst g1;have hsu:=fun k=>hsu k rfl
      (repeat' (first|refine wS ?_|refine wB ?_|refine wK ?_|(refine wC rfl ?_ ?_<;>(intro hb;(try simp only [nm] at hb);try (exfalso;omega)))|(refine rg 3 (dI rfl (qW T rfl (vV (aL rfl rfl) ?_))))|(refine rg 5 (dI rfl (vV (ix T rfl (by omega) (sJ _) q1) (lW T rfl (cC (cM T rfl) rfl (bD T rfl rfl rfl rfl rfl rfl (by decide) rfl ?_))))))|refine nZ ?_));all_goals try (exfalso;omega)
      refine fH 11 (cs:=[.rowE (Go.Ab.ints pt) 1,.rowE (cW bt) 3,.i mt,.rowE (Go.Ab.ints st) 1]) rfl rfl rfl ?_
      (repeat' (first|refine wS ?_|refine wB ?_|(refine rg 6 (lW T rfl (gI T rfl (gI T rfl (gI T rfl (gI T rfl (lW T rfl (vV (kC (hag)) (mW rfl (xV ?_)))))))));refine xW rfl (sG ?_))|(refine rg 7 (aV ?_))|refine nZ ?_));all_goals try (exfalso;omega)
      refine dA (X:={x:Nat × List PT // x.1≤4∧(fr x.1).foldl iO O=x.2}) (fun x=>[(2,.rowE (mC all) 4),(4,.pr [.rowE (gE c.ks) 2,.rowE (iI c.ls) 3,.rowE (ints ps) 1,.rowE (cW c.bs) 3] 0),(5,.pr [.i c.m,.i c.st,.i c.er,.i c.sl] 0),(7,.pr (xN s) 0),(9,.sl 0 0 x.1.2.length 4),(10,.i (i:Int)),(11,.pr [.rowE (Go.Ab.ints pt) 1,.rowE (cW bt) 3,.i mt,.rowE (Go.Ab.ints st) 1] 0),(12,.i mi),(13,.b true),(14,.i (x.1.1:Int))]) (fun x=>[.arr (mC x.1.2) 4]) (fun x=>4-x.1.1) ⟨(0,O),bW _,by rw [hz];rfl⟩ ⟨[0],rfl,(by repeat first|exact trivial|refine ⟨rfl,?_⟩),⟨.inr (aC rfl rfl (gR _)),trivial⟩,by decide,jY _⟩ ?_
      rintro ⟨⟨d,D⟩,hd,hD⟩;dsimp only at hd hD ⊢;by_cases hd4:d<4
      · have hsu:=hsu d;have haf:=haf (d:Int);have hat:=hat (d:Int);rw [mY] at haf;have hfold:(fr (d+1)).foldl iO O=if rH c pt qt s (d:Int)=true then iO ((fr d).foldl iO O) (fa (d:Int)) else (fr d).foldl iO O:=by
          rw [hsu,rV];split <;> rfl
        have hOl:((fr d).foldl iO O).length≤1000000:=by
          have:=uE (fr d) O;have:=hfl d;omega
        have hOb:∀ t,t∈(fr d).foldl iO O→HP t:=fun t ht=>by
          rcases uD ht with h | h
          · exact hFb t h
          · exact hfb d t h
        have hwi:=KT ((fr d).foldl iO O) (fa (d:Int)) hOl hOb;have hwn:=EZ ((fr d).foldl iO O) (fa (d:Int)) hOl hOb;rw [hat] at hwi hwn hfold;generalize oY pt s (d:Int)=pa at *;generalize tD pt bt s (d:Int)=ba at *;generalize rH c pt qt s (d:Int)=cn at *;rw [hD] at hfold hwi hwn hOl hOb;generalize hD':(fr (d+1)).foldl iO O=D' at *;cases cn with
        | false=>
          rw [if_neg (by simp)] at hfold
          subst hfold;obtain ⟨_,haf⟩:=haf.resolve_left (fun q=>by cases q.1)
          (repeat' (first|refine wS ?_|refine wB ?_|refine wK ?_|refine wT ?_|refine wU ?_|(refine rg 8 (mW rfl (vV (yX rfl rfl (by omega)) (mW rfl (yN rfl (pW rfl (mW rfl (yP T rfl (yO T rfl (yM ?_)))))))));refine yV (cE rfl rfl (by omega) (by omega)) (yP T rfl (yO T rfl (yV (yX rfl rfl (by omega)) (pV ?_)))))|(refine rg 10 (lW T rfl (gI T rfl (gI T rfl (gI T rfl (gI T rfl (lW T rfl (mW rfl (vV (kC (haf)) (mV ?_)))))))));refine xW rfl (xW rfl (xW rfl (zK5 rfl (aV ?_)))))|(refine rg 11 (mV ?_))|(refine iA 9 rfl rfl rfl (by omega) (by omega) ?_)|refine nZ ?_));all_goals try (exfalso;omega)
          all_goals exact ⟨⟨(d+1,D'),hd4,hD'⟩,by dsimp only;omega,⟨[0],rfl,(by repeat first|exact trivial|refine ⟨rfl,?_⟩),⟨.inr (aC rfl rfl (gR _)),trivial⟩,by decide,jY _⟩⟩
        | true=>
          rw [if_pos rfl] at hfold;obtain ⟨_,haf⟩:=haf.resolve_right (fun q=>by cases q.1)
          cases hh:TT D ⟨pa,ba,mt+mi,st⟩ with
          | true=>
            have hw:=hwi hh;rw [← hfold] at hw
            (repeat' (first|refine wS ?_|refine wB ?_|refine wK ?_|refine wT ?_|(refine rg 8 (mW rfl (vV (yX rfl rfl (by omega)) (mW rfl (yN rfl (pW rfl (mW rfl (yP T rfl (yO T rfl (yM ?_)))))))));refine yV (cE rfl rfl (by omega) (by omega)) (yP T rfl (yO T rfl (yV (yX rfl rfl (by omega)) (pV ?_)))))|(refine rg 10 (lW T rfl (gI T rfl (gI T rfl (gI T rfl (gI T rfl (lW T rfl (mW rfl (vV (kC (haf)) (mV ?_)))))))));refine xW rfl (xW rfl (xW rfl (zK5 rfl (aV ?_)))))|(refine rg 11 (mV ?_))|(refine rg 12 (dI rfl (mW rfl (gI T rfl (mW rfl (vV (cE rfl rfl (by omega) (by omega)) (gI T rfl (vV (by exact eO T rfl rfl rfl rfl) ?_)))))));refine eC [0] rfl rfl (hw) rfl rfl (by decide) ⟨.inr (aC rfl rfl (gR _)),trivial⟩ (by simp) rfl ?_;refine aV ?_)|(refine iA 9 rfl rfl rfl (by omega) (by omega) ?_)|refine nZ ?_));all_goals try (exfalso;omega)
            all_goals exact ⟨⟨(d+1,D'),hd4,hD'⟩,by dsimp only;omega,⟨[0],rfl,(by repeat first|exact trivial|refine ⟨rfl,?_⟩),⟨.inr (aC rfl (bB _ (gR _)) (gR _)),trivial⟩,by decide,jY _⟩⟩
          | false=>
            have hw:=hwn hh;rw [← hfold] at hw
            (repeat' (first|refine wS ?_|refine wB ?_|refine wK ?_|refine wT ?_|(refine rg 8 (mW rfl (vV (yX rfl rfl (by omega)) (mW rfl (yN rfl (pW rfl (mW rfl (yP T rfl (yO T rfl (yM ?_)))))))));refine yV (cE rfl rfl (by omega) (by omega)) (yP T rfl (yO T rfl (yV (yX rfl rfl (by omega)) (pV ?_)))))|(refine rg 10 (lW T rfl (gI T rfl (gI T rfl (gI T rfl (gI T rfl (lW T rfl (mW rfl (vV (kC (haf)) (mV ?_)))))))));refine xW rfl (xW rfl (xW rfl (zK5 rfl (aV ?_)))))|(refine rg 11 (mV ?_))|(refine rg 12 (dI rfl (mW rfl (gI T rfl (mW rfl (vV (cE rfl rfl (by omega) (by omega)) (gI T rfl (vV (by exact eO T rfl rfl rfl rfl) ?_)))))));refine eC [0] rfl rfl (hw) rfl rfl (by decide) ⟨.inr (aC rfl rfl (gR _)),trivial⟩ (by simp) rfl ?_;refine aV ?_)|(refine iA 9 rfl rfl rfl (by omega) (by omega) ?_)|refine nZ ?_));all_goals try (exfalso;omega)
            all_goals exact ⟨⟨(d+1,D'),hd4,hD'⟩,by dsimp only;omega,⟨[1],rfl,(by repeat first|exact trivial|refine ⟨rfl,?_⟩),⟨.inr (aC rfl (bB _ (gR _)) (gR _)),trivial⟩,by decide,jY _⟩⟩
      · obtain rfl:d=4:=by omega
        have hDO:D=O':=by rw [← hD,← hFs]
        subst hDO
        (repeat' (first|refine wS ?_|refine wE ?_|refine wU ?_|(refine rg 8 (mW rfl (vV (TX rfl rfl (by omega)) (mW rfl (gF (pW rfl (mV ?_))))));(iterate 7 refine gF ?_);refine pV ?_)|(refine iA 4 rfl rfl rfl (by omega) (by omega) ?_)|refine nZ ?_));all_goals try (exfalso;omega)
        all_goals exact ⟨⟨(i+1,D),hlt,hO'⟩,by dsimp only;omega,⟨[0],rfl,(by repeat first|exact trivial|refine ⟨rfl,?_⟩),⟨.inr (aC rfl rfl (gR _)),trivial⟩,by decide,jY _⟩⟩
  · obtain rfl:i=all.length:=by omega
    have hOA:O=uW c s all:=by rw [← hO,hFe]
    rw [← hOA]
    (repeat' (first|refine wS ?_|refine wR ?_|refine wE ?_|(refine wC rfl ?_ ?_<;>(intro hb;(try simp only [nm] at hb);try (exfalso;omega)))|(refine rg 3 (dI rfl (qW T rfl (vV (aL rfl rfl) ?_))))|(refine rg 13 (mW rfl (aV ?_)))|refine nZ ?_));all_goals try (exfalso;omega)
    all_goals exact ⟨.inl rfl,[0],_,rfl,rfl,rfl,⟨.inr (aC rfl rfl (gR _)),trivial⟩,by decide,jY _⟩
end Go.Proofs.YtmmmeebiobjnbaaGreat
namespace Go.Ab
open Go
set_option maxHeartbeats 1000000
section
variable {P:Program}{env:eE}{h:Hp}{d:Option Nat}{ty:TypeId}{pos:String}{af:Array Edge}{g:Option (Nat × Bool)}
theorem MY {ρ:Pl}{S:Nat→Prop}{a:Act}{w:World}{k sz:Nat}{y:Value}(p:HQ ρ S env h a w) (hkk:h[k]? = some (.lit [] sz)) (hy:R S w (.sl k 0 0 sz) ρ y):∃ a1,y = .slice a1 0 0:=by
  have hB:=p.blk k _ hkk;simp only [RB] at hB;obtain ⟨hes,hs0,b,ys,h1,⟨c,e,h2,h3,h4⟩,h5⟩:=hB;simp only [R] at hy;obtain ⟨a1,cap,rfl,hc,hy⟩:=hy;rcases hy with ⟨_,rfl⟩ | ⟨b',o',h6,rfl,h7,c',e',fz,h8,h9⟩
  · exact ⟨a1,rfl⟩
  · rw [h1] at h6;cases h6;rw [h2] at h8;cases h8;have hcap:cap=0:=by
      rw [h3] at h9;simp only [Nat.zero_add,List.length_nil] at h9;have:=Nat.le_of_mul_le_mul_right h9 hs0;omega
    subst hcap;exact ⟨_,rfl⟩
theorem H7 (T:oQ P){t e k sz:Nat}{i:TI}{x y:Operand}{v:AV}{news:List (List AV)}(hx:evu env x=some (.sl k 0 0 sz)) (hy:evu env y=some v) (ht:T.elem t=some e) (he:T.ti e=some i) (hs:i.size=sz) (hs0:0<sz)
    (hkk:h[k]? = some (.lit [] sz)) (hnw:news≠[]) (hn:iK h v news sz) (hb:(0+news.length)*i.bytes≤140737488355328) (h63:0+news.length≤9223372036854775807) :
    cD P ⟨d,.call { callee:=.builtin .append,args:=#[x,y],argTypes:=#[t,t] },ty,pos,af,g⟩ env h 1 (fun p=>.sl p 0 (0+news.length) sz) (fun _=>[.arr news sz]):=by
  refine CZ fun ρ S a w p=>?_
  obtain ⟨a1,x1⟩:=MY p hkk (p.evu hx);obtain ⟨a2,c2,zs,y1,y2,y3,y4,y5,y6,y7⟩:=sE p.blk (p.evu hy) hn;obtain ⟨inf,z,t1,t2,t3,t4,t5,t6,t7⟩:=T.tiOk e i he;have hnl:∀ q,q∈news→q.length=sz:=by
    cases hn with
    | sl hk2 _=>
      have:=p.blk _ _ hk2;simp only [RB] at this;exact fun q hq=>this.1 q (eA (dS hq))
    | row h=>exact h
    | nil=>exact fun q hq=>by cases hq
  have hn0:0<news.length:=fD.2 hnw;have hr:=uN (P:=P) (w:=w) (t:=t) (ty:=ty) (c2:=c2) (a:=a1) (len:=0) (cap:=0) (m:=news.length) (ys:=[]) (T.elemOk _ _ ht) t1 t4 (by simp) (.inl rfl) (by rw [t2,hs];exact y5) y7 (by omega) (by rw [t3];exact hb) h63
  have hgc:=grownCap_ge w (0+news.length) 0 e;have hgm:=grownCap_le_maxLen w (0+news.length) 0 e (by simp only [maxLen];omega)
  have hzs:z.cells.size=sz:=by rw [← hs,← t6,← t5];simp
  obtain ⟨g1,g2⟩:=C3 (ys:=[]) (len:=0) hzs (by simp) y5 hgc
  refine ⟨(([]:List Value).toArray++zs.toArray++Builtin.zeroCells z.cells (grownCap w (0+news.length) 0 e-(0+news.length))),e,.slice (some ⟨w.heap.size,0,none⟩) (0+news.length) (grownCap w (0+news.length) 0 e),true,?_,fun pos hpos w' hw' lt=>⟨?_,?_⟩⟩
  · rw [← x1,← y1] at hr;simp [execOp,resolve,invoke,builtin,hr]
  · simp only [R];exact ⟨_,_,rfl,hgm,.inr ⟨w.heap.size,0,by simp [Pl.with],by simp,hgc,_,e,_,hw',by rw [Nat.zero_add,Nat.zero_add];exact g1⟩⟩
  · simp only [RB];exact ⟨hnl,hs0,.inr ⟨w.heap.size,0,zs,rfl,⟨_,e,hw',fun j u hj=>by have:=g2 j u hj;simpa using this⟩,y6.later lt⟩⟩
theorem DA (T:oQ P){t e k sz:Nat}{i:TI}{x y:Operand}{v:AV}(hx:evu env x=some (.sl k 0 0 sz)) (hy:evu env y=some v) (ht:T.elem t=some e) (he:T.ti e=some i) (hs:i.size=sz)
    (hkk:h[k]? = some (.lit [] sz)) (hn:iK h v [] sz) :
    cD P ⟨d,.call { callee:=.builtin .append,args:=#[x,y],argTypes:=#[t,t] },ty,pos,af,g⟩ env h 0 (fun _=>.sl k 0 0 sz) (fun _=>[]):=by
  refine jH fun ρ S a w p=>?_
  obtain ⟨a1,x1⟩:=MY p hkk (p.evu hx);obtain ⟨a2,c2,zs,y1,y2,y3,y4,y5,y6,y7⟩:=sE p.blk (p.evu hy) hn;obtain ⟨inf,z,t1,t2,t3,t4,t5,t6,t7⟩:=T.tiOk e i he;have hr:=tJ (P:=P) (w:=w) (t:=t) (ty:=ty) (a2:=a2) (c2:=c2) (T.elemOk _ _ ht) t1 (a:=a1) (aU 0);refine ⟨_,?_,p.evu hx⟩;have y1':a.eval y = .slice a2 0 c2:=y1;rw [← y1',← x1] at hr;simp [execOp,resolve,invoke,builtin,hr]
end
end Go.Ab
