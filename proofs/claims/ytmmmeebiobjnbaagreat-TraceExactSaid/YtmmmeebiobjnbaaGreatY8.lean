/-
  Texts of the logic and of the layer,in one module (part 8).
-/
import Derived.Test.YtmmmeebiobjnbaaGreatY7
set_option linter.unusedVariables false
set_option linter.unusedSimpArgs false
set_option linter.unnecessarySimpa false
namespace Go.Proofs.YtmmmeebiobjnbaaGreat
open Go Go.Ab Go.Ld
attribute [local irreducible] VC AW cD aT
set_option maxHeartbeats 4000000
abbrev mL (q:Int→Bool) (l:List Int):List Int:=l.filter fun x=>!q x
theorem CS {q:Int→Bool}{l:List Int}{k:Nat}(h:k<l.length):mL q (l.take (k+1))=if q l[k] then mL q (l.take k) else mL q (l.take k)++[l[k]]:=by
  unfold mL;rw [aP h,nO];cases e:q l[k] <;> simp [e]
theorem zC5 (q:Int→Bool) (l:List Int) (k:Nat):(mL q (l.take k)).length≤k:=bG (fP _ _) (by simp;omega)
theorem yR4 {G l:List Int}{m:Nat}(hg:G.length≤m) (hm:m<l.length):(ints (G++l.drop G.length))[0+(m:Int).toNat]? = some [AV.i l[m]]:=by
  rw [Nat.zero_add,bP,bY,aE hg,eF,show G.length+(m-G.length)=m by omega,aA hm];rfl
theorem yN0 {G l:List Int}{x:Int}(hg:G.length<l.length):(ints (G++l.drop G.length)).set (0+(G.length:Int).toNat) [AV.i x]=ints ((G++[x])++l.drop (G++[x]).length):=by
  rw [Nat.zero_add,bP,← oK,iZ _ _ (aU _),dY,aY hg,List.set_cons_zero];simp
theorem yJ8 {G l:List Int}(hg:G.length≤l.length):(ints (G++l.drop G.length)).length=l.length:=by simp;omega
theorem yH9 {G l:List Int}:(ints (G++l.drop G.length)).take (0+(G.length:Int).toNat)=ints G:=by
  rw [Nat.zero_add,bP,← kY,qR (aU _),bO (aU _)]
theorem HB {F:FuncId}{caps:List AV}{q:Int→Bool}(l:List Int) (hl:l.length≤1000000) (hi:AV.idfL caps=true) (hp:AV.plnL caps=true) (hF:∀ x,x∈l→aT Tryz.prog F (.i x::caps) [] (.b (q x)) []) :
    aT Tryz.prog 34 [.sl 0 0 l.length 1,.clo (.func F) [] caps] [.arr (ints l) 1] (.sl 0 0 (mL q l).length 1) [.arr (ints (mL q l)) 1]:=by
  have hll:(ints l).length=l.length:=by simp
  have hix:=zY8 hl hi hF;refine bU T Tryz.func34 rfl rfl rfl rfl ?_;rcases F5 q l 0 with ⟨h1,h2⟩ | ⟨j,hj,h1,h2,h3⟩
  · rw [h1] at hix;have hk:mL q l=l:=pC.2 fun x hx=>by rw [h2 x hx];rfl
    rw [hk]
    (repeat' (first|refine wS ?_|refine wR ?_|refine wT ?_|(refine rg 0 (aV ?_))|(refine rg 1 (dI rfl (vV (by exact fM rfl rfl hix (.cons (wW rfl rfl) (.cons (.clo .nil (lJ _ hp)) .nil)) rfl rfl) ?_));refine aV ?_)|(refine rg 2 (mW rfl (vV (eD rfl rfl) ?_)))|(refine rg 3 (mW rfl (aV ?_)))|refine nZ ?_));all_goals first | (exfalso;omega) | exact ⟨.inl rfl,[0],_,rfl,rfl,rfl,⟨.inr (aC rfl rfl (bJ _)),trivial⟩,by decide,lY⟩
  · rw [h1,Nat.zero_add] at hix;have hk0:mL q (l.take (j+1))=l.take j:=by
      rw [CS hj,if_pos h2];exact pC.2 fun x hx=>by rw [h3 x hx];rfl
    have hkl:(mL q (l.take (j+1))).length=j:=by rw [hk0];simp;omega
    have hka:mL q (l.take (j+1))++l.drop (mL q (l.take (j+1))).length=l:=by rw [hkl,hk0,bS]
    have hkf:mL q l=mL q (l.take l.length):=by rw [cQ]
    rw [hkf]
    (repeat' (first|refine wS ?_|refine wB ?_|refine wK ?_|refine wU ?_|(refine rg 0 (aV ?_))|(refine rg 1 (dI rfl (vV (by exact fM rfl rfl hix (.cons (wW rfl rfl) (.cons (.clo .nil (lJ _ hp)) .nil)) rfl rfl) ?_));refine aV ?_)|(refine rg 2 (mW rfl (vV (eD rfl rfl) ?_)))|(refine iA 4 rfl rfl rfl (by omega) (by omega) ?_)|refine nZ ?_));all_goals try (exfalso;omega)
    refine dA (X:={m:Nat // m≤l.length}) (fun m=>[(0,.sl 0 0 l.length 1),(1,.clo (.func F) [] caps),(5,.i (mL q (l.take m.1)).length),(6,.i m.1)]) (fun m=>[.arr (ints (mL q (l.take m.1)++l.drop (mL q (l.take m.1)).length)) 1]) (fun m=>l.length-m.1) ⟨j+1,hj⟩ ⟨[0],rfl,⟨rfl,by rw [lN hi];rfl,by dsimp only;rw [hkl];rfl,rfl,trivial⟩,⟨.inr (aC rfl (by dsimp only;rw [hka]) (bJ _)),trivial⟩,by decide,lY⟩ ?_
    rintro ⟨m,hm⟩;dsimp only;have hle:=zC5 q l m;by_cases hlt:m<l.length
    · have hs:=CS (q:=q) hlt;have hget:=yR4 hle hlt;have hg2:=yR4 (G:=mL q (l.take m)) (l:=l) (aU _) (by omega)
      have hset:=yN0 (G:=mL q (l.take m)) (l:=l) (x:=l[m]) (by omega)
      have hc:=hF l[m] (aM hlt);have hal:=yJ8 (G:=mL q (l.take m)) (l:=l) (by omega)
      generalize l[m]=x at *;generalize l[(mL q (l.take m)).length]=y at *;generalize hG:mL q (l.take m)=G at *;generalize hA:ints (G++l.drop G.length)=A at *;cases e:q x
      · rw [e] at hc hs;rw [if_neg (by simp)] at hs
        (repeat' (first|refine wS ?_|refine wB ?_|refine wK ?_|refine wT ?_|(refine wC rfl ?_ ?_<;>(intro hb;(try simp only [nm] at hb);try (exfalso;omega)))|(refine rg 5 (dI rfl (qW T rfl (vV (aL rfl rfl) ?_))))|(refine rg 7 (dI rfl (vV (by exact aI T rfl rfl rfl rfl rfl (by omega) (by omega)) ?_));refine vV (by exact aK T rfl rfl (bF rfl hget) rfl) ?_;refine aV ?_)|(refine rg 8 (dI rfl (vV (by exact fQ rfl rfl hc rfl (by simp [AV.idfL,AV.idf,hi]) rfl) ?_));refine vV (eH rfl) ?_)|(refine rg 9 (dI rfl (mW rfl (vV (by exact aI T rfl rfl rfl rfl rfl (by omega) (by omega)) ?_)));refine bD T rfl rfl rfl rfl rfl rfl (by decide) (lR rfl hg2 rfl) ?_)|(refine iA 10 rfl rfl rfl (by omega) (by omega) ?_)|(refine iA 6 rfl rfl rfl (by omega) (by omega) ?_)|refine nZ ?_));all_goals try (exfalso;omega)
        all_goals exact ⟨⟨m+1,hlt⟩,by dsimp only;omega,[0],rfl,⟨rfl,by rw [lN hi];rfl,by rw [hs];simp only [aF];rfl,rfl,trivial⟩,⟨.inr (aC rfl (by rw [hs];exact hset) (bJ _)),trivial⟩,by decide,lY⟩
      · rw [e] at hc hs;rw [if_pos rfl] at hs
        (repeat' (first|refine wS ?_|refine wB ?_|refine wK ?_|refine wU ?_|(refine wC rfl ?_ ?_<;>(intro hb;(try simp only [nm] at hb);try (exfalso;omega)))|(refine rg 5 (dI rfl (qW T rfl (vV (aL rfl rfl) ?_))))|(refine rg 7 (dI rfl (vV (by exact aI T rfl rfl rfl rfl rfl (by omega) (by omega)) ?_));refine vV (by exact aK T rfl rfl (bF rfl hget) rfl) ?_;refine aV ?_)|(refine rg 8 (dI rfl (vV (by exact fQ rfl rfl hc rfl (by simp [AV.idfL,AV.idf,hi]) rfl) ?_));refine vV (eH rfl) ?_)|(refine iA 6 rfl rfl rfl (by omega) (by omega) ?_)|refine nZ ?_));all_goals try (exfalso;omega)
        all_goals exact ⟨⟨m+1,hlt⟩,by dsimp only;omega,[0],rfl,⟨rfl,by rw [lN hi];rfl,by rw [hs];rfl,rfl,trivial⟩,⟨.inr (aC rfl (by rw [hs];exact hA.symm) (bJ _)),trivial⟩,by decide,lY⟩
    · obtain rfl:m=l.length:=by omega
      have hal:=yJ8 (G:=mL q (l.take l.length)) (l:=l) (by omega)
      have htk:=yH9 (G:=mL q (l.take l.length)) (l:=l);generalize mL q (l.take l.length)=G at *
      (repeat' (first|refine wS ?_|refine wR ?_|refine wE ?_|(refine wC rfl ?_ ?_<;>(intro hb;(try simp only [nm] at hb);try (exfalso;omega)))|(refine rg 5 (dI rfl (qW T rfl (vV (aL rfl rfl) ?_))))|(refine rg 11 (dI rfl (vV (by exact jZ T rfl rfl rfl rfl rfl rfl (by omega) (by omega) (by omega)) ?_));refine KZ T rfl rfl rfl rfl rfl (by rw [hal];omega) ?_)|(refine rg 12 (dI rfl (vV (by exact jZ T rfl rfl rfl rfl rfl rfl (by omega) (by omega) (by omega)) ?_));refine aV ?_)|refine nZ ?_));all_goals try (exfalso;omega)
      all_goals exact ⟨.inl rfl,[0],_,rfl,(by show AV.sl 0 0 ((G.length:Int)-0).toNat 1=AV.sl 0 0 G.length 1;rw [show ((G.length:Int)-0).toNat=G.length by omega]),rfl,⟨.inr (aC rfl htk (bJ _)),trivial⟩,by decide,lY⟩
end Go.Proofs.YtmmmeebiobjnbaaGreat
namespace Go.Ld
open Go.Ab Go.Proofs.YtmmmeebiobjnbaaGreat
theorem yA0 {l u n:Int}(hu:0<u):(l+u-1) / u≤n↔l≤n*u:=by
  have h:(l+u-1) / u<n+1↔l+u-1<(n+1)*u:=Int.ediv_lt_iff_lt_mul hu;rw [Int.add_mul] at h;omega
theorem zZ9 {l u n:Int}(hu:0<u):n<l / u+1↔n*u≤l:=by
  have h:n≤l / u↔n*u≤l:=Int.le_ediv_iff_mul_le hu;omega
theorem nK {f t n:Int}:xL f t n=true↔f≤n∧n<t:=by unfold xL;simp
theorem DL {f t v:Int}(h0:0≤v) (h1:v≤20000):((O3 f t).2=true∧xL (O3 f t).1.1 (O3 f t).1.2 v=true)↔f≤v∧v<t:=by
  unfold O3;dsimp only;rw [nK];rcases DK f t with ⟨a,b,d,e⟩ | ⟨a,b,d,e⟩
  · rw [a,b,d];constructor
    · rintro ⟨_,_⟩;omega
    · intro _;exact ⟨rfl,by omega⟩
  · rw [a];constructor
    · rintro ⟨h,_⟩;cases h
    · intro _;omega
theorem zM2 {t u w e v:Int}(hf:0≤t∧t≤1099511627776∧0≤u∧u≤1099511627776∧0≤w∧w≤1099511627776∧0≤e∧e≤1099511627776) (h0:0≤v) (h1:v≤20000) :
    ((XY t u w e).2=true∧xL (XY t u w e).1.1 (XY t u w e).1.2 v=true)↔w-e≤t+v*u∧t+v*u≤w+e:=by
  have b1:0≤v*u:=Int.mul_nonneg h0 hf.2.2.1;unfold XY;rw [if_pos (show GX t u w e=true by unfold GX;rw [decide_eq_true_eq];exact hf)]
  by_cases c1:w+e-t<0∨u=0∧0<w-e-t
  · rw [if_pos c1];constructor
    · rintro ⟨h,_⟩;cases h
    · rintro ⟨a,b⟩;rcases c1 with c1 | ⟨rfl,c1⟩ <;> omega
  · rw [if_neg c1];by_cases c2:u=0
    · rw [if_pos c2];dsimp only;rw [nK];subst c2;constructor
      · rintro ⟨_,_⟩;omega
      · rintro _;exact ⟨rfl,by omega⟩
    · rw [if_neg c2,DL h0 h1];have hu:0<u:=by omega
      have g1:yH4 t u w e≤v↔max (w-e-t) 0≤v*u:=yA0 hu;have g2:v<yH3 t u w e↔v*u≤w+e-t:=zZ9 hu;omega
theorem UT {t u w e v:Int}{r:SP}(hf:0≤t∧t≤1099511627776∧0≤u∧u≤1099511627776∧0≤w∧w≤1099511627776∧0≤e∧e≤1099511627776) (h0:0≤v) (h1:v≤20000) :
    ((vZ t u w e r).2=true∧xL (vZ t u w e r).1.1 (vZ t u w e r).1.2 v=true)↔xL r.1 r.2 v=true∧w-e≤t+v*u∧t+v*u≤w+e:=by
  have hw:=zM2 hf h0 h1;unfold vZ;generalize XY t u w e=q at *;dsimp only;by_cases hq:q.2=true
  · rw [if_pos hq,DL h0 h1,← hw,nK,nK];constructor
    · intro h;exact ⟨by omega,hq,by omega⟩
    · rintro ⟨a,_,b⟩;omega
  · rw [if_neg hq,← hw];constructor
    · rintro ⟨a,_⟩;exact absurd a hq
    · rintro ⟨_,a,_⟩;exact absurd a hq
theorem UH {c:Cx}{s:Ev}{x:Int × SP}{v:Int}(hb:0≤(c.bs.getD x.1.toNat (0,0,0)).2.2∧(c.bs.getD x.1.toNat (0,0,0)).2.2≤1073741824)
    (hu:0≤oA c.ks c.ls (c.bs.getD x.1.toNat (0,0,0)).1∧oA c.ks c.ls (c.bs.getD x.1.toNat (0,0,0)).1≤1048576) (hs:mH c.m c.st c.er c.sl) (hn:s.k=1→0≤s.n∧s.n≤1099511627776) (h0:0≤v) (h1:v≤20000) (h2:s.k≠2) :
    ((xX c s x).2.2=true∧xL (xX c s x).1.2.1 (xX c s x).1.2.2 v=true)↔xL x.2.1 x.2.2 v=true∧KB c.st c.er c.sl x.1 v ((c.bs.getD x.1.toNat (0,0,0)).2.2+v*oA c.ks c.ls (c.bs.getD x.1.toNat (0,0,0)).1) s.k s.n s.ids=true:=by
  unfold mH at hs;unfold xX KB;by_cases k0:s.k=0
  · rw [if_pos k0,if_pos k0];by_cases hm:x.1∈s.ids
    · rw [if_pos hm,if_pos hm];dsimp only;exact And.comm
    · rw [if_neg hm,if_neg hm];dsimp only;rw [tQ];exact And.comm
  rw [if_neg k0,if_neg k0];by_cases k1:s.k=1
  · rw [if_pos k1,if_pos k1];dsimp only;have hn:=hn k1;rw [UT (by omega) h0 h1]
    unfold jN;simp
  rw [if_neg k1,if_neg k1,if_neg h2,if_neg h2];by_cases k3:s.k=3
  · rw [if_pos k3,if_pos k3];dsimp only;rw [nK,nK,nK,decide_eq_true_eq];omega
  rw [if_neg k3,if_neg k3];by_cases k5:s.k=5
  · rw [if_pos k5,if_pos k5];dsimp only;rw [decide_eq_true_eq,decide_eq_true_eq];constructor
    · rintro ⟨a,b⟩;exact ⟨b,a.symm⟩
    · rintro ⟨a,b⟩;exact ⟨b.symm,a⟩
  · rw [if_neg k5,if_neg k5];exact And.comm
theorem OC {c:Cx}{s:Ev}{x:Int × SP}{v:Int}(hx:0≤x.2.1∧x.2.1<x.2.2∧x.2.2≤20001) (hs:mH c.m c.st c.er c.sl) (hn:0≤s.n∧s.n≤1099511627776) (h0:0≤v) (h1:v≤20000) (h2:s.k=2) :
    ((xX c s x).2.2=true∧xL (xX c s x).1.2.1 (xX c s x).1.2.2 v=true)↔∃ u d:Int,xL x.2.1 x.2.2 u=true∧s.n-c.sl≤u∧0≤d∧d≤u∧s.n-c.sl≤d∧d≤s.n+c.sl∧v=u-d:=by
  unfold mH at hs;unfold xX;rw [if_neg (by omega),if_neg (by omega),if_pos h2]
  dsimp only;unfold B5;rw [if_pos (by omega),DL h0 h1]
  simp only [nK];constructor
  · intro h;by_cases hc:v+max (s.n-c.sl) 0≤x.2.1
    · exact ⟨x.2.1,x.2.1-v,by omega,by omega,by omega,by omega,by omega,by omega,by omega⟩
    · exact ⟨v+max (s.n-c.sl) 0,max (s.n-c.sl) 0,by omega,by omega,by omega,by omega,by omega,by omega,by omega⟩
  · rintro ⟨u,d,a1,a2,a3,a4,a5,a6,rfl⟩;omega
theorem OD {c:Cx}{s:Ev}{x:Int × SP}(h:(xX c s x).2.2=true):(xX c s x).2.1=zM0 c.st x.1 s.k s.ids:=by
  unfold xX zM0 at *;by_cases k0:s.k=0
  · rw [if_pos k0] at h ⊢;rw [if_pos k0];by_cases hm:x.1∈s.ids
    · rw [if_pos hm] at h ⊢;simp only [if_pos hm];simp only [decide_eq_true_eq] at h;rw [if_neg (by omega)]
    · rw [if_neg hm] at h ⊢;simp only [if_neg hm];simp only [decide_eq_true_eq] at h;rw [if_neg (by omega)]
  · rw [if_neg k0,if_neg k0]
    repeat' split
    all_goals rfl
def oY (p:List Int) (s:Ev) (done:Int):List Int:=if s.k=4∧done=1 then (p.set s.a.toNat (p.getD s.b.toNat 0)).set s.b.toNat (p.getD s.a.toNat 0) else p
def uX (p q:List Int) (s:Ev) (done:Int):List Int:=if s.k=2 then q.set (p.getD s.a.toNat 0).toNat (q.getD (p.getD s.a.toNat 0).toNat 0-done) else q
def HM (c:Cx) (p q:List Int) (s:Ev):Bool:=
  KB c.st c.er c.sl (p.getD s.a.toNat 0) (q.getD (p.getD s.a.toNat 0).toNat 0) ((c.bs.getD (p.getD s.a.toNat 0).toNat (0,0,0)).2.2+q.getD (p.getD s.a.toNat 0).toNat 0*oA c.ks c.ls (c.bs.getD (p.getD s.a.toNat 0).toNat (0,0,0)).1) s.k s.n s.ids
def rH (c:Cx) (p q:List Int) (s:Ev) (done:Int):Bool:=EP c.sl (q.getD (p.getD s.a.toNat 0).toNat 0) s.k s.n done
def nB (c:Cx) (p:List Int) (s:Ev):Int:=zM0 c.st (p.getD s.a.toNat 0) s.k s.ids
def uY (c:Cx) (p q:List Int) (f:As):Prop:=∀ b:Int,0≤b→b<c.bs.length→UQ p q (f b) b
structure PQ (c:Cx) (p q:List Int):Prop where
  pl:p.length=c.bs.length
  ql:q.length=c.bs.length
  pp:p.Perm (nats (List.range c.bs.length))
  q0:∀ x,x∈q→0≤x∧x≤20000
theorem MI {p:List Int}{n:Nat}(hl:p.length=n):Go.Pm.permB p=true↔p.Perm (nats (List.range n)):=by
  unfold Go.Pm.permB;rw [decide_eq_true_eq,hl];constructor
  · intro h;rw [← h];exact (Go.Pm.sorted_perm p).symm
  · intro h;refine List.Perm.eq_of_pairwise (le:=fun a b=>a≤b) (fun a b _ _ h1 h2=>Int.le_antisymm h1 h2) ?_ ?_ ((Go.Pm.sorted_perm p).trans h)
    · have:=List.pairwise_mergeSort (le:=fun x y:Int=>decide (x≤y)) (fun a b d h1 h2=>decide_eq_true (K9 (of_decide_eq_true h1) (of_decide_eq_true h2))) (fun a b=>by rw [vC,decide_eq_true_eq,decide_eq_true_eq];omega) p
      exact this.imp (fun h=>of_decide_eq_true h)
    · exact (xS (n:=n)).imp (fun h=>h) |>.map _ (fun a b h=>by omega)
theorem PQ.at {c:Cx}{p q:List Int}(h:PQ c p q){b:Int}(h0:0≤b) (h1:b<c.bs.length):0≤p.getD b.toNat 0∧p.getD b.toNat 0<c.bs.length:=by
  have hl:=h.pl;have hm:p.getD b.toNat 0∈p:=by rw [aD,aA (by omega)];exact aM _
  exact xF.1 (h.pp.mem_iff.1 hm)
theorem PQ.inj {c:Cx}{p q:List Int}(h:PQ c p q){a b:Int}(h0:0≤a) (h1:a<c.bs.length) (h2:0≤b) (h3:b<c.bs.length) (e:p.getD a.toNat 0=p.getD b.toNat 0):a=b:=by
  have hl:=h.pl;have nd:p.Nodup:=h.pp.nodup_iff.2 (E9 _);rw [aD,aA (by omega),aD,aA (by omega)] at e
  have:=(zX5 nd).1 e;omega
theorem PQ.ct {c:Cx}{p q:List Int}(h:PQ c p q){x:Int}(h0:0≤x) (h1:x<c.bs.length):0≤q.getD x.toNat 0∧q.getD x.toNat 0≤20000:=by
  have hl:=h.ql;refine h.q0 _ ?_;rw [aD,aA (by omega)];exact aM _
theorem tB {c:Cx}{p q:List Int}{s:Ev}{done:Int}(hk:s.k=2) (h:rH c p q s done=true):0≤done∧done≤q.getD (p.getD s.a.toNat 0).toNat 0∧s.n-c.sl≤done∧done≤s.n+c.sl:=by
  unfold rH EP jN at h;rw [if_pos hk] at h;simp only [aN,decide_eq_true_eq] at h;omega
theorem P3 {p:List Int}{s:Ev}{done:Int}:(oY p s done).length=p.length:=by unfold oY;split <;> simp
theorem zK3 {p q:List Int}{s:Ev}{done:Int}:(uX p q s done).length=q.length:=by unfold uX;split <;> simp
theorem FL {l:List Int}{i j:Nat}(hi:i<l.length) (hj:j<l.length) (hne:i≠j):((l.set i (l.getD j 0)).set j (l.getD i 0)).Perm l:=by
  have h:((l.set i (l.getD j 0)).set j (l.getD i 0)).Perm l:=List.perm_iff_count.2 fun x=>by
    have e1:l.getD i 0=l[i]:=by simp [List.getD,hi]
    have e2:l.getD j 0=l[j]:=by simp [List.getD,hj]
    rw [e1,e2,List.count_set (by simpa using hj),List.count_set hi,List.getElem_set_ne hne]
    have c1:l[i]∈l:=aM _;have c2:l[j]∈l:=aM _;have p1:=List.count_pos_iff.2 c1;have p2:=List.count_pos_iff.2 c2;by_cases a1:l[i]=x
    · by_cases a2:l[j]=x
      · rw [a1] at p1;simp [a1,a2];omega
      · rw [a1] at p1;simp [a1,a2];omega
    · by_cases a2:l[j]=x
      · simp [a1,a2]
      · simp [a1,a2]
  exact h
theorem PQ.aft {c:Cx}{p q:List Int}{s:Ev}{done:Int}(h:PQ c p q) (ha:0≤s.a∧s.a<c.bs.length) (hb:s.k=4→s.a<s.b∧s.b<c.bs.length) (hc:rH c p q s done=true):PQ c (oY p s done) (uX p q s done) where
  pl:=by rw [P3];exact h.pl
  ql:=by rw [zK3];exact h.ql
  pp:=by
    refine List.Perm.trans ?_ h.pp;have hl:=h.pl;unfold oY;split
    · rename_i hk;have:=hb hk.1;exact FL (by omega) (by omega) (by omega)
    · exact .refl _
  q0:=fun x hx=>by
    unfold uX at hx;split at hx
    · rename_i hk;rcases fK hx with hx | rfl
      · exact h.q0 x hx
      · have:=tB hk hc;obtain ⟨i0,i1⟩:=h.at ha.1 ha.2;have:=h.ct i0 i1;omega
    · exact h.q0 x hx
theorem C4 {l:List Int}{i j:Nat}{x:Int}(hj:i<l.length):(l.set i x).getD j 0=if j=i then x else l.getD j 0:=fZ hj
theorem iL.box {c:Cx}(h:iL c){x:Int}(h0:0≤x) (h1:x<c.bs.length):(0≤(c.bs.getD x.toNat (0,0,0)).2.2∧(c.bs.getD x.toNat (0,0,0)).2.2≤1073741824)∧(0≤oA c.ks c.ls (c.bs.getD x.toNat (0,0,0)).1∧oA c.ks c.ls (c.bs.getD x.toNat (0,0,0)).1≤1048576):=by
  have hx:x.toNat<c.bs.length:=by omega
  have hb:=h.f.b _ hx;have e:c.bs.getD x.toNat (0,0,0)=c.bs[x.toNat]:=by rw [aD,aA hx];rfl
  rw [e];exact ⟨by omega,SI h.f hb.2.1⟩
theorem R3 {c:Cx}{p q:List Int}{f:As}{s:Ev}{done:Int}(hc:iL c) (h:PQ c p q) (hf:uY c p q f) (hS:∀ b:Int,0≤b→b<c.bs.length→PC (f b).2)
    (ha:0≤s.a∧s.a<c.bs.length) (hb:s.k=4→s.a<s.b∧s.b<c.bs.length) (hn:s.k=1∨s.k=2→0≤s.n∧s.n≤1099511627776) (hag:HM c p q s=true) (hcan:rH c p q s done=true) :
    ∃ f',A6 c s f f' (nB c p s)∧uY c (oY p s done) (uX p q s done) f':=by
  have hpl:=h.pl;have hql:=h.ql;by_cases hsw:s.k=4∧done=1
  · refine ⟨KP f s.a s.b,.inr ⟨hsw.1,rfl,by unfold nB zM0;rw [if_neg (by omega)]⟩,fun b b0 b1=>?_⟩
    have hb:=hb hsw.1;have eq:uX p q s done=q:=by unfold uX;rw [if_neg (by omega)]
    rw [eq];have ep:(oY p s done).getD b.toNat 0=if b=s.a then p.getD s.b.toNat 0 else if b=s.b then p.getD s.a.toNat 0 else p.getD b.toNat 0:=by
      unfold oY;rw [if_pos hsw,C4 (by simp;omega),C4 (by omega)]
      by_cases e1:b=s.a
      · rw [if_pos e1,if_neg (by omega),if_pos (by omega)]
      · rw [if_neg e1];by_cases e2:b=s.b
        · rw [if_pos e2,if_pos (by omega)]
        · rw [if_neg e2,if_neg (by omega),if_neg (by omega)]
    have h1:=hf s.a ha.1 ha.2;have h2:=hf s.b (by omega) hb.2
    have h3:=hf b b0 b1;unfold UQ KP at *;rw [ep];by_cases e1:b=s.a
    · rw [if_pos e1,if_pos e1];exact h2
    · rw [if_neg e1,if_neg e1];by_cases e2:b=s.b
      · rw [if_pos e2,if_pos e2];exact h1
      · rw [if_neg e2,if_neg e2];exact h3
  · have ep:oY p s done=p:=by unfold oY;rw [if_neg hsw]
    rw [ep];obtain ⟨i0,i1⟩:=h.at ha.1 ha.2;obtain ⟨q0,q1⟩:=h.ct i0 i1;obtain ⟨o1,o2⟩:=hf s.a ha.1 ha.2;obtain ⟨hbx,hu⟩:=hc.box i0 i1;have hsa:=hS s.a ha.1 ha.2;have key:(xX c s (f s.a)).2.2=true∧xL (xX c s (f s.a)).1.2.1 (xX c s (f s.a)).1.2.2 ((uX p q s done).getD (p.getD s.a.toNat 0).toNat 0)=true:=by
      by_cases k2:s.k=2
      · have hr:=tB k2 hcan;have e:(uX p q s done).getD (p.getD s.a.toNat 0).toNat 0=q.getD (p.getD s.a.toNat 0).toNat 0-done:=by
          unfold uX;rw [if_pos k2,C4 (by omega),if_pos rfl]
        rw [e];refine (OC ⟨hsa.1,hsa.2.1,hsa.2.2⟩ hc.s (hn (.inr k2)) (by omega) (by omega) k2).2 ⟨_,done,o2,?_,by omega,by omega,by omega,by omega,rfl⟩
        unfold HM KB at hag;rw [if_neg (by omega),if_neg (by omega),if_pos k2,decide_eq_true_eq] at hag
        exact hag
      · have e:uX p q s done=q:=by unfold uX;rw [if_neg k2]
        rw [e];have o1':(f s.a).1=p.getD s.a.toNat 0:=o1;refine (UH (by rw [o1'];exact hbx) (by rw [o1'];exact hu) hc.s (fun k=>hn (.inl k)) q0 q1 k2).2 ⟨o2,?_⟩
        rw [o1'];exact hag
    refine ⟨upd f s.a (xX c s (f s.a)).1,.inl ⟨key.1,rfl,?_⟩,fun b b0 b1=>?_⟩
    · rw [OD key.1,show (f s.a).1=p.getD s.a.toNat 0 from o1];rfl
    · have h3:=hf b b0 b1;unfold UQ upd at *;by_cases e1:b=s.a
      · rw [if_pos e1,JU,e1];exact ⟨o1,key.2⟩
      · rw [if_neg e1];refine ⟨h3.1,?_⟩;have hne:(p.getD b.toNat 0).toNat≠(p.getD s.a.toNat 0).toNat:=fun e=>by
          obtain ⟨j0,j1⟩:=h.at b0 b1;exact e1 (h.inj b0 b1 ha.1 ha.2 (by omega))
        have e:(uX p q s done).getD (p.getD b.toNat 0).toNat 0=q.getD (p.getD b.toNat 0).toNat 0:=by
          unfold uX;split
          · rw [C4 (by omega),if_neg hne]
          · rfl
        rw [e];exact h3.2
theorem FT {c:Cx}{p' q':List Int}{f f':As}{s:Ev}{d:Int}(hc:iL c) (h:PQ c p' q') (hst:A6 c s f f' d) (hf:uY c p' q' f') (hS:∀ b:Int,0≤b→b<c.bs.length→PC (f b).2)
    (ha:0≤s.a∧s.a<c.bs.length) (hb:s.k=4→s.a<s.b∧s.b<c.bs.length) (hn:s.k=1∨s.k=2→0≤s.n∧s.n≤1099511627776) :
    ∃ p q done,PQ c p q∧uY c p q f∧HM c p q s=true∧rH c p q s done=true∧d=nB c p s∧p'=oY p s done∧q'=uX p q s done:=by
  have hpl:=h.pl;have hql:=h.ql;rcases hst with ⟨hok,rfl,rfl⟩ | ⟨hk,rfl,rfl⟩
  · obtain ⟨i0,i1⟩:=h.at ha.1 ha.2;obtain ⟨q0,q1⟩:=h.ct i0 i1;obtain ⟨hbx,hu⟩:=hc.box i0 i1;obtain ⟨o1,o2⟩:=hf s.a ha.1 ha.2;have hsa:=hS s.a ha.1 ha.2;unfold upd at o1 o2;rw [if_pos rfl] at o1 o2;rw [JU] at o1;have hm:(xX c s (f s.a)).2.1=nB c p' s:=by rw [OD hok,o1];rfl
    by_cases k2:s.k=2
    · obtain ⟨u,dn,a1,a2,a3,a4,a5,a6,a7⟩:=(OC ⟨hsa.1,hsa.2.1,hsa.2.2⟩ hc.s (hn (.inr k2)) q0 q1 k2).1 ⟨hok,o2⟩;have hu2:=nK.1 a1;have hgx:(q'.set (p'.getD s.a.toNat 0).toNat u).getD (p'.getD s.a.toNat 0).toNat 0=u:=by rw [C4 (by omega),if_pos rfl]
      refine ⟨p',q'.set (p'.getD s.a.toNat 0).toNat u,dn,⟨hpl,by simpa using hql,h.pp,fun x hx=>?_⟩,fun b b0 b1=>?_,?_,?_,hm,?_,?_⟩
      · rcases fK hx with hx | rfl
        · exact h.q0 x hx
        · have:=hsa.2.2;have:=hsa.1;omega
      · have h3:=hf b b0 b1;unfold UQ upd at *;by_cases e1:b=s.a
        · subst e1;rw [hgx];exact ⟨o1,a1⟩
        · rw [if_neg e1] at h3;refine ⟨h3.1,?_⟩;rw [C4 (by omega),if_neg]
          · exact h3.2
          · intro e;obtain ⟨j0,j1⟩:=h.at b0 b1;exact e1 (h.inj b0 b1 ha.1 ha.2 (by omega))
      · unfold HM KB;rw [if_neg (by omega),if_neg (by omega),if_pos k2,hgx,decide_eq_true_eq];exact a2
      · unfold rH EP jN;rw [if_pos k2,hgx];simp only [aN,decide_eq_true_eq];omega
      · unfold oY;rw [if_neg (by omega)]
      · unfold uX;rw [if_pos k2,hgx,List.set_set,← a7];exact (LR _ (by omega)).symm
    · have hx:=(UH (c:=c) (s:=s) (x:=f s.a) (by rw [o1];exact hbx) (by rw [o1];exact hu) hc.s (fun k=>hn (.inl k)) q0 q1 k2).1 ⟨hok,o2⟩
      refine ⟨p',q',0,h,fun b b0 b1=>?_,?_,?_,hm,?_,?_⟩
      · have h3:=hf b b0 b1;unfold UQ upd at *;by_cases e1:b=s.a
        · subst e1;exact ⟨o1,hx.1⟩
        · rw [if_neg e1] at h3;exact h3
      · have:=hx.2;rw [o1] at this;exact this
      · unfold rH EP;rw [if_neg k2];split <;> rfl
      · unfold oY;rw [if_neg (by omega)]
      · unfold uX;rw [if_neg k2]
  · have hb:=hb hk;have hag:∀ p q,HM c p q s=true:=fun p q=>by unfold HM KB;rw [if_neg (by omega),if_neg (by omega),if_neg (by omega),if_neg (by omega),if_neg (by omega)]
    have hp1:((p'.set s.a.toNat (p'.getD s.b.toNat 0)).set s.b.toNat (p'.getD s.a.toNat 0)).Perm p':=FL (by omega) (by omega) (by omega)
    have g:∀ b:Int,0≤b→b<c.bs.length→((p'.set s.a.toNat (p'.getD s.b.toNat 0)).set s.b.toNat (p'.getD s.a.toNat 0)).getD b.toNat 0=if b=s.a then p'.getD s.b.toNat 0 else if b=s.b then p'.getD s.a.toNat 0 else p'.getD b.toNat 0:=fun b b0 b1=>by
      rw [C4 (by simp;omega),C4 (by omega)]
      by_cases e1:b=s.a
      · rw [if_pos e1,if_neg (by omega),if_pos (by omega)]
      · rw [if_neg e1];by_cases e2:b=s.b
        · rw [if_pos e2,if_pos (by omega)]
        · rw [if_neg e2,if_neg (by omega),if_neg (by omega)]
    refine ⟨(p'.set s.a.toNat (p'.getD s.b.toNat 0)).set s.b.toNat (p'.getD s.a.toNat 0),q',1,⟨by simpa using hpl,hql,hp1.trans h.pp,h.q0⟩,fun b b0 b1=>?_,hag _ _,?_,?_,?_,?_⟩
    · have h1:=hf s.a ha.1 ha.2;have h2:=hf s.b (by omega) hb.2
      have h3:=hf b b0 b1;unfold UQ KP at *;rw [g b b0 b1];rw [if_pos rfl] at h1;rw [if_neg (by omega),if_pos rfl] at h2
      by_cases e1:b=s.a
      · subst e1;rw [if_pos rfl];exact h2
      · rw [if_neg e1] at h3 ⊢;by_cases e2:b=s.b
        · subst e2;rw [if_pos rfl];exact h1
        · rw [if_neg e2] at h3 ⊢;exact h3
    · unfold rH EP;rw [if_neg (by omega),if_pos hk];rfl
    · unfold nB zM0;rw [if_neg (by omega)]
    · unfold oY;rw [if_pos ⟨hk,rfl⟩,g s.a ha.1 ha.2,g s.b (by omega) hb.2,if_pos rfl,if_neg (by omega),if_pos rfl]
      refine jQ (by simp) fun i h1 h2=>?_
      simp only [List.getElem_set];have ea:p'.getD s.a.toNat 0=p'[s.a.toNat]'(by omega):=by simp [List.getD,show s.a.toNat<p'.length by omega]
      have eb:p'.getD s.b.toNat 0=p'[s.b.toNat]'(by omega):=by simp [List.getD,show s.b.toNat<p'.length by omega]
      split
      · rename_i h;subst h;exact eb.symm▸rfl
      · split
        · rename_i h;subst h;exact ea.symm▸rfl
        · rfl
    · unfold uX;rw [if_neg (by omega)]
theorem NN {bs:List Int}{w:W}{f:As}(h:oV bs w f){b:Int}(hb:b∈bs):gP w (bs.idxOf b)=(f b).1∧gC w (bs.idxOf b)=(f b).2:=by
  obtain ⟨hx,e⟩:=yQ hb;have e1:=CX h hx;have e2:=CY h hx;rw [e] at e1 e2;exact ⟨e1,e2⟩
theorem IE {c:Cx}{M0:Int}{gs:List G}(h:oH c M0 gs){f:As}{M:Int}(hs:Sem gs f M){b:Int}(h0:0≤b) (h1:b<c.bs.length):PC (f b).2∧0≤(f b).1∧(f b).1<c.bs.length:=by
  obtain ⟨g,hg,hb⟩:=h.find ⟨h0,h1⟩;obtain ⟨w,hw,hf⟩:=wZ hs hg;obtain ⟨e1,e2⟩:=NN hf hb;have hi:=hC hb;obtain ⟨a,d,e⟩:=((h.out.ok g hg).ws w hw).at hi;rw [e1] at a d;rw [e2] at e;exact ⟨e,a,d⟩
theorem TE {c:Cx}{f:As}{M:Int}:∀ {l:List Nat},Sem (l.map (Z5 c)) f M↔0≤M∧∀ i,i∈l→f (i:Int)=((i:Int),((c.bs.getD i (0,0,0)).2.1,(c.bs.getD i (0,0,0)).2.1+1))
  | []=>by simp [Sem]
  | i::l=>by
    have ih:=fun M=>TE (c:=c) (f:=f) (M:=M) (l:=l);simp only [List.map_cons,Sem,ih];constructor
    · rintro ⟨m,⟨w,hw,hf,hm⟩,h0,h1⟩;obtain rfl:=bC.1 hw;obtain ⟨f1,f2⟩:=hf;have f1:[(i:Int)]=[(f i).1]:=f1;have f2:[((c.bs.getD i (0,0,0)).2.1,(c.bs.getD i (0,0,0)).2.1+1)]=[(f i).2]:=f2;have hm:(0:Int)≤m:=hm;refine ⟨by omega,fun k hk=>?_⟩
      rcases bN.1 hk with rfl | hk
      · exact Prod.ext (List.cons.inj f1).1.symm (List.cons.inj f2).1.symm
      · exact h1 k hk
    · rintro ⟨h0,h1⟩;have hi:=h1 i aQ;refine ⟨0,⟨_,bC.2 rfl,⟨?_,?_⟩,dX _⟩,by omega,fun k hk=>h1 k (aJ _ hk)⟩
      · show [(i:Int)]=[(f i).1];rw [hi]
      · show [_]=[(f i).2];rw [hi]
theorem TD {c:Cx}{f:As}{M:Int}:Sem (oB c) f M↔0≤M∧∀ b:Int,0≤b→b<c.bs.length→f b=(b,((c.bs.getD b.toNat (0,0,0)).2.1,(c.bs.getD b.toNat (0,0,0)).2.1+1)):=by
  rw [yG,TE];constructor
  · rintro ⟨h0,h⟩;refine ⟨h0,fun b b0 b1=>?_⟩
    have:=h b.toNat (eU.2 (by omega))
    rwa [show ((b.toNat:Nat):Int)=b by omega] at this
  · rintro ⟨h0,h⟩;refine ⟨h0,fun i hi=>?_⟩
    have:=h i (by omega) (by have:=eU.1 hi;omega)
    rwa [bP] at this
theorem zG1 {n:Nat}:∀ {gs:List G},(gs.flatMap (·.1)).Nodup→(∀ g,g∈gs→D8 n g)→(∀ g,g∈gs→g.2≠[])→∃ f,Sem gs f (kH gs)
  | [],_,_,_=>⟨fun _=>(0,(0,0)),by simp [Sem,kH]⟩
  | g::gs,nd,ok,ne=>by
    obtain ⟨f0,h0⟩:=zG1 (gs:=gs) (by rw [bM] at nd;exact (dB.1 nd).2.1) (fun x hx=>ok x (aJ _ hx)) (fun x hx=>ne x (aJ _ hx))
    obtain ⟨w,hw,hm⟩:=uB (ne g aQ);have og:=ok g aQ;refine ⟨fun b=>if b∈g.1 then HK g w b else f0 b,gQ g,?_,?_⟩
    · refine (R8 (f:=HK g w) (fun b hb=>(if_pos hb).symm)).1 ⟨w,hw,P2 og (og.ws w hw),by omega⟩
    · refine (uA (f:=f0) (fun x hx b hb=>?_)).1 (h0.mono (by simp [kH];omega))
      rw [bM] at nd;rw [if_neg (fun q=>(dB.1 nd).2.2 b q b (pJ hx hb) rfl)]
theorem zU5 {n:Nat}{gs:List G}(nd:(gs.flatMap (·.1)).Nodup) (ok:∀ g,g∈gs→D8 n g) (ne:∀ g,g∈gs→g.2≠[]){g:G}(hg:g∈gs){w:W}(hw:w∈g.2):∃ f,oV g.1 w f∧Sem gs f (w.2.1+(kH gs-gQ g)):=by
  obtain ⟨A,B,rfl⟩:=XS hg;have hp:(A++g::B).Perm (g::(A++B)):=iW;have nd':((g::(A++B)).flatMap (·.1)).Nodup:=(hp.flatMap_right _).nodup_iff.1 nd;have hs:kH (A++g::B)=gQ g+kH (A++B):=by simp [kH];omega
  rw [bM] at nd';obtain ⟨f0,h0⟩:=zG1 (gs:=A++B) (dB.1 nd').2.1 (fun x hx=>ok x (hp.mem_iff.2 (aJ _ hx))) (fun x hx=>ne x (hp.mem_iff.2 (aJ _ hx)));have og:=ok g hg;have hF:=P2 og (og.ws w hw);have hc:∀ b,b∈g.1→HK g w b=(fun b=>if b∈g.1 then HK g w b else f0 b) b:=fun b hb=>(if_pos hb).symm
  refine ⟨fun b=>if b∈g.1 then HK g w b else f0 b,?_,(pE hp).2 ⟨w.2.1,?_,?_⟩⟩
  · unfold oV at hF ⊢;rw [← jX (f:=fun b=>(HK g w b).1) (fun b hb=>by rw [hc b hb]),← jX (f:=fun b=>(HK g w b).2) (fun b hb=>by rw [hc b hb])]
    exact hF
  · exact (R8 hc).1 ⟨w,hw,hF,dX _⟩
  · refine (uA (f:=f0) (fun x hx b hb=>?_)).1 (h0.mono (by omega))
    rw [if_neg (fun q=>(dB.1 nd').2.2 b q b (pJ hx hb) rfl)]
theorem H8 {α β:Type}(f g:α→List β):∀ l:List α,(∀ x,x∈l→(f x).Perm (g x))→(l.flatMap f).Perm (l.flatMap g)
  | [],_=>.refl _
  | x::l,h=>by
    rw [bM,bM];exact (h x aQ).append (H8 f g l (fun y hy=>h y (aJ _ hy)))
theorem MU {α β γ:Type}(f:β→γ) (g:α→List β):∀ l:List α,(l.flatMap g).map f=l.flatMap fun x=>(g x).map f
  | []=>rfl
  | x::l=>by rw [bM,bM,bT,MU f g l]
theorem zO5 {c:Cx}{M0:Int}{gs:List G}(h:oH c M0 gs){f:As}{M:Int}(hs:Sem gs f M):((nats (List.range c.bs.length)).map fun b=>(f b).1).Perm (nats (List.range c.bs.length)):=by
  refine ((h.cov.symm.map _).trans ?_).trans h.idn;rw [MU];refine H8 _ _ _ fun g hg=>?_
  obtain ⟨w,hw,hf⟩:=wZ hs hg;rw [← hf.1];exact (h.out.ok g hg).same w (iU g) hw (jS (h.ne g hg))
theorem IU {n:Nat}{α:Type}(F:Int→α) (d:α){b:Int}(h0:0≤b) (h1:b<n):((nats (List.range n)).map F).getD b.toNat d=F b:=by
  rw [aD,aA (by simp;omega)]
  simp only [pP,List.getElem_range,lO];rw [show ((b.toNat:Nat):Int)=b by omega]
theorem V9 {c:Cx}{M0:Int}{gs:List G}(h:oH c M0 gs){f:As}{M:Int}(hs:Sem gs f M):∃ p q,PQ c p q∧uY c p q f:=by
  have hi:=zO5 h hs;have hnl:(nats (List.range c.bs.length)).length=c.bs.length:=by simp
  generalize hp:((nats (List.range c.bs.length)).map fun b=>(f b).1)=p at *;have hpl:p.length=c.bs.length:=by rw [hi.length_eq,hnl]
  have nd:p.Nodup:=hi.nodup_iff.2 (E9 _);have hpg:∀ b:Int,0≤b→b<c.bs.length→p.getD b.toNat 0=(f b).1:=fun b h0 h1=>by rw [← hp];exact IU _ _ h0 h1
  refine ⟨p,(nats (List.range c.bs.length)).map fun x=>if x∈p then (f (p.idxOf x)).2.1 else 0,⟨hpl,by simp,hi,fun y hy=>?_⟩,fun b h0 h1=>⟨(hpg b h0 h1).symm,?_⟩⟩
  · obtain ⟨x,hx,rfl⟩:=bA.1 hy;have hxm:=hi.mem_iff.2 hx;rw [if_pos hxm];have hlt:=hC hxm;have:=(IE h hs (b:=(p.idxOf x:Nat)) (by omega) (by omega)).1
    unfold PC at this;omega
  · have hr:=IE h hs h0 h1;rw [hpg b h0 h1,IU _ _ hr.2.1 hr.2.2];have hb:b.toNat<p.length:=by omega
    have e:(f b).1=p[b.toNat]:=by rw [← hpg b h0 h1,aD,aA hb];rfl
    rw [if_pos (by rw [e];exact aM _),e,nd.idxOf_getElem,show ((b.toNat:Nat):Int)=b by omega,nK]
    have:=hr.1;unfold PC at this;omega
def sI (c:Cx) (gs:List G):Prop:=∀ g,g∈gs→∀ w,w∈g.2→w.2.1+(kH gs-gQ g)≤c.m
theorem MZ {g g':G}(h:g.2≠[]) (h1:∀ w,w∈g'.2→∃ v,v∈g.2∧v.2.1≤w.2.1) (h2:∀ w,w∈g.2→∃ v,v∈g'.2∧v.2.1≤w.2.1):gQ g'=gQ g:=by
  obtain ⟨w,hw,e⟩:=uB h;obtain ⟨v,hv,hvw⟩:=h2 w hw;have hne:g'.2≠[]:=fun q=>by rw [q] at hv;cases hv
  obtain ⟨w',hw',e'⟩:=uB hne;obtain ⟨v',hv',hvw'⟩:=h1 w' hw';have a:=uP hv;have b:=uP hv';omega
theorem QA {c:Cx}{N:List G}(hne:∀ g,g∈paid c N→g.2≠[]):kH (paid c N)=kH N∧∀ g,g∈N→gQ (g.1,g.2.filter fun w=>decide (w.2.1+(kH N-gQ g)≤c.m))=gQ g:=by
  have key:∀ g,g∈N→gQ (g.1,g.2.filter fun w=>decide (w.2.1+(kH N-gQ g)≤c.m))=gQ g:=fun g hg=>by
    have hn:=hne _ (bA.2 ⟨g,hg,rfl⟩);obtain ⟨w,hw⟩:=List.exists_mem_of_ne_nil _ hn;obtain ⟨hwg,hwm⟩:=dW.1 hw;simp only [decide_eq_true_eq] at hwm;have hgn:g.2≠[]:=fun q=>by rw [q] at hwg;cases hwg
    have:=uP hwg;refine MZ hgn (fun v hv=>⟨v,(dW.1 hv).1,dX _⟩) fun v hv=>?_
    obtain ⟨u,hu,eu⟩:=uB hgn;exact ⟨u,dW.2 ⟨hu,by simp only [decide_eq_true_eq];omega⟩,by have:=uP hv;omega⟩
  refine ⟨?_,key⟩;unfold kH;congr 1;unfold paid;rw [ES];exact jX fun g hg=>key g hg
theorem VV {c:Cx}{N:List G}(hne:∀ g,g∈paid c N→g.2≠[]):sI c (paid c N):=by
  obtain ⟨e,k⟩:=QA hne;intro g hg w hw;rw [e];obtain ⟨x,hx,rfl⟩:=bA.1 hg;rw [k x hx];have:=(dW.1 hw).2;simp only [decide_eq_true_eq] at this;exact this
theorem GM (g:G) (k:Nat):gQ (nR g k)=0:=rfl
theorem QI {g:G}{k:Nat}(h:g.2≠[]):gQ (kD g k)=gQ g:=by
  refine MZ h (fun w hw=>?_) fun w hw=>?_
  · obtain ⟨v,hv,rfl⟩:=bA.1 (qM hw);exact ⟨v,hv,dX _⟩
  · obtain ⟨v,hv,_,_,h3⟩:=yD (bA.2 ⟨w,hw,rfl⟩:(w.1.eraseIdx k,w.2.1,w.2.2.eraseIdx k)∈g.2.map fun w=>(w.1.eraseIdx k,w.2.1,w.2.2.eraseIdx k));exact ⟨v,hv,h3⟩
theorem tR (l:List G) (g:G):kH (g::l)=gQ g+kH l:=by simp [kH]
theorem CG:∀ (m:Nat){g:G},g.2≠[]→kH (mD m g)=gQ g∧∀ x,x∈mD m g→∀ w,w∈x.2→∃ v,v∈g.2∧w.2.1-gQ x≤v.2.1-gQ g
  | 0,g,h=>⟨by simp [mD,kH],fun x hx w hw=>by obtain rfl:=bC.1 hx;exact ⟨w,hw,dX _⟩⟩
  | m+1,g,h=>by
    unfold mD;split
    · exact ⟨by simp [kH],fun x hx w hw=>by obtain rfl:=bC.1 hx;exact ⟨w,hw,dX _⟩⟩
    · rename_i k hk;obtain ⟨i1,i2⟩:=CG m (SV (k:=k) h);have hl:=QI (k:=k) h;refine ⟨by rw [tR,i1,GM,hl];omega,fun x hx w hw=>?_⟩
      rcases bN.1 hx with rfl | hx
      · obtain rfl:=bC.1 hw;obtain ⟨u,hu,e⟩:=uB h;exact ⟨u,hu,by rw [GM];show (0:Int)-0≤_;omega⟩
      · obtain ⟨v,hv,h3⟩:=i2 x hx w hw;obtain ⟨v',hv',rfl⟩:=bA.1 (qM hv);refine ⟨v',hv',?_⟩;rw [hl] at h3;exact h3
theorem VD {a b:List G}(h:a.Perm b):kH a=kH b:=by
  induction h with
  | nil=>rfl
  | cons x _ ih=>rw [tR,tR,ih]
  | swap x y l=>rw [tR,tR,tR,tR];omega
  | trans _ _ h1 h2=>rw [h1,h2]
theorem LJ {F:G→List G}:∀ {l:List G},(∀ g,g∈l→kH (F g)=gQ g)→kH (l.flatMap F)=kH l
  | [],_=>rfl
  | g::l,h=>by
    have a:=LJ (l:=l) fun x hx=>h x (aJ _ hx);have b:=h g aQ;rw [bM,tR,← b,← a];simp [kH]
theorem PZ {c:Cx}{P:List G}(hp:sI c P) (hne:∀ g,g∈P→g.2≠[]):sI c (rT P):=by
  have hs:kH (rT P)=kH P:=by
    unfold rT;rw [VD (dU cG _)];exact LJ fun g hg=>(CG _ (hne g hg)).1
  intro x hx w hw;rw [hs];unfold rT at hx;obtain ⟨g,hg,hxg⟩:=fC.1 ((dU cG _).mem_iff.1 hx);obtain ⟨v,hv,h3⟩:=(CG _ (hne g hg)).2 x hxg w hw;have:=hp g hg v hv;omega
theorem VA {c:Cx}{N:List G}(h:(wD c N).any (fun g=>g.2.isEmpty)=false):sI c (wD c N):=by
  have hne:∀ g,g∈paid c N→g.2≠[]:=fun g hg q=>by
    have:g∈wD c N:=by
      unfold wD rT;refine (dU cG _).mem_iff.2 (fC.2 ⟨g,hg,?_⟩);rw [MJ q];exact bC.2 rfl
    rw [List.any_eq_false] at h;have:=h g this;rw [List.isEmpty_iff.2 q] at this;exact this rfl
  unfold wD;exact PZ (VV hne) hne
theorem FQ {c:Cx}{l all:List G}{s:Ev}(hl:sI c l):sI c (sS c l all s).2:=by
  unfold sS;dsimp only;split
  · exact hl
  · split
    · exact hl
    · split
      · exact hl
      · rename_i h;exact VA (Y9.2 h)
theorem ZE {c:Cx}{l:List G}{s:Ev}(hl:sI c l):sI c (eY c l s).2:=by
  unfold eY;split
  · split
    · split
      · exact hl
      · exact FQ hl
    · exact FQ hl
  · exact hl
theorem zB7 {c:Cx}(hm:0≤c.m):sI c (oB c):=by
  have h0:∀ l:List Nat,kH (l.map (Z5 c))=0:=fun l=>by
    induction l with
    | nil=>rfl
    | cons i l ih=>rw [List.map_cons,tR,ih];rfl
  intro g hg w hw;rw [yG,h0];rw [yG] at hg;obtain ⟨i,_,rfl⟩:=bA.1 hg;obtain rfl:=bC.1 hw;show (0:Int)+(0-0)≤c.m;omega
theorem VU {c:Cx}{gs:List G}(h:pR c gs) (hp:sI c gs){g:G}(hg:g∈gs){w:W}(hw:w∈g.2):∃ f,oV g.1 w f∧Sem gs f c.m:=by
  obtain ⟨f,h1,h2⟩:=zU5 h.mid.out.nd h.mid.out.ok h.mid.ne hg hw;exact ⟨f,h1,h2.mono (hp g hg w hw)⟩
theorem R2 {c:Cx}{gs:List G}(h:pR c gs) (hp:sI c gs) (hn:0<c.bs.length):∃ f,Sem gs f c.m:=by
  obtain ⟨g,hg,_⟩:=h.mid.find (b:=0) ⟨by omega,by omega⟩
  obtain ⟨w,hw⟩:=List.exists_mem_of_ne_nil _ (h.mid.ne g hg);obtain ⟨f,_,h2⟩:=VU h hp hg hw;exact ⟨f,h2⟩
def gX:List G→Nat
  | []=>1
  | g::l=>g.2.length*gX l
theorem E6:∀ a b:List G,gX (a++b)=gX a*gX b
  | [],b=>by simp [gX]
  | g::a,b=>by simp only [List.cons_append,gX,E6 a b,uZ]
theorem qB {a b:List G}(h:a.Perm b):gX a=gX b:=by
  induction h with
  | nil=>rfl
  | cons x _ ih=>simp only [gX,ih]
  | swap x y l=>simp only [gX];rw [Nat.mul_left_comm]
  | trans _ _ h1 h2=>rw [h1,h2]
theorem R4:∀ {l:List G},(∀ g,g∈l→g.2≠[])→0<gX l
  | [],_=>OR
  | g::l,h=>Nat.mul_pos (fD.2 (h g aQ)) (R4 fun x hx=>h x (aJ _ hx))
theorem BY {F:G→List G}:∀ {l:List G},(∀ g,g∈l→gX (F g)≤g.2.length)→gX (l.flatMap F)≤gX l
  | [],_=>aU _
  | g::l,h=>by
    rw [bM,E6];exact OS (h g aQ) (BY fun x hx=>h x (aJ _ hx))
theorem FW {F:G→G}:∀ {l:List G},(∀ g,g∈l→(F g).2.length≤g.2.length)→gX (l.map F)≤gX l
  | [],_=>aU _
  | g::l,h=>OS (h g aQ) (FW fun x hx=>h x (aJ _ hx))
theorem ZN (g:G) (k:Nat):(kD g k).2.length≤g.2.length:=by
  show (gS _).length≤_;refine bG (sU _) ?_;rw [aX];exact aU _
theorem FX:∀ (m:Nat){g:G},gX (mD m g)≤g.2.length
  | 0,g=>by simp [mD,gX]
  | m+1,g=>by
    unfold mD;split
    · simp [gX]
    · rename_i k _;show 1*gX (mD m (kD g k))≤_;rw [Y6];exact bG (FX m) (ZN g k)
theorem UZ (c:Cx) (N:List G):gX (wD c N)≤gX N:=by
  unfold wD rT;rw [qB (dU cG _)];refine bG (BY fun g _=>FX _) (FW fun g _=>?_);exact fP _ _
def YO (s:Ev):Nat:=if s.k=4 then 2 else 1
theorem AQ {α β:Type}(F:α→List β) (n:Nat):∀ l:List α,(∀ x,x∈l→(F x).length≤n)→(l.flatMap F).length≤l.length*n
  | [],_=>by simp
  | x::l,h=>by
    have a:=AQ F n l fun y hy=>h y (aJ _ hy);have b:=h x aQ;rw [bM,aF,List.length_cons,eM];omega
theorem MQ (c:Cx) (s:Ev) (g:G):(gS (mQ c s g)).length≤g.2.length*YO s:=by
  refine bG (sU _) ?_;unfold mQ;refine AQ _ _ _ fun w _=>?_
  unfold YO;rw [aF];split <;> split <;> simp
theorem YY {all:List G}{i:Nat}{g y:G}{k:Nat}(h:all[i]? = some g) (hy:y.2.length≤g.2.length*k):gX (all.set i y)≤gX all*k:=by
  obtain ⟨A,B,e1,e2⟩:=qK (y:=y) h;rw [e2,e1,E6,E6];simp only [gX];have:=fE (gX B) hy;have:=SB (gX A) this;rw [show gX A*(g.2.length*gX B)*k=gX A*(g.2.length*k*gX B) by rw [uZ,uZ,yS2 (gX B) k,uZ]]
  exact this
theorem FP {c:Cx}{M0:Int}{l all:List G}{s:Ev}(h:zT c M0 all s) (hl:gX l≤gX all*YO s):gX (sS c l all s).2≤gX all*YO s:=by
  obtain ⟨i,g,hi,hg,hgm,hat,ha,hb⟩:=h.at;unfold sS;dsimp only;rw [hat,hi,bP];split
  · exact hl
  · split
    · exact hl
    · split
      · exact hl
      · exact bG (UZ c _) (YY hg (MQ c s g))
theorem GP {gs all:List G}{a b:Int}{c:Cx}{M:Int}(h:oH c M gs) (ha:0≤a∧a<c.bs.length) (hb:0≤b∧b<c.bs.length) (e:join gs a b=some all):gX all=gX gs:=by
  obtain ⟨i,x,hi,hix,hax⟩:=jC (h.find ha);obtain ⟨k,y,hk,hky,hby⟩:=jC (h.find hb);unfold join at e;dsimp only at e;rw [hi,hk] at e;split at e
  · cases e;rfl
  · rename_i hik;have gi:mK gs ((i:Int)).toNat=x:=by unfold mK;rw [aD];show (gs[i]?).getD _=x;rw [hix];rfl
    have gk:mK gs ((k:Int)).toNat=y:=by unfold mK;rw [aD];show (gs[k]?).getD _=y;rw [hky];rfl
    rw [gi,gk] at e;split at e
    · cases e
    · cases e;have hj:=GQ x y;generalize mX x y=J at *;rcases jL (show i≠k by omega) with hlt | hlt
      · obtain ⟨P,Q,R,e1,e2⟩:=mO J hlt hix hky;rw [show (min (i:Int) (k:Int)).toNat=i by omega,show (max (i:Int) (k:Int)).toNat=k by omega,e2,e1,qB B6,qB iW]
        simp only [gX,hj,uZ]
      · obtain ⟨P,Q,R,e1,e2⟩:=mO J hlt hky hix;rw [show (min (i:Int) (k:Int)).toNat=k by omega,show (max (i:Int) (k:Int)).toNat=i by omega,e2,e1,qB B6,qB iW]
        simp only [gX,hj,uZ,Nat.mul_left_comm]
theorem ZD {c:Cx}{gs:List G}{s:Ev}(h:pR c gs) (hm0:0≤c.m) (hm1:c.m≤1048576):gX (eY c gs s).2≤gX gs*YO s:=by
  have hn:=h.mid.n12;have hself:gX gs≤gX gs*YO s:=by unfold YO;split <;> omega
  unfold eY;by_cases hr:iQ c.bs.length s=true
  · rw [if_pos hr];obtain ⟨r1,r2,_⟩:=mU hr (by omega)
    by_cases hk:s.k=4
    · rw [if_pos hk];cases hj:join gs s.a s.b with
      | none=>exact hself
      | some all=>
        dsimp only;have hb:=r2 hk;have he:=GP h.mid r1 ⟨by omega,by omega⟩ hj
        have:=FP (l:=gs) (uK h (by omega) hm0 hm1 hr hk hj) (by rw [he];exact hself)
        rwa [he] at this
    · rw [if_neg hk];exact FP (xA h (by omega) hm0 hr hk) hself
  · rw [if_neg hr];exact hself
theorem yA4 {l:List G}(ne:∀ g,g∈l→g.2≠[]){i k:Nat}{x y:G}(hik:i≠k) (hi:l[i]? = some x) (hk:l[k]? = some y):x.2.length*y.2.length≤gX l∧x.1.length+y.1.length≤(l.flatMap (·.1)).length:=by
  have key:∀ {i k:Nat} {x y:G},i<k→l[i]? = some x→l[k]? = some y→x.2.length*y.2.length≤gX l∧x.1.length+y.1.length≤(l.flatMap (·.1)).length:=fun {i k x y} hlt hi hk=>by
    obtain ⟨P,Q,R,e1,-⟩:=mO x hlt hi hk;have hp:l.Perm (x::y::(P++(Q++R))):=by rw [e1];exact B6
    have h0:=R4 (l:=P++(Q++R)) fun g hg=>ne g (hp.mem_iff.2 (aJ _ (aJ _ hg)));rw [qB hp,(hp.flatMap_right _).length_eq];constructor
    · simp only [gX];rw [← uZ];exact EF _ h0
    · simp only [bM,aF];omega
  rcases jL hik with hlt | hlt
  · exact key hlt hi hk
  · have:=key hlt hk hi;rw [yS2];omega
theorem yB9 {l:List G}(ne:∀ g,g∈l→g.2≠[]){g:G}(hg:g∈l):g.2.length≤gX l:=by
  obtain ⟨A,B,rfl⟩:=XS hg;have h0:=R4 (l:=A++B) fun x hx=>ne x ((iW (a:=g)).mem_iff.2 (aJ _ hx));rw [qB iW];exact EF _ h0
theorem FO {c:Cx}{M0:Int}{l all:List G}{s:Ev}(h:zT c M0 all s) (ne:∀ g,g∈all→g.2≠[]) (hr:2*gX all≤1000):(sS c l all s).1≠6:=by
  obtain ⟨i,g,hi,hg,hgm,hat,ha,hb⟩:=h.at;unfold sS;dsimp only;rw [hat,hi,bP];have h1:=MQ c s g;have h2:=yB9 ne hgm;have h3:g.2.length*YO s≤2*g.2.length:=by unfold YO;split <;> omega
  split
  · simp
  · split
    · omega
    · split <;> simp
theorem ZC {c:Cx}{gs:List G}{s:Ev}(h:pR c gs) (hm0:0≤c.m) (hm1:c.m≤1048576) (hn6:c.bs.length≤6) (hr:2*gX gs≤1000):(eY c gs s).1≠6:=by
  have hn:=h.mid.n12;unfold eY;by_cases hri:iQ c.bs.length s=true
  · rw [if_pos hri];obtain ⟨r1,r2,_⟩:=mU hri (by omega)
    by_cases hk:s.k=4
    · rw [if_pos hk];have hb:=r2 hk;cases hj:join gs s.a s.b with
      | none=>
        exfalso;obtain ⟨i,x,hi,hix,hax⟩:=jC (h.mid.find r1);obtain ⟨k,y,hk,hky,hby⟩:=jC (h.mid.find (b:=s.b) ⟨by omega,by omega⟩)
        unfold join at hj;dsimp only at hj;rw [hi,hk] at hj;split at hj
        · cases hj
        · rename_i hik;have gi:mK gs ((i:Int)).toNat=x:=by unfold mK;rw [aD];show (gs[i]?).getD _=x;rw [hix];rfl
          have gk:mK gs ((k:Int)).toNat=y:=by unfold mK;rw [aD];show (gs[k]?).getD _=y;rw [hky];rfl
          rw [gi,gk] at hj;obtain ⟨t1,t2⟩:=yA4 h.mid.ne (show i≠k by omega) hix hky
          have hc:=h.mid.cov.length_eq;simp only [aX,List.length_range] at hc;split at hj
          · rename_i hbad;rcases hbad with hbad | hbad <;> omega
          · cases hj
      | some all=>
        dsimp only;have he:=GP h.mid r1 ⟨by omega,by omega⟩ hj
        have so:=uK h (by omega) hm0 hm1 hri hk hj
        exact FO so so.mid.ne (by omega)
    · rw [if_neg hk];have so:=xA h (by omega) hm0 hri hk
      exact FO so so.mid.ne hr
  · rw [if_neg hri];simp
theorem zB6 (c:Cx):gX (oB c)=1:=by
  rw [yG];generalize List.range c.bs.length=l
  induction l with
  | nil=>rfl
  | cons i l ih=>rw [List.map_cons];simp only [gX,ih];rfl
theorem LY (c:Cx) (gs:List G) (s:Ev):(eY c gs s).1=0∨(eY c gs s).1=1∧iQ c.bs.length s=false∨(eY c gs s).1=6∨(eY c gs s).1=26:=by
  have h2:∀ all,(sS c gs all s).1=0∨(sS c gs all s).1=6∨(sS c gs all s).1=26:=fun all=>by
    unfold sS;dsimp only;split
    · simp
    · split
      · simp
      · split <;> simp
  unfold eY;split
  · split
    · split
      · simp
      · rename_i all _;have:=h2 all;omega
    · have:=h2 gs;omega
  · rename_i h;exact .inr (.inl ⟨rfl,Y9.2 h⟩)
theorem ZB {c:Cx}{gs:List G}{s:Ev}(h:(eY c gs s).1≠0):(eY c gs s).2=gs:=by
  have h2:∀ all,(sS c gs all s).1≠0→(sS c gs all s).2=gs:=fun all h=>by
    unfold sS at h ⊢;dsimp only at h ⊢;split
    · rfl
    · rename_i h1;rw [if_neg h1] at h;split
      · rfl
      · rename_i h2;rw [if_neg h2] at h;split
        · rfl
        · rename_i h3;rw [if_neg h3] at h;exact absurd rfl h
  unfold eY at h ⊢;split
  · rename_i h1;rw [if_pos h1] at h;split
    · rename_i h3;rw [if_pos h3] at h;cases hj:join gs s.a s.b with
      | none=>rfl
      | some all=>rw [hj] at h;exact h2 all h
    · rename_i h3;rw [if_neg h3] at h;exact h2 gs h
  · rfl
abbrev TR:=List Int × List BX × Int
def jK (bs:List BX):List Int:=bs.map (·.2.1)
theorem NW (bs:List BX):(jK bs).length=bs.length:=aX _
theorem zH (bs:List BX) (i:Nat):(jK bs).getD i 0=(bs.getD i (0,0,0)).2.1:=by
  unfold jK;rw [aD,aD,bY];cases bs[i]? <;> rfl
structure oZ (c:Cx) (ps:List Int) (bs:List BX):Prop where
  t:vU c.ks c.ls ps bs
  len:ps.length=c.bs.length
  same:∀ i,(bs.getD i (0,0,0)).1=(c.bs.getD i (0,0,0)).1∧(bs.getD i (0,0,0)).2.2=(c.bs.getD i (0,0,0)).2.2
theorem oZ.pq {c:Cx}{ps:List Int}{bs:List BX}(h:oZ c ps bs):PQ c ps (jK bs) where
  pl:=h.len
  ql:=by rw [NW,← h.t.len,h.len]
  pp:=by
    refine (CE (nats (List.range c.bs.length)) ps (E9 _) (fun x hx=>?_) (by simp [h.len])).symm
    obtain ⟨h0,h1⟩:=xF.1 hx;have:=h.t.p x.toNat (by rw [h.len];omega)
    rwa [show ((x.toNat:Nat):Int)=x by omega] at this
  q0:=fun x hx=>by
    obtain ⟨b,hb,rfl⟩:=bA.1 hx;obtain ⟨i,hi,rfl⟩:=I2 hb;have:=h.t.b i hi;omega
theorem oZ.fit {c:Cx}{ps:List Int}{bs:List BX}(hc:iL c) (h:oZ c ps bs):zL7 c.ks c.ls ps bs where
  n1:=by have:=hc.f.n1;simp at this;rw [h.len];omega
  n8:=by have:=hc.f.n8;simp at this;rw [h.len];omega
  len:=h.t.len
  k10:=hc.f.k10
  l10:=hc.f.l10
  k:=hc.f.k
  l:=hc.f.l
  p := fun i hi=>by
    have:=h.pq.pp.mem_iff.1 (aM hi);rw [h.len];exact xF.1 this
  b:=h.t.b
def tD (ps:List Int) (bs:List BX) (s:Ev) (done:Int):List BX:=
  if s.k=2 then bs.set (ps.getD s.a.toNat 0).toNat ((bs.getD (ps.getD s.a.toNat 0).toNat (0,0,0)).1,(bs.getD (ps.getD s.a.toNat 0).toNat (0,0,0)).2.1-done,(bs.getD (ps.getD s.a.toNat 0).toNat (0,0,0)).2.2) else bs
theorem qQ (ps:List Int) (bs:List BX) (s:Ev) (done:Int):jK (tD ps bs s done)=uX ps (jK bs) s done:=by
  unfold tD uX;split
  · rw [zH];unfold jK;rw [oK]
  · rfl
theorem OL (ps:List Int) (bs:List BX) (s:Ev) (done:Int):(tD ps bs s done).length=bs.length:=by
  unfold tD;split <;> simp
theorem oZ.aft {c:Cx}{ps:List Int}{bs:List BX}{s:Ev}{done:Int}(h:oZ c ps bs) (ha:0≤s.a∧s.a<c.bs.length) (hb:s.k=4→s.a<s.b∧s.b<c.bs.length) (hc:rH c ps (jK bs) s done=true):oZ c (oY ps s done) (tD ps bs s done) where
  len:=by rw [P3];exact h.len
  same:=fun i=>by
    unfold tD;split
    · by_cases e:i=(ps.getD s.a.toNat 0).toNat
      · by_cases hl:(ps.getD s.a.toNat 0).toNat<bs.length
        · rw [fZ hl,if_pos e,e];exact h.same _
        · rw [List.set_eq_of_length_le (by omega)];exact h.same i
      · by_cases hl:(ps.getD s.a.toNat 0).toNat<bs.length
        · rw [fZ hl,if_neg e];exact h.same _
        · rw [List.set_eq_of_length_le (by omega)];exact h.same i
    · exact h.same i
  t := by
    have hp:=(h.pq.aft ha hb hc).pp;refine ⟨by rw [P3,OL];exact h.t.len,fun i hi=>?_,h.t.k,h.t.l,fun i hi=>?_⟩
    · rw [P3,h.len] at hi;exact hp.mem_iff.2 (xF.2 ⟨by omega,by omega⟩)
    · rw [OL] at hi;have h0:=h.t.b i hi;by_cases hk:s.k=2
      · have hr:=tB hk hc;rw [zH] at hr;have e:tD ps bs s done=bs.set (ps.getD s.a.toNat 0).toNat ((bs.getD (ps.getD s.a.toNat 0).toNat (0,0,0)).1,(bs.getD (ps.getD s.a.toNat 0).toNat (0,0,0)).2.1-done,(bs.getD (ps.getD s.a.toNat 0).toNat (0,0,0)).2.2):=if_pos hk;simp only [e];rw [List.getElem_set];split
        · rename_i hx;rw [hx] at hr ⊢;have eb:bs.getD i (0,0,0)=bs[i]:=by rw [aD,aA hi];rfl
          rw [eb] at hr ⊢;dsimp only;refine ⟨h0.1,h0.2.1,by omega,by omega,fun q=>?_,h0.2.2.2.2.2⟩
          have:=h0.2.2.2.2.1 q;omega
        · exact h0
      · have e:tD ps bs s done=bs:=if_neg hk;simp only [e];exact h0
def L2:List TR→TR→List TR
  | [],x=>[x]
  | t::l,x=>if t.1=x.1∧t.2.1=x.2.1 then (if x.2.2<t.2.2 then x::l else t::l) else t::L2 l x
theorem EX:∀ {l:List TR}{x t:TR},t∈L2 l x→t∈l∨t=x
  | [],x,t,h=>.inr (bC.1 h)
  | y::l,x,t,h=>by
    unfold L2 at h;split at h
    · split at h
      · rcases bN.1 h with rfl | h
        · exact .inr rfl
        · exact .inl (aJ _ h)
      · exact .inl h
    · rcases bN.1 h with rfl | h
      · exact .inl aQ
      · rcases EX h with h | h
        · exact .inl (aJ _ h)
        · exact .inr h
def UR (l:List TR) (p:List Int) (bs:List BX) (M:Int):Prop:=∃ t,t∈l∧t.1=p∧t.2.1=bs∧t.2.2≤M
theorem EY:∀ {l:List TR}{x:TR}{p:List Int}{bs:List BX}{M:Int},UR (L2 l x) p bs M↔UR l p bs M∨(x.1=p∧x.2.1=bs∧x.2.2≤M)
  | [],x,p,bs,M=>by simp [L2,UR]
  | y::l,x,p,bs,M=>by
    have hc:∀ (z:TR) (l:List TR),UR (z::l) p bs M↔(z.1=p∧z.2.1=bs∧z.2.2≤M)∨UR l p bs M:=fun z l=>by unfold UR;simp
    unfold L2;split
    · rename_i he;split
      · rename_i hlt;rw [hc,hc];constructor
        · rintro (h | h)
          · exact .inr h
          · exact .inl (.inr h)
        · rintro ((⟨a,b,d⟩ | h) | h)
          · exact .inl ⟨he.1.symm.trans a,he.2.symm.trans b,by omega⟩
          · exact .inr h
          · exact .inl h
      · rename_i hlt;rw [hc];constructor
        · exact .inl
        · rintro (h | ⟨a,b,d⟩)
          · exact h
          · exact .inl ⟨he.1.trans a,he.2.trans b,by omega⟩
    · rw [hc,hc,EY];constructor
      · rintro (h | h | h)
        · exact .inl (.inl h)
        · exact .inl (.inr h)
        · exact .inr h
      · rintro ((h | h) | h)
        · exact .inl h
        · exact .inr (.inl h)
        · exact .inr (.inr h)
theorem GV:∀ {L l:List TR}{t:TR},t∈L.foldl L2 l→t∈l∨t∈L
  | [],l,t,h=>.inl h
  | x::L,l,t,h=>by
    rcases GV (L:=L) h with h | h
    · rcases EX h with h | h
      · exact .inl h
      · exact .inr (by rw [h];exact aQ)
    · exact .inr (aJ _ h)
theorem GW:∀ {L l:List TR}{p:List Int}{bs:List BX}{M:Int},UR (L.foldl L2 l) p bs M↔UR l p bs M∨UR L p bs M
  | [],l,p,bs,M=>by simp [UR]
  | x::L,l,p,bs,M=>by
    rw [rS,GW,EY];have hc:UR (x::L) p bs M↔(x.1=p∧x.2.1=bs∧x.2.2≤M)∨UR L p bs M:=by unfold UR;simp
    rw [hc,or_assoc]
def zX0 (c:Cx) (s:Ev) (t:TR) (done:Int):TR:=(oY t.1 s done,tD t.1 t.2.1 s done,t.2.2+nB c t.1 s)
def GS (c:Cx) (s:Ev) (t:TR):Bool:=HM c t.1 (jK t.2.1) s&&decide (t.2.2+nB c t.1 s≤c.m)
def zF0 (c:Cx) (s:Ev) (t:TR) (k:Nat):List TR:=if GS c s t then ((List.range k).filter fun d=>rH c t.1 (jK t.2.1) s (d:Nat)).map fun d=>zX0 c s t (d:Nat) else []
def U6 (c:Cx) (s:Ev) (all:List TR):List TR:=(all.flatMap fun t=>zF0 c s t 4).foldl L2 []
structure OW (c:Cx) (gs:List G) (all:List TR):Prop where
  ok:∀ t,t∈all→oZ c t.1 t.2.1∧0≤t.2.2∧t.2.2≤c.m∧∀ x,x∈jK t.2.1→x≤3
  iff:∀ p q,PQ c p q→∀ M,M≤c.m→((∃ f,uY c p q f∧Sem gs f M)↔∃ t,t∈all∧t.1=p∧jK t.2.1=q∧t.2.2≤M)
theorem HL (st id k:Int) (ids:List Int):0≤zM0 st id k ids∧zM0 st id k ids≤1:=by
  unfold zM0;repeat' split
  all_goals omega
theorem DI {c:Cx}{gs:List G}(h:pR c gs){f:As}{M:Int}(hs:Sem gs f M):∀ b:Int,0≤b→b<c.bs.length→PC (f b).2:=fun b h0 h1=>(IE h.mid hs h0 h1).1
theorem B2 {c:Cx}{gs:List G}(h:pR c gs){s:Ev}(hr:iQ c.bs.length s=true):(0≤s.a∧s.a<c.bs.length)∧(s.k=4→s.a<s.b∧s.b<c.bs.length)∧(s.k=1∨s.k=2∨s.k=3→0≤s.n∧s.n≤1099511627776):=by
  have hn:=h.mid.n12;obtain ⟨r1,r2,r3⟩:=mU hr (by omega)
  refine ⟨r1,fun k=>?_,fun k=>?_⟩
  · have:=r2 k;omega
  · unfold iQ at hr;rw [aN] at hr;have hr:=hr.2;rw [if_neg (by omega),if_pos k,decide_eq_true_eq] at hr
    exact hr
theorem Q5 {c:Cx}{gs:List G}{p q:List Int}{f:As}{s:Ev}{M done:Int}(hc:iL c) (h:pR c gs) (hr:iQ c.bs.length s=true) (hp:PQ c p q) (hf:uY c p q f) (hs:Sem gs f M)
    (hag:HM c p q s=true) (hcan:rH c p q s done=true) (hM:M+nB c p s≤c.m) :
    (eY c gs s).1≠26∧((eY c gs s).1=0→∃ f',uY c (oY p s done) (uX p q s done) f'∧Sem (eY c gs s).2 f' (M+nB c p s)):=by
  obtain ⟨r1,r2,r3⟩:=B2 h hr;obtain ⟨m0,m1,_⟩:=hc.s;obtain ⟨f',st,ok⟩:=R3 hc hp hf (DI h hs) r1 r2 (fun k=>r3 (by omega)) hag hcan
  have hse:=tS h m0 m1 hr (f':=f') hM;have hex:∃ f d,A6 c s f f' d∧Sem gs f (M+nB c p s-d):=⟨f,_,st,hs.mono (by omega)⟩
  exact ⟨fun q=>hse.2 q hex,fun q=>⟨f',ok,(hse.1 q).2 hex⟩⟩
theorem GU {c:Cx}{s:Ev}{t x:TR}{k:Nat}:x∈zF0 c s t k↔GS c s t=true∧∃ d:Nat,d<k∧rH c t.1 (jK t.2.1) s d=true∧x=zX0 c s t d:=by
  unfold zF0;split
  · rename_i h;rw [bA];constructor
    · rintro ⟨d,hd,rfl⟩;obtain ⟨h1,h2⟩:=dW.1 hd;exact ⟨h,d,eU.1 h1,h2,rfl⟩
    · rintro ⟨_,d,h1,h2,rfl⟩;exact ⟨d,dW.2 ⟨eU.2 h1,h2⟩,rfl⟩
  · rename_i h;constructor
    · intro q;cases q
    · rintro ⟨q,_⟩;exact absurd q h
theorem U5 {c:Cx}{s:Ev}{all:List TR}{x:TR}(h:x∈U6 c s all):∃ t,t∈all∧GS c s t=true∧∃ d:Nat,d<4∧rH c t.1 (jK t.2.1) s d=true∧x=zX0 c s t d:=by
  rcases GV h with h | h
  · cases h
  · obtain ⟨t,ht,hx⟩:=fC.1 h;exact ⟨t,ht,GU.1 hx⟩
theorem N1 {c:Cx}{s:Ev}{t:TR}:GS c s t=true↔HM c t.1 (jK t.2.1) s=true∧t.2.2+nB c t.1 s≤c.m:=by
  unfold GS;rw [aN,decide_eq_true_eq]
theorem OW.step {c:Cx}{gs:List G}{all:List TR}{s:Ev}(hc:iL c) (h:pR c gs) (hr:iQ c.bs.length s=true) (e:OW c gs all) :
    ((eY c gs s).1=0→OW c (eY c gs s).2 (U6 c s all))∧((eY c gs s).1=26→U6 c s all=[]):=by
  obtain ⟨r1,r2,r3⟩:=B2 h hr;obtain ⟨m0,m1,_⟩:=hc.s;have key:∀ t,t∈all→GS c s t=true→∀ d:Nat,rH c t.1 (jK t.2.1) s d=true→∃ f,uY c t.1 (jK t.2.1) f∧Sem gs f t.2.2:=fun t ht hg d hd=>by
    obtain ⟨a,b,b',_⟩:=e.ok t ht;exact (e.iff t.1 (jK t.2.1) a.pq t.2.2 b').2 ⟨t,ht,rfl,rfl,dX _⟩
  constructor
  · intro h0;refine ⟨fun x hx=>?_,fun p q hpq M hM=>⟨?_,?_⟩⟩
    · obtain ⟨t,ht,hg,d,hd,hcan,rfl⟩:=U5 hx;obtain ⟨a,b,b',b3⟩:=e.ok t ht;obtain ⟨g1,g2⟩:=N1.1 hg;have:=(HL c.st (t.1.getD s.a.toNat 0) s.k s.ids).1;refine ⟨a.aft r1 r2 hcan,?_,g2,fun y hy=>?_⟩
      · show 0≤t.2.2+nB c t.1 s;unfold nB;omega
      · change y∈jK (tD t.1 t.2.1 s d) at hy;rw [qQ] at hy;unfold uX at hy;split at hy
        · rename_i hk;have hrg:=tB hk hcan;rcases fK hy with hy | rfl
          · exact b3 y hy
          · obtain ⟨i0,i1⟩:=a.pq.at r1.1 r1.2;have:(jK t.2.1).getD (t.1.getD s.a.toNat 0).toNat 0∈jK t.2.1:=by
              have:=a.pq.ql;rw [aD,aA (by omega)];exact aM _
            have:=b3 _ this;omega
        · exact b3 y hy
    · rintro ⟨f',hf',hs'⟩;obtain ⟨f,d,st,hs⟩:=((tS h m0 m1 hr (f':=f') hM).1 h0).1 hs';obtain ⟨p0,q0,done,hpq0,hf0,hag,hcan,rfl,e1,e2⟩:=FT hc hpq st hf' (DI h hs) r1 r2 (fun k=>r3 (by omega))
      have hm:=(HL c.st (p0.getD s.a.toNat 0) s.k s.ids).1;obtain ⟨t,ht,rfl,rfl,htm⟩:=(e.iff p0 q0 hpq0 (M-nB c p0 s) (by unfold nB;omega)).1 ⟨f,hf0,hs⟩
      obtain ⟨a,b,b',b3⟩:=e.ok t ht;have hd:0≤done∧done<4:=by
        by_cases hk:s.k=2
        · have hrg:=tB hk hcan;obtain ⟨i0,i1⟩:=a.pq.at r1.1 r1.2;have:(jK t.2.1).getD (t.1.getD s.a.toNat 0).toNat 0∈jK t.2.1:=by
            have:=a.pq.ql;rw [aD,aA (by omega)];exact aM _
          have:=b3 _ this;omega
        · unfold rH EP at hcan;rw [if_neg hk] at hcan;split at hcan
          · rw [vC,decide_eq_true_eq,decide_eq_true_eq] at hcan;omega
          · rw [decide_eq_true_eq] at hcan;omega
      have hdn:((done.toNat:Nat):Int)=done:=by omega
      have hx:UR (U6 c s all) (oY t.1 s done) (tD t.1 t.2.1 s done) M:=by
        refine GW.2 (.inr ⟨zX0 c s t (done.toNat:Nat),fC.2 ⟨t,ht,GU.2 ⟨N1.2 ⟨hag,by omega⟩,done.toNat,by omega,by rw [hdn];exact hcan,rfl⟩⟩,?_,?_,?_⟩)
        · rw [hdn];rfl
        · rw [hdn];rfl
        · show t.2.2+nB c t.1 s≤M;omega
      obtain ⟨x,hx1,hx2,hx3,hx4⟩:=hx;exact ⟨x,hx1,hx2.trans e1.symm,by rw [hx3,qQ];exact e2.symm,hx4⟩
    · rintro ⟨x,hx,rfl,rfl,hxm⟩;obtain ⟨t,ht,hg,d,hd,hcan,rfl⟩:=U5 hx;obtain ⟨f,hf,hs⟩:=key t ht hg d hcan;obtain ⟨a,b,b',b3⟩:=e.ok t ht;obtain ⟨g1,g2⟩:=N1.1 hg;obtain ⟨f',ok,hs'⟩:=(Q5 hc h hr a.pq hf hs g1 hcan g2).2 h0;refine ⟨f',?_,hs'.mono hxm⟩;show uY c (oY t.1 s d) (jK (tD t.1 t.2.1 s d)) f';rw [qQ];exact ok
  · intro h26;cases hn:U6 c s all with
    | nil=>rfl
    | cons x l=>
      exfalso;have hx:x∈U6 c s all:=by rw [hn];exact aQ
      obtain ⟨t,ht,hg,d,hd,hcan,rfl⟩:=U5 hx;obtain ⟨f,hf,hs⟩:=key t ht hg d hcan;obtain ⟨a,b,b',b3⟩:=e.ok t ht;obtain ⟨g1,g2⟩:=N1.1 hg;exact (Q5 hc h hr a.pq hf hs g1 hcan g2).1 h26
theorem OW.some {c:Cx}{gs:List G}{all:List TR}(hc:iL c) (h:pR c gs) (hp:sI c gs) (e:OW c gs all):all≠[]:=by
  have hn:=hc.f.n1;simp at hn;obtain ⟨f,hs⟩:=R2 h hp (by omega)
  obtain ⟨p,q,hpq,hf⟩:=V9 h.mid hs;obtain ⟨t,ht,_⟩:=(e.iff p q hpq c.m (dX _)).1 ⟨f,hf,hs⟩;exact fun q=>by rw [q] at ht;cases ht
def zJ4 (all:List TR) (p q:List Int):Bool:=all.any fun t=>decide (t.1=p)&&decide (jK t.2.1=q)
theorem OW.among {c:Cx}{gs:List G}{all:List TR}{p q:List Int}(h:pR c gs) (e:OW c gs all) (hp:PQ c p q):yF9 c gs p q=zJ4 all p q:=by
  rw [HV,KC h];unfold zJ4;rw [iX];have hi:=e.iff p q hp c.m (dX _);constructor
  · rintro ⟨_,_,_,f,hf,hs⟩;obtain ⟨t,ht,e1,e2,_⟩:=hi.1 ⟨f,hf,hs⟩;exact ⟨t,ht,by rw [e1,e2];simp⟩
  · rintro ⟨t,ht,hx⟩;rw [aN,decide_eq_true_eq,decide_eq_true_eq] at hx;obtain ⟨f,hf,hs⟩:=hi.2 ⟨t,ht,hx.1,hx.2,(e.ok t ht).2.2.1⟩;exact ⟨hp.pl,by rw [hp.ql,hp.pl],(MI hp.pl).2 hp.pp,f,hf,hs⟩
theorem CO {c:Cx}(hc:iL c):oZ c (nats (List.range c.bs.length)) c.bs:=⟨LD hc,by simp,fun i=>⟨rfl,rfl⟩⟩
theorem TF {n:Nat}{b:Int}(h0:0≤b) (h1:b<n):(nats (List.range n)).getD b.toNat 0=b:=by
  have:=IU (n:=n) (fun x=>x) 0 h0 h1
  rwa [List.map_id'] at this
theorem IS {c:Cx}:∃ f,uY c (nats (List.range c.bs.length)) (jK c.bs) f∧Sem (oB c) f 0:=by
  refine ⟨fun b=>(b,((c.bs.getD b.toNat (0,0,0)).2.1,(c.bs.getD b.toNat (0,0,0)).2.1+1)),fun b h0 h1=>?_,TD.2 ⟨dX _,fun b h0 h1=>rfl⟩⟩
  unfold UQ;rw [TF h0 h1,zH];exact ⟨rfl,nK.2 ⟨dX _,by dsimp only;omega⟩⟩
theorem zQ8 {c:Cx}(hc:iL c) (h3:∀ i,i<c.bs.length→(c.bs.getD i (0,0,0)).2.1≤3):OW c (oB c) [(nats (List.range c.bs.length),c.bs,0)]:=by
  obtain ⟨m0,m1,_⟩:=hc.s;refine ⟨fun t ht=>?_,fun p q hpq M hM=>⟨?_,?_⟩⟩
  · obtain rfl:=bC.1 ht;refine ⟨CO hc,dX _,m0,fun x hx=>?_⟩
    obtain ⟨b,hb,rfl⟩:=bA.1 hx;obtain ⟨i,hi,rfl⟩:=I2 hb;have:=h3 i hi;rw [aD,aA hi] at this;exact this
  · rintro ⟨f,hf,hs⟩;obtain ⟨h0,h1⟩:=TD.1 hs;have hpl:=hpq.pl;have hql:=hpq.ql;have ep:p=nats (List.range c.bs.length):=by
      refine jQ (by simp [hpl]) fun i i1 i2=>?_
      have a:=(hf (i:Int) (by omega) (by omega)).1
      rw [h1 _ (by omega) (by omega)] at a
      change (i:Int)=p.getD i 0 at a;rw [aD,aA i1] at a;change (i:Int)=p[i] at a;rw [← a];simp
    refine ⟨_,bC.2 rfl,ep.symm,?_,h0⟩;refine jQ (by rw [NW,hql]) fun i i1 i2=>?_
    have a:=(hf (i:Int) (by omega) (by omega)).2
    rw [h1 _ (by omega) (by omega),ep,TF (by omega) (by omega),nK,bP] at a
    dsimp only at a;rw [← zH,aD,aA i1,aD,aA i2] at a;simp only [lO] at a;change (jK c.bs)[i]=q[i];omega
  · rintro ⟨t,ht,rfl,rfl,hm⟩;obtain rfl:=bC.1 ht;obtain ⟨f,hf,hs⟩:=IS (c:=c);exact ⟨f,hf,hs.mono hm⟩
end Go.Ld
namespace Go.Proofs.YtmmmeebiobjnbaaGreat
open Go Go.Ab Go.Ld
attribute [local irreducible] VC AW cD aT jE
set_option maxHeartbeats 4000000
theorem JD {l:List Int}{i:Nat}(h:i<l.length):l[i]? = some (l.getD i 0):=by
  rw [aD,aA h];rfl
theorem JE {l:List BX}{i:Nat}(h:i<l.length):l[i]? = some ((l.getD i (0,0,0)).1,(l.getD i (0,0,0)).2.1,(l.getD i (0,0,0)).2.2):=by
  rw [aD,aA h];rfl
theorem zK0 {c:Cx}{ps:List Int}{bs:List BX}(s:Ev) (h:oZ c ps bs) :
    KB c.st c.er c.sl (ps.getD s.a.toNat 0) (bs.getD (ps.getD s.a.toNat 0).toNat (0,0,0)).2.1 ((bs.getD (ps.getD s.a.toNat 0).toNat (0,0,0)).2.2+(bs.getD (ps.getD s.a.toNat 0).toNat (0,0,0)).2.1*oA c.ks c.ls (bs.getD (ps.getD s.a.toNat 0).toNat (0,0,0)).1) s.k s.n s.ids=HM c ps (jK bs) s:=by
  unfold HM;have hs:=h.same (ps.getD s.a.toNat 0).toNat;rw [zH,← hs.1,← hs.2]
theorem XM {c:Cx}(hc:iL c){ps:List Int}{bs:List BX}(h:oZ c ps bs){s:Ev}(ha:0≤s.a∧s.a<c.bs.length) (hn:0≤s.n∧s.n≤1099511627776) (hids:s.ids.length≤9223372036854775807) :
    aT Tryz.prog 19 [iH c.m c.st c.er c.sl,.rowE (gE c.ks) 2,.rowE (iI c.ls) 3,.rowE (ints ps) 1,.rowE (cW bs) 3,zU6 s] [] (.tup [.i (nB c ps s),.b (HM c ps (jK bs) s)]) []:=by
  have hf:=h.fit hc;have hpl:=h.len;have hbl:=h.t.len;obtain ⟨i0,i1⟩:=h.pq.at ha.1 ha.2;have h1:=JD (l:=ps) (i:=s.a.toNat) (by omega)
  have h2:=JE (l:=bs) (i:=(ps.getD s.a.toNat 0).toNat) (by omega)
  have:=OJ (k:=s.k) (b:=s.b) (n:=s.n) (ids:=s.ids) hf hc.s ha.1 hn hids h1 h2;rw [zK0 s h] at this;exact this
theorem zK1 {c:Cx}(hc:iL c){ps:List Int}{bs:List BX}(h:oZ c ps bs){s:Ev}(ha:0≤s.a∧s.a<c.bs.length) (hb:s.k=4→s.a<s.b∧s.b<c.bs.length) (hn:0≤s.n∧s.n≤1099511627776) (hids:s.ids.length≤9223372036854775807) (done:Int) :
    ((HM c ps (jK bs) s&&rH c ps (jK bs) s done)=true∧aT Tryz.prog 20 [iH c.m c.st c.er c.sl,.rowE (gE c.ks) 2,.rowE (iI c.ls) 3,.rowE (ints ps) 1,.rowE (cW bs) 3,zU6 s,.i done] [] (.tup [.rowE (ints (oY ps s done)) 1,.rowE (cW (tD ps bs s done)) 3,.b true]) []) ∨
    ((HM c ps (jK bs) s&&rH c ps (jK bs) s done)=false∧aT Tryz.prog 20 [iH c.m c.st c.er c.sl,.rowE (gE c.ks) 2,.rowE (iI c.ls) 3,.rowE (ints ps) 1,.rowE (cW bs) 3,zU6 s,.i done] [] (.tup [.nils,.nils,.b false]) []):=by
  have hf:=h.fit hc;have hpl:=h.len;have hbl:=h.t.len;have hs':=hc.s;unfold mH at hs';obtain ⟨i0,i1⟩:=h.pq.at ha.1 ha.2;have h1:=JD (l:=ps) (i:=s.a.toNat) (by omega)
  have h2:=JE (l:=bs) (i:=(ps.getD s.a.toNat 0).toNat) (by omega)
  have hag:=OJ (k:=s.k) (b:=s.b) (n:=s.n) (ids:=s.ids) hf hc.s ha.1 hn hids h1 h2;rw [zK0 s h] at hag;have hcan:=yL1 c.m c.st c.er c.sl (bs.getD (ps.getD s.a.toNat 0).toNat (0,0,0)).1 (bs.getD (ps.getD s.a.toNat 0).toNat (0,0,0)).2.1 (bs.getD (ps.getD s.a.toNat 0).toNat (0,0,0)).2.2 s.k s.a s.b s.n s.ids done hn (by omega)
  have hcT:EP c.sl (bs.getD (ps.getD s.a.toNat 0).toNat (0,0,0)).2.1 s.k s.n done=rH c ps (jK bs) s done:=by unfold rH;rw [zH]
  rw [hcT] at hcan;cases e1:HM c ps (jK bs) s
  · rw [e1] at hag;exact .inr ⟨rfl,OK hf ha.1 h1 h2 i0 (.inl rfl) hag hcan⟩
  · rw [e1] at hag;cases e2:rH c ps (jK bs) s done
    · rw [e2] at hcan;exact .inr ⟨rfl,OK hf ha.1 h1 h2 i0 (.inr ⟨rfl,rfl⟩) hag hcan⟩
    · have hrg:=fun hk=>tB (c:=c) (p:=ps) (q:=jK bs) (s:=s) (done:=done) hk e2;rw [e2] at hcan;refine .inl ⟨rfl,?_⟩;by_cases hk2:s.k=2
      · have hrg:=hrg hk2;rw [zH] at hrg;have:=RP hf ha.1 h1 h2 i0 hk2 ⟨hrg.1,hrg.2.1⟩ hag hcan;have ep:oY ps s done=ps:=by unfold oY;rw [if_neg (by omega)]
        have eb:tD ps bs s done=bs.set (ps.getD s.a.toNat 0).toNat ((bs.getD (ps.getD s.a.toNat 0).toNat (0,0,0)).1,(bs.getD (ps.getD s.a.toNat 0).toNat (0,0,0)).2.1-done,(bs.getD (ps.getD s.a.toNat 0).toNat (0,0,0)).2.2):=if_pos hk2;rw [ep,eb];exact K7 (by simp) (by simp) (J3 _) (K2 _) rfl this
      · have eb:tD ps bs s done=bs:=if_neg hk2;rw [eb];by_cases hk4:s.k=4∧done=1
        · have hb:=hb hk4.1;have h3:=JD (l:=ps) (i:=s.b.toNat) (by omega)
          have:=RN hf ha.1 h1 h2 i0 hk4.1 hk4.2 (by omega) (by omega) h3 hag hcan
          have ep:oY ps s done=(ps.set s.a.toNat (ps.getD s.b.toNat 0)).set s.b.toNat (ps.getD s.a.toNat 0):=if_pos hk4;rw [ep];exact K7 (by simp) (by simp) (J3 _) (K2 _) rfl this
        · have:=RO hf ha.1 h1 h2 i0 hk2 hk4 hag hcan;have ep:oY ps s done=ps:=if_neg hk4;rw [ep];exact K7 (by simp) (by simp) (J3 _) (K2 _) rfl this
end Go.Proofs.YtmmmeebiobjnbaaGreat
namespace Go.Ld
open Go.Ab Go.Proofs.YtmmmeebiobjnbaaGreat
structure EA (c:Cx) (gs:List G) (ps:List Int) (bs:List BX) (M:Int):Prop where
  gk:pR c gs
  re:oZ c ps bs
  m0:0≤M
  m1:M≤c.m
  f:∃ f,uY c ps (jK bs) f∧Sem gs f M
theorem EA.new {c:Cx}(hc:iL c) (hn:c.bs.length≤12):EA c (oB c) (nats (List.range c.bs.length)) c.bs 0:=
  ⟨zB8 hc hn hc.s.1,CO hc,dX _,hc.s.1,IS⟩
theorem EA.step {c:Cx}{gs:List G}{ps:List Int}{bs:List BX}{M done:Int}{s:Ev}(hc:iL c) (h:EA c gs ps bs M) (hr:iQ c.bs.length s=true) (hag:HM c ps (jK bs) s=true) (hcan:rH c ps (jK bs) s done=true) (hM:M+nB c ps s≤c.m) :
    (eY c gs s).1=6∨(eY c gs s).1=0∧EA c (eY c gs s).2 (oY ps s done) (tD ps bs s done) (M+nB c ps s)∧yF9 c (eY c gs s).2 (oY ps s done) (jK (tD ps bs s done))=true:=by
  obtain ⟨r1,r2,r3⟩:=B2 h.gk hr;obtain ⟨m0,m1,_⟩:=hc.s;obtain ⟨f,hf,hs⟩:=h.f;obtain ⟨t1,t2⟩:=Q5 hc h.gk hr h.re.pq hf hs hag hcan hM;have hmis:=(HL c.st (ps.getD s.a.toNat 0) s.k s.ids).1;have hm0:=h.m0;have hre:=h.re.aft r1 r2 hcan;rcases LY c gs s with h0 | ⟨_,h0⟩ | h0 | h0
  · refine .inr ⟨h0,?_⟩;obtain ⟨f',ok,hs'⟩:=t2 h0;rw [← qQ] at ok;have hg:=IG (s:=s) h.gk m0 m1;refine ⟨⟨hg,hre,by unfold nB;omega,hM,f',ok,hs'⟩,?_⟩
    exact (KC hg).2 ⟨hre.pq.pl,by rw [hre.pq.ql,hre.pq.pl],(MI hre.pq.pl).2 hre.pq.pp,f',ok,hs'.mono hM⟩
  · rw [h0] at hr;cases hr
  · exact .inl h0
  · exact absurd h0 t1
end Go.Ld
namespace Go.Proofs.YtmmmeebiobjnbaaGreat
open Go Go.Ab Go.Ld
attribute [local irreducible] VC AW cD aT jE
set_option maxHeartbeats 4000000
end Go.Proofs.YtmmmeebiobjnbaaGreat
namespace Go.Ld
open Go.Ab Go.Proofs.YtmmmeebiobjnbaaGreat
def G5 (c:Cx):List Ev→As→As→Int→Prop
  | [],f,f',d=>f'=f∧d=0
  | s::L,f,f',d=>∃ f1 d1 d2,A6 c s f f1 d1∧G5 c L f1 f' d2∧d=d1+d2
def RZ (c:Cx):List G→List Ev→List G→Prop
  | gs,[],gs'=>gs'=gs
  | gs,s::L,gs'=>(eY c gs s).1=0∧RZ c (eY c gs s).2 L gs'
def vK (c:Cx):List G→List Ev→Bool
  | _,[]=>true
  | gs,s::L=>!decide ((eY c gs s).1=26)&&vK c (eY c gs s).2 L
theorem yL6 {c:Cx}{s:Ev}{x:Int × SP}:0≤(xX c s x).2.1∧(xX c s x).2.1≤1:=by
  unfold xX;dsimp only
  repeat' split
  all_goals (dsimp only;omega)
theorem Q6 {c:Cx}{s:Ev}{f f':As}{d:Int}(h:A6 c s f f' d):0≤d:=by
  rcases h with ⟨_,_,rfl⟩ | ⟨_,_,rfl⟩
  · exact yL6.1
  · exact dX _
theorem R6 {c:Cx}:∀ {L:List Ev}{f f':As}{d:Int},G5 c L f f' d→0≤d
  | [],_,_,_,⟨_,h⟩=>by omega
  | s::L,_,_,_,⟨f1,d1,d2,h1,h2,h3⟩=>by
    have:=Q6 h1;have:=R6 h2;omega
theorem R5 {c:Cx}{s:Ev}:∀ {L:List Ev}{f f' f'':As}{d e:Int},G5 c L f f' d→A6 c s f' f'' e→G5 c (L++[s]) f f'' (d+e)
  | [],f,f',f'',d,e,⟨h1,h2⟩,h=>by
    subst h1;subst h2;exact ⟨f'',e,0,h,⟨rfl,rfl⟩,by omega⟩
  | x::L,f,f',f'',d,e,⟨f1,d1,d2,h1,h2,h3⟩,h=>⟨f1,d1,d2+e,h1,R5 h2 h,by omega⟩
theorem FR {c:Cx}{s:Ev}:∀ {L:List Ev}{gs gs':List G},RZ c gs L gs'→(eY c gs' s).1=0→RZ c gs (L++[s]) (eY c gs' s).2
  | [],gs,gs',h,h0=>by
    have e:gs'=gs:=h;subst e;exact ⟨h0,rfl⟩
  | x::L,gs,gs',⟨h1,h2⟩,h0=>⟨h1,FR h2 h0⟩
theorem GF {c:Cx}{s:Ev}:∀ {L:List Ev}{gs:List G},vK c gs (L++[s])=true→vK c gs L=true
  | [],_,_=>rfl
  | x::L,gs,h=>by
    rw [List.cons_append] at h;unfold vK at h ⊢;rw [aN] at h ⊢;exact ⟨h.1,GF h.2⟩
structure OV (c:Cx) (gs:List G) (m:Nat):Prop where
  gk:pR c gs
  pd:sI c gs
  pr:gX gs≤2 ^ m
theorem yB3 {m:Nat}(h:m≤5):2 ^ m≤32:=Nat.pow_le_pow_right (by decide) h
theorem yI2 (s:Ev) (m:Nat):2 ^ m*YO s=2 ^ (m+if s.k=4 then 1 else 0):=by
  unfold YO;split <;> simp [yS1]
theorem OV.see {c:Cx}{gs:List G}{m:Nat}(hc:iL c) (h:OV c gs m) (s:Ev):OV c (eY c gs s).2 (m+if s.k=4 then 1 else 0):=by
  have hm0:=hc.s.1;have hm1:=hc.s.2.1;refine ⟨IG h.gk hm0 hm1,ZE h.pd,?_⟩;rw [← yI2];exact bG (ZD h.gk hm0 hm1) (fE _ h.pr)
theorem OV.new {c:Cx}(hc:iL c):OV c (oB c) 0:=by
  have hn:=hc.f.n8;simp at hn;exact ⟨zB8 hc (by omega) hc.s.1,zB7 hc.s.1,by rw [zB6];exact aU _⟩
theorem OV.room {c:Cx}{gs:List G}{m:Nat}(hc:iL c) (hn:c.bs.length≤6) (h:OV c gs m) (hm:m≤5) (s:Ev):(eY c gs s).1≠6:=by
  have:=yB3 hm;have:=h.pr;exact ZC h.gk hc.s.1 hc.s.2.1 hn (by omega)
theorem OV.code {c:Cx}{gs:List G}{m:Nat}(hc:iL c) (hn:c.bs.length≤6) (h:OV c gs m) (hm:m≤5){s:Ev}(hr:iQ c.bs.length s=true):(eY c gs s).1=0∨(eY c gs s).1=26:=by
  have h6:=h.room hc hn hm s;rcases LY c gs s with h1 | ⟨_,h1⟩ | h1 | h1
  · exact .inl h1
  · rw [hr] at h1;cases h1
  · exact absurd h1 h6
  · exact .inr h1
theorem BH (s:Ev) (L:List Ev):zN (s::L)=(if s.k=4 then 1 else 0)+zN L:=by
  unfold zN;rw [List.countP_cons];by_cases h:s.k=4 <;> simp [h,qT]
theorem IA (a b:List Ev):zN (a++b)=zN a+zN b:=XR
theorem MA {c:Cx}(hc:iL c):∀ {L:List Ev}{gs gs':List G}{m:Nat},OV c gs m→(∀ s,s∈L→iQ c.bs.length s=true)→RZ c gs L gs'→∀ {f':As}{M:Int},M≤c.m →
    (Sem gs' f' M↔∃ f d,G5 c L f f' d∧Sem gs f (M-d))
  | [],gs,gs',m,h,hr,e,f',M,hM=>by
    have e:gs'=gs:=e;subst e;constructor
    · intro q;exact ⟨f',0,⟨rfl,rfl⟩,by rw [tQ];exact q⟩
    · rintro ⟨f,d,⟨rfl,rfl⟩,q⟩;rw [tQ] at q;exact q
  | s::L,gs,gs',m,h,hr,⟨e0,e1⟩,f',M,hM=>by
    have hs:=hr s aQ;rw [MA hc (h.see hc s) (fun x hx=>hr x (aJ _ hx)) e1 hM];constructor
    · rintro ⟨f1,d2,p,q⟩;have:=R6 p;obtain ⟨f,d1,st,q1⟩:=((tS h.gk hc.s.1 hc.s.2.1 hs (f':=f1) (M:=M-d2) (by omega)).1 e0).1 q
      exact ⟨f,d1+d2,⟨f1,d1,d2,st,p,rfl⟩,by rw [show M-(d1+d2)=M-d2-d1 by omega];exact q1⟩
    · rintro ⟨f,d,⟨f1,d1,d2,st,p,rfl⟩,q⟩;have:=R6 p;refine ⟨f1,d2,p,((tS h.gk hc.s.1 hc.s.2.1 hs (f':=f1) (M:=M-d2) (by omega)).1 e0).2 ⟨f,d1,st,?_⟩⟩
      rw [show M-d2-d1=M-(d1+d2) by omega];exact q
theorem GG {c:Cx}(hc:iL c) (hn:c.bs.length≤6):∀ {L:List Ev}{gs:List G}{m:Nat},OV c gs m→m+zN L≤5→(∀ s,s∈L→iQ c.bs.length s=true) →
    (vK c gs L=true↔∃ f f' d,G5 c L f f' d∧Sem gs f (c.m-d))
  | [],gs,m,h,hm,hr=>by
    have h1:=hc.f.n1;simp at h1;obtain ⟨f,hf⟩:=R2 h.gk h.pd (by omega)
    exact ⟨fun _=>⟨f,f,0,⟨rfl,rfl⟩,by rw [tQ];exact hf⟩,fun _=>rfl⟩
  | s::L,gs,m,h,hm,hr=>by
    have hs:=hr s aQ;rw [BH] at hm;have ih:=GG hc hn (h.see hc s) (by omega) fun x hx=>hr x (aJ _ hx)
    unfold vK;rw [aN];rcases h.code hc hn (by omega) hs with h0 | h0
    · rw [ih];constructor
      · rintro ⟨_,f1,f',d2,p,q⟩;have:=R6 p;obtain ⟨f,d1,st,q1⟩:=((tS h.gk hc.s.1 hc.s.2.1 hs (f':=f1) (M:=c.m-d2) (by omega)).1 h0).1 q
        exact ⟨f,f',d1+d2,⟨f1,d1,d2,st,p,rfl⟩,by rw [show c.m-(d1+d2)=c.m-d2-d1 by omega];exact q1⟩
      · rintro ⟨f,f',d,⟨f1,d1,d2,st,p,rfl⟩,q⟩;have:=R6 p;refine ⟨by rw [h0];rfl,f1,f',d2,p,((tS h.gk hc.s.1 hc.s.2.1 hs (f':=f1) (M:=c.m-d2) (by omega)).1 h0).2 ⟨f,d1,st,?_⟩⟩
        rw [show c.m-d2-d1=c.m-(d1+d2) by omega];exact q
    · constructor
      · rintro ⟨q,_⟩;rw [h0] at q;cases q
      · rintro ⟨f,f',d,⟨f1,d1,d2,st,p,rfl⟩,q⟩;exfalso;have:=R6 p;refine (tS h.gk hc.s.1 hc.s.2.1 hs (f':=f1) (M:=c.m) (dX _)).2 h0 ⟨f,d1,st,q.mono ?_⟩;omega
structure Sl where
  t:Int
  o:Int
  b:Int
  n:Int
structure Sd where
  s:Sl
  gs:List G
  n:Nat
structure Tr where
  gs:List G
  seen:List Ev
  sales:List Sd
  ord:List Bool
def oU (b i:Int):Ev:=⟨5,b,0,i,[]⟩
def ZG (c:Cx) (t:Tr) (s:Ev):Int × Tr:=
  if (eY c t.gs s).1=0 then (0,⟨(eY c t.gs s).2,t.seen++[s],t.sales,t.ord++[false]⟩) else ((eY c t.gs s).1,t)
def CR (t:Tr):Int:=(t.sales.getLast?.map fun x=>x.s.t).getD 0
def oT (c:Cx) (t:Tr) (x:Sl):Int:=
  if x.b<0∨(c.bs.length:Int)≤x.b then 4
  else if x.n<1∨20000<x.n∨x.o<0∨x.t<0∨20000<x.t then 1
  else if 0<t.sales.length∧x.t<CR t then 3
  else if 500≤t.sales.length then 6
  else 0
def H4 (c:Cx) (seen:List Ev) (x:Sd) (i:Int):Bool:=vK c x.gs (oU x.s.b i::seen.drop x.n)
def B4 (x:Sd):List Int:=match Z6 x.gs x.s.b with
  | some (g,i)=>vI g i
  | none=>[]
def lD (c:Cx) (seen:List Ev) (x:Sd):List Int:=(B4 x).filter (H4 c seen x)
structure yP1 (c:Cx) (t:Tr) (x:Sd):Prop where
  b:0≤x.s.b∧x.s.b<c.bs.length
  n:x.n≤t.seen.length
  lk:OV c x.gs (zN (t.seen.take x.n))
  ru:RZ c x.gs (t.seen.drop x.n) t.gs
structure kE (c:Cx) (t:Tr):Prop where
  lk:OV c t.gs (zN t.seen)
  rt:∀ s,s∈t.seen→iQ c.bs.length s=true
  sd:∀ x,x∈t.sales→yP1 c t x
theorem kE.new {c:Cx}(hc:iL c):kE c ⟨oB c,[],[],[]⟩:=⟨OV.new hc,fun s hs=>absurd hs kS,fun x hx=>absurd hx kS⟩
theorem E4 {c:Cx}{gs:List G}{s:Ev}(h:(eY c gs s).1=0):iQ c.bs.length s=true:=by
  unfold eY at h;split at h
  · assumption
  · cases h
theorem kE.see {c:Cx}{t:Tr}{s:Ev}(hc:iL c) (h:kE c t) (h0:(eY c t.gs s).1=0):kE c ⟨(eY c t.gs s).2,t.seen++[s],t.sales,t.ord++[false]⟩:=by
  refine ⟨?_,fun x hx=>?_,fun x hx=>?_⟩
  · have:=h.lk.see hc s;show OV c _ (zN (t.seen++[s]));rw [IA,show zN [s]=if s.k=4 then 1 else 0 by rw [BH];rfl]
    exact this
  · rcases bL.1 hx with hx | hx
    · exact h.rt x hx
    · rw [bC.1 hx];exact E4 h0
  · obtain ⟨b,n,lk,ru⟩:=h.sd x hx;refine ⟨b,by show x.n≤(t.seen++[s]).length;rw [aF];omega,?_,?_⟩
    · show OV c x.gs (zN ((t.seen++[s]).take x.n));rw [qR n];exact lk
    · show RZ c x.gs ((t.seen++[s]).drop x.n) _;rw [qS n];exact FR ru h0
theorem kE.sell {c:Cx}{t:Tr}(h:kE c t) (x:Sl) (hb:0≤x.b∧x.b<c.bs.length):kE c ⟨t.gs,t.seen,t.sales++[⟨x,t.gs,t.seen.length⟩],t.ord++[true]⟩:=by
  refine ⟨h.lk,h.rt,fun y hy=>?_⟩
  rcases bL.1 hy with hy | hy
  · obtain ⟨b,n,lk,ru⟩:=h.sd y hy;exact ⟨b,n,lk,ru⟩
  · rw [bC.1 hy];refine ⟨hb,aU _,?_,?_⟩
    · show OV c t.gs (zN (t.seen.take t.seen.length));rw [cQ];exact h.lk
    · show RZ c t.gs (t.seen.drop t.seen.length) t.gs;rw [zX7];rfl
theorem YM (L:List Ev) (n:Nat):zN (L.take n)+zN (L.drop n)=zN L:=by rw [← IA,bS]
theorem QG {c:Cx}{f:As}{b:Int}:A6 c (oU b (f b).1) f f 0:=by
  refine .inl ⟨?_,?_,?_⟩
  · unfold xX oU;simp
  · unfold xX oU upd;funext x;simp only;by_cases e:x=b
    · subst e;simp
    · rw [if_neg e]
  · unfold xX oU;simp
theorem zR2 {c:Cx}{f f':As}{b i d:Int}(h:A6 c (oU b i) f f' d):(f b).1=i∧f'=f∧d=0:=by
  rcases h with ⟨h1,h2,h3⟩ | ⟨h1,_⟩
  · have e:xX c (oU b i) (f b)=(f b,0,decide ((f b).1=i)):=by unfold xX oU;simp
    change (xX c (oU b i) (f b)).2.2=true at h1;change f'=upd f b (xX c (oU b i) (f b)).1 at h2;change d=(xX c (oU b i) (f b)).2.1 at h3;rw [e] at h1 h2 h3;refine ⟨of_decide_eq_true h1,?_,h3⟩;rw [h2];funext x;unfold upd;dsimp only;by_cases q:x=b
    · rw [if_pos q,q]
    · rw [if_neg q]
  · cases h1
theorem MW {n:Nat}{b i:Int}(hb:0≤b∧b<n) (hi:0≤i∧i<n):iQ n (oU b i)=true:=by
  unfold iQ oU;dsimp only;rw [if_neg (by decide),if_neg (by decide),if_neg (by decide),if_pos rfl,decide_eq_true ⟨hb.1,by omega⟩,decide_eq_true (.inr rfl),decide_eq_true (.inr rfl),decide_eq_true ⟨hi.1,by omega⟩];rfl
theorem kE.poss {c:Cx}{t:Tr}{x:Sd}{i:Int}(hc:iL c) (hn:c.bs.length≤6) (h:kE c t) (h5:zN t.seen≤5) (hx:x∈t.sales) (hi:0≤i∧i<c.bs.length) :
    H4 c t.seen x i=true↔∃ f f' d,(f x.s.b).1=i∧G5 c (t.seen.drop x.n) f f' d∧Sem x.gs f (c.m-d):=by
  obtain ⟨b,n,lk,ru⟩:=h.sd x hx;have hd:=YM t.seen x.n;unfold H4;have e0:zN (oU x.s.b i::t.seen.drop x.n)=zN (t.seen.drop x.n):=by
    rw [BH,if_neg (show ¬ (oU x.s.b i).k=4 from fun q=>by cases q),Nat.zero_add]
  rw [GG hc hn lk (by rw [e0];omega) (fun s hs=>by
    rcases bN.1 hs with rfl | hs
    · exact MW b hi
    · exact h.rt s (eA hs))]
  constructor
  · rintro ⟨f,f',d,⟨f1,d1,d2,st,p,rfl⟩,q⟩;obtain ⟨e1,rfl,rfl⟩:=zR2 st;exact ⟨_,f',d2,e1,p,by rw [Int.zero_add] at q;exact q⟩
  · rintro ⟨f,f',d,rfl,p,q⟩;exact ⟨f,f',0+d,⟨f,0,d,QG,p,rfl⟩,by rw [Int.zero_add];exact q⟩
theorem IJ {c:Cx}{t:Tr}{x:Sd}(h:kE c t) (hx:x∈t.sales):(∀ i,i∈B4 x→0≤i∧i<c.bs.length)∧∀ f M,Sem x.gs f M→(f x.s.b).1∈B4 x:=by
  obtain ⟨b,n,lk,ru⟩:=h.sd x hx;obtain ⟨g,hg,hgm,hbg⟩:=T3 (lk.gk.mid.find b);have e:B4 x=vI g (g.1.idxOf x.s.b):=by unfold B4;rw [hg]
  have hi:=hC hbg;rw [e];refine ⟨ZU lk.gk hgm hi,fun f M hs=>?_⟩
  obtain ⟨w,hw,hf⟩:=wZ hs hgm;exact CA.2 ⟨w,hw,(NN hf hbg).1⟩
theorem kE.ids {c:Cx}{t:Tr}{x:Sd}{i:Int}(hc:iL c) (hn:c.bs.length≤6) (h:kE c t) (h5:zN t.seen≤5) (hx:x∈t.sales) :
    i∈lD c t.seen x↔∃ f f' d,(f x.s.b).1=i∧G5 c (t.seen.drop x.n) f f' d∧Sem x.gs f (c.m-d):=by
  obtain ⟨r1,r2⟩:=IJ h hx;unfold lD;rw [dW];constructor
  · rintro ⟨a,b⟩;exact (h.poss hc hn h5 hx (r1 i a)).1 b
  · rintro ⟨f,f',d,rfl,p,q⟩;have:=r2 f _ q;exact ⟨this,(h.poss hc hn h5 hx (r1 _ this)).2 ⟨f,f',d,rfl,p,q⟩⟩
theorem kE.some {c:Cx}{t:Tr}{x:Sd}(hc:iL c) (hn:c.bs.length≤6) (h:kE c t) (h5:zN t.seen≤5) (hx:x∈t.sales):lD c t.seen x≠[]:=by
  have h1:=hc.f.n1;simp at h1;obtain ⟨f',hf⟩:=R2 h.lk.gk h.lk.pd (by omega)
  obtain ⟨b,n,lk,ru⟩:=h.sd x hx;obtain ⟨f,d,p,q⟩:=(MA hc lk (fun s hs=>h.rt s (eA hs)) ru (dX c.m)).1 hf;exact List.ne_nil_of_mem ((h.ids hc hn h5 hx).2 ⟨f,f',d,rfl,p,q⟩)
theorem zD7 {c:Cx}{x:Sd}{seen:List Ev}{s:Ev}(hn:x.n≤seen.length):∀ i,i∈lD c (seen++[s]) x→i∈lD c seen x:=fun i hi=>by
  unfold lD at hi ⊢;obtain ⟨a,b⟩:=dW.1 hi;refine dW.2 ⟨a,?_⟩;unfold H4 at b ⊢;rw [qS hn,← List.cons_append] at b;exact GF b
end Go.Ld
namespace Go.Ld
open Go.Ab Go.Proofs.YtmmmeebiobjnbaaGreat Go.Pm
def yH (c:Cx) (i:Int):Int:=(c.bs.getD i.toNat (0,0,0)).1
def pO (c:Cx) (l:List Int):List Int:=zR (jD (l.map (yH c)))
def sX (l:List Int):List Int:=l.filter fun a=>!decide (a<0)
def H1 (l:List Int):Int × Bool:=if l.length=1∧0≤l.getD 0 0 then (l.getD 0 0,true) else (0,false)
theorem zJ7 {c:Cx}{l:List Int}{a:Int}:a∈pO c l↔∃ i,i∈l∧yH c i=a:=by
  unfold pO zR;rw [O4 _ _ _ (aU _),cQ,(sorted_perm _).mem_iff,bA]
theorem zJ8 (c:Cx) (l:List Int):(pO c l).length≤l.length:=by
  unfold pO zR;refine bG (pM _ _) ?_;rw [(sorted_perm _).length_eq,aX];exact aU _
theorem YP {l:List Int}:(H1 l).2=true↔∃ a,0≤a∧l=[a]:=by
  unfold H1;constructor
  · intro h;split at h
    · rename_i q;obtain ⟨a,rfl⟩:=ET.1 q.1;exact ⟨a,q.2,rfl⟩
    · cases h
  · rintro ⟨a,h0,rfl⟩;rw [if_pos ⟨rfl,h0⟩]
theorem zC2 {l:List Int}{a:Int}:a∈sX l↔a∈l∧0≤a:=by
  unfold sX;rw [dW];simp
structure EB (c:Cx) (t:Tr) (p:List Int) (bs:List BX) (M:Int) (real:List Int):Prop where
  tr:kE c t
  re:oZ c p bs
  m0:0≤M
  m1:M≤c.m
  f:∃ f,uY c p (jK bs) f∧Sem t.gs f M∧∀ (k:Nat) x r,t.sales[k]? = some x→real[k]? = some r→∃ g d,G5 c (t.seen.drop x.n) g f d∧Sem x.gs g (M-d)∧(g x.s.b).1=r
  len:real.length=t.sales.length
  rg:∀ r,r∈real→0≤r∧r<c.bs.length
theorem EB.new {c:Cx}(hc:iL c):EB c ⟨oB c,[],[],[]⟩ (nats (List.range c.bs.length)) c.bs 0 []:=by
  obtain ⟨f,h1,h2⟩:=IS (c:=c);exact ⟨kE.new hc,CO hc,dX _,hc.s.1,⟨f,h1,h2,fun k x r hx=>by cases hx⟩,rfl,fun r hr=>absurd hr kS⟩
theorem EB.see {c:Cx}{t:Tr}{p:List Int}{bs:List BX}{M done:Int}{real:List Int}{s:Ev}(hc:iL c) (hn:c.bs.length≤6) (h:EB c t p bs M real) (h5:zN t.seen≤5) (hr:iQ c.bs.length s=true)
    (hag:HM c p (jK bs) s=true) (hcan:rH c p (jK bs) s done=true) (hM:M+nB c p s≤c.m) :
    (eY c t.gs s).1=0∧EB c ⟨(eY c t.gs s).2,t.seen++[s],t.sales,t.ord++[false]⟩ (oY p s done) (tD p bs s done) (M+nB c p s) real:=by
  obtain ⟨r1,r2,r3⟩:=B2 h.tr.lk.gk hr;obtain ⟨m0,m1,_⟩:=hc.s;obtain ⟨f,hf,hs,hp⟩:=h.f;have hmis:=(HL c.st (p.getD s.a.toNat 0) s.k s.ids).1;have hm0:=h.m0;obtain ⟨f',st,ok⟩:=R3 hc h.re.pq hf (DI h.tr.lk.gk hs) r1 r2 (fun k=>r3 (by omega)) hag hcan
  have hsem:=tS h.tr.lk.gk m0 m1 hr (f':=f') hM;have hex:∃ f d,A6 c s f f' d∧Sem t.gs f (M+nB c p s-d):=⟨f,_,st,hs.mono (by omega)⟩
  have h0:(eY c t.gs s).1=0:=(h.tr.lk.code hc hn h5 hr).resolve_right fun q=>hsem.2 q hex
  refine ⟨h0,h.tr.see hc h0,h.re.aft r1 r2 hcan,by unfold nB;omega,hM,⟨f',by rw [qQ];exact ok,(hsem.1 h0).2 hex,fun k x r hx hk=>?_⟩,h.len,h.rg⟩
  obtain ⟨g,d,q1,q2,q3⟩:=hp k x r hx hk;refine ⟨g,d+nB c p s,?_,by rw [show M+nB c p s-(d+nB c p s)=M-d by omega];exact q2,q3⟩
  show G5 c ((t.seen++[s]).drop x.n) g f' _;rw [qS (h.tr.sd x (aO hx)).n];exact R5 q1 st
theorem EB.sell {c:Cx}{t:Tr}{p:List Int}{bs:List BX}{M:Int}{real:List Int}(h:EB c t p bs M real) (x:Sl) (hb:0≤x.b∧x.b<c.bs.length) :
    EB c ⟨t.gs,t.seen,t.sales++[⟨x,t.gs,t.seen.length⟩],t.ord++[true]⟩ p bs M (real++[p.getD x.b.toNat 0]):=by
  obtain ⟨f,hf,hs,hp⟩:=h.f;refine ⟨h.tr.sell x hb,h.re,h.m0,h.m1,⟨f,hf,hs,fun k y r hy hr=>?_⟩,by simp [h.len],fun r hr=>?_⟩
  · have hl:=h.len;by_cases e:k<t.sales.length
    · rw [aG e] at hy;rw [aG (by omega)] at hr
      exact hp k y r hy hr
    · have hk:k=t.sales.length:=by
        have:=(aB.1 hy).1;rw [aF,zW] at this;omega
      subst hk;rw [aE (aU _),dY] at hy;rw [← hl,aE (aU _),dY] at hr;cases hy;cases hr;refine ⟨f,0,?_,by rw [tQ];exact hs,(hf x.b hb.1 hb.2).1⟩
      show G5 c (t.seen.drop t.seen.length) f f 0;rw [zX7];exact ⟨rfl,rfl⟩
  · rcases bL.1 hr with hr | hr
    · exact h.rg r hr
    · rw [bC.1 hr];exact h.re.pq.at hb.1 hb.2
theorem EB.has {c:Cx}{t:Tr}{p:List Int}{bs:List BX}{M:Int}{real:List Int}{k:Nat}{x:Sd}{r:Int}(hc:iL c) (hn:c.bs.length≤6) (h:EB c t p bs M real) (h5:zN t.seen≤5) (hx:t.sales[k]? = some x) (hr:real[k]? = some r) :
    r∈lD c t.seen x:=by
  obtain ⟨f,hf,hs,hp⟩:=h.f;obtain ⟨g,d,q1,q2,q3⟩:=hp k x r hx hr;have:=h.m1;exact (h.tr.ids hc hn h5 (aO hx)).2 ⟨g,f,d,q3,q1,q2.mono (by omega)⟩
theorem EB.fin {c:Cx}{l:List Int}{r:Int}(hr:r∈l):(0≤yH c r→yH c r∈sX (pO c l))∧((H1 (pO c l)).2=true→(H1 (pO c l)).1=yH c r):=by
  have hm:yH c r∈pO c l:=zJ7.2 ⟨r,hr,rfl⟩;refine ⟨fun h=>zC2.2 ⟨hm,h⟩,fun h=>?_⟩
  obtain ⟨a,h0,e⟩:=YP.1 h;rw [e] at hm ⊢;rw [bC.1 hm];unfold H1;rw [if_pos ⟨rfl,h0⟩];rfl
end Go.Ld
namespace Go.Ld
open Go.Ab Go.Proofs.YtmmmeebiobjnbaaGreat
abbrev A5 (l:List Bool):List (List AV):=l.map fun b=>[AV.b b]
abbrev zL9 (x:Sl):List AV:=[.i x.t,.i x.o,.i x.b,.i x.n]
abbrev zO7 (c:Cx) (x:Sd):List AV:=[.i x.s.t,.i x.s.o,.i x.s.b,.i x.s.n,.pr (kI c x.gs) 0,.i (x.n:Int)]
abbrev BL (l:List Sl):List (List AV):=l.map zL9
abbrev tE (c:Cx) (l:List Sd):List (List AV):=l.map (zO7 c)
abbrev HY (c:Cx) (t:Tr):List AV:=[.rowE (iI c.ls) 3,.rowE (cW c.bs) 3,.pr (kI c t.gs) 0,.rowE (oX t.seen) 5,.rowE (tE c t.sales) 6,.rowE (A5 t.ord) 1]
abbrev yQ2 (c:Cx) (n m q:Nat):List AV:=[.rowE (iI c.ls) 3,.rowE (cW c.bs) 3,.ptr 1 0,.sl 2 0 n 5,.sl 3 0 m 6,.sl 4 0 q 1]
abbrev KO (c:Cx) (t:Tr):Hp:=[.cells (yQ2 c t.seen.length t.sales.length t.ord.length),.cells (kI c t.gs),.arr (oX t.seen) 5,.arr (tE c t.sales) 6,.arr (A5 t.ord) 1]
abbrev G9 (c:Cx) (t:Tr):Hp:=[.cells [.rowE (iI c.ls) 3,.rowE (cW c.bs) 3,.ptr 1 0,.sl 5 0 t.seen.length 5,.sl 3 0 t.sales.length 6,.sl 6 0 t.ord.length 1],.cells (kI c t.gs),.gone,.arr (tE c t.sales) 6,.gone,.arr (oX t.seen) 5,.arr (A5 t.ord) 1]
abbrev I9 (c:Cx) (t:Tr):Hp:=[.cells [.rowE (iI c.ls) 3,.rowE (cW c.bs) 3,.ptr 1 0,.sl 2 0 t.seen.length 5,.sl 5 0 t.sales.length 6,.sl 6 0 t.ord.length 1],.cells (kI c t.gs),.arr (oX t.seen) 5,.gone,.gone,.arr (tE c t.sales) 6,.arr (A5 t.ord) 1]
theorem fG (l:List Bool):∀ e,e∈A5 l→AV.idfL e=true:=by intro e he;obtain ⟨i,_,rfl⟩:=bA.1 he;rfl
theorem fF (c:Cx) (l:List Sd):∀ e,e∈tE c l→AV.idfL e=true:=by intro e he;obtain ⟨i,_,rfl⟩:=bA.1 he;rfl
theorem eZ (l:List Ev):∀ e,e∈oX l→AV.idfL e=true:=by intro e he;obtain ⟨i,_,rfl⟩:=bA.1 he;rfl
theorem SN (l:List Sl):∀ e,e∈BL l→AV.idfL e=true:=by intro e he;obtain ⟨i,_,rfl⟩:=bA.1 he;rfl
theorem AH (c:Cx) (l:List Sd):∀ e,e∈tE c l→e.length=6:=by intro e he;obtain ⟨n,_,rfl⟩:=bA.1 he;rfl
theorem uM (c:Cx) (l:List Sd):(tE c l).length=l.length:=aX _
theorem sD (l:List Ev):(oX l).length=l.length:=aX _
theorem K3 (l:List Bool):(A5 l).length=l.length:=aX _
theorem PN (l:List Sl):(BL l).length=l.length:=aX _
theorem BP {c:Cx}{l:List Sd}{j:Int}{k:Nat}{x:Sd}(h:l[k]? = some x) (e:j=k):(tE c l)[j.toNat]? = some (zO7 c x):=by
  subst e;rw [bP,bY,h];rfl
theorem PR {c:Cx}{l:List Sd}{j:Int}{k:Nat}{x:Sd}(h:l[k]? = some x) (e:j=k):(tE c l)[0+j.toNat]? = some (zO7 c x):=by rw [Nat.zero_add];exact BP h e
end Go.Ld
namespace Go.Proofs.YtmmmeebiobjnbaaGreat
open Go Go.Ab Go.Ld
attribute [local irreducible] VC AW cD aT jE
set_option maxHeartbeats 4000000
theorem YH (c:Cx) (hc:iL c) :
    aT Tryz.prog 10 [iH c.m c.st c.er c.sl,.rowE (gE c.ks) 2,.rowE (iI c.ls) 3,.rowE (cW c.bs) 3] [] (.tup [.ptr 0 0,.i 0]) [.cells [.rowE (iI c.ls) 3,.rowE (cW c.bs) 3,.ptr 1 0,.nils,.nils,.nils],.cells (kI c (oB c))]:=by
  have hn:=yC3 c hc;have hn8:=hc.f.n8;have hl10:=hc.f.l10;simp at hn8;have c2:=NY c.ls (by omega)
  have c3:=NZ c.bs (by omega)
  refine bU T Tryz.func10 rfl rfl rfl rfl ?_
  (repeat' (first|refine wS ?_|(refine rg 0 (cC (cO rfl rfl) rfl (sG ?_)))|refine nZ ?_));refine fH 4 (cs:=[.i c.m,.i c.st,.i c.er,.i c.sl]) rfl rfl rfl ?_
  (repeat' (first|refine wS ?_|refine wK ?_|refine wR ?_|refine wU ?_|(refine rg 1 (lW T rfl (dI rfl (mW rfl (cC (by exact fN rfl rfl hn (.inr ⟨rfl,rfl,by simp⟩)) rfl ?_))));refine mW rfl (xW rfl (xW rfl (sG ?_))))|(refine rg 2 (mW rfl (vV (gB rfl rfl) ?_)))|(refine rg 4 (mW rfl (vV (kC (c2)) (mW rfl (vV (kC (c3)) (mW rfl (vV (by exact eO T rfl rfl rfl rfl) ?_))))));refine cC (cO rfl rfl) rfl (sG ?_))|refine nZ ?_));all_goals try (exfalso;omega)
  all_goals exact ⟨.inl rfl,[2,1],_,rfl,rfl,rfl,⟨.inr rfl,.inr rfl,trivial⟩,by decide,jY _⟩
theorem zC0 (a b:Nat):∀ i:Nat,i<5→([0,1,2,3,4,a,b]:List Nat)[i]? = some i:=by intro i hi;match i,hi with | 0,_=>rfl | 1,_=>rfl | 2,_=>rfl | 3,_=>rfl | 4,_=>rfl
theorem zY7:∀ i:Nat,i<5→([0,1,2,3,4]:List Nat)[i]? = some i:=by decide
theorem SL (c:Cx) (t:Tr) (s:Ev) (hc:iL c) (h:kE c t) (hids:s.ids.length≤1000000) (hn:t.seen.length≤100000) (hm:t.ord.length≤100000) (h0:(eY c t.gs s).1=0) :
    aT Tryz.prog 21 [.ptr 0 0,zU6 s] (KO c t) (.i 0) (G9 c ⟨(eY c t.gs s).2,t.seen++[s],t.sales,t.ord++[false]⟩):=by
  have hse:=ZF c t.gs s hc h.lk.gk (by omega)
  have hcl:=kL (len:=s.ids.length) (cY _).symm (gV (bJ _)) (JN s.ids (by omega))
  obtain ⟨gs,seen,sales,ord⟩:=t;dsimp only at *;generalize eY c gs s=R at *;obtain ⟨code,gs'⟩:=R;dsimp only at *;have hel:=sD seen;have hol:=K3 ord;subst h0;have e1:oX (seen++[s])=oX seen++[xN s]:=by rw [oX,bT];rfl
  have e2:A5 (ord++[false])=A5 ord++[[.b false]]:=by rw [A5,bT];rfl
  have i1:=eZ (seen++[s]);have i2:=fG (ord++[false]);have i3:=fF c sales;have l1:(seen++[s]).length=seen.length+1:=by simp
  have l2:(ord++[false]).length=ord.length+1:=by simp
  unfold G9;dsimp only;rw [l1,l2];refine bU T Tryz.func21 rfl rfl rfl rfl ?_
  (repeat' (first|refine wS ?_|refine wK ?_|refine wU ?_|(refine rg 0 (cC (cO rfl rfl) rfl (aV ?_)))|(refine lZ (id:=1) 38 [[],[0],[0,1],[0,1,2],[],rN 5] (rM 6 6) [[],[],[],[],rM 6 4,[]] [(5,1)] cK rfl (by decide +kernel) (cH rfl rfl rfl rfl (by exact bR rfl) ?_);refine cH rfl rfl rfl rfl (by exact cN rfl rfl) ?_;refine cH rfl rfl rfl rfl (by exact bI T rfl rfl rfl) ?_;refine cH rfl rfl rfl rfl (by exact aK T rfl rfl rfl rfl) ?_;refine cH rfl rfl rfl rfl (by exact aK T rfl rfl rfl rfl) ?_;refine mR rfl rfl rfl rfl (aH rfl) (by exact rL [1] rfl rfl (qF hse) (fun _=>rfl) rfl (by decide) (fun _=>⟨.inr rfl,trivial⟩) (by simp) rfl (fun _ _=>rfl) rfl rfl) ?_;refine pU rfl rfl rfl (by exact rfl) ?_;refine aV ?_)|(refine rg 2 (mW rfl (vV (gB rfl rfl) ?_)))|(refine rg 4 (gI T rfl (vV (kC (hcl)) (fW T rfl (bD T rfl rfl rfl rfl rfl rfl (by decide) rfl ?_)))))|refine nZ ?_));all_goals try (exfalso;omega)
  refine fH 3 (cs:=xN s) rfl rfl rfl ?_
  (repeat' (first|refine wS ?_|refine wR ?_|(refine lZ (id:=5) 38 [[],[],[],[2],[2,3],[2,3,4],[],[6],rM 2 6,[],[9],[9,10],[9,10,11],[],rM 2 12,[0,2,3,4,5,6,7,8,9,10,11,12,13,14],[0,2,3,4,5,6,7,8,9,10,11,12,13,14,15],[0,2,3,4,5,6,7,8,9,10,11,12,13,14,15,16],rN 18,rN 19,rN 20] (rM 19 19) [[],[19],[19,20],[19,20],[19,20],[19,20],rM 19 6,rM 19 6,[19,20],rM 19 9,rM 19 9,rM 19 9,rM 19 9,rM 19 13,[19,20],[20],[20],[20],[],[],[]] [(8,2),(14,4),(17,0),(20,0)] cK rfl (by decide +kernel) (cH rfl rfl rfl rfl (by exact bR rfl) ?_);refine cH rfl rfl rfl rfl (by exact bR rfl) ?_;refine cH rfl rfl rfl rfl (by exact bR rfl) ?_;refine cH rfl rfl rfl rfl (by exact cN rfl rfl) ?_;refine cH rfl rfl rfl rfl (by exact bI T rfl rfl rfl) ?_;refine cH rfl rfl rfl rfl (by exact aK T rfl rfl rfl rfl) ?_;refine cH rfl rfl rfl rfl (by exact aK T rfl rfl rfl rfl) ?_;refine vR rfl rfl rfl rfl (by exact bE T rfl rfl (by decide) (by decide) rfl rfl rfl) rfl ?_;refine mR rfl rfl rfl rfl (aH rfl) (by exact mA T rfl rfl rfl rfl rfl rfl (by omega) (iK.whole rfl rfl) rfl (by simp;omega) (by simp;omega)) ?_;refine cH rfl rfl rfl rfl (by exact bR rfl) ?_;refine cH rfl rfl rfl rfl (by exact cN rfl rfl) ?_;refine cH rfl rfl rfl rfl (by exact bI T rfl rfl rfl) ?_;refine cH rfl rfl rfl rfl (by exact aK T rfl rfl rfl rfl) ?_;refine vR rfl rfl rfl rfl (by exact bE T rfl rfl (by decide) (by decide) rfl rfl rfl) rfl ?_;refine mR rfl rfl rfl rfl (aH rfl) (by exact mA T rfl rfl rfl rfl rfl rfl (by omega) (iK.whole rfl rfl) rfl (by simp;omega) (by simp;omega)) ?_;refine cH rfl rfl rfl rfl (by exact cN rfl rfl) ?_;refine cH rfl rfl rfl rfl (by exact bI T rfl rfl rfl) ?_;refine wM rfl rfl rfl rfl (aH rfl) T rfl rfl rfl rfl rfl rfl (by decide) rfl ?_;refine cH rfl rfl rfl rfl (by exact cN rfl rfl) ?_;refine cH rfl rfl rfl rfl (by exact bI T rfl rfl rfl) ?_;refine wM rfl rfl rfl rfl (aH rfl) T rfl rfl rfl rfl rfl rfl (by decide) rfl ?_;refine pU rfl rfl rfl (by exact rfl) ?_)|(refine rg 6 (aV ?_))|refine nZ ?_));all_goals try (exfalso;omega)
  all_goals exact ⟨.inl rfl,[0,1,2,3,4,8,10],_,rfl,rfl,rfl,⟨.inr rfl,.inr rfl,.inl rfl,.inr (aC rfl rfl i3),.inl rfl,.inr (aC rfl (by rw [e1];exact jF hel.symm) i1),.inr (aC rfl (by rw [e2];exact jF hol.symm) i2),trivial⟩,by decide,zC0 _ _⟩
theorem zN0 (c:Cx) (t:Tr) (s:Ev) (hc:iL c) (h:kE c t) (hids:s.ids.length≤1000000) (h0:(eY c t.gs s).1≠0) :
    aT Tryz.prog 21 [.ptr 0 0,zU6 s] (KO c t) (.i (eY c t.gs s).1) (KO c t):=by
  have hse:=ZF c t.gs s hc h.lk.gk (by omega)
  rw [ZB h0] at hse;obtain ⟨gs,seen,sales,ord⟩:=t;dsimp only at *;generalize (eY c gs s).1=code at *;refine bU T Tryz.func21 rfl rfl rfl rfl ?_
  (repeat' (first|refine wS ?_|refine wR ?_|(refine wC rfl ?_ ?_<;>(intro hb;(try simp only [nm] at hb);try (exfalso;omega)))|(refine rg 0 (cC (cO rfl rfl) rfl (aV ?_)))|(refine lZ (id:=1) 38 [[],[0],[0,1],[0,1,2],[],rN 5] (rM 6 6) [[],[],[],[],rM 6 4,[]] [(5,1)] cK rfl (by decide +kernel) (cH rfl rfl rfl rfl (by exact bR rfl) ?_);refine cH rfl rfl rfl rfl (by exact cN rfl rfl) ?_;refine cH rfl rfl rfl rfl (by exact bI T rfl rfl rfl) ?_;refine cH rfl rfl rfl rfl (by exact aK T rfl rfl rfl rfl) ?_;refine cH rfl rfl rfl rfl (by exact aK T rfl rfl rfl rfl) ?_;refine mR rfl rfl rfl rfl (aH rfl) (by exact rL [1] rfl rfl (qF hse) (fun _=>rfl) rfl (by decide) (fun _=>⟨.inr rfl,trivial⟩) (by simp) rfl (fun _ _=>rfl) rfl rfl) ?_;refine pU rfl rfl rfl (by exact rfl) ?_;refine aV ?_)|(refine rg 2 (mW rfl (vV (gB rfl rfl) ?_)))|(refine rg 3 (mW rfl (aV ?_)))|refine nZ ?_));all_goals try (exfalso;omega)
  all_goals exact ⟨.inl rfl,[0,1,2,3,4],_,rfl,rfl,rfl,⟨.inr rfl,.inr rfl,.inr (aC rfl rfl (eZ _)),.inr (aC rfl rfl (fF _ _)),.inr (aC rfl rfl (fG _)),trivial⟩,by decide,zY7⟩
end Go.Proofs.YtmmmeebiobjnbaaGreat
namespace Go.Ab
open Go
theorem pX.freezeElP {n:Nat × Nat}{c:pA}{ρ:Pl}{S:Nat→Prop}{env:eE}{h:Hp}{a:Act}{w:World}{j f k off sz:Nat}{es es':List (List AV)}{cs:List AV}(s:pX n c ρ S env h a w) (hj:h[j]? = some (.arr es sz)) (hne:j≠k) (h0:es≠[]) (hf:es.flatten[f]? = some (.ptr k off)) (hk:h[k]? = some (.cells cs)) (hi:AV.idfL cs=true)
    (hl:∀ e,e∈es'→e.length=sz) (he:es'.flatten=es.flatten.set f (.pr cs off)) :
    pX n c ρ (fun b=>S b∨∃ o,ρ k=some (b,o)) env ((h.set k .gone).set j (.arr es' sz)) a w:=by
  have h1:=s.hs.freezeC hk (by simp)
  have hj':(h.set k .gone)[j]? = some (.arr es sz):=by rw [iN (Ne.symm hne)];exact hj
  refine ⟨s.size,s.defers.st (fun _ h=>.inl h),fun t' x hx=>KF (fun _ h=>.inl h) (s.env t' x hx),h1.alter hj' (fun _=>?_) (by simp),s.cm⟩
  have hb:=s.hs.blk j _ hj;simp only [RB] at hb ⊢;obtain ⟨b1,b2,b3⟩:=hb;refine ⟨hl,b2,?_⟩;rcases b3 with ⟨e,_⟩ | ⟨b,o,ys,e1,e2,e3⟩
  · exact absurd e h0
  · refine .inr ⟨b,o,ys,e1,e2,?_⟩;rw [he];exact AU (fun _ h=>.inl h) (fun y hy=>DB hi (s.hs.blk k _ hk) hy) hf e3
section
variable {P:Program}{n:Nat × Nat}{env:eE}{h:Hp}{Q:Exit→eE→Hp→Prop}{code:Code}
theorem HI (j f:Nat){k off sz:Nat}{es:List (List AV)}(es':List (List AV)){cs:List AV}(hj:h[j]? = some (.arr es sz)) (hne:j≠k) (h0:es≠[]) (hf:es.flatten[f]? = some (.ptr k off)) (hk:h[k]? = some (.cells cs)) (hi:AV.idfL cs=true)
    (hl:∀ e,e∈es'→e.length=sz) (he:es'.flatten=es.flatten.set f (.pr cs off)) (hv:AW P n code env ((h.set k .gone).set j (.arr es' sz)) Q):AW P n code env h Q:=
  fun c ρ S a w QQ s hQ=>hv c ρ _ a w QQ (s.freezeElP hj hne h0 hf hk hi hl he) hQ
end
end Go.Ab
namespace Go.Ld
open Go.Ab Go.Proofs.YtmmmeebiobjnbaaGreat
def qJ (t:Tr) (x:Sl):Tr:=⟨t.gs,t.seen,t.sales++[⟨x,t.gs,t.seen.length⟩],t.ord++[true]⟩
theorem yJ7 (a b d:Nat):∀ i:Nat,i<5→([0,1,2,3,4,a,b,d]:List Nat)[i]? = some i:=by intro i hi;match i,hi with | 0,_=>rfl | 1,_=>rfl | 2,_=>rfl | 3,_=>rfl | 4,_=>rfl
theorem BN (c:Cx) (t:Tr) (x:Sl) :
    (oT c t x=4∧(x.b<0∨(c.bs.length:Int)≤x.b))∨(¬ (x.b<0∨(c.bs.length:Int)≤x.b) ∧
    ((oT c t x=1∧(x.n<1∨20000<x.n∨x.o<0∨x.t<0∨20000<x.t))∨(¬ (x.n<1∨20000<x.n∨x.o<0∨x.t<0∨20000<x.t) ∧
    ((oT c t x=3∧0<t.sales.length∧x.t<CR t)∨(¬ (0<t.sales.length∧x.t<CR t) ∧
    ((oT c t x=6∧500≤t.sales.length)∨(oT c t x=0∧t.sales.length<500))))))):=by
  unfold oT;by_cases c1:x.b<0∨(c.bs.length:Int)≤x.b
  · exact .inl ⟨if_pos c1,c1⟩
  · rw [if_neg c1];refine .inr ⟨c1,?_⟩;by_cases c2:x.n<1∨20000<x.n∨x.o<0∨x.t<0∨20000<x.t
    · exact .inl ⟨if_pos c2,c2⟩
    · rw [if_neg c2];refine .inr ⟨c2,?_⟩;by_cases c3:0<t.sales.length∧x.t<CR t
      · exact .inl ⟨if_pos c3,c3⟩
      · rw [if_neg c3];refine .inr ⟨c3,?_⟩;by_cases c4:500≤t.sales.length
        · exact .inl ⟨if_pos c4,c4⟩
        · exact .inr ⟨if_neg c4,by omega⟩
theorem zR6 {t:Tr}(h0:0<t.sales.length):∃ y,t.sales[t.sales.length-1]? = some y∧CR t=y.s.t:=by
  refine ⟨t.sales[t.sales.length-1],aA (by omega),?_⟩
  unfold CR;rw [List.getLast?_eq_getElem?,aA (by omega)];rfl
theorem TZ {A:List (List AV)}{a b c d x e:AV}:(A++[[a,b,c,d,x,e]]).flatten[A.flatten.length+4]? = some x:=by
  rw [fU,aE (by omega),show A.flatten.length+4-A.flatten.length=4 by omega];rfl
theorem TY {A:List (List AV)}{a b c d x y e:AV}:(A++[[a,b,c,d,y,e]]).flatten=(A++[[a,b,c,d,x,e]]).flatten.set (A.flatten.length+4) y:=by
  rw [fU,fU,iZ _ _ (by omega),show A.flatten.length+4-A.flatten.length=4 by omega];rfl
end Go.Ld
namespace Go.Proofs.YtmmmeebiobjnbaaGreat
open Go Go.Ab Go.Ld
attribute [local irreducible] VC AW cD aT jE
set_option maxHeartbeats 4000000
theorem zV8 (c:Cx) (gs:List G) (hl:gs.length≤1000):aT Tryz.prog 39 [.pr (kI c gs) 0] [] (.ptr 0 0) [.cells (kI c gs)]:=by
  have hc:=kL (jW gs).symm (gV (eN gs)) (O6 gs (by omega))
  refine bU T Tryz.func39 rfl rfl rfl rfl ?_
  (repeat' (first|refine wS ?_|refine wR ?_|(refine rg 0 (aV ?_))|(refine rg 1 (mW rfl (nV ?_));refine lW T rfl (cC (cM T rfl) rfl (bD T rfl rfl rfl rfl rfl rfl (by decide) rfl ?_)))|(refine rg 2 (mW rfl (nV ?_));refine gI T rfl (vV (kC (hc)) (fW T rfl (bD T rfl rfl rfl rfl rfl rfl (by decide) rfl ?_))))|(refine rg 3 (aV ?_))|refine nZ ?_));all_goals exact ⟨.inl rfl,[0],_,rfl,rfl,rfl,⟨.inr rfl,trivial⟩,by decide,jY _⟩
theorem zV7 (c:Cx) (gs:List G) (hl:gs.length≤1000):aT Tryz.prog 39 [.ptr 0 0] [.cells (kI c gs)] (.ptr 1 0) ([.cells (kI c gs)]++[.cells (kI c gs)]):=by
  have hc:=kL (jW gs).symm (gV (eN gs)) (O6 gs (by omega))
  refine bU T Tryz.func39 rfl rfl rfl rfl ?_
  (repeat' (first|refine wS ?_|refine wR ?_|(refine rg 0 (aV ?_))|(refine rg 1 (mW rfl (nV ?_));refine lW T rfl (cC (cM T rfl) rfl (bD T rfl rfl rfl rfl rfl rfl (by decide) rfl ?_)))|(refine rg 2 (mW rfl (nV ?_));refine gI T rfl (vV (kC (hc)) (fW T rfl (bD T rfl rfl rfl rfl rfl rfl (by decide) rfl ?_))))|(refine rg 3 (aV ?_))|refine nZ ?_));all_goals exact ⟨.inl rfl,[0,1],_,rfl,rfl,rfl,⟨.inr rfl,.inr rfl,trivial⟩,by decide,xH _⟩
theorem SK (c:Cx) (t:Tr) (x:Sl) (h:kE c t) (hb:c.bs.length≤1000) (hn:t.seen.length≤100000) (hq:t.ord.length≤100000) (hm:t.sales.length≤100000) :
    aT Tryz.prog 17 [.ptr 0 0,.agg (zL9 x)] (KO c t) (.i (oT c t x)) (if oT c t x=0 then I9 c (qJ t x) else KO c t):=by
  have hgl:t.gs.length≤12:=bG h.lk.gk.mid.out.len h.lk.gk.mid.out.ln;have hcs:=BN c t x;have hlast:=zR6 (t:=t);unfold qJ;generalize oT c t x=code at *;generalize CR t=lt at *;obtain ⟨gs,seen,sales,ord⟩:=t;obtain ⟨xt,xo,xb,xn⟩:=x;dsimp only at *;have hel:=sD seen;have hol:=K3 ord;have hsl:=uM c sales;have hbl:(cW c.bs).length=c.bs.length:=aX _;have e1:tE c (sales++[⟨⟨xt,xo,xb,xn⟩,gs,seen.length⟩])=tE c sales++[[.i xt,.i xo,.i xb,.i xn,.pr (kI c gs) 0,.i (seen.length:Int)]]:=by rw [tE,bT];rfl
  have e2:A5 (ord++[true])=A5 ord++[[.b true]]:=by rw [A5,bT];rfl
  have l1:(sales++[(⟨⟨xt,xo,xb,xn⟩,gs,seen.length⟩:Sd)]).length=sales.length+1:=by simp
  have l2:(ord++[true]).length=ord.length+1:=by simp
  have i2:=fG (ord++[true]);have hcp:=zV7 c gs (by omega)
  rcases hcs with ⟨he,c1⟩ | ⟨c1,⟨he,c2⟩ | ⟨c2,⟨he,c3,c4⟩ | ⟨c3,⟨he,c4⟩ | ⟨he,c4⟩⟩⟩⟩
  · rw [he,if_neg (by decide)]
    refine bU T Tryz.func17 rfl rfl rfl rfl ?_
    (repeat' (first|refine wS ?_|refine wB ?_|(refine rg 0 (cC (cO rfl rfl) rfl (aV ?_)))|(refine rg 1 (mW rfl (nV ?_));refine gI T rfl (qW T rfl (aV ?_)))|refine nZ ?_));refine fH 3 (cs:=zL9 ⟨xt,xo,xb,xn⟩) rfl rfl rfl ?_
    (repeat' (first|refine wS ?_|refine wR ?_|refine wT ?_|(refine wC rfl ?_ ?_<;>(intro hb;(try simp only [nm] at hb);try (exfalso;omega)))|(refine bV (id:=2) 100 yX0 [12,13,14,15,16,17,18,19,20,21,22,23,24,11] yX1 cK rfl (by decide +kernel) (dP T rfl (dO T rfl (dV rfl (aL rfl rfl) (dM ?_))));(refine lL rfl rfl rfl rfl ?_ ?_<;>(intro hb;rw [hb];(try simp only [nm] at hb);try (exfalso;omega))<;>first|(refine tF T ?_)|(refine dG ?_));(all_goals first|(refine tL T ?_)|(refine dG ?_));(all_goals first|(refine tM ?_)|(refine dG ?_));(all_goals first|(refine dT rfl (by exact cN rfl rfl) ?_)|(refine dG ?_));(all_goals first|(refine tF T ?_)|(refine dG ?_));(all_goals first|(refine tL T ?_)|(refine dG ?_));(all_goals first|(refine dT rfl (jB T rfl rfl) ?_)|(refine dG ?_));(all_goals first|(refine dT rfl (iC rfl rfl) ?_)|(refine dG ?_));(all_goals (refine dV rfl (by first|exact gG rfl rfl|exact gJ rfl rfl) ?_;refine dV rfl (dK rfl) (dE ?_))))|(refine rg 3 (aV ?_))|refine nZ ?_));all_goals try (exfalso;omega)
    all_goals exact ⟨.inl rfl,[0,1,2,3,4],_,rfl,rfl,rfl,⟨.inr rfl,.inr rfl,.inr (aC rfl rfl (eZ _)),.inr (aC rfl rfl (fF _ _)),.inr (aC rfl rfl (fG _)),trivial⟩,by decide,zY7⟩
  · rw [he,if_neg (by decide)]
    refine bU T Tryz.func17 rfl rfl rfl rfl ?_
    (repeat' (first|refine wS ?_|refine wB ?_|(refine rg 0 (cC (cO rfl rfl) rfl (aV ?_)))|(refine rg 1 (mW rfl (nV ?_));refine gI T rfl (qW T rfl (aV ?_)))|refine nZ ?_));refine fH 3 (cs:=zL9 ⟨xt,xo,xb,xn⟩) rfl rfl rfl ?_
    (repeat' (first|refine wS ?_|refine wR ?_|refine wT ?_|(refine wC rfl ?_ ?_<;>(intro hb;(try simp only [nm] at hb);try (exfalso;omega)))|(refine bV (id:=2) 100 yX0 [12,13,14,15,16,17,18,19,20,21,22,23,24,11] yX1 cK rfl (by decide +kernel) (dP T rfl (dO T rfl (dV rfl (aL rfl rfl) (dM ?_))));refine lL rfl rfl rfl rfl ?_ ?_<;>(intro hb;rw [hb];(try simp only [nm] at hb);try (exfalso;omega))<;>(refine tF T ?_);(all_goals (refine tO T rfl (tN rfl (dT rfl (by exact cN rfl rfl) ?_));refine tP T rfl (tO T rfl (dT rfl (jB T rfl rfl) (dT rfl (iC rfl rfl) (dV rfl (gJ rfl rfl) (dV rfl (dK rfl) (dE ?_)))))))))|(refine rg 4 (gI T rfl (vV (aL rfl rfl) (mV ?_)));refine bQ rfl rfl ?_ ?_<;>(intro hb;rw [hb];(try simp only [nm] at hb);try (exfalso;omega));(all_goals first|(refine gT (fW T rfl (gT (lW T rfl (gT (vV (fA rfl rfl) ?_))))))|(iterate 3 refine gF ?_));(all_goals (refine pW rfl (mV ?_)));(all_goals first|(refine gK ?_)|(refine bQ rfl rfl ?_ ?_<;>(intro hb;rw [hb];(try simp only [nm] at hb);try (exfalso;omega))));(all_goals first|(refine gT (fW T rfl (gT (lW T rfl (gT (vV (aL rfl rfl) ?_))))))|(iterate 3 refine gF ?_));(all_goals (refine pW rfl (mV ?_)));(all_goals first|(refine gK ?_)|(refine bQ rfl rfl ?_ ?_<;>(intro hb;rw [hb];(try simp only [nm] at hb);try (exfalso;omega))));(all_goals first|(refine gT (fW T rfl (gT (lW T rfl (gT (vV (aL rfl rfl) ?_))))))|(iterate 3 refine gF ?_));(all_goals (refine pW rfl (mV ?_)));(all_goals first|(refine gK ?_)|(refine bQ rfl rfl ?_ ?_<;>(intro hb;rw [hb];(try simp only [nm] at hb);try (exfalso;omega))));(all_goals first|(refine gT (fW T rfl (gT (lW T rfl (gT (vV (fA rfl rfl) ?_))))))|(iterate 3 refine gF ?_));(all_goals (refine pW rfl (aV ?_))))|(refine rg 5 (aV ?_))|refine nZ ?_));all_goals try (exfalso;omega)
    all_goals exact ⟨.inl rfl,[0,1,2,3,4],_,rfl,rfl,rfl,⟨.inr rfl,.inr rfl,.inr (aC rfl rfl (eZ _)),.inr (aC rfl rfl (fF _ _)),.inr (aC rfl rfl (fG _)),trivial⟩,by decide,zY7⟩
  · obtain ⟨y,hy,rfl⟩:=hlast c3;have qy:=PR (c:=c) (j:=(sales.length:Int)-1) hy (by omega)
    rw [he,if_neg (by decide)]
    refine bU T Tryz.func17 rfl rfl rfl rfl ?_
    (repeat' (first|refine wS ?_|refine wB ?_|(refine rg 0 (cC (cO rfl rfl) rfl (aV ?_)))|(refine rg 1 (mW rfl (nV ?_));refine gI T rfl (qW T rfl (aV ?_)))|refine nZ ?_));refine fH 3 (cs:=zL9 ⟨xt,xo,xb,xn⟩) rfl rfl rfl ?_
    (repeat' (first|refine wS ?_|refine wR ?_|(refine wC rfl ?_ ?_<;>(intro hb;(try simp only [nm] at hb);try (exfalso;omega)))|(refine bV (id:=2) 100 yX0 [12,13,14,15,16,17,18,19,20,21,22,23,24,11] yX1 cK rfl (by decide +kernel) (dP T rfl (dO T rfl (dV rfl (aL rfl rfl) (dM ?_))));refine lL rfl rfl rfl rfl ?_ ?_<;>(intro hb;rw [hb];(try simp only [nm] at hb);try (exfalso;omega))<;>(refine tF T ?_);(all_goals (refine tO T rfl (tN rfl (dT rfl (by exact cN rfl rfl) ?_));refine tP T rfl (tO T rfl (dT rfl (jB T rfl rfl) (dT rfl (iC rfl rfl) (dV rfl (gJ rfl rfl) (dV rfl (dK rfl) (dE ?_)))))))))|(refine rg 4 (fW T rfl (vV (aK T rfl rfl rfl rfl) (vV (aL rfl rfl) (mV ?_))));refine bQ rfl rfl ?_ ?_<;>(intro hb;rw [hb];(try simp only [nm] at hb);try (exfalso;omega));(all_goals (refine yP T rfl (yV (aK T rfl rfl rfl rfl) (yV (fA rfl rfl) (pW rfl (mV ?_))));refine bQ rfl rfl ?_ ?_<;>(intro hb;rw [hb];(try simp only [nm] at hb);try (exfalso;omega))));(all_goals (refine yP T rfl (yV (aK T rfl rfl rfl rfl) (yV (aL rfl rfl) (pW rfl (mV ?_))));refine bQ rfl rfl ?_ ?_<;>(intro hb;rw [hb];(try simp only [nm] at hb);try (exfalso;omega))));(all_goals (refine yP T rfl (yV (aK T rfl rfl rfl rfl) (yV (aL rfl rfl) (pW rfl (mV ?_))));refine bQ rfl rfl ?_ ?_<;>(intro hb;rw [hb];(try simp only [nm] at hb);try (exfalso;omega))));(all_goals (refine yP T rfl (yV (aK T rfl rfl rfl rfl) (yV (fA rfl rfl) (pW rfl (aV ?_)))))))|(refine bV (id:=6) 100 yX2 [50,51,52,53,54,55,56,57,58,59,60,61,62,63,64,65,66,49] yX3 cK rfl (by decide +kernel) (dN rfl (dV rfl (fA rfl rfl) (dM ?_)));refine lL rfl rfl rfl rfl ?_ ?_<;>(intro hb;rw [hb];(try simp only [nm] at hb);try (exfalso;omega))<;>(refine tF T ?_);(all_goals (refine tO T rfl (tN rfl (dT rfl (by exact cN rfl rfl) ?_));refine tP T rfl (tO T rfl (tN rfl (dT rfl (cT rfl rfl (by omega) (by omega)) (dT rfl (by exact aI T rfl rfl rfl rfl rfl (by omega) (by omega)) ?_))));refine tP T rfl (tP T rfl (dT rfl (by exact aK T rfl rfl (bF rfl qy) rfl) ?_));refine dT rfl (aL rfl rfl) (dV rfl (gG rfl rfl) (dV rfl (dK rfl) (dE ?_))))))|(refine rg 7 (aV ?_))|refine nZ ?_));all_goals try (exfalso;omega)
    all_goals exact ⟨.inl rfl,[0,1,2,3,4],_,rfl,rfl,rfl,⟨.inr rfl,.inr rfl,.inr (aC rfl rfl (eZ _)),.inr (aC rfl rfl (fF _ _)),.inr (aC rfl rfl (fG _)),trivial⟩,by decide,zY7⟩
  · by_cases hs0:0<sales.length
    · obtain ⟨y,hy,rfl⟩:=hlast hs0;have qy:=PR (c:=c) (j:=(sales.length:Int)-1) hy (by omega)
      have c5:¬ xt<y.s.t:=fun q=>c3 ⟨hs0,q⟩
      rw [he,if_neg (by decide)]
      refine bU T Tryz.func17 rfl rfl rfl rfl ?_
      (repeat' (first|refine wS ?_|refine wB ?_|(refine rg 0 (cC (cO rfl rfl) rfl (aV ?_)))|(refine rg 1 (mW rfl (nV ?_));refine gI T rfl (qW T rfl (aV ?_)))|refine nZ ?_));refine fH 3 (cs:=zL9 ⟨xt,xo,xb,xn⟩) rfl rfl rfl ?_
      (repeat' (first|refine wS ?_|refine wR ?_|(refine wC rfl ?_ ?_<;>(intro hb;(try simp only [nm] at hb);try (exfalso;omega)))|(refine bV (id:=2) 100 yX0 [12,13,14,15,16,17,18,19,20,21,22,23,24,11] yX1 cK rfl (by decide +kernel) (dP T rfl (dO T rfl (dV rfl (aL rfl rfl) (dM ?_))));refine lL rfl rfl rfl rfl ?_ ?_<;>(intro hb;rw [hb];(try simp only [nm] at hb);try (exfalso;omega))<;>(refine tF T ?_);(all_goals (refine tO T rfl (tN rfl (dT rfl (by exact cN rfl rfl) ?_));refine tP T rfl (tO T rfl (dT rfl (jB T rfl rfl) (dT rfl (iC rfl rfl) (dV rfl (gJ rfl rfl) (dV rfl (dK rfl) (dE ?_)))))))))|(refine rg 4 (fW T rfl (vV (aK T rfl rfl rfl rfl) (vV (aL rfl rfl) (mV ?_))));refine bQ rfl rfl ?_ ?_<;>(intro hb;rw [hb];(try simp only [nm] at hb);try (exfalso;omega));(all_goals (refine yP T rfl (yV (aK T rfl rfl rfl rfl) (yV (fA rfl rfl) (pW rfl (mV ?_))));refine bQ rfl rfl ?_ ?_<;>(intro hb;rw [hb];(try simp only [nm] at hb);try (exfalso;omega))));(all_goals (refine yP T rfl (yV (aK T rfl rfl rfl rfl) (yV (aL rfl rfl) (pW rfl (mV ?_))));refine bQ rfl rfl ?_ ?_<;>(intro hb;rw [hb];(try simp only [nm] at hb);try (exfalso;omega))));(all_goals (refine yP T rfl (yV (aK T rfl rfl rfl rfl) (yV (aL rfl rfl) (pW rfl (mV ?_))));refine bQ rfl rfl ?_ ?_<;>(intro hb;rw [hb];(try simp only [nm] at hb);try (exfalso;omega))));(all_goals (refine yP T rfl (yV (aK T rfl rfl rfl rfl) (yV (fA rfl rfl) (pW rfl (aV ?_)))))))|(refine bV (id:=6) 100 yX2 [50,51,52,53,54,55,56,57,58,59,60,61,62,63,64,65,66,49] yX3 cK rfl (by decide +kernel) (dN rfl (dV rfl (fA rfl rfl) (dM ?_)));refine lL rfl rfl rfl rfl ?_ ?_<;>(intro hb;rw [hb];(try simp only [nm] at hb);try (exfalso;omega))<;>(refine tF T ?_);(all_goals (refine tO T rfl (tN rfl (dT rfl (by exact cN rfl rfl) ?_));refine tP T rfl (tO T rfl (tN rfl (dT rfl (cT rfl rfl (by omega) (by omega)) (dT rfl (by exact aI T rfl rfl rfl rfl rfl (by omega) (by omega)) ?_))));refine tP T rfl (tP T rfl (dT rfl (by exact aK T rfl rfl (bF rfl qy) rfl) ?_));refine dT rfl (aL rfl rfl) (dV rfl (gG rfl rfl) (dV rfl (dK rfl) (dE ?_))))))|(refine rg 8 (mW rfl (vV (iC rfl rfl) (aV ?_))))|(refine rg 9 (aV ?_))|refine nZ ?_));all_goals try (exfalso;omega)
      all_goals exact ⟨.inl rfl,[0,1,2,3,4],_,rfl,rfl,rfl,⟨.inr rfl,.inr rfl,.inr (aC rfl rfl (eZ _)),.inr (aC rfl rfl (fF _ _)),.inr (aC rfl rfl (fG _)),trivial⟩,by decide,zY7⟩
    · rw [he,if_neg (by decide)]
      refine bU T Tryz.func17 rfl rfl rfl rfl ?_
      (repeat' (first|refine wS ?_|refine wB ?_|(refine rg 0 (cC (cO rfl rfl) rfl (aV ?_)))|(refine rg 1 (mW rfl (nV ?_));refine gI T rfl (qW T rfl (aV ?_)))|refine nZ ?_));refine fH 3 (cs:=zL9 ⟨xt,xo,xb,xn⟩) rfl rfl rfl ?_
      repeat' ((((refine bV (id:=2) 100 [[],[0],[0,1],[0,1,2],[0,1,2,3],[0,1,2,3,4],[0,1,2,3],[0,1,2,3,6],[0,1,2,3,6,7],[0,1,2,3,6,7,8],[0,1,2,3,6,7,8,9],[0,1,2,3,4,5,6,7,8,9,10],[0,1,2,3,4,5,6,7,8,9,10,11],[0,1,2,3,4,5,6,7,8,9,10,11,12]] [12,13,14,15,16,17,18,19,20,21,22,23,24,11] [[],[],[],[],[],[],[16,17],[16,17],[16,17],[16,17],[16,17],[],[],[]] cK rfl (by decide +kernel) ?_));(all_goals (refine dV rfl (by exact bI T rfl rfl rfl) ?_));(all_goals (refine dV rfl (by exact aK T rfl rfl rfl rfl) ?_));(all_goals (refine dV rfl (by exact aL rfl rfl) ?_));(all_goals (refine dV rfl (by exact bR rfl) ?_));(all_goals (refine lL rfl rfl rfl rfl ?_ ?_<;>(intro hb;rw [hb];(try simp only [nm] at hb);try (exfalso;omega))<;>fail));(all_goals fail);(all_goals fail);(all_goals fail);(all_goals fail);(all_goals fail);(all_goals fail);(all_goals fail);(all_goals fail);(all_goals fail);(all_goals (refine DJ rfl rfl (by (fail)) ?_))))
      all_goals try (exfalso;omega)
      all_goals exact ⟨.inl rfl,[0,1,2,3,4],_,rfl,rfl,rfl,⟨.inr rfl,.inr rfl,.inr (aC rfl rfl (eZ _)),.inr (aC rfl rfl (fF _ _)),.inr (aC rfl rfl (fG _)),trivial⟩,by decide,zY7⟩
  · by_cases hs0:0<sales.length
    · obtain ⟨y,hy,rfl⟩:=hlast hs0;have qy:=PR (c:=c) (j:=(sales.length:Int)-1) hy (by omega)
      have c5:¬ xt<y.s.t:=fun q=>c3 ⟨hs0,q⟩
      rw [he,if_pos rfl];unfold I9;dsimp only;rw [l1,l2];refine bU T Tryz.func17 rfl rfl rfl rfl ?_
      (repeat' (first|refine wS ?_|refine wB ?_|(refine rg 0 (cC (cO rfl rfl) rfl (aV ?_)))|(refine rg 1 (mW rfl (nV ?_));refine gI T rfl (qW T rfl (aV ?_)))|refine nZ ?_));refine fH 3 (cs:=zL9 ⟨xt,xo,xb,xn⟩) rfl rfl rfl ?_
      (repeat' (first|refine wS ?_|refine wK ?_|(refine wC rfl ?_ ?_<;>(intro hb;(try simp only [nm] at hb);try (exfalso;omega)))|(refine bV (id:=2) 100 yX0 [12,13,14,15,16,17,18,19,20,21,22,23,24,11] yX1 cK rfl (by decide +kernel) (dP T rfl (dO T rfl (dV rfl (aL rfl rfl) (dM ?_))));refine lL rfl rfl rfl rfl ?_ ?_<;>(intro hb;rw [hb];(try simp only [nm] at hb);try (exfalso;omega))<;>(refine tF T ?_);(all_goals (refine tO T rfl (tN rfl (dT rfl (by exact cN rfl rfl) ?_));refine tP T rfl (tO T rfl (dT rfl (jB T rfl rfl) (dT rfl (iC rfl rfl) (dV rfl (gJ rfl rfl) (dV rfl (dK rfl) (dE ?_)))))))))|(refine rg 4 (fW T rfl (vV (aK T rfl rfl rfl rfl) (vV (aL rfl rfl) (mV ?_))));refine bQ rfl rfl ?_ ?_<;>(intro hb;rw [hb];(try simp only [nm] at hb);try (exfalso;omega));(all_goals (refine yP T rfl (yV (aK T rfl rfl rfl rfl) (yV (fA rfl rfl) (pW rfl (mV ?_))));refine bQ rfl rfl ?_ ?_<;>(intro hb;rw [hb];(try simp only [nm] at hb);try (exfalso;omega))));(all_goals (refine yP T rfl (yV (aK T rfl rfl rfl rfl) (yV (aL rfl rfl) (pW rfl (mV ?_))));refine bQ rfl rfl ?_ ?_<;>(intro hb;rw [hb];(try simp only [nm] at hb);try (exfalso;omega))));(all_goals (refine yP T rfl (yV (aK T rfl rfl rfl rfl) (yV (aL rfl rfl) (pW rfl (mV ?_))));refine bQ rfl rfl ?_ ?_<;>(intro hb;rw [hb];(try simp only [nm] at hb);try (exfalso;omega))));(all_goals (refine yP T rfl (yV (aK T rfl rfl rfl rfl) (yV (fA rfl rfl) (pW rfl (aV ?_)))))))|(refine bV (id:=6) 100 yX2 [50,51,52,53,54,55,56,57,58,59,60,61,62,63,64,65,66,49] yX3 cK rfl (by decide +kernel) (dN rfl (dV rfl (fA rfl rfl) (dM ?_)));refine lL rfl rfl rfl rfl ?_ ?_<;>(intro hb;rw [hb];(try simp only [nm] at hb);try (exfalso;omega))<;>(refine tF T ?_);(all_goals (refine tO T rfl (tN rfl (dT rfl (by exact cN rfl rfl) ?_));refine tP T rfl (tO T rfl (tN rfl (dT rfl (cT rfl rfl (by omega) (by omega)) (dT rfl (by exact aI T rfl rfl rfl rfl rfl (by omega) (by omega)) ?_))));refine tP T rfl (tP T rfl (dT rfl (by exact aK T rfl rfl (bF rfl qy) rfl) ?_));refine dT rfl (aL rfl rfl) (dV rfl (gG rfl rfl) (dV rfl (dK rfl) (dE ?_))))))|(refine rg 8 (mW rfl (vV (iC rfl rfl) (aV ?_))))|(refine lZ (id:=10) 100 yX4 (rM 70 30) yX5 [(11,1),(19,3),(25,4),(28,0),(31,0)] cK rfl (by decide +kernel) (cH rfl rfl rfl rfl (by exact bR rfl) ?_);refine cH rfl rfl rfl rfl (by exact bR rfl) ?_;refine cH rfl rfl rfl rfl (by exact bR rfl) ?_;refine cH rfl rfl rfl rfl (by exact cN rfl rfl) ?_;refine cH rfl rfl rfl rfl (by exact bI T rfl rfl rfl) ?_;refine cH rfl rfl rfl rfl (by exact aK T rfl rfl rfl rfl) ?_;refine cH rfl rfl rfl rfl (by exact aK T rfl rfl rfl rfl) ?_;refine cH rfl rfl rfl rfl (by exact bR rfl) ?_;refine cH rfl rfl rfl rfl (by exact cN rfl rfl) ?_;refine cH rfl rfl rfl rfl (by exact bI T rfl rfl rfl) ?_;refine cH rfl rfl rfl rfl (by exact aK T rfl rfl rfl rfl) ?_;refine mR rfl rfl rfl rfl (aH rfl) (by exact rL [1] rfl rfl hcp (fun _=>rfl) rfl (by decide) (fun _=>⟨.inr rfl,trivial⟩) (by simp) rfl (fun _ _=>rfl) rfl rfl) ?_;refine cH rfl rfl rfl rfl (by exact bR rfl) ?_;refine cH rfl rfl rfl rfl (by exact cN rfl rfl) ?_;refine cH rfl rfl rfl rfl (by exact bI T rfl rfl rfl) ?_;refine cH rfl rfl rfl rfl (by exact aK T rfl rfl rfl rfl) ?_;refine cH rfl rfl rfl rfl (by exact T5 T rfl rfl) ?_;refine cH rfl rfl rfl rfl (by exact eO T rfl rfl rfl rfl) ?_;refine vR rfl rfl rfl rfl (by exact bE T rfl rfl (by decide) (by decide) rfl rfl rfl) rfl ?_;refine mR rfl rfl rfl rfl (aH rfl) (by exact mA T rfl rfl rfl rfl rfl rfl (by omega) (iK.whole rfl rfl) rfl (by simp;omega) (by simp;omega)) ?_;refine cH rfl rfl rfl rfl (by exact bR rfl) ?_;refine cH rfl rfl rfl rfl (by exact cN rfl rfl) ?_;refine cH rfl rfl rfl rfl (by exact bI T rfl rfl rfl) ?_;refine cH rfl rfl rfl rfl (by exact aK T rfl rfl rfl rfl) ?_;refine vR rfl rfl rfl rfl (by exact bE T rfl rfl (by decide) (by decide) rfl rfl rfl) rfl ?_;refine mR rfl rfl rfl rfl (aH rfl) (by exact mA T rfl rfl rfl rfl rfl rfl (by omega) (iK.whole rfl rfl) rfl (by simp;omega) (by simp;omega)) ?_;refine cH rfl rfl rfl rfl (by exact cN rfl rfl) ?_;refine cH rfl rfl rfl rfl (by exact bI T rfl rfl rfl) ?_;refine wM rfl rfl rfl rfl (aH rfl) T rfl rfl rfl rfl rfl rfl (by decide) rfl ?_;refine cH rfl rfl rfl rfl (by exact cN rfl rfl) ?_;refine cH rfl rfl rfl rfl (by exact bI T rfl rfl rfl) ?_;refine wM rfl rfl rfl rfl (aH rfl) T rfl rfl rfl rfl rfl rfl (by decide) rfl ?_;refine pU rfl rfl rfl (by exact rfl) ?_)|refine nZ ?_));all_goals try (exfalso;omega)
      refine fO [] [.cells [.rowE (iI c.ls) 3,.rowE (cW c.bs) 3,.ptr 1 0,.sl 2 0 seen.length 5,.sl 5 0 (sales.length+1) 6,.sl 6 0 (ord.length+1) 1],.cells (kI c gs),.arr (oX seen) 5,.gone,.gone,.arr (tE c sales++[[.i xt,.i xo,.i xb,.i xn,.ptr 7 0,.i (seen.length:Int)]]) 6,.arr (A5 (ord++[true])) 1,.cells (kI c gs)] ⟨[0,1,2,3,4,8,10,6],rfl,trivial,⟨.inr rfl,.inr rfl,.inr (aC rfl rfl (eZ _)),.inl rfl,.inl rfl,.inr (QW rfl (by rw [kG];exact bO (by omega)) rfl (fF _ _)),.inr (aC rfl (by rw [e2];exact jF hol.symm) i2),.inr rfl,trivial⟩,by decide,yJ7 _ _ _⟩ ?_
      refine HI 5 ((tE c sales).flatten.length+4) (tE c (sales++[⟨⟨xt,xo,xb,xn⟩,gs,seen.length⟩])) rfl (by decide) (by simp) TZ rfl rfl (AH _ _) (by rw [e1];exact TY) ?_
      (repeat' (first|refine wR ?_|(refine rg 11 (aV ?_))|refine nZ ?_));all_goals try (exfalso;omega)
      all_goals exact ⟨.inl rfl,[0,1,2,3,4,5,6],_,rfl,rfl,rfl,⟨.inr rfl,.inr rfl,.inr (aC rfl rfl (eZ _)),.inl rfl,.inl rfl,.inr (aC rfl rfl (fF _ _)),.inr (aC rfl rfl (fG _)),trivial⟩,by decide,zC0 _ _⟩
    · rw [he,if_pos rfl];unfold I9;dsimp only;rw [l1,l2];refine bU T Tryz.func17 rfl rfl rfl rfl ?_
      (repeat' (first|refine wS ?_|refine wB ?_|(refine rg 0 (cC (cO rfl rfl) rfl (aV ?_)))|(refine rg 1 (mW rfl (nV ?_));refine gI T rfl (qW T rfl (aV ?_)))|refine nZ ?_));refine fH 3 (cs:=zL9 ⟨xt,xo,xb,xn⟩) rfl rfl rfl ?_
      (repeat' (first|refine wS ?_|refine wK ?_|refine wU ?_|(refine wC rfl ?_ ?_<;>(intro hb;(try simp only [nm] at hb);try (exfalso;omega)))|(refine bV (id:=2) 100 yX0 [12,13,14,15,16,17,18,19,20,21,22,23,24,11] yX1 cK rfl (by decide +kernel) (dP T rfl (dO T rfl (dV rfl (aL rfl rfl) (dM ?_))));refine lL rfl rfl rfl rfl ?_ ?_<;>(intro hb;rw [hb];(try simp only [nm] at hb);try (exfalso;omega))<;>(refine tF T ?_);(all_goals (refine tO T rfl (tN rfl (dT rfl (by exact cN rfl rfl) ?_));refine tP T rfl (tO T rfl (dT rfl (jB T rfl rfl) (dT rfl (iC rfl rfl) (dV rfl (gJ rfl rfl) (dV rfl (dK rfl) (dE ?_)))))))))|(refine rg 4 (gI T rfl (vV (aL rfl rfl) (mV ?_)));refine bQ rfl rfl ?_ ?_<;>(intro hb;rw [hb];(try simp only [nm] at hb);try (exfalso;omega));(all_goals (refine yP T rfl (yO T rfl (yV (fA rfl rfl) (pW rfl (mV ?_))));refine bQ rfl rfl ?_ ?_<;>(intro hb;rw [hb];(try simp only [nm] at hb);try (exfalso;omega))));(all_goals (refine yP T rfl (yO T rfl (yV (aL rfl rfl) (pW rfl (mV ?_))));refine bQ rfl rfl ?_ ?_<;>(intro hb;rw [hb];(try simp only [nm] at hb);try (exfalso;omega))));(all_goals (refine yP T rfl (yO T rfl (yV (aL rfl rfl) (pW rfl (mV ?_))));refine bQ rfl rfl ?_ ?_<;>(intro hb;rw [hb];(try simp only [nm] at hb);try (exfalso;omega))));(all_goals (refine yP T rfl (yO T rfl (yV (fA rfl rfl) (pW rfl (aV ?_)))))))|(refine bV (id:=6) 100 yX2 [50,51,52,53,54,55,56,57,58,59,60,61,62,63,64,65,66,49] yX3 cK rfl (by decide +kernel) (dN rfl (dV rfl (fA rfl rfl) (dM ?_)));refine lL rfl rfl rfl rfl ?_ ?_<;>(intro hb;rw [hb];(try simp only [nm] at hb);try (exfalso;omega))<;>(refine dG ?_);(all_goals (refine tG rfl (tG rfl (tG rfl (tG rfl (tG rfl (tG rfl (tG rfl (tG rfl (tG rfl (dG ?_)))))))));refine tG rfl (tG rfl (dV rfl (gJ rfl rfl) (dV rfl (dK rfl) (dE ?_)))))))|(refine rg 8 (mW rfl (vV (iC rfl rfl) (aV ?_))))|(refine lZ (id:=10) 100 yX4 (rM 70 30) yX5 [(11,1),(19,3),(25,4),(28,0),(31,0)] cK rfl (by decide +kernel) (cH rfl rfl rfl rfl (by exact bR rfl) ?_);refine cH rfl rfl rfl rfl (by exact bR rfl) ?_;refine cH rfl rfl rfl rfl (by exact bR rfl) ?_;refine cH rfl rfl rfl rfl (by exact cN rfl rfl) ?_;refine cH rfl rfl rfl rfl (by exact bI T rfl rfl rfl) ?_;refine cH rfl rfl rfl rfl (by exact aK T rfl rfl rfl rfl) ?_;refine cH rfl rfl rfl rfl (by exact aK T rfl rfl rfl rfl) ?_;refine cH rfl rfl rfl rfl (by exact bR rfl) ?_;refine cH rfl rfl rfl rfl (by exact cN rfl rfl) ?_;refine cH rfl rfl rfl rfl (by exact bI T rfl rfl rfl) ?_;refine cH rfl rfl rfl rfl (by exact aK T rfl rfl rfl rfl) ?_;refine mR rfl rfl rfl rfl (aH rfl) (by exact rL [1] rfl rfl hcp (fun _=>rfl) rfl (by decide) (fun _=>⟨.inr rfl,trivial⟩) (by simp) rfl (fun _ _=>rfl) rfl rfl) ?_;refine cH rfl rfl rfl rfl (by exact bR rfl) ?_;refine cH rfl rfl rfl rfl (by exact cN rfl rfl) ?_;refine cH rfl rfl rfl rfl (by exact bI T rfl rfl rfl) ?_;refine cH rfl rfl rfl rfl (by exact aK T rfl rfl rfl rfl) ?_;refine cH rfl rfl rfl rfl (by exact T5 T rfl rfl) ?_;refine cH rfl rfl rfl rfl (by exact eO T rfl rfl rfl rfl) ?_;refine vR rfl rfl rfl rfl (by exact bE T rfl rfl (by decide) (by decide) rfl rfl rfl) rfl ?_;refine mR rfl rfl rfl rfl (aH rfl) (by exact mA T rfl rfl rfl rfl rfl rfl (by omega) (iK.whole rfl rfl) rfl (by simp;omega) (by simp;omega)) ?_;refine cH rfl rfl rfl rfl (by exact bR rfl) ?_;refine cH rfl rfl rfl rfl (by exact cN rfl rfl) ?_;refine cH rfl rfl rfl rfl (by exact bI T rfl rfl rfl) ?_;refine cH rfl rfl rfl rfl (by exact aK T rfl rfl rfl rfl) ?_;refine vR rfl rfl rfl rfl (by exact bE T rfl rfl (by decide) (by decide) rfl rfl rfl) rfl ?_;refine mR rfl rfl rfl rfl (aH rfl) (by exact mA T rfl rfl rfl rfl rfl rfl (by omega) (iK.whole rfl rfl) rfl (by simp;omega) (by simp;omega)) ?_;refine cH rfl rfl rfl rfl (by exact cN rfl rfl) ?_;refine cH rfl rfl rfl rfl (by exact bI T rfl rfl rfl) ?_;refine wM rfl rfl rfl rfl (aH rfl) T rfl rfl rfl rfl rfl rfl (by decide) rfl ?_;refine cH rfl rfl rfl rfl (by exact cN rfl rfl) ?_;refine cH rfl rfl rfl rfl (by exact bI T rfl rfl rfl) ?_;refine wM rfl rfl rfl rfl (aH rfl) T rfl rfl rfl rfl rfl rfl (by decide) rfl ?_;refine pU rfl rfl rfl (by exact rfl) ?_)|refine nZ ?_));all_goals try (exfalso;omega)
      refine fO [] [.cells [.rowE (iI c.ls) 3,.rowE (cW c.bs) 3,.ptr 1 0,.sl 2 0 seen.length 5,.sl 5 0 (sales.length+1) 6,.sl 6 0 (ord.length+1) 1],.cells (kI c gs),.arr (oX seen) 5,.gone,.gone,.arr (tE c sales++[[.i xt,.i xo,.i xb,.i xn,.ptr 7 0,.i (seen.length:Int)]]) 6,.arr (A5 (ord++[true])) 1,.cells (kI c gs)] ⟨[0,1,2,3,4,8,10,6],rfl,trivial,⟨.inr rfl,.inr rfl,.inr (aC rfl rfl (eZ _)),.inl rfl,.inl rfl,.inr (QW rfl (by rw [kG];exact bO (by omega)) rfl (fF _ _)),.inr (aC rfl (by rw [e2];exact jF hol.symm) i2),.inr rfl,trivial⟩,by decide,yJ7 _ _ _⟩ ?_
      refine HI 5 ((tE c sales).flatten.length+4) (tE c (sales++[⟨⟨xt,xo,xb,xn⟩,gs,seen.length⟩])) rfl (by decide) (by simp) TZ rfl rfl (AH _ _) (by rw [e1];exact TY) ?_
      (repeat' (first|refine wR ?_|(refine rg 11 (aV ?_))|refine nZ ?_));all_goals try (exfalso;omega)
      all_goals exact ⟨.inl rfl,[0,1,2,3,4,5,6],_,rfl,rfl,rfl,⟨.inr rfl,.inr rfl,.inr (aC rfl rfl (eZ _)),.inl rfl,.inl rfl,.inr (aC rfl rfl (fF _ _)),.inr (aC rfl rfl (fG _)),trivial⟩,by decide,zC0 _ _⟩
theorem YD (c:Cx) (t:Tr) (hm:t.sales.length≤100000):aT Tryz.prog 11 [.pr (HY c t) 0] [] (.sl 0 0 t.sales.length 4) [.arr (BL (t.sales.map (·.s))) 4]:=by
  obtain ⟨gs,seen,sales,ord⟩:=t;dsimp only at *;have hsl:=uM c sales;refine bU T Tryz.func11 rfl rfl rfl rfl ?_
  (repeat' (first|refine wS ?_|(refine rg 0 (aV ?_))|refine nZ ?_));all_goals try (exfalso;omega)
  (repeat' (first|refine wS ?_|(refine rg 1 (vV (dK rfl) (nY 3 4 rfl (by decide) ?_)))|refine nZ ?_));all_goals try (exfalso;omega)
  (repeat' (first|refine wB ?_|(refine rg 2 (mW rfl (nV ?_));refine gI T rfl (qW T rfl (mV ?_)))|refine nZ ?_));all_goals try (exfalso;omega)
  refine dA (X:={k:Nat // k≤sales.length}) (fun k=>[(3,.sl 0 0 k.1 4),(9,.rowE (tE c sales) 6),(10,.i (tE c sales).length),(11,.i k.1)]) (fun k=>[.arr (BL ((sales.take k.1).map (·.s))) 4]) (fun k=>sales.length-k.1) ⟨0,bW _⟩ ⟨[0],rfl,(by repeat first|exact trivial|refine ⟨rfl,?_⟩),⟨.inr rfl,trivial⟩,by decide,jY _⟩ ?_
  rintro ⟨k,hk⟩;dsimp only;by_cases hlt:k<sales.length
  · have hg:=BP (c:=c) (j:=(k:Int)) (aA hlt) rfl;have e1:BL ((sales.take (k+1)).map (·.s))=BL ((sales.take k).map (·.s))++[zL9 sales[k].s]:=by rw [aP hlt,bT,BL,bT];rfl
    have hl:(BL ((sales.take k).map (·.s))).length=k:=by rw [PN,aX,bH];omega
    have i1:=SN ((sales.take (k+1)).map (·.s));generalize BL ((sales.take k).map (·.s))=A at *;generalize sales[k]=x at *;obtain ⟨⟨xt,xo,xb,xn⟩,xg,xm⟩:=x;dsimp only at *
    (repeat' (first|refine wS ?_|refine wB ?_|refine wK ?_|(refine wC rfl ?_ ?_<;>(intro hb;(try simp only [nm] at hb);try (exfalso;omega)))|(refine rg 3 (vV (aL rfl rfl) ?_))|(refine rg 4 (vV (ix T rfl (by omega) (AH _ _) hg) (lW T rfl (cC (cM T rfl) rfl (bD T rfl rfl rfl rfl rfl rfl (by decide) rfl ?_)))))|refine nZ ?_));all_goals try (exfalso;omega)
    refine fH 5 (cs:=zO7 c ⟨⟨xt,xo,xb,xn⟩,xg,xm⟩) rfl rfl rfl ?_
    (repeat' (first|(refine rg 5 (mW rfl (gI T rfl (cC (by exact bE T rfl rfl (by decide) (by decide) rfl rfl rfl) rfl ?_)));refine fS T rfl rfl rfl rfl rfl rfl (by omega) (iK.whole rfl rfl) rfl (by simp;omega) (by simp;omega) rfl ?_;refine aV ?_)|(refine rg 6 (vV (cE rfl rfl (by omega) (by omega)) (mV ?_)))|refine nZ ?_));all_goals try (exfalso;omega)
    all_goals exact ⟨⟨k+1,hlt⟩,by dsimp only;omega,⟨[3],rfl,(by repeat first|exact trivial|refine ⟨rfl,?_⟩),⟨.inr (aC rfl (by dsimp only;rw [e1];exact jF hl.symm) i1),trivial⟩,by decide,jY _⟩⟩
  · obtain rfl:k=sales.length:=by omega
    rw [cQ]
    (repeat' (first|refine wS ?_|refine wR ?_|refine wE ?_|(refine wC rfl ?_ ?_<;>(intro hb;(try simp only [nm] at hb);try (exfalso;omega)))|(refine rg 3 (vV (aL rfl rfl) ?_))|(refine rg 7 (mW rfl (aV ?_)))|refine nZ ?_));all_goals try (exfalso;omega)
    exact ⟨.inl rfl,[0],_,rfl,rfl,rfl,⟨.inr (aC rfl rfl (SN _)),trivial⟩,by decide,jY _⟩
end Go.Proofs.YtmmmeebiobjnbaaGreat
namespace Go.Ld
theorem QE (c:Cx) (gs:List G) (s:Ev) (L:List Ev):vK c gs (s::L)=(!decide ((eY c gs s).1=26)&&vK c (eY c gs s).2 L):=rfl
def IH (c:Cx):List G→List Ev→List G
  | gs,[]=>gs
  | gs,s::L=>if (eY c gs s).1=26 then (eY c gs s).2 else IH c (eY c gs s).2 L
def IY (c:Cx):List G→List Ev→Nat→Int
  | _,[],_=>-1
  | gs,s::L,k=>if (eY c gs s).1=26 then (k:Int) else IY c (eY c gs s).2 L (k+1)
theorem FS (c:Cx) (gs:List G) (s:Ev) (L:List Ev):IH c gs (s::L)=if (eY c gs s).1=26 then (eY c gs s).2 else IH c (eY c gs s).2 L:=rfl
theorem T2 (c:Cx) (gs:List G) (s:Ev) (L:List Ev) (k:Nat):IY c gs (s::L) k=if (eY c gs s).1=26 then (k:Int) else IY c (eY c gs s).2 L (k+1):=rfl
theorem TP {c:Cx}:∀ {L:List Ev}{gs:List G}{k:Nat},decide (0≤IY c gs L k) = !vK c gs L
  | [],gs,k=>by simp [IY,vK]
  | s::L,gs,k=>by
    rw [T2,QE];by_cases h:(eY c gs s).1=26
    · rw [if_pos h,decide_eq_true h];simp
    · rw [if_neg h,decide_eq_false h,TP];simp
end Go.Ld
namespace Go.Proofs.YtmmmeebiobjnbaaGreat
open Go Go.Ab Go.Ld
attribute [local irreducible] VC AW cD aT jE zU
set_option maxHeartbeats 4000000
abbrev EO (c:Cx) (gs:List G):Hp:=[.cells [.ptr 1 0],.cells (kI c gs)]
theorem WF:∀ i:Nat,i<2→([0,1]:List Nat)[i]? = some i:=by decide
theorem NP (c:Cx) (gs:List G) (s:Ev) (hc:iL c) (h:pR c gs) (hids:s.ids.length≤9223372036854775807) :
    aT Tryz.prog 56 [zU6 s,.ptr 0 0] (EO c gs) (.b (decide ((eY c gs s).1=26))) (EO c (eY c gs s).2):=by
  have hse:=ZF c gs s hc h hids;generalize eY c gs s=R at *;obtain ⟨code,gs'⟩:=R;dsimp only at *;refine bU T Tryz.func56 rfl rfl rfl rfl ?_
  (repeat' (first|refine wS ?_|(refine rg 0 (cC (cO rfl rfl) rfl (aV ?_)))|refine nZ ?_));refine fH 2 (cs:=xN s) rfl rfl rfl ?_
  (repeat' (first|refine wR ?_|(refine rg 1 (lW T rfl (lW T rfl (eC [1] rfl rfl (hse) rfl rfl (by decide) ⟨.inr rfl,trivial⟩ (by simp) rfl ?_)));refine vV (eD rfl rfl) (aV ?_))|refine nZ ?_));all_goals try (exfalso;omega)
  all_goals exact ⟨.inl rfl,[0,1],_,rfl,rfl,rfl,⟨.inr rfl,.inr rfl,trivial⟩,by decide,WF⟩
theorem XC (c:Cx) (gs:List G) (b i:Int) (hc:iL c) (h:pR c gs) :
    aT Tryz.prog 56 [.agg [.i 5,.i b,.i 0,.i i,.nils],.ptr 0 0] (EO c gs) (.b (decide ((eY c gs (oU b i)).1=26))) (EO c (eY c gs (oU b i)).2):=
  HN (NP c gs (oU b i) hc h (bW _)) fun S w ρ ys=>jG (fun _ h=>ON h) fun _ h=>h
theorem zS1 (c:Cx) (gs:List G) (L:List Ev) (hc:iL c) (h:pR c gs) (hl:L.length≤100000) (hids:∀ s,s∈L→s.ids.length≤9223372036854775807) :
    aT Tryz.prog 80 [.rowE (oX L) 5,.clo (.func 56) [] [.ptr 0 0]] (EO c gs) (.i (IY c gs L 0)) (EO c (IH c gs L)):=by
  have hel:=sD L;have hm0:=hc.s.1;have hm1:=hc.s.2.1;refine bU T Tryz.func80 rfl rfl rfl rfl ?_
  (repeat' (first|refine wS ?_|refine wB ?_|(refine rg 0 (aV ?_))|(refine rg 1 (mW rfl (qW T rfl (mV ?_))))|refine nZ ?_));refine dA (X:={x:Nat × List G // x.1≤L.length∧pR c x.2∧IH c gs L=IH c x.2 (L.drop x.1)∧IY c gs L 0=IY c x.2 (L.drop x.1) x.1}) (fun x=>[(0,.rowE (oX L) 5),(1,.clo (.func 56) [] [.ptr 0 0]),(7,.i (oX L).length),(8,.i x.1.1)]) (fun x=>EO c x.1.2) (fun x=>L.length-x.1.1) ⟨(0,gs),bW _,h,rfl,rfl⟩ ⟨[0,1],rfl,(by repeat first|exact trivial|refine ⟨rfl,?_⟩),⟨.inr rfl,.inr rfl,trivial⟩,by decide,WF⟩ ?_
  rintro ⟨⟨k,g⟩,hk,hg,hok,hix⟩;dsimp only at hk hg hok hix ⊢;rw [hok,hix];by_cases hlt:k<L.length
  · have hgt:=NQ hlt;have hfc:=NP c g L[k] hc hg (hids _ (aM hlt));have hg2:=IG (s:=L[k]) hg hm0 hm1;rw [aY hlt,FS] at hok;rw [aY hlt,T2] at hix;rw [aY hlt,FS,T2];generalize L[k]=s at *;generalize eY c g s=R at *;obtain ⟨code,g'⟩:=R;dsimp only at *;by_cases h26:code=26
    · rw [decide_eq_true h26] at hfc;rw [if_pos h26,if_pos h26]
      (repeat' (first|refine wS ?_|refine wB ?_|refine wK ?_|refine wR ?_|refine wT ?_|(refine wC rfl ?_ ?_<;>(intro hb;(try simp only [nm] at hb);try (exfalso;omega)))|(refine rg 2 (vV (aL rfl rfl) ?_))|(refine rg 3 (mW rfl (aV ?_)))|(refine rg 4 (dI rfl (mW rfl (vV (ix T rfl (by omega) (vQ _) hgt) (lW T rfl (eC [0,1] rfl rfl (hfc) rfl rfl (by decide) ⟨.inr rfl,.inr rfl,trivial⟩ (by simp) rfl ?_))))))|(refine rg 5 (mW rfl (aV ?_)))|refine nZ ?_));all_goals try (exfalso;omega)
      all_goals exact ⟨.inl rfl,[0,1],_,rfl,rfl,rfl,⟨.inr rfl,.inr rfl,trivial⟩,by decide,WF⟩
    · rw [decide_eq_false h26] at hfc;rw [if_neg h26] at hok hix;rw [if_neg h26,if_neg h26];rw [← hok,← hix]
      (repeat' (first|refine wS ?_|refine wB ?_|refine wK ?_|refine wU ?_|(refine wC rfl ?_ ?_<;>(intro hb;(try simp only [nm] at hb);try (exfalso;omega)))|(refine rg 2 (vV (aL rfl rfl) ?_))|(refine rg 3 (mW rfl (aV ?_)))|(refine rg 4 (dI rfl (mW rfl (vV (ix T rfl (by omega) (vQ _) hgt) (lW T rfl (eC [0,1] rfl rfl (hfc) rfl rfl (by decide) ⟨.inr rfl,.inr rfl,trivial⟩ (by simp) rfl ?_))))))|(refine rg 6 (vV (cE rfl rfl (by omega) (by omega)) (mV ?_)))|refine nZ ?_));all_goals try (exfalso;omega)
      all_goals exact ⟨⟨(k+1,g'),hlt,hg2,hok,hix⟩,by dsimp only;omega,⟨[0,1],rfl,(by repeat first|exact trivial|refine ⟨rfl,?_⟩),⟨.inr rfl,.inr rfl,trivial⟩,by decide,WF⟩⟩
  · have e:L.drop k=[]:=dC (by omega)
    rw [e]
    (repeat' (first|refine wS ?_|refine wR ?_|refine wE ?_|(refine wC rfl ?_ ?_<;>(intro hb;(try simp only [nm] at hb);try (exfalso;omega)))|(refine rg 2 (vV (aL rfl rfl) ?_))|(refine rg 7 (aV ?_))|refine nZ ?_));all_goals try (exfalso;omega)
    all_goals exact ⟨.inl rfl,[0,1],_,rfl,rfl,rfl,⟨.inr rfl,.inr rfl,trivial⟩,by decide,WF⟩
theorem zE4 (c:Cx) (gs:List G) (L:List Ev) (hc:iL c) (h:pR c gs) (hl:L.length≤100000) (hids:∀ s,s∈L→s.ids.length≤9223372036854775807) :
    aT Tryz.prog 57 [.rowE (oX L) 5,.clo (.func 56) [] [.ptr 0 0]] (EO c gs) (.b (!vK c gs L)) (EO c (IH c gs L)):=by
  have hix:=zS1 c gs L hc h hl hids;have hok:=TP (c:=c) (L:=L) (gs:=gs) (k:=0);generalize IY c gs L 0=n at *;generalize IH c gs L=g' at *;rw [← hok];refine bU T Tryz.func57 rfl rfl rfl rfl ?_
  (repeat' (first|refine wS ?_|refine wR ?_|(refine rg 0 (aV ?_))|(refine rg 1 (dI rfl (eC [0,1] rfl rfl (hix) rfl rfl (by decide) ⟨.inr rfl,.inr rfl,trivial⟩ (by simp) rfl ?_));refine vV (iC rfl rfl) (aV ?_))|refine nZ ?_));all_goals exact ⟨.inl rfl,[0,1],_,rfl,rfl,rfl,⟨.inr rfl,.inr rfl,trivial⟩,by decide,WF⟩
theorem zE1 {c:Cx}{g':List G}{pp:Nat}{h:Hp}(h2:h[2]? = some (.cells [.ptr 1 0])):∀ H:Hp,(∀ (j:Nat) b,h[j]? = some b→b≠.gone→H[j]? = some b)→zZ H [2,1] ((EO c g').map (AB.map (pN [2,1] pp)))=H.set 1 (.cells (kI c g')):=fun H hb=>by
  have h1:=hb 2 _ h2 (by simp)
  obtain ⟨h3,h4⟩:=aB.1 h1;show (H.set 2 (.cells [.ptr 1 0])).set 1 (.cells (kI c g'))=_;rw [← h4,List.set_getElem_self]
theorem ZV (c:Cx) (t:Tr) (x:Sd) (i:Int) (hc:iL c) (h:kE c t) (hx:x∈t.sales) (hl:t.seen.length≤100000) (hids:∀ s,s∈t.seen→s.ids.length≤9223372036854775807) :
    aT Tryz.prog 37 [.pr (HY c t) 0,.agg (zO7 c x),.i i] [] (.b (H4 c t.seen x i)) []:=by
  obtain ⟨sb,sn,lk,ru⟩:=h.sd x hx;have hm0:=hc.s.1;have hm1:=hc.s.2.1;have hgl:x.gs.length≤12:=bG lk.gk.mid.out.len lk.gk.mid.out.ln;obtain ⟨gs,seen,sales,ord⟩:=t;obtain ⟨⟨xt,xo,xb,xn⟩,xg,xm⟩:=x;dsimp only at *;have hel:=sD seen;have hcp:=zV8 c xg (by omega)
  have hfc:=XC c xg xb i hc lk.gk;have hg2:=IG (s:=oU xb i) lk.gk hm0 hm1;have e0:H4 c seen ⟨⟨xt,xo,xb,xn⟩,xg,xm⟩ i=(!decide ((eY c xg (oU xb i)).1=26)&&vK c (eY c xg (oU xb i)).2 (seen.drop xm)):=rfl;rw [e0];clear e0;generalize eY c xg (oU xb i)=R at *;obtain ⟨code,g'⟩:=R;dsimp only at *;have hhas:=zE4 c g' (seen.drop xm) hc hg2 (by rw [dQ];omega) (fun s hs=>hids s (eA hs))
  refine bU T Tryz.func37 rfl rfl rfl rfl ?_
  (repeat' (first|refine wS ?_|(refine rg 0 (cC (cO rfl rfl) rfl (aV ?_)))|refine nZ ?_));refine fH 4 (cs:=zO7 c ⟨⟨xt,xo,xb,xn⟩,xg,xm⟩) rfl rfl rfl ?_
  (repeat' (first|refine wS ?_|(refine rg 1 (gI T rfl (cC (by exact fN rfl rfl hcp (.inr ⟨rfl,rfl,by simp⟩)) rfl ?_));refine cC (cM T rfl) rfl (bD T rfl rfl rfl rfl rfl rfl (by decide) rfl ?_))|(refine rg 2 (vV (by exact lG rfl rfl) ?_);refine aV ?_)|refine nZ ?_));by_cases h26:code=26
  · rw [decide_eq_true h26] at hfc ⊢
    (repeat' (first|refine wR ?_|(refine lZ (id:=3) 33 yX6 (rM 13 20) yX7 [(6,1)] cK rfl (by decide +kernel) (cH rfl rfl rfl rfl (by exact bR rfl) ?_);refine cH rfl rfl rfl rfl (by exact bI T rfl rfl rfl) ?_;refine cH rfl rfl rfl rfl (by exact bI T rfl rfl rfl) ?_;refine cH rfl rfl rfl rfl (by exact aK T rfl rfl rfl rfl) ?_;refine cH rfl rfl rfl rfl (by exact bR rfl) ?_;refine cH rfl rfl rfl rfl (by exact eO T rfl rfl rfl rfl) ?_;refine mR rfl rfl rfl rfl (aH rfl) (by exact rL [2,1] rfl rfl (qF hfc) (fun _=>rfl) rfl (by decide) (fun _=>⟨.inr rfl,.inr rfl,trivial⟩) (by simp) rfl (zE1 rfl) rfl rfl) ?_;refine cH rfl rfl rfl rfl (by exact eH rfl) ?_;refine cH rfl rfl rfl rfl (by exact bR rfl) ?_;refine wN rfl rfl rfl rfl rfl rfl ?_;refine wN rfl rfl rfl rfl rfl rfl ?_;refine wN rfl rfl rfl rfl rfl rfl ?_;refine wN rfl rfl rfl rfl rfl rfl ?_;refine wN rfl rfl rfl rfl rfl rfl ?_;refine wN rfl rfl rfl rfl rfl rfl ?_;refine wN rfl rfl rfl rfl rfl rfl ?_;refine wN rfl rfl rfl rfl rfl rfl ?_;refine wN rfl rfl rfl rfl rfl rfl ?_;refine wN rfl rfl rfl rfl rfl rfl ?_;refine cH rfl rfl rfl rfl (by exact gJ rfl rfl) ?_;refine pU rfl rfl rfl (by exact rfl) ?_;refine aV ?_)|refine nZ ?_));all_goals first | (exfalso;omega) | exact rQ
  · rw [decide_eq_false h26] at hfc ⊢;have hd:oX (seen.drop xm)=(oX seen).drop xm:=by unfold oX;rw [yP4]
    rw [hd] at hhas;generalize vK c g' (seen.drop xm)=ok at *;generalize IH c g' (seen.drop xm)=g2 at *
    (repeat' (first|refine wR ?_|(refine lZ (id:=3) 33 yX6 (rM 13 20) yX7 [(6,1),(17,1)] cK rfl (by decide +kernel) (cH rfl rfl rfl rfl (by exact bR rfl) ?_);refine cH rfl rfl rfl rfl (by exact bI T rfl rfl rfl) ?_;refine cH rfl rfl rfl rfl (by exact bI T rfl rfl rfl) ?_;refine cH rfl rfl rfl rfl (by exact aK T rfl rfl rfl rfl) ?_;refine cH rfl rfl rfl rfl (by exact bR rfl) ?_;refine cH rfl rfl rfl rfl (by exact eO T rfl rfl rfl rfl) ?_;refine mR rfl rfl rfl rfl (aH rfl) (by exact rL [2,1] rfl rfl (qF hfc) (fun _=>rfl) rfl (by decide) (fun _=>⟨.inr rfl,.inr rfl,trivial⟩) (by simp) rfl (zE1 rfl) rfl rfl) ?_;refine cH rfl rfl rfl rfl (by exact eH rfl) ?_;refine cH rfl rfl rfl rfl (by exact bR rfl) ?_;refine zD rfl rfl rfl rfl rfl rfl (by exact bR rfl) ?_;refine zD rfl rfl rfl rfl rfl rfl (by exact cN rfl rfl) ?_;refine zD rfl rfl rfl rfl rfl rfl (by exact bI T rfl rfl rfl) ?_;refine zD rfl rfl rfl rfl rfl rfl (by exact aK T rfl rfl rfl rfl) ?_;refine zD rfl rfl rfl rfl rfl rfl (by exact bI T rfl rfl rfl) ?_;refine zD rfl rfl rfl rfl rfl rfl (by exact aK T rfl rfl rfl rfl) ?_;refine zD rfl rfl rfl rfl rfl rfl (by exact EN T rfl rfl rfl rfl rfl (by dsimp only;omega) (vQ _)) ?_;refine zD rfl rfl rfl rfl rfl rfl (by exact bR rfl) ?_;refine zV0 rfl rfl rfl rfl (aH rfl) rfl rfl (by exact rL [2,1] rfl rfl (qF hhas) (fun _=>rfl) rfl (by decide) (fun _=>⟨.inr rfl,.inr rfl,trivial⟩) (by simp) rfl (zE1 rfl) rfl rfl) ?_;refine zD rfl rfl rfl rfl rfl rfl (by exact eH rfl) ?_;refine cH rfl rfl rfl rfl (by exact gG rfl rfl) ?_;refine pU rfl rfl rfl (by exact rfl) ?_;refine aV ?_)|refine nZ ?_));all_goals try (exfalso;omega)
    all_goals refine dJ (.inl rfl) rfl (nM ?_)
    all_goals simp
theorem yC9 (c:Cx) (t:Tr) (x:Sd) (i:Int) (hc:iL c) (h:kE c t) (hx:x∈t.sales) (hl:t.seen.length≤100000) (hids:∀ s,s∈t.seen→s.ids.length≤9223372036854775807) :
    aT Tryz.prog 36 [.i i,.pr [.pr (HY c t) 0] 0,.pr (zO7 c x) 0] [] (.b (!H4 c t.seen x i)) []:=by
  have hp:=ZV c t x i hc h hx hl hids;generalize H4 c t.seen x i=v at *;refine bU T Tryz.func36 rfl rfl rfl rfl ?_
  (repeat' (first|refine wS ?_|refine wR ?_|(refine rg 0 (aV ?_))|(refine rg 1 (lW T rfl (lW T rfl (mW rfl (vV (kC (hp)) (vV (eH rfl) (aV ?_)))))))|refine nZ ?_));all_goals first | (exfalso;omega) | exact rQ
theorem zO6 (c:Cx) (l:List Sd):AV.plnL (tE c l).flatten=true:=pG (fun _=>rfl) l
theorem UC (l:List Ev):AV.plnL (oX l).flatten=true:=pG (fun _=>rfl) l
theorem zW6 (l:List Bool):AV.plnL (A5 l).flatten=true:=pG (fun _=>rfl) l
theorem TS (c:Cx) (t:Tr) (k:Nat){x:Sd}(hc:iL c) (h:kE c t) (hk:t.sales[k]? = some x) (hl:t.seen.length≤100000) (hids:∀ s,s∈t.seen→s.ids.length≤9223372036854775807) :
    aT Tryz.prog 13 [.pr (HY c t) 0,.i (k:Int)] [] (.sl 0 0 (lD c t.seen x).length 1) [.arr (ints (lD c t.seen x)) 1]:=by
  have hx:=aO hk;have hkl:k<t.sales.length:=(aB.1 hk).1;obtain ⟨sb,sn,lk,ru⟩:=h.sd x hx;obtain ⟨g,hg,hgm,hbg⟩:=T3 (lk.gk.mid.find sb);have hp:=yB4 c x.gs x.s.b lk.gk hg;have hpl:=M2 (g:=g) (i:=g.1.idxOf x.s.b);have hwl:=lk.gk.mid.wl g hgm;have e:B4 x=vI g (g.1.idxOf x.s.b):=by unfold B4;rw [hg]
  rw [← e] at hp hpl;have hb:=fun i (_:i∈B4 x)=>yC9 c t x i hc h hx hl hids;have hd:=HB (F:=36) (caps:=[.pr [.pr (HY c t) 0] 0,.pr (zO7 c x) 0]) (q:=fun i=>!H4 c t.seen x i) (B4 x) (by omega) rfl rfl hb
  have ek:mL (fun i=>!H4 c t.seen x i) (B4 x)=lD c t.seen x:=by unfold lD mL;simp
  rw [ek] at hd;have qk:=BP (c:=c) (j:=(k:Int)) hk rfl;have hsl:=uM c t.sales;generalize lD c t.seen x=R at *;generalize B4 x=Q at *;clear hb ek;have hql:(ints Q).length=Q.length:=cY _;refine bU T Tryz.func13 rfl rfl rfl rfl ?_
  (repeat' (first|refine wS ?_|(refine rg 0 (cC (cO rfl rfl) rfl (aV ?_)))|refine nZ ?_));refine fH 2 (cs:=[.pr (HY c t) 0]) rfl rfl rfl ?_
  (repeat' (first|refine wS ?_|refine wK ?_|(refine wC rfl ?_ ?_<;>(intro hb;(try simp only [nm] at hb);try (exfalso;omega)))|(refine rg 1 (mW rfl (vV (aL rfl rfl) (mW rfl (yN rfl (yO T rfl (gT (nV ?_)))))));refine yP T rfl (yO T rfl (gT (qW T rfl (yV (iC rfl rfl) (pV ?_))))))|(refine rg 3 (lW T rfl (nV ?_));refine gI T rfl (mW rfl (vV (ix T rfl (by omega) (AH _ _) qk) (lW T rfl (cC (cM T rfl) rfl (bD T rfl rfl rfl rfl rfl rfl (by decide) rfl ?_))))))|refine nZ ?_));all_goals try (exfalso;omega)
  refine fH 5 (cs:=zO7 c x) rfl rfl rfl ?_
  (repeat' (first|refine wR ?_|(refine rg 4 (gI T rfl (fW T rfl (gI T rfl (cC (by exact fN rfl rfl hp (.inr ⟨rfl,rfl,by simp⟩)) rfl ?_))));refine vV (by exact lG rfl rfl) ?_;refine eC [2] rfl rfl hd rfl rfl (by decide) ⟨.inr (aC rfl (bB _ (bJ _)) (bJ _)),trivial⟩ (by simp) rfl ?_;refine aV ?_)|refine nZ ?_));all_goals try (exfalso;omega)
  all_goals exact ⟨.inl rfl,[2],_,rfl,rfl,rfl,⟨.inr (aC rfl (bB _ (bJ _)) (bJ _)),trivial⟩,by decide,jY _⟩
theorem zS5 (c:Cx) (t:Tr) (k:Nat){x:Sd}(hc:iL c) (h:kE c t) (hk:t.sales[k]? = some x) (hl:t.seen.length≤100000) (hids:∀ s,s∈t.seen→s.ids.length≤9223372036854775807) :
    aT Tryz.prog 13 [.pr (HY c t) 0,.i (k:Int)] [] (.rowE (ints (lD c t.seen x)) 1) []:=
  kL (cY _).symm (gV (bJ _)) (TS c t k hc h hk hl hids)
theorem zJ6 (c:Cx) (t:Tr) (k:Nat){x:Sd}(hc:iL c) (h:kE c t) (hk:t.sales[k]? = some x) (hl:t.seen.length≤100000) (hids:∀ s,s∈t.seen→s.ids.length≤9223372036854775807) :
    aT Tryz.prog 33 [.pr (HY c t) 0,.i (k:Int)] [] (.sl 0 0 (pO c (lD c t.seen x)).length 1) [.arr (ints (pO c (lD c t.seen x))) 1]:=by
  have hx:=aO hk;have hi:=zS5 c t k hc h hk hl hids;obtain ⟨sb,sn,lk,ru⟩:=h.sd x hx;obtain ⟨g,hg,hgm,hbg⟩:=T3 (lk.gk.mid.find sb);have hwl:=lk.gk.mid.wl g hgm;have hrg:∀ i,i∈lD c t.seen x→0≤i∧i<c.bs.length:=fun i hi=>(IJ h hx).1 i (dW.1 hi).1;have hrl:(lD c t.seen x).length≤1000:=by
    refine bG (fP _ _) ?_;unfold B4;rw [hg];exact bG (M2 (g:=g) (i:=g.1.idxOf x.s.b)) hwl
  clear hg hgm hbg hwl;generalize lD c t.seen x=l at *;have hbl:(cW c.bs).length=c.bs.length:=aX _;have hll:(ints l).length=l.length:=cY _;have hs1:=PM (l.map (yH c)) (by rw [aX];omega)
  have hs2:=HC (jD (l.map (yH c))) (by rw [(Go.Pm.sorted_perm _).length_eq,aX];omega)
  have e0:zR (jD (l.map (yH c)))=pO c l:=rfl;rw [e0] at hs2;have hsl:(jD (l.map (yH c))).length=l.length:=by rw [(Go.Pm.sorted_perm _).length_eq,aX]
  rw [hsl] at hs2;rw [aX] at hs1;refine bU T Tryz.func33 rfl rfl rfl rfl ?_
  (repeat' (first|refine wS ?_|(refine rg 0 (aV ?_))|refine nZ ?_));all_goals try (exfalso;omega)
  (repeat' (first|refine wS ?_|(refine rg 1 (vV (dK rfl) (nY 5 1 rfl (by decide) ?_)))|refine nZ ?_));all_goals try (exfalso;omega)
  (repeat' (first|refine wB ?_|(refine rg 2 (dI rfl (vV (kC (hi)) (qW T rfl (mV ?_)))))|refine nZ ?_));all_goals try (exfalso;omega)
  refine dA (X:={k:Nat // k≤l.length}) (fun k=>[(0,.pr (HY c t) 0),(5,.sl 0 0 k.1 1),(10,.rowE (ints l) 1),(11,.i (ints l).length),(12,.i k.1)]) (fun k=>[.arr (ints ((l.take k.1).map (yH c))) 1]) (fun k=>l.length-k.1) ⟨0,bW _⟩ ⟨[0],rfl,(by repeat first|exact trivial|refine ⟨rfl,?_⟩),⟨.inr rfl,trivial⟩,by decide,jY _⟩ ?_
  rintro ⟨j,hj⟩;dsimp only;by_cases hlt:j<l.length
  · have q:=mE (l:=l) (k:=j) hlt;obtain ⟨i0,i1⟩:=hrg _ (aM hlt);have e1:ints ((l.take (j+1)).map (yH c))=ints ((l.take j).map (yH c))++[[.i (yH c l[j])]]:=by rw [aP hlt,bT,ints,bT];rfl
    have hal:(ints ((l.take j).map (yH c))).length=j:=by rw [cY,aX,bH];omega
    have ii:=bJ ((l.take (j+1)).map (yH c));generalize l[j]=v at *;have hbx:=JE (l:=c.bs) (i:=v.toNat) (by omega)
    have qb:(cW c.bs)[v.toNat]? = some [.i (yH c v),.i (c.bs.getD v.toNat (0,0,0)).2.1,.i (c.bs.getD v.toNat (0,0,0)).2.2]:=by rw [bY,hbx];rfl
    generalize yH c v=lv at *;generalize ints ((l.take j).map (yH c))=A at *
    (repeat' (first|refine wS ?_|refine wB ?_|refine wK ?_|(refine wC rfl ?_ ?_<;>(intro hb;(try simp only [nm] at hb);try (exfalso;omega)))|(refine rg 3 (vV (aL rfl rfl) ?_))|(refine rg 4 (vV (ix T rfl (by omega) (dR _) q) (lW T rfl (aV ?_))))|(refine rg 5 (dI rfl (nV ?_));refine gI T rfl (mW rfl (vV (ix T rfl (by omega) (iS _) qb) (gI T rfl (cC (by exact bE T rfl rfl (by decide) (by decide) rfl rfl rfl) rfl ?_))));refine fS T rfl rfl rfl rfl rfl rfl (by omega) (iK.whole rfl rfl) rfl (by simp;omega) (by simp;omega) rfl ?_;refine aV ?_)|(refine rg 6 (vV (cE rfl rfl (by omega) (by omega)) (mV ?_)))|refine nZ ?_));all_goals try (exfalso;omega)
    all_goals exact ⟨⟨j+1,hlt⟩,by dsimp only;omega,⟨[2],rfl,(by repeat first|exact trivial|refine ⟨rfl,?_⟩),⟨.inr (aC rfl (by dsimp only;rw [e1];exact jF hal.symm) ii),trivial⟩,by decide,jY _⟩⟩
  · obtain rfl:j=l.length:=by omega
    rw [cQ]
    (repeat' (first|refine wS ?_|refine wR ?_|refine wE ?_|(refine wC rfl ?_ ?_<;>(intro hb;(try simp only [nm] at hb);try (exfalso;omega)))|(refine rg 3 (vV (aL rfl rfl) ?_))|(refine rg 7 (mW rfl (eC [0] rfl rfl (hs1) rfl rfl (by decide) ⟨.inr (by exact aC rfl rfl (bJ _)),trivial⟩ (by simp) rfl ?_)))|(refine rg 8 (mW rfl (eC [0] rfl rfl (hs2) rfl rfl (by decide) ⟨.inr (by exact aC rfl (bB _ (bJ _)) (bJ _)),trivial⟩ (by simp) rfl ?_));refine aV ?_)|refine nZ ?_));all_goals try (exfalso;omega)
    exact ⟨.inl rfl,[0],_,rfl,rfl,rfl,⟨.inr (by first|exact aC rfl rfl (bJ _)|exact aC rfl (bB _ (bJ _)) (bJ _)),trivial⟩,by decide,jY _⟩
theorem zR1 (a:Int):aT Tryz.prog 38 [.i a] [] (.b (decide (a<0))) []:=by
  refine bU T Tryz.func38 rfl rfl rfl rfl ?_
  (repeat' (first|refine wS ?_|refine wR ?_|(refine rg 0 (aV ?_))|(refine rg 1 (mW rfl (vV (aL rfl rfl) (aV ?_))))|refine nZ ?_));all_goals first | (exfalso;omega) | exact rQ
section
variable {c:Cx}{t:Tr}{k:Nat}{x:Sd}
theorem DU (h:kE c t) (hk:t.sales[k]? = some x):(pO c (lD c t.seen x)).length≤1000:=by
  have hx:=aO hk;obtain ⟨sb,sn,lk,ru⟩:=h.sd x hx;obtain ⟨g,hg,hgm,hbg⟩:=T3 (lk.gk.mid.find sb);have hwl:=lk.gk.mid.wl g hgm;refine bG (zJ8 _ _) (bG (fP _ _) ?_);unfold B4;rw [hg];exact bG (M2 (g:=g) (i:=g.1.idxOf x.s.b)) hwl
theorem MV (hc:iL c) (h:kE c t) (hk:t.sales[k]? = some x) (hl:t.seen.length≤100000) (hids:∀ s,s∈t.seen→s.ids.length≤9223372036854775807) :
    aT Tryz.prog 14 [.pr (HY c t) 0,.i (k:Int)] [] (.sl 0 0 (sX (pO c (lD c t.seen x))).length 1) [.arr (ints (sX (pO c (lD c t.seen x)))) 1]:=by
  have ha:=zJ6 c t k hc h hk hl hids;have hal:=DU h hk;generalize pO c (lD c t.seen x)=A at *;have hd:=HB (F:=38) (caps:=[]) (q:=fun a=>decide (a<0)) A (by omega) rfl rfl (fun a _=>zR1 a)
  have ek:mL (fun a=>decide (a<0)) A=sX A:=rfl;rw [ek] at hd;generalize sX A=B at *;clear ek;refine bU T Tryz.func14 rfl rfl rfl rfl ?_
  (repeat' (first|refine wS ?_|refine wR ?_|(refine rg 0 (aV ?_))|(refine rg 1 (dI rfl (cC (by exact fN rfl rfl ha (.inr ⟨rfl,rfl,by simp⟩)) rfl ?_));refine eC [0] rfl rfl hd rfl rfl (by decide) ⟨.inr (aC rfl (bB _ (bJ _)) (bJ _)),trivial⟩ (by simp) rfl ?_;refine aV ?_)|refine nZ ?_));all_goals try (exfalso;omega)
  all_goals exact ⟨.inl rfl,[0],_,rfl,rfl,rfl,⟨.inr (aC rfl (bB _ (bJ _)) (bJ _)),trivial⟩,by decide,jY _⟩
theorem zC3 (hc:iL c) (h:kE c t) (hk:t.sales[k]? = some x) (hl:t.seen.length≤100000) (hids:∀ s,s∈t.seen→s.ids.length≤9223372036854775807) :
    aT Tryz.prog 14 [.pr (HY c t) 0,.i (k:Int)] [] (.rowE (ints (sX (pO c (lD c t.seen x)))) 1) []:=
  kL (cY _).symm (gV (bJ _)) (MV hc h hk hl hids)
theorem yF8 (hc:iL c) (h:kE c t) (hk:t.sales[k]? = some x) (hl:t.seen.length≤100000) (hids:∀ s,s∈t.seen→s.ids.length≤9223372036854775807) :
    aT Tryz.prog 33 [.pr (HY c t) 0,.i (k:Int)] [] (.rowE (ints (pO c (lD c t.seen x))) 1) []:=
  kL (cY _).symm (gV (bJ _)) (zJ6 c t k hc h hk hl hids)
theorem YQ (hc:iL c) (h:kE c t) (hk:t.sales[k]? = some x) (hl:t.seen.length≤100000) (hids:∀ s,s∈t.seen→s.ids.length≤9223372036854775807) :
    aT Tryz.prog 12 [.pr (HY c t) 0,.i (k:Int)] [] (.tup [.i (H1 (pO c (lD c t.seen x))).1,.b (H1 (pO c (lD c t.seen x))).2]) []:=by
  have ha:=yF8 hc h hk hl hids;have hal:=DU h hk;generalize pO c (lD c t.seen x)=A at *;have hll:(ints A).length=A.length:=cY _;unfold H1;by_cases h1:A.length=1
  · have q:(ints A)[(0:Int).toNat]? = some [AV.i (A.getD 0 0)]:=sK (l:=A) (j:=0) (i:=0) 0 (by omega) rfl
    generalize A.getD 0 0=a at *;by_cases h2:0≤a
    · rw [if_pos ⟨h1,h2⟩];refine bU T Tryz.func12 rfl rfl rfl rfl ?_
      (repeat' (first|refine wS ?_|refine wR ?_|(refine wC rfl ?_ ?_<;>(intro hb;(try simp only [nm] at hb);try (exfalso;omega)))|(refine rg 0 (sG ?_))|(refine rg 1 (dI rfl (vV (kC (ha)) (aV ?_))))|(refine rg 2 (mW rfl (qW T rfl (vV (lE rfl rfl (by omega)) (mW rfl (yN rfl (yV (ix T rfl (by omega) (dR _) q) (yO T rfl (yV (iC rfl rfl) (pV ?_))))))))))|(refine rg 3 (mW rfl (vV (ix T rfl (by omega) (dR _) q) (lW T rfl (sG ?_)))))|refine nZ ?_));all_goals first | (exfalso;omega) | exact rQ
    · rw [if_neg (fun q=>h2 q.2)];refine bU T Tryz.func12 rfl rfl rfl rfl ?_
      (repeat' (first|refine wS ?_|refine wK ?_|refine wR ?_|(refine wC rfl ?_ ?_<;>(intro hb;(try simp only [nm] at hb);try (exfalso;omega)))|(refine rg 0 (sG ?_))|(refine rg 1 (dI rfl (vV (kC (ha)) (aV ?_))))|(refine rg 2 (mW rfl (qW T rfl (vV (lE rfl rfl (by omega)) (mW rfl (yN rfl (yV (ix T rfl (by omega) (dR _) q) (yO T rfl (yV (iC rfl rfl) (pV ?_))))))))))|(refine rg 4 (sG ?_))|refine nZ ?_));all_goals first | (exfalso;omega) | exact rQ
  · rw [if_neg (fun q=>h1 q.1)];refine bU T Tryz.func12 rfl rfl rfl rfl ?_
    (repeat' (first|refine wS ?_|refine wK ?_|refine wR ?_|refine wU ?_|(refine rg 0 (sG ?_))|(refine rg 1 (dI rfl (vV (kC (ha)) (aV ?_))))|(refine rg 2 (mW rfl (qW T rfl (vV (iE rfl rfl (by omega)) (mV ?_))));(iterate 4 refine gF ?_);refine pV ?_)|(refine rg 4 (sG ?_))|refine nZ ?_));all_goals first | (exfalso;omega) | exact rQ
end
end Go.Proofs.YtmmmeebiobjnbaaGreat
