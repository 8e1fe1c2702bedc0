/-
  Texts of the logic and of the layer,in one module (part 8).
-/
import Derived.Test.YtmmkhmilpeodnaaGreatH7
set_option linter.unusedVariables false
set_option linter.unusedSimpArgs false
set_option linter.unnecessarySimpa false
namespace Go.Proofs.YtmmkhmilpeodnaaGreat
open Go Go.Ab
attribute [local irreducible] VC AW bX aT
set_option maxHeartbeats 4000000
end Go.Proofs.YtmmkhmilpeodnaaGreat
namespace Go.Ld
open Go.Ab Go.Proofs.YtmmkhmilpeodnaaGreat
theorem XY {c:Cx}{gs:List G}(h:kV c gs){g:G}(hg:g∈gs){i:Nat}(hi:i<g.1.length):∀ x,x∈mM g i→0≤x∧x<c.bs.length:=by
  intro x hx;obtain ⟨w,hw,rfl⟩:=AP.1 hx;obtain ⟨a,b,_⟩:=((h.mid.out.ok g hg).ws w hw).at hi;exact ⟨a,b⟩
theorem XZ {g:G}{i:Nat}:(mM g i).length≤g.2.length:=by
  unfold mM G7;refine bP (qG _ _) ?_;have:(jD (F0 g i)).length=(F0 g i).length:=(Go.Pm.sorted_perm _).length_eq;rw [this];unfold F0;rw [aF];exact bA _
theorem zT8 {l u n:Int}(hu:0<u):(l+u-1) / u≤n↔l≤n*u:=by
  have h:(l+u-1) / u<n+1↔l+u-1<(n+1)*u:=Int.ediv_lt_iff_lt_mul hu;rw [Int.add_mul] at h;omega
theorem zT7 {l u n:Int}(hu:0<u):n<l / u+1↔n*u≤l:=by
  have h:n≤l / u↔n*u≤l:=Int.le_ediv_iff_mul_le hu;omega
theorem nT {f t n:Int}:pT f t n=true↔f≤n∧n<t:=by unfold pT;simp
theorem BS {f t v:Int}(h0:0≤v) (h1:v≤20000):((yC f t).2=true∧pT (yC f t).1.1 (yC f t).1.2 v=true)↔f≤v∧v<t:=by
  unfold yC;dsimp only;rw [nT];rcases A8 f t with ⟨a,b,d,e⟩ | ⟨a,b,d,e⟩
  · rw [a,b,d];constructor
    · rintro ⟨_,_⟩;omega
    · intro _;exact ⟨rfl,by omega⟩
  · rw [a];constructor
    · rintro ⟨h,_⟩;cases h
    · intro _;omega
theorem zH0 {t u w e v:Int}(hf:0≤t∧t≤1099511627776∧0≤u∧u≤1099511627776∧0≤w∧w≤1099511627776∧0≤e∧e≤1099511627776) (h0:0≤v) (h1:v≤20000) :
    ((DE t u w e).2=true∧pT (DE t u w e).1.1 (DE t u w e).1.2 v=true)↔w-e≤t+v*u∧t+v*u≤w+e:=by
  have b1:0≤v*u:=Int.mul_nonneg h0 hf.2.2.1;unfold DE;rw [if_pos (show G5 t u w e=true by unfold G5;rw [decide_eq_true_eq];exact hf)]
  by_cases c1:w+e-t<0∨u=0∧0<w-e-t
  · rw [if_pos c1];constructor
    · rintro ⟨h,_⟩;cases h
    · rintro ⟨a,b⟩;rcases c1 with c1 | ⟨rfl,c1⟩ <;> omega
  · rw [if_neg c1];by_cases c2:u=0
    · rw [if_pos c2];dsimp only;rw [nT];subst c2;constructor
      · rintro ⟨_,_⟩;omega
      · rintro _;exact ⟨rfl,by omega⟩
    · rw [if_neg c2,BS h0 h1];have hu:0<u:=by omega
      have g1:zH1 t u w e≤v↔max (w-e-t) 0≤v*u:=zT8 hu;have g2:v<zT9 t u w e↔v*u≤w+e-t:=zT7 hu;omega
theorem SL {t u w e v:Int}{r:SP}(hf:0≤t∧t≤1099511627776∧0≤u∧u≤1099511627776∧0≤w∧w≤1099511627776∧0≤e∧e≤1099511627776) (h0:0≤v) (h1:v≤20000) :
    ((qX t u w e r).2=true∧pT (qX t u w e r).1.1 (qX t u w e r).1.2 v=true)↔pT r.1 r.2 v=true∧w-e≤t+v*u∧t+v*u≤w+e:=by
  have hw:=zH0 hf h0 h1;unfold qX;generalize DE t u w e=q at *;dsimp only;by_cases hq:q.2=true
  · rw [if_pos hq,BS h0 h1,← hw,nT,nT];constructor
    · intro h;exact ⟨by omega,hq,by omega⟩
    · rintro ⟨a,_,b⟩;omega
  · rw [if_neg hq,← hw];constructor
    · rintro ⟨a,_⟩;exact absurd a hq
    · rintro ⟨_,a,_⟩;exact absurd a hq
theorem RW {c:Cx}{s:Ev}{x:Int × SP}{v:Int}(hb:0≤(c.bs.getD x.1.toNat (0,0,0)).2.2∧(c.bs.getD x.1.toNat (0,0,0)).2.2≤1073741824)
    (hu:0≤nE c.ks c.ls (c.bs.getD x.1.toNat (0,0,0)).1∧nE c.ks c.ls (c.bs.getD x.1.toNat (0,0,0)).1≤1048576) (hs:nX c.m c.st c.er c.sl) (hn:s.k=1→0≤s.n∧s.n≤1099511627776) (h0:0≤v) (h1:v≤20000) (h2:s.k≠2) :
    ((sA c s x).2.2=true∧pT (sA c s x).1.2.1 (sA c s x).1.2.2 v=true)↔pT x.2.1 x.2.2 v=true∧VE c.st c.er c.sl x.1 v ((c.bs.getD x.1.toNat (0,0,0)).2.2+v*nE c.ks c.ls (c.bs.getD x.1.toNat (0,0,0)).1) s.k s.n s.ids=true:=by
  unfold nX at hs;unfold sA VE;by_cases k0:s.k=0
  · rw [if_pos k0,if_pos k0];by_cases hm:x.1∈s.ids
    · rw [if_pos hm,if_pos hm];dsimp only;exact And.comm
    · rw [if_neg hm,if_neg hm];dsimp only;rw [Int.sub_zero];exact And.comm
  rw [if_neg k0,if_neg k0];by_cases k1:s.k=1
  · rw [if_pos k1,if_pos k1];dsimp only;have hn:=hn k1;rw [SL (by omega) h0 h1]
    unfold fF;simp
  rw [if_neg k1,if_neg k1,if_neg h2,if_neg h2];by_cases k3:s.k=3
  · rw [if_pos k3,if_pos k3];dsimp only;rw [nT,nT,nT,decide_eq_true_eq];omega
  rw [if_neg k3,if_neg k3];by_cases k5:s.k=5
  · rw [if_pos k5,if_pos k5];dsimp only;rw [decide_eq_true_eq,decide_eq_true_eq];constructor
    · rintro ⟨a,b⟩;exact ⟨b,a.symm⟩
    · rintro ⟨a,b⟩;exact ⟨b.symm,a⟩
  · rw [if_neg k5,if_neg k5];exact And.comm
theorem MH {c:Cx}{s:Ev}{x:Int × SP}{v:Int}(hx:0≤x.2.1∧x.2.1<x.2.2∧x.2.2≤20001) (hs:nX c.m c.st c.er c.sl) (hn:0≤s.n∧s.n≤1099511627776) (h0:0≤v) (h1:v≤20000) (h2:s.k=2) :
    ((sA c s x).2.2=true∧pT (sA c s x).1.2.1 (sA c s x).1.2.2 v=true)↔∃ u d:Int,pT x.2.1 x.2.2 u=true∧s.n-c.sl≤u∧0≤d∧d≤u∧s.n-c.sl≤d∧d≤s.n+c.sl∧v=u-d:=by
  unfold nX at hs;unfold sA;rw [if_neg (by omega),if_neg (by omega),if_pos h2]
  dsimp only;unfold yX;rw [if_pos (by omega),BS h0 h1]
  simp only [nT];constructor
  · intro h;by_cases hc:v+max (s.n-c.sl) 0≤x.2.1
    · exact ⟨x.2.1,x.2.1-v,by omega,by omega,by omega,by omega,by omega,by omega,by omega⟩
    · exact ⟨v+max (s.n-c.sl) 0,max (s.n-c.sl) 0,by omega,by omega,by omega,by omega,by omega,by omega,by omega⟩
  · rintro ⟨u,d,a1,a2,a3,a4,a5,a6,rfl⟩;omega
theorem CD {c:Cx}{s:Ev}{x:Int × SP}(h:(sA c s x).2.2=true):(sA c s x).2.1=zT1 c.st x.1 s.k s.ids:=by
  unfold sA zT1 at *;by_cases k0:s.k=0
  · rw [if_pos k0] at h ⊢;rw [if_pos k0];by_cases hm:x.1∈s.ids
    · rw [if_pos hm] at h ⊢;simp only [if_pos hm];simp only [decide_eq_true_eq] at h;rw [if_neg (by omega)]
    · rw [if_neg hm] at h ⊢;simp only [if_neg hm];simp only [decide_eq_true_eq] at h;rw [if_neg (by omega)]
  · rw [if_neg k0,if_neg k0]
    repeat' split
    all_goals rfl
def wO (p:List Int) (s:Ev) (done:Int):List Int:=if s.k=4∧done=1 then (p.set s.a.toNat (p.getD s.b.toNat 0)).set s.b.toNat (p.getD s.a.toNat 0) else p
def uG (p q:List Int) (s:Ev) (done:Int):List Int:=if s.k=2 then q.set (p.getD s.a.toNat 0).toNat (q.getD (p.getD s.a.toNat 0).toNat 0-done) else q
def zG7 (c:Cx) (p q:List Int) (s:Ev):Bool:=
  VE c.st c.er c.sl (p.getD s.a.toNat 0) (q.getD (p.getD s.a.toNat 0).toNat 0) ((c.bs.getD (p.getD s.a.toNat 0).toNat (0,0,0)).2.2+q.getD (p.getD s.a.toNat 0).toNat 0*nE c.ks c.ls (c.bs.getD (p.getD s.a.toNat 0).toNat (0,0,0)).1) s.k s.n s.ids
def F2 (c:Cx) (p q:List Int) (s:Ev) (done:Int):Bool:=VA c.sl (q.getD (p.getD s.a.toNat 0).toNat 0) s.k s.n done
def xH (c:Cx) (p:List Int) (s:Ev):Int:=zT1 c.st (p.getD s.a.toNat 0) s.k s.ids
def zD (c:Cx) (p q:List Int) (f:As):Prop:=∀ b:Int,0≤b→b<c.bs.length→SH p q (f b) b
structure PQ (c:Cx) (p q:List Int):Prop where
  pl:p.length=c.bs.length
  ql:q.length=c.bs.length
  pp:p.Perm (nats (List.range c.bs.length))
  q0:∀ x,x∈q→0≤x∧x≤20000
theorem K2 {p:List Int}{n:Nat}(hl:p.length=n):Go.Pm.permB p=true↔p.Perm (nats (List.range n)):=by
  unfold Go.Pm.permB;rw [decide_eq_true_eq,hl];constructor
  · intro h;rw [← h];exact (Go.Pm.sorted_perm p).symm
  · intro h;refine List.Perm.eq_of_pairwise (le:=fun a b=>a≤b) (fun a b _ _ h1 h2=>Int.le_antisymm h1 h2) ?_ ?_ ((Go.Pm.sorted_perm p).trans h)
    · have:=CO (le:=fun x y:Int=>decide (x≤y)) (fun a b d h1 h2=>decide_eq_true (I7 (of_decide_eq_true h1) (of_decide_eq_true h2))) (fun a b=>by rw [uF,decide_eq_true_eq,decide_eq_true_eq];omega) p
      exact this.imp (fun h=>of_decide_eq_true h)
    · exact (qA (n:=n)).imp (fun h=>h) |>.map _ (fun a b h=>by omega)
theorem PQ.at {c:Cx}{p q:List Int}(h:PQ c p q){b:Int}(h0:0≤b) (h1:b<c.bs.length):0≤p.getD b.toNat 0∧p.getD b.toNat 0<c.bs.length:=by
  have hl:=h.pl;have hm:p.getD b.toNat 0∈p:=by rw [aC,aA (by omega)];exact aH _
  exact jE.1 (h.pp.mem_iff.1 hm)
theorem PQ.inj {c:Cx}{p q:List Int}(h:PQ c p q){a b:Int}(h0:0≤a) (h1:a<c.bs.length) (h2:0≤b) (h3:b<c.bs.length) (e:p.getD a.toNat 0=p.getD b.toNat 0):a=b:=by
  have hl:=h.pl;have nd:p.Nodup:=h.pp.nodup_iff.2 (uO _);rw [aC,aA (by omega),aC,aA (by omega)] at e
  have:=(zR5 nd).1 e;omega
theorem PQ.ct {c:Cx}{p q:List Int}(h:PQ c p q){x:Int}(h0:0≤x) (h1:x<c.bs.length):0≤q.getD x.toNat 0∧q.getD x.toNat 0≤20000:=by
  have hl:=h.ql;refine h.q0 _ ?_;rw [aC,aA (by omega)];exact aH _
theorem B4 {c:Cx}{p q:List Int}{s:Ev}{done:Int}(hk:s.k=2) (h:F2 c p q s done=true):0≤done∧done≤q.getD (p.getD s.a.toNat 0).toNat 0∧s.n-c.sl≤done∧done≤s.n+c.sl:=by
  unfold F2 VA fF at h;rw [if_pos hk] at h;simp only [aN,decide_eq_true_eq] at h;omega
theorem M9 {p:List Int}{s:Ev}{done:Int}:(wO p s done).length=p.length:=by unfold wO;split <;> simp
theorem zF1 {p q:List Int}{s:Ev}{done:Int}:(uG p q s done).length=q.length:=by unfold uG;split <;> simp
theorem DK {l:List Int}{i j:Nat}(hi:i<l.length) (hj:j<l.length) (hne:i≠j):((l.set i (l.getD j 0)).set j (l.getD i 0)).Perm l:=by
  have h:((l.set i (l.getD j 0)).set j (l.getD i 0)).Perm l:=List.perm_iff_count.2 fun x=>by
    have e1:l.getD i 0=l[i]:=by simp [List.getD,hi]
    have e2:l.getD j 0=l[j]:=by simp [List.getD,hj]
    rw [e1,e2,List.count_set (by simpa using hj),List.count_set hi,List.getElem_set_ne hne]
    have c1:l[i]∈l:=aH _;have c2:l[j]∈l:=aH _;have p1:=List.count_pos_iff.2 c1;have p2:=List.count_pos_iff.2 c2;by_cases a1:l[i]=x
    · by_cases a2:l[j]=x
      · rw [a1] at p1;simp [a1,a2];omega
      · rw [a1] at p1;simp [a1,a2];omega
    · by_cases a2:l[j]=x
      · simp [a1,a2]
      · simp [a1,a2]
  exact h
theorem PQ.aft {c:Cx}{p q:List Int}{s:Ev}{done:Int}(h:PQ c p q) (ha:0≤s.a∧s.a<c.bs.length) (hb:s.k=4→s.a<s.b∧s.b<c.bs.length) (hc:F2 c p q s done=true):PQ c (wO p s done) (uG p q s done) where
  pl:=by rw [M9];exact h.pl
  ql:=by rw [zF1];exact h.ql
  pp:=by
    refine List.Perm.trans ?_ h.pp;have hl:=h.pl;unfold wO;split
    · rename_i hk;have:=hb hk.1;exact DK (by omega) (by omega) (by omega)
    · exact .refl _
  q0:=fun x hx=>by
    unfold uG at hx;split at hx
    · rename_i hk;rcases gE hx with hx | rfl
      · exact h.q0 x hx
      · have:=B4 hk hc;obtain ⟨i0,i1⟩:=h.at ha.1 ha.2;have:=h.ct i0 i1;omega
    · exact h.q0 x hx
theorem xN {l:List Int}{i j:Nat}{x:Int}(hj:i<l.length):(l.set i x).getD j 0=if j=i then x else l.getD j 0:=fR hj
theorem qN.box {c:Cx}(h:qN c){x:Int}(h0:0≤x) (h1:x<c.bs.length):(0≤(c.bs.getD x.toNat (0,0,0)).2.2∧(c.bs.getD x.toNat (0,0,0)).2.2≤1073741824)∧(0≤nE c.ks c.ls (c.bs.getD x.toNat (0,0,0)).1∧nE c.ks c.ls (c.bs.getD x.toNat (0,0,0)).1≤1048576):=by
  have hx:x.toNat<c.bs.length:=by omega
  have hb:=h.f.b _ hx;have e:c.bs.getD x.toNat (0,0,0)=c.bs[x.toNat]:=by rw [aC,aA hx];rfl
  rw [e];exact ⟨by omega,zH5 h.f hb.2.1⟩
theorem TF {c:Cx}{p q:List Int}{f:As}{s:Ev}{done:Int}(hc:qN c) (h:PQ c p q) (hf:zD c p q f) (hS:∀ b:Int,0≤b→b<c.bs.length→IF (f b).2)
    (ha:0≤s.a∧s.a<c.bs.length) (hb:s.k=4→s.a<s.b∧s.b<c.bs.length) (hn:s.k=1∨s.k=2→0≤s.n∧s.n≤1099511627776) (hag:zG7 c p q s=true) (hcan:F2 c p q s done=true) :
    ∃ f',N2 c s f f' (xH c p s)∧zD c (wO p s done) (uG p q s done) f':=by
  have hpl:=h.pl;have hql:=h.ql;by_cases hsw:s.k=4∧done=1
  · refine ⟨IW f s.a s.b,.inr ⟨hsw.1,rfl,by unfold xH zT1;rw [if_neg (by omega)]⟩,fun b b0 b1=>?_⟩
    have hb:=hb hsw.1;have eq:uG p q s done=q:=by unfold uG;rw [if_neg (by omega)]
    rw [eq];have ep:(wO p s done).getD b.toNat 0=if b=s.a then p.getD s.b.toNat 0 else if b=s.b then p.getD s.a.toNat 0 else p.getD b.toNat 0:=by
      unfold wO;rw [if_pos hsw,xN (by simp;omega),xN (by omega)]
      by_cases e1:b=s.a
      · rw [if_pos e1,if_neg (by omega),if_pos (by omega)]
      · rw [if_neg e1];by_cases e2:b=s.b
        · rw [if_pos e2,if_pos (by omega)]
        · rw [if_neg e2,if_neg (by omega),if_neg (by omega)]
    have h1:=hf s.a ha.1 ha.2;have h2:=hf s.b (by omega) hb.2
    have h3:=hf b b0 b1;unfold SH IW at *;rw [ep];by_cases e1:b=s.a
    · rw [if_pos e1,if_pos e1];exact h2
    · rw [if_neg e1,if_neg e1];by_cases e2:b=s.b
      · rw [if_pos e2,if_pos e2];exact h1
      · rw [if_neg e2,if_neg e2];exact h3
  · have ep:wO p s done=p:=by unfold wO;rw [if_neg hsw]
    rw [ep];obtain ⟨i0,i1⟩:=h.at ha.1 ha.2;obtain ⟨q0,q1⟩:=h.ct i0 i1;obtain ⟨o1,o2⟩:=hf s.a ha.1 ha.2;obtain ⟨hbx,hu⟩:=hc.box i0 i1;have hsa:=hS s.a ha.1 ha.2;have key:(sA c s (f s.a)).2.2=true∧pT (sA c s (f s.a)).1.2.1 (sA c s (f s.a)).1.2.2 ((uG p q s done).getD (p.getD s.a.toNat 0).toNat 0)=true:=by
      by_cases k2:s.k=2
      · have hr:=B4 k2 hcan;have e:(uG p q s done).getD (p.getD s.a.toNat 0).toNat 0=q.getD (p.getD s.a.toNat 0).toNat 0-done:=by
          unfold uG;rw [if_pos k2,xN (by omega),if_pos rfl]
        rw [e];refine (MH ⟨hsa.1,hsa.2.1,hsa.2.2⟩ hc.s (hn (.inr k2)) (by omega) (by omega) k2).2 ⟨_,done,o2,?_,by omega,by omega,by omega,by omega,rfl⟩
        unfold zG7 VE at hag;rw [if_neg (by omega),if_neg (by omega),if_pos k2,decide_eq_true_eq] at hag
        exact hag
      · have e:uG p q s done=q:=by unfold uG;rw [if_neg k2]
        rw [e];have o1':(f s.a).1=p.getD s.a.toNat 0:=o1;refine (RW (by rw [o1'];exact hbx) (by rw [o1'];exact hu) hc.s (fun k=>hn (.inl k)) q0 q1 k2).2 ⟨o2,?_⟩
        rw [o1'];exact hag
    refine ⟨upd f s.a (sA c s (f s.a)).1,.inl ⟨key.1,rfl,?_⟩,fun b b0 b1=>?_⟩
    · rw [CD key.1,show (f s.a).1=p.getD s.a.toNat 0 from o1];rfl
    · have h3:=hf b b0 b1;unfold SH upd at *;by_cases e1:b=s.a
      · rw [if_pos e1,HP,e1];exact ⟨o1,key.2⟩
      · rw [if_neg e1];refine ⟨h3.1,?_⟩;have hne:(p.getD b.toNat 0).toNat≠(p.getD s.a.toNat 0).toNat:=fun e=>by
          obtain ⟨j0,j1⟩:=h.at b0 b1;exact e1 (h.inj b0 b1 ha.1 ha.2 (by omega))
        have e:(uG p q s done).getD (p.getD b.toNat 0).toNat 0=q.getD (p.getD b.toNat 0).toNat 0:=by
          unfold uG;split
          · rw [xN (by omega),if_neg hne]
          · rfl
        rw [e];exact h3.2
theorem TG {c:Cx}{p' q':List Int}{f f':As}{s:Ev}{d:Int}(hc:qN c) (h:PQ c p' q') (hst:N2 c s f f' d) (hf:zD c p' q' f') (hS:∀ b:Int,0≤b→b<c.bs.length→IF (f b).2)
    (ha:0≤s.a∧s.a<c.bs.length) (hb:s.k=4→s.a<s.b∧s.b<c.bs.length) (hn:s.k=1∨s.k=2→0≤s.n∧s.n≤1099511627776) :
    ∃ p q done,PQ c p q∧zD c p q f∧zG7 c p q s=true∧F2 c p q s done=true∧d=xH c p s∧p'=wO p s done∧q'=uG p q s done:=by
  have hpl:=h.pl;have hql:=h.ql;rcases hst with ⟨hok,rfl,rfl⟩ | ⟨hk,rfl,rfl⟩
  · obtain ⟨i0,i1⟩:=h.at ha.1 ha.2;obtain ⟨q0,q1⟩:=h.ct i0 i1;obtain ⟨hbx,hu⟩:=hc.box i0 i1;obtain ⟨o1,o2⟩:=hf s.a ha.1 ha.2;have hsa:=hS s.a ha.1 ha.2;unfold upd at o1 o2;rw [if_pos rfl] at o1 o2;rw [HP] at o1;have hm:(sA c s (f s.a)).2.1=xH c p' s:=by rw [CD hok,o1];rfl
    by_cases k2:s.k=2
    · obtain ⟨u,dn,a1,a2,a3,a4,a5,a6,a7⟩:=(MH ⟨hsa.1,hsa.2.1,hsa.2.2⟩ hc.s (hn (.inr k2)) q0 q1 k2).1 ⟨hok,o2⟩;have hu2:=nT.1 a1;have hgx:(q'.set (p'.getD s.a.toNat 0).toNat u).getD (p'.getD s.a.toNat 0).toNat 0=u:=by rw [xN (by omega),if_pos rfl]
      refine ⟨p',q'.set (p'.getD s.a.toNat 0).toNat u,dn,⟨hpl,by simpa using hql,h.pp,fun x hx=>?_⟩,fun b b0 b1=>?_,?_,?_,hm,?_,?_⟩
      · rcases gE hx with hx | rfl
        · exact h.q0 x hx
        · have:=hsa.2.2;have:=hsa.1;omega
      · have h3:=hf b b0 b1;unfold SH upd at *;by_cases e1:b=s.a
        · subst e1;rw [hgx];exact ⟨o1,a1⟩
        · rw [if_neg e1] at h3;refine ⟨h3.1,?_⟩;rw [xN (by omega),if_neg]
          · exact h3.2
          · intro e;obtain ⟨j0,j1⟩:=h.at b0 b1;exact e1 (h.inj b0 b1 ha.1 ha.2 (by omega))
      · unfold zG7 VE;rw [if_neg (by omega),if_neg (by omega),if_pos k2,hgx,decide_eq_true_eq];exact a2
      · unfold F2 VA fF;rw [if_pos k2,hgx];simp only [aN,decide_eq_true_eq];omega
      · unfold wO;rw [if_neg (by omega)]
      · unfold uG;rw [if_pos k2,hgx,List.set_set,← a7];exact (JF _ (by omega)).symm
    · have hx:=(RW (c:=c) (s:=s) (x:=f s.a) (by rw [o1];exact hbx) (by rw [o1];exact hu) hc.s (fun k=>hn (.inl k)) q0 q1 k2).1 ⟨hok,o2⟩
      refine ⟨p',q',0,h,fun b b0 b1=>?_,?_,?_,hm,?_,?_⟩
      · have h3:=hf b b0 b1;unfold SH upd at *;by_cases e1:b=s.a
        · subst e1;exact ⟨o1,hx.1⟩
        · rw [if_neg e1] at h3;exact h3
      · have:=hx.2;rw [o1] at this;exact this
      · unfold F2 VA;rw [if_neg k2];split <;> rfl
      · unfold wO;rw [if_neg (by omega)]
      · unfold uG;rw [if_neg k2]
  · have hb:=hb hk;have hag:∀ p q,zG7 c p q s=true:=fun p q=>by unfold zG7 VE;rw [if_neg (by omega),if_neg (by omega),if_neg (by omega),if_neg (by omega),if_neg (by omega)]
    have hp1:((p'.set s.a.toNat (p'.getD s.b.toNat 0)).set s.b.toNat (p'.getD s.a.toNat 0)).Perm p':=DK (by omega) (by omega) (by omega)
    have g:∀ b:Int,0≤b→b<c.bs.length→((p'.set s.a.toNat (p'.getD s.b.toNat 0)).set s.b.toNat (p'.getD s.a.toNat 0)).getD b.toNat 0=if b=s.a then p'.getD s.b.toNat 0 else if b=s.b then p'.getD s.a.toNat 0 else p'.getD b.toNat 0:=fun b b0 b1=>by
      rw [xN (by simp;omega),xN (by omega)]
      by_cases e1:b=s.a
      · rw [if_pos e1,if_neg (by omega),if_pos (by omega)]
      · rw [if_neg e1];by_cases e2:b=s.b
        · rw [if_pos e2,if_pos (by omega)]
        · rw [if_neg e2,if_neg (by omega),if_neg (by omega)]
    refine ⟨(p'.set s.a.toNat (p'.getD s.b.toNat 0)).set s.b.toNat (p'.getD s.a.toNat 0),q',1,⟨by simpa using hpl,hql,hp1.trans h.pp,h.q0⟩,fun b b0 b1=>?_,hag _ _,?_,?_,?_,?_⟩
    · have h1:=hf s.a ha.1 ha.2;have h2:=hf s.b (by omega) hb.2
      have h3:=hf b b0 b1;unfold SH IW at *;rw [g b b0 b1];rw [if_pos rfl] at h1;rw [if_neg (by omega),if_pos rfl] at h2
      by_cases e1:b=s.a
      · subst e1;rw [if_pos rfl];exact h2
      · rw [if_neg e1] at h3 ⊢;by_cases e2:b=s.b
        · subst e2;rw [if_pos rfl];exact h1
        · rw [if_neg e2] at h3 ⊢;exact h3
    · unfold F2 VA;rw [if_neg (by omega),if_pos hk];rfl
    · unfold xH zT1;rw [if_neg (by omega)]
    · unfold wO;rw [if_pos ⟨hk,rfl⟩,g s.a ha.1 ha.2,g s.b (by omega) hb.2,if_pos rfl,if_neg (by omega),if_pos rfl]
      refine gY (by simp) fun i h1 h2=>?_
      simp only [zR4];have ea:p'.getD s.a.toNat 0=p'[s.a.toNat]'(by omega):=by simp [List.getD,show s.a.toNat<p'.length by omega]
      have eb:p'.getD s.b.toNat 0=p'[s.b.toNat]'(by omega):=by simp [List.getD,show s.b.toNat<p'.length by omega]
      split
      · rename_i h;subst h;exact eb.symm▸rfl
      · split
        · rename_i h;subst h;exact ea.symm▸rfl
        · rfl
    · unfold uG;rw [if_neg (by omega)]
theorem L7 {bs:List Int}{w:W}{f:As}(h:lP bs w f){b:Int}(hb:b∈bs):gP w (bs.idxOf b)=(f b).1∧gC w (bs.idxOf b)=(f b).2:=by
  obtain ⟨hx,e⟩:=xL hb;have e1:=GS h hx;have e2:=GU h hx;rw [e] at e1 e2;exact ⟨e1,e2⟩
theorem FT {c:Cx}{M0:Int}{gs:List G}(h:mG c M0 gs){f:As}{M:Int}(hs:Sem gs f M){b:Int}(h0:0≤b) (h1:b<c.bs.length):IF (f b).2∧0≤(f b).1∧(f b).1<c.bs.length:=by
  obtain ⟨g,hg,hb⟩:=h.find ⟨h0,h1⟩;obtain ⟨w,hw,hf⟩:=D0 hs hg;obtain ⟨e1,e2⟩:=L7 hf hb;have hi:=iD hb;obtain ⟨a,d,e⟩:=((h.out.ok g hg).ws w hw).at hi;rw [e1] at a d;rw [e2] at e;exact ⟨e,a,d⟩
theorem QZ {c:Cx}{f:As}{M:Int}:∀ {l:List Nat},Sem (l.map (W4 c)) f M↔0≤M∧∀ i,i∈l→f (i:Int)=((i:Int),((c.bs.getD i (0,0,0)).2.1,(c.bs.getD i (0,0,0)).2.1+1))
  | []=>by simp [Sem]
  | i::l=>by
    have ih:=fun M=>QZ (c:=c) (f:=f) (M:=M) (l:=l);simp only [List.map_cons,Sem,ih];constructor
    · rintro ⟨m,⟨w,hw,hf,hm⟩,h0,h1⟩;obtain rfl:=aQ.1 hw;obtain ⟨f1,f2⟩:=hf;have f1:[(i:Int)]=[(f i).1]:=f1;have f2:[((c.bs.getD i (0,0,0)).2.1,(c.bs.getD i (0,0,0)).2.1+1)]=[(f i).2]:=f2;have hm:(0:Int)≤m:=hm;refine ⟨by omega,fun k hk=>?_⟩
      rcases bO.1 hk with rfl | hk
      · exact Prod.ext (List.cons.inj f1).1.symm (List.cons.inj f2).1.symm
      · exact h1 k hk
    · rintro ⟨h0,h1⟩;have hi:=h1 i aR;refine ⟨0,⟨_,aQ.2 rfl,⟨?_,?_⟩,dC _⟩,by omega,fun k hk=>h1 k (aM _ hk)⟩
      · show [(i:Int)]=[(f i).1];rw [hi]
      · show [_]=[(f i).2];rw [hi]
theorem QY {c:Cx}{f:As}{M:Int}:Sem (qL c) f M↔0≤M∧∀ b:Int,0≤b→b<c.bs.length→f b=(b,((c.bs.getD b.toNat (0,0,0)).2.1,(c.bs.getD b.toNat (0,0,0)).2.1+1)):=by
  rw [xG,QZ];constructor
  · rintro ⟨h0,h⟩;refine ⟨h0,fun b b0 b1=>?_⟩
    have:=h b.toNat (dD.2 (by omega))
    rwa [show ((b.toNat:Nat):Int)=b by omega] at this
  · rintro ⟨h0,h⟩;refine ⟨h0,fun i hi=>?_⟩
    have:=h i (by omega) (by have:=dD.1 hi;omega)
    rwa [bH] at this
theorem zB0 {n:Nat}:∀ {gs:List G},(gs.flatMap (·.1)).Nodup→(∀ g,g∈gs→wY n g)→(∀ g,g∈gs→g.2≠[])→∃ f,Sem gs f (kA gs)
  | [],_,_,_=>⟨fun _=>(0,(0,0)),by simp [Sem,kA]⟩
  | g::gs,nd,ok,ne=>by
    obtain ⟨f0,h0⟩:=zB0 (gs:=gs) (by rw [bJ] at nd;exact (cP.1 nd).2.1) (fun x hx=>ok x (aM _ hx)) (fun x hx=>ne x (aM _ hx))
    obtain ⟨w,hw,hm⟩:=tD (ne g aR);have og:=ok g aR;refine ⟨fun b=>if b∈g.1 then U9 g w b else f0 b,gM g,?_,?_⟩
    · refine (Q2 (f:=U9 g w) (fun b hb=>(if_pos hb).symm)).1 ⟨w,hw,uC og (og.ws w hw),by omega⟩
    · refine (tC (f:=f0) (fun x hx b hb=>?_)).1 (h0.mono (by simp [kA];omega))
      rw [bJ] at nd;rw [if_neg (fun q=>(cP.1 nd).2.2 b q b (oX hx hb) rfl)]
theorem zP0 {n:Nat}{gs:List G}(nd:(gs.flatMap (·.1)).Nodup) (ok:∀ g,g∈gs→wY n g) (ne:∀ g,g∈gs→g.2≠[]){g:G}(hg:g∈gs){w:W}(hw:w∈g.2):∃ f,lP g.1 w f∧Sem gs f (w.2.1+(kA gs-gM g)):=by
  obtain ⟨A,B,rfl⟩:=VK hg;have hp:(A++g::B).Perm (g::(A++B)):=iU;have nd':((g::(A++B)).flatMap (·.1)).Nodup:=(hp.flatMap_right _).nodup_iff.1 nd;have hs:kA (A++g::B)=gM g+kA (A++B):=by simp [kA];omega
  rw [bJ] at nd';obtain ⟨f0,h0⟩:=zB0 (gs:=A++B) (cP.1 nd').2.1 (fun x hx=>ok x (hp.mem_iff.2 (aM _ hx))) (fun x hx=>ne x (hp.mem_iff.2 (aM _ hx)));have og:=ok g hg;have hF:=uC og (og.ws w hw);have hc:∀ b,b∈g.1→U9 g w b=(fun b=>if b∈g.1 then U9 g w b else f0 b) b:=fun b hb=>(if_pos hb).symm
  refine ⟨fun b=>if b∈g.1 then U9 g w b else f0 b,?_,(oQ hp).2 ⟨w.2.1,?_,?_⟩⟩
  · unfold lP at hF ⊢;rw [← iG (f:=fun b=>(U9 g w b).1) (fun b hb=>by rw [hc b hb]),← iG (f:=fun b=>(U9 g w b).2) (fun b hb=>by rw [hc b hb])]
    exact hF
  · exact (Q2 hc).1 ⟨w,hw,hF,dC _⟩
  · refine (tC (f:=f0) (fun x hx b hb=>?_)).1 (h0.mono (by omega))
    rw [if_neg (fun q=>(cP.1 nd').2.2 b q b (oX hx hb) rfl)]
theorem G4 {α β:Type}(f g:α→List β):∀ l:List α,(∀ x,x∈l→(f x).Perm (g x))→(l.flatMap f).Perm (l.flatMap g)
  | [],_=>.refl _
  | x::l,h=>by
    rw [bJ,bJ];exact (h x aR).append (G4 f g l (fun y hy=>h y (aM _ hy)))
theorem KU {α β γ:Type}(f:β→γ) (g:α→List β):∀ l:List α,(l.flatMap g).map f=l.flatMap fun x=>(g x).map f
  | []=>rfl
  | x::l=>by rw [bJ,bJ,dW,KU f g l]
theorem zI9 {c:Cx}{M0:Int}{gs:List G}(h:mG c M0 gs){f:As}{M:Int}(hs:Sem gs f M):((nats (List.range c.bs.length)).map fun b=>(f b).1).Perm (nats (List.range c.bs.length)):=by
  refine ((h.cov.symm.map _).trans ?_).trans h.idn;rw [KU];refine G4 _ _ _ fun g hg=>?_
  obtain ⟨w,hw,hf⟩:=D0 hs hg;rw [← hf.1];exact (h.out.ok g hg).same w (gS g) hw (gR (h.ne g hg))
theorem K5 {n:Nat}{α:Type}(F:Int→α) (d:α){b:Int}(h0:0≤b) (h1:b<n):((nats (List.range n)).map F).getD b.toNat d=F b:=by
  rw [aC,aA (by simp;omega)]
  simp only [iV,uI,lM];rw [show ((b.toNat:Nat):Int)=b by omega]
theorem JX {c:Cx}{M0:Int}{gs:List G}(h:mG c M0 gs){f:As}{M:Int}(hs:Sem gs f M):∃ p q,PQ c p q∧zD c p q f:=by
  have hi:=zI9 h hs;have hnl:(nats (List.range c.bs.length)).length=c.bs.length:=by simp
  generalize hp:((nats (List.range c.bs.length)).map fun b=>(f b).1)=p at *;have hpl:p.length=c.bs.length:=by rw [hi.length_eq,hnl]
  have nd:p.Nodup:=hi.nodup_iff.2 (uO _);have hpg:∀ b:Int,0≤b→b<c.bs.length→p.getD b.toNat 0=(f b).1:=fun b h0 h1=>by rw [← hp];exact K5 _ _ h0 h1
  refine ⟨p,(nats (List.range c.bs.length)).map fun x=>if x∈p then (f (p.idxOf x)).2.1 else 0,⟨hpl,by simp,hi,fun y hy=>?_⟩,fun b h0 h1=>⟨(hpg b h0 h1).symm,?_⟩⟩
  · obtain ⟨x,hx,rfl⟩:=bE.1 hy;have hxm:=hi.mem_iff.2 hx;rw [if_pos hxm];have hlt:=iD hxm;have:=(FT h hs (b:=(p.idxOf x:Nat)) (by omega) (by omega)).1
    unfold IF at this;omega
  · have hr:=FT h hs h0 h1;rw [hpg b h0 h1,K5 _ _ hr.2.1 hr.2.2];have hb:b.toNat<p.length:=by omega
    have e:(f b).1=p[b.toNat]:=by rw [← hpg b h0 h1,aC,aA hb];rfl
    rw [if_pos (by rw [e];exact aH _),e,nd.idxOf_getElem,show ((b.toNat:Nat):Int)=b by omega,nT]
    have:=hr.1;unfold IF at this;omega
def lR (c:Cx) (gs:List G):Prop:=∀ g,g∈gs→∀ w,w∈g.2→w.2.1+(kA gs-gM g)≤c.m
theorem KX {g g':G}(h:g.2≠[]) (h1:∀ w,w∈g'.2→∃ v,v∈g.2∧v.2.1≤w.2.1) (h2:∀ w,w∈g.2→∃ v,v∈g'.2∧v.2.1≤w.2.1):gM g'=gM g:=by
  obtain ⟨w,hw,e⟩:=tD h;obtain ⟨v,hv,hvw⟩:=h2 w hw;have hne:g'.2≠[]:=fun q=>by rw [q] at hv;cases hv
  obtain ⟨w',hw',e'⟩:=tD hne;obtain ⟨v',hv',hvw'⟩:=h1 w' hw';have a:=tT hv;have b:=tT hv';omega
theorem NX {c:Cx}{N:List G}(hne:∀ g,g∈paid c N→g.2≠[]):kA (paid c N)=kA N∧∀ g,g∈N→gM (g.1,g.2.filter fun w=>decide (w.2.1+(kA N-gM g)≤c.m))=gM g:=by
  have key:∀ g,g∈N→gM (g.1,g.2.filter fun w=>decide (w.2.1+(kA N-gM g)≤c.m))=gM g:=fun g hg=>by
    have hn:=hne _ (bE.2 ⟨g,hg,rfl⟩);obtain ⟨w,hw⟩:=T2 _ hn;obtain ⟨hwg,hwm⟩:=iQ.1 hw;simp only [decide_eq_true_eq] at hwm;have hgn:g.2≠[]:=fun q=>by rw [q] at hwg;cases hwg
    have:=tT hwg;refine KX hgn (fun v hv=>⟨v,(iQ.1 hv).1,dC _⟩) fun v hv=>?_
    obtain ⟨u,hu,eu⟩:=tD hgn;exact ⟨u,iQ.2 ⟨hu,by simp only [decide_eq_true_eq];omega⟩,by have:=tT hv;omega⟩
  refine ⟨?_,key⟩;unfold kA;congr 1;unfold paid;rw [sK];exact iG fun g hg=>key g hg
theorem TQ {c:Cx}{N:List G}(hne:∀ g,g∈paid c N→g.2≠[]):lR c (paid c N):=by
  obtain ⟨e,k⟩:=NX hne;intro g hg w hw;rw [e];obtain ⟨x,hx,rfl⟩:=bE.1 hg;rw [k x hx];have:=(iQ.1 hw).2;simp only [decide_eq_true_eq] at this;exact this
theorem EL (g:G) (k:Nat):gM (nL g k)=0:=rfl
theorem OG {g:G}{k:Nat}(h:g.2≠[]):gM (jY g k)=gM g:=by
  refine KX h (fun w hw=>?_) fun w hw=>?_
  · obtain ⟨v,hv,rfl⟩:=bE.1 (pP hw);exact ⟨v,hv,dC _⟩
  · obtain ⟨v,hv,_,_,h3⟩:=xE (bE.2 ⟨w,hw,rfl⟩:(w.1.eraseIdx k,w.2.1,w.2.2.eraseIdx k)∈g.2.map fun w=>(w.1.eraseIdx k,w.2.1,w.2.2.eraseIdx k));exact ⟨v,hv,h3⟩
theorem sN (l:List G) (g:G):kA (g::l)=gM g+kA l:=by simp [kA]
theorem AU:∀ (m:Nat){g:G},g.2≠[]→kA (lY m g)=gM g∧∀ x,x∈lY m g→∀ w,w∈x.2→∃ v,v∈g.2∧w.2.1-gM x≤v.2.1-gM g
  | 0,g,h=>⟨by simp [lY,kA],fun x hx w hw=>by obtain rfl:=aQ.1 hx;exact ⟨w,hw,dC _⟩⟩
  | m+1,g,h=>by
    unfold lY;split
    · exact ⟨by simp [kA],fun x hx w hw=>by obtain rfl:=aQ.1 hx;exact ⟨w,hw,dC _⟩⟩
    · rename_i k hk;obtain ⟨i1,i2⟩:=AU m (QN (k:=k) h);have hl:=OG (k:=k) h;refine ⟨by rw [sN,i1,EL,hl];omega,fun x hx w hw=>?_⟩
      rcases bO.1 hx with rfl | hx
      · obtain rfl:=aQ.1 hw;obtain ⟨u,hu,e⟩:=tD h;exact ⟨u,hu,by rw [EL];show (0:Int)-0≤_;omega⟩
      · obtain ⟨v,hv,h3⟩:=i2 x hx w hw;obtain ⟨v',hv',rfl⟩:=bE.1 (pP hv);refine ⟨v',hv',?_⟩;rw [hl] at h3;exact h3
theorem SW {a b:List G}(h:a.Perm b):kA a=kA b:=by
  induction h with
  | nil=>rfl
  | cons x _ ih=>rw [sN,sN,ih]
  | swap x y l=>rw [sN,sN,sN,sN];omega
  | trans _ _ h1 h2=>rw [h1,h2]
theorem IY {F:G→List G}:∀ {l:List G},(∀ g,g∈l→kA (F g)=gM g)→kA (l.flatMap F)=kA l
  | [],_=>rfl
  | g::l,h=>by
    have a:=IY (l:=l) fun x hx=>h x (aM _ hx);have b:=h g aR;rw [bJ,sN,← b,← a];simp [kA]
theorem NW {c:Cx}{P:List G}(hp:lR c P) (hne:∀ g,g∈P→g.2≠[]):lR c (qP P):=by
  have hs:kA (qP P)=kA P:=by
    unfold qP;rw [SW (dS cG _)];exact IY fun g hg=>(AU _ (hne g hg)).1
  intro x hx w hw;rw [hs];unfold qP at hx;obtain ⟨g,hg,hxg⟩:=fI.1 ((dS cG _).mem_iff.1 hx);obtain ⟨v,hv,h3⟩:=(AU _ (hne g hg)).2 x hxg w hw;have:=hp g hg v hv;omega
theorem SR {c:Cx}{N:List G}(h:(uW c N).any (fun g=>g.2.isEmpty)=false):lR c (uW c N):=by
  have hne:∀ g,g∈paid c N→g.2≠[]:=fun g hg q=>by
    have:g∈uW c N:=by
      unfold uW qP;refine (dS cG _).mem_iff.2 (fI.2 ⟨g,hg,?_⟩);rw [KH q];exact aQ.2 rfl
    rw [oB] at h;have:=h g this;rw [List.isEmpty_iff.2 q] at this;exact this rfl
  unfold uW;exact NW (TQ hne) hne
theorem DO {c:Cx}{l all:List G}{s:Ev}(hl:lR c l):lR c (rK c l all s).2:=by
  unfold rK;dsimp only;split
  · exact hl
  · split
    · exact hl
    · split
      · exact hl
      · rename_i h;exact SR (qT.2 h)
theorem JL {c:Cx}{l:List G}{s:Ev}(hl:lR c l):lR c (lQ c l s).2:=by
  unfold lQ;split
  · split
    · split
      · exact hl
      · exact DO hl
    · exact DO hl
  · exact hl
theorem ZA {c:Cx}(hm:0≤c.m):lR c (qL c):=by
  have h0:∀ l:List Nat,kA (l.map (W4 c))=0:=fun l=>by
    induction l with
    | nil=>rfl
    | cons i l ih=>rw [List.map_cons,sN,ih];rfl
  intro g hg w hw;rw [xG,h0];rw [xG] at hg;obtain ⟨i,_,rfl⟩:=bE.1 hg;obtain rfl:=aQ.1 hw;show (0:Int)+(0-0)≤c.m;omega
theorem EC {c:Cx}{gs:List G}(h:kV c gs) (hp:lR c gs){g:G}(hg:g∈gs){w:W}(hw:w∈g.2):∃ f,lP g.1 w f∧Sem gs f c.m:=by
  obtain ⟨f,h1,h2⟩:=zP0 h.mid.out.nd h.mid.out.ok h.mid.ne hg hw;exact ⟨f,h1,h2.mono (hp g hg w hw)⟩
theorem DP {c:Cx}{gs:List G}(h:kV c gs) (hp:lR c gs) (hn:0<c.bs.length):∃ f,Sem gs f c.m:=by
  obtain ⟨g,hg,_⟩:=h.mid.find (b:=0) ⟨by omega,by omega⟩
  obtain ⟨w,hw⟩:=T2 _ (h.mid.ne g hg);obtain ⟨f,_,h2⟩:=EC h hp hg hw;exact ⟨f,h2⟩
def gW:List G→Nat
  | []=>1
  | g::l=>g.2.length*gW l
theorem D3:∀ a b:List G,gW (a++b)=gW a*gW b
  | [],b=>by simp [gW]
  | g::a,b=>by simp only [List.cons_append,gW,D3 a b,uD]
theorem pG {a b:List G}(h:a.Perm b):gW a=gW b:=by
  induction h with
  | nil=>rfl
  | cons x _ ih=>simp only [gW,ih]
  | swap x y l=>simp only [gW];rw [Nat.mul_left_comm]
  | trans _ _ h1 h2=>rw [h1,h2]
theorem P9:∀ {l:List G},(∀ g,g∈l→g.2≠[])→0<gW l
  | [],_=>MU
  | g::l,h=>Nat.mul_pos (eF.2 (h g aR)) (P9 fun x hx=>h x (aM _ hx))
theorem AN {F:G→List G}:∀ {l:List G},(∀ g,g∈l→gW (F g)≤g.2.length)→gW (l.flatMap F)≤gW l
  | [],_=>bA _
  | g::l,h=>by
    rw [bJ,D3];exact N4 (h g aR) (AN fun x hx=>h x (aM _ hx))
theorem DU {F:G→G}:∀ {l:List G},(∀ g,g∈l→(F g).2.length≤g.2.length)→gW (l.map F)≤gW l
  | [],_=>bA _
  | g::l,h=>N4 (h g aR) (DU fun x hx=>h x (aM _ hx))
theorem XK (g:G) (k:Nat):(jY g k).2.length≤g.2.length:=by
  show (gN _).length≤_;refine bP (rO _) ?_;rw [aF];exact bA _
theorem DX:∀ (m:Nat){g:G},gW (lY m g)≤g.2.length
  | 0,g=>by simp [lY,gW]
  | m+1,g=>by
    unfold lY;split
    · simp [gW]
    · rename_i k _;show 1*gW (lY m (jY g k))≤_;rw [V4];exact bP (DX m) (XK g k)
theorem SQ (c:Cx) (N:List G):gW (uW c N)≤gW N:=by
  unfold uW qP;rw [pG (dS cG _)];refine bP (AN fun g _=>DX _) (DU fun g _=>?_);exact qM _ _
def DG (s:Ev):Nat:=if s.k=4 then 2 else 1
theorem Y7 {α β:Type}(F:α→List β) (n:Nat):∀ l:List α,(∀ x,x∈l→(F x).length≤n)→(l.flatMap F).length≤l.length*n
  | [],_=>by simp
  | x::l,h=>by
    have a:=Y7 F n l fun y hy=>h y (aM _ hy);have b:=h x aR;rw [bJ,aJ,List.length_cons,eV];omega
theorem KP (c:Cx) (s:Ev) (g:G):(gN (lZ c s g)).length≤g.2.length*DG s:=by
  refine bP (rO _) ?_;unfold lZ;refine Y7 _ _ _ fun w _=>?_
  unfold DG;rw [aJ];split <;> split <;> simp
theorem WS {all:List G}{i:Nat}{g y:G}{k:Nat}(h:all[i]? = some g) (hy:y.2.length≤g.2.length*k):gW (all.set i y)≤gW all*k:=by
  obtain ⟨A,B,e1,e2⟩:=pN (y:=y) h;rw [e2,e1,D3,D3];simp only [gW];have:=fK (gW B) hy;have:=PL (gW A) this;rw [show gW A*(g.2.length*gW B)*k=gW A*(g.2.length*k*gW B) by rw [uD,uD,yK9 (gW B) k,uD]]
  exact this
theorem DN {c:Cx}{M0:Int}{l all:List G}{s:Ev}(h:zC c M0 all s) (hl:gW l≤gW all*DG s):gW (rK c l all s).2≤gW all*DG s:=by
  obtain ⟨i,g,hi,hg,hgm,hat,ha,hb⟩:=h.at;unfold rK;dsimp only;rw [hat,hi,bH];split
  · exact hl
  · split
    · exact hl
    · split
      · exact hl
      · exact bP (SQ c _) (WS hg (KP c s g))
theorem EO {gs all:List G}{a b:Int}{c:Cx}{M:Int}(h:mG c M gs) (ha:0≤a∧a<c.bs.length) (hb:0≤b∧b<c.bs.length) (e:join gs a b=some all):gW all=gW gs:=by
  obtain ⟨i,x,hi,hix,hax⟩:=jA (h.find ha);obtain ⟨k,y,hk,hky,hby⟩:=jA (h.find hb);unfold join at e;dsimp only at e;rw [hi,hk] at e;split at e
  · cases e;rfl
  · rename_i hik;have gi:lF gs ((i:Int)).toNat=x:=by unfold lF;rw [aC];show (gs[i]?).getD _=x;rw [hix];rfl
    have gk:lF gs ((k:Int)).toNat=y:=by unfold lF;rw [aC];show (gs[k]?).getD _=y;rw [hky];rfl
    rw [gi,gk] at e;split at e
    · cases e
    · cases e;have hj:=EP x y;generalize mU x y=J at *;rcases jO (show i≠k by omega) with hlt | hlt
      · obtain ⟨P,Q,R,e1,e2⟩:=mK J hlt hix hky;rw [show (min (i:Int) (k:Int)).toNat=i by omega,show (max (i:Int) (k:Int)).toNat=k by omega,e2,e1,pG zT,pG iU]
        simp only [gW,hj,uD]
      · obtain ⟨P,Q,R,e1,e2⟩:=mK J hlt hky hix;rw [show (min (i:Int) (k:Int)).toNat=k by omega,show (max (i:Int) (k:Int)).toNat=i by omega,e2,e1,pG zT,pG iU]
        simp only [gW,hj,uD,Nat.mul_left_comm]
theorem WX {c:Cx}{gs:List G}{s:Ev}(h:kV c gs) (hm0:0≤c.m) (hm1:c.m≤1048576):gW (lQ c gs s).2≤gW gs*DG s:=by
  have hn:=h.mid.n12;have hself:gW gs≤gW gs*DG s:=by unfold DG;split <;> omega
  unfold lQ;by_cases hr:gO c.bs.length s=true
  · rw [if_pos hr];obtain ⟨r1,r2,_⟩:=kK hr (by omega)
    by_cases hk:s.k=4
    · rw [if_pos hk];cases hj:join gs s.a s.b with
      | none=>exact hself
      | some all=>
        dsimp only;have hb:=r2 hk;have he:=EO h.mid r1 ⟨by omega,by omega⟩ hj
        have:=DN (l:=gs) (tQ h (by omega) hm0 hm1 hr hk hj) (by rw [he];exact hself)
        rwa [he] at this
    · rw [if_neg hk];exact DN (vP h (by omega) hm0 hr hk) hself
  · rw [if_neg hr];exact hself
theorem zU3 {l:List G}(ne:∀ g,g∈l→g.2≠[]){i k:Nat}{x y:G}(hik:i≠k) (hi:l[i]? = some x) (hk:l[k]? = some y):x.2.length*y.2.length≤gW l∧x.1.length+y.1.length≤(l.flatMap (·.1)).length:=by
  have key:∀ {i k:Nat} {x y:G},i<k→l[i]? = some x→l[k]? = some y→x.2.length*y.2.length≤gW l∧x.1.length+y.1.length≤(l.flatMap (·.1)).length:=fun {i k x y} hlt hi hk=>by
    obtain ⟨P,Q,R,e1,-⟩:=mK x hlt hi hk;have hp:l.Perm (x::y::(P++(Q++R))):=by rw [e1];exact zT
    have h0:=P9 (l:=P++(Q++R)) fun g hg=>ne g (hp.mem_iff.2 (aM _ (aM _ hg)));rw [pG hp,(hp.flatMap_right _).length_eq];constructor
    · simp only [gW];rw [← uD];exact CN _ h0
    · simp only [bJ,aJ];omega
  rcases jO hik with hlt | hlt
  · exact key hlt hi hk
  · have:=key hlt hk hi;rw [yK9];omega
theorem zW0 {l:List G}(ne:∀ g,g∈l→g.2≠[]){g:G}(hg:g∈l):g.2.length≤gW l:=by
  obtain ⟨A,B,rfl⟩:=VK hg;have h0:=P9 (l:=A++B) fun x hx=>ne x ((iU (a:=g)).mem_iff.2 (aM _ hx));rw [pG iU];exact CN _ h0
theorem DM {c:Cx}{M0:Int}{l all:List G}{s:Ev}(h:zC c M0 all s) (ne:∀ g,g∈all→g.2≠[]) (hr:2*gW all≤1000):(rK c l all s).1≠6:=by
  obtain ⟨i,g,hi,hg,hgm,hat,ha,hb⟩:=h.at;unfold rK;dsimp only;rw [hat,hi,bH];have h1:=KP c s g;have h2:=zW0 ne hgm;have h3:g.2.length*DG s≤2*g.2.length:=by unfold DG;split <;> omega
  split
  · simp
  · split
    · omega
    · split <;> simp
theorem WW {c:Cx}{gs:List G}{s:Ev}(h:kV c gs) (hm0:0≤c.m) (hm1:c.m≤1048576) (hn6:c.bs.length≤6) (hr:2*gW gs≤1000):(lQ c gs s).1≠6:=by
  have hn:=h.mid.n12;unfold lQ;by_cases hri:gO c.bs.length s=true
  · rw [if_pos hri];obtain ⟨r1,r2,_⟩:=kK hri (by omega)
    by_cases hk:s.k=4
    · rw [if_pos hk];have hb:=r2 hk;cases hj:join gs s.a s.b with
      | none=>
        exfalso;obtain ⟨i,x,hi,hix,hax⟩:=jA (h.mid.find r1);obtain ⟨k,y,hk,hky,hby⟩:=jA (h.mid.find (b:=s.b) ⟨by omega,by omega⟩)
        unfold join at hj;dsimp only at hj;rw [hi,hk] at hj;split at hj
        · cases hj
        · rename_i hik;have gi:lF gs ((i:Int)).toNat=x:=by unfold lF;rw [aC];show (gs[i]?).getD _=x;rw [hix];rfl
          have gk:lF gs ((k:Int)).toNat=y:=by unfold lF;rw [aC];show (gs[k]?).getD _=y;rw [hky];rfl
          rw [gi,gk] at hj;obtain ⟨t1,t2⟩:=zU3 h.mid.ne (show i≠k by omega) hix hky
          have hc:=h.mid.cov.length_eq;simp only [aF,zG4] at hc;split at hj
          · rename_i hbad;rcases hbad with hbad | hbad <;> omega
          · cases hj
      | some all=>
        dsimp only;have he:=EO h.mid r1 ⟨by omega,by omega⟩ hj
        have so:=tQ h (by omega) hm0 hm1 hri hk hj
        exact DM so so.mid.ne (by omega)
    · rw [if_neg hk];have so:=vP h (by omega) hm0 hri hk
      exact DM so so.mid.ne hr
  · rw [if_neg hri];simp
theorem YZ (c:Cx):gW (qL c)=1:=by
  rw [xG];generalize List.range c.bs.length=l
  induction l with
  | nil=>rfl
  | cons i l ih=>rw [List.map_cons];simp only [gW,ih];rfl
theorem JM (c:Cx) (gs:List G) (s:Ev):(lQ c gs s).1=0∨(lQ c gs s).1=1∧gO c.bs.length s=false∨(lQ c gs s).1=6∨(lQ c gs s).1=26:=by
  have h2:∀ all,(rK c gs all s).1=0∨(rK c gs all s).1=6∨(rK c gs all s).1=26:=fun all=>by
    unfold rK;dsimp only;split
    · simp
    · split
      · simp
      · split <;> simp
  unfold lQ;split
  · split
    · split
      · simp
      · rename_i all _;have:=h2 all;omega
    · have:=h2 gs;omega
  · rename_i h;exact .inr (.inl ⟨rfl,qT.2 h⟩)
theorem WV {c:Cx}{gs:List G}{s:Ev}(h:(lQ c gs s).1≠0):(lQ c gs s).2=gs:=by
  have h2:∀ all,(rK c gs all s).1≠0→(rK c gs all s).2=gs:=fun all h=>by
    unfold rK at h ⊢;dsimp only at h ⊢;split
    · rfl
    · rename_i h1;rw [if_neg h1] at h;split
      · rfl
      · rename_i h2;rw [if_neg h2] at h;split
        · rfl
        · rename_i h3;rw [if_neg h3] at h;exact absurd rfl h
  unfold lQ at h ⊢;split
  · rename_i h1;rw [if_pos h1] at h;split
    · rename_i h3;rw [if_pos h3] at h;cases hj:join gs s.a s.b with
      | none=>rfl
      | some all=>rw [hj] at h;exact h2 all h
    · rename_i h3;rw [if_neg h3] at h;exact h2 gs h
  · rfl
abbrev TR:=List Int × List BX × Int
def pY (bs:List BX):List Int:=bs.map (·.2.1)
theorem zB8 (bs:List BX):(pY bs).length=bs.length:=aF _
theorem HH (bs:List BX) (i:Nat):(pY bs).getD i 0=(bs.getD i (0,0,0)).2.1:=by
  unfold pY;rw [aC,aC,bZ];cases bs[i]? <;> rfl
structure vG (c:Cx) (ps:List Int) (bs:List BX):Prop where
  t:yK c.ks c.ls ps bs
  len:ps.length=c.bs.length
  same:∀ i,(bs.getD i (0,0,0)).1=(c.bs.getD i (0,0,0)).1∧(bs.getD i (0,0,0)).2.2=(c.bs.getD i (0,0,0)).2.2
theorem vG.pq {c:Cx}{ps:List Int}{bs:List BX}(h:vG c ps bs):PQ c ps (pY bs) where
  pl:=h.len
  ql:=by rw [zB8,← h.t.len,h.len]
  pp:=by
    refine (AT (nats (List.range c.bs.length)) ps (uO _) (fun x hx=>?_) (by simp [h.len])).symm
    obtain ⟨h0,h1⟩:=jE.1 hx;have:=h.t.p x.toNat (by rw [h.len];omega)
    rwa [show ((x.toNat:Nat):Int)=x by omega] at this
  q0:=fun x hx=>by
    obtain ⟨b,hb,rfl⟩:=bE.1 hx;obtain ⟨i,hi,rfl⟩:=mR hb;have:=h.t.b i hi;omega
theorem vG.fit {c:Cx}{ps:List Int}{bs:List BX}(hc:qN c) (h:vG c ps bs):yF7 c.ks c.ls ps bs where
  n1:=by have:=hc.f.n1;simp at this;rw [h.len];omega
  n8:=by have:=hc.f.n8;simp at this;rw [h.len];omega
  len:=h.t.len
  k10:=hc.f.k10
  l10:=hc.f.l10
  k:=hc.f.k
  l:=hc.f.l
  p := fun i hi=>by
    have:=h.pq.pp.mem_iff.1 (aH hi);rw [h.len];exact jE.1 this
  b:=h.t.b
def N1 (ps:List Int) (bs:List BX) (s:Ev) (done:Int):List BX:=
  if s.k=2 then bs.set (ps.getD s.a.toNat 0).toNat ((bs.getD (ps.getD s.a.toNat 0).toNat (0,0,0)).1,(bs.getD (ps.getD s.a.toNat 0).toNat (0,0,0)).2.1-done,(bs.getD (ps.getD s.a.toNat 0).toNat (0,0,0)).2.2) else bs
theorem E9 (ps:List Int) (bs:List BX) (s:Ev) (done:Int):pY (N1 ps bs s done)=uG ps (pY bs) s done:=by
  unfold N1 uG;split
  · rw [HH];unfold pY;rw [sJ]
  · rfl
theorem MN (ps:List Int) (bs:List BX) (s:Ev) (done:Int):(N1 ps bs s done).length=bs.length:=by
  unfold N1;split <;> simp
theorem vG.aft {c:Cx}{ps:List Int}{bs:List BX}{s:Ev}{done:Int}(h:vG c ps bs) (ha:0≤s.a∧s.a<c.bs.length) (hb:s.k=4→s.a<s.b∧s.b<c.bs.length) (hc:F2 c ps (pY bs) s done=true):vG c (wO ps s done) (N1 ps bs s done) where
  len:=by rw [M9];exact h.len
  same:=fun i=>by
    unfold N1;split
    · by_cases e:i=(ps.getD s.a.toNat 0).toNat
      · by_cases hl:(ps.getD s.a.toNat 0).toNat<bs.length
        · rw [fR hl,if_pos e,e];exact h.same _
        · rw [List.set_eq_of_length_le (by omega)];exact h.same i
      · by_cases hl:(ps.getD s.a.toNat 0).toNat<bs.length
        · rw [fR hl,if_neg e];exact h.same _
        · rw [List.set_eq_of_length_le (by omega)];exact h.same i
    · exact h.same i
  t := by
    have hp:=(h.pq.aft ha hb hc).pp;refine ⟨by rw [M9,MN];exact h.t.len,fun i hi=>?_,h.t.k,h.t.l,fun i hi=>?_⟩
    · rw [M9,h.len] at hi;exact hp.mem_iff.2 (jE.2 ⟨by omega,by omega⟩)
    · rw [MN] at hi;have h0:=h.t.b i hi;by_cases hk:s.k=2
      · have hr:=B4 hk hc;rw [HH] at hr;have e:N1 ps bs s done=bs.set (ps.getD s.a.toNat 0).toNat ((bs.getD (ps.getD s.a.toNat 0).toNat (0,0,0)).1,(bs.getD (ps.getD s.a.toNat 0).toNat (0,0,0)).2.1-done,(bs.getD (ps.getD s.a.toNat 0).toNat (0,0,0)).2.2):=if_pos hk;simp only [e];rw [zR4];split
        · rename_i hx;rw [hx] at hr ⊢;have eb:bs.getD i (0,0,0)=bs[i]:=by rw [aC,aA hi];rfl
          rw [eb] at hr ⊢;dsimp only;refine ⟨h0.1,h0.2.1,by omega,by omega,fun q=>?_,h0.2.2.2.2.2⟩
          have:=h0.2.2.2.2.1 q;omega
        · exact h0
      · have e:N1 ps bs s done=bs:=if_neg hk;simp only [e];exact h0
def J2:List TR→TR→List TR
  | [],x=>[x]
  | t::l,x=>if t.1=x.1∧t.2.1=x.2.1 then (if x.2.2<t.2.2 then x::l else t::l) else t::J2 l x
theorem DC:∀ {l:List TR}{x t:TR},t∈J2 l x→t∈l∨t=x
  | [],x,t,h=>.inr (aQ.1 h)
  | y::l,x,t,h=>by
    unfold J2 at h;split at h
    · split at h
      · rcases bO.1 h with rfl | h
        · exact .inr rfl
        · exact .inl (aM _ h)
      · exact .inl h
    · rcases bO.1 h with rfl | h
      · exact .inl aR
      · rcases DC h with h | h
        · exact .inl (aM _ h)
        · exact .inr h
def SI (l:List TR) (p:List Int) (bs:List BX) (M:Int):Prop:=∃ t,t∈l∧t.1=p∧t.2.1=bs∧t.2.2≤M
theorem DD:∀ {l:List TR}{x:TR}{p:List Int}{bs:List BX}{M:Int},SI (J2 l x) p bs M↔SI l p bs M∨(x.1=p∧x.2.1=bs∧x.2.2≤M)
  | [],x,p,bs,M=>by simp [J2,SI]
  | y::l,x,p,bs,M=>by
    have hc:∀ (z:TR) (l:List TR),SI (z::l) p bs M↔(z.1=p∧z.2.1=bs∧z.2.2≤M)∨SI l p bs M:=fun z l=>by unfold SI;simp
    unfold J2;split
    · rename_i he;split
      · rename_i hlt;rw [hc,hc];constructor
        · rintro (h | h)
          · exact .inr h
          · exact .inl (.inr h)
        · rintro ((⟨a,b,d⟩ | h) | h)
          · exact .inl ⟨he.1.symm.trans a,he.2.symm.trans b,by omega⟩
          · exact .inr h
          · exact .inl h
      · rename_i hlt;rw [hc];constructor
        · exact .inl
        · rintro (h | ⟨a,b,d⟩)
          · exact h
          · exact .inl ⟨he.1.trans a,he.2.trans b,by omega⟩
    · rw [hc,hc,DD];constructor
      · rintro (h | h | h)
        · exact .inl (.inl h)
        · exact .inl (.inr h)
        · exact .inr h
      · rintro ((h | h) | h)
        · exact .inl h
        · exact .inr (.inl h)
        · exact .inr (.inr h)
theorem EV:∀ {L l:List TR}{t:TR},t∈L.foldl J2 l→t∈l∨t∈L
  | [],l,t,h=>.inl h
  | x::L,l,t,h=>by
    rcases EV (L:=L) h with h | h
    · rcases DC h with h | h
      · exact .inl h
      · exact .inr (by rw [h];exact aR)
    · exact .inr (aM _ h)
theorem EW:∀ {L l:List TR}{p:List Int}{bs:List BX}{M:Int},SI (L.foldl J2 l) p bs M↔SI l p bs M∨SI L p bs M
  | [],l,p,bs,M=>by simp [SI]
  | x::L,l,p,bs,M=>by
    rw [qK,EW,DD];have hc:SI (x::L) p bs M↔(x.1=p∧x.2.1=bs∧x.2.2≤M)∨SI L p bs M:=by unfold SI;simp
    rw [hc,or_assoc]
def zR1 (c:Cx) (s:Ev) (t:TR) (done:Int):TR:=(wO t.1 s done,N1 t.1 t.2.1 s done,t.2.2+xH c t.1 s)
def ES (c:Cx) (s:Ev) (t:TR):Bool:=zG7 c t.1 (pY t.2.1) s&&decide (t.2.2+xH c t.1 s≤c.m)
def zA4 (c:Cx) (s:Ev) (t:TR) (k:Nat):List TR:=if ES c s t then ((List.range k).filter fun d=>F2 c t.1 (pY t.2.1) s (d:Nat)).map fun d=>zR1 c s t (d:Nat) else []
def S8 (c:Cx) (s:Ev) (all:List TR):List TR:=(all.flatMap fun t=>zA4 c s t 4).foldl J2 []
structure PM (c:Cx) (gs:List G) (all:List TR):Prop where
  ok:∀ t,t∈all→vG c t.1 t.2.1∧0≤t.2.2∧t.2.2≤c.m∧∀ x,x∈pY t.2.1→x≤3
  iff:∀ p q,PQ c p q→∀ M,M≤c.m→((∃ f,zD c p q f∧Sem gs f M)↔∃ t,t∈all∧t.1=p∧pY t.2.1=q∧t.2.2≤M)
theorem SC (st id k:Int) (ids:List Int):0≤zT1 st id k ids∧zT1 st id k ids≤1:=by
  unfold zT1;repeat' split
  all_goals omega
theorem zB1 {c:Cx}{gs:List G}(h:kV c gs){f:As}{M:Int}(hs:Sem gs f M):∀ b:Int,0≤b→b<c.bs.length→IF (f b).2:=fun b h0 h1=>(FT h.mid hs h0 h1).1
theorem K0 {c:Cx}{gs:List G}(h:kV c gs){s:Ev}(hr:gO c.bs.length s=true):(0≤s.a∧s.a<c.bs.length)∧(s.k=4→s.a<s.b∧s.b<c.bs.length)∧(s.k=1∨s.k=2∨s.k=3→0≤s.n∧s.n≤1099511627776):=by
  have hn:=h.mid.n12;obtain ⟨r1,r2,r3⟩:=kK hr (by omega)
  refine ⟨r1,fun k=>?_,fun k=>?_⟩
  · have:=r2 k;omega
  · unfold gO at hr;rw [aN] at hr;have hr:=hr.2;rw [if_neg (by omega),if_pos k,decide_eq_true_eq] at hr
    exact hr
theorem O7 {c:Cx}{gs:List G}{p q:List Int}{f:As}{s:Ev}{M done:Int}(hc:qN c) (h:kV c gs) (hr:gO c.bs.length s=true) (hp:PQ c p q) (hf:zD c p q f) (hs:Sem gs f M)
    (hag:zG7 c p q s=true) (hcan:F2 c p q s done=true) (hM:M+xH c p s≤c.m) :
    (lQ c gs s).1≠26∧((lQ c gs s).1=0→∃ f',zD c (wO p s done) (uG p q s done) f'∧Sem (lQ c gs s).2 f' (M+xH c p s)):=by
  obtain ⟨r1,r2,r3⟩:=K0 h hr;obtain ⟨m0,m1,_⟩:=hc.s;obtain ⟨f',st,ok⟩:=TF hc hp hf (zB1 h hs) r1 r2 (fun k=>r3 (by omega)) hag hcan
  have hse:=FV h m0 m1 hr (f':=f') hM;have hex:∃ f d,N2 c s f f' d∧Sem gs f (M+xH c p s-d):=⟨f,_,st,hs.mono (by omega)⟩
  exact ⟨fun q=>hse.2 q hex,fun q=>⟨f',ok,(hse.1 q).2 hex⟩⟩
theorem ET {c:Cx}{s:Ev}{t x:TR}{k:Nat}:x∈zA4 c s t k↔ES c s t=true∧∃ d:Nat,d<k∧F2 c t.1 (pY t.2.1) s d=true∧x=zR1 c s t d:=by
  unfold zA4;split
  · rename_i h;rw [bE];constructor
    · rintro ⟨d,hd,rfl⟩;obtain ⟨h1,h2⟩:=iQ.1 hd;exact ⟨h,d,dD.1 h1,h2,rfl⟩
    · rintro ⟨_,d,h1,h2,rfl⟩;exact ⟨d,iQ.2 ⟨dD.2 h1,h2⟩,rfl⟩
  · rename_i h;constructor
    · intro q;cases q
    · rintro ⟨q,_⟩;exact absurd q h
theorem S7 {c:Cx}{s:Ev}{all:List TR}{x:TR}(h:x∈S8 c s all):∃ t,t∈all∧ES c s t=true∧∃ d:Nat,d<4∧F2 c t.1 (pY t.2.1) s d=true∧x=zR1 c s t d:=by
  rcases EV h with h | h
  · cases h
  · obtain ⟨t,ht,hx⟩:=fI.1 h;exact ⟨t,ht,ET.1 hx⟩
theorem L3 {c:Cx}{s:Ev}{t:TR}:ES c s t=true↔zG7 c t.1 (pY t.2.1) s=true∧t.2.2+xH c t.1 s≤c.m:=by
  unfold ES;rw [aN,decide_eq_true_eq]
theorem PM.step {c:Cx}{gs:List G}{all:List TR}{s:Ev}(hc:qN c) (h:kV c gs) (hr:gO c.bs.length s=true) (e:PM c gs all) :
    ((lQ c gs s).1=0→PM c (lQ c gs s).2 (S8 c s all))∧((lQ c gs s).1=26→S8 c s all=[]):=by
  obtain ⟨r1,r2,r3⟩:=K0 h hr;obtain ⟨m0,m1,_⟩:=hc.s;have key:∀ t,t∈all→ES c s t=true→∀ d:Nat,F2 c t.1 (pY t.2.1) s d=true→∃ f,zD c t.1 (pY t.2.1) f∧Sem gs f t.2.2:=fun t ht hg d hd=>by
    obtain ⟨a,b,b',_⟩:=e.ok t ht;exact (e.iff t.1 (pY t.2.1) a.pq t.2.2 b').2 ⟨t,ht,rfl,rfl,dC _⟩
  constructor
  · intro h0;refine ⟨fun x hx=>?_,fun p q hpq M hM=>⟨?_,?_⟩⟩
    · obtain ⟨t,ht,hg,d,hd,hcan,rfl⟩:=S7 hx;obtain ⟨a,b,b',b3⟩:=e.ok t ht;obtain ⟨g1,g2⟩:=L3.1 hg;have:=(SC c.st (t.1.getD s.a.toNat 0) s.k s.ids).1;refine ⟨a.aft r1 r2 hcan,?_,g2,fun y hy=>?_⟩
      · show 0≤t.2.2+xH c t.1 s;unfold xH;omega
      · change y∈pY (N1 t.1 t.2.1 s d) at hy;rw [E9] at hy;unfold uG at hy;split at hy
        · rename_i hk;have hrg:=B4 hk hcan;rcases gE hy with hy | rfl
          · exact b3 y hy
          · obtain ⟨i0,i1⟩:=a.pq.at r1.1 r1.2;have:(pY t.2.1).getD (t.1.getD s.a.toNat 0).toNat 0∈pY t.2.1:=by
              have:=a.pq.ql;rw [aC,aA (by omega)];exact aH _
            have:=b3 _ this;omega
        · exact b3 y hy
    · rintro ⟨f',hf',hs'⟩;obtain ⟨f,d,st,hs⟩:=((FV h m0 m1 hr (f':=f') hM).1 h0).1 hs';obtain ⟨p0,q0,done,hpq0,hf0,hag,hcan,rfl,e1,e2⟩:=TG hc hpq st hf' (zB1 h hs) r1 r2 (fun k=>r3 (by omega))
      have hm:=(SC c.st (p0.getD s.a.toNat 0) s.k s.ids).1;obtain ⟨t,ht,rfl,rfl,htm⟩:=(e.iff p0 q0 hpq0 (M-xH c p0 s) (by unfold xH;omega)).1 ⟨f,hf0,hs⟩
      obtain ⟨a,b,b',b3⟩:=e.ok t ht;have hd:0≤done∧done<4:=by
        by_cases hk:s.k=2
        · have hrg:=B4 hk hcan;obtain ⟨i0,i1⟩:=a.pq.at r1.1 r1.2;have:(pY t.2.1).getD (t.1.getD s.a.toNat 0).toNat 0∈pY t.2.1:=by
            have:=a.pq.ql;rw [aC,aA (by omega)];exact aH _
          have:=b3 _ this;omega
        · unfold F2 VA at hcan;rw [if_neg hk] at hcan;split at hcan
          · rw [uF,decide_eq_true_eq,decide_eq_true_eq] at hcan;omega
          · rw [decide_eq_true_eq] at hcan;omega
      have hdn:((done.toNat:Nat):Int)=done:=by omega
      have hx:SI (S8 c s all) (wO t.1 s done) (N1 t.1 t.2.1 s done) M:=by
        refine EW.2 (.inr ⟨zR1 c s t (done.toNat:Nat),fI.2 ⟨t,ht,ET.2 ⟨L3.2 ⟨hag,by omega⟩,done.toNat,by omega,by rw [hdn];exact hcan,rfl⟩⟩,?_,?_,?_⟩)
        · rw [hdn];rfl
        · rw [hdn];rfl
        · show t.2.2+xH c t.1 s≤M;omega
      obtain ⟨x,hx1,hx2,hx3,hx4⟩:=hx;exact ⟨x,hx1,hx2.trans e1.symm,by rw [hx3,E9];exact e2.symm,hx4⟩
    · rintro ⟨x,hx,rfl,rfl,hxm⟩;obtain ⟨t,ht,hg,d,hd,hcan,rfl⟩:=S7 hx;obtain ⟨f,hf,hs⟩:=key t ht hg d hcan;obtain ⟨a,b,b',b3⟩:=e.ok t ht;obtain ⟨g1,g2⟩:=L3.1 hg;obtain ⟨f',ok,hs'⟩:=(O7 hc h hr a.pq hf hs g1 hcan g2).2 h0;refine ⟨f',?_,hs'.mono hxm⟩;show zD c (wO t.1 s d) (pY (N1 t.1 t.2.1 s d)) f';rw [E9];exact ok
  · intro h26;cases hn:S8 c s all with
    | nil=>rfl
    | cons x l=>
      exfalso;have hx:x∈S8 c s all:=by rw [hn];exact aR
      obtain ⟨t,ht,hg,d,hd,hcan,rfl⟩:=S7 hx;obtain ⟨f,hf,hs⟩:=key t ht hg d hcan;obtain ⟨a,b,b',b3⟩:=e.ok t ht;obtain ⟨g1,g2⟩:=L3.1 hg;exact (O7 hc h hr a.pq hf hs g1 hcan g2).1 h26
theorem PM.some {c:Cx}{gs:List G}{all:List TR}(hc:qN c) (h:kV c gs) (hp:lR c gs) (e:PM c gs all):all≠[]:=by
  have hn:=hc.f.n1;simp at hn;obtain ⟨f,hs⟩:=DP h hp (by omega)
  obtain ⟨p,q,hpq,hf⟩:=JX h.mid hs;obtain ⟨t,ht,_⟩:=(e.iff p q hpq c.m (dC _)).1 ⟨f,hf,hs⟩;exact fun q=>by rw [q] at ht;cases ht
def zE7 (all:List TR) (p q:List Int):Bool:=all.any fun t=>decide (t.1=p)&&decide (pY t.2.1=q)
theorem PM.among {c:Cx}{gs:List G}{all:List TR}{p q:List Int}(h:kV c gs) (e:PM c gs all) (hp:PQ c p q):zR0 c gs p q=zE7 all p q:=by
  rw [jP,HU h];unfold zE7;rw [gD];have hi:=e.iff p q hp c.m (dC _);constructor
  · rintro ⟨_,_,_,f,hf,hs⟩;obtain ⟨t,ht,e1,e2,_⟩:=hi.1 ⟨f,hf,hs⟩;exact ⟨t,ht,by rw [e1,e2];simp⟩
  · rintro ⟨t,ht,hx⟩;rw [aN,decide_eq_true_eq,decide_eq_true_eq] at hx;obtain ⟨f,hf,hs⟩:=hi.2 ⟨t,ht,hx.1,hx.2,(e.ok t ht).2.2.1⟩;exact ⟨hp.pl,by rw [hp.ql,hp.pl],(K2 hp.pl).2 hp.pp,f,hf,hs⟩
theorem YY {c:Cx}(hc:qN c):vG c (nats (List.range c.bs.length)) c.bs:=⟨IR hc,by simp,fun i=>⟨rfl,rfl⟩⟩
theorem GJ {n:Nat}{b:Int}(h0:0≤b) (h1:b<n):(nats (List.range n)).getD b.toNat 0=b:=by
  have:=K5 (n:=n) (fun x=>x) 0 h0 h1
  rwa [List.map_id'] at this
theorem zK9 {c:Cx}:∃ f,zD c (nats (List.range c.bs.length)) (pY c.bs) f∧Sem (qL c) f 0:=by
  refine ⟨fun b=>(b,((c.bs.getD b.toNat (0,0,0)).2.1,(c.bs.getD b.toNat (0,0,0)).2.1+1)),fun b h0 h1=>?_,QY.2 ⟨dC _,fun b h0 h1=>rfl⟩⟩
  unfold SH;rw [GJ h0 h1,HH];exact ⟨rfl,nT.2 ⟨dC _,by dsimp only;omega⟩⟩
end Go.Ld
namespace Go.Proofs.YtmmkhmilpeodnaaGreat
open Go Go.Ab Go.Ld
attribute [local irreducible] VC AW bX aT jU
set_option maxHeartbeats 4000000
end Go.Proofs.YtmmkhmilpeodnaaGreat
namespace Go.Ld
open Go.Ab Go.Proofs.YtmmkhmilpeodnaaGreat
structure CK (c:Cx) (gs:List G) (ps:List Int) (bs:List BX) (M:Int):Prop where
  gk:kV c gs
  re:vG c ps bs
  m0:0≤M
  m1:M≤c.m
  f:∃ f,zD c ps (pY bs) f∧Sem gs f M
theorem CK.new {c:Cx}(hc:qN c) (hn:c.bs.length≤12):CK c (qL c) (nats (List.range c.bs.length)) c.bs 0:=
  ⟨OD hc hn hc.s.1,YY hc,dC _,hc.s.1,zK9⟩
theorem CK.step {c:Cx}{gs:List G}{ps:List Int}{bs:List BX}{M done:Int}{s:Ev}(hc:qN c) (h:CK c gs ps bs M) (hr:gO c.bs.length s=true) (hag:zG7 c ps (pY bs) s=true) (hcan:F2 c ps (pY bs) s done=true) (hM:M+xH c ps s≤c.m) :
    (lQ c gs s).1=6∨(lQ c gs s).1=0∧CK c (lQ c gs s).2 (wO ps s done) (N1 ps bs s done) (M+xH c ps s)∧zR0 c (lQ c gs s).2 (wO ps s done) (pY (N1 ps bs s done))=true:=by
  obtain ⟨r1,r2,r3⟩:=K0 h.gk hr;obtain ⟨m0,m1,_⟩:=hc.s;obtain ⟨f,hf,hs⟩:=h.f;obtain ⟨t1,t2⟩:=O7 hc h.gk hr h.re.pq hf hs hag hcan hM;have hmis:=(SC c.st (ps.getD s.a.toNat 0) s.k s.ids).1;have hm0:=h.m0;have hre:=h.re.aft r1 r2 hcan;rcases JM c gs s with h0 | ⟨_,h0⟩ | h0 | h0
  · refine .inr ⟨h0,?_⟩;obtain ⟨f',ok,hs'⟩:=t2 h0;rw [← E9] at ok;have hg:=P4 (s:=s) h.gk m0 m1;refine ⟨⟨hg,hre,by unfold xH;omega,hM,f',ok,hs'⟩,?_⟩
    exact (HU hg).2 ⟨hre.pq.pl,by rw [hre.pq.ql,hre.pq.pl],(K2 hre.pq.pl).2 hre.pq.pp,f',ok,hs'.mono hM⟩
  · rw [h0] at hr;cases hr
  · exact .inl h0
  · exact absurd h0 t1
end Go.Ld
namespace Go.Proofs.YtmmkhmilpeodnaaGreat
open Go Go.Ab Go.Ld
attribute [local irreducible] VC AW bX aT jU
set_option maxHeartbeats 4000000
end Go.Proofs.YtmmkhmilpeodnaaGreat
namespace Go.Ab
open Go
end Go.Ab
namespace Go.Proofs.YtmmkhmilpeodnaaGreat
open Go Go.Ab Go.Ld
attribute [local irreducible] VC AW bX aT
def zJ (n:Int):Prop:=(Lit.int .i64 n).wf=true
theorem rP:iF Tryz.prog 3 zJ (fun n=>[AV.i n]):=iF.int Tryz.underlying3 (by kernel_rfl)
theorem zV9:iF Tryz.prog 4 (fun _=>True) (fun b=>[AV.b b]):=iF.bool Tryz.underlying4 (by kernel_rfl)
theorem YR:iF Tryz.prog 9 (fun s=>s.size≤maxLen) (fun s=>[.v (.string s)]):=iF.string Tryz.underlying9 (by kernel_rfl)
theorem GH:iF Tryz.prog 24 (fun l:List Int=>l.length≤maxLen∧∀ a,a∈l→zJ a) (fun l=>[.rowE (ints l) 1]):=
  iF.slice Tryz.underlying24 (by kernel_rfl) (by kernel_rfl) (by decide) rP
theorem zV8:iF Tryz.prog 74 (fun p:KD=>p.1.size≤maxLen∧zJ p.2) (fun p=>[AV.v (.string p.1),AV.i p.2]):=
  iF.struct (fs:=[(9,0),(3,1)]) (by kernel_rfl) (by kernel_rfl)
    (fun e W fuel css hl hx=>by
      obtain ⟨a,h1,h2,h3⟩:=iT.cons YR (iT.cons rP iT.nil) e W fuel css hl hx
      exact ⟨(a.1,a.2.1),⟨h1.1,h1.2.1⟩,by simpa using h2,by simpa using h3⟩)
    (fun _=>by kernel_rfl)
theorem yD2:iF Tryz.prog 77 (fun p:LT=>zJ p.1∧zJ p.2.1) (fun p=>[AV.i p.1,AV.i p.2.1,AV.b p.2.2]):=
  iF.struct (fs:=[(3,0),(3,1),(4,2)]) (by kernel_rfl) (by kernel_rfl)
    (fun e W fuel css hl hx=>by
      obtain ⟨a,h1,h2,h3⟩:=iT.cons rP (iT.cons rP (iT.cons zV9 iT.nil)) e W fuel css hl hx
      exact ⟨(a.1,a.2.1,a.2.2.1),⟨h1.1,h1.2.1⟩,by simpa using h2,by simpa using h3⟩)
    (fun _=>by kernel_rfl)
theorem yD3:iF Tryz.prog 54 (fun p:BX=>zJ p.1∧zJ p.2.1∧zJ p.2.2) (fun p=>[AV.i p.1,AV.i p.2.1,AV.i p.2.2]):=
  iF.struct (fs:=[(3,0),(3,1),(3,2)]) (by kernel_rfl) (by kernel_rfl)
    (fun e W fuel css hl hx=>by
      obtain ⟨a,h1,h2,h3⟩:=iT.cons rP (iT.cons rP (iT.cons rP iT.nil)) e W fuel css hl hx
      exact ⟨(a.1,a.2.1,a.2.2.1),⟨h1.1,h1.2.1,h1.2.2.1⟩,by simpa using h2,by simpa using h3⟩)
    (fun _=>by kernel_rfl)
theorem zK7:iF Tryz.prog 22 (fun l:List KD=>l.length≤maxLen∧∀ a,a∈l→a.1.size≤maxLen∧zJ a.2) (fun l=>[.rowE (fQ l) 2]):=
  iF.slice Tryz.underlying22 (by kernel_rfl) (by kernel_rfl) (by decide) zV8
theorem zV7:iF Tryz.prog 23 (fun l:List LT=>l.length≤maxLen∧∀ a,a∈l→zJ a.1∧zJ a.2.1) (fun l=>[.rowE (iS l) 3]):=
  iF.slice Tryz.underlying23 (by kernel_rfl) (by kernel_rfl) (by decide) yD2
theorem zK8:iF Tryz.prog 25 (fun l:List BX=>l.length≤maxLen∧∀ a,a∈l→zJ a.1∧zJ a.2.1∧zJ a.2.2) (fun l=>[.rowE (eB l) 3]):=
  iF.slice Tryz.underlying25 (by kernel_rfl) (by kernel_rfl) (by decide) yD3
theorem zK5:iF Tryz.prog 27 (fun _:List KD × List LT × List Int × List BX=>True) (fun x=>[.rowE (fQ x.1) 2,.rowE (iS x.2.1) 3,.rowE (ints x.2.2.1) 1,.rowE (eB x.2.2.2) 3]):=
  iF.struct (fs:=[(22,0),(23,1),(24,2),(25,3)]) (by kernel_rfl) (by kernel_rfl)
    (fun e W fuel css hl hx=>by
      obtain ⟨a,h1,h2,h3⟩:=iT.cons zK7 (iT.cons zV7 (iT.cons GH (iT.cons zK8 iT.nil))) e W fuel css hl hx
      exact ⟨(a.1,a.2.1,a.2.2.1,a.2.2.2.1),trivial,by simpa using h2,by simpa using h3⟩)
    (fun _=>by kernel_rfl)
theorem YT:iF Tryz.prog 29 (fun p:Int × Int × Int × Int=>zJ p.1∧zJ p.2.1∧zJ p.2.2.1∧zJ p.2.2.2) (fun p=>[AV.i p.1,AV.i p.2.1,AV.i p.2.2.1,AV.i p.2.2.2]):=
  iF.struct (fs:=[(3,0),(3,1),(3,2),(3,3)]) (by kernel_rfl) (by kernel_rfl)
    (fun e W fuel css hl hx=>by
      obtain ⟨a,h1,h2,h3⟩:=iT.cons rP (iT.cons rP (iT.cons rP (iT.cons rP iT.nil))) e W fuel css hl hx
      exact ⟨(a.1,a.2.1,a.2.2.1,a.2.2.2.1),⟨h1.1,h1.2.1,h1.2.2.1,h1.2.2.2.1⟩,by simpa using h2,by simpa using h3⟩)
    (fun _=>by kernel_rfl)
theorem zK6:iF Tryz.prog 42 (fun p:Int × Int × Int × Int × List Int=>p.2.2.2.2.length≤maxLen) (fun p=>[AV.i p.1,AV.i p.2.1,AV.i p.2.2.1,AV.i p.2.2.2.1,.rowE (ints p.2.2.2.2) 1]):=
  iF.struct (fs:=[(3,0),(3,1),(3,2),(3,3),(24,4)]) (by kernel_rfl) (by kernel_rfl)
    (fun e W fuel css hl hx=>by
      obtain ⟨a,h1,h2,h3⟩:=iT.cons rP (iT.cons rP (iT.cons rP (iT.cons rP (iT.cons GH iT.nil)))) e W fuel css hl hx
      exact ⟨(a.1,a.2.1,a.2.2.1,a.2.2.2.1,a.2.2.2.2.1),h1.2.2.2.2.1.1,by simpa using h2,by simpa using h3⟩)
    (fun _=>by kernel_rfl)
theorem YS:iF Tryz.prog 30 (fun l:List (Int × Int × Int × Int × List Int)=>l.length≤maxLen∧∀ p,p∈l→p.2.2.2.2.length≤maxLen) (fun l=>[.rowE (l.map fun p=>[AV.i p.1,AV.i p.2.1,AV.i p.2.2.1,AV.i p.2.2.2.1,.rowE (ints p.2.2.2.2) 1]) 5]):=
  iF.slice Tryz.underlying30 (by kernel_rfl) (by kernel_rfl) (by decide) zK6
abbrev yI1 (p:Int × Int × Int × Int × List Int):Ev:=⟨p.1,p.2.1,p.2.2.1,p.2.2.2.1,p.2.2.2.2⟩
theorem zY7 (l:List (Int × Int × Int × Int × List Int)):(l.map fun p=>[AV.i p.1,AV.i p.2.1,AV.i p.2.2.1,AV.i p.2.2.2.1,.rowE (ints p.2.2.2.2) 1])=L8 (l.map yI1):=by
  unfold L8;rw [sK];rfl
theorem zP1 {l:List (Int × Int × Int × Int × List Int)}(h:∀ p,p∈l→p.2.2.2.2.length≤maxLen):∀ s,s∈l.map yI1→s.ids.length≤9223372036854775807:=by
  intro s hs;obtain ⟨p,hp,rfl⟩:=bE.1 hs;exact bP (h p hp) (by decide)
abbrev yE7 (x:List KD × List LT × List Int × List BX) (c:Int × Int × Int × Int):Cx:=⟨c.1,c.2.1,c.2.2.1,c.2.2.2,x.1,x.2.1,x.2.2.2⟩
end Go.Proofs.YtmmkhmilpeodnaaGreat
namespace Go.Ld
open Go.Ab Go.Proofs.YtmmkhmilpeodnaaGreat
def rG (c:Cx) (L:List W):G:=(nats (List.range c.bs.length),L)
def kJ:List W→W→List W
  | [],x=>[x]
  | t::l,x=>if t.1=x.1∧t.2.2=x.2.2 then (t.1,min t.2.1 x.2.1,t.2.2)::l else t::kJ l x
theorem O3:∀ (l:List W) (x:W),(kJ l x).length≤l.length+1
  | [],x=>bA _
  | t::l,x=>by
    have:=O3 l x;unfold kJ;split
    · simp
    · simp;omega
theorem R5:∀ (L l:List W),(L.foldl kJ l).length≤l.length+L.length
  | [],l=>bA _
  | x::L,l=>by
    have:=R5 L (kJ l x);have:=O3 l x;rw [qK,List.length_cons];omega
theorem O2:∀ {l:List W}{x w:W},w∈kJ l x→w∈l∨w=x∨∃ t,t∈l∧w=(t.1,min t.2.1 x.2.1,t.2.2)
  | [],x,w,h=>.inr (.inl (aQ.1 h))
  | t::l,x,w,h=>by
    unfold kJ at h;split at h
    · rcases bO.1 h with rfl | h
      · exact .inr (.inr ⟨t,aR,rfl⟩)
      · exact .inl (aM _ h)
    · rcases bO.1 h with rfl | h
      · exact .inl aR
      · rcases O2 h with h | h | ⟨u,hu,e⟩
        · exact .inl (aM _ h)
        · exact .inr (.inl h)
        · exact .inr (.inr ⟨u,aM _ hu,e⟩)
theorem zW {bs:List Int}{x:W}{l:List W}{f:As}{M:Int}:sE (bs,x::l) f M↔(lP bs x f∧x.2.1≤M)∨sE (bs,l) f M:=by
  unfold sE;simp
theorem DA {bs:List Int}{f:As}{M:Int}:∀ {l:List W}{x:W},sE (bs,kJ l x) f M↔sE (bs,l) f M∨(lP bs x f∧x.2.1≤M)
  | [],x=>by unfold kJ sE;simp
  | t::l,x=>by
    unfold kJ;split
    · rename_i he;rw [zW,zW];have e1:lP bs (t.1,min t.2.1 x.2.1,t.2.2) f↔lP bs t f:=Iff.rfl;have e2:lP bs x f↔lP bs t f:=by unfold lP;rw [he.1,he.2]
      rw [e1,e2];dsimp only;constructor
      · rintro (⟨a,b⟩ | h)
        · by_cases q:t.2.1≤M
          · exact .inl (.inl ⟨a,q⟩)
          · exact .inr ⟨a,by omega⟩
        · exact .inl (.inr h)
      · rintro ((⟨a,b⟩ | h) | ⟨a,b⟩)
        · exact .inl ⟨a,by omega⟩
        · exact .inr h
        · exact .inl ⟨a,by omega⟩
    · rw [zW,zW,DA,or_assoc]
theorem EU {bs:List Int}{f:As}{M:Int}:∀ {L l:List W},sE (bs,L.foldl kJ l) f M↔sE (bs,l) f M∨sE (bs,L) f M
  | [],l=>by unfold sE;simp
  | x::L,l=>by
    rw [qK,EU,DA,zW,or_assoc]
def OZ (c:Cx) (s:Ev) (w:W):W × Bool:=((iO c w s.a.toNat s).1,(iO c w s.a.toNat s).2&&decide (s.k=0→(iO c w s.a.toNat s).1.2.1≤c.m))
def rR (c:Cx) (s:Ev) (w:W):List W:=if (OZ c s w).2 then (OZ c s w).1::(if s.k=4 then [mT (OZ c s w).1 s.a.toNat s.b.toNat] else []) else []
def W3 (c:Cx) (s:Ev) (L:List W):List W:=(L.flatMap (rR c s)).foldl kJ []
def seeR (c:Cx) (L:List W) (s:Ev):Int × List W:=if gO c.bs.length s then (if W3 c s L=[] then (26,L) else (0,W3 c s L)) else (1,L)
theorem zY {n:Nat}{b:Int}(h0:0≤b) (h1:b<n):(nats (List.range n)).idxOf b=b.toNat:=by
  have hm:b∈nats (List.range n):=jE.2 ⟨h0,h1⟩;obtain ⟨hx,e⟩:=xL hm;simp only [iV,uI] at e;omega
structure wP (c:Cx) (gs:List G) (L:List W):Prop where
  mid:mG c c.m [rG c L]
  iff:∀ f M,M≤c.m→(Sem gs f M↔sE (rG c L) f M)
theorem R6 {P:W→Prop}(hP:∀ t x:W,P t→P x→P (t.1,min t.2.1 x.2.1,t.2.2)):∀ {L l:List W},(∀ w,w∈l→P w)→(∀ w,w∈L→P w)→∀ w,w∈L.foldl kJ l→P w
  | [],l,h1,_,w,hw=>h1 w hw
  | x::L,l,h1,h2,w,hw=>by
    refine R6 hP (L:=L) (l:=kJ l x) (fun v hv=>?_) (fun v hv=>h2 v (aM _ hv)) w hw;have hx:=h2 x aR;rcases O2 hv with hv | rfl | ⟨t,ht,rfl⟩
    · exact h1 v hv
    · exact hx
    · exact hP t x (h1 t ht) hx
theorem yF2 {c:Cx}{s:Ev}{w:W}{i:Nat}(hk:s.k=4):iO c w i s=(w,true):=by
  unfold iO;rw [if_neg (by omega),if_neg (by omega),if_neg (by omega),if_neg (by omega),if_neg (by omega)]
theorem zZ7 {c:Cx}{s:Ev}{w:W}{i:Nat}(hk:s.k≠0):(iO c w i s).1.2.1=w.2.1:=by
  unfold iO;rw [if_neg hk]
  repeat' split
  all_goals rfl
theorem Q5 {c:Cx}{s:Ev}{L:List W}{w:W}(hr:0≤s.a∧s.a<c.bs.length) (hb:s.k=4→s.a<s.b∧s.b<c.bs.length) (hm:∀ w,w∈L→w.2.1≤c.m):w∈L.flatMap (rR c s)↔w∈lZ c s (rG c L)∧w.2.1≤c.m:=by
  unfold lZ;have ea:(rG c L).1.idxOf s.a=s.a.toNat:=zY hr.1 hr.2;dsimp only;rw [ea,fI,fI];constructor
  · rintro ⟨v,hv,hw⟩;have hvm:=hm v hv;unfold rR at hw;split at hw
    · rename_i hok;unfold OZ at hok hw;simp only [aN,decide_eq_true_eq] at hok;dsimp only at hw;have hle:(iO c v s.a.toNat s).1.2.1≤c.m:=by
        by_cases hk:s.k=0
        · exact hok.2 hk
        · rw [zZ7 hk];exact hvm
      rcases bO.1 hw with rfl | hw
      · exact ⟨⟨v,hv,bG.2 (.inl (by rw [if_pos hok.1];exact aQ.2 rfl))⟩,hle⟩
      · split at hw
        · rename_i hk;have e:=aQ.1 hw;have eb:(rG c L).1.idxOf s.b=s.b.toNat:=zY (by have:=hb hk;omega) (hb hk).2
          rw [yF2 hk] at e;dsimp only at e;subst e;exact ⟨⟨v,hv,bG.2 (.inr (by rw [if_pos hk,eb];exact aQ.2 rfl))⟩,hvm⟩
        · cases hw
    · cases hw
  · rintro ⟨⟨v,hv,hw⟩,hle⟩;refine ⟨v,hv,?_⟩;unfold rR OZ;dsimp only;rcases bG.1 hw with hw | hw
    · split at hw
      · rename_i hok;obtain rfl:=aQ.1 hw;rw [if_pos (by rw [hok,eM,decide_eq_true_eq];exact fun _=>hle)]
        exact aR
      · cases hw
    · split at hw
      · rename_i hk;have e:=aQ.1 hw;have eb:(rG c L).1.idxOf s.b=s.b.toNat:=zY (by have:=hb hk;omega) (hb hk).2
        rw [eb] at e;rw [yF2 hk];dsimp only;rw [if_pos (by simp;omega),if_pos hk]
        exact aM _ (aQ.2 e)
      · cases hw
theorem OB {bs:List Int}{l m:List W}{f:As}{M K:Int}(h:∀ w,w∈l↔w∈m∧w.2.1≤K) (hM:M≤K):sE (bs,l) f M↔sE (bs,m) f M:=by
  constructor
  · rintro ⟨w,h1,h2,h3⟩;exact ⟨w,((h w).1 h1).1,h2,h3⟩
  · rintro ⟨w,h1,h2,h3⟩;exact ⟨w,(h w).2 ⟨h1,by omega⟩,h2,h3⟩
theorem YM {c:Cx}{s:Ev}{L:List W}{f':As}{M:Int}(h:mG c c.m [rG c L]) (hr:0≤s.a∧s.a<c.bs.length) (hb:s.k=4→s.a<s.b∧s.b<c.bs.length) (hM:M≤c.m) :
    sE (rG c (W3 c s L)) f' M↔∃ f d,N2 c s f f' d∧sE (rG c L) f (M-d):=by
  have hg:wY c.bs.length (rG c L):=h.out.ok _ (aQ.2 rfl);rw [← KO hg (jE.2 hr) (fun hk=>⟨jE.2 (by have:=hb hk;omega),by have:=hb hk;omega⟩),zV]
  show sE (nats (List.range c.bs.length),(L.flatMap (rR c s)).foldl kJ []) f' M↔_;rw [EU,show sE (nats (List.range c.bs.length),[]) f' M↔False by unfold sE;simp,false_or]
  exact OB (fun w=>Q5 hr hb (h.ml _ (aQ.2 rfl))) hM
def W1 (c:Cx) (L:List W) (w:W):Prop:=CJ c.bs.length c.bs.length w∧w.1.Perm (nats (List.range c.bs.length))∧w.2.1≤c.m
theorem XH {c:Cx}{L:List W}(hn:0<c.bs.length) (hn6:c.bs.length≤6) (hne:L≠[]) (hl:L.length≤1000) (hw:∀ w,w∈L→W1 c L w):mG c c.m [rG c L]:=by
  have hlen:(nats (List.range c.bs.length)).length=c.bs.length:=by simp
  have one:∀ {g:G},g∈[rG c L]→g=rG c L:=fun h=>aQ.1 h
  have f1:([rG c L].flatMap (·.1))=nats (List.range c.bs.length):=by simp [rG]
  have f2:([rG c L].flatMap fun g=>(gS g).1)=(gS (rG c L)).1:=by simp
  have fm:gS (rG c L)∈L:=gR (g:=rG c L) hne;refine ⟨⟨fun g hg=>?_,by rw [f1];exact uO _,by rw [f1];simp;omega,fun g hg=>?_⟩,?_,fun g hg=>?_,fun g hg w hw'=>?_,by rw [f1],?_,fun g hg=>?_⟩
  · rw [one hg]
    refine ⟨fun q => by have:(nats (List.range c.bs.length)).length=0:=by rw [show nats (List.range c.bs.length)=[] from q]; rfl
                        omega,?_,fun b hb=>jE.1 hb,by show (nats _).length≤6;omega,fun w hw'=>?_,fun w v h1 h2=>(hw w h1).2.1.trans (hw v h2).2.1.symm⟩
    · exact (qA (n:=c.bs.length)).map _ (fun a b h=>by omega)
    · have:=(hw w hw').1;show CJ c.bs.length (nats (List.range c.bs.length)).length w;rw [hlen];exact this
  · rw [one hg];show L.length≤_;omega
  · exact C6.2 (jF _ _)
  · rw [one hg];exact hne
  · rw [one hg] at hw';exact (hw w hw').2.2
  · rw [f2];exact (hw _ fm).2.1
  · rw [one hg];exact hl
theorem W1.min {c:Cx}{L:List W}{t x:W}(h:W1 c L t) (h2:W1 c L x):W1 c L (t.1,min t.2.1 x.2.1,t.2.2):=by
  obtain ⟨⟨a1,a2,a3,a4,a5,a6,a7⟩,b,d⟩:=h;have:=h2.1.m0;exact ⟨⟨a1,a2,a3,a4,by dsimp only;omega,by dsimp only;omega,a7⟩,b,by dsimp only;omega⟩
theorem wP.w1 {c:Cx}{L:List W}(h:mG c c.m [rG c L]):∀ w,w∈L→W1 c L w:=fun w hw=>by
  have hg:=aQ.2 (rfl:rG c L=rG c L);have a:=(h.out.ok _ hg).ws w hw;rw [show (rG c L).1.length=c.bs.length by simp [rG]] at a
  refine ⟨a,?_,h.ml _ hg w hw⟩;have f2:([rG c L].flatMap fun g=>(gS g).1)=(gS (rG c L)).1:=by simp
  have:=h.idn;rw [f2] at this;exact ((h.out.ok _ hg).same w (gS (rG c L)) hw (gR (h.ne _ hg))).trans this
theorem YN {c:Cx}{s:Ev}{L:List W}:(W3 c s L).length≤L.length*DG s:=by
  unfold W3;refine bP (R5 _ _) ?_;rw [List.length_nil,Nat.zero_add];refine Y7 _ _ _ fun w _=>?_
  unfold rR DG;split
  · split <;> simp
  · split <;> simp
theorem wP.step {c:Cx}{gs:List G}{L:List W}{s:Ev}(hc:qN c) (h:kV c gs) (hp:lR c gs) (e:wP c gs L) (hn6:c.bs.length≤6) (hl:L.length*DG s≤1000) (hroom:2*gW gs≤1000) :
    (seeR c L s).1=(lQ c gs s).1∧wP c (lQ c gs s).2 (seeR c L s).2∧(seeR c L s).2.length≤L.length*DG s:=by
  have hsw:L.length≤L.length*DG s:=by unfold DG;split <;> omega
  obtain ⟨m0,m1,_⟩:=hc.s;have hn1:=hc.f.n1;simp at hn1;by_cases hr:gO c.bs.length s=true
  · obtain ⟨r1,r2,r3⟩:=K0 h hr;have h6:=WW (s:=s) h m0 m1 hn6 hroom;have hse:=fun f' M hM=>FV (f':=f') (M:=M) h m0 m1 hr hM;have hol:=YN (c:=c) (s:=s) (L:=L);have hon:=fun f' M hM=>YM (f':=f') (M:=M) e.mid r1 r2 hM;have hme:∀ f' M,M≤c.m→((∃ f d,N2 c s f f' d∧sE (rG c L) f (M-d))↔∃ f d,N2 c s f f' d∧Sem gs f (M-d)):=fun f' M hM=>by
      have hd0:∀ f d,N2 c s f f' d→0≤d:=fun f d st=>by
        rcases st with ⟨ok,_,rfl⟩ | ⟨_,_,rfl⟩
        · rw [CD ok];exact (SC _ _ _ _).1
        · exact dC _
      constructor
      · rintro ⟨f,d,st,h1⟩;exact ⟨f,d,st,(e.iff f _ (by have:=hd0 f d st;omega)).2 h1⟩
      · rintro ⟨f,d,st,h1⟩;exact ⟨f,d,st,(e.iff f _ (by have:=hd0 f d st;omega)).1 h1⟩
    unfold seeR;rw [if_pos hr];rcases JM c gs s with h0 | ⟨_,h0⟩ | h0 | h0
    · have hg':=P4 (s:=s) h m0 m1;obtain ⟨f',hs'⟩:=DP hg' (JL hp) (by omega)
      have h1:=(hse f' c.m (dC _)).1 h0;have hone:=(hon f' c.m (dC _)).2 ((hme f' c.m (dC _)).2 (h1.1 hs'));have hne:W3 c s L≠[]:=fun q=>by rw [q] at hone;obtain ⟨w,hw,_⟩:=hone;cases hw
      rw [if_neg hne,h0];refine ⟨rfl,⟨XH (by omega) hn6 hne (by dsimp only;omega) fun w hw=>?_,fun f M hM=>?_⟩,hol⟩
      · refine R6 (P:=W1 c L) (fun t x ht hx=>ht.min hx) (fun w hw=>by cases hw) (fun w hw=>?_) w hw
        obtain ⟨a,b⟩:=(Q5 r1 r2 (e.mid.ml _ (aQ.2 rfl))).1 hw;have hk:=K4 e.mid (by omega) (aQ.2 (rfl:rG c L=rG c L)) (by obtain ⟨_,_,q,_⟩:=kK hr (by omega);exact q) (jE.2 r1) (fun k=>jE.2 (by have:=r2 k;omega)) a
        refine ⟨by have:=hk.1;rwa [show (rG c L).1.length=c.bs.length by simp [rG]] at this,?_,b⟩
        exact hk.2.1.trans (wP.w1 e.mid _ (gR (g:=rG c L) (e.mid.ne _ (aQ.2 rfl)))).2.1
      · rw [(hse f M hM).1 h0];show _↔sE (rG c (W3 c s L)) f M;rw [hon f M hM];exact (hme f M hM).symm
    · rw [h0] at hr;cases hr
    · exact absurd h0 h6
    · have hn:W3 c s L=[]:=by
        cases ho:W3 c s L with
        | nil=>rfl
        | cons w l=>
          exfalso;have hwm:w∈W3 c s L:=by rw [ho];exact aR
          have hW:W1 c L w:=by
            refine R6 (P:=W1 c L) (fun t x ht hx=>ht.min hx) (fun w hw=>by cases hw) (fun w hw=>?_) w hwm
            obtain ⟨a,b⟩:=(Q5 r1 r2 (e.mid.ml _ (aQ.2 rfl))).1 hw;have hk:=K4 e.mid (by omega) (aQ.2 (rfl:rG c L=rG c L)) (by obtain ⟨_,_,q,_⟩:=kK hr (by omega);exact q) (jE.2 r1) (fun k=>jE.2 (by have:=r2 k;omega)) a
            refine ⟨by have:=hk.1;rwa [show (rG c L).1.length=c.bs.length by simp [rG]] at this,?_,b⟩
            exact hk.2.1.trans (wP.w1 e.mid _ (gR (g:=rG c L) (e.mid.ne _ (aQ.2 rfl)))).2.1
          have hgk:wY c.bs.length (rG c L):=e.mid.out.ok _ (aQ.2 rfl);have hF:lP (nats (List.range c.bs.length)) w (U9 (rG c L) w):=uC hgk (by have:=hW.1;rwa [show (rG c L).1.length=c.bs.length by simp [rG]])
          have:=(hon (U9 (rG c L) w) c.m (dC _)).1 ⟨w,hwm,hF,hW.2.2⟩;exact (hse _ c.m (dC _)).2 h0 ((hme _ c.m (dC _)).1 this)
      rw [if_pos hn,h0];have hsm:=WV (c:=c) (gs:=gs) (s:=s) (by rw [h0];decide)
      rw [hsm];exact ⟨rfl,e,hsw⟩
  · have hF:lQ c gs s=(1,gs):=if_neg hr;have hR:seeR c L s=(1,L):=if_neg hr;rw [hF,hR];exact ⟨rfl,e,hsw⟩
def KB (c:Cx) (L:List W) (b:Nat):List Int:=(nats (List.range c.bs.length)).filter fun x=>L.any fun w=>decide (gP w b=x)
theorem XG {c:Cx}{L:List W}(h:mG c c.m [rG c L]){w:W}(hw:w∈L):sE (rG c L) (U9 (rG c L) w) c.m∧∀ b:Int,0≤b→b<c.bs.length→U9 (rG c L) w b=(gP w b.toNat,gC w b.toNat):=by
  have hgk:wY c.bs.length (rG c L):=h.out.ok _ (aQ.2 rfl);refine ⟨⟨w,hw,uC hgk (hgk.ws w hw),h.ml _ (aQ.2 rfl) w hw⟩,fun b h0 h1=>?_⟩
  unfold U9;rw [show (rG c L).1.idxOf b=b.toNat from zY h0 h1]
theorem QE {c:Cx}{gs:List G}{L:List W}(h:kV c gs) (hp:lR c gs) (e:wP c gs L){b:Int}(h0:0≤b) (h1:b<c.bs.length){g:G}{i:Nat}(hg:pU gs b=some (g,i)) (x:Int × SP) :
    (∃ w,w∈g.2∧(gP w i,gC w i)=x)↔∃ w,w∈L∧(gP w b.toNat,gC w b.toNat)=x:=by
  obtain ⟨k,_,h2,h3,rfl⟩:=qF hg;have hgm:=aS h2;constructor
  · rintro ⟨w,hw,rfl⟩;obtain ⟨f,hf,hs⟩:=EC h hp hgm hw;obtain ⟨w',hw',hf',_⟩:=(e.iff f c.m (dC _)).1 hs;obtain ⟨a1,a2⟩:=L7 hf h3;obtain ⟨b1,b2⟩:=L7 hf' (show b∈(rG c L).1 from jE.2 ⟨h0,h1⟩)
    rw [show (rG c L).1.idxOf b=b.toNat from zY h0 h1] at b1 b2
    exact ⟨w',hw',Prod.ext (b1.trans a1.symm) (b2.trans a2.symm)⟩
  · rintro ⟨w,hw,rfl⟩;obtain ⟨ho,ha⟩:=XG e.mid hw;obtain ⟨w',hw',hf'⟩:=D0 ((e.iff _ c.m (dC _)).2 ho) hgm;obtain ⟨a1,a2⟩:=L7 hf' h3;rw [ha b h0 h1] at a1 a2;exact ⟨w',hw',Prod.ext a1 a2⟩
theorem X6 {c:Cx}{gs:List G}{L:List W}(h:kV c gs) (hp:lR c gs) (e:wP c gs L){b:Int}(h0:0≤b) (h1:b<c.bs.length){g:G}{i:Nat}(hg:pU gs b=some (g,i)):mM g i=KB c L b.toNat:=by
  have hs:=QE h hp e h0 h1 hg;have a1:(mM g i).Pairwise (· < ·):=by
    unfold mM G7;refine LX ?_ _ (bA _);have:=CO (le:=fun x y:Int=>decide (x≤y)) (fun a b d h1 h2=>decide_eq_true (I7 (of_decide_eq_true h1) (of_decide_eq_true h2))) (fun a b=>by rw [uF,decide_eq_true_eq,decide_eq_true_eq];omega) (F0 g i)
    exact this.imp (fun h=>of_decide_eq_true h)
  have a2:(KB c L b.toNat).Pairwise (· < ·):=by
    unfold KB;refine List.Pairwise.filter _ ?_;exact (qA (n:=c.bs.length)).map _ (fun a b h=>by omega)
  have hm:∀ x,x∈mM g i↔x∈KB c L b.toNat:=fun x=>by
    rw [AP];unfold KB;rw [iQ,gD];constructor
    · rintro ⟨w,hw,rfl⟩;obtain ⟨w',hw',q⟩:=(hs _).1 ⟨w,hw,rfl⟩;have q1:gP w' b.toNat=gP w i:=congrArg Prod.fst q;refine ⟨?_,w',hw',decide_eq_true q1⟩;have:=(wP.w1 e.mid w' hw').1.at (i:=b.toNat) (by omega)
      rw [q1] at this;exact jE.2 ⟨this.1,this.2.1⟩
    · rintro ⟨_,w',hw',q⟩;obtain ⟨w,hw,q2⟩:=(hs _).2 ⟨w',hw',rfl⟩;exact ⟨w,hw,(congrArg Prod.fst q2).trans (of_decide_eq_true q)⟩
  refine List.Perm.eq_of_pairwise (le:=fun a b=>a<b) (fun a b _ _ h1 h2=>by omega) a1 a2 ?_
  exact (List.perm_ext_iff_of_nodup (a1.imp (fun h=>by omega)) (a2.imp (fun h=>by omega))).2 hm
theorem FW {g:G}{i:Nat}(hne:g.2≠[]):∀ k,k≤g.2.length→(∃ w,w∈g.2∧(gC w i).1=(zQ g i k).1)∧∃ w,w∈g.2∧(gC w i).2=(zQ g i k).2
  | 0,_=>⟨⟨_,gR hne,rfl⟩,_,gR hne,rfl⟩
  | k+1,hk=>by
    obtain ⟨⟨u,hu,e1⟩,v,hv,e2⟩:=FW (i:=i) hne k (by omega)
    rw [D2 (by omega)]
    unfold ER;dsimp only;have hx:g.2[k]∈g.2:=aH _;constructor
    · by_cases q:(zQ g i k).1≤(gC g.2[k] i).1
      · exact ⟨u,hu,by omega⟩
      · exact ⟨_,hx,by omega⟩
    · by_cases q:(gC g.2[k] i).2≤(zQ g i k).2
      · exact ⟨v,hv,by omega⟩
      · exact ⟨_,hx,by omega⟩
theorem XA {c:Cx}{gs:List G}{L:List W}(h:kV c gs) (hp:lR c gs) (e:wP c gs L){b:Int}(h0:0≤b) (h1:b<c.bs.length){g:G}{i:Nat}(hg:pU gs b=some (g,i)):xC g i=xC (rG c L) b.toNat:=by
  have hs:=QE h hp e h0 h1 hg;obtain ⟨k,_,h2,_,_⟩:=qF hg;have hgn:=h.mid.ne g (aS h2);have hln:=e.mid.ne _ (aQ.2 (rfl:rG c L=rG c L));have c1:=fun w hw=>QI (g:=g) (i:=i) (w:=w) hw;have c2:=fun w hw=>QI (g:=rG c L) (i:=b.toNat) (w:=w) hw;obtain ⟨⟨u,hu,u1⟩,v,hv,v1⟩:=FW (i:=i) hgn g.2.length (bA _);obtain ⟨⟨u',hu',u1'⟩,v',hv',v1'⟩:=FW (i:=b.toNat) hln (rG c L).2.length (bA _);change (gC u i).1=(xC g i).1 at u1;change (gC v i).2=(xC g i).2 at v1;change (gC u' b.toNat).1=(xC (rG c L) b.toNat).1 at u1';change (gC v' b.toNat).2=(xC (rG c L) b.toNat).2 at v1';obtain ⟨a1,a2,a3⟩:=(hs _).1 ⟨u,hu,rfl⟩;obtain ⟨b1,b2,b3⟩:=(hs _).1 ⟨v,hv,rfl⟩;obtain ⟨d1,d2,d3⟩:=(hs _).2 ⟨u',hu',rfl⟩;obtain ⟨f1,f2,f3⟩:=(hs _).2 ⟨v',hv',rfl⟩;have a3:=congrArg (fun x:Int × SP=>x.2.1) a3;have b3:=congrArg (fun x:Int × SP=>x.2.2) b3;have d3:=congrArg (fun x:Int × SP=>x.2.1) d3;have f3:=congrArg (fun x:Int × SP=>x.2.2) f3;dsimp only at a3 b3 d3 f3;have:=c2 a1 a2;have:=c2 b1 b2;have:=c1 d1 d2;have:=c1 f1 f2;exact Prod.ext (by omega) (by omega)
def zT0 (c:Cx) (L:List W) (p q:List Int):Bool:=decide (p.length=c.bs.length)&&decide (q.length=p.length)&&Go.Pm.permB p&&L.any (xQ (rG c L) p q)
theorem yF4 {c:Cx}{gs:List G}{L:List W}{p q:List Int}(h:kV c gs) (e:wP c gs L):zR0 c gs p q=zT0 c L p q:=by
  have hgk:wY c.bs.length (rG c L):=e.mid.out.ok _ (aQ.2 rfl);rw [jP,HU h];unfold zT0;simp only [aN,decide_eq_true_eq,gD];constructor
  · rintro ⟨a,b,d,f,hf,hs⟩;obtain ⟨w,hw,hF,_⟩:=(e.iff f c.m (dC _)).1 hs;exact ⟨⟨⟨a,b⟩,d⟩,w,hw,(GZ hgk hF).2 fun b hb=>by have:=jE.1 hb;exact hf b this.1 this.2⟩
  · rintro ⟨⟨⟨a,b⟩,d⟩,w,hw,hfit⟩;obtain ⟨ho,_⟩:=XG e.mid hw;have hF:=uC hgk (hgk.ws w hw);exact ⟨a,b,d,U9 (rG c L) w,fun b h0 h1=>(GZ hgk hF).1 hfit b (jE.2 ⟨h0,h1⟩),(e.iff _ c.m (dC _)).2 ho⟩
theorem YX {c:Cx}(hc:qN c) (hn6:c.bs.length≤6):wP c (qL c) [(nats (List.range c.bs.length),0,c.bs.map fun b=>(b.2.1,b.2.1+1))]:=by
  obtain ⟨m0,m1,_⟩:=hc.s;have hn1:=hc.f.n1;simp at hn1;refine ⟨XH (by omega) hn6 (by simp) (by simp) fun w hw=>?_,fun f M hM=>?_⟩
  · obtain rfl:=aQ.1 hw;refine ⟨⟨by simp,by simp,fun x hx=>jE.1 hx,uO _,dC _,by show (0:Int)≤4000000;omega,fun r hr=>?_⟩,.refl _,m0⟩
    obtain ⟨b,hb,rfl⟩:=bE.1 hr;obtain ⟨i,hi,rfl⟩:=mR hb;have:=hc.f.b i hi;unfold IF;dsimp only;omega
  · rw [QY];constructor
    · rintro ⟨h0,h1⟩;refine ⟨_,aQ.2 rfl,⟨?_,?_⟩,h0⟩
      · show nats (List.range c.bs.length)=(nats (List.range c.bs.length)).map fun b=>(f b).1;refine gY (by simp) fun i i1 i2=>?_
        simp only [iV,uI];have:i<c.bs.length:=by simpa using i1
        rw [h1 (i:Int) (by omega) (by omega)]
      · show (c.bs.map fun b=>(b.2.1,b.2.1+1))=(nats (List.range c.bs.length)).map fun b=>(f b).2;refine gY (by simp) fun i i1 i2=>?_
        simp only [iV,uI];have:i<c.bs.length:=by simpa using i1
        rw [h1 (i:Int) (by omega) (by omega),bH,aC,aA this];rfl
    · rintro ⟨w,hw,⟨f1,f2⟩,hm⟩;obtain rfl:=aQ.1 hw;refine ⟨hm,fun b h0 h1=>?_⟩
      change nats (List.range c.bs.length)=(nats (List.range c.bs.length)).map (fun b=>(f b).1) at f1;change (c.bs.map fun b=>(b.2.1,b.2.1+1))=(nats (List.range c.bs.length)).map (fun b=>(f b).2) at f2;have e1:=congrArg (fun l=>l.getD b.toNat 0) f1;have e2:=congrArg (fun l=>l.getD b.toNat (0,0)) f2;rw [K5 _ _ h0 h1,GJ h0 h1] at e1;rw [K5 _ _ h0 h1,aC,bZ,aA (by omega)] at e2
      refine Prod.ext e1.symm ?_;rw [← e2,aC,aA (by omega)];rfl
end Go.Ld
namespace Go.Ab
open Go
section
variable {P:Program}{env:eH}{h:Hp}{d:Option Nat}{ty:TypeId}{pos:String}{af:Array Edge}{g:Option (Nat × Bool)}
end
end Go.Ab
namespace Go.Proofs.YtmmkhmilpeodnaaGreat
open Go Go.Ab Go.Ld
attribute [local irreducible] VC AW bX aT jU jB
set_option maxHeartbeats 4000000
end Go.Proofs.YtmmkhmilpeodnaaGreat
namespace Go.Proofs.YtmmkhmilpeodnaaGreat.R38
open Go Go.Ab Go.Proofs.YtmmkhmilpeodnaaGreat
attribute [local irreducible] VC AW bX aT
set_option maxHeartbeats 4000000
theorem lH (n:Int):aT Tryz.prog 145 [.i n] [] (.b (decide (0≤n)&&decide (n≤1099511627776))) []:=by
  refine bK T Tryz.func145 rfl rfl rfl rfl ?_
  (repeat' (first|(first|(refine dX ?_)|(refine kU ?_)|(refine lB ?_))|(first|(refine vV (by first|exact bU rfl|exact eL rfl|exact iE rfl rfl|exact gQ rfl rfl|exact lA rfl rfl|exact gH rfl rfl) ?_)|(refine gG ?_)|(refine vM rfl rfl ?_ rfl)|(refine F5 rfl rfl ?_ rfl)|(refine nD rfl rfl (fun hb=>?_) (fun hb=>?_) rfl<;>(rw [hb];(try simp only [nm] at hb))))));all_goals
    refine cH (.inl rfl) rfl (mB ?_);rw [jP];simp;try omega
theorem jH {n:Int}(h:0≤n∧n≤1099511627776):aT Tryz.prog 145 [.i n] [] (.b true) []:=by
  have:=lH n;simpa [h] using this
theorem NJ (f t:Int):aT Tryz.prog 146 [.i f,.i t] [] (.tup [jC (BR f (t+1)) (cutT f (t+1)),.b (wI f (t+1))]) []:=by
  refine bK T Tryz.func146 rfl rfl rfl rfl ?_
  (repeat' (first|(first|(refine dX ?_)|(refine kU ?_)|(refine oF ?_)|(refine lB ?_))|(first|(refine vV (by first|exact bU rfl|exact eL rfl|exact bY rfl rfl (by omega) (by omega)|exact eE rfl rfl|exact sG rfl rfl|exact A7 rfl rfl|exact dY T rfl rfl rfl rfl) ?_)|(refine aL T rfl rfl rfl rfl rfl rfl (by decide) rfl ?_)|(refine gG ?_)|(refine bN (bI T rfl) rfl ?_))|((refine rH rfl (fun hb=>?_) (fun hb=>?_)<;>(try simp only [nm] at hb)))));all_goals
    refine cH (.inl rfl) rfl ?_;rcases A8 f (t+1) with ⟨h1,h2,h3,h4⟩ | ⟨h1,h2,h3,h4⟩
    all_goals (first | (exfalso;omega) | (rw [h1,h2,h3];refine JB ?_ ?_ ?_ <;> first | rfl | omega))
abbrev zB6 (f t:Int):AV:=.tup [jC (BR f t) (cutT f t),.b (wI f t)]
theorem Y9 {a b c d:Int}(h:a=c) (h2:b=d):zB6 a b=zB6 c d:=by rw [h,h2]
theorem refinter_c (a b c d:Int) (h:0≤b∧b≤20001∧0≤d∧d≤20001):aT Tryz.prog 112 [jC a b,jC c d] [] (zB6 (max a c) (min b d)) []:=by
  refine bK T Tryz.func112 rfl rfl rfl rfl ?_
  (repeat' (first|(first|(refine dX ?_)|(refine kU ?_)|(refine lB ?_))|(first|(refine vV (by first|exact eL rfl|exact cD T rfl rfl rfl|exact aE T rfl rfl rfl rfl|exact cX rfl rfl (by omega) (by omega)|exact fU rfl rfl|exact sG rfl rfl|exact A7 rfl rfl|exact eA rfl rfl (NJ _ _) rfl rfl rfl) ?_)|(refine aL T rfl rfl rfl rfl rfl rfl (by decide) rfl ?_)|(refine gG ?_)|(refine bN (by first|exact bI T rfl|exact cC rfl rfl) rfl ?_))));exact cH (.inl rfl) rfl (Y9 rfl (by omega))
theorem refhull_c (a b c d:Int):aT Tryz.prog 60 [jC a b,jC c d] [] (jC (min a c) (max b d)) []:=by
  refine bK T Tryz.func60 rfl rfl rfl rfl ?_
  (repeat' (first|(first|(refine dX ?_)|(refine kU ?_)|(refine lB ?_))|(first|(refine vV (by first|exact cD T rfl rfl rfl|exact aE T rfl rfl rfl rfl|exact sG rfl rfl|exact A7 rfl rfl|exact dY T rfl rfl rfl rfl) ?_)|(refine aL T rfl rfl rfl rfl rfl rfl (by decide) rfl ?_)|(refine gG ?_)|(refine bN (by first|exact bI T rfl|exact cC rfl rfl) rfl ?_))));refine rQ
theorem refpicked_in (f t n s:Int) (hf:0≤f∧f≤20001∧0≤t∧t≤20001) (h:0≤n∧n≤1099511627776∧0≤s∧s≤1099511627776):aT Tryz.prog 113 [jC f t,.i n,.i s] [] (zB6 (f-n-s) (t-max (n-s) 0)) []:=by
  have w1:=jH (n:=n) (by omega)
  have w2:=jH (n:=s) (by omega)
  refine bK T Tryz.func113 rfl rfl rfl rfl ?_
  (repeat' (first|(first|(refine dX ?_)|(refine kU ?_)|(refine oF ?_)|(refine lB ?_))|(first|(refine vV (by first|exact bU rfl|exact eL rfl|exact cD T rfl rfl rfl|exact aE T rfl rfl rfl rfl|exact gQ rfl rfl|exact cX rfl rfl (by omega) (by omega)|exact cY rfl|exact fU rfl rfl|exact sG rfl rfl|exact kC (w1)|exact kC (w2)|exact eA rfl rfl (NJ _ _) rfl rfl rfl) ?_)|(refine aL T rfl rfl rfl rfl rfl rfl (by decide) rfl ?_)|(refine gG ?_)|(refine vM rfl rfl ?_ rfl)|(refine bN (by first|exact bI T rfl|exact cC rfl rfl) rfl ?_))|((refine wU ?_))));all_goals first | (exfalso;omega) | exact cH (.inl rfl) rfl (Y9 rfl (by omega))
theorem refweighed_no (t u w e:Int) (h:¬ xR t u w e):aT Tryz.prog 110 [.i t,.i u,.i w,.i e] [] (.tup [jC 0 0,.b false]) []:=by
  unfold xR at h;refine bK T Tryz.func110 rfl rfl rfl rfl ?_
  (repeat' (first|(refine dX ?_;repeat' (first|(refine vV (by first|exact bU rfl|exact eL rfl|exact iE rfl rfl|exact gQ rfl rfl|exact cY rfl|exact dY T rfl rfl rfl rfl|exact eA rfl rfl (lH _) rfl rfl rfl) ?_)|(refine aL T rfl rfl rfl rfl rfl rfl (by decide) rfl ?_)|(refine gG ?_)|(refine vM rfl rfl ?_ rfl)|(refine F5 rfl rfl ?_ rfl)|(refine nD rfl rfl (fun hb=>?_) (fun hb=>?_) rfl<;>((rw [hb];(try simp only [nm] at hb);try ((exfalso;omega);done))))|(refine bN (bI T rfl) rfl ?_)))|(first|(refine kU ?_)|(refine lB ?_))|refine wT ?_|(refine wC rfl ?_ ?_<;>(intro hb;(try simp only [nm] at hb);try (exfalso;omega)))));all_goals first | exact rQ | (exfalso;simp at *;omega)
theorem refweighed_out (t u w e:Int) (h:xR t u w e) (h1:w+e-t<0∨u=0∧0<w-e-t):aT Tryz.prog 110 [.i t,.i u,.i w,.i e] [] (.tup [jC 0 0,.b false]) []:=by
  unfold xR at h;refine bK T Tryz.func110 rfl rfl rfl rfl ?_
  (repeat' (first|(refine dX ?_;repeat' (first|(refine vV (by first|exact bU rfl|exact eL rfl|exact iE rfl rfl|exact gQ rfl rfl|exact bY rfl rfl (by omega) (by omega)|exact cX rfl rfl (by omega) (by omega)|exact aI rfl rfl|exact eE rfl rfl|exact eQ rfl rfl|exact cY rfl|exact dY T rfl rfl rfl rfl|exact kC (jH (n:=t) (by omega))|exact kC (jH (n:=u) (by omega))|exact kC (jH (n:=w) (by omega))|exact kC (jH (n:=e) (by omega))) ?_)|(refine aL T rfl rfl rfl rfl rfl rfl (by decide) rfl ?_)|(refine gG ?_)|(refine vM rfl rfl ?_ rfl)|(refine F5 rfl rfl ?_ rfl)|(refine nD rfl rfl (fun hb=>?_) (fun hb=>?_) rfl<;>((rw [hb];(try simp only [nm] at hb);try ((exfalso;omega);done))))|(refine bN (bI T rfl) rfl ?_)))|(first|(refine kU ?_)|(refine oF ?_)|(refine lB ?_))|refine wT ?_|refine wU ?_|(refine wC rfl ?_ ?_<;>(intro hb;(try simp only [nm] at hb);try (exfalso;omega)))));all_goals first | exact rQ | (exfalso;omega)
theorem refweighed_all (t u w e:Int) (h:xR t u w e) (h1:0≤w+e-t) (h2:u=0) (h3:w-e-t≤0):aT Tryz.prog 110 [.i t,.i u,.i w,.i e] [] (.tup [jC 0 20001,.b true]) []:=by
  unfold xR at h;refine bK T Tryz.func110 rfl rfl rfl rfl ?_
  (repeat' (first|(refine dX ?_;repeat' (first|(refine vV (by first|exact bU rfl|exact eL rfl|exact gQ rfl rfl|exact bY rfl rfl (by omega) (by omega)|exact cX rfl rfl (by omega) (by omega)|exact aI rfl rfl|exact eE rfl rfl|exact eQ rfl rfl|exact cY rfl|exact dY T rfl rfl rfl rfl|exact kC (jH (n:=t) (by omega))|exact kC (jH (n:=u) (by omega))|exact kC (jH (n:=w) (by omega))|exact kC (jH (n:=e) (by omega))) ?_)|(refine aL T rfl rfl rfl rfl rfl rfl (by decide) rfl ?_)|(refine gG ?_)|(refine vM rfl rfl ?_ rfl)|(refine nD rfl rfl (fun hb=>?_) (fun hb=>?_) rfl<;>((rw [hb];(try simp only [nm] at hb);try ((exfalso;omega);done))))|(refine bN (bI T rfl) rfl ?_)))|(first|(refine kU ?_)|(refine oF ?_)|(refine lB ?_))|refine wU ?_|(refine wC rfl ?_ ?_<;>(intro hb;(try simp only [nm] at hb);try (exfalso;omega)))));all_goals first | exact rQ | (exfalso;omega)
theorem refweighed_in (t u w e:Int) (h:xR t u w e) (h1:0≤w+e-t) (h2:0<u):aT Tryz.prog 110 [.i t,.i u,.i w,.i e] [] (zB6 (zH1 t u w e) (zT9 t u w e)) []:=by
  unfold xR at h;have q1:=yA8 h1 (yL0 h2);have q2:=zR7 u h1;refine bK T Tryz.func110 rfl rfl rfl rfl ?_
  (repeat' (first|(refine dX ?_;repeat' (first|(refine vV (by first|exact bU rfl|exact eL rfl|exact gQ rfl rfl|exact bY rfl rfl (by omega) (by omega)|exact cX rfl rfl (by omega) (by omega)|exact RM rfl rfl (by omega) (by omega) (by omega)|exact aI rfl rfl|exact eE rfl rfl|exact eQ rfl rfl|exact cY rfl|exact fU rfl rfl|exact kC (jH (n:=t) (by omega))|exact kC (jH (n:=u) (by omega))|exact kC (jH (n:=w) (by omega))|exact kC (jH (n:=e) (by omega))|exact eA rfl rfl (NJ _ _) rfl rfl rfl) ?_)|(refine aL T rfl rfl rfl rfl rfl rfl (by decide) rfl ?_)|(refine gG ?_)|(refine vM rfl rfl ?_ rfl)|(refine bN (bI T rfl) rfl ?_)))|(first|(refine kU ?_)|(refine oF ?_)|(refine lB ?_))|refine wU ?_|(refine wC rfl ?_ ?_<;>(intro hb;(try simp only [nm] at hb);try (exfalso;omega)))));all_goals first
    | (exfalso;omega)
    | (refine cH (.inl rfl) rfl (Y9 ?_ rfl);unfold zH1;rw [show max (w-e-t) 0=w-e-t by omega];done)
    | (refine cH (.inl rfl) rfl (Y9 ?_ rfl);unfold zH1;rw [show max (w-e-t) 0=0 by omega,Int.ediv_eq_zero_of_lt (by omega) (by omega)];done)
end Go.Proofs.YtmmkhmilpeodnaaGreat.R38
namespace Go.Proofs.YtmmkhmilpeodnaaGreat.R37
open Go Go.Ab Go.Pm Go.Proofs.YtmmkhmilpeodnaaGreat
attribute [local irreducible] VC AW bX aT FN
set_option maxHeartbeats 4000000
def tK (n:Nat) (l:List Int):List Bool:=(List.range n).map fun x:Nat=>decide ((x:Int)∈l)
theorem TD (n:Nat) (l:List Int):(tK n l).length=n:=by simp [tK]
theorem WU {n x:Nat}{l:List Int}(h:x<n):(tK n l).getD x false=decide ((x:Int)∈l):=by
  rw [aC,tK,bZ,List.getElem?_range h];rfl
theorem TC {n x:Nat}{l:List Int}(h:x<n):(tK n l).set x true=tK n (l++[(x:Int)]):=by
  refine gY (by simp [tK]) fun i h1 h2=>?_
  rw [zR4];simp only [tK,iV,uI];by_cases e:x=i
  · subst e;simp
  · rw [if_neg e];have:¬ ((i:Int)=(x:Int)):=by omega
    simp [this]
theorem K2 {p:List Int}(h1:∀ x,x∈p→0≤x∧x<p.length) (h2:p.Nodup):permB p=true:=by
  have e:p=nats (p.map Int.toNat):=by
    show p=(p.map Int.toNat).map _;rw [sK]
    conv=>lhs;rw [← rZ p]
    refine iG fun x hx=>?_
    have:=(h1 x hx).1;show x=((x.toNat:Nat):Int);omega
  rw [e];refine NU ⟨?_,fun x hx=>?_⟩
  · rw [e] at h2;exact (V5.1 h2).imp (fun h he=>h (by rw [he]))
  · obtain ⟨y,hy,rfl⟩:=bE.1 hx;have:=h1 y hy;rw [aF];omega
theorem YE {p:List Int}(h:permB p=true):(∀ x,x∈p→0≤x∧x<p.length)∧p.Nodup:=by
  obtain ⟨q,r,rfl⟩:=YF h;refine ⟨fun x hx=>?_,List.Pairwise.map _ (fun a b hab e=>hab (by omega)) r.nd⟩
  obtain ⟨y,hy,rfl⟩:=bE.1 hx;have:=r.lt y hy;rw [KS];omega
theorem refrightP_c (p:List Int) (hl:p.length≤1000000):aT Tryz.prog 66 [.rowE (Go.Ab.ints p) 1] [] (.b (permB p)) []:=by
  have e1:=Go.Ab.ints_length p;refine bK T Tryz.func66 rfl rfl rfl rfl ?_
  (repeat' (first|refine wS ?_|refine wB ?_|(refine rg 0 (aV ?_))|(refine rg 1 (mW rfl (qW T rfl (bN (by exact GV T rfl rfl rfl rfl (by omega) (by omega) (by dsimp only;omega) (by omega) (by decide)) rfl ?_)));refine aV ?_)|(refine rg 2 (aV ?_))|refine nZ ?_));have hz:(List.replicate (((Go.Ab.ints p).length:Int)).toNat [AV.v (Value.bool false)]:List (List AV))=BZ (tK p.length []):=by
    rw [e1,bH];exact gY (by simp [tK]) fun i h1 h2=>by simp [tK]
  refine cO (X:={i:Nat // i≤p.length∧(∀ x,x∈p.take i→0≤x∧x<p.length)∧(p.take i).Nodup}) (fun i=>[(0,.rowE (Go.Ab.ints p) 1),(3,.sl 0 0 p.length 1),(4,.i (i.1:Int))]) (fun i=>[.arr (BZ (tK p.length (p.take i.1))) 1]) (fun i=>p.length-i.1) ⟨0,bW _,by simp,by simp⟩ ⟨[0],rfl,⟨rfl,by show some (AV.sl 0 0 (((Go.Ab.ints p).length:Int)).toNat 1)=some (AV.sl 0 0 p.length 1);rw [e1];rfl,rfl,trivial⟩,⟨.inr (aD rfl hz (FF _)),trivial⟩,by decide,K3⟩ ?_
  rintro ⟨i,hi,hg1,hg2⟩;dsimp only;by_cases hlt:i<p.length
  · have q1:=Go.Ab.ints_gI (l:=p) (j:=(i:Int)) 0 hlt rfl;have hx:p.getD i 0=p[i]:=by rw [aC,aA hlt];rfl
    have hts:=aP hlt;rw [← hx] at hts;have hmem:p.getD i 0∈p:=by rw [hx];exact aH _
    have hpre:=fun h=>(YE (p:=p) h);have hpi:permB p=true→0≤p.getD i 0∧p.getD i 0<p.length:=fun h=>(hpre h).1 _ hmem;have hpn:permB p=true→p.getD i 0∉p.take i:=fun h hm=>by
      have h3:=(hpre h).2;rw [← bR (i+1) p,cP,hts,cP] at h3;exact h3.1.2.2 _ hm _ (by simp) rfl
    clear hpre hx hmem;generalize p.getD i 0=x at *;by_cases hr:0≤x∧x<p.length
    · obtain ⟨k,rfl⟩:=Int.eq_ofNat_of_zero_le hr.1;have hsl:=TD p.length (p.take i);have hbl:=HL (tK p.length (p.take i));have qb:=zC6 (l:=tK p.length (p.take i)) (j:=(k:Int)) (i:=k) (by omega) rfl
      rw [WU (by omega)] at qb
      by_cases hm:((k:Nat):Int)∈p.take i
      · rw [decide_eq_true hm] at qb;have hf:permB p=false:=by rw [← dR];exact fun h=>hpn h hm
        rw [hf]
        (repeat' (first|refine wS ?_|refine wB ?_|refine wK ?_|refine wR ?_|refine wT ?_|(refine wC rfl ?_ ?_<;>(intro hb;(try simp only [nm] at hb);try (exfalso;omega)))|(refine rg 3 (dK rfl (qW T rfl (vV (aI rfl rfl) ?_))))|(refine rg 5 (dK rfl (vV (ix T rfl (by omega) (Go.Ab.ints_len _) q1) (vV (aE T rfl rfl rfl rfl) (vV (aI rfl rfl) (mW rfl (yN rfl (yN rfl (yV (ix T rfl (by omega) (Go.Ab.ints_len _) q1) (yV (aE T rfl rfl rfl rfl) ?_)))))))));refine yN rfl (gT (qW T rfl (yV (gH rfl rfl) (pV ?_)))))|(refine rg 7 (dK rfl (mW rfl (vV (ix T rfl (by omega) (Go.Ab.ints_len _) q1) (vV (aE T rfl rfl rfl rfl) (vV (by exact aK T rfl rfl rfl rfl rfl (by omega) (by omega)) ?_)))));refine vV (by exact aE T rfl rfl (bM rfl qb) rfl) ?_)|(refine rg 8 (aV ?_))|refine nZ ?_));all_goals first | (exfalso;omega) | exact rQ
      · rw [decide_eq_false hm] at qb;have hss:=TC (l:=p.take i) (by omega:k<p.length)
        have hbs:=zC5 (l:=tK p.length (p.take i)) (j:=(k:Int)) (i:=k) (x:=true) rfl;rw [hss,← hts] at hbs;have hn1:∀ x,x∈p.take (i+1)→0≤x∧x<p.length:=fun y hy=>by
          rw [hts] at hy;rcases bG.1 hy with hy | hy
          · exact hg1 y hy
          · rw [aQ.1 hy];exact hr
        have hn2:(p.take (i+1)).Nodup:=by
          rw [hts,cP];exact ⟨hg2,by simp,fun a ha b hb e=>by rw [aQ.1 hb] at e;subst e;exact hm ha⟩
        (repeat' (first|refine wS ?_|refine wB ?_|refine wK ?_|refine wU ?_|(refine wC rfl ?_ ?_<;>(intro hb;(try simp only [nm] at hb);try (exfalso;omega)))|(refine rg 3 (dK rfl (qW T rfl (vV (aI rfl rfl) ?_))))|(refine rg 5 (dK rfl (vV (ix T rfl (by omega) (Go.Ab.ints_len _) q1) (vV (aE T rfl rfl rfl rfl) (vV (aI rfl rfl) (mW rfl (yN rfl (yN rfl (yV (ix T rfl (by omega) (Go.Ab.ints_len _) q1) (yV (aE T rfl rfl rfl rfl) ?_)))))))));refine yN rfl (gT (qW T rfl (yV (gH rfl rfl) (pV ?_)))))|(refine rg 7 (dK rfl (mW rfl (vV (ix T rfl (by omega) (Go.Ab.ints_len _) q1) (vV (aE T rfl rfl rfl rfl) (vV (by exact aK T rfl rfl rfl rfl rfl (by omega) (by omega)) ?_)))));refine vV (by exact aE T rfl rfl (bM rfl qb) rfl) ?_)|(refine rg 9 (dK rfl (mW rfl (vV (ix T rfl (by omega) (Go.Ab.ints_len _) q1) (vV (aE T rfl rfl rfl rfl) (vV (by exact aK T rfl rfl rfl rfl rfl (by omega) (by omega)) ?_)))));refine aL T rfl rfl rfl rfl rfl rfl (by decide) (iJ rfl qb rfl) ?_)|(refine iA 4 rfl rfl rfl (by omega) (by omega) ?_)|refine nZ ?_));all_goals try (exfalso;omega)
        all_goals exact ⟨⟨i+1,hlt,hn1,hn2⟩,by dsimp only;omega,[0],rfl,⟨rfl,rfl,rfl,trivial⟩,⟨.inr (aD rfl hbs (FF _)),trivial⟩,by decide,K3⟩
    · have hf:permB p=false:=by rw [← dR];exact fun h=>hr (hpi h)
      rw [hf]
      (repeat' (first|refine wS ?_|refine wB ?_|refine wK ?_|refine wR ?_|refine wT ?_|(refine wC rfl ?_ ?_<;>(intro hb;(try simp only [nm] at hb);try (exfalso;omega)))|(refine rg 3 (dK rfl (qW T rfl (vV (aI rfl rfl) ?_))))|(refine rg 5 (dK rfl (vV (ix T rfl (by omega) (Go.Ab.ints_len _) q1) (lW T rfl (vV (aI rfl rfl) (mV ?_)))));refine bC rfl rfl ?_ ?_<;>(intro hb;rw [hb];(try simp only [nm] at hb);try (exfalso;omega));(all_goals first|(refine gT (mW rfl (gT (mW rfl (gT (vV (ix T rfl (by omega) (Go.Ab.ints_len _) q1) (gT (lW T rfl (gT (mV ?_)))))))));refine gT (qW T rfl (gT (vV (gH rfl rfl) ?_))))|(iterate 7 refine gF ?_));(all_goals (refine pV ?_)))|(refine rg 6 (aV ?_))|refine nZ ?_));all_goals first | (exfalso;omega) | exact rQ
  · rw [bV (by omega)] at hg1 hg2
    rw [K2 hg1 hg2]
    (repeat' (first|refine wS ?_|refine wR ?_|refine wE ?_|(refine wC rfl ?_ ?_<;>(intro hb;(try simp only [nm] at hb);try (exfalso;omega)))|(refine rg 3 (dK rfl (qW T rfl (vV (aI rfl rfl) ?_))))|(refine rg 10 (aV ?_))|refine nZ ?_));all_goals first | (exfalso;omega) | exact rQ
theorem NQ (n:Int) (h:n≤1000000):aT Tryz.prog 40 [.i n] [] (.sl 0 0 n.toNat 1) [.arr (Go.Ab.ints (nats (List.range n.toNat))) 1]:=by
  refine bK T Tryz.func40 rfl rfl rfl rfl ?_
  (repeat' (first|refine wS ?_|refine wB ?_|(refine rg 0 (aV ?_))|(refine rg 1 (aV ?_))|(refine rg 2 (aV ?_))|refine nZ ?_));refine zC9 3 1 rfl (by decide) ?_
  refine cO (X:={i:Nat // i≤n.toNat}) (fun i=>[(0,.i n),(3,.sl 0 0 i.1 1),(4,.i (i.1:Int))]) (fun i=>[.arr (Go.Ab.ints (nats (List.range i.1))) 1]) (fun i=>n.toNat-i.1) ⟨0,bW _⟩ ⟨[0],rfl,⟨rfl,rfl,rfl,trivial⟩,⟨.inr rfl,trivial⟩,by decide,K3⟩ ?_
  rintro ⟨i,hi⟩;dsimp only;have hl:(Go.Ab.ints (nats (List.range i))).length=i:=by simp
  by_cases hlt:i<n.toNat
  · have hs:Go.Ab.ints (nats (List.range i))++[[AV.i (i:Int)]]=Go.Ab.ints (nats (List.range (i+1))):=by rw [F4,EH]
    (repeat' (first|refine wS ?_|refine wB ?_|refine wK ?_|(refine wC rfl ?_ ?_<;>(intro hb;(try simp only [nm] at hb);try (exfalso;omega)))|(refine rg 3 (dK rfl (vV (aI rfl rfl) ?_)))|(refine rg 5 (dK rfl (bN (by exact bD T rfl rfl (by decide) (by decide) rfl rfl rfl) rfl ?_));refine fY T rfl rfl rfl rfl rfl rfl (by simp) (kP.whole rfl rfl) rfl (by simp;omega) (by simp;omega) rfl ?_;refine aV ?_)|(refine iA 4 rfl rfl rfl (by omega) (by omega) ?_)|refine nZ ?_));all_goals first | (exfalso;omega) | skip
    exact ⟨⟨i+1,hlt⟩,by dsimp only;omega,[2],rfl,⟨rfl,rfl,rfl,trivial⟩,⟨.inr (aD rfl ((mI hl.symm).trans hs) (Go.Ab.ints_idf _)),trivial⟩,by decide,K3⟩
  · obtain rfl:i=n.toNat:=by omega
    (repeat' (first|refine wS ?_|refine wR ?_|refine wE ?_|(refine wC rfl ?_ ?_<;>(intro hb;(try simp only [nm] at hb);try (exfalso;omega)))|(refine rg 3 (dK rfl (vV (aI rfl rfl) ?_)))|(refine rg 6 (mW rfl (aV ?_)))|refine nZ ?_));all_goals first | (exfalso;omega) | exact ⟨.inl rfl,[0],_,rfl,rfl,rfl,⟨.inr (aD rfl rfl (Go.Ab.ints_idf _)),trivial⟩,by decide,K3⟩
theorem refident_c (n:Int) (h:n≤1000000):aT Tryz.prog 40 [.i n] [] (.rowE (Go.Ab.ints (nats (List.range n.toNat))) 1) []:=
  oJ (by simp:n.toNat=(Go.Ab.ints (nats (List.range n.toNat))).length) (Go.Ab.ints_idfF _) (NQ n h)
end Go.Proofs.YtmmkhmilpeodnaaGreat.R37
namespace Go.Proofs.YtmmkhmilpeodnaaGreat
open Go Go.Ab Go.Ld
attribute [local irreducible] VC AW bX aT jU jB
set_option maxHeartbeats 4000000
theorem NP (n k a b m:Int) (ids:List Int) (hl:ids.length≤9223372036854775807) (hn:0≤n∧n≤1000) :
    aT Tryz.prog 53 [.i n,.agg [.i k,.i a,.i b,.i m,.rowE (Go.Ab.ints ids) 1]] [] (.b (gO n ⟨k,a,b,m,ids⟩)) []:=by
  have hil:(Go.Ab.ints ids).length=ids.length:=by simp
  cases hA:fF a 0 (n-1)
  · have hA2:a<0∨n≤a:=by
      rw [← dR] at hA;simp only [fF,aN,decide_eq_true_eq] at hA;omega
    have e:gO n ⟨k,a,b,m,ids⟩=(false):=by rw [kQ];first | (rw [hA];rfl) | (rw [hAb];rcases h1 with h | h;(rw [decide_eq_false (by omega:¬ (k=0∨ids.length=0))];simp);(rw [decide_eq_false (by omega:¬ (k=4∨b=0))];simp)) | (rw [hAb,decide_eq_true hid,decide_eq_true hbz];simp only [eM];first | rw [if_pos k0] | rw [if_neg k0,if_pos k1] | rw [if_neg k0,if_neg k1,if_pos k4] | rw [if_neg k0,if_neg k1,if_neg k4,if_pos k5] | rw [if_neg k0,if_neg k1,if_neg k4,if_neg k5])
    rw [e];refine bK T Tryz.func53 rfl rfl rfl rfl ?_
    (repeat' (first|refine wS ?_|(refine rg 0 (bN (cC rfl rfl) rfl (aV ?_)))|refine nZ ?_));refine dU 3 (cs:=[.i k,.i a,.i b,.i m,.rowE (Go.Ab.ints ids) 1]) rfl rfl rfl ?_
    (repeat' (first|refine wS ?_|refine wR ?_|refine wT ?_|(refine rg 1 (gB T rfl (vV (aI rfl rfl) (mV ?_)));refine bC rfl rfl ?_ ?_<;>(intro hb;rw [hb];(try simp only [nm] at hb);try (exfalso;omega));(all_goals first|(refine gT (fW T rfl (gT (lW T rfl (gT (mW rfl (gT (vV (gH rfl rfl) ?_))))))))|(iterate 4 refine gF ?_));(all_goals (refine pW rfl (mV ?_)));(all_goals first|(refine gK ?_)|(refine bC rfl rfl ?_ ?_<;>(intro hb;rw [hb];(try simp only [nm] at hb);try (exfalso;omega))));(all_goals ((iterate 4 refine gF ?_);(iterate 3 refine gU ?_);refine gF (pW rfl (mV ?_));(iterate 5 refine gF ?_);(iterate 3 refine gU ?_);refine gF (pV ?_))))|(refine rg 2 (aV ?_))|refine nZ ?_));all_goals first | (exfalso;omega) | exact rQ
  · have hAb:=hA;simp only [fF,aN,decide_eq_true_eq] at hA;by_cases h1:k≠0∧0<ids.length∨k≠4∧b≠0
    · have e:gO n ⟨k,a,b,m,ids⟩=(false):=by rw [kQ];first | (rw [hA];rfl) | (rw [hAb];rcases h1 with h | h;(rw [decide_eq_false (by omega:¬ (k=0∨ids.length=0))];simp);(rw [decide_eq_false (by omega:¬ (k=4∨b=0))];simp)) | (rw [hAb,decide_eq_true hid,decide_eq_true hbz];simp only [eM];first | rw [if_pos k0] | rw [if_neg k0,if_pos k1] | rw [if_neg k0,if_neg k1,if_pos k4] | rw [if_neg k0,if_neg k1,if_neg k4,if_pos k5] | rw [if_neg k0,if_neg k1,if_neg k4,if_neg k5])
      rw [e];refine bK T Tryz.func53 rfl rfl rfl rfl ?_
      (repeat' (first|refine wS ?_|(refine rg 0 (bN (cC rfl rfl) rfl (aV ?_)))|refine nZ ?_));refine dU 3 (cs:=[.i k,.i a,.i b,.i m,.rowE (Go.Ab.ints ids) 1]) rfl rfl rfl ?_
      (repeat' (first|refine wS ?_|refine wR ?_|refine wT ?_|(refine wC rfl ?_ ?_<;>(intro hb;(try simp only [nm] at hb);try (exfalso;omega)))|(refine rg 1 (gB T rfl (vV (aI rfl rfl) (mV ?_)));refine bC rfl rfl ?_ ?_<;>(intro hb;rw [hb];(try simp only [nm] at hb);try (exfalso;omega));(all_goals (refine yP T rfl (yO T rfl (yN rfl (yV (gH rfl rfl) (pW rfl (mV ?_)))));refine bC rfl rfl ?_ ?_<;>(intro hb;rw [hb];(try simp only [nm] at hb);try (exfalso;omega))));(all_goals (refine yP T rfl (yO T rfl (yV (eX rfl rfl) (yM ?_)));refine bC rfl rfl ?_ ?_<;>(intro hb;rw [hb];(try simp only [nm] at hb);try (exfalso;omega))));(all_goals first|(refine gT (fW T rfl (gT (lW T rfl (gT (vV (eX rfl rfl) ?_))))))|(iterate 3 refine gF ?_));(all_goals (refine gT (pW rfl (pW rfl (mV ?_)))));(all_goals first|(refine gK ?_)|(refine bC rfl rfl ?_ ?_<;>(intro hb;rw [hb];(try simp only [nm] at hb);try (exfalso;omega))));(all_goals first|(refine gT (fW T rfl (gT (lW T rfl (gT (qW T rfl (gT (vV (eE rfl rfl) (gT (mV ?_))))))))))|(iterate 5 refine gF ?_));(all_goals first|(refine gK ?_)|(refine bC rfl rfl ?_ ?_<;>(intro hb;rw [hb];(try simp only [nm] at hb);try (exfalso;omega))));(all_goals first|(refine gT (fW T rfl (gT (lW T rfl (gT (vV (eX rfl rfl) ?_))))))|(iterate 3 refine gU ?_));(all_goals first|(refine gT (pV ?_))|(refine gF ?_));(all_goals (refine pV ?_)))|(refine rg 2 (aV ?_))|refine nZ ?_));all_goals first | (exfalso;omega) | exact rQ
    · have hid:k=0∨ids.length=0:=by omega
      have hbz:k=4∨b=0:=by omega
      by_cases k0:k=0
      · have e:gO n ⟨k,a,b,m,ids⟩=(decide (m=0)&&CE ids n):=by rw [kQ];first | (rw [hA];rfl) | (rw [hAb];rcases h1 with h | h;(rw [decide_eq_false (by omega:¬ (k=0∨ids.length=0))];simp);(rw [decide_eq_false (by omega:¬ (k=4∨b=0))];simp)) | (rw [hAb,decide_eq_true hid,decide_eq_true hbz];simp only [eM];first | rw [if_pos k0] | rw [if_neg k0,if_pos k1] | rw [if_neg k0,if_neg k1,if_pos k4] | rw [if_neg k0,if_neg k1,if_neg k4,if_pos k5] | rw [if_neg k0,if_neg k1,if_neg k4,if_neg k5])
        rw [e];have hno:=fun (i:Nat) (h:i<ids.length)=>Z3 (l:=ids) (n:=n) h;have hyes:=M7 (l:=ids) (n:=n);generalize CE ids n=R at *;refine bK T Tryz.func53 rfl rfl rfl rfl ?_
        (repeat' (first|refine wS ?_|(refine rg 0 (bN (cC rfl rfl) rfl (aV ?_)))|refine nZ ?_));refine dU 3 (cs:=[.i k,.i a,.i b,.i m,.rowE (Go.Ab.ints ids) 1]) rfl rfl rfl ?_
        (repeat' (first|refine wS ?_|refine wB ?_|refine wK ?_|refine wT ?_|refine wU ?_|(refine wC rfl ?_ ?_<;>(intro hb;(try simp only [nm] at hb);try (exfalso;omega)))|(refine rg 1 (gB T rfl (vV (aI rfl rfl) (mV ?_)));refine bC rfl rfl ?_ ?_<;>(intro hb;rw [hb];(try simp only [nm] at hb);try (exfalso;omega));(all_goals (refine yP T rfl (yO T rfl (yN rfl (yV (gH rfl rfl) (pW rfl (mV ?_)))));refine bC rfl rfl ?_ ?_<;>(intro hb;rw [hb];(try simp only [nm] at hb);try (exfalso;omega))));(all_goals (refine yP T rfl (yO T rfl (yV (eX rfl rfl) (yM ?_)));refine bC rfl rfl ?_ ?_<;>(intro hb;rw [hb];(try simp only [nm] at hb);try (exfalso;omega))));(all_goals ((iterate 3 refine gF ?_);refine gT (pW rfl (pW rfl (mW rfl (yP T rfl (yO T rfl (gT (qW T rfl (yV (eE rfl rfl) (yM ?_)))))))));refine bC rfl rfl ?_ ?_<;>(intro hb;rw [hb];(try simp only [nm] at hb);try (exfalso;omega))));(all_goals first|(refine gT (fW T rfl (gT (lW T rfl (gT (vV (eX rfl rfl) ?_))))))|(iterate 3 refine gF ?_));(all_goals (refine gT (pW rfl (pV ?_)))))|(refine rg 3 (LR T ?_))|(refine rg 4 (vV (gX rfl rfl (by omega)) (aV ?_)))|(refine rg 5 (aV ?_))|(refine rg 6 (aV ?_))|refine nZ ?_));all_goals try (exfalso;omega)
        all_goals
          refine cO (X:={x:Nat × Int // x.1≤ids.length∧-1≤x.2∧(x.1=0→x.2 = -1)∧(0<x.1→x.2=ids.getD (x.1-1) 0)∧∀ i,i<x.1→zX ids n i}) (fun x=>[(0,.i n),(3,.pr [.i k,.i a,.i b,.i m,.rowE (Go.Ab.ints ids) 1] 0),(5,.i x.1.2),(6,.i (x.1.1:Int))]) (fun _=>[]) (fun x=>ids.length-x.1.1) ⟨(0,-1),bW _,dC _,fun _=>rfl,fun h=>absurd h (yI9 _),K3⟩ (fA []) ?_;rintro ⟨⟨i,la⟩,hi,hm1,hi0,hi1,hall⟩;dsimp only at hi hm1 hi0 hi1 hall ⊢;by_cases hlt:i<ids.length
          · have hno:=hno i hlt;have q1:=ints_gI (l:=ids) (j:=(i:Int)) (i:=i) 0 hlt rfl;have hok:zX ids n i↔la<ids.getD i 0∧ids.getD i 0≤n-1:=by
              unfold zX;by_cases e0:i=0
              · have:=hi0 e0;constructor
                · rintro ⟨h1,h2,h3⟩;omega
                · rintro ⟨h1,h2⟩;exact ⟨by omega,h2,fun q=>by omega⟩
              · have h4:=hi1 (by omega)
                have h5:=hall (i-1) (by omega)
                unfold zX at h5;constructor
                · rintro ⟨h1,h2,h3⟩;exact ⟨by have:=h3 (by omega);omega,h2⟩
                · rintro ⟨h1,h2⟩;exact ⟨by omega,h2,fun q=>by omega⟩
            have hsn:(i+1-1)=i:=by omega
            by_cases hk:la<ids.getD i 0∧ids.getD i 0≤n-1
            · have hall2:∀ j,j<i+1→zX ids n j:=fun j hj=>by
                by_cases e1:j=i
                · rw [e1];exact hok.2 hk
                · exact hall j (by omega)
              generalize hv:ids.getD i 0=v at *
              (repeat' (first|refine wS ?_|refine wB ?_|refine wK ?_|refine wU ?_|(refine wC rfl ?_ ?_<;>(intro hb;(try simp only [nm] at hb);try (exfalso;omega)))|(refine rg 7 (mW rfl (gB T rfl (qW T rfl (vV (aI rfl rfl) ?_)))))|(refine rg 9 (gB T rfl (mW rfl (vV (ix T rfl (by omega) (Go.Ab.ints_len _) q1) (lW T rfl (mW rfl (vV (L4 rfl rfl (by omega)) (mW rfl (yP T rfl (yL T ?_)))))))));refine yN rfl (yV (ix T rfl (by omega) (Go.Ab.ints_len _) q1) (yO T rfl (yN rfl (yV (zN6 rfl rfl (by omega)) (pV ?_))))))|(refine rg 11 (gB T rfl (mW rfl (vV (ix T rfl (by omega) (Go.Ab.ints_len _) q1) (lW T rfl (aV ?_))))))|(refine iA 8 rfl rfl rfl (by omega) (by omega) ?_)|refine nZ ?_));all_goals try (exfalso;omega)
              all_goals exact ⟨⟨(i+1,v),hlt,by dsimp only;omega,fun h=>absurd h (Nat.succ_ne_zero i),fun _=>by dsimp only;rw [hsn,hv],hall2⟩,by dsimp only;omega,fA []⟩
            · have hR:=hno (fun q=>hk (hok.1 q));subst hR;rw [Bool.and_false];generalize ids.getD i 0=v at *;by_cases hk2:la<v
              · (repeat' (first|refine wS ?_|refine wB ?_|refine wK ?_|refine wR ?_|refine rX rfl ?_|(refine wC rfl (fun hb=>?_) (fun hb=>?_) <;> (((try simp only [nm] at hb);try (exfalso;omega))))|(refine rg 7 (mW rfl (gB T rfl (qW T rfl (vV (aI rfl rfl) ?_)))))|(refine rg 9 (gB T rfl (mW rfl (vV (ix T rfl (by omega) (Go.Ab.ints_len _) q1) (lW T rfl (mW rfl (vV (L4 rfl rfl (by omega)) (mW rfl (yP T rfl (yL T ?_)))))))));refine yN rfl (yV (ix T rfl (by omega) (Go.Ab.ints_len _) q1) (yO T rfl (yN rfl (yV (zN5 rfl rfl (by omega)) (pV ?_))))))|(refine rg 10 (aV ?_))|(refine nZ ?_)));all_goals first | (exfalso;omega) | exact rQ
              · (repeat' (first|refine wS ?_|refine wB ?_|refine wK ?_|refine wR ?_|refine rX rfl ?_|(refine wC rfl (fun hb=>?_) (fun hb=>?_) <;> (((try simp only [nm] at hb);try (exfalso;omega))))|(refine rg 7 (mW rfl (gB T rfl (qW T rfl (vV (aI rfl rfl) ?_)))))|(refine rg 9 (gB T rfl (mW rfl (vV (ix T rfl (by omega) (Go.Ab.ints_len _) q1) (lW T rfl (mW rfl (vV (E4 rfl rfl (by omega)) (mV ?_)))))));(iterate 7 refine gF ?_);refine pV ?_)|(refine rg 10 (aV ?_))|(refine nZ ?_)));all_goals first | (exfalso;omega) | exact rQ
          · have hR:=hyes (fun i hi=>hall i (by omega))
            subst hR;rw [yJ2]
            (repeat' (first|refine wS ?_|refine wR ?_|refine wE ?_|(refine wC rfl ?_ ?_<;>(intro hb;(try simp only [nm] at hb);try (exfalso;omega)))|(refine rg 7 (mW rfl (gB T rfl (qW T rfl (vV (aI rfl rfl) ?_)))))|(refine rg 12 (gB T rfl (vV (eQ rfl rfl) (aV ?_))))|refine nZ ?_));all_goals first | (exfalso;omega) | exact rQ
      · by_cases k1:k=1∨k=2∨k=3
        · have e:gO n ⟨k,a,b,m,ids⟩=(fF m 0 1099511627776):=by rw [kQ];first | (rw [hA];rfl) | (rw [hAb];rcases h1 with h | h;(rw [decide_eq_false (by omega:¬ (k=0∨ids.length=0))];simp);(rw [decide_eq_false (by omega:¬ (k=4∨b=0))];simp)) | (rw [hAb,decide_eq_true hid,decide_eq_true hbz];simp only [eM];first | rw [if_pos k0] | rw [if_neg k0,if_pos k1] | rw [if_neg k0,if_neg k1,if_pos k4] | rw [if_neg k0,if_neg k1,if_neg k4,if_pos k5] | rw [if_neg k0,if_neg k1,if_neg k4,if_neg k5])
          rw [e];refine bK T Tryz.func53 rfl rfl rfl rfl ?_
          (repeat' (first|refine wS ?_|(refine rg 0 (bN (cC rfl rfl) rfl (aV ?_)))|refine nZ ?_));refine dU 3 (cs:=[.i k,.i a,.i b,.i m,.rowE (Go.Ab.ints ids) 1]) rfl rfl rfl ?_
          (repeat' (first|refine wS ?_|refine wB ?_|refine wK ?_|refine wR ?_|refine wT ?_|refine wU ?_|(refine wC rfl ?_ ?_<;>(intro hb;(try simp only [nm] at hb);try (exfalso;omega)))|(refine rg 1 (gB T rfl (vV (aI rfl rfl) (mV ?_)));refine bC rfl rfl ?_ ?_<;>(intro hb;rw [hb];(try simp only [nm] at hb);try (exfalso;omega));(all_goals (refine yP T rfl (yO T rfl (yN rfl (yV (gH rfl rfl) (pW rfl (mV ?_)))));refine bC rfl rfl ?_ ?_<;>(intro hb;rw [hb];(try simp only [nm] at hb);try (exfalso;omega))));(all_goals (refine yP T rfl (yO T rfl (yV (eX rfl rfl) (yM ?_)));refine bC rfl rfl ?_ ?_<;>(intro hb;rw [hb];(try simp only [nm] at hb);try (exfalso;omega))));(all_goals ((iterate 3 refine gF ?_);refine gT (pW rfl (pW rfl (mW rfl (yP T rfl (yO T rfl (gT (qW T rfl (yV (eE rfl rfl) (yM ?_)))))))));refine bC rfl rfl ?_ ?_<;>(intro hb;rw [hb];(try simp only [nm] at hb);try (exfalso;omega))));(all_goals ((iterate 3 refine gF ?_);refine gT (pW rfl (pV ?_)))))|(refine rg 3 (LR T ?_))|(refine rg 4 (vV (dQ rfl rfl (by omega)) (aV ?_)))|(refine rg 13 (vV (dQ rfl rfl (by omega)) (aV ?_)))|(refine rg 15 (vV (dQ rfl rfl (by omega)) (aV ?_)))|(refine rg 17 (vV (eQ rfl rfl) (aV ?_)))|(refine rg 18 (vV (eQ rfl rfl) (aV ?_)))|(refine rg 19 (vV (gX rfl rfl (by omega)) (aV ?_)))|(refine rg 20 (gB T rfl (vV (gH rfl rfl) (mV ?_)));refine bC rfl rfl ?_ ?_<;>(intro hb;rw [hb];(try simp only [nm] at hb);try (exfalso;omega));(all_goals first|(refine gT (fW T rfl (gT (lW T rfl (gT (vV (lA rfl rfl) ?_))))))|(iterate 3 refine gF ?_));(all_goals (refine pW rfl (aV ?_))))|refine nZ ?_));all_goals first | (exfalso;omega) | (refine cH (.inl rfl) rfl (mB ?_);rw [jP];simp [fF, *];try omega)
        · by_cases k4:k=4
          · have e:gO n ⟨k,a,b,m,ids⟩=(decide (m=0)&&fF b (a+1) (n-1)):=by rw [kQ];first | (rw [hA];rfl) | (rw [hAb];rcases h1 with h | h;(rw [decide_eq_false (by omega:¬ (k=0∨ids.length=0))];simp);(rw [decide_eq_false (by omega:¬ (k=4∨b=0))];simp)) | (rw [hAb,decide_eq_true hid,decide_eq_true hbz];simp only [eM];first | rw [if_pos k0] | rw [if_neg k0,if_pos k1] | rw [if_neg k0,if_neg k1,if_pos k4] | rw [if_neg k0,if_neg k1,if_neg k4,if_pos k5] | rw [if_neg k0,if_neg k1,if_neg k4,if_neg k5])
            rw [e];refine bK T Tryz.func53 rfl rfl rfl rfl ?_
            (repeat' (first|refine wS ?_|(refine rg 0 (bN (cC rfl rfl) rfl (aV ?_)))|refine nZ ?_));refine dU 3 (cs:=[.i k,.i a,.i b,.i m,.rowE (Go.Ab.ints ids) 1]) rfl rfl rfl ?_
            (repeat' (first|refine wS ?_|refine wB ?_|refine wK ?_|refine wR ?_|refine wT ?_|refine wU ?_|(refine rg 1 (gB T rfl (vV (aI rfl rfl) (mV ?_)));refine bC rfl rfl ?_ ?_<;>(intro hb;rw [hb];(try simp only [nm] at hb);try (exfalso;omega));(all_goals (refine yP T rfl (yO T rfl (yN rfl (yV (gH rfl rfl) (pW rfl (mV ?_)))));refine bC rfl rfl ?_ ?_<;>(intro hb;rw [hb];(try simp only [nm] at hb);try (exfalso;omega))));(all_goals (refine yP T rfl (yO T rfl (yV (eX rfl rfl) (yM ?_)));refine bC rfl rfl ?_ ?_<;>(intro hb;rw [hb];(try simp only [nm] at hb);try (exfalso;omega))));(all_goals first|(refine gT (fW T rfl (gT (lW T rfl (gT (vV (eX rfl rfl) ?_))))))|(iterate 3 refine gF ?_));(all_goals (refine gT (pW rfl (pW rfl (mV ?_)))));(all_goals first|(refine gK ?_)|(refine bC rfl rfl ?_ ?_<;>(intro hb;rw [hb];(try simp only [nm] at hb);try (exfalso;omega))));(all_goals (refine yP T rfl (yO T rfl (gT (qW T rfl (yV (eE rfl rfl) (yM ?_)))));refine bC rfl rfl ?_ ?_<;>(intro hb;rw [hb];(try simp only [nm] at hb);try (exfalso;omega))));(all_goals ((iterate 3 refine gF ?_);refine gT (pW rfl (pV ?_)))))|(refine rg 3 (LR T ?_))|(refine rg 4 (vV (dQ rfl rfl (by omega)) (aV ?_)))|(refine rg 13 (vV (gX rfl rfl (by omega)) (aV ?_)))|(refine rg 14 (gB T rfl (vV (eQ rfl rfl) (mV ?_)));refine bC rfl rfl ?_ ?_<;>(intro hb;rw [hb];(try simp only [nm] at hb);try (exfalso;omega));(all_goals first|(refine gT (fW T rfl (gT (lW T rfl (gT (fW T rfl (gT (lW T rfl (gT (vV (eE rfl rfl) ?_))))))))))|(iterate 5 refine gF ?_));(all_goals (refine pW rfl (mV ?_)));(all_goals first|(refine gK ?_)|(refine bC rfl rfl ?_ ?_<;>(intro hb;rw [hb];(try simp only [nm] at hb);try (exfalso;omega))));(all_goals first|(refine gT (fW T rfl (gT (lW T rfl (gT (mW rfl (gT (vV (aI rfl rfl) ?_))))))))|(iterate 4 refine gF ?_));(all_goals (refine pW rfl (aV ?_))))|refine nZ ?_));all_goals first | (exfalso;omega) | (refine cH (.inl rfl) rfl (mB ?_);rw [jP];simp [fF, *];try omega)
          · by_cases k5:k=5
            · have e:gO n ⟨k,a,b,m,ids⟩=(fF m 0 (n-1)):=by rw [kQ];first | (rw [hA];rfl) | (rw [hAb];rcases h1 with h | h;(rw [decide_eq_false (by omega:¬ (k=0∨ids.length=0))];simp);(rw [decide_eq_false (by omega:¬ (k=4∨b=0))];simp)) | (rw [hAb,decide_eq_true hid,decide_eq_true hbz];simp only [eM];first | rw [if_pos k0] | rw [if_neg k0,if_pos k1] | rw [if_neg k0,if_neg k1,if_pos k4] | rw [if_neg k0,if_neg k1,if_neg k4,if_pos k5] | rw [if_neg k0,if_neg k1,if_neg k4,if_neg k5])
              rw [e];refine bK T Tryz.func53 rfl rfl rfl rfl ?_
              (repeat' (first|refine wS ?_|(refine rg 0 (bN (cC rfl rfl) rfl (aV ?_)))|refine nZ ?_));refine dU 3 (cs:=[.i k,.i a,.i b,.i m,.rowE (Go.Ab.ints ids) 1]) rfl rfl rfl ?_
              (repeat' (first|refine wS ?_|refine wB ?_|refine wK ?_|refine wR ?_|refine wT ?_|refine wU ?_|(refine rg 1 (gB T rfl (vV (aI rfl rfl) (mV ?_)));refine bC rfl rfl ?_ ?_<;>(intro hb;rw [hb];(try simp only [nm] at hb);try (exfalso;omega));(all_goals (refine yP T rfl (yO T rfl (yN rfl (yV (gH rfl rfl) (pW rfl (mV ?_)))));refine bC rfl rfl ?_ ?_<;>(intro hb;rw [hb];(try simp only [nm] at hb);try (exfalso;omega))));(all_goals (refine yP T rfl (yO T rfl (yV (eX rfl rfl) (yM ?_)));refine bC rfl rfl ?_ ?_<;>(intro hb;rw [hb];(try simp only [nm] at hb);try (exfalso;omega))));(all_goals ((iterate 3 refine gF ?_);refine gT (pW rfl (pW rfl (mW rfl (yP T rfl (yO T rfl (gT (qW T rfl (yV (eE rfl rfl) (yM ?_)))))))));refine bC rfl rfl ?_ ?_<;>(intro hb;rw [hb];(try simp only [nm] at hb);try (exfalso;omega))));(all_goals ((iterate 3 refine gF ?_);refine gT (pW rfl (pV ?_)))))|(refine rg 3 (LR T ?_))|(refine rg 4 (vV (dQ rfl rfl (by omega)) (aV ?_)))|(refine rg 13 (vV (dQ rfl rfl (by omega)) (aV ?_)))|(refine rg 15 (vV (gX rfl rfl (by omega)) (aV ?_)))|(refine rg 16 (gB T rfl (vV (gH rfl rfl) (mV ?_)));refine bC rfl rfl ?_ ?_<;>(intro hb;rw [hb];(try simp only [nm] at hb);try (exfalso;omega));(all_goals first|(refine gT (fW T rfl (gT (lW T rfl (gT (mW rfl (gT (vV (aI rfl rfl) ?_))))))))|(iterate 4 refine gF ?_));(all_goals (refine pW rfl (aV ?_))))|refine nZ ?_));all_goals first | (exfalso;omega) | (refine cH (.inl rfl) rfl (mB ?_);rw [jP];simp [fF, *];try omega)
            · have e:gO n ⟨k,a,b,m,ids⟩=(false):=by rw [kQ];first | (rw [hA];rfl) | (rw [hAb];rcases h1 with h | h;(rw [decide_eq_false (by omega:¬ (k=0∨ids.length=0))];simp);(rw [decide_eq_false (by omega:¬ (k=4∨b=0))];simp)) | (rw [hAb,decide_eq_true hid,decide_eq_true hbz];simp only [eM];first | rw [if_pos k0] | rw [if_neg k0,if_pos k1] | rw [if_neg k0,if_neg k1,if_pos k4] | rw [if_neg k0,if_neg k1,if_neg k4,if_pos k5] | rw [if_neg k0,if_neg k1,if_neg k4,if_neg k5])
              rw [e];refine bK T Tryz.func53 rfl rfl rfl rfl ?_
              (repeat' (first|refine wS ?_|(refine rg 0 (bN (cC rfl rfl) rfl (aV ?_)))|refine nZ ?_));refine dU 3 (cs:=[.i k,.i a,.i b,.i m,.rowE (Go.Ab.ints ids) 1]) rfl rfl rfl ?_
              (repeat' (first|refine wS ?_|refine wB ?_|refine wK ?_|refine wR ?_|refine wU ?_|(refine rg 1 (gB T rfl (vV (aI rfl rfl) (mV ?_)));refine bC rfl rfl ?_ ?_<;>(intro hb;rw [hb];(try simp only [nm] at hb);try (exfalso;omega));(all_goals (refine yP T rfl (yO T rfl (yN rfl (yV (gH rfl rfl) (pW rfl (mV ?_)))));refine bC rfl rfl ?_ ?_<;>(intro hb;rw [hb];(try simp only [nm] at hb);try (exfalso;omega))));(all_goals (refine yP T rfl (yO T rfl (yV (eX rfl rfl) (yM ?_)));refine bC rfl rfl ?_ ?_<;>(intro hb;rw [hb];(try simp only [nm] at hb);try (exfalso;omega))));(all_goals ((iterate 3 refine gF ?_);refine gT (pW rfl (pW rfl (mW rfl (yP T rfl (yO T rfl (gT (qW T rfl (yV (eE rfl rfl) (yM ?_)))))))));refine bC rfl rfl ?_ ?_<;>(intro hb;rw [hb];(try simp only [nm] at hb);try (exfalso;omega))));(all_goals ((iterate 3 refine gF ?_);refine gT (pW rfl (pV ?_)))))|(refine rg 3 (LR T ?_))|(refine rg 4 (vV (dQ rfl rfl (by omega)) (aV ?_)))|(refine rg 13 (vV (dQ rfl rfl (by omega)) (aV ?_)))|(refine rg 15 (vV (dQ rfl rfl (by omega)) (aV ?_)))|(refine rg 17 (vV (dQ rfl rfl (by omega)) (aV ?_)))|(refine rg 18 (vV (dQ rfl rfl (by omega)) (aV ?_)))|(refine rg 19 (vV (dQ rfl rfl (by omega)) (aV ?_)))|(refine rg 21 (aV ?_))|refine nZ ?_));all_goals first | (exfalso;omega) | exact rQ
end Go.Proofs.YtmmkhmilpeodnaaGreat
namespace Go.Ld
open Go.Ab Go.Proofs.YtmmkhmilpeodnaaGreat
def yU (t x:W):Bool:=decide (t.1=x.1)&&decide (t.2.2=x.2.2)
theorem P7 {t x:W}:yU t x=true↔t.1=x.1∧t.2.2=x.2.2:=by unfold yU;simp
theorem IJ:∀ {l:List W}{x:W}{k:Nat}(hk:k<l.length),(∀ i (h:i<k),yU (l[i]'(by omega)) x=false)→yU l[k] x=true→kJ l x=l.set k (l[k].1,min l[k].2.1 x.2.1,l[k].2.2)
  | [],_,_,hk,_,_=>by simp at hk
  | t::l,x,0,_,_,h=>by
    have h:t.1=x.1∧t.2.2=x.2.2:=P7.1 h;unfold kJ;rw [if_pos h];rfl
  | t::l,x,k+1,hk,h0,h=>by
    have hn:¬ (t.1=x.1∧t.2.2=x.2.2):=fun q=>by
      have:=h0 0 (by omega)
      rw [show (t::l)[0]=t from rfl,P7.2 q] at this;cases this
    have ih:=IJ (l:=l) (x:=x) (k:=k) (by simpa using hk) (fun i hi=>h0 (i+1) (by omega)) h
    unfold kJ;rw [if_neg hn,ih];rfl
theorem DB:∀ {l:List W}{x:W},(∀ i (h:i<l.length),yU l[i] x=false)→kJ l x=l++[x]
  | [],_,_=>rfl
  | t::l,x,h0=>by
    have hn:¬ (t.1=x.1∧t.2.2=x.2.2):=fun q=>by
      have:=h0 0 (by simp)
      rw [show (t::l)[0]=t from rfl,P7.2 q] at this;cases this
    unfold kJ;rw [if_neg hn,DB fun i hi=>h0 (i+1) (by simpa using hi)];rfl
def zM5 (l:List W) (x:W):Bool:=l.any fun t=>yU t x
theorem IH {l:List W}{k:Nat}(h:k<l.length):(fH l)[0+(k:Int).toNat]? = some (wA l[k]):=by simp [h]
theorem VR {l:List W}{k:Nat}(x:W):(fH l).set (0+(k:Int).toNat) (wA x)=fH (l.set k x):=by simp [sJ]
theorem pE (l:List W):(fH l).length=l.length:=aF _
theorem VQ (l:List W) (x:W):fH l++[wA x]=fH (l++[x]):=by simp
theorem gV (l:List W):∀ e,e∈fH l→AV.idfL e=true:=by intro e he;obtain ⟨n,_,rfl⟩:=bE.1 he;rfl
theorem PY {l:List SP}{k:Nat}(h:k<l.length):(cT l)[(k:Int).toNat]? = some [AV.i l[k].1,AV.i l[k].2]:=by simp [h]
theorem pB (l:List SP):∀ e,e∈cT l→e.length=2:=by intro e he;obtain ⟨n,_,rfl⟩:=bE.1 he;rfl
end Go.Ld
namespace Go.Ab
open Go
section
variable {P:Program}{env:eH}{h:Hp}{d:Option Nat}{ty:TypeId}{pos:String}{af:Array Edge}{g:Option (Nat × Bool)}
theorem LL {t t2:TypeId}{k:IntKind}{x y:Operand}{a b:Int}(ht:jB P t 2) (hx:evu env x=some (.agg [.v (.int k a),.v (.int k b)])) (hy:evu env y=some (.agg [.v (.int k a),.v (.int k b)])) :
    bX P ⟨d,.binOp .neq t x y t2,ty,pos,af,g⟩ env h 0 (fun _=>.b false) (fun _=>[]):=by
  have:bX P ⟨d,.binOp .neq t x y t2,ty,pos,af,g⟩ env h 0 (fun _=>.b (!decide ([a,b]=[a,b]))) (fun _=>[]):=xO ht hx hy rfl rfl;simpa using this
theorem zA2 {t t2:TypeId}{x y:Operand}{a b a' b':Int}(ht:jB P t 2) (hx:evu env x=some (.agg [.i a,.i b])) (hy:evu env y=some (.agg [.i a',.i b'])) (e:(decide (a=a')&&decide (b=b'))=false) :
    bX P ⟨d,.binOp .neq t x y t2,ty,pos,af,g⟩ env h 0 (fun _=>.b true) (fun _=>[]):=by
  have:bX P ⟨d,.binOp .neq t x y t2,ty,pos,af,g⟩ env h 0 (fun _=>.b (!decide ([a,b]=[a',b']))) (fun _=>[]):=xO ht hx hy rfl rfl;have hn:¬ ([a,b]=[a',b']):=fun q=>by
    simp only [List.cons.injEq] at q;rw [decide_eq_true q.1,decide_eq_true q.2.1] at e;cases e
  rw [decide_eq_false hn] at this;exact this
end
end Go.Ab
namespace Go.Proofs.YtmmkhmilpeodnaaGreat
open Go Go.Ab Go.Ld
attribute [local irreducible] VC AW bX aT jU jB
set_option maxHeartbeats 4000000
theorem zJ0 {ks:List KD}{ls:List LT}{ps:List Int}{bs:List BX}(f:yF7 ks ls ps bs){lot:Int}(h:lot<ls.length):aT Tryz.prog 111 [.rowE (fQ ks) 2,.rowE (iS ls) 3,.i lot] [] (.i (nE ks ls lot)) []:=by
  unfold nE;by_cases h0:lot<0
  · rw [if_pos h0];refine bK T Tryz.func111 rfl rfl rfl rfl ?_
    (repeat' (first|refine wS ?_|refine wR ?_|(refine wC rfl ?_ ?_<;>(intro hb;(try simp only [nm] at hb);try (exfalso;omega)))|(refine rg 0 (aV ?_))|(refine rg 1 (mW rfl (vV (aI rfl rfl) ?_)))|(refine rg 2 (aV ?_))|refine nZ ?_));all_goals first | (exfalso;omega) | exact rQ
  · rw [if_neg h0];have hl:lot.toNat<ls.length:=by omega
    have h1:=f.l lot.toNat hl;have hk:ls[lot.toNat].1.toNat<ks.length:=by omega
    have e1:ls.getD lot.toNat (0,0,false)=ls[lot.toNat]:=by rw [aC,aA hl];rfl
    rw [e1];have e2:ks.getD ls[lot.toNat].1.toNat (⟨#[]⟩,0)=ks[ls[lot.toNat].1.toNat]:=by rw [aC,aA hk];rfl
    rw [e2];have q1:=vZ hl;have q2:=tE hk;have hll:(iS ls).length=ls.length:=aF _;have hkl:(fQ ks).length=ks.length:=aF _;generalize ks[ls[lot.toNat].1.toNat]=kd at *;generalize ls[lot.toNat]=lt at *;refine bK T Tryz.func111 rfl rfl rfl rfl ?_
    (repeat' (first|refine wS ?_|refine wK ?_|refine wR ?_|(refine wC rfl ?_ ?_<;>(intro hb;(try simp only [nm] at hb);try (exfalso;omega)))|(refine rg 0 (aV ?_))|(refine rg 1 (mW rfl (vV (aI rfl rfl) ?_)))|(refine rg 3 (dK rfl (mW rfl (vV (ix T rfl (by omega) (oU ls) q1) (gB T rfl (vV (ix T rfl (by omega) (nK ks) q2) (gB T rfl (aV ?_))))))))|refine nZ ?_));all_goals first | (exfalso;omega) | exact rQ
theorem T4 (a b:List SP) (ha:a.length≤1000000):aT Tryz.prog 114 [.rowE (cT a) 2,.rowE (cT b) 2] [] (.b (decide (a=b))) []:=by
  have hal:(cT a).length=a.length:=aF _;have hbl:(cT b).length=b.length:=aF _;refine bK T Tryz.func114 rfl rfl rfl rfl ?_
  (repeat' (first|refine wS ?_|refine wB ?_|(refine rg 0 (aV ?_))|(refine rg 1 (aV ?_))|refine nZ ?_));refine cO (X:={i:Nat // i≤a.length∧i≤b.length∧a.take i=b.take i}) (fun i=>[(0,.rowE (cT a) 2),(1,.rowE (cT b) 2),(5,.i i.1)]) (fun _=>[]) (fun i=>a.length-i.1) ⟨0,by omega,by omega,rfl⟩ (fA []) ?_
  rintro ⟨i,hi,hib,hg⟩;dsimp only at hi hib hg ⊢;by_cases hlt:i<a.length∧i<b.length
  · obtain ⟨hlt,hlb⟩:=hlt;have q1:=PY hlt;have q2:=PY hlb;have hne:a[i]≠b[i]→decide (a=b)=false:=fun e=>decide_eq_false (fun h=>e (by subst h;rfl))
    have hta:a.take (i+1)=a.take i++[a[i]]:=aP hlt;have htb:b.take (i+1)=b.take i++[b[i]]:=aP hlb;generalize a[i]=x at *;generalize b[i]=y at *;obtain ⟨x1,x2⟩:=x;obtain ⟨y1,y2⟩:=y;dsimp only at *;by_cases e:(x1,x2)=(y1,y2)
    · simp only [Prod.mk.injEq] at e;obtain ⟨rfl,rfl⟩:=e
      (repeat' (first|refine wS ?_|refine wB ?_|refine wK ?_|refine wU ?_|(refine wC rfl ?_ ?_<;>(intro hb;(try simp only [nm] at hb);try (exfalso;omega)))|(refine rg 2 (dK rfl (qW T rfl (vV (aI rfl rfl) (mV ?_))));refine bC rfl rfl ?_ ?_<;>(intro hb;rw [hb];(try simp only [nm] at hb);try (exfalso;omega));(all_goals (refine yN rfl (yN rfl (gT (qW T rfl (yV (aI rfl rfl) (pV ?_))))))))|(refine bQ (id:=4) 32 yQ1 (rM 18 9) yQ3 cF rfl (by decide +kernel) (dN rfl (dN rfl (dV rfl (ix T rfl (by omega) (pB a) q1) (dO T rfl (dN rfl (dN rfl (dV rfl (ix T rfl (by omega) (pB b) q2) (dO T rfl (dV rfl (LL JC rfl rfl) ?_)))))))));refine dE ?_)|(refine iA 3 rfl rfl rfl (by omega) (by omega) ?_)|refine nZ ?_));all_goals try (exfalso;omega)
      refine ⟨⟨i+1,hlt,hlb,?_⟩,by dsimp only;omega,fA []⟩
      rw [hta,htb,hg]
    · rw [hne e];have hd:(decide (x1=y1)&&decide (x2=y2))=false:=by
        rw [qT];intro h;simp only [aN,decide_eq_true_eq] at h;exact e (by rw [h.1,h.2])
      (repeat' (first|refine wS ?_|refine wB ?_|refine wK ?_|refine wR ?_|refine wT ?_|(refine wC rfl ?_ ?_<;>(intro hb;(try simp only [nm] at hb);try (exfalso;omega)))|(refine rg 2 (dK rfl (qW T rfl (vV (aI rfl rfl) (mV ?_))));refine bC rfl rfl ?_ ?_<;>(intro hb;rw [hb];(try simp only [nm] at hb);try (exfalso;omega));(all_goals (refine yN rfl (yN rfl (gT (qW T rfl (yV (aI rfl rfl) (pV ?_))))))))|(refine bQ (id:=4) 32 yQ1 (rM 18 9) yQ3 cF rfl (by decide +kernel) (dN rfl (dN rfl (dV rfl (ix T rfl (by omega) (pB a) q1) (dO T rfl (dN rfl (dN rfl (dV rfl (ix T rfl (by omega) (pB b) q2) (dO T rfl (dV rfl (zA2 JC rfl rfl hd) ?_)))))))));refine dE ?_)|(refine rg 5 (aV ?_))|refine nZ ?_));all_goals first | (exfalso;omega) | exact rQ
  · have hd:decide (a=b)=decide ((a.length:Int)=b.length):=by
      rw [jP,decide_eq_true_eq,decide_eq_true_eq];constructor
      · intro h;rw [h]
      · intro h;rw [bV (by omega),bV (by omega)] at hg
        exact hg
    rw [hd]
    (repeat' (first|refine wS ?_|refine wR ?_|refine wE ?_|refine wU ?_|(refine wC rfl ?_ ?_<;>(intro hb;(try simp only [nm] at hb);try (exfalso;omega)))|(refine rg 2 (dK rfl (qW T rfl (vV (aI rfl rfl) (mV ?_))));refine bC rfl rfl ?_ ?_<;>(intro hb;rw [hb];(try simp only [nm] at hb);try (exfalso;omega));(all_goals first|(refine gT (mW rfl (gT (mW rfl (gT (qW T rfl (gT (vV (aI rfl rfl) ?_))))))))|(iterate 4 refine gF ?_));(all_goals (refine pV ?_)))|(refine rg 6 (mW rfl (qW T rfl (mW rfl (qW T rfl (vV (eQ rfl rfl) (aV ?_)))))))|refine nZ ?_));all_goals first | (exfalso;omega) | (refine cH (.inl rfl) rfl (mB ?_);rw [hal,hbl])
theorem JO (l:List W) (x:W) (hl:l.length≤1000000) (hb:∀ t,t∈l→t.1.length≤1000∧t.2.2.length≤1000) (hx:zM5 l x=true) :
    aT Tryz.prog 55 [.sl 0 0 l.length 3,.agg (wA x)] [.arr (fH l) 3] (.sl 0 0 (kJ l x).length 3) [.arr (fH (kJ l x)) 3]:=by
  have hll:(fH l).length=l.length:=pE l;have hat:=fun k hk h0 h=>IJ (l:=l) (x:=x) (k:=k) hk h0 h;obtain ⟨px,mx,cx⟩:=x;refine bK T Tryz.func55 rfl rfl rfl rfl ?_
  (repeat' (first|refine wS ?_|(refine rg 0 (bN (cC rfl rfl) rfl (aV ?_)))|refine nZ ?_));refine dU 3 (cs:=[.rowE (ints px) 1,.i mx,.rowE (cT cx) 2]) rfl rfl rfl ?_
  (repeat' (first|refine wB ?_|(refine rg 1 (aV ?_))|refine nZ ?_));refine cO (X:={k:Nat // k≤l.length∧∀ i (h:i<l.length),i<k→yU l[i] (px,mx,cx)=false}) (fun k=>[(0,.sl 0 0 l.length 3),(3,.pr [.rowE (ints px) 1,.i mx,.rowE (cT cx) 2] 0),(5,.i (k.1:Int))]) (fun _=>[.arr (fH l) 3]) (fun k=>l.length-k.1) ⟨0,bW _,fun i _ h=>absurd h (dA _)⟩ ⟨[0],rfl,(by repeat first|exact trivial|refine ⟨rfl,?_⟩),⟨.inr (aD rfl rfl (gV _)),trivial⟩,by decide,qQ _⟩ ?_
  rintro ⟨k,hk,hno⟩;dsimp only at hk hno ⊢;by_cases hlt:k<l.length
  · have hat:=hat k hlt (fun i hi=>hno i (by omega) hi)
    obtain ⟨b1,b2⟩:=hb _ (aH hlt);have q1:=IH hlt;have hst:=VR (l:=l) (k:=k) (l[k].1,min l[k].2.1 mx,l[k].2.2);have hnx:yU l[k] (px,mx,cx)=false→∀ i (h:i<l.length),i<k+1→yU l[i] (px,mx,cx)=false:=fun hs i h hi=>by
      by_cases e:i=k
      · subst e;exact hs
      · exact hno i h (by omega)
    have hsT:yU l[k] (px,mx,cx)=(decide (l[k].1=px)&&decide (l[k].2.2=cx)):=rfl;have s1:=P6 l[k].1 px (by omega)
    have s2:=T4 l[k].2.2 cx (by omega)
    generalize hS:kJ l (px,mx,cx)=S at *;generalize l[k]=t at *;obtain ⟨pt,mt,ct⟩:=t;dsimp only at *
    replace q1:(fH l)[0+(k:Int).toNat]? = some [.rowE (ints pt) 1,.i mt,.rowE (cT ct) 2]:=q1
    cases e1:decide (pt=px) with
    | false=>
      rw [e1] at s1 hsT;have hnx:=hnx hsT
      (repeat' (first|refine wS ?_|refine wB ?_|refine wK ?_|refine wU ?_|(refine wC rfl ?_ ?_<;>(intro hb;(try simp only [nm] at hb);try (exfalso;omega)))|(refine rg 2 (dK rfl (qW T rfl (vV (aI rfl rfl) ?_))))|(refine bQ (id:=4) 47 yQ4 (rM 12 18) yQ5 cF rfl (by decide +kernel) (dN rfl (dN rfl (dV rfl (by exact aK T rfl rfl rfl rfl rfl (by omega) (by omega)) ?_)));refine dP T rfl (dV rfl (by exact aE T rfl rfl (bM rfl q1) rfl) ?_);refine dP T rfl (dO T rfl (dV rfl (kC (s1)) (dN rfl (tG rfl (tG rfl (tG rfl (tG rfl (tG rfl (dG ?_)))))))));refine tG rfl (tG rfl (dV rfl (gQ rfl rfl) (dE ?_))))|(refine iA 3 rfl rfl rfl (by omega) (by omega) ?_)|refine nZ ?_));all_goals try (exfalso;omega)
      all_goals exact ⟨⟨k+1,hlt,hnx⟩,by dsimp only;omega,⟨[0],rfl,(by repeat first|exact trivial|refine ⟨rfl,?_⟩),⟨.inr (aD rfl rfl (gV _)),trivial⟩,by decide,qQ _⟩⟩
    | true=>
      rw [e1] at s1 hsT;cases e2:decide (ct=cx) with
      | false=>
        rw [e2] at s2 hsT;have hnx:=hnx hsT
        (repeat' (first|refine wS ?_|refine wB ?_|refine wK ?_|refine wU ?_|(refine wC rfl ?_ ?_<;>(intro hb;(try simp only [nm] at hb);try (exfalso;omega)))|(refine rg 2 (dK rfl (qW T rfl (vV (aI rfl rfl) ?_))))|(refine bQ (id:=4) 47 yQ4 (rM 12 18) yQ5 cF rfl (by decide +kernel) (dN rfl (dN rfl (dV rfl (by exact aK T rfl rfl rfl rfl rfl (by omega) (by omega)) ?_)));refine dP T rfl (dV rfl (by exact aE T rfl rfl (bM rfl q1) rfl) ?_);refine dP T rfl (dO T rfl (dV rfl (kC (s1)) (dN rfl (tN rfl (tN rfl (dT rfl (by exact aK T rfl rfl rfl rfl rfl (by omega) (by omega)) ?_))))));refine tP T rfl (dT rfl (by exact aE T rfl rfl (bM rfl q1) rfl) ?_);refine tP T rfl (tO T rfl (dT rfl (kC (s2)) (dV rfl (iE rfl rfl) (dE ?_)))))|(refine iA 3 rfl rfl rfl (by omega) (by omega) ?_)|refine nZ ?_));all_goals try (exfalso;omega)
        all_goals exact ⟨⟨k+1,hlt,hnx⟩,by dsimp only;omega,⟨[0],rfl,(by repeat first|exact trivial|refine ⟨rfl,?_⟩),⟨.inr (aD rfl rfl (gV _)),trivial⟩,by decide,qQ _⟩⟩
      | true=>
        rw [e2] at s2 hsT;have hat:=hat hsT;rw [hat,fM]
        (repeat' (first|refine wS ?_|refine wB ?_|refine wK ?_|refine wR ?_|refine wT ?_|(refine wC rfl ?_ ?_<;>(intro hb;(try simp only [nm] at hb);try (exfalso;omega)))|(refine rg 2 (dK rfl (qW T rfl (vV (aI rfl rfl) ?_))))|(refine bQ (id:=4) 47 yQ4 (rM 12 18) yQ5 cF rfl (by decide +kernel) (dN rfl (dN rfl (dV rfl (by exact aK T rfl rfl rfl rfl rfl (by omega) (by omega)) ?_)));refine dP T rfl (dV rfl (by exact aE T rfl rfl (bM rfl q1) rfl) ?_);refine dP T rfl (dO T rfl (dV rfl (kC (s1)) (dN rfl (tN rfl (tN rfl (dT rfl (by exact aK T rfl rfl rfl rfl rfl (by omega) (by omega)) ?_))))));refine tP T rfl (dT rfl (by exact aE T rfl rfl (bM rfl q1) rfl) ?_);refine tP T rfl (tO T rfl (dT rfl (kC (s2)) (dV rfl (iE rfl rfl) (dE ?_)))))|(refine rV (id:=5) 12 47 [[],[],[],[],[2,3],[2,3,4],rM 2 4,[],[7],rM 2 7,rN 10,rN 11,rN 12] [[],[],[],[],[2,3],[2,3,4],rM 2 4,[],[7],rM 2 7,rN 10,rN 11] (rM 30 12) [[],[30],[30,31],[30,31,32],[30,31],[30,31],[30,31],rM 30 7,rM 30 7,[30,31],[],[]] cF rfl (by decide +kernel) (by decide +kernel) ?_;(dsimp only [List.take,List.drop]);refine dN rfl (dN rfl (dN rfl (dN rfl (dV rfl (by exact aK T rfl rfl rfl rfl rfl (by omega) (by omega)) ?_))));refine dP T rfl (dV rfl (by exact aE T rfl rfl (bM rfl q1) rfl) ?_);refine dP T rfl (dO T rfl (dV rfl (A7 rfl rfl) (dV rfl (by exact aK T rfl rfl rfl rfl rfl (by omega) (by omega)) ?_)));refine dP T rfl (dE ?_);refine gG ?_;refine aL T rfl rfl rfl rfl rfl rfl (by decide) (iJ rfl q1 rfl) ?_)|(refine rg 6 (mW rfl (aV ?_)))|refine nZ ?_));all_goals try (exfalso;omega)
        all_goals exact ⟨.inl rfl,[0],_,rfl,rfl,rfl,⟨.inr (aD rfl hst (gV _)),trivial⟩,by decide,qQ _⟩
  · exfalso;obtain ⟨t,ht,hs⟩:=gD.1 hx;obtain ⟨i,hi,rfl⟩:=mR ht;rw [hno i hi (by omega)] at hs;cases hs
theorem DQ (l:List W) (x:W) (hl:l.length≤1000000) (hb:∀ t,t∈l→t.1.length≤1000∧t.2.2.length≤1000) (hx:zM5 l x=false) :
    aT Tryz.prog 55 [.sl 0 0 l.length 3,.agg (wA x)] [.arr (fH l) 3] (.sl 1 0 (kJ l x).length 3) [.gone,.arr (fH (kJ l x)) 3]:=by
  have hll:(fH l).length=l.length:=pE l;have hno:∀ i (h:i<l.length),yU l[i] x=false:=fun i h=>by
    have:=oB.1 hx l[i] (aH h);exact qT.2 this
  rw [DB hno];have hsn:=VQ l x;have hl1:(l++[x]).length=l.length+1:=by simp
  obtain ⟨px,mx,cx⟩:=x;refine bK T Tryz.func55 rfl rfl rfl rfl ?_
  (repeat' (first|refine wS ?_|(refine rg 0 (bN (cC rfl rfl) rfl (aV ?_)))|refine nZ ?_));refine dU 3 (cs:=[.rowE (ints px) 1,.i mx,.rowE (cT cx) 2]) rfl rfl rfl ?_
  (repeat' (first|refine wB ?_|(refine rg 1 (aV ?_))|refine nZ ?_));refine cO (X:={k:Nat // k≤l.length}) (fun k=>[(0,.sl 0 0 l.length 3),(3,.pr [.rowE (ints px) 1,.i mx,.rowE (cT cx) 2] 0),(5,.i (k.1:Int))]) (fun _=>[.arr (fH l) 3]) (fun k=>l.length-k.1) ⟨0,bW _⟩ ⟨[0],rfl,(by repeat first|exact trivial|refine ⟨rfl,?_⟩),⟨.inr (aD rfl rfl (gV _)),trivial⟩,by decide,qQ _⟩ ?_
  rintro ⟨k,hk⟩;dsimp only at hk ⊢;by_cases hlt:k<l.length
  · obtain ⟨b1,b2⟩:=hb _ (aH hlt);have q1:=IH hlt;have hno:=hno k hlt;have hsT:yU l[k] (px,mx,cx)=(decide (l[k].1=px)&&decide (l[k].2.2=cx)):=rfl;have s1:=P6 l[k].1 px (by omega)
    have s2:=T4 l[k].2.2 cx (by omega)
    generalize l[k]=t at *;obtain ⟨pt,mt,ct⟩:=t;dsimp only at *
    replace q1:(fH l)[0+(k:Int).toNat]? = some [.rowE (ints pt) 1,.i mt,.rowE (cT ct) 2]:=q1
    rw [hsT] at hno;cases e1:decide (pt=px) with
    | false=>
      rw [e1] at s1
      (repeat' (first|refine wS ?_|refine wB ?_|refine wK ?_|refine wU ?_|(refine wC rfl ?_ ?_<;>(intro hb;(try simp only [nm] at hb);try (exfalso;omega)))|(refine rg 2 (dK rfl (qW T rfl (vV (aI rfl rfl) ?_))))|(refine bQ (id:=4) 47 yQ4 (rM 12 18) yQ5 cF rfl (by decide +kernel) (dN rfl (dN rfl (dV rfl (by exact aK T rfl rfl rfl rfl rfl (by omega) (by omega)) ?_)));refine dP T rfl (dV rfl (by exact aE T rfl rfl (bM rfl q1) rfl) ?_);refine dP T rfl (dO T rfl (dV rfl (kC (s1)) (dN rfl (tG rfl (tG rfl (tG rfl (tG rfl (tG rfl (dG ?_)))))))));refine tG rfl (tG rfl (dV rfl (gQ rfl rfl) (dE ?_))))|(refine iA 3 rfl rfl rfl (by omega) (by omega) ?_)|refine nZ ?_));all_goals try (exfalso;omega)
      all_goals exact ⟨⟨k+1,hlt⟩,by dsimp only;omega,⟨[0],rfl,(by repeat first|exact trivial|refine ⟨rfl,?_⟩),⟨.inr (aD rfl rfl (gV _)),trivial⟩,by decide,qQ _⟩⟩
    | true=>
      rw [e1] at s1 hno;rw [show decide (ct=cx)=false from hno] at s2
      (repeat' (first|refine wS ?_|refine wB ?_|refine wK ?_|refine wU ?_|(refine wC rfl ?_ ?_<;>(intro hb;(try simp only [nm] at hb);try (exfalso;omega)))|(refine rg 2 (dK rfl (qW T rfl (vV (aI rfl rfl) ?_))))|(refine bQ (id:=4) 47 yQ4 (rM 12 18) yQ5 cF rfl (by decide +kernel) (dN rfl (dN rfl (dV rfl (by exact aK T rfl rfl rfl rfl rfl (by omega) (by omega)) ?_)));refine dP T rfl (dV rfl (by exact aE T rfl rfl (bM rfl q1) rfl) ?_);refine dP T rfl (dO T rfl (dV rfl (kC (s1)) (dN rfl (tN rfl (tN rfl (dT rfl (by exact aK T rfl rfl rfl rfl rfl (by omega) (by omega)) ?_))))));refine tP T rfl (dT rfl (by exact aE T rfl rfl (bM rfl q1) rfl) ?_);refine tP T rfl (tO T rfl (dT rfl (kC (s2)) (dV rfl (iE rfl rfl) (dE ?_)))))|(refine iA 3 rfl rfl rfl (by omega) (by omega) ?_)|refine nZ ?_));all_goals try (exfalso;omega)
      all_goals exact ⟨⟨k+1,hlt⟩,by dsimp only;omega,⟨[0],rfl,(by repeat first|exact trivial|refine ⟨rfl,?_⟩),⟨.inr (aD rfl rfl (gV _)),trivial⟩,by decide,qQ _⟩⟩
  · obtain rfl:k=l.length:=by omega
    (repeat' (first|refine wS ?_|refine wR ?_|refine wE ?_|(refine wC rfl ?_ ?_<;>(intro hb;(try simp only [nm] at hb);try (exfalso;omega)))|(refine rg 2 (dK rfl (qW T rfl (vV (aI rfl rfl) ?_))))|(refine rg 7 (mW rfl (lW T rfl (bN (by exact bD T rfl rfl (by decide) (by decide) rfl rfl rfl) rfl ?_)));refine fY T rfl rfl rfl rfl rfl rfl (by omega) (kP.whole rfl rfl) rfl (by simp;omega) (by simp;omega) rfl ?_;refine aV ?_)|refine nZ ?_));all_goals try (exfalso;omega)
    rw [hl1];exact ⟨.inl rfl,[0,2],_,rfl,rfl,rfl,⟨.inl rfl,.inr (aD rfl (by rw [← hsn];exact mI hll.symm) (gV _)),trivial⟩,by decide,qQ _⟩
end Go.Proofs.YtmmkhmilpeodnaaGreat
namespace Go.Ab
open Go
set_option maxHeartbeats 1000000
section
variable {P:Program}{env:eH}{h:Hp}{d:Option Nat}{ty:TypeId}{pos:String}{af:Array Edge}{g:Option (Nat × Bool)}
theorem ZE {ρ:Pl}{S:Nat→Prop}{a:Act}{w:World}{k sz:Nat}{y:Value}(p:FJ ρ S env h a w) (hkk:h[k]? = some (.lit [] sz)) (hy:R S w (.sl k 0 0 sz) ρ y):∃ a1,y = .slice a1 0 0:=by
  have hB:=p.blk k _ hkk;simp only [RB] at hB;obtain ⟨hes,hs0,b,ys,h1,⟨c,e,h2,h3,h4⟩,h5⟩:=hB;simp only [R] at hy;obtain ⟨a1,cap,rfl,hc,hy⟩:=hy;rcases hy with ⟨_,rfl⟩ | ⟨b',o',h6,rfl,h7,c',e',fz,h8,h9⟩
  · exact ⟨a1,rfl⟩
  · rw [h1] at h6;cases h6;rw [h2] at h8;cases h8;have hcap:cap=0:=by
      rw [h3] at h9;simp only [Nat.zero_add,List.length_nil] at h9;have:=Nat.le_of_mul_le_mul_right h9 hs0;omega
    subst hcap;exact ⟨_,rfl⟩
theorem rF (T:oZ P){t e k sz:Nat}{i:TI}{x y:Operand}{v:AV}{news:List (List AV)}(hx:evu env x=some (.sl k 0 0 sz)) (hy:evu env y=some v) (ht:T.elem t=some e) (he:T.ti e=some i) (hs:i.size=sz) (hs0:0<sz)
    (hkk:h[k]? = some (.lit [] sz)) (hnw:news≠[]) (hn:kP h v news sz) (hb:(0+news.length)*i.bytes≤140737488355328) (h63:0+news.length≤9223372036854775807) :
    bX P ⟨d,.call { callee:=.builtin .append,args:=#[x,y],argTypes:=#[t,t] },ty,pos,af,g⟩ env h 1 (fun p=>.sl p 0 (0+news.length) sz) (fun _=>[.arr news sz]):=by
  refine BK fun ρ S a w p=>?_
  obtain ⟨a1,x1⟩:=ZE p hkk (p.evu hx);obtain ⟨a2,c2,zs,y1,y2,y3,y4,y5,y6,y7⟩:=tH p.blk (p.evu hy) hn;obtain ⟨inf,z,t1,t2,t3,t4,t5,t6,t7⟩:=T.tiOk e i he;have hnl:∀ q,q∈news→q.length=sz:=by
    cases hn with
    | sl hk2 _=>
      have:=p.blk _ _ hk2;simp only [RB] at this;exact fun q hq=>this.1 q (fD (fC hq))
    | row h=>exact h
    | nil=>exact fun q hq=>by cases hq
  have hn0:0<news.length:=eF.2 hnw;have hr:=tR (P:=P) (w:=w) (t:=t) (ty:=ty) (c2:=c2) (a:=a1) (len:=0) (cap:=0) (m:=news.length) (ys:=[]) (T.elemOk _ _ ht) t1 t4 (by simp) (.inl rfl) (by rw [t2,hs];exact y5) y7 (by omega) (by rw [t3];exact hb) h63
  have hgc:=grownCap_ge w (0+news.length) 0 e;have hgm:=grownCap_le_maxLen w (0+news.length) 0 e (by simp only [maxLen];omega)
  have hzs:z.cells.size=sz:=by rw [← hs,← t6,← t5];simp
  obtain ⟨g1,g2⟩:=A4 (ys:=[]) (len:=0) hzs (by simp) y5 hgc
  refine ⟨(([]:List Value).toArray++zs.toArray++Builtin.zeroCells z.cells (grownCap w (0+news.length) 0 e-(0+news.length))),e,.slice (some ⟨w.heap.size,0,none⟩) (0+news.length) (grownCap w (0+news.length) 0 e),true,?_,fun pos hpos w' hw' lt=>⟨?_,?_⟩⟩
  · rw [← x1,← y1] at hr;simp [execOp,resolve,invoke,builtin,hr]
  · simp only [R];exact ⟨_,_,rfl,hgm,.inr ⟨w.heap.size,0,by simp [Pl.with],by simp,hgc,_,e,_,hw',by rw [Nat.zero_add,Nat.zero_add];exact g1⟩⟩
  · simp only [RB];exact ⟨hnl,hs0,.inr ⟨w.heap.size,0,zs,rfl,⟨_,e,hw',fun j u hj=>by have:=g2 j u hj;simpa using this⟩,y6.later lt⟩⟩
end
end Go.Ab
