/-
  Texts of the logic and of the layer,in one module (part 2).
-/
import Derived.Test.YtjjfjhkbmdbhkaaGreatDoorK1
import Derived.ProofKit
import Derived.OpenShut
import Derived.ShutString
import Derived.ChangeOld
import Derived.Laws.StructEq
import Derived.ChangeKeysEq
import Derived.Below
import Derived.ChangeSame
import Derived.WideKeyArgs
import Derived.Lib.SliceRun
import Derived.DeepKeys3
set_option linter.unusedVariables false
set_option linter.unusedSimpArgs false
set_option linter.unnecessarySimpa false
namespace Go.Ab
open Go
def gY (P:Program) (t:TypeId) {α:Type}(ok:α→Prop) (enc:α→List AV):Prop:=
 ∀ {H:Type} (e:TypeId × Value→H) (W:World) (fuel:Nat) (cs:List Value) x,DataW.trod e P W 0 (fun _=>true) true fuel t cs=some x →
  ∃ a,ok a∧(enc a).length=P.cellsOf t∧RL (fun b=>b<W.heap.size) W (enc a) (fun _=>none) cs
section
variable {P:Program}{t:TypeId}
theorem gY.int {k:IntKind}(ht:P.underlying t=some (.int k)) (hc:P.cellsOf t=1):gY P t (fun n=>(Lit.int k n).wf=true) (fun n=>[.v (.int k n)]):=by
 intro H e W fuel cs x h;obtain ⟨n,rfl,_,hw⟩:=DataW.trod_int ht h;exact ⟨n,hw,by simp [hc],by simp [RL,R]⟩
theorem gY.bool (ht:P.underlying t=some .bool) (hc:P.cellsOf t=1):gY P t (fun _=>True) (fun b=>[AV.b b]):=by
 intro H e W fuel cs x h;obtain ⟨b,rfl,_⟩:=DataW.trod_bool ht h;exact ⟨b,trivial,by simp [hc],by simp [RL,R]⟩
theorem gY.string (ht:P.underlying t=some .string) (hc:P.cellsOf t=1):gY P t (fun s=>s.size≤maxLen) (fun s=>[.v (.string s)]):=by
 intro H e W fuel cs x h;obtain ⟨s,rfl,_,hs⟩:=DataW.trod_string ht h;exact ⟨s,hs,by simp [hc],by simp [RL,R]⟩
theorem TG {α:Type}{n:Nat}{f:Nat→Option α}{l:List α}(h:(List.range n).mapM f=some l):l.length=n∧∀ i,i<n→f i=l[i]?:=by
 induction n generalizing l with
 | zero=>simp at h;subst h;simp
 | succ n ih=>
  rw [wI,List.mapM_append] at h;cases h1:(List.range n).mapM f with
  | none=>simp [h1] at h
  | some l1=>
   cases h2:f n with
   | none=>simp [h1,h2] at h
   | some y=>
    simp [h1,h2] at h;subst h;obtain ⟨h3,h4⟩:=ih h1;refine ⟨by simp [h3],fun i hi=>?_⟩
    by_cases hin:i<n
    ·rw [h4 i hin,aG (by omega)]
    ·have:i=n:=by omega
     subst this;rw [h2,aF (by omega)];simp [h3]
theorem zU1 (a:Addr) (n j:Nat) (h:n≤j):(a.add n).add (j-n)=a.add j:=by
 cases a with
 | mk bb oo sp=>
  unfold Addr.add;by_cases q1:n=0
  ·rw [if_pos q1,q1];simp
  ·rw [if_neg q1];by_cases q2:j-n=0
   ·rw [if_pos q2,if_neg (by omega)];congr 1;omega
   ·rw [if_neg q2,if_neg (by omega)];simp;omega
theorem gY.slice {e:TypeId}{sz:Nat}{α:Type}{ok:α→Prop}{enc:α→List AV}(ht:P.underlying t=some (.slice e)) (hc:P.cellsOf t=1) (hsz:P.cellsOf e=sz) (h0:0<sz) (he:gY P e ok enc) :
  gY P t (fun l=>l.length≤maxLen∧∀ a,a∈l→ok a) (fun l:List α=>[.rowE (l.map enc) sz]):=by
 intro H en W fuel cs x h;rcases DataW.trod_slice ht h with ⟨rfl,_⟩ | ⟨a,len,cap,elems,rest,n,_,rfl,_,_,hlc,hcm,hel,hget,_,_⟩
 ·refine ⟨[],⟨by simp,by simp⟩,by simp [hc],?_⟩
  simp only [RL,R];exact ⟨_,[],rfl,⟨none,0,rfl,by simp,fun _=>rfl,by simp,by simp,.inl (by simp)⟩,rfl⟩
 ·have key:∀ m,m≤len→∃ (l:List α) (ys:List Value),l.length=m∧(∀ a,a∈l→ok a)∧RL (fun b=>b<W.heap.size) W (l.map enc).flatten (fun _=>none) ys∧ys.length=m*sz∧∀ (j:Nat) y,ys[j]? = some y→W.cell? (a.add j)=some y:=by
   intro m
   induction m with
   | zero=>exact fun _=>⟨[],[],rfl,by simp,by simp [RL],by simp,by simp⟩
   | succ m ih=>
    intro hm;obtain ⟨l,ys,h1,h2,h3,h4,h5⟩:=ih (by omega)
    have hg:=hget m (by omega)
    rw [aB (by omega)] at hg
    obtain ⟨cs',h6,h7⟩:=Option.bind_eq_some_iff.1 hg;obtain ⟨b,h8,_,h9⟩:=he en W n cs' _ h7;unfold World.cells? at h6;split at h6
    ·obtain ⟨g1,g2⟩:=TG h6;refine ⟨l++[b],ys++cs',by simp [h1],fun c hcc=>?_,?_,by rw [aD,h4,g1,hsz,eQ,BD],fun j y hj=>?_⟩
     ·rcases bH.1 hcc with hcc | hcc
      ·exact h2 c hcc
      ·simp at hcc;subst hcc;exact h8
     ·rw [bU,fE];exact iT h3 (by simpa using h9)
     ·by_cases hjl:j<ys.length
      ·rw [aG hjl] at hj;exact h5 j y hj
      ·rw [aF (by omega)] at hj
       have hjl2:=(aA.1 hj).1;have:=g2 (j-ys.length) (by omega)
       rw [hj] at this;have e2:(a.add (m*P.cellsOf e)).add (j-ys.length)=a.add j:=by
        rw [hsz,← h4];exact zU1 a ys.length j (by omega)
       rw [e2] at this;exact this
    ·cases h6
  obtain ⟨l,ys,h1,h2,h3,h4,h5⟩:=key len (aX _);refine ⟨l,⟨by omega,h2⟩,by simp [hc],?_⟩
  simp only [RL,R];refine ⟨_,[],rfl,⟨some a,cap,by simp [h1],by simpa [h1] using hlc,(fun e=>by cases e),hcm,?_,?_⟩,rfl⟩
  ·rw [fZ h3] at h4;simpa [h1] using h4
  ·by_cases hz:len=0
   ·left;simp [h1,hz]
   ·right;have hlt:0<ys.length:=by rw [h4];exact Nat.mul_pos (by omega) h0
    have hcell:=h5 0 ys[0] (aB hlt);have ha:a.add 0=a:=by simp [Addr.add]
    rw [ha] at hcell;have hsp:=World.cell?_spot hcell;obtain ⟨bb,oo,sp⟩:=a;simp only at hsp;subst hsp;refine ⟨bb,oo,ys,rfl,World.block_lt_of_cell? W _ hcell,?_,h3⟩;unfold World.cell? at hcell;split at hcell
    ·rename_i c e fz hb;refine ⟨c,e,fz,hb,fun j y hj=>?_⟩
     have:=h5 j y hj;rw [Addr.add_lit] at this;simpa [World.cell?,hb] using this
    ·cases hcell
def gV (P:Program) (ts:List TypeId) {α:Type}(ok:α→Prop) (enc:α→List AV):Prop:=
 ∀ {H:Type} (e:TypeId × Value→H) (W:World) (fuel:Nat) (css:List (List Value)),css.length=ts.length→(∀ (i:Nat) t cs,ts[i]? = some t→css[i]? = some cs→∃ x,DataW.trod e P W 0 (fun _=>true) true fuel t cs=some x) →
  ∃ a,ok a∧(enc a).length=(ts.map P.cellsOf).sum∧RL (fun b=>b<W.heap.size) W (enc a) (fun _=>none) css.flatten
theorem gV.nil:gV P [] (fun _:Unit=>True) (fun _=>[]):=by
 intro H e W fuel css hl _;have:css=[]:=cJ hl;subst this;exact ⟨(),trivial,rfl,by simp [RL]⟩
theorem gV.cons {ts:List TypeId}{α β:Type}{ok:α→Prop}{enc:α→List AV}{ok':β→Prop}{enc':β→List AV}(h:gY P t ok enc) (h':gV P ts ok' enc') :
  gV P (t::ts) (fun a:α × β=>ok a.1∧ok' a.2) (fun a=>enc a.1++enc' a.2):=by
 intro H e W fuel css hl hx
 match css,hl with
 | cs::css,hl=>
  obtain ⟨x,hx0⟩:=hx 0 t cs (by simp) (by simp)
  obtain ⟨a,h1,h2,h3⟩:=h e W fuel cs x hx0;obtain ⟨b,h4,h5,h6⟩:=h' e W fuel css (by simpa using hl) (fun i t cs hi hi'=>hx (i+1) t cs (by simpa using hi) (by simpa using hi'))
  exact ⟨(a,b),⟨h1,h4⟩,by simp [h2,h5],by simpa using iT h3 h6⟩
def WM (P:Program) (t:TypeId):Option (List (TypeId × Nat)):=match P.underlying t with
 | some (.struct fs)=>some (fs.toList.map fun f=>(f.type,f.offset))
 | _=>none
def VI (P:Program):Nat→List (TypeId × Nat)→Nat→Bool
 | o,[],n=>Nat.beq o n
 | o,(t,o')::r,n=>Nat.beq o o'&&VI P (o+P.cellsOf t) r n
theorem GY {cs:List Value}:∀ {fs:List (TypeId × Nat)}{o n:Nat},VI P o fs n=true→n=cs.length→o≤n∧(fs.map fun f=>(cs.drop f.2).take (P.cellsOf f.1)).flatten=cs.drop o
 | [],o,n,h,hn=>by
  have:=aS h;subst this;simp [hn]
 | (t,o')::r,o,n,h,hn=>by
  simp only [VI,aN] at h;have:=aS h.1;subst this;obtain ⟨h1,h2⟩:=GY h.2 hn;refine ⟨by omega,?_⟩
  simp only [List.map_cons,dZ,h2];rw [← RP,bK]
theorem gY.struct {fs:List (TypeId × Nat)}{α:Type}{ok:α→Prop}{enc:α→List AV}(ht:WM P t=some fs) (hr:VI P 0 fs (P.cellsOf t)=true) (h:gV P (fs.map (·.1)) ok enc) (hl:∀ a,(enc a).length=P.cellsOf t):gY P t ok enc:=by
 intro H e W fuel cs x hx;unfold WM at ht;split at ht
 ·rename_i fields hu;simp only [Option.some.injEq] at ht;subst ht;obtain ⟨xs,n,_,_,h1,h2,h3⟩:=DataW.trod_struct hu hx;obtain ⟨_,hsplit⟩:=GY (cs:=cs) hr h1.symm
  obtain ⟨a,h4,h5,h6⟩:=h e W n ((fields.toList.map fun f=>(f.type,f.offset)).map fun f=>(cs.drop f.2).take (P.cellsOf f.1)) (by simp) (fun i tt cc hi hi'=>by
   simp only [uF,bN,fD] at hi hi';obtain ⟨f,hf,rfl⟩:=hi;obtain ⟨f',hf',rfl⟩:=hi';rw [hf] at hf';cases hf';have hlt:i<xs.length:=by rw [h2];simpa using (aA.1 hf).1
   have:=h3 i f (by simpa using hf)
   rw [aB hlt] at this
   exact ⟨_,this⟩)
  refine ⟨a,h4,hl a,?_⟩;rw [hsplit] at h6;simpa using h6
 ·cases ht
theorem gY.one {α:Type}{ok:α→Prop}{enc:α→AV}(h:gY P t ok (fun a=>[enc a])){H:Type}{e:TypeId × Value→H}{W:World}{v:Value}{d:DataW H}{p:List MemPlace}{base:Nat}(hok:Value.okWide P W .any base t v) (ha:FP P t=some false) (hv:DataW.Trod e P W 0 (fun _=>true) true t v d p) :
  ∃ a,ok a∧R (fun b=>b<W.heap.size) W (enc a) (fun _=>none) v:=by
 obtain ⟨fuel,hf⟩:=hv;obtain ⟨a,h1,_,h3⟩:=h e W fuel _ _ hf;refine ⟨a,h1,?_⟩;simp only [RL] at h3;obtain ⟨y,zs,h4,h5,h6⟩:=h3;subst h6;have hone:v.cells = #[v]:=by
  cases v with
  | agg cs=>
   exfalso;unfold FP at ha;unfold Value.okWide at hok;split at ha <;> rename_i hu <;> try (cases ha;done)
   ·cases h4':cs.toList with
    | nil=>simp [Value.cells,h4'] at h4
    | cons u r=>
     rename_i d hn1 hn2;rw [hu] at hok;cases d <;> first|exact absurd rfl (hn1 _)|exact absurd rfl (hn2 _ _)|(simp [Cell.okWide,Cell.ok,hu] at hok)
  | _=>rfl
 rw [hone] at h4;simp at h4;rw [h4];exact h5
theorem gY.aggr {α:Type}{ok:α→Prop}{enc:α→List AV}(h:gY P t ok enc){H:Type}{e:TypeId × Value→H}{W:World}{v:Value}{d:DataW H}{p:List MemPlace}{base:Nat}(hok:Value.okWide P W .any base t v) (ha:FP P t=some true) (hv:DataW.Trod e P W 0 (fun _=>true) true t v d p) :
  ∃ a,ok a∧R (fun b=>b<W.heap.size) W (.agg (enc a)) (fun _=>none) v:=by
 obtain ⟨fuel,hf⟩:=hv;obtain ⟨a,h1,_,h3⟩:=h e W fuel _ _ hf;refine ⟨a,h1,?_⟩;have hag:∃ cs,v = .agg cs:=by
  unfold FP at ha;unfold Value.okWide at hok;split at ha <;> rename_i hu <;> try (cases ha;done)
  ·rw [hu] at hok;obtain ⟨cs,hc,_⟩:=hok;exact ⟨cs,hc⟩
  ·rw [hu] at hok;obtain ⟨cs,hc,_⟩:=hok;exact ⟨cs,hc⟩
 obtain ⟨cs,rfl⟩:=hag;simp only [R];exact ⟨cs,rfl,h3⟩
open RowKit in
theorem G2 {f:FuncId}{xs:List AV}{vs:List Value}{W:World}(h:aM P f xs [] (.b true) []) (hv:RL (fun b=>b<W.heap.size) W xs (fun _=>none) vs) (hgl:oK (fun b=>b<W.heap.size) W:=by exact oK.none rfl) :
  Calls P f vs.toArray W fun e w'=>e = .returned (.bool true)∧Below W.heap.size W w':=by
 refine (h.2 (fun _=>none) (fun b=>b<W.heap.size) W vs ⟨fun _ _=>rfl,(fun _ _ h=>by cases h),(fun k b hb=>by simp at hb),(fun k b p hb=>by simp at hb),(fun k _ b _ _ _ hb=>by simp at hb),fun _ h=>h,nD.refl _ _,fun _ h=>h,fun _ h=>.inl h,aX _,(fun _ h=>by simp [nX] at h),hgl⟩ hv).mono ?_
 rintro e w' ⟨y,ρ',S',rfl,hs,hy⟩;have:=rL hy;subst this;refine ⟨rfl,hs.ext.os,hs.ext.tape,hs.ext.output,hs.ext.size,fun k hk=>hs.ext.same k hk fun hm=>?_⟩
 rcases hm with hm | ⟨_,_,_,hm,_⟩
 ·omega
 ·simp at hm
end
structure nS where
 d:Option Nat
 x:AV
 new:List AB
theorem HS.fill {c:pS}{ρ ρ':Pl}{S S':Nat→Prop}{h h':Hp}{w w':World}{q m:Nat}{x:AV}{new:List AB}{y:Value}(s:HS c ρ S h w) (p:BQ ρ ρ' S S' w w' q m x new y) (hn:∀ j,j<m→ρ (q+j)=none)
  (hl:h.length≤h'.length) (hout:∀ k,k<q∨q+m≤k→h'[k]? = h[k]?) (hin:∀ j,j<m→h'[q+j]? = new[j]?) (hm:c.m≤q∨m=0):HS c ρ' S' h' w':=by
 have l:=p.later hn s.stab;have hsz:c.w0.heap.size≤w.heap.size:=s.ext.size;have cs:∀ k,(k<q∨q+m≤k)∨∃ j,j<m∧k=q+j:=fun k=>by
  by_cases h1:k<q∨q+m≤k
  ·exact .inl h1
  ·exact .inr ⟨k-q,by omega,by omega⟩
 have new_lt:∀ {k:Nat} {b:AB},h'[k]? = some b→(∃ j,j<m∧k=q+j∧new[j]? = some b)∨((k<q∨q+m≤k)∧h[k]? = some b):=fun {k b} hb=>by
  rcases cs k with h1 | ⟨j,h1,rfl⟩
  ·exact .inr ⟨h1,by rw [← hout k h1];exact hb⟩
  ·exact .inl ⟨j,h1,rfl,by rw [← hin j h1];exact hb⟩
 refine ⟨fun k hk=>?_,fun k r hr=>?_,fun k b hb=>?_,fun k b r hb hg hr=>?_,fun k k' b b' r r' hb hb' hg hg' hr hr' e=>?_,fun b hb=>?_,s.ext.trans p.ext (fun _ h=>h.elim),fun b hb=>p.st b (s.st0 b hb),fun b hb=>?_,bL s.mle hl,fun k hk=>?_,s.glob.later l⟩
 ·rcases cs k with h1 | ⟨j,h1,rfl⟩
  ·rw [p.keep k h1];exact s.dom k (by omega)
  ·have:=hin j h1;rw [dA hk] at this;have h2:j<new.length:=by rw [p.len];exact h1
   rw [aB h2] at this;cases this
 ·rcases cs k with h1 | ⟨j,h1,rfl⟩
  ·rw [p.keep k h1] at hr;exact eC (s.rng k r hr) p.ext.size
  ·exact (p.fresh _ r (by omega) (by omega) hr).2.1
 ·rcases new_lt hb with ⟨j,h1,rfl,h2⟩ | ⟨h1,h2⟩
  ·exact p.blk j b h2
  ·rw [p.keep k h1];exact RB.later l (fun b' o hb'=>p.ext.same b' (s.rng k _ hb') (by simp)) (s.blk k b h2)
 ·rcases new_lt hb with ⟨j,h1,rfl,h2⟩ | ⟨h1,h2⟩
  ·obtain ⟨f1,_,f3⟩:=p.fresh _ r (by omega) (by omega) hr
   exact ⟨c.new _ (by omega),f3⟩
  ·rw [p.keep k h1] at hr;obtain ⟨f1,f2⟩:=s.live k b r h2 hg hr;refine ⟨f1,fun hs=>?_⟩
   rcases p.stn _ hs with hs | hs
   ·exact f2 hs
   ·have:=s.rng k r hr;omega
 ·rcases new_lt hb with ⟨j,h1,rfl,h2⟩ | ⟨h1,h2⟩ <;> rcases new_lt hb' with ⟨j',h1',rfl,h2'⟩ | ⟨h1',h2'⟩
  ·exact p.inj _ _ r r' (by omega) (by omega) (by omega) (by omega) hr hr' e
  ·rw [p.keep k' h1'] at hr';have f1:=s.rng k' r' hr';have f2:=(p.fresh _ r (by omega) (by omega) hr).1
   omega
  ·rw [p.keep k h1] at hr;have f1:=s.rng k r hr;have f2:=(p.fresh _ r' (by omega) (by omega) hr').1
   omega
  ·rw [p.keep k h1] at hr;rw [p.keep k' h1'] at hr';exact s.inj k k' b b' r r' h2 h2' hg hg' hr hr' e
 ·rcases p.stn b hb with hb | hb
  ·exact eC (s.stab b hb) p.ext.size
  ·exact hb.2
 ·rcases p.stn b hb with hb | hb
  ·exact s.st1 b hb
  ·exact .inr (c.new b (by omega))
 ·rcases hm with hm | hm
  ·rw [p.keep k (.inl (by omega))];exact s.keep k hk
  ·rw [p.keep k (by omega)];exact s.keep k hk
def B4 (env:eG) (all:List nS):List Nat→eG
 | []=>env
 | j::r=>match all[j]? with
  | some f=>nE f.d f.x (B4 env all r)
  | none=>B4 env all r
def kQ (L:Nat→Bool):Nat→List nS→Hp
 | _,[]=>[]
 | i,f::r=>(match L i with | true=>f.new | false=>List.replicate f.new.length .gone)++kQ L (i+1) r
def nN:List nS→Nat
 | []=>0
 | f::r=>f.new.length+nN r
theorem nT {env:eG}{all:List nS}:∀ {pre:List Nat}{t:Nat}{x:AV},look (B4 env all pre) t=some x→look env t=some x∨∃ j f,j∈pre∧all[j]? = some f∧f.d=some t∧f.x=x
 | [],_,_,h=>.inl h
 | j::r,t,x,h=>by
  simp only [B4] at h;have up:(look env t=some x∨∃ j f,j∈r∧all[j]? = some f∧f.d=some t∧f.x=x)→(look env t=some x∨∃ j' f,j'∈j::r∧all[j']? = some f∧f.d=some t∧f.x=x):=fun h=>h.imp id fun ⟨j',f,h1,h2⟩=>⟨j',f,aH _ h1,h2⟩
  split at h
  ·rename_i f hf;cases hd:f.d with
   | none=>rw [hd] at h;exact up (nT h)
   | some d=>
    rw [hd] at h;simp only [nE,iJ] at h;split at h
    ·rename_i he;subst he;cases h;exact .inr ⟨j,f,aR,hf,hd,rfl⟩
    ·exact up (nT h)
  ·exact up (nT h)
theorem nK (L:Nat→Bool):∀ (i:Nat) (l:List nS),(kQ L i l).length=nN l
 | _,[]=>rfl
 | i,f::r=>by
  simp only [kQ,nN,aD,nK L (i+1) r];cases L i <;> simp
theorem AO:∀ (a b:List nS),nN (a++b)=nN a+nN b
 | [],b=>by simp [nN]
 | f::a,b=>by simp [nN,AO a b,eE]
theorem sT (L:Nat→Bool):∀ (i:Nat) (a b:List nS),kQ L i (a++b)=kQ L i a++kQ L (i+a.length) b
 | i,[],b=>by simp [kQ]
 | i,f::a,b=>by
  simp only [List.cons_append,kQ,sT L (i+1) a b,List.length_cons,bM];rw [show i+1+a.length=i+(a.length+1) by omega]
theorem mX {L L':Nat→Bool}:∀ (l:List nS) (i:Nat),(∀ j,i≤j→j<i+l.length→L j=L' j)→kQ L i l=kQ L' i l
 | [],_,_=>rfl
 | f::r,i,h=>by
  simp only [kQ,h i (aX _) (by simp),mX r (i+1) (fun j h1 h2=>h j (by omega) (by simp;omega))]
theorem P7 {L L':Nat→Bool}:∀ (l:List nS) (i k:Nat) (b:AB),(∀ j,L j=true→L' j=true)→(kQ L i l)[k]? = some b→b≠.gone→(kQ L' i l)[k]? = some b
 | [],_,k,b,_,h,_=>by simp [kQ] at h
 | f::r,i,k,b,hL,h,hg=>by
  simp only [kQ] at h ⊢;have len:∀ L:Nat→Bool,(match L i with | true=>f.new | false=>List.replicate f.new.length .gone).length=f.new.length:=fun L=>by cases L i <;> simp
  by_cases hk:k<f.new.length
  ·rw [aG (by rw [len];exact hk)] at h ⊢
   cases h1:L i with
   | true=>rw [h1] at h;rw [hL i h1];exact h
   | false=>
    rw [h1] at h;simp only [qG] at h;rw [if_pos hk] at h;cases h;exact absurd rfl hg
  ·rw [aF (by rw [len];omega),len] at h ⊢
   exact P7 r (i+1) _ b hL h hg
def eP (ds:List Nat):eG→eG
 | []=>[]
 | (t,x)::r=>match ds.any (Nat.beq t) with
  | true=>eP ds r
  | false=>(t,x)::eP ds r
theorem pI {ds:List Nat}{t:Nat}:ds.any (Nat.beq t)=true↔t∈ds:=by
 rw [kX];constructor
 ·rintro ⟨x,h1,h2⟩;rw [aS h2];exact h1
 ·exact fun h=>⟨t,h,fN t⟩
theorem lA {ds:List Nat}:∀ {env:eG}{t:Nat}{x:AV},look (eP ds env) t=some x→look env t=some x∧t∉ds
 | [],_,_,h=>by cases h
 | (k,u)::r,t,x,h=>by
  simp only [eP] at h;split at h
  ·rename_i hb;obtain ⟨h1,h2⟩:=lA h;refine ⟨?_,h2⟩;rw [iJ,if_neg (fun e:k=t=>h2 (e▸pI.1 hb))];exact h1
  ·rename_i hb;rw [iJ] at h ⊢;split at h
   ·rename_i he;subst he;exact ⟨by rw [if_pos rfl];exact h,fun hm=>by rw [pI.2 hm] at hb;cases hb⟩
   ·rename_i he;rw [if_neg he];exact lA h
theorem yB3 {α:Type}(A B B' C:List α) (hB:B.length=B'.length) (k:Nat) (hk:k<A.length∨A.length+B.length≤k):(A++(B++C))[k]? = (A++(B'++C))[k]?:=by
 rcases hk with hk | hk
 ·rw [aG hk,aG hk]
 ·rw [aF (by omega),aF (by omega),aF (by omega),aF (by omega),hB]
def vM (ops:Array Oper) (pres:List (List Nat)):Bool:=
 (List.range ops.size).all fun i=>match ops[i]? with
  | none=>false
  | some o=>
   (o.after.toList.all fun e=>!Region.binds .any e||decide (e.on<i)) &&
   (match pres[i]? with
    | some pre=>pre.all fun j=>decide (j<i)&&o.after.toList.any fun e=>Region.binds .any e&&(Nat.beq e.on j||(pres.getD e.on []).any (Nat.beq j))
    | none=>(List.range i).all fun j=>o.after.toList.any fun e=>Region.binds .any e&&Nat.beq e.on j)
def jS (all:List nS):List Nat:=all.filterMap (·.d)
def JP (P:Program) (ops:Array Oper) (i:Nat) (env:eG) (h:Hp) (f:nS):Prop:=
  ∃ o,ops[i]? = some o∧o.dst=f.d ∧
    ((∃ x new,(o.guard=none∨∃ g want t,o.guard=some (g,want)∧(ops[g]?).bind (·.dst)=some t∧look env t=some (.b want))∧bW P ⟨o.dst,o.op,o.type,o.pos,o.after,none⟩ env h f.new.length x new∧x h.length=f.x∧new h.length=f.new) ∨
     (∃ g want t,o.guard=some (g,want)∧(ops[g]?).bind (·.dst)=some t∧(look env t=some (.b (!want))∨look env t=some (.v undef))∧f.x = .v undef∧f.new=[]))
def DV (P:Program) (n:Nat × Nat) (ops:Array Oper) (pres:List (List Nat)) (ds:List Nat) (env:eG) (h:Hp) (effs:List nS) (K:eG→Hp→Prop):Prop:=
 ∃ more,(effs++more).length=pres.length∧jS (effs++more)=ds ∧
  (∀ i f pre,effs.length≤i→(effs++more)[i]? = some f→pres[i]? = some pre→JP P ops i (B4 env ((effs++more).take i) pre) (h++kQ (fun j=>pre.any (Nat.beq j)) 0 ((effs++more).take i)) f) ∧
  VC P n ops (ops.toList.drop pres.length) (B4 env (effs++more) (List.range pres.length)) (h++kQ (fun _=>true) 0 (effs++more)) K
theorem CL {P:Program}{n:Nat × Nat}{ops:Array Oper}{pres:List (List Nat)}{ds:List Nat}{env:eG}{h:Hp}{effs:List nS}{K:eG→Hp→Prop}{f:nS}{pre:List Nat}{i:Nat}(hi:effs.length=i) (hp:pres[i]? = some pre)
  (hg:JP P ops i (B4 env effs pre) (h++kQ (fun j=>pre.any (Nat.beq j)) 0 effs) f) (hk:DV P n ops pres ds env h (effs++[f]) K):DV P n ops pres ds env h effs K:=by
 obtain ⟨more,h1,h2,h3,h4⟩:=hk;have e:effs++[f]++more=effs++(f::more):=by simp
 rw [e] at h1 h2 h3 h4;refine ⟨f::more,h1,h2,fun j g p hj hgj hpj=>?_,h4⟩
 by_cases hji:j=i
 ·subst hji;rw [hp] at hpj;cases hpj;rw [aF (by omega),hi,eI] at hgj
  simp at hgj;subst hgj;rw [iW,bO (by omega),hi,eI]
  simpa using hg
 ·exact h3 j g p (by simp;omega) hgj hpj
theorem yS4 {P:Program}{n:Nat × Nat}{ops:Array Oper}{pres:List (List Nat)}{ds:List Nat}{env:eG}{h:Hp}{effs:List nS}{K:eG→Hp→Prop}(hl:effs.length=pres.length) (hd:jS effs=ds)
  (hk:VC P n ops (ops.toList.drop pres.length) (B4 env effs (List.range pres.length)) (h++kQ (fun _=>true) 0 effs) K):DV P n ops pres ds env h effs K:=by
 refine ⟨[],by simpa using hl,by simpa using hd,fun i f pre hi hf _=>?_,by simpa using hk⟩
 have:=(aA.1 hf).1;simp at this;omega
structure xF (P:Program) (n:Nat × Nat) (c:pS) (env:eG) (h:Hp) (all:List nS) (L:Nat→Bool) (ρ:Pl) (S:Nat→Prop) (a:Act) (w:World):Prop where
 size:a.tmps.size=n.1
 defers:wG c S a.defers w
 cm:c.m=n.2
 env0:∀ t x,look env t=some x→R S w x ρ (a.tmps.getD t undef)
 done:∀ (i:Nat) f t,all[i]? = some f→L i=true→f.d=some t→R S w f.x ρ (a.tmps.getD t undef)
 hs:HS c ρ S (h++kQ L 0 all) w
 undone:∀ (i:Nat) f,all[i]? = some f→L i=false→∀ j,j<f.new.length→ρ (h.length+nN (all.take i)+j)=none
theorem xF.step {P:Program}{n:Nat × Nat}{c:pS}{env:eG}{h:Hp}{all:List nS}{L L':Nat→Bool}{ρ ρ':Pl}{S S':Nat→Prop}{a:Act}{w w':World}{i:Nat}{f:nS}{y:Value}(s:xF P n c env h all L ρ S a w)
  (hf:all[i]? = some f) (hi:L i=false) (hL:∀ j,L' j=(L j||Nat.beq j i)) (p:BQ ρ ρ' S S' w w' (h.length+nN (all.take i)) f.new.length f.x f.new y) (hd:GH f.d n=true) (hnd:(jS all).Nodup) (henv:∀ t x,look env t=some x→t∉jS all) (hm:c.m≤h.length) :
  xF P n c env h all L' ρ' S' (a.put f.d y) w':=by
 have hn:=s.undone i f hf hi;have l:=p.later hn s.hs.stab;have hil:i<all.length:=(aA.1 hf).1;have dst_ne:∀ {j:Nat} {g:nS} {t:Nat},all[j]? = some g→j≠i→g.d=some t→f.d≠some t:=fun {j g t} hg hne hgt hft=>by
  have key:∀ {l:List nS} {i j:Nat} {f g:nS},(jS l).Nodup→l[i]? = some f→l[j]? = some g→i<j→f.d=some t→g.d=some t→False:=by
   intro l
   induction l with
   | nil=>intro i j f g _ h1;simp at h1
   | cons e l ih=>
    intro i j f g hnd h1 h2 hij hf hg;have tail:(jS l).Nodup:=by
     unfold jS at hnd ⊢;rw [M2] at hnd;split at hnd
     ·exact hnd
     ·exact (fR.1 hnd).2
    cases j with
    | zero=>omega
    | succ j=>
     simp only [kW] at h2;cases i with
     | zero=>
      simp only [eF,Option.some.injEq] at h1;subst h1;unfold jS at hnd;rw [M2,hf] at hnd;exact (fR.1 hnd).1 (kP.2 ⟨g,aQ h2,hg⟩)
     | succ i=>exact ih tail (by simpa using h1) h2 (by omega) hf hg
  rcases jI hne with h1 | h1
  ·exact key hnd hg hf h1 hgt hft
  ·exact key hnd hf hg h1 hft hgt
 have other:∀ {t:Nat},f.d≠some t→(a.put f.d y).tmps.getD t undef=a.tmps.getD t undef:=fun {t} ht=>by
  cases hfd:f.d with
  | none=>rfl
  | some d=>exact vR (fun e=>ht (by rw [hfd,e]))
 have hsplit:all=all.take i++f::all.drop (i+1):=by
  have:=bK i all;rw [aP hil] at this;have e:all[i]=f:=by rw [aB hil] at hf;exact Option.some.inj hf
  rw [e] at this;exact this.symm
 have hti:(all.take i).length=i:=by rw [aY];omega
 have sL:∀ M:Nat→Bool,kQ M 0 all=kQ M 0 (all.take i)++((match M i with | true=>f.new | false=>List.replicate f.new.length .gone)++kQ M (i+1) (all.drop (i+1))):=fun M=>by
  conv=>lhs;rw [hsplit]
  rw [sT,hti,Nat.zero_add];rfl
 have e1:kQ L' 0 (all.take i)=kQ L 0 (all.take i):=mX _ _ fun j _ hj=>by
  rw [hti] at hj;rw [hL,show Nat.beq j i=false from by rw [← fA];intro hb;have:=aS hb;omega,lC]
 have e2:kQ L' (i+1) (all.drop (i+1))=kQ L (i+1) (all.drop (i+1)):=mX _ _ fun j hj _=>by
  rw [hL,show Nat.beq j i=false from by rw [← fA];intro hb;have:=aS hb;omega,lC]
 have hLi:L' i=true:=by rw [hL,fN,zE]
 have hA:h++kQ L 0 all=h++(kQ L 0 (all.take i)++(List.replicate f.new.length .gone++kQ L (i+1) (all.drop (i+1)))):=by rw [sL L,hi]
 have hB:h++kQ L' 0 all=h++(kQ L 0 (all.take i)++(f.new++kQ L (i+1) (all.drop (i+1)))):=by rw [sL L',hLi,e1,e2]
 have hlen:=nK L 0 (all.take i);refine ⟨by rw [mT];exact s.size,by rw [kN];exact s.defers.later l,s.cm,fun t x hx=>?_,fun j g t hg hj ht=>?_,?_,fun j g hg hj k hk=>?_⟩
 ·rw [other (fun e=>henv t x hx (kP.2 ⟨f,aQ hf,e⟩))];exact (s.env0 t x hx).later l
 ·by_cases hji:j=i
  ·subst hji;rw [hf] at hg;cases hg;rw [ht] at hd ⊢;have hlt:t<a.tmps.size:=by rw [s.size];exact aI hd
   rw [xL hlt];exact p.val
  ·rw [other (dst_ne hg hji ht)];have hjL:L j=true:=by
    rw [hL] at hj;rcases jB.1 hj with hj | hj
    ·exact hj
    ·exact absurd (aS hj) hji
   exact (s.done j g t hg hjL ht).later l
 ·have hs:=s.hs;rw [hA] at hs;rw [hB];refine hs.fill p hn (by simp) (fun k hk=>?_) (fun j hj=>?_) (.inl (by omega))
  ·have:=yB3 (h++kQ L 0 (all.take i)) f.new (List.replicate f.new.length .gone) (kQ L (i+1) (all.drop (i+1))) (by simp) k (by rw [aD,hlen];omega)
   simpa only [bM] using this
  ·rw [aF (by omega),aF (by omega),aG (by omega)]
   congr 1;omega
 ·have hjne:j≠i:=fun e=>by rw [e,hLi] at hj;cases hj
  have hjL:L j=false:=by
   rw [hL] at hj;exact (pC.1 hj).1
  have h1:=s.undone j g hg hjL k hk;rw [p.keep _ ?_];exact h1;have hjl:j<all.length:=(aA.1 hg).1;have eg:all[j]=g:=by rw [aB hjl] at hg;exact Option.some.inj hg
  have ef:all[i]=f:=by rw [aB hil] at hf;exact Option.some.inj hf
  have mono:∀ {u v:Nat},u<v→(hv:v≤all.length)→(hu:u<all.length)→nN (all.take u)+all[u].new.length≤nN (all.take v):=fun {u v} huv hv hu=>by
   have e3:all.take v=all.take u++(all[u]::(all.take v).drop (u+1)):=by
    have:=bK u (all.take v);rw [xA4,K5 (by omega),aP (by simp;omega)] at this
    rw [List.getElem_take] at this;exact this.symm
   rw [e3,AO,nN];omega
  rcases jI hjne with h2 | h2
  ·left;have:=mono h2 (by omega) hjl
   rw [eg] at this;omega
  ·right;have:=mono h2 (by omega) hil
   rw [ef] at this;omega
theorem lU {ops:Array Oper}{pres:List (List Nat)}(hok:vM ops pres=true){i:Nat}{o:Oper}(ho:ops[i]? = some o):∀ e,e∈o.after→Region.binds .any e=true→e.on<i:=by
 intro e he hb;have hlt:i<ops.size:=(aJ.1 ho).1;have h:=bJ.1 hok i (by simpa using hlt)
 rw [ho] at h;simp only [aN,bJ] at h;have:=h.1 e (by simpa using he)
 simpa [hb] using this
theorem qR {ops:Array Oper}{pres:List (List Nat)}(hok:vM ops pres=true){i:Nat}{o:Oper}{pre:List Nat}(ho:ops[i]? = some o) (hp:pres[i]? = some pre):∀ j,j∈pre→j<i∧∃ e,e∈o.after∧Region.binds .any e=true∧(e.on=j∨j∈pres.getD e.on []):=by
 intro j hj;have hlt:i<ops.size:=(aJ.1 ho).1;have h:=bJ.1 hok i (by simpa using hlt)
 rw [ho] at h;simp only [hp,aN,bJ] at h;have:=h.2 j hj;simp only [decide_eq_true_eq,kX,aN,K8] at this;obtain ⟨h1,e,h2,h3,h4⟩:=this;refine ⟨h1,e,by simpa using h2,h3,?_⟩
 rcases h4 with h4 | ⟨x,h5,h6⟩
 ·exact .inl (aS h4)
 ·right;rw [aS h6];exact h5
theorem wV {ops:Array Oper}{pres:List (List Nat)}(hok:vM ops pres=true){i:Nat}{o:Oper}(ho:ops[i]? = some o) (hp:pres.length≤i):∀ j,j<i→∃ e,e∈o.after∧Region.binds .any e=true∧e.on=j:=by
 intro j hj;have hlt:i<ops.size:=(aJ.1 ho).1;have h:=bJ.1 hok i (by simpa using hlt)
 rw [ho] at h;simp only [dA hp,aN,bJ] at h;have:=h.2 j (by simpa using hj)
 simp only [kX,aN] at this;obtain ⟨e,h2,h3,h4⟩:=this;exact ⟨e,by simpa using h2,h3,aS h4⟩
theorem sQ {P:Program}{ops:Array Oper}{pres:List (List Nat)}{Q:Exit→Act→World→Prop}(hok:vM ops pres=true):∀ (r k fuel:Nat) (listed:Array Bool) (a:Act) (w:World),k+r=ops.size→pres.length≤k→r≤fuel→listed.size=ops.size→(∀ j,j<ops.size→listed.getD j false=decide (j<k)) →
  wpList P ops Q (ops.toList.drop k) a w→wpAny P .any ops Q fuel listed a w:=by
 intro r
 induction r with
 | zero=>
  intro k fuel listed a w hk _ _ hsz hl h;have hk':k=ops.size:=by omega
  have hr:Region.ready .any ops listed=[]:=by
   rw [lQ];intro i hi;obtain ⟨h1,o,ho,_⟩:=mem_ready.1 hi;have hlt:i<ops.size:=(aJ.1 ho).1;have:=hl i hlt;have e:listed.getD i true=listed.getD i false:=by simp [Array.getD,hsz,hlt]
   rw [e,this] at h1;simp at h1;omega
  rw [cY (by simp;omega)] at h
  cases fuel with
  | zero=>exact ⟨hr,h⟩
  | succ fuel=>exact ⟨fun _=>h,fun i hi=>by rw [hr] at hi;cases hi⟩
 | succ r ih=>
  intro k fuel listed a w hk hp hf hsz hl h;obtain ⟨fuel,rfl⟩:∃ f,fuel=f+1:=⟨fuel-1,by omega⟩
  have hlt:k<ops.size:=by omega
  have ho:ops[k]? = some ops[k]:=dQ hlt
  have hin:k∈Region.ready .any ops listed:=mem_ready.2 ⟨by
   have e:listed.getD k true=listed.getD k false:=by simp [Array.getD,hsz,hlt]
   rw [e,hl k hlt];simp,ops[k],ho,fun e he hb=>by
   have:=lU hok ho e he hb
   rw [hl e.on (by omega)];simpa using this⟩
  refine ⟨(fun hr=>by rw [hr] at hin;cases hin),fun i hi=>?_⟩
  obtain ⟨h1,o,hoi,hall⟩:=mem_ready.1 hi;have hil:i<ops.size:=(aJ.1 hoi).1;have hik:i=k:=by
   have e:listed.getD i true=listed.getD i false:=by simp [Array.getD,hsz,hil]
   rw [e,hl i hil] at h1;have h2:k≤i:=by simpa using h1
   rcases Nat.eq_or_lt_of_le h2 with h3 | h3
   ·exact h3.symm
   ·obtain ⟨e,he,hb,hon⟩:=wV hok hoi (by omega) k h3
    have:=hall e he hb;rw [hon,hl k hlt] at this;simp at this
  subst hik;have hlist:ops.toList.drop i=ops[i]::ops.toList.drop (i+1):=by
   rw [aP (by simpa using hlt)];simp
  rw [hlist] at h;have:wpOp P ops Q i (wpList P ops Q (ops.toList.drop (i+1))) a w:=by
   unfold wpOp;rw [ho];exact h
  refine wpOp_mono (fun a' w' h'=>ih (i+1) fuel _ a' w' (by omega) (by omega) (by omega) (by simpa using hsz) (fun j hj=>?_) h') this
  by_cases hij:i=j
  ·subst hij;simp [Array.getD,hsz,hlt]
  ·rw [getD_set_ne false hij,hl j hj];simp;omega
theorem zS8 {P:Program}{n:Nat × Nat}{env:eG}{h:Hp}{KK:eG→Hp→Prop}{l:List Oper}(pres:List (List Nat)) (ds:List Nat) (hok:vM l.toArray pres=true) (hnd:ds.Nodup) (hds:(ds.all fun d=>Nat.blt d n.1)=true) (hsz:Nat.ble pres.length l.length=true)
  (hv:DV P n l.toArray pres ds (eP ds env) h [] KK):∀ c ρ S a w QQ,qL n c ρ S env h a w→(∀ env' h' ρ' S' a' w',KK env' h'→qL n c ρ' S' env' h' a' w'→QQ Exit.normal a' w') →
  wpAny P .any l.toArray QQ l.toArray.size (Array.replicate l.toArray.size false) a { w with drawn:=w.drawn+1 }:=by
 intro c ρ S a w QQ s hQ;obtain ⟨all,h1,h2,h3,h4⟩:=hv;simp only [List.nil_append,List.length_nil,bZ,true_implies] at h1 h2 h3 h4;have hple:pres.length≤l.toArray.size:=by simpa using aI hsz
 have henv:∀ t x,look (eP ds env) t=some x→look env t=some x∧t∉jS all:=fun t x hx=>by rw [h2];exact lA hx
 -- the first operations,in whatever order
 have key:∀ (fuel:Nat) (listed:Array Bool) (U:List Nat) (ρ:Pl) (S:Nat→Prop) (a:Act) (w:World),listed.size=l.toArray.size→(∀ j,j<l.toArray.size→listed.getD j false=false→j∈U)→U.length≤fuel→(∀ j,pres.length≤j→listed.getD j false=false) →
   (∀ (i:Nat) o,l.toArray[i]? = some o→listed.getD i false=true→∀ e,e∈o.after→Region.binds .any e=true→listed.getD e.on false=true) →
   xF P n c (eP ds env) h all (fun j=>listed.getD j false) ρ S a w→wpAny P .any l.toArray QQ fuel listed a w:=by
  intro fuel
  induction fuel with
  | zero=>
   intro listed U ρ S a w hls hU hUl htail hcl st;have hU0:U=[]:=cJ (by omega)
   subst hU0;have hall:∀ j,j<l.toArray.size→listed.getD j false=true:=fun j hj=>by
    cases hb:listed.getD j false with
    | true=>rfl
    | false=>exact absurd (hU j hj hb) (by simp)
   have hpm:pres.length=l.toArray.size:=by
    rcases jO pres.length l.toArray.size with h5 | h5
    ·have:=htail pres.length (aX _);rw [hall _ h5] at this;cases this
    ·omega
   refine sQ (k:=pres.length) (r:=0) hok _ _ a w (by omega) (aX _) (aX _) hls (fun j hj=>?_) (h4 c ρ S a w QQ ?_ fun env' h' ρ' S' a' w' k s'=>hQ env' h' ρ' S' a' w' k s')
   ·rw [hall j hj];simp;omega
   ·refine ⟨st.size,st.defers,fun t x hx=>?_,?_,st.cm⟩
    ·rcases nT hx with hx | ⟨j,f,h5,h6,h7,rfl⟩
     ·exact st.env0 t x hx
     ·exact st.done j f t h6 (hall j (by have:=(aA.1 h6).1;omega)) h7
    ·have:=st.hs
     rwa [mX (L:=fun j=>listed.getD j false) (L':=fun _=>true) all 0 (fun j _ hj=>hall j (by omega))] at this
  | succ fuel ih=>
   intro listed U ρ S a w hls hU hUl htail hcl st;by_cases hfl:∀ j,j<pres.length→listed.getD j false=true
   ·-- all of the first ones have come up
    refine sQ (k:=pres.length) (r:=l.toArray.size-pres.length) hok _ _ a w (by omega) (aX _) ?_ hls (fun j hj=>?_) (h4 c ρ S a w QQ ?_ fun env' h' ρ' S' a' w' k s'=>hQ env' h' ρ' S' a' w' k s')
    ·have hsub:∀ j,j∈List.range' pres.length (l.toArray.size-pres.length)→j∈U:=fun j hj=>by
      rw [zV0] at hj;exact hU j (by omega) (htail j hj.1)
     have:=(zU9 (s:=pres.length) (n:=l.toArray.size-pres.length)).length_le_of_subset hsub;rw [zC0] at this;omega
    ·by_cases hj':j<pres.length
     ·rw [hfl j hj'];simp [hj']
     ·rw [htail j (by omega)];simp;omega
    ·refine ⟨st.size,st.defers,fun t x hx=>?_,?_,st.cm⟩
     ·rcases nT hx with hx | ⟨j,f,h5,h6,h7,rfl⟩
      ·exact st.env0 t x hx
      ·exact st.done j f t h6 (hfl j (by have:=(aA.1 h6).1;omega)) h7
     ·have:=st.hs
      rwa [mX (L:=fun j=>listed.getD j false) (L':=fun _=>true) all 0 (fun j _ hj=>hfl j (by omega))] at this
   ·obtain ⟨j0,hj0,hjf⟩:∃ j,j<pres.length∧listed.getD j false=false:=by
     apply Classical.byContradiction;intro hc;apply hfl;intro j hj;cases hb:listed.getD j false with
     | true=>rfl
     | false=>exact absurd ⟨j,hj,hb⟩ hc
    -- something is ready
    have hex:Region.ready .any l.toArray listed≠[]:=by
     have gW:∃ j,j<pres.length∧listed.getD j false=false∧∀ k,k<j→listed.getD k false=true:=by
      have:∀ b j,j≤b→j<pres.length→listed.getD j false=false→∃ j,j<pres.length∧listed.getD j false=false∧∀ k,k<j→listed.getD k false=true:=by
       intro b
       induction b with
       | zero=>exact fun j hj h5 h6=>⟨j,h5,h6,fun k hk=>by omega⟩
       | succ b ihb=>
        intro j hj h5 h6;by_cases hk:∃ k,k<j∧listed.getD k false=false
        ·obtain ⟨k,hk1,hk2⟩:=hk;exact ihb k (by omega) (by omega) hk2
        ·refine ⟨j,h5,h6,fun k hk'=>?_⟩
         cases hb:listed.getD k false with
         | true=>rfl
         | false=>exact absurd ⟨k,hk',hb⟩ hk
      exact this j0 j0 (aX _) hj0 hjf
     obtain ⟨j,h5,h6,h7⟩:=gW;intro he;have hlt:j<l.toArray.size:=by omega
     have:j∈Region.ready .any l.toArray listed:=mem_ready.2 ⟨by
      have e:listed.getD j true=listed.getD j false:=by simp only [Array.getD,hls,hlt,dif_pos]
      rw [e,h6],_,dQ hlt,fun e he hb=>h7 _ (lU hok (dQ hlt) e he hb)⟩
     rw [he] at this;cases this
    refine ⟨fun h5=>absurd h5 hex,fun i hi=>?_⟩
    obtain ⟨g1,o,ho,hall⟩:=mem_ready.1 hi;have hil:i<l.toArray.size:=(aJ.1 ho).1;have g1':listed.getD i false=false:=by
     have e:listed.getD i true=listed.getD i false:=by simp only [Array.getD,hls,hil,dif_pos]
     rw [← e];exact g1
    have him:i<pres.length:=by
     rcases jO i pres.length with h5 | h5
     ·exact h5
     ·obtain ⟨e,he,hb,hon⟩:=wV hok ho h5 j0 (by omega)
      have:=hall e he hb;rw [hon,hjf] at this;cases this
    have hfi:all[i]? = some all[i]:=aB (by omega)
    obtain ⟨pre,hpre⟩:∃ pre,pres[i]? = some pre:=⟨_,aB him⟩;obtain ⟨o',ho',hd',hg⟩:=h3 i all[i] pre hfi hpre;rw [ho] at ho';cases ho'
    -- its predecessors have come up
    have hprel:∀ j,j∈pre→listed.getD j false=true:=by
     have up:∀ (b k:Nat) (p:List Nat),k≤b→pres[k]? = some p→(k=i∨listed.getD k false=true)→∀ j,j∈p→listed.getD j false=true:=by
      intro b
      induction b with
      | zero=>
       intro k p hk hp _ j hj;obtain ⟨ok,hok1⟩:∃ o,l.toArray[k]? = some o:=⟨_,dQ (by have:=(aA.1 hp).1;omega)⟩
       have:=(qR hok hok1 hp j hj).1;omega
      | succ b ihb=>
       intro k p hk hp hki j hj;obtain ⟨ok,hok1⟩:∃ o,l.toArray[k]? = some o:=⟨_,dQ (by have:=(aA.1 hp).1;omega)⟩
       obtain ⟨_,e,he,hb,hor⟩:=qR hok hok1 hp j hj;have hle:listed.getD e.on false=true:=by
        rcases hki with rfl | hki
        ·rw [ho] at hok1;cases hok1;exact hall e he hb
        ·exact hcl k ok hok1 hki e he hb
       rcases hor with hor | hor
       ·rw [← hor];exact hle
       ·have hon:=lU hok hok1 e he hb;cases hpe:pres[e.on]? with
        | none=>rw [aE,hpe] at hor;simp at hor
        | some p'=>
         rw [aE,hpe] at hor;exact ihb e.on p' (by omega) hpe (.inr hle) j hor
     exact up i i pre (aX _) hpre (.inl rfl)
    have hpreP:GM ρ S (B4 (eP ds env) (all.take i) pre) (h++kQ (fun j=>pre.any (Nat.beq j)) 0 (all.take i)) a w:=by
     have sub:∀ (k:Nat) b,(h++kQ (fun j=>pre.any (Nat.beq j)) 0 (all.take i))[k]? = some b→b≠.gone→(h++kQ (fun j=>listed.getD j false) 0 all)[k]? = some b:=fun k b hb hgb=>by
      by_cases hk:k<h.length
      ·rw [aG hk] at hb ⊢;exact hb
      ·rw [aF (by omega)] at hb ⊢
       have h5:=P7 (L':=fun j=>listed.getD j false) _ _ _ _ (fun j hj=>hprel j (pI.1 hj)) hb hgb;have h6:kQ (fun j=>listed.getD j false) 0 all=kQ (fun j=>listed.getD j false) 0 (all.take i)++kQ (fun j=>listed.getD j false) (0+(all.take i).length) (all.drop i):=by
        rw [← sT,bK]
       rw [h6,aG (aA.1 h5).1];exact h5
     refine ⟨fun t x hx=>?_,st.hs.rng,fun k b hb=>?_,fun k b p hb hgb hp=>(st.hs.live k b p (sub k b hb hgb) hgb hp).2,st.hs.stab,st.hs.glob⟩
     ·rcases nT hx with hx | ⟨j,f,h5,h6,h7,rfl⟩
      ·exact st.env0 t x hx
      ·rw [cE] at h6;split at h6
       ·exact st.done j f t h6 (hprel j h5) h7
       ·cases h6
     ·by_cases hgb:b = .gone
      ·subst hgb;trivial
      ·exact st.hs.blk k b (sub k b hb hgb)
    have hposl:(h++kQ (fun j=>pre.any (Nat.beq j)) 0 (all.take i)).length=h.length+nN (all.take i):=by rw [aD,nK]
    have hokd:GH all[i].d n=true:=by
     cases hdi:all[i].d with
     | none=>rfl
     | some d=>
      have:d∈ds:=by rw [← h2];exact kP.2 ⟨all[i],aO _,hdi⟩
      exact bJ.1 hds d this
    -- on,kU it
    have on:∀ y ρ' S' w',BQ ρ ρ' S S' w w' (h.length+nN (all.take i)) all[i].new.length all[i].x all[i].new y→wpAny P .any l.toArray QQ fuel (listed.setIfInBounds i true) (a.put all[i].d y) w':=fun y ρ' S' w' p=>by
     have hiU:i∈U:=hU i hil g1';have hget:∀ j,(listed.setIfInBounds i true).getD j false=(listed.getD j false||Nat.beq j i):=fun j=>by
      by_cases hij:i=j
      ·subst hij;rw [fN,zE];simp only [Array.getD,BU,hls,hil,dif_pos];simp
      ·rw [getD_set_ne false hij,show Nat.beq j i=false from by rw [← fA];intro hb;have:=aS hb;omega,lC]
     refine ih (listed.setIfInBounds i true) (U.erase i) ρ' S' _ w' (by simpa using hls) (fun j hj hjl=>?_) (by rw [lR hiU];omega) (fun j hj=>?_) (fun k ok hok1 hkl e he hb=>?_) (st.step (L':=fun j=>(listed.setIfInBounds i true).getD j false) hfi g1' hget p hokd (by rw [h2];exact hnd) (fun t x hx=>(henv t x hx).2) s.hs.mle)
     ·rw [hget] at hjl;obtain ⟨h5,h6⟩:=pC.1 hjl;have hne:j≠i:=fun e=>by rw [e,fN] at h6;cases h6
      exact (mI hne).2 (hU j hj h5)
     ·rw [hget,htail j hj,show Nat.beq j i=false from by rw [← fA];intro hb;have:=aS hb;omega];rfl
     ·rw [hget] at hkl ⊢;rcases jB.1 hkl with h5 | h5
      ·rw [hcl k ok hok1 h5 e he hb];rfl
      ·have:=aS h5;subst this;rw [ho] at hok1;cases hok1;rw [hall e he hb];rfl
    have yv:∀ {g t:Nat} {b:Bool},(l.toArray[g]?).bind (·.dst)=some t→look (B4 (eP ds env) (all.take i) pre) t=some (.b b)→yielded l.toArray a.tmps g=some b:=fun {g t b} h5 h6=>by
     have h7:=rL (hpreP.env t _ h6);unfold yielded;rw [h5];have:a.tmps[t]? = some (.bool b):=by
      rw [eA] at h7;cases h8:a.tmps[t]? with
      | none=>rw [h8] at h7;simp [undef] at h7
      | some v=>rw [h8] at h7;simp at h7;rw [h7]
     simp [this]
    have yvu:∀ {g t:Nat},(l.toArray[g]?).bind (·.dst)=some t→look (B4 (eP ds env) (all.take i) pre) t=some (.v undef)→yielded l.toArray a.tmps g=none:=fun {g t} h5 h6=>by
     have h7:=rL (hpreP.env t _ h6);unfold yielded;rw [h5];rw [eA] at h7;cases h8:a.tmps[t]? with
     | none=>simp [h8]
     | some v=>rw [h8] at h7;simp at h7;simp [h8,h7,undef]
    unfold wpOp;rw [ho];simp only;rcases hg with ⟨x,new,hgu,hfs,hx,hn⟩ | ⟨g,want,t,hgu,h5,h6,hx,hn⟩
    ·have hw:Region.wanted o (yielded l.toArray a.tmps)=true:=by
      rcases hgu with hgu | ⟨g,want,t,hgu,h5,h6⟩
      ·exact oO hgu
      ·simp [Region.wanted,hgu,yv h5 h6]
     rw [if_pos hw];left;have:=hfs ρ S a w hpreP (h++kQ (fun j=>pre.any (Nat.beq j)) 0 (all.take i)).length (fun j hj=>by rw [hposl];exact st.undone i _ hfi g1' j hj)
     refine this (wpAny P .any l.toArray QQ fuel (listed.setIfInBounds i true)) QQ fun y ρ' S' w' p=>?_
     rw [hx,hn,hposl] at p;have:=on y ρ' S' w' p;rw [← hd'] at this;exact this
    ·have hw:Region.wanted o (yielded l.toArray a.tmps)=false:=by
      rcases h6 with h6 | h6
      ·simp [Region.wanted,hgu,yv h5 h6]
      ·simp [Region.wanted,hgu,yvu h5 h6]
     rw [if_neg (by rw [hw];exact oA)]
     have:=on undef ρ S w ⟨nD.refl _ _,rfl,fun _ _=>rfl,fun _ h=>h,fun _ h=>.inl h,fun k p hk1 hk2=>by rw [hn] at hk2;simp at hk2;omega,fun k k' p p' hk1 hk2=>by rw [hn] at hk2;simp at hk2;omega,by rw [hx];exact lN _,fun j b hb=>by rw [hn] at hb;simp at hb⟩
     rw [← hd'] at this;exact this
 have hsize:l.toArray.size=l.length:=by simp
 have hrep:∀ j,(Array.replicate l.toArray.size false).getD j false=false:=fun j=>by
  simp only [Array.getD];split <;> simp
 refine key l.toArray.size _ (List.range l.toArray.size) ρ S a _ (by simp) (fun j hj _=>by simpa using hj) (by simp) (fun j _=>hrep j) (fun i o _ hi=>by rw [hrep] at hi;cases hi) ?_
 have hseg:∀ (r:List nS) (i:Nat),kQ (fun _=>false) i r=List.replicate (nN r) .gone:=by
  intro r
  induction r with
  | nil=>intro i;rfl
  | cons f r ih=>intro i;simp only [kQ,ih,nN,B3]
 have hL:(fun j=>(Array.replicate l.toArray.size false).getD j false)=fun _=>false:=funext hrep
 rw [hL];have l0:iF ρ ρ S S w { w with drawn:=w.drawn+1 }:=⟨fun _ _ h=>h,fun _ h=>h,fun _ _=>rfl,fun _ _ _ _ _ h=>h⟩
 refine ⟨s.size,s.defers.later l0,s.cm,fun t x hx=>(s.env t x (lA hx).1).later l0,fun i f t _ hi=>(by cases hi),?_,fun i f _ _ j _=>s.hs.dom _ (by omega)⟩
 rw [hseg];have ext:nD c.M c.w0 { w with drawn:=w.drawn+1 }:=s.hs.ext.drew;have at_:∀ {k:Nat} {b:AB},(h++List.replicate (nN all) .gone)[k]? = some b→b≠.gone→h[k]? = some b:=fun {k b} hb hg=>by
  by_cases hk:k<h.length
  ·rwa [aG hk] at hb
  ·rw [aF (by omega),qG] at hb
   split at hb
   ·cases hb;exact absurd rfl hg
   ·cases hb
 refine ⟨fun k hk=>s.hs.dom k (by simp at hk;omega),s.hs.rng,fun k b hb=>?_,fun k b p hb hg hp=>s.hs.live k b p (at_ hb hg) hg hp,fun k k' b b' p p' hb hb' hg hg' hp hp' e=>s.hs.inj k k' b b' p p' (at_ hb hg) (at_ hb' hg') hg hg' hp hp' e,s.hs.stab,ext,s.hs.st0,s.hs.st1,by simp;exact bL s.hs.mle (gZ _ _),s.hs.keep,s.hs.glob.later l0⟩
 by_cases hg:b = .gone
 ·subst hg;trivial
 ·exact RB.later l0 (fun _ _ _=>rfl) (s.hs.blk k b (at_ hb hg))
theorem pX {P:Program}{QQ:Exit→Act→World→Prop}{id:Nat}{l:List Oper}{a:Act}{w:World}{r:Option Nat}(hm:P.follows .mixedOrders=true) (hnd:nW l=true) (h:wpAny P .any l.toArray (fun e a w=>e = .normal∧QQ .normal a w) l.toArray.size (Array.replicate l.toArray.size false) a { w with drawn:=w.drawn+1 }) :
  (Code.region id l.toArray true).wpIn (rd r) 0 P QQ a w:=
 wpIn_mono (wpIn_region_any hm (O8 (fun e a w h=>h.1) hnd h)) fun e a w he=>by obtain ⟨rfl,h3⟩:=he;exact h3
theorem H6 {env:eG}{all:List nS}:∀ (s n:Nat),s+n=all.length→B4 env all (List.range' s n)=(all.drop s).foldr (fun f e=>nE f.d f.x e) env
 | s,0,h=>by rw [cY (by omega)];rfl
 | s,n+1,h=>by
  have hlt:s<all.length:=by omega
  rw [List.range'_succ,aP hlt];simp only [B4,aB hlt,List.foldr_cons];rw [H6 (s+1) n (by omega)]
theorem P6:∀ (i:Nat) (l:List nS),kQ (fun _=>true) i l=l.flatMap (·.new)
 | _,[]=>rfl
 | i,f::r=>by simp only [kQ,bP,P6 (i+1) r]
def T1 (env:eG):List nS→eG
 | []=>env
 | f::r=>nE f.d f.x (T1 env r)
def PO:List nS→Hp
 | []=>[]
 | f::r=>f.new++PO r
theorem T0 (env:eG):∀ l:List nS,T1 env l=l.foldr (fun f e=>nE f.d f.x e) env
 | []=>rfl
 | f::r=>by simp only [T1,List.foldr_cons,T0 env r]
theorem CH:∀ l:List nS,PO l=l.flatMap (·.new)
 | []=>rfl
 | f::r=>by simp only [PO,bP,CH r]
section
variable {P:Program}{n:Nat × Nat}{ops:Array Oper}{pres:List (List Nat)}{ds:List Nat}{env:eG}{h:Hp}{effs:List nS}{K:eG→Hp→Prop}{pre:List Nat}
variable {op:Op}{ty:TypeId}{pos:String}{af:Array Edge}{d:Option Nat}
theorem xE1 {u:AV}(hp:pres[effs.length]? = some pre) (ho:ops[effs.length]? = some ⟨d,op,ty,pos,af,none⟩) (hs:bW P ⟨d,op,ty,pos,af,none⟩ (B4 env effs pre) (h++kQ (fun j=>pre.any (Nat.beq j)) 0 effs) 0 (fun _=>u) (fun _=>[]))
  (hk:DV P n ops pres ds env h (effs++[⟨d,u,[]⟩]) K):DV P n ops pres ds env h effs K:=
 CL (f:=⟨d,u,[]⟩) rfl hp ⟨_,ho,rfl,.inl ⟨fun _=>u,fun _=>[],.inl rfl,hs,rfl,rfl⟩⟩ hk
theorem xE2 {u:Nat→AV}{b:Nat→List AB}{m:Nat}(hp:pres[effs.length]? = some pre) (ho:ops[effs.length]? = some ⟨d,op,ty,pos,af,none⟩) (hs:bW P ⟨d,op,ty,pos,af,none⟩ (B4 env effs pre) (h++kQ (fun j=>pre.any (Nat.beq j)) 0 effs) m u b)
  (hm:(b (h++kQ (fun j=>pre.any (Nat.beq j)) 0 effs).length).length=m)
  (hk:DV P n ops pres ds env h (effs++[⟨d,u (h++kQ (fun j=>pre.any (Nat.beq j)) 0 effs).length,b (h++kQ (fun j=>pre.any (Nat.beq j)) 0 effs).length⟩]) K):DV P n ops pres ds env h effs K:=
 CL rfl hp ⟨_,ho,rfl,.inl ⟨u,b,.inl rfl,by simp only [hm];exact hs,rfl,rfl⟩⟩ hk
theorem yZ1 {u:AV}{g t:Nat}{want:Bool}(hp:pres[effs.length]? = some pre) (ho:ops[effs.length]? = some ⟨d,op,ty,pos,af,some (g,want)⟩) (hj:(ops[g]?).bind (·.dst)=some t) (hl:look (B4 env effs pre) t=some (.b want)) (hs:bW P ⟨d,op,ty,pos,af,none⟩ (B4 env effs pre) (h++kQ (fun j=>pre.any (Nat.beq j)) 0 effs) 0 (fun _=>u) (fun _=>[]))
  (hk:DV P n ops pres ds env h (effs++[⟨d,u,[]⟩]) K):DV P n ops pres ds env h effs K:=
 CL (f:=⟨d,u,[]⟩) rfl hp ⟨_,ho,rfl,.inl ⟨fun _=>u,fun _=>[],.inr ⟨g,want,t,rfl,hj,hl⟩,hs,rfl,rfl⟩⟩ hk
theorem yZ2 {g t:Nat}{want:Bool}(hp:pres[effs.length]? = some pre) (ho:ops[effs.length]? = some ⟨d,op,ty,pos,af,some (g,want)⟩) (hj:(ops[g]?).bind (·.dst)=some t) (hl:look (B4 env effs pre) t=some (.b (!want)))
  (hk:DV P n ops pres ds env h (effs++[⟨d,.v undef,[]⟩]) K):DV P n ops pres ds env h effs K:=
 CL rfl hp ⟨_,ho,rfl,.inr ⟨g,want,t,rfl,hj,.inl hl,rfl,rfl⟩⟩ hk
theorem yS3 {rest:List Oper}{env':eG}{h':Hp}(hl:effs.length=pres.length) (hd:jS effs=ds) (hr:ops.toList.drop pres.length=rest) (he:T1 env effs=env') (hh:h++PO effs=h')
  (hk:VC P n ops rest env' h' K):DV P n ops pres ds env h effs K:=by
 refine yS4 hl hd ?_;rw [← hl,G8,H6 0 effs.length (by omega),jJ,← T0,P6,← CH,hl,hr,he,hh]
 exact hk
end
theorem zB7 {S S':Nat→Prop}{w:World}{ρ:Pl}{x:AV}{y:Value}(hS:∀ b,S b→S' b) (h:R S w x ρ y):R S' w x ρ y:=
 oN hS (fun _ _=>rfl) x ρ ρ y (fun _ _ h=>h) (fun _ _ _ _ _ h=>h) h
theorem zU2 {S S':Nat→Prop}{w:World}{ρ:Pl}{x:List AV}{y:List Value}(hS:∀ b,S b→S' b) (h:RL S w x ρ y):RL S' w x ρ y:=
 mG hS (fun _ _=>rfl) x ρ ρ y (fun _ _ h=>h) (fun _ _ _ _ _ h=>h) h
theorem J1 {S:Nat→Prop}{w:World}{ρ:Pl}{k sz:Nat}{es:List (List AV)}(hi:AV.idfL es.flatten=true) (hb:RB S w ρ (ρ k) (.arr es sz)){y:Value}(hy:R S w (.sl k 0 es.length sz) ρ y):R (fun c=>S c∨∃ o,ρ k=some (c,o)) w (.rowE es sz) ρ y:=by
 simp only [RB] at hb;obtain ⟨hl,h0,hb⟩:=hb;simp only [R] at hy ⊢;obtain ⟨a,cap,rfl,hcm,hc⟩:=hy;rcases hc with ⟨h1,rfl⟩ | ⟨b,o,h5,rfl,h7,h8⟩
 ·exact ⟨a,0,rfl,by omega,fun _=>rfl,hcm,fP hl,.inl h1⟩
 ·refine ⟨_,cap,rfl,h7,(fun e=>by cases e),hcm,fP hl,?_⟩
  rcases hb with ⟨rfl,_⟩ | ⟨b',o',ys,g1,g2,g3⟩
  ·exact .inl rfl
  ·rw [h5] at g1;cases g1;exact .inr ⟨b,o,ys,by simp,.inr ⟨o,h5⟩,g2.lies,zU2 (fun _ h=>.inl h) (xR ρ _ _ _ hi g3)⟩
theorem HS.freeze {c:pS}{ρ:Pl}{S:Nat→Prop}{h:Hp}{w:World}{k sz:Nat}{es:List (List AV)}(s:HS c ρ S h w) (hk:h[k]? = some (.arr es sz)):HS c ρ (fun b=>S b∨∃ o,ρ k=some (b,o)) (h.set k .gone) w:=by
 have get:∀ {j:Nat} {b:AB},(h.set k .gone)[j]? = some b→b≠.gone→j≠k∧h[j]? = some b:=fun {j b} hj hg=>by
  rw [iC] at hj;split at hj
  ·split at hj
   ·cases hj;exact absurd rfl hg
   ·cases hj
  ·rename_i e;exact ⟨fun e'=>e e'.symm,hj⟩
 have l:iF ρ ρ S (fun b=>S b∨∃ o,ρ k=some (b,o)) w w:=⟨fun _ _ h=>h,fun _ h=>.inl h,fun _ _=>rfl,fun _ _ _ _ _ h=>h⟩
 refine ⟨fun j hj=>s.dom j (by simpa using hj),s.rng,fun j b hb=>?_,fun j b p hb hg hp=>?_,fun j j' b b' p p' hb hb' hg hg' hp hp' e=>s.inj j j' b b' p p' (get hb hg).2 (get hb' hg').2 hg hg' hp hp' e,fun b hb=>?_,s.ext,fun b hb=>.inl (s.st0 b hb),fun b hb=>?_,by simpa using s.mle,s.keep,s.glob.st (fun b hb=>.inl hb)⟩
 ·by_cases hg:b = .gone
  ·subst hg;trivial
  ·exact RB.later l (fun _ _ _=>rfl) (s.blk j b (get hb hg).2)
 ·obtain ⟨h1,h2⟩:=s.live j b p (get hb hg).2 hg hp;refine ⟨h1,fun hs=>?_⟩
  rcases hs with hs | ⟨o,ho⟩
  ·exact h2 hs
  ·exact (get hb hg).1 (s.inj j k b _ p _ (get hb hg).2 hk hg (by simp) hp ho rfl)
 ·rcases hb with hb | ⟨o,ho⟩
  ·exact s.stab b hb
  ·exact s.rng k _ ho
 ·rcases hb with hb | ⟨o,ho⟩
  ·exact s.st1 b hb
  ·exact .inr (s.live k _ _ hk (by simp) ho).1
theorem qL.freeze {n:Nat × Nat}{c:pS}{ρ:Pl}{S:Nat→Prop}{env:eG}{h:Hp}{a:Act}{w:World}{t k len sz:Nat}{es:List (List AV)}(s:qL n c ρ S env h a w) (ht:look env t=some (.sl k 0 len sz)) (hk:h[k]? = some (.arr es sz)) (hn:len=es.length) (hi:AV.idfL es.flatten=true) :
  qL n c ρ (fun b=>S b∨∃ o,ρ k=some (b,o)) ((t,.rowE es sz)::env) (h.set k .gone) a w:=by
 refine ⟨s.size,s.defers.st (fun _ h=>.inl h),fun t' x hx=>?_,s.hs.freeze hk,s.cm⟩
 rw [iJ] at hx;split at hx
 ·rename_i e;subst e;cases hx;have:=s.env t _ ht;rw [hn] at this;exact J1 hi (s.hs.blk k _ hk) this
 ·exact zB7 (fun _ h=>.inl h) (s.env t' x hx)
section
variable {P:Program}{n:Nat × Nat}{ops:Array Oper}{env:eG}{h:Hp}{K:eG→Hp→Prop}{rest:List Oper}{Q:Exit→eG→Hp→Prop}{code:Code}
theorem nI (t:Nat){k len sz:Nat}{es:List (List AV)}(ht:look env t=some (.sl k 0 len sz)) (hk:h[k]? = some (.arr es sz)) (hn:len=es.length) (hi:AV.idfL es.flatten=true) (hv:VC P n ops rest ((t,.rowE es sz)::env) (h.set k .gone) K):VC P n ops rest env h K:=
 fun c ρ S a w Q s hQ=>hv c ρ _ a w Q (s.freeze ht hk hn hi) hQ
theorem UJ (t:Nat){k len sz:Nat}{es:List (List AV)}(ht:look env t=some (.sl k 0 len sz)) (hk:h[k]? = some (.arr es sz)) (hn:len=es.length) (hi:AV.idfL es.flatten=true) (hv:AW P n code ((t,.rowE es sz)::env) (h.set k .gone) Q):AW P n code env h Q:=
 fun c ρ S a w QQ s hQ=>hv c ρ _ a w QQ (s.freeze ht hk hn hi) hQ
theorem HS.none {c:pS}{ρ:Pl}{S:Nat→Prop}{h:Hp}{w:World}(s:HS c ρ S h w) (hm:c.m=0):HS c (fun _=>none) S [] w:=
 ⟨fun _ _=>rfl,(fun _ _ h=>by cases h),(fun _ _ hb=>by simp at hb),(fun _ _ _ hb=>by simp at hb),(fun _ _ _ _ _ _ hb=>by simp at hb),s.stab,s.ext,s.st0,s.st1,(by rw [hm];exact bZ _),(fun _ hk=>by omega),s.glob⟩
theorem kZ {f:FuncId}{args:List AV}{es:List (List AV)}{len sz:Nat}(hn:len=es.length) (hi:AV.idfL es.flatten=true) (h:aM P f args [] (.sl 0 0 len sz) [.arr es sz]):aM P f args [] (.rowE es sz) []:=by
 refine ⟨h.1,fun ρ S w vs hs ha=>(h.2 ρ S w vs hs ha).mono ?_⟩;rintro e w' ⟨y,ρ',S',rfl,h2,h3⟩;rw [hn] at h3;exact ⟨y,_,_,rfl,(h2.freeze (k:=0) rfl).none rfl,JN ρ' _ _ _ rfl (J1 hi (h2.blk 0 _ rfl) h3)⟩
end
theorem bW.more {P:Program}{o:Oper}{env env':eG}{h:Hp}{m:Nat}{x:Nat→AV}{new:Nat→List AB}(hs:bW P o env h m x new) (he:∀ t u,look env t=some u→look env' t=some u):bW P o env' h m x new:=
 fun ρ S a w p=>hs ρ S a w ⟨fun t u hu=>p.env t u (he t u hu),p.rng,p.blk,p.live,p.stab,p.glob⟩
def B7 (env:eG):List nS→eG
 | []=>env
 | f::r=>B7 (nE f.d f.x env) r
theorem M8 (f:nS):∀ (l:List nS) (env:eG),B7 env (l++[f])=nE f.d f.x (B7 env l)
 | [],_=>rfl
 | g::r,env=>by simp only [List.cons_append,B7,M8 f r]
def qS:Nat→List nS→List (Nat × Hp)
 | _,[]=>[]
 | i,f::r=>match f.new with
  | []=>qS (i+1) r
  | b::q=>(i,b::q)::qS (i+1) r
def mD (pre:List Nat):List (Nat × Hp)→Hp
 | []=>[]
 | (i,l)::r=>(match pre.any (Nat.beq i) with | true=>l | false=>List.replicate l.length .gone)++mD pre r
theorem lL (pre:List Nat):∀ (i:Nat) (l:List nS),kQ (fun j=>pre.any (Nat.beq j)) i l=mD pre (qS i l)
 | _,[]=>rfl
 | i,f::r=>by
  simp only [kQ,qS];cases hf:f.new with
  | nil=>simp only [List.length_nil,List.replicate_zero] <;> (cases pre.any (Nat.beq i) <;> simpa using lL pre (i+1) r)
  | cons b q=>simp only [mD];rw [lL pre (i+1) r];try rfl
theorem B6 {f:nS}(hf:f.new=[]):∀ (l:List nS) (i:Nat),qS i (l++[f])=qS i l
 | [],i=>by simp [qS,hf]
 | g::r,i=>by
  simp only [List.cons_append,qS];rw [B6 hf r (i+1)]
theorem AL {f:nS}(hf:f.new≠[]):∀ (l:List nS) (i:Nat),qS i (l++[f])=qS i l++[(i+l.length,f.new)]
 | [],i=>by
  simp only [List.nil_append,qS,List.length_nil,Nat.add_zero];cases h:f.new with
  | nil=>exact absurd h hf
  | cons b q=>rfl
 | g::r,i=>by
  simp only [List.cons_append,qS];rw [AL hf r (i+1)];have:i+(g::r).length=i+1+r.length:=by simp;omega
  rw [this];cases g.new <;> rfl
theorem I1:∀ (l:List nS) (i:Nat),PO l=((qS i l).map (·.2)).flatten
 | [],_=>rfl
 | f::r,i=>by
  simp only [PO,qS];rw [I1 r (i+1)];cases hf:f.new <;> simp
def mR:List (Nat × Hp)→Hp
 | []=>[]
 | (_,l)::r=>l++mR r
theorem B0:∀ l:List (Nat × Hp),mR l=(l.map (·.2)).flatten
 | []=>rfl
 | (_,l)::r=>by simp only [mR,List.map_cons,dZ,B0 r]
def mF (ops:List Oper) (pres:List (List Nat)) (ds:List Nat) (bads:List (List Nat)) (n:Nat):Bool:=
 vM ops.toArray pres&&decide ds.Nodup&&ds.all (fun d=>Nat.blt d n)&&Nat.ble pres.length ops.length &&
 decide ((ops.take pres.length).filterMap (·.dst)=ds) &&
 (List.range pres.length).all fun i=>(List.range i).all fun j=>(pres.getD i []).any (Nat.beq j)||(match ops[j]? with
  | some o=>(match o.dst with | some d=>(bads.getD i []).any (Nat.beq d) | none=>true)
  | none=>true)
section
variable {P:Program}{n:Nat × Nat}{ops:List Oper}{pres:List (List Nat)}{ds:List Nat}{bads:List (List Nat)}{env:eG}{h:Hp}{K:eG→Hp→Prop}{pre bad:List Nat}
structure K7 (ops:List Oper) (env:eG) (i:Nat) (cur:eG) (objs:List (Nat × Hp)) (effs:List nS):Prop where
 len:effs.length=i
 cur:cur=B7 env effs
 objs:objs=qS 0 effs
 dst:∀ (j:Nat) f,effs[j]? = some f→∃ o,ops[j]? = some o∧o.dst=f.d
def DW (P:Program) (n:Nat × Nat) (ops:List Oper) (pres:List (List Nat)) (ds:List Nat) (bads:List (List Nat)) (env:eG) (h:Hp) (i:Nat) (cur:eG) (objs:List (Nat × Hp)) (K:eG→Hp→Prop):Prop:=
 mF ops pres ds bads n.1=true→(∀ t,t∈ds→look env t=none)→∀ effs,K7 ops env i cur objs effs→DV P n ops.toArray pres ds env h effs K
theorem Z4 {KK:eG→Hp→Prop}{l:List Oper}(pres:List (List Nat)) (ds:List Nat) (bads:List (List Nat)) (hok:mF l pres ds bads n.1=true)
  (hv:DW P n l pres ds bads (eP ds env) h 0 (eP ds env) [] KK):∀ c ρ S a w QQ,qL n c ρ S env h a w→(∀ env' h' ρ' S' a' w',KK env' h'→qL n c ρ' S' env' h' a' w'→QQ Exit.normal a' w') →
  wpAny P .any l.toArray QQ l.toArray.size (Array.replicate l.toArray.size false) a { w with drawn:=w.drawn+1 }:=by
 have hok':=hok;simp only [mF,aN,decide_eq_true_eq] at hok';obtain ⟨⟨⟨⟨⟨h1,h2⟩,h3⟩,h4⟩,h5⟩,h6⟩:=hok';refine zS8 pres ds h1 h2 h3 h4 (hv hok (fun t ht=>?_) [] ⟨rfl,rfl,rfl,fun j f hf=>by simp at hf⟩)
 cases hl:look (eP ds env) t with
 | none=>rfl
 | some x=>exact absurd ht (lA hl).2
theorem QY {Q:Exit→eG→Hp→Prop}{id:Nat}{l:List Oper}(pres:List (List Nat)) (ds:List Nat) (bads:List (List Nat)) (hm:P.follows .mixedOrders=true) (hok:mF l pres ds bads n.1=true)
  (hv:DW P n l pres ds bads (eP ds env) h 0 (eP ds env) [] (fun v h=>Q .normal v h)) (hndf:nW l=true:=by rfl):AW P n (.region id l.toArray true) env h Q:=
 fun c ρ S a w QQ s hQ=>pX hm hndf (Z4 pres ds bads hok hv c ρ S a w (fun e a w=>e = .normal∧QQ .normal a w) s fun env' h' ρ' S' a' w' k s'=>⟨rfl,hQ .normal env' h' ρ' S' a' w' k s'⟩)
theorem M9:∀ {effs:List nS}{env:eG}{t:Nat}{x:AV},look (B7 env effs) t=some x→(look env t=some x∧∀ (j:Nat) f,effs[j]? = some f→f.d≠some t)∨∃ (j:Nat) (f:nS),effs[j]? = some f∧f.d=some t∧f.x=x
 | [],env,t,x,h=>.inl ⟨h,fun j f hf=>by simp at hf⟩
 | f::r,env,t,x,h=>by
  rcases M9 (effs:=r) h with ⟨h1,h2⟩ | ⟨j,g,h1,h2,h3⟩
  ·cases hd:f.d with
   | none=>
    rw [hd] at h1;refine .inl ⟨h1,fun j g hg=>?_⟩
    cases j with
    | zero=>simp at hg;subst hg;rw [hd];simp
    | succ j=>exact h2 j g (by simpa using hg)
   | some d=>
    rw [hd] at h1;simp only [nE,iJ] at h1;split at h1
    ·rename_i e;subst e;cases h1;exact .inr ⟨0,f,rfl,hd,rfl⟩
    ·rename_i e;refine .inl ⟨h1,fun j g hg=>?_⟩
     cases j with
     | zero=>simp at hg;subst hg;rw [hd];simpa using e
     | succ j=>exact h2 j g (by simpa using hg)
  ·exact .inr ⟨j+1,g,by simpa using h1,h2,h3⟩
theorem P3 {env:eG}{effs:List nS}{t:Nat}:∀ {pre:List Nat},(∀ (j:Nat) f,effs[j]? = some f→f.d≠some t)→look (B4 env effs pre) t=look env t
 | [],_=>rfl
 | k::r,hn=>by
  simp only [B4];cases hk:effs[k]? with
  | none=>exact P3 hn
  | some f=>
   have:=hn k f hk;simp only;cases hd:f.d with
   | none=>exact P3 hn
   | some d=>
    rw [hd] at this;simp only [nE,iJ];rw [if_neg (fun e=>this (by rw [e])),P3 hn]
theorem CB {env:eG}{effs:List nS}{t j:Nat}{f:nS}(hf:effs[j]? = some f) (hd:f.d=some t) (hu:∀ (k:Nat) g,effs[k]? = some g→g.d=some t→k=j):∀ {pre:List Nat},j∈pre→look (B4 env effs pre) t=some f.x
 | k::r,hj=>by
  simp only [B4];by_cases hkj:k=j
  ·subst hkj;rw [hf];simp only [hd,nE,iJ,if_pos]
  ·have hr:j∈r:=by
    rcases bQ.1 hj with e | e
    ·exact absurd e.symm hkj
    ·exact e
   cases hk:effs[k]? with
   | none=>exact CB hf hd hu hr
   | some g=>
    simp only;cases hgd:g.d with
    | none=>exact CB hf hd hu hr
    | some d=>
     simp only [nE,iJ];rw [if_neg (fun e=>hkj (hu k g hk (by rw [hgd,e])))]
     exact CB hf hd hu hr
theorem B8 {α β:Type}{f:α→Option β}:∀ {l:List α},(l.filterMap f).Nodup→∀ {i j:Nat}{a b:α}{x:β},l[i]? = some a→l[j]? = some b→f a=some x→f b=some x→i=j
 | [],_,i,j,a,b,x,hi,_,_,_=>by simp at hi
 | c::r,hnd,i,j,a,b,x,hi,hj,ha,hb=>by
  have mem:∀ {k:Nat} {u:α},r[k]? = some u→f u=some x→x∈r.filterMap f:=fun hk hu=>kP.2 ⟨_,aQ hk,hu⟩
  have hr:(r.filterMap f).Nodup:=by
   cases hc:f c with
   | none=>rwa [BR hc] at hnd
   | some y=>rw [kJ hc] at hnd;exact (fR.1 hnd).2
  cases i with
  | zero=>
   cases j with
   | zero=>rfl
   | succ j=>
    simp at hi hj;subst hi;rw [kJ ha] at hnd;exact absurd (mem hj hb) (fR.1 hnd).1
  | succ i=>
   cases j with
   | zero=>
    simp at hi hj;subst hj;rw [kJ hb] at hnd;exact absurd (mem hi ha) (fR.1 hnd).1
   | succ j=>exact congrArg (· + 1) (B8 hr (a:=a) (b:=b) (i:=i) (j:=j) (by simpa using hi) (by simpa using hj) ha hb)
theorem K7.see {i:Nat}{cur:eG}{objs:List (Nat × Hp)}{effs:List nS}(hok:mF ops pres ds bads n.1=true) (g:K7 ops env i cur objs effs) (hp:pres[i]? = some pre) (hb:bads[i]? = some bad):∀ t x,look (eP bad cur) t=some x→look (B4 env effs pre) t=some x:=by
 intro t x hx;simp only [mF,aN,decide_eq_true_eq] at hok;obtain ⟨⟨⟨⟨⟨h1,h2⟩,h3⟩,h4⟩,h5⟩,h6⟩:=hok;obtain ⟨h7,h8⟩:=lA hx;rw [g.cur] at h7;have hi:i<pres.length:=(aA.1 hp).1;rcases M9 h7 with ⟨h9,h10⟩ | ⟨j,f,h9,h10,h11⟩
 ·rw [P3 h10];exact h9
 ·have hji:j<i:=by rw [← g.len];exact (aA.1 h9).1
  obtain ⟨o,ho,hod⟩:=g.dst j f h9;have huniq:∀ (k:Nat) q,effs[k]? = some q→q.d=some t→k=j:=fun k q hk hq=>by
   obtain ⟨o',ho',hod'⟩:=g.dst k q hk;have hki:k<i:=by rw [← g.len];exact (aA.1 hk).1
   rw [← h5] at h2;refine B8 h2 (i:=k) (j:=j) (a:=o') (b:=o) (x:=t) ?_ ?_ (by rw [hod',hq]) (by rw [hod,h10])
   ·rw [cE,if_pos (by omega)];exact ho'
   ·rw [cE,if_pos (by omega)];exact ho
  rw [← h11];refine CB h9 h10 huniq ?_;have h12:=bJ.1 (bJ.1 h6 i (by simpa using hi)) j (by simpa using hji)
  rcases jB.1 h12 with h12 | h12
  ·rw [aE,hp] at h12;exact pI.1 h12
  ·rw [ho] at h12;simp only [hod,h10] at h12;rw [aE,hb] at h12;exact absurd (pI.1 h12) h8
section
variable {op:Op}{ty:TypeId}{pos:String}{af:Array Edge}{d:Option Nat}{i:Nat}{cur:eG}{objs:List (Nat × Hp)}
theorem K7.snoc {effs:List nS}{f:nS}{o:Oper}(g:K7 ops env i cur objs effs) (ho:ops[i]? = some o) (hd:o.dst=f.d) (hf:f.new=[]):K7 ops env (i+1) (nE f.d f.x cur) objs (effs++[f]):=by
 refine ⟨by simp [g.len],by rw [M8,g.cur],by rw [B6 hf];exact g.objs,fun j q hj=>?_⟩
 by_cases hlt:j<effs.length
 ·rw [aG hlt] at hj;exact g.dst j q hj
 ·have hle:=(aA.1 hj).1;have hji:j=i:=by have:=g.len;simp at hle;omega
  subst hji;rw [aF (by omega),g.len] at hj
  simp at hj;subst hj;exact ⟨o,ho,hd⟩
theorem K7.snoc' {effs:List nS}{f:nS}{o:Oper}(g:K7 ops env i cur objs effs) (ho:ops[i]? = some o) (hd:o.dst=f.d) (hf:f.new≠[]):K7 ops env (i+1) (nE f.d f.x cur) (objs++[(i,f.new)]) (effs++[f]):=by
 refine ⟨by simp [g.len],by rw [M8,g.cur],by rw [AL hf,g.len,Nat.zero_add,g.objs],fun j q hj=>?_⟩
 by_cases hlt:j<effs.length
 ·rw [aG hlt] at hj;exact g.dst j q hj
 ·have hle:=(aA.1 hj).1;have hji:j=i:=by have:=g.len;simp at hle;omega
  subst hji;rw [aF (by omega),g.len] at hj
  simp at hj;subst hj;exact ⟨o,ho,hd⟩
theorem xE0 {dd:Nat}{u:AV}(ho:ops[i]? = some ⟨some dd,op,ty,pos,af,none⟩) (hp:pres[i]? = some pre) (hb:bads[i]? = some bad) (hs:bW P ⟨some dd,op,ty,pos,af,none⟩ (eP bad cur) (h++mD pre objs) 0 (fun _=>u) (fun _=>[]))
  (hk:DW P n ops pres ds bads env h (i+1) ((dd,u)::cur) objs K):DW P n ops pres ds bads env h i cur objs K:=by
 intro hok hen effs g;refine xE1 (u:=u) (d:=some dd) (by rw [g.len];exact hp) (by rw [g.len];simpa using ho) (by rw [lL,← g.objs];exact hs.more (g.see hok hp hb)) (hk hok hen _ (g.snoc (f:=⟨some dd,u,[]⟩) ho rfl rfl))
theorem yY9 {dd:Nat}{u:AV}{gd t:Nat}{want:Bool}(ho:ops[i]? = some ⟨some dd,op,ty,pos,af,some (gd,want)⟩) (hp:pres[i]? = some pre) (hb:bads[i]? = some bad) (hj:(ops[gd]?).bind (·.dst)=some t) (hl:look (eP bad cur) t=some (.b want)) (hs:bW P ⟨some dd,op,ty,pos,af,none⟩ (eP bad cur) (h++mD pre objs) 0 (fun _=>u) (fun _=>[]))
  (hk:DW P n ops pres ds bads env h (i+1) ((dd,u)::cur) objs K):DW P n ops pres ds bads env h i cur objs K:=by
 intro hok hen effs g;refine yZ1 (u:=u) (d:=some dd) (by rw [g.len];exact hp) (by rw [g.len];simpa using ho) (by simpa using hj) (g.see hok hp hb _ _ hl) (by rw [lL,← g.objs];exact hs.more (g.see hok hp hb)) (hk hok hen _ (g.snoc (f:=⟨some dd,u,[]⟩) ho rfl rfl))
theorem yZ0 {dd:Nat}{gd t:Nat}{want:Bool}(ho:ops[i]? = some ⟨some dd,op,ty,pos,af,some (gd,want)⟩) (hp:pres[i]? = some pre) (hb:bads[i]? = some bad) (hj:(ops[gd]?).bind (·.dst)=some t) (hl:look (eP bad cur) t=some (.b (!want)))
  (hk:DW P n ops pres ds bads env h (i+1) ((dd,.v undef)::cur) objs K):DW P n ops pres ds bads env h i cur objs K:=by
 intro hok hen effs g;refine yZ2 (d:=some dd) (by rw [g.len];exact hp) (by rw [g.len];simpa using ho) (by simpa using hj) (g.see hok hp hb _ _ hl) (hk hok hen _ (g.snoc (f:=⟨some dd,.v undef,[]⟩) ho rfl rfl))
theorem dG {dd:Nat}{gd t:Nat}{want:Bool}(hk:DW P n ops pres ds bads env h (i+1) ((dd,.v undef)::cur) objs K) (ho:ops[i]? = some ⟨some dd,op,ty,pos,af,some (gd,want)⟩:=by rfl) (hp:pres[i]? = some pre:=by rfl) (hb:bads[i]? = some bad:=by rfl) (hj:(ops[gd]?).bind (·.dst)=some t:=by rfl) (hl:look (eP bad cur) t=some (.b (!want)):=by rfl):DW P n ops pres ds bads env h i cur objs K:=yZ0 ho hp hb hj hl hk
theorem dV {dd:Nat}{u:AV}(e:(ops[i]?,pres[i]?,bads[i]?)=(some ⟨some dd,op,ty,pos,af,none⟩,some pre,some bad)) (hs:bW P ⟨some dd,op,ty,pos,af,none⟩ (eP bad cur) (h++mD pre objs) 0 (fun _=>u) (fun _=>[])) (hk:DW P n ops pres ds bads env h (i+1) ((dd,u)::cur) objs K):DW P n ops pres ds bads env h i cur objs K:=
 xE0 (congrArg (·.1) e) (congrArg (·.2.1) e) (congrArg (·.2.2) e) hs hk
theorem dT {dd:Nat}{u:AV}{gd t:Nat}{want:Bool}(e:(ops[i]?,pres[i]?,bads[i]?,(ops[gd]?).bind (·.dst),look (eP bad cur) t)=(some ⟨some dd,op,ty,pos,af,some (gd,want)⟩,some pre,some bad,some t,some (.b want))) (hs:bW P ⟨some dd,op,ty,pos,af,none⟩ (eP bad cur) (h++mD pre objs) 0 (fun _=>u) (fun _=>[])) (hk:DW P n ops pres ds bads env h (i+1) ((dd,u)::cur) objs K):DW P n ops pres ds bads env h i cur objs K:=
 yY9 (congrArg (·.1) e) (congrArg (·.2.1) e) (congrArg (·.2.2.1) e) (congrArg (·.2.2.2.1) e) (congrArg (·.2.2.2.2) e) hs hk
theorem dM {dd:Nat}{x:Operand}{u:AV}(hk:DW P n ops pres ds bads env h (i+1) ((dd,u)::cur) objs K) (e:(ops[i]?,pres[i]?,bads[i]?)=(some ⟨some dd,.move x,ty,pos,af,none⟩,some pre,some bad):=by rfl) (hx:evu (eP bad cur) x=some u:=by rfl):DW P n ops pres ds bads env h i cur objs K:=dV e (bV hx) hk
theorem dL (T:pR P){dd t off:Nat}{ii:TI}{cs:List AV}{x:Operand}{u v:AV}(hk:DW P n ops pres ds bads env h (i+1) ((dd,u)::cur) objs K) (e:(ops[i]?,pres[i]?,bads[i]?)=(some ⟨some dd,.load t x,ty,pos,af,none⟩,some pre,some bad):=by rfl) (hx:evu (eP bad cur) x=some v:=by rfl) (ht:T.ti t=some ii:=by rfl) (hb:kU (h++mD pre objs) v=some (cs,off):=by rfl) (hz:oH ii cs off=some u:=by rfl):DW P n ops pres ds bads env h i cur objs K:=dV e (bA T hx ht hb hz) hk
theorem dF (T:pR P){dd t f kf:Nat}{x:Operand}{u v:AV}(hk:DW P n ops pres ds bads env h (i+1) ((dd,u)::cur) objs K) (e:(ops[i]?,pres[i]?,bads[i]?)=(some ⟨some dd,.fieldAddr t x f,ty,pos,af,none⟩,some pre,some bad):=by rfl) (hx:evu (eP bad cur) x=some v:=by rfl) (hf:T.field t f=some kf:=by rfl) (hz:v.plus kf=some u:=by rfl):DW P n ops pres ds bads env h i cur objs K:=dV e (bR T hx hf hz) hk
theorem tM {dd gd tg:Nat}{want:Bool}{x:Operand}{u:AV}(hk:DW P n ops pres ds bads env h (i+1) ((dd,u)::cur) objs K) (e:(ops[i]?,pres[i]?,bads[i]?,(ops[gd]?).bind (·.dst),look (eP bad cur) tg)=(some ⟨some dd,.move x,ty,pos,af,some (gd,want)⟩,some pre,some bad,some tg,some (.b want)):=by rfl) (hx:evu (eP bad cur) x=some u:=by rfl):DW P n ops pres ds bads env h i cur objs K:=dT e (bV hx) hk
theorem tL (T:pR P){dd gd tg t off:Nat}{want:Bool}{ii:TI}{cs:List AV}{x:Operand}{u v:AV}(hk:DW P n ops pres ds bads env h (i+1) ((dd,u)::cur) objs K) (e:(ops[i]?,pres[i]?,bads[i]?,(ops[gd]?).bind (·.dst),look (eP bad cur) tg)=(some ⟨some dd,.load t x,ty,pos,af,some (gd,want)⟩,some pre,some bad,some tg,some (.b want)):=by rfl) (hx:evu (eP bad cur) x=some v:=by rfl) (ht:T.ti t=some ii:=by rfl) (hb:kU (h++mD pre objs) v=some (cs,off):=by rfl) (hz:oH ii cs off=some u:=by rfl):DW P n ops pres ds bads env h i cur objs K:=dT e (bA T hx ht hb hz) hk
theorem tF (T:pR P){dd gd tg t f kf:Nat}{want:Bool}{x:Operand}{u v:AV}(hk:DW P n ops pres ds bads env h (i+1) ((dd,u)::cur) objs K) (e:(ops[i]?,pres[i]?,bads[i]?,(ops[gd]?).bind (·.dst),look (eP bad cur) tg)=(some ⟨some dd,.fieldAddr t x f,ty,pos,af,some (gd,want)⟩,some pre,some bad,some tg,some (.b want)):=by rfl) (hx:evu (eP bad cur) x=some v:=by rfl) (hf:T.field t f=some kf:=by rfl) (hz:v.plus kf=some u:=by rfl):DW P n ops pres ds bads env h i cur objs K:=dT e (bR T hx hf hz) hk
theorem dN {dd:Nat}{x:Operand}{u:AV}(e:(ops[i]?,pres[i]?,bads[i]?,evu (eP bad cur) x)=(some ⟨some dd,.move x,ty,pos,af,none⟩,some pre,some bad,some u)) (hk:DW P n ops pres ds bads env h (i+1) ((dd,u)::cur) objs K):DW P n ops pres ds bads env h i cur objs K:=dM hk (congrArg (fun q=>(q.1,q.2.1,q.2.2.1)) e) (congrArg (·.2.2.2) e)
theorem tN {dd gd tg:Nat}{want:Bool}{x:Operand}{u:AV}(e:(ops[i]?,pres[i]?,bads[i]?,(ops[gd]?).bind (·.dst),look (eP bad cur) tg,evu (eP bad cur) x)=(some ⟨some dd,.move x,ty,pos,af,some (gd,want)⟩,some pre,some bad,some tg,some (.b want),some u)) (hk:DW P n ops pres ds bads env h (i+1) ((dd,u)::cur) objs K):DW P n ops pres ds bads env h i cur objs K:=tM hk (congrArg (fun q=>(q.1,q.2.1,q.2.2.1,q.2.2.2.1,q.2.2.2.2.1)) e) (congrArg (·.2.2.2.2.2) e)
theorem dO (T:pR P){dd t off:Nat}{ii:TI}{cs:List AV}{x:Operand}{u v:AV}(e:(ops[i]?,pres[i]?,bads[i]?,evu (eP bad cur) x,T.ti t,kU (h++mD pre objs) v,oH ii cs off)=(some ⟨some dd,.load t x,ty,pos,af,none⟩,some pre,some bad,some v,some ii,some (cs,off),some u)) (hk:DW P n ops pres ds bads env h (i+1) ((dd,u)::cur) objs K):DW P n ops pres ds bads env h i cur objs K:=dL T hk (congrArg (fun q=>(q.1,q.2.1,q.2.2.1)) e) (congrArg (·.2.2.2.1) e) (congrArg (·.2.2.2.2.1) e) (congrArg (·.2.2.2.2.2.1) e) (congrArg (·.2.2.2.2.2.2) e)
theorem tO (T:pR P){dd t off gd tg:Nat}{want:Bool}{ii:TI}{cs:List AV}{x:Operand}{u v:AV}(e:(ops[i]?,pres[i]?,bads[i]?,(ops[gd]?).bind (·.dst),look (eP bad cur) tg,evu (eP bad cur) x,T.ti t,kU (h++mD pre objs) v,oH ii cs off)=(some ⟨some dd,.load t x,ty,pos,af,some (gd,want)⟩,some pre,some bad,some tg,some (.b want),some v,some ii,some (cs,off),some u)) (hk:DW P n ops pres ds bads env h (i+1) ((dd,u)::cur) objs K):DW P n ops pres ds bads env h i cur objs K:=tL T hk (congrArg (fun q=>(q.1,q.2.1,q.2.2.1,q.2.2.2.1,q.2.2.2.2.1)) e) (congrArg (·.2.2.2.2.2.1) e) (congrArg (·.2.2.2.2.2.2.1) e) (congrArg (·.2.2.2.2.2.2.2.1) e) (congrArg (·.2.2.2.2.2.2.2.2) e)
theorem dP (T:pR P){dd t f kf:Nat}{x:Operand}{u v:AV}(e:(ops[i]?,pres[i]?,bads[i]?,evu (eP bad cur) x,T.field t f,v.plus kf)=(some ⟨some dd,.fieldAddr t x f,ty,pos,af,none⟩,some pre,some bad,some v,some kf,some u)) (hk:DW P n ops pres ds bads env h (i+1) ((dd,u)::cur) objs K):DW P n ops pres ds bads env h i cur objs K:=dF T hk (congrArg (fun q=>(q.1,q.2.1,q.2.2.1)) e) (congrArg (·.2.2.2.1) e) (congrArg (·.2.2.2.2.1) e) (congrArg (·.2.2.2.2.2) e)
theorem tP (T:pR P){dd t f kf gd tg:Nat}{want:Bool}{x:Operand}{u v:AV}(e:(ops[i]?,pres[i]?,bads[i]?,(ops[gd]?).bind (·.dst),look (eP bad cur) tg,evu (eP bad cur) x,T.field t f,v.plus kf)=(some ⟨some dd,.fieldAddr t x f,ty,pos,af,some (gd,want)⟩,some pre,some bad,some tg,some (.b want),some v,some kf,some u)) (hk:DW P n ops pres ds bads env h (i+1) ((dd,u)::cur) objs K):DW P n ops pres ds bads env h i cur objs K:=tF T hk (congrArg (fun q=>(q.1,q.2.1,q.2.2.1,q.2.2.2.1,q.2.2.2.2.1)) e) (congrArg (·.2.2.2.2.2.1) e) (congrArg (·.2.2.2.2.2.2.1) e) (congrArg (·.2.2.2.2.2.2.2) e)
theorem tG {dd:Nat}{gd t:Nat}{want:Bool}(e:(ops[i]?,pres[i]?,bads[i]?,(ops[gd]?).bind (·.dst),look (eP bad cur) t)=(some ⟨some dd,op,ty,pos,af,some (gd,want)⟩,some pre,some bad,some t,some (.b (!want)))) (hk:DW P n ops pres ds bads env h (i+1) ((dd,.v undef)::cur) objs K):DW P n ops pres ds bads env h i cur objs K:=dG hk (congrArg (·.1) e) (congrArg (·.2.1) e) (congrArg (·.2.2.1) e) (congrArg (·.2.2.2.1) e) (congrArg (·.2.2.2.2) e)
theorem rY {gd t:Nat}{want b:Bool}(ho:ops[i]? = some ⟨d,op,ty,pos,af,some (gd,want)⟩) (hb:bads[i]? = some bad) (hj:(ops[gd]?).bind (·.dst)=some t) (hl:look (eP bad cur) t=some (.b b))
  (ht:b=true→DW P n ops pres ds bads env h i cur objs K) (hf:b=false→DW P n ops pres ds bads env h i cur objs K):DW P n ops pres ds bads env h i cur objs K:=by
 cases b
 ·exact hf rfl
 ·exact ht rfl
theorem K2 {dd:Nat}{u:Nat→AV}{b:Nat→List AB}{m:Nat}(ho:ops[i]? = some ⟨some dd,op,ty,pos,af,none⟩) (hp:pres[i]? = some pre) (hb:bads[i]? = some bad) (hs:bW P ⟨some dd,op,ty,pos,af,none⟩ (eP bad cur) (h++mD pre objs) (m+1) u b) (hm:(b (h++mD pre objs).length).length=m+1)
  (hk:DW P n ops pres ds bads env h (i+1) ((dd,u (h++mD pre objs).length)::cur) (objs++[(i,b (h++mD pre objs).length)]) K):DW P n ops pres ds bads env h i cur objs K:=by
 intro hok hen effs g;have e:h++kQ (fun j=>pre.any (Nat.beq j)) 0 effs=h++mD pre objs:=by rw [lL,← g.objs]
 refine xE2 (u:=u) (b:=b) (d:=some dd) (m:=m+1) (by rw [g.len];exact hp) (by rw [g.len];simpa using ho) (by rw [e];exact hs.more (g.see hok hp hb)) (by rw [e];exact hm) ?_
 rw [e];refine hk hok hen _ (g.snoc' (f:=⟨some dd,u (h++mD pre objs).length,b (h++mD pre objs).length⟩) ho rfl ?_);intro e2;rw [show b (h++mD pre objs).length=[] from e2] at hm
 cases hm
theorem Y9 {effs:List nS}{env:eG}{t:Nat}{x:AV}(hd:(effs.filterMap (·.d)).Nodup) (hx:look (B7 env effs) t=some x):look (T1 env effs) t=some x:=by
 induction effs generalizing env with
 | nil=>exact hx
 | cons f r ih=>
  have hr:(r.filterMap (·.d)).Nodup:=by
   cases hc:f.d with
   | none=>rwa [BR hc] at hd
   | some y=>rw [kJ hc] at hd;exact (fR.1 hd).2
  have miss:∀ {l:List nS} {env:eG},(∀ (j:Nat) f,l[j]? = some f→f.d≠some t)→look (T1 env l) t=look env t:=fun {l env} hl=>by
   induction l with
   | nil=>rfl
   | cons g q ihq=>
    have h0:=hl 0 g rfl;have hq:=ihq (fun j f hf=>hl (j+1) f (by simpa using hf))
    simp only [T1];cases hg:g.d with
    | none=>exact hq
    | some d=>
     simp only [nE,iJ];rw [if_neg (fun e=>h0 (by rw [hg,e])),hq]
  simp only [B7] at hx;simp only [T1];rcases M9 hx with ⟨h1,h2⟩ | ⟨j,g,h1,h2,h3⟩
  ·cases hfd:f.d with
   | none=>rw [hfd] at h1;simp only [nE] at h1 ⊢;rw [miss h2];exact h1
   | some d=>
    rw [hfd] at h1;simp only [nE,iJ] at h1 ⊢;split at h1
    ·rename_i e;rw [if_pos e];exact h1
    ·rename_i e;rw [if_neg e,miss h2];exact h1
  ·have hne:f.d≠some t:=fun e=>by
    rw [kJ e] at hd;exact (fR.1 hd).1 (kP.2 ⟨g,aQ h1,h2⟩)
   have hx':look (B7 env r) t=some x:=by
    cases hfd:f.d with
    | none=>rw [hfd] at hx;exact hx
    | some d=>
     rw [hfd] at hx;have key:∀ (l:List nS) (e1 e2:eG),look e1 t=look e2 t→look (B7 e1 l) t=look (B7 e2 l) t:=by
      intro l
      induction l with
      | nil=>exact fun _ _ h=>h
      | cons q l ihl=>
       intro e1 e2 he;simp only [B7];refine ihl _ _ ?_;cases q.d with
       | none=>exact he
       | some d=>simp only [nE,iJ];rw [he]
     have hdt:d≠t:=fun e=>hne (by rw [hfd,e])
     rw [← hx];exact key r env _ (by simp only [nE,iJ];rw [if_neg hdt])
   have:=ih hr hx';cases hfd:f.d with
   | none=>exact this
   | some d=>simp only [nE,iJ];rw [if_neg (fun e=>hne (by rw [hfd,e]))];exact this
theorem VC.moreE {ops:Array Oper}{rest:List Oper}{env env':eG}{h:Hp}{K:eG→Hp→Prop}(hv:VC P n ops rest env h K) (he:∀ t x,look env t=some x→look env' t=some x):VC P n ops rest env' h K:=
 fun c ρ S a w Q s hQ=>hv c ρ S a w Q (s.fewer he) hQ
theorem LM (hi:pres.length=i){rest:List Oper}{h':Hp}(hr:ops.drop i=rest) (hh:h++mR objs=h')
  (hk:VC P n ops.toArray rest cur h' K):DW P n ops pres ds bads env h i cur objs K:=by
 intro hok hen effs g;have hok':=hok;simp only [mF,aN,decide_eq_true_eq] at hok';obtain ⟨⟨⟨⟨⟨h1,h2⟩,h3⟩,h4⟩,h5⟩,h6⟩:=hok';have hds:jS effs=ds:=by
  rw [← h5];have hle:i≤ops.length:=by rw [← hi];exact aI h4
  unfold jS;have:effs.map (·.d)=(ops.take pres.length).map (·.dst):=by
   apply kD;intro j;simp only [bN,cE,hi];by_cases hj:j<i
   ·rw [if_pos hj];have hje:j<effs.length:=by rw [g.len];exact hj
    obtain ⟨o,ho,hod⟩:=g.dst j effs[j] (aB hje);rw [aB hje,ho];simp [hod]
   ·rw [if_neg hj,dA (by rw [g.len];omega)];rfl
  have e1:effs.filterMap (·.d)=(effs.map (·.d)).filterMap id:=by rw [rK];rfl
  have e2:(ops.take pres.length).filterMap (·.dst)=((ops.take pres.length).map (·.dst)).filterMap id:=by rw [rK];rfl
  rw [e1,e2,this]
 refine yS3 (rest:=rest) (env':=T1 env effs) (h':=h++PO effs) (by rw [g.len,hi]) hds (by rw [hi];simpa using hr) rfl rfl ?_
 have e:h++PO effs=h':=by rw [I1 effs 0,← g.objs,← B0];exact hh
 rw [e];refine hk.moreE fun t x hx=>?_
 rw [g.cur] at hx;exact Y9 (by have:jS effs=effs.filterMap (·.d):=rfl;rw [← this,hds];exact h2) hx
theorem dE {rest:List Oper}{h':Hp}(hk:VC P n ops.toArray rest cur h' K) (hi:pres.length=i:=by rfl) (hr:ops.drop i=rest:=by rfl) (hh:h++mR objs=h':=by first|(dsimp only [List.nil_append,List.cons_append,List.append_nil,List.length_cons,List.length_nil,List.set_cons_zero,List.set_cons_succ,List.map_cons,List.map_nil,kR,nE,mR,tA,ND,D6,AF,AD,AC,AE,D5,D8,D4,D7,Nat.zero_add,Nat.add_zero,Nat.reduceAdd,Bool.not_true,Bool.not_false];first|done | exact rfl)|exact rfl):DW P n ops pres ds bads env h i cur objs K:=LM hi hr hh hk
end
end
def I6 (P:Program):Nat→List Field→Bool
  | _,[]=>true
  | i, f :: r => decide (f.name ≠ "_") && Nat.beq f.offset i && (match P.underlying f.type with | some (.int _) => P.plainKey f.type | _ => false) && I6 P (i + 1) r
def yS (P:Program) (t:TypeId) (n:Nat):Bool:=match P.underlying t with
 | some (.struct fs)=>Nat.beq fs.size n&&I6 P 0 fs.toList && !P.stoodInHeld t && !P.eqGuardType P.depth t
 | _=>false
def pJ (P:Program) (t:TypeId) (n:Nat):Prop:=yS P t n=true
def RV (P:Program) (t:TypeId):Prop:=P.underlying t=some .bool
section
variable {P:Program}{env:eG}{h:Hp}
variable {d:Option Nat}{ty:TypeId}{pos:String}{af:Array Edge}{g:Option (Nat × Bool)}
theorem Z2 (w:World) (dd:Nat) (k:IntKind):∀ (fs:List Field) (i:Nat) (xs ys:Array Value) (aZ bs:List Int),I6 P i fs=true→fs.length=aZ.length→aZ.length=bs.length→(∀ (j:Nat) a,aZ[j]? = some a→xs[i+j]? = some (.int k a))→(∀ (j:Nat) b,bs[j]? = some b→ys[i+j]? = some (.int k b)) →
  (Op.eqFields (dd+1) xs ys fs).run P w = .ok (decide (aZ=bs)) w
 | [],i,xs,ys,aZ,bs,_,h1,h2,_,_=>by
  have:aZ=[]:=cJ (by simpa using h1.symm)
  subst this;have:bs=[]:=cJ (by simpa using h2.symm)
  subst this;simp [Op.eqFields]
 | f::r,i,xs,ys,a::aZ,b::bs,hf,h1,h2,hx,hy=>by
  simp only [I6,aN,decide_eq_true_eq] at hf;obtain ⟨⟨⟨h3,h4⟩,h5⟩,h6⟩:=hf;have h4:=aS h4;split at h5
  case h_2=>cases h5
  rename_i k' hu;have x0:=hx 0 a rfl;have y0:=hy 0 b rfl;rw [Nat.add_zero,← h4] at x0 y0;have ih:=Z2 w dd k r (i+1) xs ys aZ bs h6 (by simpa using h1) (by simpa using h2) (fun j u hj=>by rw [eE,rI 1 j];exact hx (j+1) u (by simpa using hj)) (fun j u hj=>by rw [eE,rI 1 j];exact hy (j+1) u (by simpa using hj))
  simp only [Op.eqFields,h3,ne_eq,not_false_eq_true,if_true,Sem.run_bind,run_part_plain w h5 x0,run_part_plain w h5 y0,Result.andThen_ok,run_equalIn_int w dd f.type k k' a b hu];by_cases hab:a=b
  ·subst hab;simp [ih]
  ·have:(a == b)=false:=by simpa using hab
   simp [this,hab]
 | f::r,_,_,_,[],_,_,h1,_,_,_=>by simp at h1
 | f::r,_,_,_,a::aZ,[],_,_,h2,_,_=>by simp at h2
theorem MZ {S:Nat→Prop}{w:World}{ρ:Pl}{k:IntKind}:∀ {aZ:List Int}{ys:List Value},RL S w (aZ.map fun a=>.v (.int k a)) ρ ys→ys=aZ.map (.int k)
 | [],_,h=>by simpa [RL] using h
 | a::aZ,_,h=>by
  simp only [List.map_cons,RL] at h;obtain ⟨y,zs,rfl,h1,h2⟩:=h;rw [rL h1,MZ h2];rfl
theorem yE8 {t t2:TypeId}{n:Nat}{k:IntKind}{x y:Operand}{aZ bs:List Int}(ht:yS P t n=true) (hx:evu env x=some (.agg (aZ.map fun a=>.v (.int k a)))) (hy:evu env y=some (.agg (bs.map fun a=>.v (.int k a)))) (h1:Nat.beq aZ.length n=true) (h2:Nat.beq bs.length n=true) :
  bW P ⟨d,.binOp .eql t x y t2,ty,pos,af,g⟩ env h 0 (fun _=>.b (decide (aZ=bs))) (fun _=>[]):=by
 refine iD fun ρ S a w p=>⟨.bool (decide (aZ=bs)),?_,lN _⟩;have h3:=p.evu hx;have h4:=p.evu hy;simp only [R] at h3 h4;obtain ⟨xs,e1,h3⟩:=h3;obtain ⟨ys,e2,h4⟩:=h4;have h3:=MZ h3;have h4:=MZ h4;have h1:=aS h1;have h2:=aS h2;unfold yS at ht;split at ht
 case h_2=>cases ht
 rename_i fs hu;simp only [aN,Bool.not_eq_true'] at ht;obtain ⟨⟨⟨h5,h6⟩,h7⟩,h8⟩:=ht;have h5:=aS h5;have hfo:P.fieldsOf t=fs:=by simp [Program.fieldsOf,hu]
 have hx2:∀ (j:Nat) a,aZ[j]? = some a→xs[0+j]? = some (.int k a):=fun j a ha=>by rw [Nat.zero_add,← kF,h3];simp [ha]
 have hy2:∀ (j:Nat) a,bs[j]? = some a→ys[0+j]? = some (.int k a):=fun j a ha=>by rw [Nat.zero_add,← kF,h4];simp [ha]
 have key:=Z2 w 9998 k fs.toList 0 xs ys aZ bs h6 (by simp;omega) (by omega) hx2 hy2
 have he:(Op.equalIn 10000 t (.agg xs) (.agg ys)).run P w = .ok (decide (aZ=bs)) w:=by
  rw [run_equalIn_struct w 9999 t xs ys (by rw [hfo];exact hu) h7,hfo];exact key
 simp [execOp,e1,e2,run_eqGuard_agg w .eql t x y xs ys h8,run_eql_struct,he]
theorem R8 {t t2:TypeId}{n:Nat}{k:IntKind}{x y:Operand}{aZ bs:List Int}(ht:yS P t n=true) (hx:evu env x=some (.agg (aZ.map fun a=>.v (.int k a)))) (hy:evu env y=some (.agg (bs.map fun a=>.v (.int k a)))) (h1:Nat.beq aZ.length n=true) (h2:Nat.beq bs.length n=true) :
  bW P ⟨d,.binOp .neq t x y t2,ty,pos,af,g⟩ env h 0 (fun _=>.b (!decide (aZ=bs))) (fun _=>[]):=by
 refine iD fun ρ S a w p=>⟨.bool (!decide (aZ=bs)),?_,lN _⟩;have h3:=p.evu hx;have h4:=p.evu hy;simp only [R] at h3 h4;obtain ⟨xs,e1,h3⟩:=h3;obtain ⟨ys,e2,h4⟩:=h4;have h3:=MZ h3;have h4:=MZ h4;have h1:=aS h1;have h2:=aS h2;unfold yS at ht;split at ht
 case h_2=>cases ht
 rename_i fs hu;simp only [aN,Bool.not_eq_true'] at ht;obtain ⟨⟨⟨h5,h6⟩,h7⟩,h8⟩:=ht;have h5:=aS h5;have hfo:P.fieldsOf t=fs:=by simp [Program.fieldsOf,hu]
 have hx2:∀ (j:Nat) a,aZ[j]? = some a→xs[0+j]? = some (.int k a):=fun j a ha=>by rw [Nat.zero_add,← kF,h3];simp [ha]
 have hy2:∀ (j:Nat) a,bs[j]? = some a→ys[0+j]? = some (.int k a):=fun j a ha=>by rw [Nat.zero_add,← kF,h4];simp [ha]
 have key:=Z2 w 9998 k fs.toList 0 xs ys aZ bs h6 (by simp;omega) (by omega) hx2 hy2
 have he:(Op.equalIn 10000 t (.agg xs) (.agg ys)).run P w = .ok (decide (aZ=bs)) w:=by
  rw [run_equalIn_struct w 9999 t xs ys (by rw [hfo];exact hu) h7,hfo];exact key
 simp [execOp,e1,e2,run_eqGuard_agg w .neq t x y xs ys h8,run_neq_struct,he]
theorem yE4 {t t2:TypeId}{k:IntKind}{x y:Operand}{a b a' b':Int}(ht:pJ P t 2) (hx:evu env x=some (.agg [.v (.int k a),.v (.int k b)])) (hy:evu env y=some (.agg [.v (.int k a'),.v (.int k b')])) :
  bW P ⟨d,.binOp .neq t x y t2,ty,pos,af,g⟩ env h 0 (fun _=>.b (!decide (a=a'∧b=b'))) (fun _=>[]):=by
 have:=R8 (d:=d) (ty:=ty) (pos:=pos) (af:=af) (g:=g) (h:=h) (t2:=t2) (aZ:=[a,b]) (bs:=[a',b']) ht hx hy rfl rfl;simpa using this
theorem yE3 {t t2:TypeId}{x y:Operand}{a b:Bool}(ht:RV P t) (hx:evu env x=some (.b a)) (hy:evu env y=some (.b b)):bW P ⟨d,.binOp .neq t x y t2,ty,pos,af,g⟩ env h 0 (fun _=>.b (!(a == b))) (fun _=>[]):=by
 refine iD fun ρ S ac w p=>⟨.bool (!(a == b)),?_,lN _⟩;have h1:=rL (p.evu hx);have h2:=rL (p.evu hy);have hg:(eqGuard .neq t x y (.bool a) (.bool b)).run P w = .ok () w:=rfl;simp [execOp,h1,h2,hg,run_neq_bool w t a b ht]
end
section
variable {P:Program}{n:Nat × Nat}{ops:Array Oper}{env:eG}{h:Hp}{K:eG→Hp→Prop}{rest:List Oper}{Q:Exit→eG→Hp→Prop}{code:Code}
theorem qL.own {c:pS}{ρ:Pl}{S:Nat→Prop}{a:Act}{w:World}{t sz:Nat}(s:qL n c ρ S env h a w) (ht:look env t=some .nils) (hs:0<sz):qL n c ρ S ((t,.sl h.length 0 0 sz)::env) (h++[.arr [] sz]) a w:=by
 refine ⟨s.size,s.defers,fun t' x hx=>?_,?_,s.cm⟩
 ·rw [iJ] at hx;split at hx
  ·rename_i e;subst e;cases hx;rw [rL (s.env t _ ht)];simp only [R];exact ⟨none,0,rfl,bZ _,.inl ⟨trivial,rfl⟩⟩
  ·exact s.env t' x hx
 ·have hd:=s.hs.dom h.length (aX _);have get:∀ {j:Nat} {b:AB},(h++[.arr [] sz])[j]? = some b→h[j]? = some b∨(j=h.length∧b = .arr [] sz):=fun {j b} hj=>by
   by_cases hlt:j<h.length
   ·rw [aG hlt] at hj;exact .inl hj
   ·have:=(aA.1 hj).1;simp at this;have e:j=h.length:=by omega
    subst e;simp at hj;exact .inr ⟨rfl,hj.symm⟩
  refine ⟨fun k hk=>s.hs.dom k (by simp at hk;omega),s.hs.rng,fun k b hb=>?_,fun k b p hb hg hp=>?_,fun k k' b b' p p' hb hb' hg hg' hp hp' e=>?_,s.hs.stab,s.hs.ext,s.hs.st0,s.hs.st1,by simp;exact BE s.hs.mle,s.hs.keep,s.hs.glob⟩
  ·rcases get hb with hb | ⟨rfl,rfl⟩
   ·exact s.hs.blk k b hb
   ·simp only [RB];exact ⟨(fun e he=>by cases he),hs,.inl ⟨trivial,fun b o e=>by rw [hd] at e;cases e⟩⟩
  ·rcases get hb with hb | ⟨rfl,rfl⟩
   ·exact s.hs.live k b p hb hg hp
   ·rw [hd] at hp;cases hp
  ·rcases get hb with hb | ⟨rfl,rfl⟩
   ·rcases get hb' with hb' | ⟨rfl,rfl⟩
    ·exact s.hs.inj k k' b b' p p' hb hb' hg hg' hp hp' e
    ·rw [hd] at hp';cases hp'
   ·rw [hd] at hp;cases hp
theorem oF (t sz:Nat) (ht:look env t=some .nils) (hs:0<sz) (hv:VC P n ops rest ((t,.sl h.length 0 0 sz)::env) (h++[.arr [] sz]) K):VC P n ops rest env h K:=
 fun c ρ S a w Q s hQ=>hv c ρ S a w Q (s.own ht hs) hQ
theorem zR7 (t sz:Nat) (ht:look env t=some .nils) (hs:0<sz) (hv:AW P n code ((t,.sl h.length 0 0 sz)::env) (h++[.arr [] sz]) Q):AW P n code env h Q:=
 fun c ρ S a w QQ s hQ=>hv c ρ S a w QQ (s.own ht hs) hQ
end
end Go.Ab
namespace Go.Ab
open Go Go.RowKit Go.WideShapes Go.ChangeShapes Go.ChangeAt
section
variable {H:Type}{enc:TypeId × Value→H}{P:Program}
theorem L0 (hl:laidOutB P=true){W W':World}{sp:Nat→Bool}(hb:Below W.heap.size W W'):∀ {ts:List TypeId}{vs:List Value}{ds:List (DataW H)}{ps:List MemPlace},(∀ t,t∈ts→P.readableRec t=true∧t<P.types.size)→DataW.TrodAll enc P W 0 (fun _=>true) true ts vs ds ps→(∀ p∈ps,p.block<W.heap.size)→(∀ p∈ps,sp p.block=true)→DataW.TrodAll enc P W' 0 sp true ts vs ds ps
 | [],vs,ds,ps,_,h,_,_=>by
  cases vs with
  | nil=>
   cases ds with
   | nil=>simp only [DataW.TrodAll] at h ⊢;exact h
   | cons _ _=>simp [DataW.TrodAll] at h
  | cons _ _=>simp [DataW.TrodAll] at h
 | t::ts,vs,ds,ps,ht,h,hlt,hsp=>by
  obtain ⟨v,vs',d,ds',p,q,rfl,rfl,rfl,h1,h2⟩:=trodAll_cons h;obtain ⟨h3,h4⟩:=ht t (by simp)
  exact trodAll_cons_mk (WideElems.Trod_stays hl h3 h4 h1 (fun x hx=>hb.same (hlt x (by simp [hx]))) (fun x hx=>hsp x (by simp [hx]))) (L0 hl hb (fun u hu=>ht u (by simp [hu])) h2 (fun x hx=>hlt x (by simp [hx])) (fun x hx=>hsp x (by simp [hx])))
theorem ON (hl:laidOutB P=true){f:Func}{s:ChangeSpec}{W W':World}{args:Array Value}{ds gs:List (DataW H)}{before:List MemPlace}{tb:TypeId}
  (hts':(f.params.toList.all fun t=>P.readableRec t&&decide (t<P.types.size))=true) (hv:s.vars=[]) (hrt:f.resultTypes = #[tb]) (htb:P.underlying tb=some .bool)
  (hW:DataW.Whole enc P f.params.toList s.vars false W args.toList ds gs before)
  (hfn:(s.fn H (ds++gs)).results=[.lit (.bool true)]∧(s.fn H (ds++gs)).args=ds∧(s.fn H (ds++gs)).vars=[]) (hb:Below W.heap.size W W') :
  s.post enc P f false true false false W args (.bool true) W':=by
 have hW2:=hW;have hts:∀ t,t∈f.params.toList→P.readableRec t=true∧t<P.types.size:=fun t ht=>by
  have:=bJ.1 hts' t ht;simpa using this
 have hlt:∀ p∈before,p.block<W.heap.size:=fun p hp=>hW.lt p hp
 obtain ⟨p,q,hA,hV,rfl,hz,hn⟩:=hW;rw [hv] at hV;obtain ⟨_,rfl⟩:=trodVars_none hV;obtain ⟨f1,f2,f3⟩:=hfn;have hargs:∀ sp:Nat→Bool,(∀ x∈p++[],sp x.block=true)→DataW.TrodAll enc P W' 0 sp true f.params.toList args.toList (s.fn H (ds++gs)).args p:=fun sp hsp=>by
  rw [f2];exact L0 hl hb hts hA (fun x hx=>hlt x (by simpa using hx)) (fun x hx=>hsp x (by simpa using hx))
 have hres:∀ (b:Nat) (sp:Nat→Bool) (hd:Bool),DataW.TrodAll enc P W' b sp hd f.resultTypes.toList ((Value.bool true).resultList f.resultTypes.size) (s.fn H (ds++gs)).results []:=fun b sp hd=>by
  rw [f1,hrt];exact trodAll_cons_mk (shut_bool htb _) trodAll_mk0
 have hvars:∀ sp:Nat→Bool,DataW.TrodVars enc P W' sp s.vars (s.fn H (ds++gs)).vars []:=fun sp=>by
  rw [f3,hv];rfl
 have hold:∀ x∈p++[],(fun b=>decide (b<W.heap.size)) x.block=true:=fun x hx=>by simpa using hlt x hx
 refine ⟨ds,gs,p++[],[],p,[],hW2,hres _ _ _,hargs _ hold,hvars _,World.keptBut_mono (fun x hx=>⟨hx,by simpa using hx⟩) (hb.frame (·∈p++[])),fun _=>?_⟩
 refine ⟨?_,_,_,([]++p)++[],⟨[]++p,[],trodAll_append (hargs _ (fun _ _=>rfl)) (hres _ _ _),hvars _,rfl,?_,fun ha=>by cases ha⟩,fun x hx _=>by simpa using hx⟩
 ·exact ok_one hrt rfl (okWide_bool_mk htb _)
 ·intro b off hp;have hin:MemPlace.cell b off∈p++[]:=by simpa using hp
  rw [hb.frozen (hlt _ hin)];exact hz b off hin
end
end Go.Ab
namespace Go.Ab
open Go
def C7:Hp→List Nat→List AB→Hp
 | h,j::L,b::bs=>C7 (h.set j b) L bs
 | h,_,_=>h
theorem lJ:∀ (L:List Nat) (bs:List AB) (h:Hp),(C7 h L bs).length=h.length
 | [],_,_=>by simp [C7]
 | _::_,[],_=>by simp [C7]
 | j::L,b::bs,h=>by simp only [C7];rw [lJ L bs];simp
theorem zM {k:Nat}:∀ (L:List Nat) (bs:List AB) (h:Hp),k∉L→(C7 h L bs)[k]? = h[k]?
 | [],_,_,_=>by simp [C7]
 | _::_,[],_,_=>by simp [C7]
 | j::L,b::bs,h,hk=>by
  simp only [bQ,not_or] at hk;simp only [C7];rw [zM L bs _ hk.2,iC,if_neg (fun e=>hk.1 e.symm)]
theorem KL:∀ {L:List Nat}{bs:List AB}{h:Hp}{i j:Nat}{b:AB},L.Nodup→L[i]? = some j→bs[i]? = some b→j<h.length→(C7 h L bs)[j]? = some b
 | j0::L,b0::bs,h,0,j,b,hnd,hi,hb,hj=>by
  simp at hi hb;subst hi;subst hb;simp only [C7];rw [zM L bs _ (fR.1 hnd).1,iC,if_pos rfl,if_pos hj]
 | j0::L,b0::bs,h,i+1,j,b,hnd,hi,hb,hj=>by
  simp only [C7];exact KL (fR.1 hnd).2 (by simpa using hi) (by simpa using hb) (by simpa using hj)
 | [],_,_,_,_,_,_,hi,_,_=>by simp at hi
 | _::_,[],_,_,_,_,_,_,hb,_=>by simp at hb
def tW (L:List Nat) (N m k:Nat):Nat:=match L[k]? with
 | some j=>j
 | none=>N+(k-m)
section
variable {P:Program}{n:Nat × Nat}{ops:Array Oper}{rest:List Oper}{env:eG}{h:Hp}{K:eG→Hp→Prop}
variable {d:Option Nat}{ty:TypeId}{pos:String}{af:Array Edge}
theorem cD {op:Op}{j t:Nat}{want b:Bool}(hj:(ops[j]?).bind (·.dst)=some t) (hl:look env t=some (.b b)) (ht:b=true→VC P n ops (⟨d,op,ty,pos,af,some (j,want)⟩::rest) env h K) (hf:b=false→VC P n ops (⟨d,op,ty,pos,af,some (j,want)⟩::rest) env h K):VC P n ops (⟨d,op,ty,pos,af,some (j,want)⟩::rest) env h K:=by
 cases b
 ·exact hf rfl
 ·exact ht rfl
theorem gT {op:Op}{d:Option Nat}{j t:Nat}{want:Bool}(ht:VC P n ops (⟨d,op,ty,pos,af,none⟩::rest) env h K) (hj:(ops[j]?).bind (·.dst)=some t:=by rfl) (hl:look env t=some (.b want):=by rfl) (hd:GH d n=true:=by rfl):VC P n ops (⟨d,op,ty,pos,af,some (j,want)⟩::rest) env h K:=GV hj hl ht hd
theorem gF {op:Op}{d:Option Nat}{j t:Nat}{want:Bool}(hf:VC P n ops rest (nE d (.v undef) env) h K) (hj:(ops[j]?).bind (·.dst)=some t:=by rfl) (hl:look env t=some (.b (!want)):=by rfl) (hd:GH d n=true:=by rfl):VC P n ops (⟨d,op,ty,pos,af,some (j,want)⟩::rest) env h K:=GW hj hl hf hd
theorem gU {op:Op}{d:Option Nat}{j t:Nat}{want:Bool}(hf:VC P n ops rest (nE d (.v undef) env) h K) (hj:(ops[j]?).bind (·.dst)=some t:=by rfl) (hl:look env t=some (.v undef):=by rfl) (hd:GH d n=true:=by rfl):VC P n ops (⟨d,op,ty,pos,af,some (j,want)⟩::rest) env h K:=UU hj hl hf hd
theorem mV {dd:Nat}{x:Operand}{u:AV}(hk:VC P n ops rest ((dd,u)::env) h K) (hx:evu env x=some u:=by rfl) (hd:Nat.blt dd n.1=true:=by rfl):VC P n ops (⟨some dd,.move x,ty,pos,af,none⟩::rest) env h K:=C6 (bV hx) hd hk
theorem aV {dd:Nat}{x:Operand}{u:AV}(hk:VC P n ops rest ((dd,u)::env) h K) (hx:evu env x=some u:=by rfl) (hd:Nat.blt dd n.1=true:=by rfl):VC P n ops (⟨some dd,.assign x,ty,pos,af,none⟩::rest) env h K:=C6 (eD hx) hd hk
theorem fV (T:pR P){dd t f k:Nat}{x:Operand}{u z:AV}(hk:VC P n ops rest ((dd,z)::env) h K) (hx:evu env x=some u:=by rfl) (hf:T.field t f=some k:=by rfl) (hz:u.plus k=some z:=by rfl) (hd:Nat.blt dd n.1=true:=by rfl):VC P n ops (⟨some dd,.fieldAddr t x f,ty,pos,af,none⟩::rest) env h K:=C6 (bR T hx hf hz) hd hk
theorem lV (T:pR P){dd t:Nat}{i:TI}{x:Operand}{u z:AV}{cs:List AV}{off:Nat}(hk:VC P n ops rest ((dd,z)::env) h K) (hx:evu env x=some u:=by rfl) (ht:T.ti t=some i:=by rfl) (hb:kU h u=some (cs,off):=by rfl) (hz:oH i cs off=some z:=by rfl) (hd:Nat.blt dd n.1=true:=by rfl):VC P n ops (⟨some dd,.load t x,ty,pos,af,none⟩::rest) env h K:=C6 (bA T hx ht hb hz) hd hk
theorem nV {dd:Nat}{x:Operand}{u z:AV}(hk:VC P n ops rest ((dd,u)::env) h K) (hx:evu env x=some u:=by rfl) (hz:u.plus 0=some z:=by rfl) (hd:Nat.blt dd n.1=true:=by rfl):VC P n ops (⟨some dd,.nilCheck x,ty,pos,af,none⟩::rest) env h K:=C6 (cF hx hz) hd hk
theorem xV {dd:Nat}{x:Operand}{vs:List AV}{j:Nat}{z:AV}(hk:VC P n ops rest ((dd,z)::env) h K) (hx:evu env x=some (.tup vs):=by rfl) (hz:vs[j]? = some z:=by rfl) (hd:Nat.blt dd n.1=true:=by rfl):VC P n ops (⟨some dd,.extract x j,ty,pos,af,none⟩::rest) env h K:=C6 (jG hx hz) hd hk
theorem vV {dd:Nat}{op:Op}{u:AV}(hs:bW P ⟨some dd,op,ty,pos,af,none⟩ env h 0 (fun _=>u) (fun _=>[])) (hk:VC P n ops rest ((dd,u)::env) h K) (hd:Nat.blt dd n.1=true:=by rfl):VC P n ops (⟨some dd,op,ty,pos,af,none⟩::rest) env h K:=C6 hs hd hk
def xF8 (b:Bool) (u v:Option AV):Option AV:=match b with
 | true=>u
 | false=>v
theorem pV {dd:Nat}{c x y:Operand}{b:Bool}{r:AV}(hk:VC P n ops rest ((dd,r)::env) h K) (hc:evu env c=some (.b b):=by rfl) (hr:xF8 b (evu env x) (evu env y)=some r:=by rfl) (hd:Nat.blt dd n.1=true:=by rfl):VC P n ops (⟨some dd,.pick c x y,ty,pos,af,none⟩::rest) env h K:=by
 cases b
 ·exact C6 (iM hc hr) hd hk
 ·exact C6 (jE hc hr) hd hk
def yY3:AV→Option Nat
 | .sl _ _ len _=>some len
 | .row _ len _=>some len
 | _=>none
theorem qV (T:pR P){dd t e m:Nat}{x:Operand}{u:AV}(hk:VC P n ops rest ((dd,.i (m:Int))::env) h K) (hx:evu env x=some u:=by rfl) (ha:T.elem t=some e:=by rfl) (hm:yY3 u=some m:=by rfl) (hd:Nat.blt dd n.1=true:=by rfl):VC P n ops (⟨some dd,.call { callee:=.builtin .len,args:=#[x],argTypes:=#[t] },ty,pos,af,none⟩::rest) env h K:=by
 cases u with
 | sl k off len sz=>cases hm;exact C6 (Z0 T hx ha) hd hk
 | row cs len sz=>cases hm;exact C6 (mZ T hx ha) hd hk
 | _=>cases hm
theorem wT {x:Operand}{p q:Code}{Q:Exit→eG→Hp→Prop}(ht:AW P n p env h Q) (hx:ev env x=some (.b true):=by rfl):AW P n (.cond x p q) env h Q:=sE hx ht
theorem wU {x:Operand}{p q:Code}{Q:Exit→eG→Hp→Prop}(hf:AW P n q env h Q) (hx:ev env x=some (.b false):=by rfl):AW P n (.cond x p q) env h Q:=T8 hx hf
theorem kC {g:Option (Nat × Bool)}{x:Operand}{f:FuncId}{fs cs us xs:List AV}{args:List Operand}{ats:Array TypeId}{res:AV}(hc:aM P f xs [] res []) (hx:evu env x=some (.clo (.func f) fs cs):=by rfl) (ha:C9 env args=some us:=by rfl) (he:fs++us++cs=xs:=by rfl) (hi:AV.idfL xs=true:=by rfl) (hr:res.idf=true:=by rfl) :
  bW P ⟨d,.call { callee:=.value x,args:=args.toArray,argTypes:=ats },ty,pos,af,g⟩ env h 0 (fun _=>res) (fun _=>[]):=gD hx ha hc he hi hr
def yQ4:Option AV→Bool
 | some (.v (.bool true))=>true
 | some (.v (.bool false))=>true
 | some (.v _)=>true
 | _=>false
theorem gK {op:Op}{d:Option Nat}{j t:Nat}{want:Bool}(hk:VC P n ops (⟨d,op,ty,pos,af,some (j,want)⟩::rest) env h K) (hj:(ops[j]?).bind (·.dst)=some t:=by rfl) (hl:yQ4 (look env t)=true:=by rfl):VC P n ops (⟨d,op,ty,pos,af,some (j,want)⟩::rest) env h K:=hk
theorem yM {dd j tg:Nat}{want:Bool}{x:Operand}{u:AV}(hk:VC P n ops rest ((dd,u)::env) h K) (hj:(ops[j]?).bind (·.dst)=some tg:=by rfl) (hl:look env tg=some (.b want):=by rfl) (hx:evu env x=some u:=by rfl) (hd:Nat.blt dd n.1=true:=by rfl):VC P n ops (⟨some dd,.move x,ty,pos,af,some (j,want)⟩::rest) env h K:=gT (vV (bV hx) hk hd) hj hl hd
theorem yL (T:pR P){dd j tg t off:Nat}{want:Bool}{ii:TI}{cs:List AV}{x:Operand}{u v:AV}(hk:VC P n ops rest ((dd,u)::env) h K) (hj:(ops[j]?).bind (·.dst)=some tg:=by rfl) (hl:look env tg=some (.b want):=by rfl) (hx:evu env x=some v:=by rfl) (ht:T.ti t=some ii:=by rfl) (hb:kU h v=some (cs,off):=by rfl) (hz:oH ii cs off=some u:=by rfl) (hd:Nat.blt dd n.1=true:=by rfl):VC P n ops (⟨some dd,.load t x,ty,pos,af,some (j,want)⟩::rest) env h K:=gT (vV (bA T hx ht hb hz) hk hd) hj hl hd
theorem yF (T:pR P){dd j tg t f kf:Nat}{want:Bool}{x:Operand}{u v:AV}(hk:VC P n ops rest ((dd,u)::env) h K) (hj:(ops[j]?).bind (·.dst)=some tg:=by rfl) (hl:look env tg=some (.b want):=by rfl) (hx:evu env x=some v:=by rfl) (hf:T.field t f=some kf:=by rfl) (hz:v.plus kf=some u:=by rfl) (hd:Nat.blt dd n.1=true:=by rfl):VC P n ops (⟨some dd,.fieldAddr t x f,ty,pos,af,some (j,want)⟩::rest) env h K:=gT (vV (bR T hx hf hz) hk hd) hj hl hd
theorem yV {op:Op}{dd j tg:Nat}{want:Bool}{u:AV}(hs:bW P ⟨some dd,op,ty,pos,af,none⟩ env h 0 (fun _=>u) (fun _=>[])) (hk:VC P n ops rest ((dd,u)::env) h K) (hj:(ops[j]?).bind (·.dst)=some tg:=by rfl) (hl:look env tg=some (.b want):=by rfl) (hd:Nat.blt dd n.1=true:=by rfl):VC P n ops (⟨some dd,op,ty,pos,af,some (j,want)⟩::rest) env h K:=gT (vV hs hk hd) hj hl hd
theorem xC6 {d1 d2:Nat}{x y:Operand}{u v:AV}{ty':TypeId}{pos':String}{af':Array Edge}(hk:VC P n ops rest ((d2,v)::(d1,u)::env) h K) (hx:evu env x=some u:=by rfl) (hy:evu ((d1,u)::env) y=some v:=by rfl) (hd:Nat.blt d1 n.1=true:=by rfl) (he:Nat.blt d2 n.1=true:=by rfl):VC P n ops (⟨some d1,.move x,ty,pos,af,none⟩::⟨some d2,.move y,ty',pos',af',none⟩::rest) env h K:=vV (bV hx) (vV (bV hy) hk he) hd
theorem pT {d1 d2:Nat}{x y:Operand}{u v:AV}{ty':TypeId}{pos':String}{af':Array Edge}(hk:VC P n ops rest ((d2,v)::(d1,u)::env) h K) (hx:evu env x=some u:=by rfl) (hy:evu ((d1,u)::env) y=some v:=by rfl) (hd:Nat.blt d1 n.1=true:=by rfl) (he:Nat.blt d2 n.1=true:=by rfl):VC P n ops (⟨some d1,.assign x,ty,pos,af,none⟩::⟨some d2,.assign y,ty',pos',af',none⟩::rest) env h K:=vV (eD hx) (vV (eD hy) hk he) hd
theorem GD (T:pR P){d1 d2 t f kf t2 off:Nat}{x:Operand}{u v w:AV}{ii:TI}{cs:List AV}{ty':TypeId}{pos':String}{af':Array Edge}(hk:VC P n ops rest ((d2,w)::(d1,u)::env) h K) (hx:evu env x=some v:=by rfl) (hf:T.field t f=some kf:=by rfl) (hz:v.plus kf=some u:=by rfl) (hy:evu ((d1,u)::env) (.tmp d1)=some u:=by rfl) (ht:T.ti t2=some ii:=by rfl) (hb:kU h u=some (cs,off):=by rfl) (hw:oH ii cs off=some w:=by rfl) (hd:Nat.blt d1 n.1=true:=by rfl) (he:Nat.blt d2 n.1=true:=by rfl):VC P n ops (⟨some d1,.fieldAddr t x f,ty,pos,af,none⟩::⟨some d2,.load t2 (.tmp d1),ty',pos',af',none⟩::rest) env h K:=vV (bR T hx hf hz) (vV (bA T hy ht hb hw) hk he) hd
theorem mW {dd:Nat}{x:Operand}{u:AV}(e:(evu env x,Nat.blt dd n.1)=(some u,true)) (hk:VC P n ops rest ((dd,u)::env) h K):VC P n ops (⟨some dd,.move x,ty,pos,af,none⟩::rest) env h K:=mV hk (congrArg (·.1) e) (congrArg (·.2) e)
theorem aW {dd:Nat}{x:Operand}{u:AV}(e:(evu env x,Nat.blt dd n.1)=(some u,true)) (hk:VC P n ops rest ((dd,u)::env) h K):VC P n ops (⟨some dd,.assign x,ty,pos,af,none⟩::rest) env h K:=aV hk (congrArg (·.1) e) (congrArg (·.2) e)
theorem fW (T:pR P){dd t f k:Nat}{x:Operand}{u z:AV}(e:(evu env x,T.field t f,u.plus k,Nat.blt dd n.1)=(some u,some k,some z,true)) (hk:VC P n ops rest ((dd,z)::env) h K):VC P n ops (⟨some dd,.fieldAddr t x f,ty,pos,af,none⟩::rest) env h K:=fV T hk (congrArg (·.1) e) (congrArg (·.2.1) e) (congrArg (·.2.2.1) e) (congrArg (·.2.2.2) e)
theorem lW (T:pR P){dd t:Nat}{i:TI}{x:Operand}{u z:AV}{cs:List AV}{off:Nat}(e:(evu env x,T.ti t,kU h u,oH i cs off,Nat.blt dd n.1)=(some u,some i,some (cs,off),some z,true)) (hk:VC P n ops rest ((dd,z)::env) h K):VC P n ops (⟨some dd,.load t x,ty,pos,af,none⟩::rest) env h K:=lV T hk (congrArg (·.1) e) (congrArg (·.2.1) e) (congrArg (·.2.2.1) e) (congrArg (·.2.2.2.1) e) (congrArg (·.2.2.2.2) e)
theorem qW (T:pR P){dd t e' m:Nat}{x:Operand}{u:AV}(e:(evu env x,T.elem t,yY3 u,Nat.blt dd n.1)=(some u,some e',some m,true)) (hk:VC P n ops rest ((dd,.i (m:Int))::env) h K):VC P n ops (⟨some dd,.call { callee:=.builtin .len,args:=#[x],argTypes:=#[t] },ty,pos,af,none⟩::rest) env h K:=qV T hk (congrArg (·.1) e) (congrArg (·.2.1) e) (congrArg (·.2.2.1) e) (congrArg (·.2.2.2) e)
theorem xW {dd:Nat}{x:Operand}{vs:List AV}{j:Nat}{z:AV}(e:(evu env x,vs[j]?,Nat.blt dd n.1)=(some (.tup vs),some z,true)) (hk:VC P n ops rest ((dd,z)::env) h K):VC P n ops (⟨some dd,.extract x j,ty,pos,af,none⟩::rest) env h K:=xV hk (congrArg (·.1) e) (congrArg (·.2.1) e) (congrArg (·.2.2) e)
theorem pW {dd:Nat}{c x y:Operand}{b:Bool}{r:AV}(e:(evu env c,xF8 b (evu env x) (evu env y),Nat.blt dd n.1)=(some (.b b),some r,true)) (hk:VC P n ops rest ((dd,r)::env) h K):VC P n ops (⟨some dd,.pick c x y,ty,pos,af,none⟩::rest) env h K:=pV hk (congrArg (·.1) e) (congrArg (·.2.1) e) (congrArg (·.2.2) e)
theorem yN {dd j tg:Nat}{want:Bool}{x:Operand}{u:AV}(e:((ops[j]?).bind (·.dst),look env tg,evu env x,Nat.blt dd n.1)=(some tg,some (.b want),some u,true)) (hk:VC P n ops rest ((dd,u)::env) h K):VC P n ops (⟨some dd,.move x,ty,pos,af,some (j,want)⟩::rest) env h K:=yM hk (congrArg (·.1) e) (congrArg (·.2.1) e) (congrArg (·.2.2.1) e) (congrArg (·.2.2.2) e)
theorem yO (T:pR P){dd j tg t off:Nat}{want:Bool}{ii:TI}{cs:List AV}{x:Operand}{u v:AV}(e:((ops[j]?).bind (·.dst),look env tg,evu env x,T.ti t,kU h v,oH ii cs off,Nat.blt dd n.1)=(some tg,some (.b want),some v,some ii,some (cs,off),some u,true)) (hk:VC P n ops rest ((dd,u)::env) h K):VC P n ops (⟨some dd,.load t x,ty,pos,af,some (j,want)⟩::rest) env h K:=yL T hk (congrArg (·.1) e) (congrArg (·.2.1) e) (congrArg (·.2.2.1) e) (congrArg (·.2.2.2.1) e) (congrArg (·.2.2.2.2.1) e) (congrArg (·.2.2.2.2.2.1) e) (congrArg (·.2.2.2.2.2.2) e)
theorem yP (T:pR P){dd j tg t f kf:Nat}{want:Bool}{x:Operand}{u v:AV}(e:((ops[j]?).bind (·.dst),look env tg,evu env x,T.field t f,v.plus kf,Nat.blt dd n.1)=(some tg,some (.b want),some v,some kf,some u,true)) (hk:VC P n ops rest ((dd,u)::env) h K):VC P n ops (⟨some dd,.fieldAddr t x f,ty,pos,af,some (j,want)⟩::rest) env h K:=yF T hk (congrArg (·.1) e) (congrArg (·.2.1) e) (congrArg (·.2.2.1) e) (congrArg (·.2.2.2.1) e) (congrArg (·.2.2.2.2.1) e) (congrArg (·.2.2.2.2.2) e)
theorem dJ {d1 d2:Nat}{x y:Operand}{u v:AV}{ty':TypeId}{pos':String}{af':Array Edge}(e:(evu env x,evu ((d1,u)::env) y,Nat.blt d1 n.1,Nat.blt d2 n.1)=(some u,some v,true,true)) (hk:VC P n ops rest ((d2,v)::(d1,u)::env) h K):VC P n ops (⟨some d1,.move x,ty,pos,af,none⟩::⟨some d2,.move y,ty',pos',af',none⟩::rest) env h K:=xC6 hk (congrArg (·.1) e) (congrArg (·.2.1) e) (congrArg (·.2.2.1) e) (congrArg (·.2.2.2) e)
theorem xJ3 {d1 d2:Nat}{x y:Operand}{u v:AV}{ty':TypeId}{pos':String}{af':Array Edge}(e:(evu env x,evu ((d1,u)::env) y,Nat.blt d1 n.1,Nat.blt d2 n.1)=(some u,some v,true,true)) (hk:VC P n ops rest ((d2,v)::(d1,u)::env) h K):VC P n ops (⟨some d1,.assign x,ty,pos,af,none⟩::⟨some d2,.assign y,ty',pos',af',none⟩::rest) env h K:=pT hk (congrArg (·.1) e) (congrArg (·.2.1) e) (congrArg (·.2.2.1) e) (congrArg (·.2.2.2) e)
theorem iK (T:pR P){d1 d2 t f kf t2 off:Nat}{x:Operand}{u v w:AV}{ii:TI}{cs:List AV}{ty':TypeId}{pos':String}{af':Array Edge}(e:(evu env x,T.field t f,v.plus kf,evu ((d1,u)::env) (.tmp d1),T.ti t2,kU h u,oH ii cs off,Nat.blt d1 n.1,Nat.blt d2 n.1)=(some v,some kf,some u,some u,some ii,some (cs,off),some w,true,true)) (hk:VC P n ops rest ((d2,w)::(d1,u)::env) h K):VC P n ops (⟨some d1,.fieldAddr t x f,ty,pos,af,none⟩::⟨some d2,.load t2 (.tmp d1),ty',pos',af',none⟩::rest) env h K:=
 GD T hk (congrArg (·.1) e) (congrArg (·.2.1) e) (congrArg (·.2.2.1) e) (congrArg (·.2.2.2.1) e) (congrArg (·.2.2.2.2.1) e) (congrArg (·.2.2.2.2.2.1) e) (congrArg (·.2.2.2.2.2.2.1) e) (congrArg (·.2.2.2.2.2.2.2.1) e) (congrArg (·.2.2.2.2.2.2.2.2) e)
theorem ND (x:Value):(AV.v x).un = .v x:=rfl
theorem D6 (k o:Nat):(AV.ptr k o).un = .ptr k o:=rfl
theorem AF (k i o s:Nat):(AV.ep k i o s).un = .ep k i o s:=rfl
theorem AD (c:List AV) (o:Nat):(AV.pr c o).un = .pr c o:=rfl
theorem AC (k o l s:Nat):(AV.sl k o l s).un = .sl k o l s:=rfl
theorem AE (k:Nat):(AV.mp k).un = .mp k:=rfl
theorem D5 (c:List AV) (l s:Nat):(AV.row c l s).un = .row c l s:=rfl
theorem D8 (c:List AV):(AV.agg c).un = .agg c:=rfl
theorem D4 (c:List AV):(AV.tup c).un = .tup c:=rfl
theorem D7 (f:Fn) (a b:List AV):(AV.clo f a b).un = .clo f a b:=rfl
theorem HS.hand {c:pS}{ρ:Pl}{S:Nat→Prop}{w:World}{hin:Hp}{L:List Nat}(s:HS c ρ S h w) (hL:L.length=hin.length) (hnd:L.Nodup) (hh:wL (th L h.length) h 0 hin) :
  HS (nX w (fun k=>ρ (th L h.length k)) S hin) (fun k=>ρ (th L h.length k)) S hin w:=by
 have s0:HS { c with m:=0 } ρ S h w:=⟨s.dom,s.rng,s.blk,s.live,s.inj,s.stab,s.ext,s.st0,s.st1,bZ _,fun k hk=>absurd hk (eV _),s.glob⟩;have s1:=s0.sub hL hh hnd (AM);refine ⟨s1.dom,s1.rng,s1.blk,fun k b p hb hg hp=>⟨.inr ⟨k,b,p.2,hb,hg,hp⟩,(s1.live k b p hb hg hp).2⟩,s1.inj,s1.stab,nD.refl _ _,fun _ h=>h,fun _ h=>.inl h,aX _,fun _ _=>rfl,s1.glob⟩
theorem bT (L:List Nat){x:Operand}{f:FuncId}{fs cs us xs:List AV}{args:List Operand}{ats:Array TypeId}{res:AV}{hin hout:Hp}(hx:evu env x=some (.clo (.func f) fs cs)) (ha:C9 env args=some us)
  (hc:aM P f xs hin res hout) (hxs:fs++us++cs=AV.mapL (th L h.length) xs) (hL:L.length=hin.length) (hnd:L.Nodup) (hh:wL (th L h.length) h 0 hin) (hng:∀ b,b∈hin→b≠.gone) (hd:GH d n=true)
  (hk:VC P n ops rest (nE d (res.map (tW L h.length hin.length)) env) (C7 h L ((hout.take hin.length).map (AB.map (tW L h.length hin.length)))++(hout.drop hin.length).map (AB.map (tW L h.length hin.length))) K) :
  VC P n ops (⟨d,.call { callee:=.value x,args:=args.toArray,argTypes:=ats },ty,pos,af,none⟩::rest) env h K:=by
 intro c ρ S a w Q s hQ;refine wpList_plain rfl fun K' hK'=>?_
 have p:=s.pre;have hxv:=p.evu hx;simp only [R] at hxv;obtain ⟨ys,zs,e1,h1,h2⟩:=hxv;have hall:RL S w (fs++us++cs) ρ (ys.toList++args.map a.eval++zs.toList):=iT (iT h1 (uR p ha)) h2;rw [hxs] at hall;have hargs:=qY (th L h.length) ρ _ _ hall;obtain ⟨hf,hc⟩:=hc;have hs0:=s.hs.hand hL hnd hh;have hcall:=hc _ S w _ hs0 hargs;unfold Oper.wp;have hrun:(execOp a.eval ⟨d,.call { callee:=.value x,args:=args.toArray,argTypes:=ats },ty,pos,af,none⟩).run P w = .ok (.enter f (ys.toList++args.map a.eval++zs.toList).toArray) w:=by
  have e2:(ys++(args.toArray.map a.eval)++zs)=(ys.toList++args.map a.eval++zs.toList).toArray:=by
   apply Array.ext';simp
  simp only [execOp,resolve,e1,Deferred.ofValue,Sem.run_bind,Sem.run_pure,Result.andThen_ok,invoke];rw [e2];exact yB hf
 rw [hrun];simp only [Oper.upon];refine hcall.mono ?_;rintro e w' ⟨y,ρ',S',rfl,hs,hy⟩;simp only;refine hK' _ _ (hk c (fun k=>if k<h.length then ρ k else ρ' (hin.length+(k-h.length))) S' _ w' Q ?_ hQ)
 -- the objects handed over
 have hin_at:∀ {i:Nat} {b:AB},hin[i]? = some b→∃ j,L[i]? = some j∧j<h.length∧h[j]? = some (b.map (th L h.length))∧b.map (th L h.length)≠.gone:=fun {i b} hb=>by
  have hne:=hng b (aQ hb);have hlt:i<L.length:=by rw [hL];exact (aA.1 hb).1
  have hj:=aB hlt;have hth:th L h.length i=L[i]:=by simp [th,hj]
  rcases hh.get i b hb with hg | hg
  ·exact absurd hg hne
  ·rw [Nat.zero_add,hth] at hg;exact ⟨L[i],hj,(aA.1 hg).1,hg,by cases b <;> simp [AB.map] at * ⟩
 have hmle:=hs.mle;have hmle':hin.length≤hout.length:=hmle;have thL:∀ {i j:Nat},L[i]? = some j→th L h.length i=j:=fun hi=>by simp [th,hi]
 have keep:∀ {i j:Nat},i<hin.length→L[i]? = some j→ρ' i=ρ j:=fun {i j} hi hj=>by
  have:=hs.keep i hi;simp only [nX] at this;rw [this,thL hj]
 -- where the callee may write
 have hM:∀ b,(nX w (fun k=>ρ (th L h.length k)) S hin).M b→w.heap.size≤b∨∃ (i j:Nat) (o:Nat) (x:AB),hin[i]? = some x∧L[i]? = some j∧ρ j=some (b,o):=fun b hb=>by
  rcases hb with hb | ⟨k,x,o,hb,_,hp⟩
  ·exact .inl hb
  ·obtain ⟨j,h3,_⟩:=hin_at hb;exact .inr ⟨k,j,o,x,hb,h3,by rw [← thL h3];exact hp⟩
 have hcM:∀ b,(nX w (fun k=>ρ (th L h.length k)) S hin).M b→c.M b:=fun b hb=>by
  rcases hM b hb with hb | ⟨i,j,o,x,h3,h4,h5⟩
  ·exact c.new b (bL s.hs.ext.size hb)
  ·obtain ⟨j',h6,_,h7,h8⟩:=hin_at h3;rw [h4] at h6;cases h6;exact (s.hs.live j _ _ h7 h8 h5).1
 have hlow:∀ b,b<w.heap.size→(nX w (fun k=>ρ (th L h.length k)) S hin).M b→∃ (i j:Nat) (o:Nat) (x:AB),hin[i]? = some x∧L[i]? = some j∧ρ j=some (b,o):=fun b hlt hb=>by
  rcases hM b hb with hb | hb
  ·omega
  ·exact hb
 -- a live object that was not handed over: its block is left alone
 have other:∀ {k:Nat} {b:AB} {q:Nat × Nat},h[k]? = some b→b≠.gone→k∉L→ρ k=some q→¬ (nX w (fun k=>ρ (th L h.length k)) S hin).M q.1:=fun {k b q} hb hg hkL hq hm=>by
  obtain ⟨i,j,o,x,h3,h4,h5⟩:=hlow q.1 (s.hs.rng k q hq) hm;obtain ⟨j',h6,_,h7,h8⟩:=hin_at h3;rw [h4] at h6;cases h6;have:=s.hs.inj k j _ _ q _ hb h7 hg h8 hq h5 rfl;subst this;exact hkL (aQ h4)
 have stM:∀ b,S b→¬ (nX w (fun k=>ρ (th L h.length k)) S hin).M b:=fun b hb hm=>by
  obtain ⟨i,j,o,x,h3,h4,h5⟩:=hlow b (s.hs.stab b hb) hm;obtain ⟨j',h6,_,h7,h8⟩:=hin_at h3;rw [h4] at h6;cases h6;exact (s.hs.live j _ _ h7 h8 h5).2 hb
 have same:∀ b,b<w.heap.size→¬ (nX w (fun k=>ρ (th L h.length k)) S hin).M b→w'.heap[b]? = w.heap[b]?:=fun b hb hm=>hs.ext.same b hb hm
 have l:iF ρ (fun k=>if k<h.length then ρ k else ρ' (hin.length+(k-h.length))) S S' w w':=by
  refine ⟨fun k q hq=>?_,hs.st0,fun b hb=>same b (s.hs.stab b hb) (stM b hb),fun _ _ _ _ _ hr=>hs.ext.room hr⟩
  have hlt:k<h.length:=by
   rcases jO k h.length with h3 | h3
   ·exact h3
   ·rw [s.hs.dom k h3] at hq;cases hq
  simp only [if_pos hlt];exact hq
 -- the callee's places,seen by the caller
 have pl:∀ k q,ρ' k=some q→(fun k=>if k<h.length then ρ k else ρ' (hin.length+(k-h.length))) (tW L h.length hin.length k)=some q:=fun k q hq=>by
  by_cases hk:k<hin.length
  ·have hj:=aB (l:=L) (i:=k) (by omega)
   have hb:=aB hk;obtain ⟨j,h3,h4,_⟩:=hin_at hb;have hbk:tW L h.length hin.length k=j:=by simp [tW,h3]
   rw [hbk];simp only [if_pos h4];rw [← keep hk h3];exact hq
  ·have hbk:tW L h.length hin.length k=h.length+(k-hin.length):=by
    unfold tW;rw [dA (by omega)]
   rw [hbk];simp only;rw [if_neg (by omega),show hin.length+(h.length+(k-hin.length)-h.length)=k by omega]
   exact hq
 have shift:∀ {x:AV} {y:Value},R S' w' x ρ' y→R S' w' (x.map (tW L h.length hin.length)) (fun k=>if k<h.length then ρ k else ρ' (hin.length+(k-h.length))) y:=fun {x y} hx=>Z7 _ _ x y (oN (fun _ h=>h) (fun _ _=>rfl) x ρ' _ y pl (fun _ _ _ _ _ h=>h) hx)
 have shiftB:∀ {b:AB} {pp},RB S' w' ρ' pp b→RB S' w' (fun k=>if k<h.length then ρ k else ρ' (hin.length+(k-h.length))) pp (b.map (tW L h.length hin.length)):=fun {b pp} hb=>ML _ _ (RB.later (ρ:=ρ') (S:=S') ⟨pl,fun _ h=>h,fun _ _=>rfl,fun _ _ _ _ _ h=>h⟩ (fun _ _ _=>rfl) hb)
 -- what stands at a place kU the call
 have get:∀ {k:Nat} {b:AB},(C7 h L ((hout.take hin.length).map (AB.map (tW L h.length hin.length)))++(hout.drop hin.length).map (AB.map (tW L h.length hin.length)))[k]? = some b →
   (k<h.length∧k∉L∧h[k]? = some b)∨(∃ (i:Nat) (b':AB),hout[i]? = some b'∧b=b'.map (tW L h.length hin.length)∧tW L h.length hin.length i=k∧(if k<h.length then ρ k else ρ' (hin.length+(k-h.length)))=ρ' i∧((i<hin.length∧L[i]? = some k)∨(hin.length≤i∧k=h.length+(i-hin.length)))):=fun {k b} hb=>by
  by_cases hk:k<h.length
  ·rw [aG (by rw [lJ];exact hk)] at hb
   by_cases hkL:k∈L
   ·obtain ⟨i,hi⟩:=MM.1 hkL;have hiL:i<hin.length:=by rw [← hL];exact (aA.1 hi).1
    have hb':=aB (l:=hout) (i:=i) (by omega)
    rw [KL (b:=(hout[i]'(by omega)).map (tW L h.length hin.length)) hnd hi (by simp [hiL,hb']) hk] at hb
    simp only [Option.some.injEq] at hb;exact .inr ⟨i,_,hb',hb.symm,by simp [tW,hi],by rw [if_pos hk];exact (keep hiL hi).symm,.inl ⟨hiL,hi⟩⟩
   ·rw [zM _ _ _ hkL] at hb;exact .inl ⟨hk,hkL,hb⟩
  ·rw [aF (by rw [lJ];omega),lJ,bN,eK] at hb
   obtain ⟨b',h3,h4⟩:=fD.1 hb;refine .inr ⟨hin.length+(k-h.length),b',h3,h4.symm,?_,by rw [if_neg hk],.inr ⟨by omega,by omega⟩⟩
   unfold tW;rw [dA (by omega)]
   simp only;omega
 have mapg:∀ {θ:Nat→Nat} {b:AB},b.map θ≠.gone→b≠.gone:=fun hb e=>hb (by rw [e];rfl)
 refine ⟨by rw [mT];exact s.size,by rw [kN];exact s.defers.later l,xB s.size hd (fun t u hu=>(s.env t u hu).later l) (shift hy),?_,s.cm⟩
 refine ⟨fun k hk=>?_,fun k q hq=>?_,fun k b hb=>?_,fun k b q hb hg hq=>?_,fun k k' b b' q q' hb hb' hg hg' hq hq' e=>?_,hs.stab,s.hs.ext.trans hs.ext (fun b hb hlt=>hcM b hb),fun b hb=>hs.st0 b (s.hs.st0 b hb),fun b hb=>?_,?_,fun k hk=>?_,hs.glob⟩
 ·simp only [aD,lJ,aU,dK] at hk;rw [if_neg (by omega)]
  exact hs.dom _ (by omega)
 ·split at hq
  ·exact eC (s.hs.rng k q hq) hs.ext.size
  ·exact hs.rng _ q hq
 ·rcases get hb with ⟨h3,h4,h5⟩ | ⟨i,b',h3,rfl,h4,h5,h6⟩
  ·simp only [if_pos h3];by_cases hg:b = .gone
   ·subst hg;trivial
   ·exact RB.later l (fun b1 o1 hp=>same b1 (s.hs.rng k _ hp) (other h5 hg h4 hp)) (s.hs.blk k b h5)
  ·rw [h5];exact shiftB (hs.blk i b' h3)
 ·rcases get hb with ⟨h3,h4,h5⟩ | ⟨i,b',h3,rfl,h4,h5,h6⟩
  ·simp only [if_pos h3] at hq;obtain ⟨h7,h8⟩:=s.hs.live k b q h5 hg hq;refine ⟨h7,fun hs'=>?_⟩
   rcases hs.st1 _ hs' with h9 | h9
   ·exact h8 h9
   ·exact other h5 hg h4 hq h9
  ·rw [h5] at hq;obtain ⟨h7,h8⟩:=hs.live i b' q h3 (mapg hg) hq;exact ⟨hcM _ h7,h8⟩
 ·rcases get hb with ⟨h3,h4,h5⟩ | ⟨i,b1,h3,rfl,h4,h5,h6⟩ <;> rcases get hb' with ⟨h3',h4',h5'⟩ | ⟨i',b1',h3',rfl,h4',h5',h6'⟩
  ·simp only [if_pos h3] at hq;simp only [if_pos h3'] at hq';exact s.hs.inj k k' b b' q q' h5 h5' hg hg' hq hq' e
  ·simp only [if_pos h3] at hq;rw [h5'] at hq';have hl:=(hs.live i' b1' q' h3' (mapg hg') hq').1;rw [← e] at hl;exact absurd hl (other h5 hg h4 hq)
  ·simp only [if_pos h3'] at hq';rw [h5] at hq;have hl:=(hs.live i b1 q h3 (mapg hg) hq).1;rw [e] at hl;exact absurd hl (other h5' hg' h4' hq')
  ·rw [h5] at hq;rw [h5'] at hq';have:=hs.inj i i' b1 b1' q q' h3 h3' (mapg hg) (mapg hg') hq hq' e;subst this;rw [← h4,← h4']
 ·rcases hs.st1 b hb with hb' | hb'
  ·exact s.hs.st1 b hb'
  ·exact .inr (hcM b hb')
 ·simp only [aD,lJ];exact bL s.hs.mle (gZ _ _)
 ·have hlt:=eC hk s.hs.mle;simp only [if_pos hlt];exact s.hs.keep k hk
end
section
variable {P:Program}{env:eG}{h:Hp}
variable {d:Option Nat}{ty:TypeId}{pos:String}{af:Array Edge}{g:Option (Nat × Bool)}
theorem yE5 {ts:Array TypeId}{x y z u:Operand}{k:IntKind}{a b c e:Int}(hx:evu env x=some (.v (.int k a))) (hy:evu env y=some (.v (.int k b))) (hz:evu env z=some (.v (.int k c))) (hu:evu env u=some (.v (.int k e))) :
  bW P ⟨d,.call { callee:=.builtin .min,args:=#[x,y,z,u],argTypes:=ts },ty,pos,af,g⟩ env h 0 (fun _=>.v (.int k (min (min (min a b) c) e))) (fun _=>[]):=by
 refine iD fun ρ S ac w p=>⟨.int k (min (min (min a b) c) e),?_,lN _⟩;have h1:=rL (p.evu hx);have h2:=rL (p.evu hy);have h3:=rL (p.evu hz);have h4:=rL (p.evu hu);have m2:∀ a b:Int,(if b<a then b else a)=min a b:=fun a b=>by split <;> omega
 have e2:=fun (a b:Int)=>run_min_int2 (P:=P) (w:=w) #[] 0 k k a b;simp only [Builtin.min_,List.foldlM_cons,List.foldlM_nil] at e2;simp only [bind_pure] at e2;simp [execOp,resolve,invoke,builtin,h1,h2,h3,h4,Builtin.min_,e2,m2]
theorem yE6 {ts:Array TypeId}{x y z u:Operand}{k:IntKind}{a b c e:Int}(hx:evu env x=some (.v (.int k a))) (hy:evu env y=some (.v (.int k b))) (hz:evu env z=some (.v (.int k c))) (hu:evu env u=some (.v (.int k e))) :
  bW P ⟨d,.call { callee:=.builtin .max,args:=#[x,y,z,u],argTypes:=ts },ty,pos,af,g⟩ env h 0 (fun _=>.v (.int k (max (max (max a b) c) e))) (fun _=>[]):=by
 refine iD fun ρ S ac w p=>⟨.int k (max (max (max a b) c) e),?_,lN _⟩;have h1:=rL (p.evu hx);have h2:=rL (p.evu hy);have h3:=rL (p.evu hz);have h4:=rL (p.evu hu);have m2:∀ a b:Int,(if a<b then b else a)=max a b:=fun a b=>by split <;> omega
 have e2:=fun (a b:Int)=>run_max_int2 (P:=P) (w:=w) #[] 0 k k a b;simp only [Builtin.max_,List.foldlM_cons,List.foldlM_nil] at e2;simp only [bind_pure] at e2;simp [execOp,resolve,invoke,builtin,h1,h2,h3,h4,Builtin.max_,e2,m2]
end
section
variable {P:Program}{n:Nat × Nat}{ops:Array Oper}{env:eG}{h:Hp}{Q:Exit→eG→Hp→Prop}{code:Code}
end
theorem bB (θ:Nat→Nat):∀ {es:List (List AV)},(∀ e,e∈es→AV.idfL e=true)→es.map (AV.mapL θ)=es
 | [],_=>rfl
 | e::es,h=>by simp only [List.map_cons];rw [tT θ e (h e (by simp)),bB θ fun q hq=>h q (by simp [hq])]
theorem aC {h:Hp}{i sz:Nat}{θ:Nat→Nat}{es es':List (List AV)}(hk:h[i]? = some (.arr es' sz)) (he:es'=es) (hi:∀ e,e∈es→AV.idfL e=true):h[i]? = some ((AB.arr es sz).map θ):=by
 subst he;rw [hk];simp only [AB.map,bB θ hi]
theorem nJ {h:Hp}{k i off sz:Nat}{es:List (List AV)}{c xs:List AV}(hk:h[k]? = some (.arr es sz)) (hc:es[i]? = some c) (hl:Nat.ble (off+xs.length) sz=true):upd h (.ep k i off sz) xs=some (h.set k (.arr (es.set i (kR c off xs)) sz)):=by
 simp only [upd,hk,hc,fN,hl]
theorem bX {h:Hp}{k i off sz:Nat}{es:List (List AV)}{c:List AV}(hk:h[k]? = some (.arr es sz)) (hc:es[i]? = some c):kU h (.ep k i off sz)=some (c,off):=by
 simp only [kU,hk,hc,fN]
theorem BV {P:Program}{n:Nat × Nat}{env:eG}{h:Hp}{K:eG→Hp→Prop}{ops:Array Oper}{env':eG}{h':Hp}(he:(env,h)=(env',h')) (hk:K env' h'):VC P n ops [] env h K:=by
 cases he;exact iI hk
theorem nZ {P:Program}{n:Nat × Nat}{env:eG}{h:Hp}{K:eG→Hp→Prop}{ops:Array Oper}{env':eG}{h':Hp}(hk:K env' h') (he:(env,h)=(env',h'):=by first|(dsimp only [List.nil_append,List.cons_append,List.append_nil,List.length_cons,List.length_nil,List.set_cons_zero,List.set_cons_succ,List.map_cons,List.map_nil,kR,nE,mR,tA,ND,D6,AF,AD,AC,AE,D5,D8,D4,D7,Nat.zero_add,Nat.add_zero,Nat.reduceAdd,Bool.not_true,Bool.not_false];first|done | exact rfl)|exact rfl):VC P n ops [] env h K:=BV he hk
theorem iA {P:Program}{n:Nat × Nat}{env:eG}{h:Hp}{Q:Exit→eG→Hp→Prop}(id:Nat){d1 d2 d3:Nat}{t t2 t3 t4 t5:TypeId}{x y y2:Operand}{a b:Int}{p1 p2 p3:String}{f1 f2 f3:Array Edge}(hx:evu env x=some (.i a)) (h1:evu ((d1,.i a)::env) y=some (.i a)) (h2:evu ((d1,.i a)::env) y2=some (.i b)) (b1:-9223372036854775808≤a+b) (b2:a+b≤9223372036854775807)
  (hk:VC P n [⟨some d1,.move x,t3,p1,f1,none⟩,⟨some d2,.binOp .add t y y2 t2,t4,p2,f2,none⟩,⟨some d3,.assign (.tmp d2),t5,p3,f3,none⟩].toArray [] ((d3,.i (a+b))::(d2,.i (a+b))::(d1,.i a)::env) h (fun v h=>Q .normal v h)) (hz:evu ((d2,.i (a+b))::(d1,.i a)::env) (.tmp d2)=some (.i (a+b)):=by rfl) (e1:Nat.blt d1 n.1=true:=by rfl) (e2:Nat.blt d2 n.1=true:=by rfl) (e3:Nat.blt d3 n.1=true:=by rfl) :
  AW P n (.region id [⟨some d1,.move x,t3,p1,f1,none⟩,⟨some d2,.binOp .add t y y2 t2,t4,p2,f2,none⟩,⟨some d3,.assign (.tmp d2),t5,p3,f3,none⟩].toArray false) env h Q:=
 rg id (mV (vV (cK h1 h2 b1 b2) (aV hk hz e3) e2) hx e1)
def fC (L:Nat→Bool):List (Nat × Nat)→List AB→Hp→Hp
 | (s,k)::r,b::bs,h=>fC L r bs (match L s with | true=>h.set k b | false=>h)
 | _,_,h=>h
def BJ (pre bef:Nat→Bool):List (Nat × Nat)→List AB→Hp→Hp
 | (s,k)::r,b::bs,h=>BJ pre bef r bs (match pre s with | true=>h.set k b | false=>match bef s with | true=>h | false=>h.set k .gone)
 | (s,k)::r,[],h=>BJ pre bef r [] (match bef s with | true=>h | false=>h.set k .gone)
 | [],_,h=>h
def seeH (pres:List (List Nat)) (i:Nat) (pre:List Nat) (ss:List (Nat × Nat)) (bs:List AB) (h:Hp):Hp:=
 BJ (fun s=>pre.any (Nat.beq s)) (fun s=>Nat.beq s i||(pres.getD s []).any (Nat.beq i)) ss bs h
def RZ (pres:List (List Nat)):List (Nat × Nat)→Bool
 | []=>true
 | (s,k)::r=>(r.all fun x=>!Nat.beq x.1 s&&(!Nat.beq x.2 k||(pres.getD x.1 []).any (Nat.beq s)))&&RZ pres r
theorem oW (L:Nat→Bool):∀ (ss:List (Nat × Nat)) (bs:List AB) (h:Hp),(fC L ss bs h).length=h.length
 | [],_,_=>rfl
 | _::_,[],_=>rfl
 | (s,k)::r,b::bs,h=>by
  simp only [fC];rw [oW L r bs];cases L s <;> simp
theorem vK (pre bef:Nat→Bool):∀ (ss:List (Nat × Nat)) (bs:List AB) (h:Hp),(BJ pre bef ss bs h).length=h.length
 | [],_,_=>rfl
 | (s,k)::r,[],h=>by simp only [BJ];rw [vK pre bef r []];cases bef s <;> simp
 | (s,k)::r,b::bs,h=>by
  simp only [BJ];rw [vK pre bef r bs];cases pre s <;> cases bef s <;> simp
theorem pH {L L':Nat→Bool}:∀ (ss:List (Nat × Nat)) (bs:List AB) (h:Hp),(∀ x,x∈ss→L x.1=L' x.1)→fC L ss bs h=fC L' ss bs h
 | [],_,_,_=>rfl
 | _::_,[],_,_=>rfl
 | (s,k)::r,b::bs,h,hx=>by
  simp only [fC];rw [hx (s,k) aR,pH r bs _ (fun x h=>hx x (aH _ h))]
theorem XR {h1 h2:Hp}(hl:h1.length=h2.length) (hb:∀ (j:Nat) b,h1[j]? = some b→b≠.gone→h2[j]? = some b) (k:Nat) (b':AB):∀ (j:Nat) b,(h1.set k b')[j]? = some b→b≠.gone→(h2.set k b')[j]? = some b:=by
 intro j b hj hg;rw [iC] at hj ⊢;rw [← hl];split
 ·rename_i e;rw [if_pos e] at hj;exact hj
 ·rename_i e;rw [if_neg e] at hj;exact hb j b hj hg
theorem TM {h1 h2:Hp}(hb:∀ (j:Nat) b,h1[j]? = some b→b≠.gone→h2[j]? = some b) (k:Nat):∀ (j:Nat) b,(h1.set k .gone)[j]? = some b→b≠.gone→j≠k∧h2[j]? = some b:=by
 intro j b hj hg;rw [iC] at hj;split at hj
 ·split at hj
  ·cases hj;exact absurd rfl hg
  ·cases hj
 ·rename_i e;exact ⟨fun e'=>e e'.symm,hb j b hj hg⟩
theorem W6 {L pre bef:Nat→Bool}:∀ (ss:List (Nat × Nat)) (bs:List AB) (h1 h2:Hp),bs.length=ss.length→h1.length=h2.length→(∀ (j:Nat) b,h1[j]? = some b→b≠.gone→h2[j]? = some b) →
  (∀ x,x∈ss→pre x.1=true→L x.1=true)→(∀ x,x∈ss→pre x.1=false→bef x.1=true→L x.1=false)→∀ (j:Nat) b,(BJ pre bef ss bs h1)[j]? = some b→b≠.gone→(fC L ss bs h2)[j]? = some b
 | [],_,_,_,_,_,hb,_,_=>hb
 | _::_,[],_,_,hl,_,_,_,_=>by simp at hl
 | (s,k)::r,b'::bs,h1,h2,hl,hl2,hb,hp,hn=>by
  simp only [BJ,fC];have h3:=hp (s,k) aR;have h4:=hn (s,k) aR;simp only at h3 h4;refine W6 r bs _ _ (by simpa using hl) ?_ ?_ (fun x hx=>hp x (aH _ hx)) (fun x hx=>hn x (aH _ hx))
  ·cases pre s <;> cases bef s <;> cases L s <;> simpa using hl2
  ·cases hps:pre s with
   | true=>
    rw [h3 hps];exact XR hl2 hb k b'
   | false=>
    cases hbs:bef s with
    | true=>rw [h4 hps hbs];exact hb
    | false=>
     intro j b hj hg;obtain ⟨h5,h6⟩:=TM hb k j b hj hg;cases L s with
     | true=>simp only;rw [iN (fun e=>h5 e.symm)];exact h6
     | false=>exact h6
theorem DF {pre bef:Nat→Bool}:∀ (ss:List (Nat × Nat)) (don mb:List AB) (h:Hp),(∀ x,x∈ss.drop don.length→pre x.1=false)→BJ pre bef ss (don++mb) h=BJ pre bef ss don h
 | [],_,_,_,_=>rfl
 | (s,k)::r,[],[],h,_=>by simp only [List.append_nil]
 | (s,k)::r,[],b::mb,h,hx=>by
  have h1:=hx (s,k) aR;have h2:=DF (pre:=pre) (bef:=bef) r [] mb (match bef s with | true=>h | false=>h.set k .gone) (fun x hx'=>hx x (by simpa using aH _ hx'))
  simp only at h1;simp only [List.nil_append,BJ,h1] at h2 ⊢;exact h2
 | (s,k)::r,b::don,mb,h,hx=>by
  simp only [List.cons_append,BJ];exact DF r don mb _ (fun x hx'=>hx x (by simpa using hx'))
theorem FO {L:Nat→Bool}:∀ (ss:List (Nat × Nat)) (bs:List AB) (h:Hp) (k:Nat) (b:AB),(∀ x,x∈ss→L x.1=true→x.2≠k)→fC L ss bs (h.set k b)=(fC L ss bs h).set k b
 | [],_,_,_,_,_=>rfl
 | _::_,[],_,_,_,_=>rfl
 | (s,k')::r,b'::bs,h,k,b,hx=>by
  simp only [fC];have h1:=hx (s,k') aR;simp only at h1;rw [← FO r bs _ k b (fun x h=>hx x (aH _ h))];cases hL:L s with
  | true=>simp only;rw [List.set_comm _ _ (fun e=>h1 hL e.symm)]
  | false=>rfl
theorem O0 {pres:List (List Nat)}{L L':Nat→Bool}{s k:Nat}{b:AB}:∀ (ss:List (Nat × Nat)) (bs:List AB) (h:Hp) (m:Nat),RZ pres ss=true→ss[m]? = some (s,k)→bs[m]? = some b→L s=false→(∀ j,L' j=(L j||Nat.beq j s)) →
  (∀ x,x∈ss→L x.1=true→∀ j,j∈pres.getD x.1 []→L j=true)→fC L' ss bs h=(fC L ss bs h).set k b
 | [],_,_,m,_,hs,_,_,_,_=>by simp at hs
 | _::_,[],_,m,_,_,hb,_,_,_=>by simp at hb
 | (s0,k0)::r,b0::bs,h,m,hok,hs,hb,hL,hL',hcl=>by
  simp only [RZ,aN,bJ] at hok;obtain ⟨h1,h2⟩:=hok;simp only [fC];cases m with
  | zero=>
   simp only [eF,Option.some.injEq,Prod.mk.injEq] at hs hb;obtain ⟨rfl,rfl⟩:=hs;subst hb;rw [hL,hL',fN,zE];simp only
   rw [pH (L:=L') (L':=L) r bs _ (fun x hx=>by
    have:=(h1 x hx).1
    rw [hL',show Nat.beq x.1 s0=false from by simpa using this,lC])]
   refine FO r bs h k0 b0 fun x hx hLx e=>?_
   rcases jB.1 (h1 x hx).2 with h3 | h3
   ·rw [e,fN] at h3;cases h3
   ·have:=hcl x (aH _ hx) hLx s0 (pI.1 h3);rw [hL] at this;cases this
  | succ m=>
   simp only [kW] at hs hb;have hne:s0≠s:=fun e=>by
    have:=(h1 (s,k) (aQ hs)).1;rw [e] at this;simp at this
   have e1:L' s0=L s0:=by
    rw [hL',show Nat.beq s0 s=false from by rw [← fA];intro hb';exact hne (aS hb'),lC]
   rw [e1];exact O0 r bs _ m h2 hs hb hL hL' (fun x hx=>hcl x (aH _ hx))
theorem NW {L L':Nat→Bool}:∀ (l:List nS) (i:Nat),(∀ (j:Nat) f,l[j]? = some f→L (i+j)=L' (i+j)∨f.new=[])→kQ L i l=kQ L' i l
 | [],_,_=>rfl
 | f::r,i,hx=>by
  simp only [kQ];rw [NW (L:=L) (L':=L') r (i+1) (fun j g hg=>by rw [eE,rI 1 j];exact hx (j+1) g (by simpa using hg))]
  rcases hx 0 f rfl with h1 | h1
  ·rw [Nat.add_zero] at h1;rw [h1]
  ·rw [h1];cases L i <;> cases L' i <;> rfl
def BB (P:Program) (o:Oper) (env:eG) (h:Hp) (k:Nat) (nb:AB):Prop:=
 ∀ c ρ S a w H,HS c ρ S H w→GM ρ S env h a w→(∀ (j:Nat) b,h[j]? = some b→b≠.gone→H[j]? = some b)→∀ (K:Act→World→Prop) Q,
  (∀ y w',HS c ρ S (H.set k nb) w'→iF ρ ρ S S w w'→K (a.put none y) w')→o.wp P a w K Q
theorem BB.more {P:Program}{o:Oper}{env env':eG}{h:Hp}{k:Nat}{nb:AB}(hs:BB P o env h k nb) (he:∀ t u,look env t=some u→look env' t=some u):BB P o env' h k nb:=
 fun c ρ S a w H g p=>hs c ρ S a w H g ⟨fun t u hu=>p.env t u (he t u hu),p.rng,p.blk,p.live,p.stab,p.glob⟩
def NB (h:Hp):AV→List AV→Option (Nat × AB)
 | .ptr k off,xs=>match h[k]? with
  | some (.cells cs)=>match Nat.ble (off+xs.length) cs.length with
   | true=>some (k,.cells (kR cs off xs))
   | false=>none
  | _=>none
 | .ep k i off sz,xs=>match h[k]? with
  | some (.arr es s)=>match Nat.beq s sz,es[i]?,Nat.ble (off+xs.length) sz with
   | true,some c,true=>some (k,.arr (es.set i (kR c off xs)) s)
   | _,_,_=>none
  | _=>none
 | _,_=>none
theorem zI {h:Hp}{k i off sz:Nat}{es:List (List AV)}{c xs:List AV}(hk:h[k]? = some (.arr es sz)) (hc:es[i]? = some c) (hl:Nat.ble (off+xs.length) sz=true):NB h (.ep k i off sz) xs=some (k,.arr (es.set i (kR c off xs)) sz):=by
 simp only [NB,hk,fN,hc,hl]
theorem NL {P:Program}{env:eG}{h:Hp}{pos:String}{ty:TypeId}{af:Array Edge}(T:pR P){t:Nat}{i:TI}{x y:Operand}{u v:AV}{xs:List AV}{k:Nat}{nb:AB}(hx:evu env x=some u) (hy:evu env y=some v) (ht:T.ti t=some i) (hv:v.cellsOf=some xs) (hl:xs.length=i.size) (h1:xs.all AV.one=true) (h0:0<i.size) (hu:NB h u xs=some (k,nb)) :
  BB P ⟨none,.store t x y,ty,pos,af,none⟩ env h k nb:=by
 intro c ρ S a w H g p hH K' Q hK';have hxv:=p.evu hx;have hyv:=xC (p.evu hy) hv;have hone:=CD hyv h1;have hlen:=fZ hyv;simp only [gG] at hlen;have run:∀ {b o:Nat} {cc:Array Value} {e:TypeId},a.eval x = .pointer (some ⟨b,o,none⟩)→w.heap[b]? = some (.cells cc e (0,0))→o+(a.eval y).cells.toList.length≤cc.size →
   (execOp a.eval ⟨none,.store t x y,ty,pos,af,none⟩).run P w = .ok .skip (w.setRow b (cc.toList.take o++(a.eval y).cells.toList++cc.toList.drop (o+(a.eval y).cells.toList.length)).toArray):=fun {b o cc e} he hc hle=>by
  have hst:=run_storeCells_at P b o e (a.eval y).cells.toList 0 cc w hc (by simpa using hle) hone
  simp only [Nat.add_zero] at hst;simp only [execOp,he,Instr.storeAt,Instr.sureAddr,storeVar,Sem.run_bind,Sem.run_pure,Result.andThen_ok,T.sizeOf ht];rw [if_neg (by simp;omega)]
  simp only [hst,Result.andThen_ok]
 have fin:∀ {k b o:Nat} {b0 nb:AB} {cc:Array Value} {e:TypeId} {off:Nat} {ys:List Value},(∀ y w',HS c ρ S (H.set k nb) w'→iF ρ ρ S S w w'→K' (a.put none y) w')→h[k]? = some b0→b0≠.gone→ρ k=some (b,o)→w.heap[b]? = some (.cells cc e (0,0))→(∀ (j:Nat) (y:Value),ys[j]? = some y→cc[o+j]? = some y)→off+(a.eval y).cells.toList.length≤ys.length→a.eval x = .pointer (some ⟨b,o+off,none⟩) →
   (∀ w',iF ρ ρ S S w w'→AS w' b o (kR ys off (a.eval y).cells.toList)→RB S w' ρ (some (b,o)) nb) →
   Oper.wp P ⟨none,.store t x y,ty,pos,af,none⟩ a w K' Q:=fun {k b o b0 nb cc e off ys} hK' e2 e3 e4 e5 e6 e7 e8 e9=>by
  obtain ⟨f1,f2,f3⟩:=AR e5 e6 e7 (by simp;omega)
  have hr:=run e8 e5 f1;unfold Oper.wp;rw [hr];obtain ⟨g1,g2⟩:=g.upd (hH _ _ e2 e3) e3 e4 (qU e5 f3) (fun l=>e9 _ l f2);exact hK' _ _ g1 g2
 cases u with
 | ptr k off=>
  simp only [NB] at hu;split at hu
  ·rename_i cs hk';split at hu
   ·rename_i hble;cases hu;have hle:=aI hble;simp only [R] at hxv;obtain ⟨b,o,hp,hev⟩:=hxv;have hb:=p.blk k _ hk';simp only [RB,hp] at hb;obtain ⟨b',o',ys,hq,⟨cc,e,hc,hcy⟩,hcs⟩:=hb;cases hq;have hyl:=fZ hcs;refine fin hK' hk' (by simp) hp hc hcy (by simp;omega) hev fun w' l hh=>?_
    simp only [RB];exact ⟨b,o,_,rfl,hh,Z8 (hcs.later l) (hyv.later l)⟩
   ·cases hu
  ·cases hu
 | ep k j off sz=>
  simp only [NB] at hu;split at hu
  ·rename_i es s' hk';split at hu
   ·rename_i cj hbeq hj hble;cases hu;have hsz:=aS hbeq;subst hsz;have hle:=aI hble;simp only [R] at hxv;obtain ⟨b,o,hp,hev⟩:=hxv;have hb:=p.blk k _ hk';simp only [RB,hp] at hb;obtain ⟨hes,hs0,hb⟩:=hb;rcases hb with hb | ⟨b',o',ys,hq,⟨cc,e,hc,hcy⟩,hcs⟩
    ·obtain ⟨hb,_⟩:=hb;subst hb;simp at hj
    cases hq;have hyl:=fZ hcs;have hjl:j<es.length:=(aA.1 hj).1;have hfl:=fP hes;have hjm:j*s'+s'≤es.length*s':=by
     calc j*s'+s'=(j+1)*s':=by rw [eQ]; omega
      _≤es.length*s':=fT _ hjl
    refine fin hK' hk' (by simp) hp hc hcy (off:=j*s'+off) (by simp;omega) hev fun w' l hh=>?_
    simp only [RB];have hput:=Z8 (off:=j*s'+off) (hcs.later l) (hyv.later l);rw [xJ hes hj (by omega)] at hput
    refine ⟨fun e1 he1=>?_,hs0,.inr ⟨b,o,_,rfl,hh,hput⟩⟩
    rcases gB he1 with h2 | h2
    ·exact hes e1 h2
    ·subst h2;rw [zR];exact hes _ (aQ hj)
   ·cases hu
  ·cases hu
 | _=>simp [NB] at hu
theorem xF.store {P:Program}{n:Nat × Nat}{c:pS}{env:eG}{h h':Hp}{all:List nS}{L L':Nat→Bool}{ρ:Pl}{S:Nat→Prop}{a:Act}{w w':World}{i:Nat}{y:Value}(s:xF P n c env h all L ρ S a w)
  (hf:all[i]? = some ⟨none,.v undef,[]⟩) (hL:∀ j,L' j=(L j||Nat.beq j i)) (hh:HS c ρ S (h'++kQ L 0 all) w') (hl:h'.length=h.length) (l:iF ρ ρ S S w w'):xF P n c env h' all L' ρ S (a.put none y) w':=by
 have old:∀ j,L' j=false→L j=false:=fun j hj=>by rw [hL] at hj;exact (pC.1 hj).1
 refine ⟨s.size,s.defers.later l,s.cm,fun t x hx=>(s.env0 t x hx).later l,fun j g t hg hj ht=>?_,?_,fun j g hg hj k hk=>by rw [hl];exact s.undone j g hg (old j hj) k hk⟩
 ·by_cases hji:j=i
  ·subst hji;rw [hf] at hg;cases hg;cases ht
  ·have hjL:L j=true:=by
    rw [hL] at hj;rcases jB.1 hj with hj | hj
    ·exact hj
    ·exact absurd (aS hj) hji
   exact (s.done j g t hg hjL ht).later l
 ·rwa [NW (L:=L') (L':=L) all 0 (fun j g hg=>by
   rw [Nat.zero_add];by_cases hji:j=i
   ·subst hji;rw [hf] at hg;cases hg;exact .inr rfl
   ·left;rw [hL,show Nat.beq j i=false from by rw [← fA];intro hb;exact hji (aS hb),lC])]
def xB1 (P:Program) (n:Nat × Nat) (ops:Array Oper) (pres:List (List Nat)) (ss:List (Nat × Nat)) (ds:List Nat) (env:eG) (h:Hp) (effs:List nS) (don:List AB) (K:eG→Hp→Prop):Prop:=
 ∃ more mb,(effs++more).length=pres.length∧(don++mb).length=ss.length∧jS (effs++more)=ds ∧
  (∀ i f pre,effs.length≤i→(effs++more)[i]? = some f→pres[i]? = some pre →
   ((∀ x,x∈ss→x.1≠i)∧JP P ops i (B4 env ((effs++more).take i) pre) (seeH pres i pre ss (don++mb) h++kQ (fun j=>pre.any (Nat.beq j)) 0 ((effs++more).take i)) f) ∨
   (∃ (m k:Nat) (b:AB) (o:Oper),ss[m]? = some (i,k)∧(don++mb)[m]? = some b∧f=⟨none,.v undef,[]⟩∧ops[i]? = some o∧o.guard=none∧k<h.length∧BB P o (B4 env ((effs++more).take i) pre) (seeH pres i pre ss (don++mb) h++kQ (fun j=>pre.any (Nat.beq j)) 0 ((effs++more).take i)) k b)) ∧
  VC P n ops (ops.toList.drop pres.length) (B4 env (effs++more) (List.range pres.length)) (fC (fun _=>true) ss (don++mb) h++kQ (fun _=>true) 0 (effs++more)) K
theorem zR8 {P:Program}{n:Nat × Nat}{env:eG}{h:Hp}{Q:Exit→eG→Hp→Prop}{id:Nat}{l:List Oper}(pres:List (List Nat)) (ds:List Nat) (ss:List (Nat × Nat)) (hm:P.follows .mixedOrders=true) (hok:vM l.toArray pres=true) (hss:RZ pres ss=true) (hssl:(ss.all fun x=>Nat.blt x.1 pres.length)=true) (hnd:ds.Nodup) (hds:(ds.all fun d=>Nat.blt d n.1)=true) (hsz:Nat.ble pres.length l.length=true)
  (hv:xB1 P n l.toArray pres ss ds (eP ds env) h [] [] (fun v h=>Q .normal v h)) (hndf:nW l=true:=by rfl):AW P n (.region id l.toArray true) env h Q:=by
 intro c ρ S a w QX s hX;refine pX hm hndf ?_;have hQ:∀ (env':eG) (h':Hp) ρ' S' a' w',Q .normal env' h'→qL n c ρ' S' env' h' a' w'→(fun e a w=>e=Exit.normal∧QX Exit.normal a w) Exit.normal a' w':=fun env' h' ρ' S' a' w' k s'=>⟨rfl,hX .normal env' h' ρ' S' a' w' k s'⟩
 generalize (fun e a w=>e=Exit.normal∧QX Exit.normal a w)=QQ at hQ ⊢;obtain ⟨all,bs,h1,hbl,h2,h3,h4⟩:=hv;simp only [List.nil_append,List.length_nil,bZ,true_implies] at h1 hbl h2 h3 h4;have hAT:∀ L:Nat→Bool,(∀ j,j<pres.length→L j=true)→fC L ss bs h=fC (fun _=>true) ss bs h:=fun L hL=>pH ss bs h fun x hx=>hL x.1 (by have:=bJ.1 hssl x hx;exact aI this)
 have hple:pres.length≤l.toArray.size:=by simpa using aI hsz
 have henv:∀ t x,look (eP ds env) t=some x→look env t=some x∧t∉jS all:=fun t x hx=>by rw [h2];exact lA hx
 -- the first operations,in whatever order
 have key:∀ (fuel:Nat) (listed:Array Bool) (U:List Nat) (ρ:Pl) (S:Nat→Prop) (a:Act) (w:World),listed.size=l.toArray.size→(∀ j,j<l.toArray.size→listed.getD j false=false→j∈U)→U.length≤fuel→(∀ j,pres.length≤j→listed.getD j false=false) →
   (∀ (i:Nat) o,l.toArray[i]? = some o→listed.getD i false=true→∀ e,e∈o.after→Region.binds .any e=true→listed.getD e.on false=true) →
   xF P n c (eP ds env) (fC (fun j=>listed.getD j false) ss bs h) all (fun j=>listed.getD j false) ρ S a w→wpAny P .any l.toArray QQ fuel listed a w:=by
  intro fuel
  induction fuel with
  | zero=>
   intro listed U ρ S a w hls hU hUl htail hcl st;have hU0:U=[]:=cJ (by omega)
   subst hU0;have hall:∀ j,j<l.toArray.size→listed.getD j false=true:=fun j hj=>by
    cases hb:listed.getD j false with
    | true=>rfl
    | false=>exact absurd (hU j hj hb) (by simp)
   have hpm:pres.length=l.toArray.size:=by
    rcases jO pres.length l.toArray.size with h5 | h5
    ·have:=htail pres.length (aX _);rw [hall _ h5] at this;cases this
    ·omega
   refine sQ (k:=pres.length) (r:=0) hok _ _ a w (by omega) (aX _) (aX _) hls (fun j hj=>?_) (h4 c ρ S a w QQ ?_ fun env' h' ρ' S' a' w' k s'=>hQ env' h' ρ' S' a' w' k s')
   ·rw [hall j hj];simp;omega
   ·refine ⟨st.size,st.defers,fun t x hx=>?_,?_,st.cm⟩
    ·rcases nT hx with hx | ⟨j,f,h5,h6,h7,rfl⟩
     ·exact st.env0 t x hx
     ·exact st.done j f t h6 (hall j (by have:=(aA.1 h6).1;omega)) h7
    ·have:=st.hs
     rwa [mX (L:=fun j=>listed.getD j false) (L':=fun _=>true) all 0 (fun j _ hj=>hall j (by omega)),hAT _ (fun j hj=>hall j (by omega))] at this
  | succ fuel ih=>
   intro listed U ρ S a w hls hU hUl htail hcl st;by_cases hfl:∀ j,j<pres.length→listed.getD j false=true
   ·-- all of the first ones have come up
    refine sQ (k:=pres.length) (r:=l.toArray.size-pres.length) hok _ _ a w (by omega) (aX _) ?_ hls (fun j hj=>?_) (h4 c ρ S a w QQ ?_ fun env' h' ρ' S' a' w' k s'=>hQ env' h' ρ' S' a' w' k s')
    ·have hsub:∀ j,j∈List.range' pres.length (l.toArray.size-pres.length)→j∈U:=fun j hj=>by
      rw [zV0] at hj;exact hU j (by omega) (htail j hj.1)
     have:=(zU9 (s:=pres.length) (n:=l.toArray.size-pres.length)).length_le_of_subset hsub;rw [zC0] at this;omega
    ·by_cases hj':j<pres.length
     ·rw [hfl j hj'];simp [hj']
     ·rw [htail j (by omega)];simp;omega
    ·refine ⟨st.size,st.defers,fun t x hx=>?_,?_,st.cm⟩
     ·rcases nT hx with hx | ⟨j,f,h5,h6,h7,rfl⟩
      ·exact st.env0 t x hx
      ·exact st.done j f t h6 (hfl j (by have:=(aA.1 h6).1;omega)) h7
     ·have:=st.hs
      rwa [mX (L:=fun j=>listed.getD j false) (L':=fun _=>true) all 0 (fun j _ hj=>hfl j (by omega)),hAT _ hfl] at this
   ·obtain ⟨j0,hj0,hjf⟩:∃ j,j<pres.length∧listed.getD j false=false:=by
     apply Classical.byContradiction;intro hc;apply hfl;intro j hj;cases hb:listed.getD j false with
     | true=>rfl
     | false=>exact absurd ⟨j,hj,hb⟩ hc
    -- something is ready
    have hex:Region.ready .any l.toArray listed≠[]:=by
     have gW:∃ j,j<pres.length∧listed.getD j false=false∧∀ k,k<j→listed.getD k false=true:=by
      have:∀ b j,j≤b→j<pres.length→listed.getD j false=false→∃ j,j<pres.length∧listed.getD j false=false∧∀ k,k<j→listed.getD k false=true:=by
       intro b
       induction b with
       | zero=>exact fun j hj h5 h6=>⟨j,h5,h6,fun k hk=>by omega⟩
       | succ b ihb=>
        intro j hj h5 h6;by_cases hk:∃ k,k<j∧listed.getD k false=false
        ·obtain ⟨k,hk1,hk2⟩:=hk;exact ihb k (by omega) (by omega) hk2
        ·refine ⟨j,h5,h6,fun k hk'=>?_⟩
         cases hb:listed.getD k false with
         | true=>rfl
         | false=>exact absurd ⟨k,hk',hb⟩ hk
      exact this j0 j0 (aX _) hj0 hjf
     obtain ⟨j,h5,h6,h7⟩:=gW;intro he;have hlt:j<l.toArray.size:=by omega
     have:j∈Region.ready .any l.toArray listed:=mem_ready.2 ⟨by
      have e:listed.getD j true=listed.getD j false:=by simp only [Array.getD,hls,hlt,dif_pos]
      rw [e,h6],_,dQ hlt,fun e he hb=>h7 _ (lU hok (dQ hlt) e he hb)⟩
     rw [he] at this;cases this
    refine ⟨fun h5=>absurd h5 hex,fun i hi=>?_⟩
    obtain ⟨g1,o,ho,hall⟩:=mem_ready.1 hi;have hil:i<l.toArray.size:=(aJ.1 ho).1;have g1':listed.getD i false=false:=by
     have e:listed.getD i true=listed.getD i false:=by simp only [Array.getD,hls,hil,dif_pos]
     rw [← e];exact g1
    have him:i<pres.length:=by
     rcases jO i pres.length with h5 | h5
     ·exact h5
     ·obtain ⟨e,he,hb,hon⟩:=wV hok ho h5 j0 (by omega)
      have:=hall e he hb;rw [hon,hjf] at this;cases this
    have hfi:all[i]? = some all[i]:=aB (by omega)
    obtain ⟨pre,hpre⟩:∃ pre,pres[i]? = some pre:=⟨_,aB him⟩
    -- its predecessors have come up
    have up:∀ (b k:Nat) (p:List Nat),k≤b→pres[k]? = some p→(k=i∨listed.getD k false=true)→∀ j,j∈p→listed.getD j false=true:=by
     intro b
     induction b with
     | zero=>
      intro k p hk hp _ j hj;obtain ⟨ok,hok1⟩:∃ o,l.toArray[k]? = some o:=⟨_,dQ (by have:=(aA.1 hp).1;omega)⟩
      have:=(qR hok hok1 hp j hj).1;omega
     | succ b ihb=>
      intro k p hk hp hki j hj;obtain ⟨ok,hok1⟩:∃ o,l.toArray[k]? = some o:=⟨_,dQ (by have:=(aA.1 hp).1;omega)⟩
      obtain ⟨_,e,he,hb,hor⟩:=qR hok hok1 hp j hj;have hle:listed.getD e.on false=true:=by
       rcases hki with rfl | hki
       ·rw [ho] at hok1;cases hok1;exact hall e he hb
       ·exact hcl k ok hok1 hki e he hb
      rcases hor with hor | hor
      ·rw [← hor];exact hle
      ·have hon:=lU hok hok1 e he hb;cases hpe:pres[e.on]? with
       | none=>rw [aE,hpe] at hor;simp at hor
       | some p'=>
        rw [aE,hpe] at hor;exact ihb e.on p' (by omega) hpe (.inr hle) j hor
    have hprel:∀ j,j∈pre→listed.getD j false=true:=up i i pre (aX _) hpre (.inl rfl);have hH0:(fC (fun j=>listed.getD j false) ss bs h).length=h.length:=oW _ _ _ _;have hhv:(seeH pres i pre ss bs h).length=h.length:=vK _ _ _ _ _;have hbel:∀ (k:Nat) b,(seeH pres i pre ss bs h)[k]? = some b→b≠.gone→(fC (fun j=>listed.getD j false) ss bs h)[k]? = some b:=by
     refine W6 ss bs h h hbl rfl (fun _ _ hb _=>hb) (fun x _ hp=>hprel _ (pI.1 hp)) (fun x hx _ hbf=>?_);cases hlx:listed.getD x.1 false with
     | false=>rfl
     | true=>
      rcases jB.1 hbf with h5 | h5
      ·rw [aS h5,g1'] at hlx;cases hlx
      ·cases hpx:pres[x.1]? with
       | none=>rw [aE,hpx] at h5;simp at h5
       | some px=>
        rw [aE,hpx] at h5;have:=up x.1 x.1 px (aX _) hpx (.inr hlx) i (pI.1 h5);rw [g1'] at this;cases this
    have hbel2:∀ (k:Nat) b,(seeH pres i pre ss bs h++kQ (fun j=>pre.any (Nat.beq j)) 0 (all.take i))[k]? = some b→b≠.gone→(fC (fun j=>listed.getD j false) ss bs h++kQ (fun j=>listed.getD j false) 0 all)[k]? = some b:=fun k b hb hgb=>by
     by_cases hk:k<h.length
     ·rw [aG (by omega)] at hb ⊢;exact hbel k b hb hgb
     ·rw [aF (by omega)] at hb ⊢
      rw [hhv] at hb;rw [hH0];have h5:=P7 (L':=fun j=>listed.getD j false) _ _ _ _ (fun j hj=>hprel j (pI.1 hj)) hb hgb;have h6:kQ (fun j=>listed.getD j false) 0 all=kQ (fun j=>listed.getD j false) 0 (all.take i)++kQ (fun j=>listed.getD j false) (0+(all.take i).length) (all.drop i):=by
       rw [← sT,bK]
      rw [h6,aG (aA.1 h5).1];exact h5
    have hpreP:GM ρ S (B4 (eP ds env) (all.take i) pre) (seeH pres i pre ss bs h++kQ (fun j=>pre.any (Nat.beq j)) 0 (all.take i)) a w:=by
     refine ⟨fun t x hx=>?_,st.hs.rng,fun k b hb=>?_,fun k b p hb hgb hp=>(st.hs.live k b p (hbel2 k b hb hgb) hgb hp).2,st.hs.stab,st.hs.glob⟩
     ·rcases nT hx with hx | ⟨j,f,h5,h6,h7,rfl⟩
      ·exact st.env0 t x hx
      ·rw [cE] at h6;split at h6
       ·exact st.done j f t h6 (hprel j h5) h7
       ·cases h6
     ·by_cases hgb:b = .gone
      ·subst hgb;trivial
      ·exact st.hs.blk k b (hbel2 k b hb hgb)
    have hposl:(seeH pres i pre ss bs h++kQ (fun j=>pre.any (Nat.beq j)) 0 (all.take i)).length=(fC (fun j=>listed.getD j false) ss bs h).length+nN (all.take i):=by rw [aD,nK,hhv,hH0]
    have hokd:GH all[i].d n=true:=by
     cases hdi:all[i].d with
     | none=>rfl
     | some d=>
      have:d∈ds:=by rw [← h2];exact kP.2 ⟨all[i],aO _,hdi⟩
      exact bJ.1 hds d this
    -- on,kU it
    have hget:∀ j,(listed.setIfInBounds i true).getD j false=(listed.getD j false||Nat.beq j i):=fun j=>by
     by_cases hij:i=j
     ·subst hij;rw [fN,zE];simp only [Array.getD,BU,hls,hil,dif_pos];simp
     ·rw [getD_set_ne false hij,show Nat.beq j i=false from by rw [← fA];intro hb;have:=aS hb;omega,lC]
    have onS:∀ ρ' S' a' w',xF P n c (eP ds env) (fC (fun j=>(listed.setIfInBounds i true).getD j false) ss bs h) all (fun j=>(listed.setIfInBounds i true).getD j false) ρ' S' a' w'→wpAny P .any l.toArray QQ fuel (listed.setIfInBounds i true) a' w':=fun ρ' S' a' w' st'=>by
     have hiU:i∈U:=hU i hil g1';refine ih (listed.setIfInBounds i true) (U.erase i) ρ' S' _ w' (by simpa using hls) (fun j hj hjl=>?_) (by rw [lR hiU];omega) (fun j hj=>?_) (fun k ok hok1 hkl e he hb=>?_) st'
     ·rw [hget] at hjl;obtain ⟨h5,h6⟩:=pC.1 hjl;have hne:j≠i:=fun e=>by rw [e,fN] at h6;cases h6
      exact (mI hne).2 (hU j hj h5)
     ·rw [hget,htail j hj,show Nat.beq j i=false from by rw [← fA];intro hb;have:=aS hb;omega];rfl
     ·rw [hget] at hkl ⊢;rcases jB.1 hkl with h5 | h5
      ·rw [hcl k ok hok1 h5 e he hb];rfl
      ·have:=aS h5;subst this;rw [ho] at hok1;cases hok1;rw [hall e he hb];rfl
    have yv:∀ {g t:Nat} {b:Bool},(l.toArray[g]?).bind (·.dst)=some t→look (B4 (eP ds env) (all.take i) pre) t=some (.b b)→yielded l.toArray a.tmps g=some b:=fun {g t b} h5 h6=>by
     have h7:=rL (hpreP.env t _ h6);unfold yielded;rw [h5];have:a.tmps[t]? = some (.bool b):=by
      rw [eA] at h7;cases h8:a.tmps[t]? with
      | none=>rw [h8] at h7;simp [undef] at h7
      | some v=>rw [h8] at h7;simp at h7;rw [h7]
     simp [this]
    have yvu:∀ {g t:Nat},(l.toArray[g]?).bind (·.dst)=some t→look (B4 (eP ds env) (all.take i) pre) t=some (.v undef)→yielded l.toArray a.tmps g=none:=fun {g t} h5 h6=>by
     have h7:=rL (hpreP.env t _ h6);unfold yielded;rw [h5];rw [eA] at h7;cases h8:a.tmps[t]? with
     | none=>simp [h8]
     | some v=>rw [h8] at h7;simp at h7;simp [h8,h7,undef]
    unfold wpOp;rw [ho];simp only;rcases h3 i all[i] pre hfi hpre with ⟨hns,o',ho',hd',hg⟩ | ⟨m,k,b,o',hm1,hm2,hf0,ho',hgu,hkl,hst⟩
    ·rw [ho] at ho';cases ho';have hsame:fC (fun j=>(listed.setIfInBounds i true).getD j false) ss bs h=fC (fun j=>listed.getD j false) ss bs h:=pH ss bs h fun x hx=>by
      rw [hget,show Nat.beq x.1 i=false from by rw [← fA];intro hb;exact hns x hx (aS hb),lC]
     have on:∀ y ρ' S' w',BQ ρ ρ' S S' w w' ((fC (fun j=>listed.getD j false) ss bs h).length+nN (all.take i)) all[i].new.length all[i].x all[i].new y→wpAny P .any l.toArray QQ fuel (listed.setIfInBounds i true) (a.put all[i].d y) w':=fun y ρ' S' w' p=>by
      have:=st.step (L':=fun j=>(listed.setIfInBounds i true).getD j false) hfi g1' hget p hokd (by rw [h2];exact hnd) (fun t x hx=>(henv t x hx).2) (by rw [hH0];exact s.hs.mle)
      rw [← hsame] at this;exact onS _ _ _ _ this
     rcases hg with ⟨x,new,hgu,hfs,hx,hn⟩ | ⟨g,want,t,hgu,h5,h6,hx,hn⟩
     ·have hw:Region.wanted o (yielded l.toArray a.tmps)=true:=by
       rcases hgu with hgu | ⟨g,want,t,hgu,h5,h6⟩
       ·exact oO hgu
       ·simp [Region.wanted,hgu,yv h5 h6]
      rw [if_pos hw];left;have:=hfs ρ S a w hpreP (seeH pres i pre ss bs h++kQ (fun j=>pre.any (Nat.beq j)) 0 (all.take i)).length (fun j hj=>by rw [hposl];exact st.undone i _ hfi g1' j hj)
      refine this (wpAny P .any l.toArray QQ fuel (listed.setIfInBounds i true)) QQ fun y ρ' S' w' p=>?_
      rw [hx,hn,hposl] at p;have:=on y ρ' S' w' p;rw [← hd'] at this;exact this
     ·have hw:Region.wanted o (yielded l.toArray a.tmps)=false:=by
       rcases h6 with h6 | h6
       ·simp [Region.wanted,hgu,yv h5 h6]
       ·simp [Region.wanted,hgu,yvu h5 h6]
      rw [if_neg (by rw [hw];exact oA)]
      have:=on undef ρ S w ⟨nD.refl _ _,rfl,fun _ _=>rfl,fun _ h=>h,fun _ h=>.inl h,fun k p hk1 hk2=>by rw [hn,List.length_nil] at hk2;omega,fun k k' p p' hk1 hk2=>by rw [hn,List.length_nil] at hk2;omega,by rw [hx];exact lN _,fun j b hb=>by rw [hn] at hb;simp at hb⟩
      rw [← hd'] at this;exact this
    ·rw [ho] at ho';cases ho';have hw:Region.wanted o (yielded l.toArray a.tmps)=true:=oO hgu;rw [if_pos hw];left;refine hst c ρ S a w _ st.hs hpreP hbel2 (wpAny P .any l.toArray QQ fuel (listed.setIfInBounds i true)) QQ fun y w' hh l'=>?_
     have hset:(fC (fun j=>listed.getD j false) ss bs h++kQ (fun j=>listed.getD j false) 0 all).set k b=fC (fun j=>(listed.setIfInBounds i true).getD j false) ss bs h++kQ (fun j=>listed.getD j false) 0 all:=by
      rw [RO _ _ (by rw [hH0];exact hkl),O0 (L:=fun j=>listed.getD j false) (L':=fun j=>(listed.setIfInBounds i true).getD j false) ss bs h m hss hm1 hm2 g1' hget (fun x hx hlx j hj=>?_)]
      cases hpx:pres[x.1]? with
      | none=>rw [aE,hpx] at hj;simp at hj
      | some px=>
       rw [aE,hpx] at hj;exact up x.1 x.1 px (aX _) hpx (.inr hlx) j hj
     rw [hset] at hh;exact onS _ _ _ _ (st.store (hfi.trans (by rw [hf0])) hget hh (by rw [oW,oW]) l')
 have hsize:l.toArray.size=l.length:=by simp
 have hrep:∀ j,(Array.replicate l.toArray.size false).getD j false=false:=fun j=>by
  simp only [Array.getD];split <;> simp
 refine key l.toArray.size _ (List.range l.toArray.size) ρ S a _ (by simp) (fun j hj _=>by simpa using hj) (by simp) (fun j _=>hrep j) (fun i o _ hi=>by rw [hrep] at hi;cases hi) ?_
 have hseg:∀ (r:List nS) (i:Nat),kQ (fun _=>false) i r=List.replicate (nN r) .gone:=by
  intro r
  induction r with
  | nil=>intro i;rfl
  | cons f r ih=>intro i;simp only [kQ,ih,nN,B3]
 have hL:(fun j=>(Array.replicate l.toArray.size false).getD j false)=fun _=>false:=funext hrep
 rw [hL,show fC (fun _=>false) ss bs h=h from ?_]
 rotate_left
 ·have:∀ (ss:List (Nat × Nat)) (bs:List AB) (h:Hp),fC (fun _=>false) ss bs h=h:=by
   intro ss
   induction ss with
   | nil=>intros;rfl
   | cons x r ihr=>
    intro bs h;cases bs with
    | nil=>rfl
    | cons b bs=>simp only [fC];exact ihr bs h
  exact this ss bs h
 have l0:iF ρ ρ S S w { w with drawn:=w.drawn+1 }:=⟨fun _ _ h=>h,fun _ h=>h,fun _ _=>rfl,fun _ _ _ _ _ h=>h⟩
 refine ⟨s.size,s.defers.later l0,s.cm,fun t x hx=>(s.env t x (lA hx).1).later l0,fun i f t _ hi=>(by cases hi),?_,fun i f _ _ j _=>s.hs.dom _ (by omega)⟩
 rw [hseg];have ext:nD c.M c.w0 { w with drawn:=w.drawn+1 }:=s.hs.ext.drew;have at_:∀ {k:Nat} {b:AB},(h++List.replicate (nN all) .gone)[k]? = some b→b≠.gone→h[k]? = some b:=fun {k b} hb hg=>by
  by_cases hk:k<h.length
  ·rwa [aG hk] at hb
  ·rw [aF (by omega),qG] at hb
   split at hb
   ·cases hb;exact absurd rfl hg
   ·cases hb
 refine ⟨fun k hk=>s.hs.dom k (by simp at hk;omega),s.hs.rng,fun k b hb=>?_,fun k b p hb hg hp=>s.hs.live k b p (at_ hb hg) hg hp,fun k k' b b' p p' hb hb' hg hg' hp hp' e=>s.hs.inj k k' b b' p p' (at_ hb hg) (at_ hb' hg') hg hg' hp hp' e,s.hs.stab,ext,s.hs.st0,s.hs.st1,by simp;exact bL s.hs.mle (gZ _ _),s.hs.keep,s.hs.glob.later l0⟩
 by_cases hg:b = .gone
 ·subst hg;trivial
 ·exact RB.later l0 (fun _ _ _=>rfl) (s.hs.blk k b (at_ hb hg))
def jU (ops:List Oper) (pres:List (List Nat)) (ds:List Nat) (bads:List (List Nat)) (ss:List (Nat × Nat)) (n:Nat):Bool:=
 mF ops pres ds bads n&&RZ pres ss&&ss.all fun x=>Nat.blt x.1 pres.length
structure V0 (ops:List Oper) (ss:List (Nat × Nat)) (env:eG) (i:Nat) (cur:eG) (objs:List (Nat × Hp)) (don:List AB) (effs:List nS):Prop where
 g:K7 ops env i cur objs effs
 later:∀ x,x∈ss.drop don.length→i≤x.1
def yU5 (P:Program) (n:Nat × Nat) (ops:List Oper) (pres:List (List Nat)) (ds:List Nat) (bads:List (List Nat)) (ss:List (Nat × Nat)) (env:eG) (h:Hp) (i:Nat) (cur:eG) (objs:List (Nat × Hp)) (don:List AB) (K:eG→Hp→Prop):Prop:=
 jU ops pres ds bads ss n.1=true→(∀ t,t∈ds→look env t=none)→∀ effs,V0 ops ss env i cur objs don effs→xB1 P n ops.toArray pres ss ds env h effs don K
section
variable {P:Program}{n:Nat × Nat}{ops:List Oper}{pres:List (List Nat)}{ds:List Nat}{bads:List (List Nat)}{ss:List (Nat × Nat)}{env:eG}{h:Hp}{K:eG→Hp→Prop}{pre bad:List Nat}
theorem zS1 {Q:Exit→eG→Hp→Prop}{id:Nat}{l:List Oper}(pres:List (List Nat)) (ds:List Nat) (bads:List (List Nat)) (ss:List (Nat × Nat)) (hm:P.follows .mixedOrders=true) (hok:jU l pres ds bads ss n.1=true)
  (hv:yU5 P n l pres ds bads ss (eP ds env) h 0 (eP ds env) [] [] (fun v h=>Q .normal v h)) (hndf:nW l=true:=by rfl):AW P n (.region id l.toArray true) env h Q:=by
 have hok':=hok;simp only [jU,mF,aN,decide_eq_true_eq] at hok';obtain ⟨⟨⟨⟨⟨⟨⟨h1,h2⟩,h3⟩,h4⟩,h5⟩,h6⟩,h7⟩,h8⟩:=hok';refine zR8 pres ds ss hm h1 h7 h8 h2 h3 h4 (hv hok (fun t ht=>?_) [] ⟨⟨rfl,rfl,rfl,fun j f hf=>by simp at hf⟩,fun x _=>bZ _⟩) hndf
 cases hl:look (eP ds env) t with
 | none=>rfl
 | some x=>exact absurd ht (lA hl).2
variable {op:Op}{ty:TypeId}{pos:String}{af:Array Edge}{d:Option Nat}{i:Nat}{cur:eG}{objs:List (Nat × Hp)}{don:List AB}
theorem V0.seeH {effs:List nS}(hok:jU ops pres ds bads ss n.1=true) (hi:i<ops.length) (g:V0 ops ss env i cur objs don effs) (hp:pres[i]? = some pre) (mb:List AB):seeH pres i pre ss (don++mb) h=seeH pres i pre ss don h:=by
 refine DF ss don mb h fun x hx=>?_
 rw [← fA];intro hb;simp only [jU,mF,aN] at hok;have h1:=(qR (ops:=ops.toArray) (i:=i) (o:=ops[i]) hok.1.1.1.1.1.1.1 (by simp [hi]) hp x.1 (pI.1 hb)).1
 have:=g.later x hx;omega
theorem zP8 {effs:List nS}{f:nS}(hok:jU ops pres ds bads ss n.1=true) (g:V0 ops ss env i cur objs don effs) (hp:pres[i]? = some pre) (hi:i<ops.length) (hns:(ss.all fun x=>!Nat.beq x.1 i)=true)
  (hg:JP P ops.toArray i (B4 env effs pre) (seeH pres i pre ss don h++mD pre objs) f) (hk:xB1 P n ops.toArray pres ss ds env h (effs++[f]) don K):xB1 P n ops.toArray pres ss ds env h effs don K:=by
 obtain ⟨more,mb,h1,h0,h2,h3,h4⟩:=hk;have e:effs++[f]++more=effs++(f::more):=by simp
 rw [e] at h1 h2 h3 h4;have hie:effs.length=i:=g.g.len;refine ⟨f::more,mb,h1,h0,h2,fun j q p hj hgj hpj=>?_,h4⟩
 by_cases hji:j=i
 ·subst hji;rw [hp] at hpj;cases hpj;rw [aF (by omega),hie,eI] at hgj
  simp at hgj;subst hgj;left;refine ⟨fun x hx hxe=>?_,?_⟩
  ·have:=bJ.1 hns x hx;rw [hxe,fN] at this;cases this
  ·rw [iW,bO (by omega),hie,eI,g.seeH hok hi hp mb]
   simp only [lH,List.append_nil];rw [lL,← g.g.objs];exact hg
 ·exact h3 j q p (by simp;omega) hgj hpj
theorem V0.next {effs:List nS}{f:nS}(g:V0 ops ss env i cur objs don effs){cur':eG}{objs':List (Nat × Hp)}(h:K7 ops env (i+1) cur' objs' (effs++[f])) (hns:(ss.all fun x=>!Nat.beq x.1 i)=true):V0 ops ss env (i+1) cur' objs' don (effs++[f]):=by
 refine ⟨h,fun x hx=>?_⟩
 have h1:=g.later x hx;have h2:=bJ.1 hns x (eB hx);have:x.1≠i:=fun e=>by rw [e,fN] at h2;cases h2
 omega
theorem T6 {k:Nat}(hok:jU ops pres ds bads ss k=true):mF ops pres ds bads k=true:=by
 simp only [jU,aN] at hok;exact hok.1.1
theorem dH {dd:Nat}{u:AV}(ho:ops[i]? = some ⟨some dd,op,ty,pos,af,none⟩) (hp:pres[i]? = some pre) (hb:bads[i]? = some bad) (hns:(ss.all fun x=>!Nat.beq x.1 i)=true) (hs:bW P ⟨some dd,op,ty,pos,af,none⟩ (eP bad cur) (seeH pres i pre ss don h++mD pre objs) 0 (fun _=>u) (fun _=>[]))
  (hk:yU5 P n ops pres ds bads ss env h (i+1) ((dd,u)::cur) objs don K):yU5 P n ops pres ds bads ss env h i cur objs don K:=by
 intro hok hen effs g;refine zP8 (f:=⟨some dd,u,[]⟩) hok g hp (aA.1 ho).1 hns ⟨_,by simpa using ho,rfl,.inl ⟨fun _=>u,fun _=>[],.inl rfl,hs.more (g.g.see (T6 hok) hp hb),rfl,rfl⟩⟩ (hk hok hen _ (g.next (g.g.snoc (f:=⟨some dd,u,[]⟩) ho rfl rfl) hns))
theorem A0 {k:Nat}{nb:AB}{t:TypeId}{x y:Operand}{j:TI}{u v:AV}{xs:List AV}(ho:ops[i]? = some ⟨none,.store t x y,ty,pos,af,none⟩) (hp:pres[i]? = some pre) (hb:bads[i]? = some bad) (hm:ss[don.length]? = some (i,k)) (hkl:k<h.length)
  (T:pR P) (hx:evu (eP bad cur) x=some u) (hy:evu (eP bad cur) y=some v) (ht:T.ti t=some j) (hv:v.cellsOf=some xs) (hl:xs.length=j.size) (h1:xs.all AV.one=true) (h0:0<j.size) (hu:NB (seeH pres i pre ss don h++mD pre objs) u xs=some (k,nb))
  (hk:yU5 P n ops pres ds bads ss env h (i+1) cur objs (don++[nb]) K):yU5 P n ops pres ds bads ss env h i cur objs don K:=by
 intro hok hen effs g;have hs:=NL (P:=P) (pos:=pos) (ty:=ty) (af:=af) T hx hy ht hv hl h1 h0 hu;have hi:=(aA.1 ho).1;have hgs:K7 ops env (i+1) cur objs (effs++[⟨none,.v undef,[]⟩]):=g.g.snoc (f:=⟨none,.v undef,[]⟩) ho rfl rfl;have hkk:=hk hok hen (effs++[⟨none,.v undef,[]⟩]) ⟨hgs,fun x hx=>?_⟩
 ·obtain ⟨more,mb,g1,g0,g2,g3,g4⟩:=hkk;have e:effs++[⟨none,.v undef,[]⟩]++more=effs++((⟨none,.v undef,[]⟩:nS)::more):=by simp
  have e':don++[nb]++mb=don++(nb::mb):=by simp
  rw [e] at g1 g2;rw [e'] at g0;simp only [e,e'] at g3 g4;have hie:effs.length=i:=g.g.len;refine ⟨_,_,g1,g0,g2,fun j' q p hj hgj hpj=>?_,g4⟩
  by_cases hji:j'=i
  ·subst hji;rw [hp] at hpj;cases hpj;rw [aF (by omega),hie,eI] at hgj
   simp at hgj;subst hgj;right;refine ⟨don.length,k,nb,_,hm,?_,rfl,by simpa using ho,rfl,hkl,?_⟩
   ·rw [aF (aX _),eI];rfl
   ·rw [iW,bO (by omega),hie,eI,g.seeH hok hi hp _]
    simp only [lH,List.append_nil];rw [lL,← g.g.objs];exact hs.more (g.g.see (T6 hok) hp hb)
  ·exact g3 j' q p (by simp;omega) hgj hpj
 ·have hok':=hok;simp only [jU,aN] at hok';have hls:don.length<ss.length:=(aA.1 hm).1;have e1:ss.drop don.length=(i,k)::ss.drop (don.length+1):=by
   rw [aP hls];have:=aB hls;rw [hm] at this;rw [Option.some.inj this]
  have hx':x∈ss.drop (don.length+1):=by simpa using hx
  have h5:=g.later x (by rw [e1];exact aH _ hx')
  have key:∀ (ss:List (Nat × Nat)) (m:Nat),RZ pres ss=true→ss[m]? = some (i,k)→∀ x,x∈ss.drop (m+1)→x.1≠i:=by
   intro ss
   induction ss with
   | nil=>intro m _ h;simp at h
   | cons y r ih=>
    intro m hok h x hx;obtain ⟨s,k'⟩:=y;simp only [RZ,aN,bJ] at hok;cases m with
    | zero=>
     simp only [eF,Option.some.injEq,Prod.mk.injEq] at h;intro e;have:=(hok.1 x (by simpa using hx)).1
     rw [e,h.1,fN] at this;cases this
    | succ m=>exact ih m hok.2 (by simpa using h) x (by simpa using hx)
  have:=key ss don.length hok'.1.2 hm x hx';omega
theorem uS (hi:pres.length=i) (hdl:don.length=ss.length){rest:List Oper}{h':Hp}(hr:ops.drop i=rest) (hh:fC (fun _=>true) ss don h++mR objs=h')
  (hk:VC P n ops.toArray rest cur h' K):yU5 P n ops pres ds bads ss env h i cur objs don K:=by
 intro hok hen effs gs;have g:=gs.g;have hok':=T6 hok;simp only [mF,aN,decide_eq_true_eq] at hok';obtain ⟨⟨⟨⟨⟨h1,h2⟩,h3⟩,h4⟩,h5⟩,h6⟩:=hok';have hds:jS effs=ds:=by
  rw [← h5];have hle:i≤ops.length:=by rw [← hi];exact aI h4
  unfold jS;have:effs.map (·.d)=(ops.take pres.length).map (·.dst):=by
   apply kD;intro j;simp only [bN,cE,hi];by_cases hj:j<i
   ·rw [if_pos hj];have hje:j<effs.length:=by rw [g.len];exact hj
    obtain ⟨o,ho,hod⟩:=g.dst j effs[j] (aB hje);rw [aB hje,ho];simp [hod]
   ·rw [if_neg hj,dA (by rw [g.len];omega)];rfl
  have e1:effs.filterMap (·.d)=(effs.map (·.d)).filterMap id:=by rw [rK];rfl
  have e2:(ops.take pres.length).filterMap (·.dst)=((ops.take pres.length).map (·.dst)).filterMap id:=by rw [rK];rfl
  rw [e1,e2,this]
 refine ⟨[],[],by rw [List.append_nil,g.len,hi],by rw [List.append_nil];exact hdl,by rw [List.append_nil];exact hds,fun j f pre hj hf _=>?_,?_⟩
 ·have:=(aA.1 hf).1;simp at this;omega
 rw [List.append_nil,List.append_nil];have el:effs.length=pres.length:=by rw [g.len,hi]
 rw [← el,G8,H6 0 effs.length (by omega),jJ,← T0,P6,← CH,el,hi]
 rw [I1 effs 0,← g.objs,← B0,hh];rw [show ops.toArray.toList.drop i=rest from by simpa using hr]
 refine hk.moreE fun t x hx=>?_
 rw [g.cur] at hx;exact Y9 (by have:jS effs=effs.filterMap (·.d):=rfl;rw [← this,hds];exact h2) hx
end
section
variable {P:Program}{env:eG}{h:Hp}
variable {d:Option Nat}{ty:TypeId}{pos:String}{af:Array Edge}{g:Option (Nat × Bool)}
theorem xA {t t2:TypeId}{x y:Operand}{k k':IntKind}{a b:Int}(hx:evu env x=some (.v (.int k a))) (hy:evu env y=some (.v (.int k' b))) (h0:0≤b) (h1:b.toNat≤k.bits) :
  bW P ⟨d,.binOp .shr t x y t2,ty,pos,af,g⟩ env h 0 (fun _=>.v (.int k (a / 2 ^ b.toNat))) (fun _=>[]):=by
 refine iD fun ρ S ac w p=>?_
 have h1':=rL (p.evu hx);have h2:=rL (p.evu hy);refine ⟨.int k (a / 2 ^ b.toNat),?_,lN _⟩;have hg:(eqGuard .shr t x y (.int k a) (.int k' b)).run P w = .ok () w:=rfl;have e:a.fdiv (2 ^ b.toNat)=a / 2 ^ b.toNat:=Int.fdiv_eq_ediv_of_nonneg _ (by exact Int.le_of_lt (Int.pow_pos (by omega)))
 simp [execOp,h1',h2,hg,binOp,Op.shift,zC3.2 h0,K5 h1,e]
theorem kT {fn:Fn}{l1 l2:List Operand}{us vs:List AV}(ha:C9 env l1=some us) (hb:C9 env l2=some vs):bW P ⟨d,.makeFunc fn l1.toArray l2.toArray,ty,pos,af,g⟩ env h 0 (fun _=>.clo fn us vs) (fun _=>[]):=by
 refine iD fun ρ S a w p=>⟨.func fn (l1.map a.eval).toArray (l2.map a.eval).toArray,?_,?_⟩
 ·simp [execOp,Instr.makeFunc]
 ·simp only [R];exact ⟨_,_,rfl,by simpa using uR p ha,by simpa using uR p hb⟩
theorem ZS {s t:TypeId}{x:Operand}{ks k kk:IntKind}{n:Int}(hs:P.underlying s=some (.int ks)) (ht:P.underlying t=some (.int k)) (hx:evu env x=some (.v (.int kk n))) (hn:k.wrap n=n) :
  bW P ⟨d,.convert s t x,ty,pos,af,g⟩ env h 0 (fun _=>.v (.int k n)) (fun _=>[]):=by
 refine iD fun ρ S a w p=>⟨.int k n,?_,lN _⟩
 have h1:=rL (p.evu hx);simp [execOp,h1,convert,run_underlying hs,run_underlying ht,Conv.intToInt,hn]
theorem ZM {n:Nat}{cs:List AV}{off:Nat}{zs:List AV}(hg:ZN cs off n=some zs):zs=(cs.drop off).take n:=by
 obtain ⟨h1,h2⟩:=ES hg;apply kD;intro j;rw [cE];by_cases hj:j<n
 ·rw [if_pos hj,eK,h2 j hj]
 ·rw [if_neg hj,dA (by omega)]
end
theorem MI {S:Nat→Prop}{w:World}{ρ:Pl}{z:AV}:∀ {cs:List AV}{ys:List Value}{i:Nat},RL S w cs ρ ys→(∀ y,ys[i]? = some y→R S w z ρ y)→RL S w (cs.set i z) ρ ys
 | [],ys,i,h,_=>by simpa using h
 | c::cs,ys,i,h,hz=>by
  simp only [RL] at h;obtain ⟨y,ys',rfl,h1,h2⟩:=h;cases i with
  | zero=>simp only [List.set_cons_zero,RL];exact ⟨y,ys',rfl,hz y rfl,h2⟩
  | succ i=>simp only [List.set_cons_succ,RL];exact ⟨y,ys',rfl,h1,MI h2 (fun y' hy'=>hz y' (by simpa using hy'))⟩
theorem HS.alter {c:pS}{ρ:Pl}{S:Nat→Prop}{h:Hp}{w:World}{k:Nat}{b0 b1:AB}(s:HS c ρ S h w) (hk:h[k]? = some b0) (hb:RB S w ρ (ρ k) b0→RB S w ρ (ρ k) b1) (hg:b0≠.gone):HS c ρ S (h.set k b1) w:=by
 have hlt:=(aA.1 hk).1;have get:∀ {j:Nat} {b:AB},(h.set k b1)[j]? = some b→(j=k∧b=b1)∨(j≠k∧h[j]? = some b):=fun {j b} hj=>by
  rw [iC] at hj;split at hj
  ·rename_i e;exact .inl ⟨e.symm,by simpa using hj.symm⟩
  ·rename_i e;exact .inr ⟨fun e'=>e e'.symm,hj⟩
 have old:∀ {j:Nat} {b:AB},(h.set k b1)[j]? = some b→b≠.gone→∃ b',h[j]? = some b'∧b'≠.gone:=fun {j b} hj hg'=>by
  rcases get hj with ⟨rfl,_⟩ | ⟨_,h2⟩
  ·exact ⟨b0,hk,hg⟩
  ·exact ⟨b,h2,hg'⟩
 refine ⟨fun j hj=>s.dom j (by simpa using hj),s.rng,fun j b hj=>?_,fun j b p hj hg' hp=>?_,fun j j' b b' p p' hj hj' hg1 hg2 hp hp' e=>?_,s.stab,s.ext,s.st0,s.st1,by simpa using s.mle,s.keep,s.glob⟩
 ·rcases get hj with ⟨rfl,rfl⟩ | ⟨_,h2⟩
  ·exact hb (s.blk _ _ hk)
  ·exact s.blk j b h2
 ·obtain ⟨b',h2,h3⟩:=old hj hg';exact s.live j b' p h2 h3 hp
 ·obtain ⟨b1',h2,h3⟩:=old hj hg1;obtain ⟨b2',h4,h5⟩:=old hj' hg2;exact s.inj j j' b1' b2' p p' h2 h4 h3 h5 hp hp' e
section
variable {P:Program}{n:Nat × Nat}{ops:Array Oper}{env:eG}{h:Hp}{K:eG→Hp→Prop}{rest:List Oper}{Q:Exit→eG→Hp→Prop}{code:Code}
theorem mQ (k j sz:Nat){cs:List AV}(hk:h[k]? = some (.cells cs)) (hj:cs[j]? = some .nils) (hs:0<sz) (hv:AW P n code env (h.set k (.cells (cs.set j (.sl h.length 0 0 sz)))++[.arr [] sz]) Q):AW P n code env h Q:=by
 intro c ρ S a w QQ s hQ;refine hv c ρ S a w QQ ⟨s.size,s.defers,s.env,?_,s.cm⟩ hQ
 have h1:=s.hs.alter (b1:=.cells (cs.set j (.sl h.length 0 0 sz))) hk (fun hb=>by
  simp only [RB] at hb ⊢;obtain ⟨b,o,ys,h2,h3,h4⟩:=hb;refine ⟨b,o,ys,h2,h3,MI h4 fun y hy=>?_⟩
  obtain ⟨y',h5,h6⟩:=sH h4 _ _ hj;rw [hy] at h5;cases h5;rw [rL h6];simp only [R]
  exact ⟨none,0,rfl,bZ _,.inl ⟨trivial,rfl⟩⟩) (by simp)
 have hd:=h1.dom h.length (by simp)
 generalize hh:h.set k (.cells (cs.set j (.sl h.length 0 0 sz)))=h' at h1 ⊢;have hl:h.length=h'.length:=by rw [← hh];simp
 rw [hl] at hd;have get:∀ {j:Nat} {b:AB},(h'++[.arr [] sz])[j]? = some b→h'[j]? = some b∨(j=h'.length∧b = .arr [] sz):=fun {j b} hj=>by
  by_cases hlt:j<h'.length
  ·rw [aG hlt] at hj;exact .inl hj
  ·have:=(aA.1 hj).1;simp at this;have e:j=h'.length:=by omega
   subst e;simp at hj;exact .inr ⟨rfl,hj.symm⟩
 refine ⟨fun k hk=>h1.dom k (by simp at hk;omega),h1.rng,fun k b hb=>?_,fun k b p hb hg hp=>?_,fun k k' b b' p p' hb hb' hg hg' hp hp' e=>?_,h1.stab,h1.ext,h1.st0,h1.st1,by simp;exact BE h1.mle,h1.keep,h1.glob⟩
 ·rcases get hb with hb | ⟨rfl,rfl⟩
  ·exact h1.blk k b hb
  ·simp only [RB];exact ⟨(fun e he=>by cases he),hs,.inl ⟨trivial,fun b o e=>by rw [hd] at e;cases e⟩⟩
 ·rcases get hb with hb | ⟨rfl,rfl⟩
  ·exact h1.live k b p hb hg hp
  ·rw [hd] at hp;cases hp
 ·rcases get hb with hb | ⟨rfl,rfl⟩
  ·rcases get hb' with hb' | ⟨rfl,rfl⟩
   ·exact h1.inj k k' b b' p p' hb hb' hg hg' hp hp' e
   ·rw [hd] at hp';cases hp'
  ·rw [hd] at hp;cases hp
end
section
variable {P:Program}{n:Nat × Nat}{env:eG}{h:Hp}
theorem cH {Q:Exit→eG→Hp→Prop}{id:Nat}{l:List Oper}(k:Nat) (pres:List (List Nat)) (ds:List Nat) (bads:List (List Nat)) (hm:P.follows .mixedOrders=true) (hn:n.1=k) (hok:mF l pres ds bads k=true)
  (hv:DW P n l pres ds bads (eP ds env) h 0 (eP ds env) [] (fun v h=>Q .normal v h)) (hndf:nW l=true:=by rfl):AW P n (.region id l.toArray true) env h Q:=QY pres ds bads hm (by rw [hn];exact hok) hv hndf
theorem pG {Q:Exit→eG→Hp→Prop}{id:Nat}{l:List Oper}(k:Nat) (pres:List (List Nat)) (ds:List Nat) (bads:List (List Nat)) (ss:List (Nat × Nat)) (hm:P.follows .mixedOrders=true) (hn:n.1=k) (hok:jU l pres ds bads ss k=true)
  (hv:yU5 P n l pres ds bads ss (eP ds env) h 0 (eP ds env) [] [] (fun v h=>Q .normal v h)) (hndf:nW l=true:=by rfl):AW P n (.region id l.toArray true) env h Q:=zS1 pres ds bads ss hm (by rw [hn];exact hok) hv hndf
end
theorem UR {S:Nat→Prop}{w:World}{ρ:Pl}{y:Value}{sz:Nat}(h:R S w .nils ρ y):R S w (.rowE [] sz) ρ y:=by
 rw [rL h];simp only [R];exact ⟨none,0,rfl,aX _,fun _=>rfl,by simp [maxLen],by simp,.inl rfl⟩
theorem JL {P:Program}{f:FuncId}{args args':List AV}{res:AV}{hin hout:Hp}(h:aM P f args hin res hout) (ha:∀ (S:Nat→Prop) w ρ ys,RL S w args' ρ ys→RL S w args ρ ys):aM P f args' hin res hout:=
 ⟨h.1,fun ρ S w vs hs hv=>h.2 ρ S w vs hs (ha S w ρ vs hv)⟩
theorem mH {S:Nat→Prop}{w:World}{ρ:Pl}{x x':AV}{xs xs':List AV}{ys:List Value}(h1:∀ y,R S w x' ρ y→R S w x ρ y) (h2:∀ ys,RL S w xs' ρ ys→RL S w xs ρ ys) (h:RL S w (x'::xs') ρ ys):RL S w (x::xs) ρ ys:=by
 simp only [RL] at h ⊢;obtain ⟨y,r,rfl,h3,h4⟩:=h;exact ⟨y,r,rfl,h1 y h3,h2 r h4⟩
end Go.Ab
namespace Go.Ab
open Go Go.MapKept
section
variable {P:Program}{env:eG}{h:Hp}
variable {d:Option Nat}{ty:TypeId}{pos:String}{af:Array Edge}{g:Option (Nat × Bool)}
theorem yE2 {o:Oper}{u:Nat→AV}{b:AB}(hrun:∀ ρ S a w,GM ρ S env h a w→∃ (ob:Obj) (y:Value),(execOp a.eval o).run P w = .ok (.value y) (w.alloc ob) ∧
      ∀ pos,ρ pos=none→∀ w',(w'.heap[w.heap.size]? = some ob)→R S w' (u pos) (ρ.with pos (w.heap.size,0)) y∧RB S w' (ρ.with pos (w.heap.size,0)) (some (w.heap.size,0)) b) :
    bW P o env h 1 u (fun _=>[b]):=by
  intro ρ S a w p pos hp K Q hk;obtain ⟨ob,y,h1,h2⟩:=hrun ρ S a w p;have hpos:ρ pos=none:=by simpa using hp 0 (by omega)
  unfold Oper.wp;rw [h1];have hx:nD (fun _=>False) w (w.alloc ob):=oB _ _ _;have hnew:(w.alloc ob).heap[w.heap.size]? = some ob:=(heap_alloc w ob).1;obtain ⟨h3,h4⟩:=h2 pos hpos _ hnew;have hss:(w.alloc ob).heap.size=w.heap.size+1:=by rw [World.size_alloc]
  refine hk y (ρ.with pos (w.heap.size,0)) S _ ⟨hx,rfl,fun k hk=>?_,fun _ h=>h,fun _ h=>.inl h,fun k q hk1 hk2 hq=>?_,fun k k' q q' a1 a2 a3 a4 _ _ _=>by omega,h3,fun j b' hb=>?_⟩
  · unfold Pl.with;rw [if_neg (by omega)]
  · have:k=pos:=by omega
    subst this;simp only [Pl.with,if_true,Option.some.injEq] at hq;subst hq;refine ⟨aX _,by simp [hss],fun hs=>?_⟩
    have:=p.stab _ hs;simp at this
  · cases j with
    | zero=>
      simp only [eF,Option.some.injEq] at hb;subst hb;simpa [Pl.with] using h4
    | succ j=>simp at hb
def xB0 (x:AV) (v:Value):Prop:=∀ (S:Nat→Prop) (w:World) (ρ:Pl) (y:Value),R S w x ρ y→y=v
theorem xB0.v (v:Value):xB0 (.v v) v:=fun _ _ _ _ h=>rL h
theorem MH {S:Nat→Prop}{w:World}{ρ:Pl}:∀ {vs ys:List Value},RL S w (vs.map .v) ρ ys→ys=vs
 | [],_,h=>by simpa [RL] using h
 | v::vs,_,h=>by
  simp only [List.map_cons,RL] at h;obtain ⟨y,zs,rfl,h1,h2⟩:=h;rw [rL h1,MH h2]
theorem xB0.agg (vs:List Value):xB0 (.agg (vs.map .v)) (.agg vs.toArray):=fun _ _ _ _ h=>by
 simp only [R] at h;obtain ⟨ys,rfl,h1⟩:=h;have:=MH h1;rw [← this]
theorem vY.push {l:Array MapEntry}{ck:Nat}(h:vY l ck){kv v:Value}:vY (l.push { key:=kv,val:=v,born:=ck }) (ck+1):=by
 refine ⟨?_,fun e he=>?_⟩
 ·rw [Array.toList_push,bU,dB];refine ⟨h.1,by simp,fun x hx y hy e=>?_⟩
  obtain ⟨q,hq,rfl⟩:=bD.1 hx;simp at hy;have:=h.2 q hq;omega
 ·rw [Array.toList_push,bH] at he;rcases he with he | he
  ·exact Nat.lt_succ_of_lt (h.2 e he)
  ·simp at he;subst he;exact Nat.lt_succ_self _
theorem vY.modify {l l':Array MapEntry}{ck i:Nat}(h:vY l ck){f:MapEntry→MapEntry}(hg:∀ j:Nat,l'.toList[j]? = if i=j then (l.toList[j]?).map f else l.toList[j]?) (hf:∀ e,(f e).born=e.born:=by intro e;rfl):vY l' ck:=by
 have e1:l'.toList.map (·.born)=l.toList.map (·.born):=by
  apply kD;intro j;rw [bN,bN,hg];split
  ·cases l.toList[j]? <;> simp [hf]
  ·rfl
 refine ⟨by rw [e1];exact h.1,fun e he=>?_⟩
 have h1:e.born∈l.toList.map (·.born):=by rw [← e1];exact bD.2 ⟨e,he,rfl⟩
 obtain ⟨q,hq,hqe⟩:=bD.1 h1;rw [← hqe];exact h.2 q hq
structure JO (P:Program) (kt:TypeId) (good:Value→Prop):Prop where
 check:∀ (w:World) (em:Bool) {v:Value},good v→(Instr.checkKey em 10000 kt v).run P w = .ok () w
 find:∀ (w:World) {x:Value},good x→∀ es:List MapEntry,(∀ e,e∈es→good e.key)→((Instr.findKey kt x es).run P w = .ok none w∧∀ e,e∈es→e.key≠x)∨∃ j e,(Instr.findKey kt x es).run P w = .ok (some (j,e.val)) w∧es[j]? = some e∧e.key=x
 stays:∀ (w:World) {v:Value},good v→(Instr.keyThatStays v v).run P w = .ok v w
theorem zH3 {dk:TypeDesc}{kv:Value}(hk:IsKey dk kv):∀ n,Instr.sameBits n kv kv=true:=by
 intro n;cases dk <;> cases kv <;> simp only [IsKey] at hk <;> cases n <;> simp [Instr.sameBits,bytes_beq]
theorem JO.plain {kt:TypeId}{dk:TypeDesc}(hd:P.underlying kt=some dk):JO P kt (IsKey dk):=by
 refine ⟨fun w em v hv=>MapKept.run_checkKey hd hv em 9999,fun w x hx es hall=>?_,fun w v hv=>by simp [Instr.keyThatStays,zH3 hv]⟩
 rcases findNow_spec hx es 0 hall with ⟨h1,h2⟩ | ⟨j,e,h1,h2,h3⟩
 ·exact .inl ⟨MapKept.run_findKey hd h1,h2⟩
 ·exact .inr ⟨j,e,by have:=MapKept.run_findKey (w:=w) hd h1;rwa [Nat.zero_add] at this,h2,h3⟩
theorem jD {kt:TypeId}{good:Value→Prop}{kv:Value}{l:Array MapEntry}{ks:List Value}{i:Nat}(ko:JO P kt good) (w:World) (hl:l.toList.map (·.key)=ks) (hkeys:∀ q,q∈ks→good q) (hkey:good kv) (hnd:ks.Nodup) (hi:ks[i]? = some kv):∃ e,(Instr.findKey kt kv l.toList).run P w = .ok (some (i,e.val)) w∧l.toList[i]? = some e∧e.key=kv:=by
 rcases ko.find w hkey l.toList (fun x hx=>hkeys _ (by rw [← hl];exact bD.2 ⟨x,hx,rfl⟩)) with ⟨_,h2⟩ | ⟨j,e,h1,h2,h3⟩
 ·have hm:=aQ hi;rw [← hl] at hm;obtain ⟨x,hx,hxe⟩:=bD.1 hm;exact absurd hxe (h2 x hx)
 ·have hj:ks[j]? = some kv:=by rw [← hl,bN,h2];simp [h3]
  have:j=i:=(List.getElem?_inj (aA.1 hj).1 hnd).1 (hj.trans hi.symm);subst this;exact ⟨e,h1,h2,h3⟩
section
variable {t kt et:TypeId}{good:Value→Prop}{x y:Operand}{k i:Nat}{kv:Value}{ks:List Value}{vs:List AV}{v:AV}
section
variable {n:Nat × Nat}{ops:Array Oper}{rest:List Oper}{K:eG→Hp→Prop}{z:Operand}
end
end
end
end Go.Ab
namespace Go.Ab
open Go
section
variable {P:Program}{env:eG}{h:Hp}
variable {d:Option Nat}{ty:TypeId}{pos:String}{af:Array Edge}{g:Option (Nat × Bool)}
theorem zJ1 (T:pR P){S:Nat→Prop}{w:World}{ρ:Pl}{e off:Nat}{i:TI}{cs:List AV}{ys:Array Value}{z:AV}(h5:RL S w cs ρ ys.toList) (he:T.ti e=some i) (hz:oH i cs off=some z):∃ v,(part e ys off).run P w = .ok v w∧R S w z ρ v:=by
 unfold oH at hz;split at hz
 ·rename_i hagg;split at hz
  ·rename_i zs hg;simp only [Option.some.injEq] at hz;subst hz;refine ⟨.agg (ys.extract off (off+i.size)),by simp [part,T.agg he,hagg,T.sizeOf he],?_⟩
   rw [ZM hg];simp only [R];refine ⟨_,rfl,?_⟩;have:=sF (xG h5 off) i.size;simpa [Array.toList_extract,List.extract_eq_take_drop] using this
  ·cases hz
 ·rename_i hagg;obtain ⟨v,h7,h8⟩:=sH h5 _ _ hz;have h9:ys[off]? = some v:=by simpa using h7
  exact ⟨v,by simp [part,T.agg he,hagg,h9],h8⟩
def TQ (P:Program) (t:TypeId) (f:Nat):Option (Nat × Nat):=match P.underlying t with
 | some (.struct fs)=>(fs[f]?).map fun fd=>(fd.type,fd.offset)
 | _=>none
theorem ZR (T:pR P){t f e o:Nat}{i:TI}{x:Operand}{cs:List AV}{z:AV}(hx:evu env x=some (.agg cs)) (hf:TQ P t f=some (e,o)) (he:T.ti e=some i) (hz:oH i cs o=some z) :
  bW P ⟨d,.field t x f,ty,pos,af,g⟩ env h 0 (fun _=>z) (fun _=>[]):=by
 refine iD fun ρ S a w p=>?_
 have h3:=p.evu hx;simp only [R] at h3;obtain ⟨ys,h4,h5⟩:=h3;obtain ⟨v,h6,h7⟩:=zJ1 T h5 he hz;unfold TQ at hf;split at hf
 ·rename_i fs hu;cases hfd:fs[f]? with
  | none=>rw [hfd] at hf;cases hf
  | some fd=>
   rw [hfd] at hf;simp only [K4,Option.some.injEq,Prod.mk.injEq] at hf;obtain ⟨rfl,rfl⟩:=hf;exact ⟨v,by simp [execOp,h4,Instr.field,run_underlying hu,hfd,asAgg,h6],h7⟩
 ·cases hf
theorem yL0 (T:pR P){t e sz k:Nat}{es:List (List AV)}{i:TI}{x:Operand}{hi:Option Operand}(hx:evu env x=some (.rowE es sz)) (ht:T.elem t=some e) (he:T.ti e=some i) (hs:i.size=sz) (hhi:CK env hi es.length=some (k:Int)) (h2:k≤es.length) (hl:∀ e,e∈es→e.length=sz) :
  bW P ⟨d,.slice t x none hi none,ty,pos,af,g⟩ env h 0 (fun _=>.rowE (es.take k) sz) (fun _=>[]):=by
 have:=R7 (env:=env) (h:=h) (d:=d) (ty:=ty) (pos:=pos) (af:=af) (g:=g) (lo:=none) (l:=0) T hx ht he hs rfl hhi (by omega) (by omega) (by omega) hl
 simpa using this
theorem xM (T:pR P){t e sz k:Nat}{es:List (List AV)}{i:TI}{x:Operand}{lo:Option Operand}(hx:evu env x=some (.rowE es sz)) (ht:T.elem t=some e) (he:T.ti e=some i) (hs:i.size=sz) (hlo:CK env lo 0=some (k:Int)) (h2:k≤es.length) (hl:∀ e,e∈es→e.length=sz) :
  bW P ⟨d,.slice t x lo none none,ty,pos,af,g⟩ env h 0 (fun _=>.rowE (es.drop k) sz) (fun _=>[]):=by
 have:=R7 (env:=env) (h:=h) (d:=d) (ty:=ty) (pos:=pos) (af:=af) (g:=g) (hi:=none) (r:=(es.length:Int)) T hx ht he hs hlo rfl (by omega) (by omega) (by omega) hl
 have e1:((es.length:Int)-(k:Int)).toNat=es.length-k:=by omega
 rw [e1] at this;rw [show ((es.drop ((k:Int).toNat)).take (es.length-k))=es.drop k by rw [bI];exact bO (by simp)] at this
 exact this
end
def O2 (i:Nat):Nat→List Oper→List Oper
 | _,[]=>[]
 | 0,o::r=>{ o with after:=o.after.push ⟨i,.phase⟩ } :: r
 | j+1,o::r=>o::O2 i j r
theorem G5 (i:Nat):∀ (j:Nat) (l:List Oper),(O2 i j l).length=l.length
 | _,[]=>by cases ‹Nat› <;> rfl
 | 0,_::_=>rfl
 | j+1,_::r=>by simp [O2,G5 i j r]
theorem FQ (i:Nat):∀ (j k:Nat) (l:List Oper),(O2 i j l)[k]? = if k=j then (l[k]?).map (fun o=>{ o with after:=o.after.push ⟨i,.phase⟩ }) else l[k]?
 | j,k,[]=>by cases j <;> simp [O2]
 | 0,k,o::r=>by cases k <;> simp [O2]
 | j+1,k,o::r=>by
  cases k with
  | zero=>simp [O2]
  | succ k=>simp only [O2,kW,FQ i j k r,Nat.add_right_cancel_iff]
section
variable {P:Program}{ops ops':Array Oper}{i j:Nat}{oi oj:Oper}{Q:Exit→Act→World→Prop}
theorem O7 (hd:∀ k:Nat,(ops'[k]?).bind (·.dst)=(ops[k]?).bind (·.dst)) (tmps:Array Value):yielded ops' tmps=yielded ops tmps:=by
 funext g;simp only [yielded,hd]
theorem GR (ho:∀ k,k≠j→ops'[k]? = ops[k]?) (hj:ops[j]? = some oj) (hj':ops'[j]? = some { oj with after:=oj.after.push ⟨i,.phase⟩ }) (k:Nat) (K:Act→World→Prop) (a:Act) (w:World):wpOp P ops' Q k K a w=wpOp P ops Q k K a w:=by
 have hd:∀ k:Nat,(ops'[k]?).bind (·.dst)=(ops[k]?).bind (·.dst):=fun k=>by
  by_cases h:k=j
  ·subst h;rw [hj,hj'];rfl
  ·rw [ho k h]
 unfold wpOp;by_cases h:k=j
 ·subst h;rw [hj,hj'];simp only [O7 hd];cases oj;rfl
 ·rw [ho k h];simp only [O7 hd]
def Y6 (o:Oper):Bool:=match o.op,o.guard with
 | .extract ..,none=>true
 | _,_=>false
theorem FB (hi:ops[i]? = some oi) (hx:Y6 oi=true) (hq:¬ LetsOut Q){K:Act→World→Prop}{a:Act}{w:World}(h:wpOp P ops Q i K a w):∃ v,Yields P ops oi v a∧K (a.put oi.dst v) w:=by
 obtain ⟨dst,op,ty,pos,af,g⟩:=oi;unfold Y6 at hx;split at hx
 ·rename_i x n h1 h2;simp only at h1 h2;subst h1 h2;unfold wpOp at h;rw [hi] at h;have hw:Region.wanted (⟨dst,.extract x n,ty,pos,af,none⟩:Oper) (yielded ops a.tmps)=true:=oO rfl;simp only [hw,if_true] at h;rcases h with h | h
  ·unfold Oper.wp at h;have key:(∃ v,∀ w,(execOp a.eval ⟨dst,.extract x n,ty,pos,af,none⟩).run P w = .ok (.value v) w)∨∀ K',¬ Oper.upon P (⟨dst,.extract x n,ty,pos,af,none⟩:Oper) a K' Q ((execOp a.eval ⟨dst,.extract x n,ty,pos,af,none⟩).run P w):=by
    simp only [execOp,Instr.extract];split
    ·split
     ·rename_i v _;exact .inl ⟨v,fun w=>by simp⟩
     ·exact .inr fun K' hk=>by simp [stuck,Oper.upon] at hk
    ·exact .inr fun K' hk=>by simp [stuck,Oper.upon] at hk
   rcases key with ⟨v,hv⟩ | hv
   ·rw [hv w] at h;exact ⟨v,.inl ⟨hw,hv⟩,h⟩
   ·exact absurd h (hv K)
  ·exact absurd h.2 hq
 ·cases hx
def yH4 (ops:Array Oper) (i j:Nat):Bool:=
 match ops[i]?,ops[j]? with
 | some oi,some oj=>Y6 oi&&Region.noSelect ops && !Nat.beq i j &&
  (oi.after.all fun e=>!Region.binds .any e||(oj.after.any fun e'=>Region.binds .any e'&&Nat.beq e'.on e.on)) &&
  ((List.range ops.size).all fun k=>Nat.beq k i||(oi.after.any fun e=>Region.binds .any e&&Nat.beq e.on k)||match ops[k]? with
   | some ok=>(ok.after.any fun e=>Region.binds .any e&&Nat.beq e.on i)||oi.apart ops ok
   | none=>true)
 | _,_=>false
theorem SC (hsz:ops'.size=ops.size) (ho:∀ k,k≠j→ops'[k]? = ops[k]?) (hi:ops[i]? = some oi) (hj:ops[j]? = some oj) (hj':ops'[j]? = some { oj with after:=oj.after.push ⟨i,.phase⟩ }) (hc:yH4 ops i j=true) (hq:∀ e a w,Q e a w→e = .normal) :
  ∀ (fuel:Nat) (listed:Array Bool) (a:Act) (w:World),listed.size=ops.size→wpAny P .any ops' Q fuel listed a w→wpAny P .any ops Q fuel listed a w:=by
 unfold yH4 at hc;rw [hi,hj] at hc;simp only [aN,bJ,fG] at hc;obtain ⟨⟨⟨⟨hx,hns⟩,hij⟩,hcov⟩,hfree⟩:=hc;have hij:i≠j:=fun e=>by rw [e] at hij;simp at hij
 have hlo:¬ LetsOut Q:=fun ⟨a,w,h⟩=>by have:=hq _ _ _ h;cases this
 have hi':ops'[i]? = some oi:=by rw [ho i hij];exact hi
 have hilt:i<ops.size:=(aJ.1 hi).1;have d2:∀ (listed:Array Bool) (k:Nat),listed.size=ops.size→k<ops.size→listed.getD k true=listed.getD k false:=fun listed k hl hk=>by
  simp [Array.getD,hl,hk]
 -- what is ready there is ready here;what is ready here is ready there,or waits for i,which is ready
 have r1:∀ (listed:Array Bool) (k:Nat),k≠j→(k∈Region.ready .any ops listed↔k∈Region.ready .any ops' listed):=fun listed k hk=>by
  rw [mem_ready,mem_ready,ho k hk]
 have r2:∀ (listed:Array Bool),listed.size=ops.size→j∈Region.ready .any ops listed→j∈Region.ready .any ops' listed∨i∈Region.ready .any ops listed:=fun listed hl hjr=>by
  obtain ⟨h1,o,h2,h3⟩:=mem_ready.1 hjr;rw [hj] at h2;cases h2;cases hli:listed.getD i false with
  | true=>
   refine .inl (mem_ready.2 ⟨h1,_,hj',fun e he hb=>?_⟩);simp only [Array.mem_push] at he;rcases he with he | rfl
   ·exact h3 e he hb
   ·exact hli
  | false=>
   refine .inr (mem_ready.2 ⟨by rw [d2 listed i hl hilt];exact hli,oi,hi,fun e he hb=>?_⟩)
   rw [Array.all_eq_true_iff_forall_mem] at hcov;have:=hcov e he;simp only [hb,Bool.not_true,xF1] at this;obtain ⟨e',he',hb'⟩:=zC4.1 this;simp only [aN] at hb';rw [← aS hb'.2];exact h3 e' he' hb'.1
 have r3:∀ (listed:Array Bool),j∈Region.ready .any ops' listed→j∈Region.ready .any ops listed:=fun listed hjr=>by
  obtain ⟨h1,o,h2,h3⟩:=mem_ready.1 hjr;rw [hj'] at h2;cases h2;exact mem_ready.2 ⟨h1,_,hj,fun e he hb=>h3 e (by simp [he]) hb⟩
 have emp:∀ (listed:Array Bool),listed.size=ops.size→(Region.ready .any ops listed=[]↔Region.ready .any ops' listed=[]):=fun listed hl=>by
  rw [lQ,lQ];constructor
  ·intro h k hk;by_cases hkj:k=j
   ·subst hkj;exact h k (r3 listed hk)
   ·exact h k ((r1 listed k hkj).2 hk)
  ·intro h k hk;by_cases hkj:k=j
   ·subst hkj;rcases r2 listed hl hk with h1 | h1
    ·exact h _ h1
    ·exact h _ ((r1 listed i hij).1 h1)
   ·exact h k ((r1 listed k hkj).1 hk)
 intro fuel
 induction fuel with
 | zero=>
  intro listed a w hl H;exact ⟨(emp listed hl).2 H.1,H.2⟩
 | succ fuel ih=>
  intro listed a w hl H;by_cases hri:i∈Region.ready .any ops listed
  ·have h1:=H.2 i ((r1 listed i hij).1 hri);rw [GR ho hj hj'] at h1;obtain ⟨v,h2,h3⟩:=FB hi hx hlo h1;have h4:=ih _ _ _ (by simpa using hl) h3
   obtain ⟨g1,o,g2,g3⟩:=mem_ready.1 hri;rw [hi] at g2;cases g2;refine wpAny_first hi (Region.noSelect_spec hns) (fun c a w hp=>by have:=hq _ _ _ hp;cases this) fuel listed a w (fun k ok hk hki hun hno=>?_) hri h2 h4
   have h5:=hfree k (aJ.1 hk).1;simp only [hk,K8] at h5;rcases h5 with (h5 | h5) | h5 | h5
   ·exact absurd (aS h5) hki
   ·obtain ⟨e,he,hb⟩:=zC4.1 h5;simp only [aN] at hb;have h6:=g3 e he hb.1;rw [aS hb.2] at h6;rw [d2 listed k hl (aJ.1 hk).1,h6] at hun;cases hun
   ·obtain ⟨e,he,hb⟩:=zC4.1 h5;simp only [aN] at hb;exact absurd (aS hb.2) (hno e he hb.1)
   ·exact h5
  ·refine ⟨fun h=>H.1 ((emp listed hl).1 h),fun k hk=>?_⟩
   have hk':k∈Region.ready .any ops' listed:=by
    by_cases hkj:k=j
    ·subst hkj;exact (r2 listed hl hk).resolve_right hri
    ·exact (r1 listed k hkj).1 hk
   have h1:=H.2 k hk';rw [GR ho hj hj'] at h1;exact wpOp_mono (fun a' w' h2=>ih _ a' w' (by simpa using hl) h2) h1
end
section
variable {P:Program}{n:Nat × Nat}{env:eG}{h:Hp}
theorem T7 {Q:Exit→eG→Hp→Prop}{id:Nat}{l l':List Oper}(i j k:Nat) (hl:O2 i j l=l') (hc:yH4 l.toArray i j=true) (pres:List (List Nat)) (ds:List Nat) (bads:List (List Nat)) (hm:P.follows .mixedOrders=true) (hn:n.1=k) (hok:mF l' pres ds bads k=true)
  (hv:DW P n l' pres ds bads (eP ds env) h 0 (eP ds env) [] (fun v h=>Q .normal v h)) (hndf:nW l=true:=by rfl):AW P n (.region id l.toArray true) env h Q:=by
 intro c ρ S a w QQ s hQ;subst hl;have hc':=hc;unfold yH4 at hc';cases hi:l.toArray[i]? with
 | none=>rw [hi] at hc';cases hc'
 | some oi=>
  cases hj:l.toArray[j]? with
  | none=>rw [hi,hj] at hc';cases hc'
  | some oj=>
   have h1:=Z4 pres ds bads (by rw [hn];exact hok) hv c ρ S a w (fun e a w=>e = .normal∧QQ .normal a w) s fun env' h' ρ' S' a' w' k s'=>⟨rfl,hQ .normal env' h' ρ' S' a' w' k s'⟩
   have hj2:l[j]? = some oj:=by simpa using hj
   have hsz:(O2 i j l).toArray.size=l.toArray.size:=by simp [G5]
   have h2:=SC (P:=P) (ops:=l.toArray) (ops':=(O2 i j l).toArray) (j:=j) hsz (fun k hk=>by simp [FQ,hk]) hi hj (by simp [FQ,hj2]) hc (fun e a w h=>h.1) _ _ _ _ (by simp [G5]) h1
   rw [hsz] at h2;exact pX hm hndf h2
end
def zU4 (P:Program) (o:Oper) (env:eG) (h:Hp) (u:AV):Prop:=
 ∀ ρ S a w,GM ρ S env h a w→∃ y,(∀ w',(execOp a.eval o).run P w' = .ok (.value y) w')∧R S w u ρ y
section
variable {P:Program}{env:eG}{h:Hp}
variable {d:Option Nat}{ty:TypeId}{pos:String}{af:Array Edge}{g:Option (Nat × Bool)}
theorem wP {x:Operand}{u:AV}(hx:evu env x=some u):zU4 P ⟨d,.move x,ty,pos,af,g⟩ env h u:=fun ρ S a w p=>⟨a.eval x,fun w'=>by simp [execOp],p.evu hx⟩
end
def BH (P:Program) (n:Nat × Nat) (ops:Array Oper) (listed:Array Bool) (r:Nat) (env:eG) (h:Hp) (K:eG→Hp→Prop):Prop:=
 ∀ c ρ S a w QQ,qL n c ρ S env h a w→(∀ e a w,QQ e a w→e=Exit.normal)→(∀ env' h' ρ' S' a' w',K env' h'→qL n c ρ' S' env' h' a' w'→QQ Exit.normal a' w')→wpAny P .any ops QQ r listed a w
section
variable {P:Program}{n:Nat × Nat}{ops:Array Oper}{env:eG}{h:Hp}{K:eG→Hp→Prop}{listed:Array Bool}{r:Nat}
theorem C2 {i dd:Nat}{op:Op}{ty:TypeId}{pos:String}{af:Array Edge}{u:AV}(i':Nat) (hi':i'=i) (ho:ops[i]? = some ⟨some dd,op,ty,pos,af,none⟩) (hs:Region.noSelect ops=true) (hf:Region.free .any ops listed i=true) (hr:(Region.ready .any ops listed).contains i=true) (hp:zU4 P ⟨some dd,op,ty,pos,af,none⟩ env h u) (hd:Nat.blt dd n.1=true)
  (hk:BH P n ops (listed.setIfInBounds i true) r ((dd,u)::env) h K):BH P n ops listed (r+1) env h K:=by
 intro c ρ S a w QQ s hq hQ;obtain ⟨y,h1,h2⟩:=hp ρ S a w s.pre;refine wpAny_take ho hs hf hr (fun c a w hp=>by have:=hq _ _ _ hp;cases this) (.inl ⟨oO rfl,h1⟩) ?_
 exact hk c ρ S (a.put (some dd) y) w QQ ⟨by rw [mT];exact s.size,by rw [kN];exact s.defers,xB (d:=some dd) s.size hd s.env h2,s.hs,s.cm⟩ hq hQ
theorem qL.drew {c:pS}{ρ:Pl}{S:Nat→Prop}{a:Act}{w:World}(s:qL n c ρ S env h a w):qL n c ρ S env h a { w with drawn:=w.drawn+1 }:=by
 have l0:iF ρ ρ S S w { w with drawn:=w.drawn+1 }:=⟨fun _ _ h=>h,fun _ h=>h,fun _ _=>rfl,fun _ _ _ _ _ h=>h⟩
 refine ⟨s.size,s.defers.later l0,fun t x hx=>(s.env t x hx).later l0,?_,s.cm⟩;exact ⟨s.hs.dom,s.hs.rng,fun k b hb=>RB.later l0 (fun _ _ _=>rfl) (s.hs.blk k b hb),s.hs.live,s.hs.inj,s.hs.stab,s.hs.ext.drew,s.hs.st0,s.hs.st1,s.hs.mle,s.hs.keep,s.hs.glob.later l0⟩
theorem QZ {Q:Exit→eG→Hp→Prop}{id:Nat}{l:List Oper}(hm:P.follows .mixedOrders=true) (hv:BH P n l.toArray (Array.replicate l.length false) l.length env h (fun v h=>Q .normal v h)) (hndf:nW l=true:=by rfl):AW P n (.region id l.toArray true) env h Q:=by
 intro c ρ S a w QQ s hQ;have h1:=hv c ρ S a { w with drawn:=w.drawn+1 } (fun e a w=>e = .normal∧QQ .normal a w) s.drew (fun e a w h=>h.1) fun env' h' ρ' S' a' w' k s'=>⟨rfl,hQ .normal env' h' ρ' S' a' w' k s'⟩
 exact pX hm hndf (by simpa using h1)
end
theorem fF {P:Program}{n:Nat × Nat}{code:Code}{env:eG}{h:Hp}{Q:Exit→eG→Hp→Prop}(env':eG) (h':Hp) (hs:MF n.2 env h env' h') (hv:AW P n code env' h' Q):AW P n code env h Q:=UI hs hv
structure xF0 (T:Prop):Prop where
 get:T
theorem cutT {G T:Prop}(h:xF0 T→G) (ht:T):G:=h ⟨ht⟩
section
variable {P:Program}{env:eG}{h:Hp}{d:Option Nat}{ty:TypeId}{pos:String}{af:Array Edge}{g:Option (Nat × Bool)}
theorem jL {t t2:TypeId}{x y:Operand}{a b:Int}(hx:evu env x=some (.i a)) (hy:evu env y=some (.i b)) (e:a=b):bW P ⟨d,.binOp .eql t x y t2,ty,pos,af,g⟩ env h 0 (fun _=>.b true) (fun _=>[]):=by
 have:=fB (P:=P) (d:=d) (ty:=ty) (pos:=pos) (af:=af) (g:=g) (h:=h) (t:=t) (t2:=t2) hx hy;simpa [e] using this
theorem gR {t t2:TypeId}{x y:Operand}{a b:Int}(hx:evu env x=some (.i a)) (hy:evu env y=some (.i b)) (e:a≠b):bW P ⟨d,.binOp .eql t x y t2,ty,pos,af,g⟩ env h 0 (fun _=>.b false) (fun _=>[]):=by
 have:=fB (P:=P) (d:=d) (ty:=ty) (pos:=pos) (af:=af) (g:=g) (h:=h) (t:=t) (t2:=t2) hx hy;simpa [e] using this
theorem CJ {t t2:TypeId}{x y:Operand}{a b:Int}(hx:evu env x=some (.i a)) (hy:evu env y=some (.i b)) (e:a≠b):bW P ⟨d,.binOp .neq t x y t2,ty,pos,af,g⟩ env h 0 (fun _=>.b true) (fun _=>[]):=by
 have:=gI (P:=P) (d:=d) (ty:=ty) (pos:=pos) (af:=af) (g:=g) (h:=h) (t:=t) (t2:=t2) hx hy;simpa [e] using this
theorem uP {t t2:TypeId}{x y:Operand}{a b:Int}(hx:evu env x=some (.i a)) (hy:evu env y=some (.i b)) (e:a=b):bW P ⟨d,.binOp .neq t x y t2,ty,pos,af,g⟩ env h 0 (fun _=>.b false) (fun _=>[]):=by
 have:=gI (P:=P) (d:=d) (ty:=ty) (pos:=pos) (af:=af) (g:=g) (h:=h) (t:=t) (t2:=t2) hx hy;simpa [e] using this
theorem lE {t t2:TypeId}{x y:Operand}{a:Bool}(ht:RV P t) (hx:evu env x=some (.b a)) (hy:evu env y=some (.b a)):bW P ⟨d,.binOp .neq t x y t2,ty,pos,af,g⟩ env h 0 (fun _=>.b false) (fun _=>[]):=by
 have:=yE3 (d:=d) (ty:=ty) (pos:=pos) (af:=af) (g:=g) (h:=h) (t2:=t2) ht hx hy;simpa using this
end
end Go.Ab
