/-
  Texts of the logic and of the layer,in one module (part 8).
-/
import Derived.Test.YtojgimibalokkaaGreatK7
import Derived.WalkKit
import Derived.KernelRfl
set_option linter.unusedVariables false
set_option linter.unusedSimpArgs false
set_option linter.unnecessarySimpa false
namespace Go.Proofs.YtojgimibalokkaaGreat
open Go Go.Ab Go.Ld
attribute [local irreducible] VC AW cF aP kG
set_option maxHeartbeats 4000000
theorem PS {l:List Int}{i:Nat}(h:i<l.length):l[i]? = some (l.getD i 0):=by
  rw [aC,aA h];rfl
theorem PT {l:List BX}{i:Nat}(h:i<l.length):l[i]? = some ((l.getD i (0,0,0)).1,(l.getD i (0,0,0)).2.1,(l.getD i (0,0,0)).2.2):=by
  rw [aC,aA h];rfl
theorem yA3 {c:Cx}{ps:List Int}{bs:List BX}(s:Ev) (h:qO c ps bs) :
    BB c.st c.er c.sl (ps.getD s.a.toNat 0) (bs.getD (ps.getD s.a.toNat 0).toNat (0,0,0)).2.1 ((bs.getD (ps.getD s.a.toNat 0).toNat (0,0,0)).2.2+(bs.getD (ps.getD s.a.toNat 0).toNat (0,0,0)).2.1*mT c.ks c.ls (bs.getD (ps.getD s.a.toNat 0).toNat (0,0,0)).1) s.k s.n s.ids=GL c ps (lS bs) s:=by
  unfold GL;have hs:=h.same (ps.getD s.a.toNat 0).toNat;rw [J3,← hs.1,← hs.2]
end Go.Proofs.YtojgimibalokkaaGreat
namespace Go.Ld
open Go.Ab Go.Proofs.YtojgimibalokkaaGreat
structure rE (c:Cx) (gs:List G) (ps:List Int) (bs:List BX) (M:Int):Prop where
  gk:kQ c gs
  re:qO c ps bs
  m0:0≤M
  m1:M≤c.m
  f:∃ f,xX c ps (lS bs) f∧Sem gs f M
theorem rE.new {c:Cx}(hc:qP c) (hn:c.bs.length≤12):rE c (uG c) (nats (List.range c.bs.length)) c.bs 0:=
  ⟨zV5 hc hn hc.s.1,XK hc,fK _,hc.s.1,zI6⟩
theorem rE.step {c:Cx}{gs:List G}{ps:List Int}{bs:List BX}{M done:Int}{s:Ev}(hc:qP c) (h:rE c gs ps bs M) (hr:gH c.bs.length s=true) (hag:GL c ps (lS bs) s=true) (hcan:rR c ps (lS bs) s done=true) (hM:M+rD c ps s≤c.m) :
    (lR c gs s).1=6∨(lR c gs s).1=0∧rE c (lR c gs s).2 (rS ps s done) (yC ps bs s done) (M+rD c ps s)∧zS2 c (lR c gs s).2 (rS ps s done) (lS (yC ps bs s done))=true:=by
  obtain ⟨r1,r2,r3⟩:=X0 h.gk hr;obtain ⟨m0,m1,_⟩:=hc.s;obtain ⟨f,hf,hs⟩:=h.f;obtain ⟨t1,t2⟩:=L1 hc h.gk hr h.re.pq hf hs hag hcan hM;have hmis:=(QN c.st (ps.getD s.a.toNat 0) s.k s.ids).1;have hm0:=h.m0;have hre:=h.re.aft r1 r2 hcan;rcases WA c gs s with h0 | ⟨_,h0⟩ | h0 | h0
  · refine .inr ⟨h0,?_⟩;obtain ⟨f',ok,hs'⟩:=t2 h0;rw [← C2] at ok;have hg:=zU5 (s:=s) h.gk m0 m1;refine ⟨⟨hg,hre,by unfold rD;omega,hM,f',ok,hs'⟩,?_⟩
    exact (U6 hg).2 ⟨hre.pq.pl,by rw [hre.pq.ql,hre.pq.pl],(Y0 hre.pq.pl).2 hre.pq.pp,f',ok,hs'.mono hM⟩
  · rw [h0] at hr;cases hr
  · exact .inl h0
  · exact absurd h0 t1
end Go.Ld
namespace Go.Proofs.YtojgimibalokkaaGreat
open Go Go.Ab Go.Ld
attribute [local irreducible] VC AW cF aP kG
set_option maxHeartbeats 4000000
end Go.Proofs.YtojgimibalokkaaGreat
namespace Go.Ld
open Go.Ab Go.Proofs.YtojgimibalokkaaGreat
end Go.Ld
namespace Go.Lk
abbrev Ws:=List (List Int)
def zD {α:Type}(q:α→Bool):List α→Int→Int
  | [],_=>-1
  | a::r,k=>if q a then k else zD q r (k+1)
theorem AI {α:Type}(q:α→Bool):∀ (l:List α) (k:Int),0≤k→(0≤zD q l k↔l.any q=true)
  | [],k,_=>by simp [zD]
  | x::r,k,h=>by
    simp only [zD];by_cases e:q x=true
    · rw [if_pos e];simp [e,h]
    · rw [if_neg e,AI q r (k+1) (by omega)];simp [e]
theorem DY {α:Type}{q:α→Bool}{l:List α}{k:Nat}(h:k<l.length):zD q (l.drop k) k=if q l[k] then (k:Int) else zD q (l.drop (k+1)) ((k+1:Nat):Int):=by
  rw [bC h];simp [zD]
def GV (a:List Int) (id:Int):Int:=zD (fun x=>decide (id=x)) a 0
def cell (a:List Int) (p:Nat):Int:=a.getD p 0
def hd (w:Ws):List Int:=w.headD []
def decM (w:Ws) (ids:List Int):Bool:=ids.all fun id=>w.all fun a=>decide (GV a id=GV (hd w) id)
def leftM (w:Ws) (p:Nat) (v:Int):Ws:=w.filter fun a=>decide (cell a p=v)
def constM (w:Ws) (p:Nat):Bool:=w.all fun a=>decide (cell a p=cell (hd w) p)
def mx (l:List Nat):Nat:=l.foldl max 0
def gO (nd:Ws→Nat) (w:Ws) (p:Nat):Nat:=if constM w p then 0 else mx (w.map fun a=>1+nd (leftM w p (cell a p)))
def KJ (wf:Nat→Nat) (b:Nat × Int) (p:Nat):Nat × Int:=if 0<wf p∧wf p<b.1 then (wf p,(p:Int)) else b
def O1 (wf:Nat→Nat) (B n:Nat):Nat × Int:=(List.range n).foldl (KJ wf) (B,-1)
def D2 (ids:List Int):Nat→Ws→Nat × Int
  | 0,_=>(0,-1)
  | k+1,w=>if decM w ids then (0,-1) else O1 (gO (fun u=>(D2 ids k u).1) w) ((hd w).length+1) (hd w).length
def needM (ids:List Int) (w:Ws):Nat × Int:=D2 ids w.length w
structure Ok (n:Nat) (w:Ws):Prop where
  ne:w≠[]
  len:∀ a,a∈w→a.length=n
  nd:∀ a,a∈w→a.Nodup
  pos:∀ a,a∈w→∀ x,x∈a→0≤x
theorem zR1 {l:List Nat}{b:Nat}:mx l≤b↔∀ x,x∈l→x≤b:=by
  have key:∀ (l:List Nat) (s:Nat),l.foldl max s≤b↔s≤b∧∀ x,x∈l→x≤b:=by
    intro l
    induction l with
    | nil=>intro s;simp
    | cons x l ih=>
      intro s;rw [jT,ih];simp only [bT,forall_eq_or_imp];rw [← and_assoc];exact and_congr_left fun _=>by omega
  unfold mx;rw [key];simp
theorem FI {l:List Nat}{x:Nat}(h:x∈l):x≤mx l:=zR1.1 (aT _) x h
theorem zI9 {l:List Nat}(h:l≠[]):∃ x,x∈l∧mx l=x:=by
  have key:∀ (l:List Nat) (s:Nat),l.foldl max s=s∨∃ x,x∈l∧l.foldl max s=x:=by
    intro l
    induction l with
    | nil=>intro s;simp
    | cons x l ih=>
      intro s;rw [jT];rcases ih (max s x) with h | ⟨y,h1,h2⟩
      · by_cases hsx:s≤x
        · exact .inr ⟨x,by simp,by rw [h];omega⟩
        · exact .inl (by rw [h];omega)
      · exact .inr ⟨y,by simp [h1],h2⟩
  unfold mx;rcases key l 0 with h1 | h1
  · cases l with
    | nil=>exact absurd rfl h
    | cons x l=>
      refine ⟨x,by simp,?_⟩
      have:x≤mx (x::l):=FI (by simp)
      unfold mx at this;omega
  · exact h1
theorem zJ0 (l:List Nat) (x:Nat):mx (l++[x])=max (mx l) x:=by simp [mx]
theorem hd_mem {w:Ws}(h:w≠[]):hd w∈w:=by
  cases w with
  | nil=>exact absurd rfl h
  | cons a w=>simp [hd]
theorem Ok.hd_len {n:Nat}{w:Ws}(h:Ok n w):(hd w).length=n:=h.len _ (hd_mem h.ne)
theorem mem_leftM {w:Ws}{p:Nat}{v:Int}{a:List Int}:a∈leftM w p v↔a∈w∧cell a p=v:=by simp [leftM]
theorem wP {w:Ws}{p:Nat}{a:List Int}(hc:constM w p=false) (ha:a∈w):(leftM w p (cell a p)).length<w.length:=by
  unfold leftM;rw [List.length_filter_lt_length_iff_exists];have hw:w≠[]:=fun e=>by rw [e] at ha;cases ha
  unfold constM at hc;rw [vT] at hc;obtain ⟨b,hb,hne⟩:=hc;by_cases h:cell a p=cell (hd w) p
  · exact ⟨b,hb,by rw [h];simpa using hne⟩
  · exact ⟨hd w,hd_mem hw,by simpa using fun e=>h e.symm⟩
theorem IY {w:Ws}{p:Nat}{a:List Int}(hc:constM w p=true) (ha:a∈w):leftM w p (cell a p)=w:=by
  unfold leftM;rw [oN];intro b hb;simp only [constM,bA,decide_eq_true_eq] at hc;simp [hc b hb,hc a ha]
theorem zJ9 (w:Ws) (p:Nat) (v:Int):(leftM w p v).length≤w.length:=nF _ _
theorem Ok.sub {n:Nat}{w u:Ws}(h:Ok n w) (hu:u≠[]) (hs:∀ a,a∈u→a∈w):Ok n u:=
  ⟨hu,fun a ha=>h.len a (hs a ha),fun a ha=>h.nd a (hs a ha),fun a ha=>h.pos a (hs a ha)⟩
theorem PE {w:Ws}{p:Nat}{a:List Int}(ha:a∈w):leftM w p (cell a p)≠[]:=fun e=>by
  have:a∈leftM w p (cell a p):=mem_leftM.2 ⟨ha,rfl⟩;rw [e] at this;cases this
theorem Ok.left {n:Nat}{w:Ws}(h:Ok n w){p:Nat}{a:List Int}(ha:a∈w):Ok n (leftM w p (cell a p)):=
  h.sub (PE ha) fun _ hb=>(mem_leftM.1 hb).1
theorem B6 (wf:Nat→Nat) (B n:Nat):O1 wf B (n+1)=KJ wf (O1 wf B n) n:=by simp [O1,yA9]
theorem rW (wf:Nat→Nat) (B:Nat):∀ n,(O1 wf B n=(B,-1)∧∀ q,q<n→wf q=0∨B≤wf q)∨∃ p,p<n∧O1 wf B n=(wf p,(p:Int))∧0<wf p∧wf p<B∧(∀ q,q<n→wf q=0∨wf p≤wf q)∧∀ q,q<p→wf q=0∨wf p<wf q
  | 0=>.inl ⟨rfl,fun q hq=>absurd hq (cW q)⟩
  | n+1=>by
    have up:∀ {Q:Nat→Prop},(∀ q,q<n→Q q)→Q n→∀ q,q<n+1→Q q:=fun h1 h2 q hq=>by
      rcases Nat.lt_or_eq_of_le (Nat.le_of_lt_succ hq) with h | rfl
      · exact h1 q h
      · exact h2
    rw [B6];unfold KJ;rcases rW wf B n with ⟨h1,h2⟩ | ⟨p,h1,h2,h3,h4,h5,h6⟩
    · rw [h1];by_cases h:0<wf n∧wf n<B
      · rw [if_pos h];refine .inr ⟨n,by omega,rfl,h.1,h.2,up (fun q hq=>?_) (by omega),fun q hq=>?_⟩ <;>
          have:=h2 q hq <;> omega
      · rw [if_neg h];exact .inl ⟨rfl,up h2 (by omega)⟩
    · rw [h2];by_cases h:0<wf n∧wf n<wf p
      · rw [if_pos h];refine .inr ⟨n,by omega,rfl,h.1,by omega,up (fun q hq=>?_) (by omega),fun q hq=>?_⟩ <;>
          have:=h5 q hq <;> omega
      · rw [if_neg h];exact .inr ⟨p,by omega,rfl,h3,h4,up h5 (by omega),h6⟩
theorem AT {wf wf':Nat→Nat}{B n:Nat}(h:∀ q,q<n→wf q=wf' q):O1 wf B n=O1 wf' B n:=by
  induction n with
  | zero=>rfl
  | succ n ih=>
    rw [B6,B6,ih fun q hq=>h q (by omega)]
    simp only [KJ,h n (by omega)]
theorem P2 {nd nd':Ws→Nat}{w:Ws}(h:∀ u,u.length<w.length→nd u=nd' u) (p:Nat):gO nd w p=gO nd' w p:=by
  unfold gO;split
  · rfl
  · rename_i hc;refine congrArg mx (jH fun a ha=>?_)
    rw [h _ (wP (by simpa using hc) ha)]
theorem Z0 (ids:List Int):∀ (k k':Nat) (w:Ws),w.length≤k→w.length≤k'→D2 ids k w=D2 ids k' w:=by
  intro k
  induction k with
  | zero=>
    intro k' w h _;obtain rfl:w=[]:=bI (by omega)
    cases k' with
    | zero=>rfl
    | succ k'=>simp [D2,decM]
  | succ k ih=>
    intro k' w h h';cases k' with
    | zero=>
      obtain rfl:w=[]:=bI (by omega)
      simp [D2,decM]
    | succ k'=>
      unfold D2;split
      · rfl
      · exact AT fun q _=>P2 (fun u hu=>by rw [ih k' u (by omega) (by omega)]) q
theorem yX (ids:List Int) (w:Ws):needM ids w=if decM w ids then (0,-1) else O1 (gO (fun u=>(needM ids u).1) w) ((hd w).length+1) (hd w).length:=by
  have:needM ids w=D2 ids (w.length+1) w:=Z0 ids _ _ w (aT _) (by omega)
  rw [this];unfold D2;split
  · rfl
  · exact AT fun q _=>P2 (fun u hu=>by rw [show needM ids u=D2 ids w.length u from Z0 ids _ _ u (aT _) (by omega)]) q
def nc (n:Nat) (w:Ws):Nat:=(List.range n).countP fun p=>!constM w p
theorem zR0 (n:Nat) (w:Ws):nc n w≤n:=by
  unfold nc;have:=GS (p:=fun p=>!constM w p) (l:=List.range n);simpa using this
theorem EB {f g:Nat→Bool}:∀ {l:List Nat}{p:Nat},(∀ q,q∈l→f q=true→g q=true)→p∈l→g p=true→f p=false→l.countP f<l.countP g
  | [],_,_,hp,_,_=>by cases hp
  | x::l,p,hfg,hp,hg,hf=>by
    have hle:l.countP f≤l.countP g:=List.countP_mono_left fun q hq=>hfg q (by simp [hq])
    rw [BM,BM];rcases bT.1 hp with rfl | hp
    · rw [hf,hg];simp;omega
    · have ih:=EB (fun q hq=>hfg q (by simp [hq])) hp hg hf
      by_cases hx:f x=true
      · rw [hx,hfg x (by simp) hx];simp;omega
      · rw [if_neg hx];split <;> omega
theorem EC {w u:Ws}{p:Nat}(hs:∀ a,a∈u→a∈w) (h:constM w p=true):constM u p=true:=by
  simp only [constM,bA,decide_eq_true_eq] at *;intro a ha;have hu:u≠[]:=fun e=>by rw [e] at ha;cases ha
  rw [h a (hs a ha),h _ (hs _ (hd_mem hu))]
theorem MW (w:Ws) (p:Nat) (v:Int):constM (leftM w p v) p=true:=by
  simp only [constM,bA,decide_eq_true_eq];intro a ha;have hu:leftM w p v≠[]:=fun e=>by rw [e] at ha;cases ha
  rw [(mem_leftM.1 ha).2,(mem_leftM.1 (hd_mem hu)).2]
theorem PC {n:Nat}{w:Ws}{p:Nat}(hp:p<n) (hc:constM w p=false) (v:Int):nc n (leftM w p v)<nc n w:=by
  refine EB (p:=p) (fun q _ hq=>?_) (by simpa using hp) (by simp [hc]) (by simp [MW])
  cases h:constM w q
  · rfl
  · rw [EC (fun a ha=>(mem_leftM.1 ha).1) h] at hq;simp at hq
theorem ZO {n:Nat}{a b:List Int}(ha:a.length=n) (hb:b.length=n) (h:∀ p,p<n→cell a p=cell b p):a=b:=by
  apply kX (by rw [ha,hb])
  intro i h1 h2;have:=h i (by omega)
  simpa [cell,aC,h1,h2] using this
theorem zQ5 {n:Nat}{w:Ws}{ids:List Int}(hw:Ok n w) (h:decM w ids=false):∃ p,p<n∧constM w p=false:=by
  apply Classical.byContradiction;intro hn;have hall:∀ p,p<n→constM w p=true:=fun p hp=>by
    cases hc:constM w p
    · exact absurd ⟨p,hp,hc⟩ hn
    · rfl
  have heq:∀ a,a∈w→a=hd w:=fun a ha=>ZO (hw.len a ha) hw.hd_len fun p hp=>by
    have:=hall p hp;simp only [constM,bA,decide_eq_true_eq] at this;exact this a ha
  have:decM w ids=true:=by
    simp only [decM,bA,decide_eq_true_eq];intro id _ a ha;rw [heq a ha]
  rw [this] at h;cases h
theorem K9 {nd:Ws→Nat}{w:Ws}{p:Nat}(hw:w≠[]) (hc:constM w p=false):0<gO nd w p:=by
  unfold gO;rw [hc,if_neg (by simp)]
  have:1+nd (leftM w p (cell (hd w) p))≤mx (w.map fun a=>1+nd (leftM w p (cell a p))):=FI (bB.2 ⟨hd w,hd_mem hw,rfl⟩);omega
theorem O9 {nd:Ws→Nat}{w:Ws}{p:Nat}(hc:constM w p=true):gO nd w p=0:=by simp [gO,hc]
theorem U9 {nd:Ws→Nat}{w:Ws}{p b:Nat}(h:constM w p=false→∀ a,a∈w→1+nd (leftM w p (cell a p))≤b):gO nd w p≤b:=by
  unfold gO;split
  · exact cC _
  · rename_i hc;rw [zR1];intro x hx;obtain ⟨a,ha,rfl⟩:=bB.1 hx;exact h (by simpa using hc) a ha
theorem HB {nd:Ws→Nat}{w:Ws}{p:Nat}(hc:constM w p=false){a:List Int}(ha:a∈w):1+nd (leftM w p (cell a p))≤gO nd w p:=by
  unfold gO;rw [hc,if_neg (by simp)]
  exact FI (bB.2 ⟨a,ha,rfl⟩)
theorem UU {nd:Ws→Nat}{w:Ws}{p:Nat}(hw:w≠[]) (hc:constM w p=false):∃ a,a∈w∧gO nd w p=1+nd (leftM w p (cell a p)):=by
  unfold gO;rw [hc,if_neg (by simp)]
  obtain ⟨x,h1,h2⟩:=zI9 (l:=w.map fun a=>1+nd (leftM w p (cell a p))) (by simpa using hw)
  obtain ⟨a,ha,rfl⟩:=bB.1 h1;exact ⟨a,ha,h2⟩
abbrev need (ids:List Int) (w:Ws):Nat:=(needM ids w).1
theorem MH {n:Nat}{ids:List Int}(f:Ws→Nat) (ok:Ws→Prop) (hl:∀ w,Ok n w→ok w→∀ p,p<n→constM w p=false→∀ a,a∈w→ok (leftM w p (cell a p))∧f (leftM w p (cell a p))<f w) :
    ∀ (k:Nat) (w:Ws),w.length≤k→Ok n w→ok w→need ids w≤f w:=by
  intro k
  induction k with
  | zero=>intro w h hw _;exact absurd (bI (by omega)) hw.ne
  | succ k ih=>
    intro w h hw ho;unfold need;rw [yX];cases hd':decM w ids with
    | true=>simp
    | false=>
      rw [if_neg (by simp),hw.hd_len]
      obtain ⟨p,hp,hc⟩:=zQ5 hw hd';have hle:gO (fun u=>(needM ids u).1) w p≤f w:=U9 fun hc a ha=>by
        have h1:=hl w hw ho p hp hc a ha;have h2:=ih (leftM w p (cell a p)) (by have:=wP hc ha;omega) (hw.left ha) h1.1
        have h2:(needM ids (leftM w p (cell a p))).1≤f (leftM w p (cell a p)):=h2;omega
      have hpos:=K9 (nd:=fun u=>(needM ids u).1) hw.ne hc;rcases rW (gO (fun u=>(needM ids u).1) w) (n+1) n with ⟨h1,h2⟩ | ⟨q,h1,h2,h3,h4,h5,h6⟩
      · rw [h1];have:=h2 p hp;show n+1≤f w;omega
      · rw [h2];have:=h5 p hp;show gO (fun u=>(needM ids u).1) w q≤f w;omega
theorem PB {n:Nat}{w:Ws}(hw:Ok n w) (ids:List Int):need ids w≤nc n w:=
  MH (nc n) (fun _=>True) (fun w _ _ p hp hc a _=>⟨trivial,PC hp hc _⟩) w.length w (aT _) hw trivial
theorem need_le {n:Nat}{w:Ws}(hw:Ok n w) (ids:List Int):need ids w≤n:=bY (PB hw ids) (zR0 n w)
theorem zD7 {n:Nat}{w:Ws}(hw:Ok n w) (ids:List Int){p:Nat}(hp:p<n):gO (need ids) w p≤n:=
  U9 fun hc a ha=>by
    have h1:=PB (hw.left (p:=p) ha) ids;have h2:=PC hp hc (cell a p);have h3:=zR0 n w;omega
theorem need_spec {n:Nat}{w:Ws}(hw:Ok n w) (ids:List Int):(decM w ids=true∧needM ids w=(0,-1))∨(decM w ids=false∧∃ p,p<n∧constM w p=false∧needM ids w=(gO (need ids) w p,(p:Int))∧0<gO (need ids) w p∧∀ q,q<n→constM w q=false→gO (need ids) w p≤gO (need ids) w q):=by
  cases hd':decM w ids with
  | true=>exact .inl ⟨rfl,by rw [yX,hd',if_pos rfl]⟩
  | false=>
    refine .inr ⟨rfl,?_⟩;rw [yX,hd',if_neg (by simp),hw.hd_len]
    obtain ⟨p,hp,hc⟩:=zQ5 hw hd';have hpos:=K9 (nd:=need ids) hw.ne hc;rcases rW (gO (need ids) w) (n+1) n with ⟨h1,h2⟩ | ⟨q,h1,h2,h3,h4,h5,h6⟩
    · have:=h2 p hp;have:=zD7 hw ids hp;omega
    · refine ⟨q,h1,?_,h2,h3,fun r hr hc'=>?_⟩
      · cases h:constM w q
        · rfl
        · rw [O9 h] at h3;omega
      · have:=h5 r hr;have:=K9 (nd:=need ids) hw.ne hc';omega
theorem need_zero {n:Nat}{w:Ws}(hw:Ok n w) (ids:List Int):need ids w=0↔decM w ids=true:=by
  rcases need_spec hw ids with ⟨h1,h2⟩ | ⟨h1,p,_,_,h2,h3,_⟩
  · simp [need,h1,h2]
  · simp only [need,h1,h2];constructor
    · intro h;omega
    · intro h;cases h
theorem need_next {n:Nat}{w:Ws}(hw:Ok n w) (ids:List Int){p:Nat}(h:(needM ids w).2=(p:Int)){a:List Int}(ha:a∈w):p<n∧need ids (leftM w p (cell a p))<need ids w∧(leftM w p (cell a p)).length<w.length:=by
  rcases need_spec hw ids with ⟨h1,h2⟩ | ⟨h1,q,hq,hc,h2,h3,_⟩
  · rw [h2] at h;simp only at h;omega
  · rw [h2] at h;simp only at h;obtain rfl:q=p:=by omega
    refine ⟨hq,?_,wP hc ha⟩;show _<(needM ids w).1;rw [h2];have:=HB (nd:=need ids) hc ha;show need ids (leftM w q (cell a q))<gO (need ids) w q;omega
theorem zO1 {w u:Ws}{ids ids':List Int}(hs:∀ a,a∈u→a∈w) (hi:∀ x,x∈ids'→x∈ids) (h:decM w ids=true):decM u ids'=true:=by
  simp only [decM,bA,decide_eq_true_eq] at *;intro id hid a ha;have hu:u≠[]:=fun e=>by rw [e] at ha;cases ha
  rw [h id (hi id hid) a (hs a ha),h id (hi id hid) _ (hs _ (hd_mem hu))]
theorem need_fewer {n:Nat}{ids ids':List Int}(hi:∀ x,x∈ids'→x∈ids):∀ (k:Nat) (w u:Ws),w.length≤k→Ok n w→u≠[]→(∀ a,a∈u→a∈w)→need ids' u≤need ids w:=by
  intro k
  induction k with
  | zero=>intro w u h hw;exact absurd (bI (by omega)) hw.ne
  | succ k ih=>
    intro w u h hw hu hs;have ho:=hw.sub hu hs;rcases need_spec hw ids with ⟨h1,h2⟩ | ⟨h1,p,hp,hc,h2,h3,h4⟩
    · rw [(need_zero ho ids').2 (zO1 hs hi h1)];exact cC _
    · have hlt:∀ a,a∈u→need ids' (leftM u p (cell a p))+1≤need ids w:=fun a ha=>by
        have h5:=ih (leftM w p (cell a p)) (leftM u p (cell a p)) (by have:=wP hc (hs a ha);omega) (hw.left (hs a ha)) (PE ha) (fun b hb=>mem_leftM.2 ⟨hs b (mem_leftM.1 hb).1,(mem_leftM.1 hb).2⟩)
        have h6:=(need_next hw ids (by rw [h2]) (hs a ha)).2.1
        omega
      cases hcu:constM u p with
      | true=>
        have h5:=hlt (hd u) (hd_mem hu);rw [IY hcu (hd_mem hu)] at h5;omega
      | false=>
        rcases need_spec ho ids' with ⟨g1,g2⟩ | ⟨g1,q,hq,gc,g2,g3,g4⟩
        · show (needM ids' u).1≤_;rw [g2];exact cC _
        · obtain ⟨a,ha,h5⟩:=UU (nd:=need ids') hu hcu;have h6:=g4 p hp hcu;have h7:=hlt a ha;show (needM ids' u).1≤_;rw [g2];show gO (need ids') u q≤_;omega
def yI9 (w:Ws):Prop:=∀ a,a∈w→∀ b,b∈w→∀ x,x∈a→x∈b
theorem zJ {a:List Int}{p:Nat}(hp:p<a.length):cell a p∈a:=by
  simp only [cell,aC,aA hp,iL];exact aI hp
theorem XM {a:List Int}{x:Int}(h:x∈a):∃ p,p<a.length∧cell a p=x:=by
  obtain ⟨i,hi,e⟩:=iU.1 h;exact ⟨i,hi,by simp [cell,aC,hi,e]⟩
theorem KI {a:List Int}(h:a.Nodup){p q:Nat}(hp:p<a.length) (hq:q<a.length) (e:cell a p=cell a q):p=q:=by
  simp only [cell,aC,aA hp,aA hq,iL] at e;exact (BK h).1 e
theorem mC {n:Nat}{w:Ws}(hw:Ok n w) (hs:yI9 w){p:Nat}(hp:p<n) (hc:constM w p=false):∃ q,q<n∧q≠p∧constM w q=false:=by
  unfold constM at hc;rw [vT] at hc;obtain ⟨a,ha,hne⟩:=hc;have hne:cell a p≠cell (hd w) p:=by simpa using hne
  have hm:=hd_mem hw.ne;obtain ⟨q,hq,e⟩:=XM (hs a ha _ hm _ (zJ (p:=p) (by rw [hw.len a ha];exact hp)))
  rw [hw.hd_len] at hq;have hqp:q≠p:=fun h=>by rw [h] at e;exact hne e.symm
  refine ⟨q,hq,hqp,?_⟩;cases h:constM w q
  · rfl
  · simp only [constM,bA,decide_eq_true_eq] at h;exact absurd (KI (hw.nd a ha) (by rw [hw.len a ha];exact hq) (by rw [hw.len a ha];exact hp) ((h a ha).trans e)) hqp
theorem QA {α:Type}(q:α→Bool):∀ (l:List α) (k:Int),(∃ (p:Nat) (h:p<l.length),zD q l k=k+p∧q l[p]=true)∨(zD q l k = -1∧∀ x,x∈l→q x=false)
  | [],k=>.inr ⟨rfl,fun x h=>by cases h⟩
  | x::r,k=>by
    by_cases e:q x=true
    · exact .inl ⟨0,by simp,by simp [zD,e],e⟩
    · have e':q x=false:=by simpa using e
      rcases QA q r (k+1) with ⟨p,h,h1,h2⟩ | ⟨h1,h2⟩
      · refine .inl ⟨p+1,by simp;omega,?_,by simpa using h2⟩
        simp only [zD,e',Bool.false_eq_true,if_false,h1]
        push_cast;omega
      · refine .inr ⟨by simp [zD,e',h1],fun y hy=>?_⟩
        rcases bT.1 hy with rfl | hy
        · exact e'
        · exact h2 y hy
theorem GJ (a:List Int) (id:Int):(∃ p:Nat,p<a.length∧GV a id=p∧cell a p=id)∨(GV a id = -1∧id∉a):=by
  unfold GV;rcases QA (fun x=>decide (id=x)) a 0 with ⟨p,h,h1,h2⟩ | ⟨h1,h2⟩
  · refine .inl ⟨p,h,by omega,?_⟩
    unfold cell;rw [aC,aA h];exact (of_decide_eq_true h2).symm
  · refine .inr ⟨h1,fun h=>?_⟩
    have:=h2 id h;simp at this
theorem dec_iff {n:Nat}{w:Ws}(hw:Ok n w) (ids:List Int):decM w ids=true↔∀ id,id∈ids→∀ a,a∈w→∀ p,p<n→cell a p=id→∀ b,b∈w→cell b p=id:=by
  have h0:=hd_mem hw.ne;have uniq:∀ a,a∈w→∀ id p,p<n→cell a p=id→GV a id=p:=fun a ha id p hp e=>by
    rcases GJ a id with ⟨q,h1,h2,h3⟩ | ⟨h1,h2⟩
    · rw [h2,KI (hw.nd a ha) h1 (by rw [hw.len a ha];exact hp) (h3.trans e.symm)]
    · exact absurd (e▸zJ (by rw [hw.len a ha];exact hp)) h2
  constructor
  · intro h id hid a ha p hp e b hb;unfold decM at h;rw [bA] at h;have h1:=h id hid;rw [bA] at h1;have ea:=of_decide_eq_true (h1 a ha);have eb:=of_decide_eq_true (h1 b hb);rw [uniq a ha id p hp e] at ea;rw [← ea] at eb;rcases GJ b id with ⟨q,g1,g2,g3⟩ | ⟨g1,g2⟩
    · have:q=p:=by omega
      rw [← this];exact g3
    · omega
  · intro h;unfold decM;rw [bA];intro id hid;rw [bA];intro a ha;refine decide_eq_true ?_;rcases GJ (hd w) id with ⟨p,g1,g2,g3⟩ | ⟨g1,g2⟩
    · rw [hw.hd_len] at g1;rw [g2];exact uniq a ha id p g1 (h id hid _ h0 p g1 g3 a ha)
    · rcases GJ a id with ⟨p,k1,k2,k3⟩ | ⟨k1,k2⟩
      · rw [hw.len a ha] at k1;have:=h id hid a ha p k1 k3 _ h0;exact absurd (this▸zJ (by rw [hw.hd_len];exact k1)) g2
      · rw [g1,k1]
def er (k:Nat) (w:Ws):Ws:=w.map fun a=>a.eraseIdx k
def M6 (k p:Nat):Nat:=if p<k then p else p+1
theorem U1 (k p:Nat) (a:List Int):cell (a.eraseIdx k) p=cell a (M6 k p):=by
  unfold cell M6;rw [aC,aC,List.getElem?_eraseIdx];split <;> rfl
theorem zJ6 {n k p:Nat}(hp:p<n-1):M6 k p<n:=by unfold M6;split <;> omega
theorem zJ5 {n k p:Nat}(hk:k<n) (hp:p<n) (h:p≠k):∃ q,q<n-1∧M6 k q=p:=by
  by_cases e:p<k
  · exact ⟨p,by omega,by unfold M6;rw [if_pos e]⟩
  · exact ⟨p-1,by omega,by unfold M6;rw [if_neg (by omega)];omega⟩
theorem Ok.er {n:Nat}{w:Ws}(h:Ok n w){k:Nat}(hk:k<n):Ok (n-1) (er k w) where
  ne:=fun e=>h.ne (kM.1 e)
  len:=fun a ha=>by
    obtain ⟨b,hb,rfl⟩:=bB.1 ha;rw [fJ,h.len b hb,if_pos hk]
  nd:=fun a ha=>by
    obtain ⟨b,hb,rfl⟩:=bB.1 ha;exact (h.nd b hb).sublist (qA _ _)
  pos:=fun a ha x hx=>by
    obtain ⟨b,hb,rfl⟩:=bB.1 ha;exact h.pos b hb x ((qA _ _).mem hx)
theorem yF1 {k:Nat}{w:Ws}(h:w≠[]):hd (er k w)=(hd w).eraseIdx k:=by
  cases w with
  | nil=>exact absurd rfl h
  | cons a l=>rfl
theorem ZG {k p:Nat}{w:Ws}(h:w≠[]):constM (er k w) p=constM w (M6 k p):=by
  unfold constM;rw [yF1 h];unfold er;rw [List.all_map];congr 1;funext a;simp only [Function.comp_apply,U1]
theorem zK0 (k p:Nat) (w:Ws) (v:Int):leftM (er k w) p v=er k (leftM w (M6 k p) v):=by
  unfold leftM er;rw [List.filter_map];congr 1;refine zD1 fun a _=>?_
  simp only [Function.comp_apply,U1]
theorem zZ5 {n:Nat}{w:Ws}(hw:Ok n w){k:Nat}(hk:k<n){ids:List Int}(h:decM w ids=true):decM (er k w) ids=true:=by
  rw [dec_iff (hw.er hk)];rw [dec_iff hw] at h;intro id hid a ha p hp e b hb;obtain ⟨a',ha',rfl⟩:=bB.1 ha;obtain ⟨b',hb',rfl⟩:=bB.1 hb;rw [U1] at e ⊢;exact h id hid a' ha' _ (zJ6 hp) e b' hb'
theorem need_er {n:Nat}{ids:List Int}{k:Nat}(hk:k<n):∀ (m:Nat) (w:Ws),w.length≤m→Ok n w→constM w k=true→need ids (er k w)≤need ids w:=by
  intro m
  induction m with
  | zero=>intro w h hw;exact absurd (bI (by omega)) hw.ne
  | succ m ih=>
    intro w h hw hc;have ho:=hw.er hk;rcases need_spec hw ids with ⟨h1,h2⟩ | ⟨h1,p,hp,hcp,h2,h3,h4⟩
    · rw [(need_zero ho ids).2 (zZ5 hw hk h1)];exact cC _
    · obtain ⟨q,hq,rfl⟩:=zJ5 hk hp (fun e=>by rw [e,hc] at hcp;cases hcp)
      have hce:constM (er k w) q=false:=by rw [ZG hw.ne];exact hcp
      have hle:gO (need ids) (er k w) q≤gO (need ids) w (M6 k q):=U9 fun _ a ha=>by
        obtain ⟨a',ha',rfl⟩:=bB.1 ha;rw [U1,zK0];have h5:=ih (leftM w (M6 k q) (cell a' (M6 k q))) (by have:=wP hcp ha';omega) (hw.left ha') (EC (fun b hb=>(mem_leftM.1 hb).1) hc)
        have h6:=HB (nd:=need ids) hcp ha';omega
      have e:need ids w=gO (need ids) w (M6 k q):=by show (needM ids w).1=_;rw [h2]
      rcases need_spec ho ids with ⟨g1,g2⟩ | ⟨g1,r,hr,gc,g2,g3,g4⟩
      · show (needM ids (er k w)).1≤_;rw [g2];exact cC _
      · have:=g4 q hq hce;rw [e];show (needM ids (er k w)).1≤_;rw [g2];show gO (need ids) (er k w) r≤_;omega
end Go.Lk
namespace Go.Ld
open Go.Ab Go.Proofs.YtojgimibalokkaaGreat
def zI4 (out:Lk.Ws) (w:W):Lk.Ws:=if w.1∈out then out else out++[w.1]
def sN (l:List W):Lk.Ws:=l.foldl zI4 []
theorem XH (l:List W) (w:W):sN (l++[w])=zI4 (sN l) w:=by unfold sN;rw [vR];rfl
theorem zI3 {o:Lk.Ws}{w:W}{x:List Int}:x∈zI4 o w↔x∈o∨w.1=x:=by
  unfold zI4;split
  · rename_i h;exact ⟨.inl,fun q=>q.elim id fun e=>e▸h⟩
  · rw [bG,bH];exact ⟨fun q=>q.imp id Eq.symm,fun q=>q.imp id Eq.symm⟩
theorem DT:∀ {l:List W}{o:Lk.Ws}{x:List Int},x∈l.foldl zI4 o↔x∈o∨∃ w,w∈l∧w.1=x
  | [],o,x=>by simp
  | w::l,o,x=>by
    rw [jT,DT,zI3];simp only [bT,exists_eq_or_imp,or_assoc]
theorem kT {l:List W}{x:List Int}:x∈sN l↔∃ w,w∈l∧w.1=x:=by
  unfold sN;rw [DT];simp
theorem DU:∀ (l:List W) (o:Lk.Ws),(l.foldl zI4 o).length≤o.length+l.length
  | [],o=>by simp
  | w::l,o=>by
    have h1:=DU l (zI4 o w);have h2:(zI4 o w).length≤o.length+1:=by unfold zI4;split <;> simp
    rw [jT,List.length_cons];omega
theorem OY (l:List W):(sN l).length≤l.length:=by have:=DU l [];unfold sN;simpa using this
theorem FF {l:List W}(h:l≠[]):sN l≠[]:=by
  obtain ⟨w,hw⟩:=List.exists_mem_of_ne_nil _ h;exact List.ne_nil_of_mem (kT.2 ⟨w,hw,rfl⟩)
theorem xP {n:Nat}{g:G}(h:uB n g) (ne:g.2≠[]):Lk.Ok g.1.length (sN g.2) where
  ne:=FF ne
  len:=fun a ha=>by obtain ⟨w,hw,rfl⟩:=kT.1 ha;exact (h.ws w hw).pl
  nd:=fun a ha=>by obtain ⟨w,hw,rfl⟩:=kT.1 ha;exact (h.ws w hw).nd
  pos:=fun a ha x hx=>by obtain ⟨w,hw,rfl⟩:=kT.1 ha;exact ((h.ws w hw).pr x hx).1
abbrev nG (ids:List Int) (g:G):Nat:=Lk.need ids (sN g.2)
def mI (ids:List Int) (gs:List G):Nat:=(gs.map (nG ids)).sum
theorem nE (ids:List Int) (g:G) (gs:List G):mI ids (g::gs)=nG ids g+mI ids gs:=by simp [mI]
theorem G3 (ids:List Int) (a b:List G):mI ids (a++b)=mI ids a+mI ids b:=by simp [mI]
theorem RN {ids:List Int}{a b:List G}(h:a.Perm b):mI ids a=mI ids b:=(h.map _).sum_nat
theorem CM {ids:List Int}{F:G→List G}:∀ {l:List G},(∀ g,g∈l→mI ids (F g)≤nG ids g)→mI ids (l.flatMap F)≤mI ids l
  | [],_=>aT _
  | g::l,h=>by
    have h1:=h g aR;have h2:=CM (ids:=ids) (F:=F) (l:=l) fun x hx=>h x (aL _ hx);rw [bJ,G3,nE];omega
theorem HN {ids:List Int}{F:G→G}:∀ {l:List G},(∀ g,g∈l→nG ids (F g)≤nG ids g)→mI ids (l.map F)≤mI ids l
  | [],_=>aT _
  | g::l,h=>by
    have h1:=h g aR;have h2:=HN (ids:=ids) (F:=F) (l:=l) fun x hx=>h x (aL _ hx);rw [List.map_cons,nE,nE];omega
theorem HM {ids:List Int}{l:List G}{g:G}(h:g∈l):nG ids g≤mI ids l:=by
  obtain ⟨A,B,rfl⟩:=UM h;rw [G3,nE];omega
theorem OG {ids:List Int}{n:Nat}:∀ {l:List G},(∀ g,g∈l→nG ids g≤n)→mI ids l≤l.length*n
  | [],_=>cC _
  | g::l,h=>by
    have h1:=h g aR;have h2:=OG (ids:=ids) (l:=l) fun x hx=>h x (aL _ hx);rw [nE,List.length_cons,Nat.succ_mul];omega
theorem zV9 {ids:List Int}{n:Nat}{g:G}{l:List W}(h:uB n g) (ne:g.2≠[]) (hl:l≠[]) (hs:∀ w,w∈l→∃ v,v∈g.2∧v.1=w.1):Lk.need ids (sN l)≤nG ids g:=
  Lk.need_fewer (fun _ h=>h) _ _ _ (aT _) (xP h ne) (FF hl) fun a ha=>by
    obtain ⟨w,hw,rfl⟩:=kT.1 ha;obtain ⟨v,hv,e⟩:=hs w hw;exact kT.2 ⟨v,hv,e⟩
theorem zW0 {ids:List Int}{n:Nat}{g:G}{k:Nat}(h:uB n g) (hc:gX g=some k):nG ids (mY g k)=0:=by
  have ho:=xP (h.one hc) (by unfold mY;simp)
  refine (Lk.need_zero ho ids).2 ?_;rw [Lk.dec_iff ho];intro id _ a ha p _ e b hb;obtain ⟨w,hw,rfl⟩:=kT.1 ha;obtain ⟨v,hv,rfl⟩:=kT.1 hb;rw [bH.1 hw] at e;rw [bH.1 hv];exact e
theorem zI8 {ids:List Int}{n:Nat}{g:G}{k:Nat}(h:uB n g) (hc:gX g=some k):nG ids (jY g k)≤nG ids g:=by
  obtain ⟨c1,c2,c3,c4⟩:=jE hc;have ho:=xP h c2;have hk:Lk.constM (sN g.2) k=true:=by
    have key:∀ a,a∈sN g.2→Lk.cell a k=gP (iI g) k:=fun a ha=>by
      obtain ⟨w,hw,rfl⟩:=kT.1 ha;exact (c4 w hw).1
    unfold Lk.constM;rw [bA];intro a ha;rw [key a ha,key _ (Lk.hd_mem ho.ne)];simp
  refine bY ?_ (Lk.need_er c3 _ _ (aT _) ho hk);refine Lk.need_fewer (fun _ h=>h) _ _ _ (aT _) (ho.er c3) (FF (OP c2)) fun a ha=>?_
  obtain ⟨w,hw,rfl⟩:=kT.1 ha;obtain ⟨v,hv,rfl⟩:=X4 hw;exact bB.2 ⟨v.1,kT.2 ⟨v,hv,rfl⟩,rfl⟩
theorem CY {ids:List Int}{n:Nat}:∀ (m:Nat){g:G},uB n g→mI ids (mL m g)≤nG ids g
  | 0,g,_=>by simp [mL,mI]
  | m+1,g,h=>by
    unfold mL;split
    · simp [mI]
    · rename_i k hc;have h1:=CY (ids:=ids) m (h.rest hc);rw [nE,zW0 h hc];have:=zI8 (ids:=ids) h hc;omega
theorem MC {ids:List Int}{n:Nat}{l:List G}(h:∀ g,g∈l→uB n g):mI ids (sI l)≤mI ids l:=by
  unfold sI;rw [RN (dZ cG _)];exact CM fun g hg=>CY _ (h g hg)
theorem zE4 {c:Cx}{N:List G}(h:(uD c N).any (fun g=>g.2.isEmpty)=false):∀ g,g∈paid c N→g.2≠[]:=fun g hg q=>by
  have:g∈uD c N:=by
    unfold uD sI;refine (dZ cG _).mem_iff.2 (fZ.2 ⟨g,hg,?_⟩);rw [IG q];exact bH.2 rfl
  rw [R6] at h;have:=h g this;rw [List.isEmpty_iff.2 q] at this;exact this rfl
theorem RK {c:Cx}{M:Int}{ids:List Int}{N:List G}(hm:nY c M N) (h:(uD c N).any (fun g=>g.2.isEmpty)=false):mI ids (uD c N)≤mI ids N:=by
  have hne:=zE4 h;have hp:=IJ hm hne;refine bY (MC hp.out.ok) ?_;unfold paid;refine HN fun g hg=>?_
  exact zV9 (hm.out.ok g hg) (hm.ne g hg) (hne _ (bB.2 ⟨g,hg,rfl⟩)) fun w hw=>⟨w,(nL.1 hw).1,rfl⟩
theorem VV {ids:List Int}{all:List G}{i:Nat}{g y:G}(h:all[i]? = some g):mI ids (all.set i y)+nG ids g=mI ids all+nG ids y:=by
  obtain ⟨A,B,e1,e2⟩:=pG (y:=y) h;rw [e2,e1,G3,G3,nE,nE];omega
theorem DF {c:Cx}{s:Ev}{g:G}(hk:s.k=5){w:W}:w∈jU c s g↔w∈g.2∧gP w (g.1.idxOf s.a)=s.n:=by
  unfold jU;dsimp only;rw [fZ];have hb:∀ v:W,jK c v (g.1.idxOf s.a) s=(v,decide (gP v (g.1.idxOf s.a)=s.n)):=fun v=>by
    unfold jK;rw [if_neg (by omega),if_neg (by omega),if_neg (by omega),if_neg (by omega),if_pos hk]
  constructor
  · rintro ⟨v,hv,hw⟩;rw [hb,if_neg (show ¬ s.k=4 by omega),List.append_nil] at hw
    dsimp only at hw;split at hw
    · rename_i e;obtain rfl:=bH.1 hw;exact ⟨hv,of_decide_eq_true e⟩
    · cases hw
  · rintro ⟨hv,e⟩;refine ⟨w,hv,?_⟩;rw [hb];dsimp only;rw [if_pos (decide_eq_true e)];exact bG.2 (.inl (bH.2 rfl))
theorem SX {c:Cx}{gs:List G}{ids:List Int}{s:Ev}{g:G}{p:Nat}(h:kQ c gs) (m0:0≤c.m) (m1:c.m≤1048576) (hr:gH c.bs.length s=true) (hk:s.k=5) (hg:g∈gs) (hp:p<g.1.length) (ha:s.a=g.1.getD p 0)
    (hn:(Lk.needM ids (sN g.2)).2=(p:Int)) (hw:∃ w,w∈g.2∧gP w p=s.n) (h0:(lR c gs s).1=0):mI ids (lR c gs s).2<mI ids gs:=by
  have n12:=h.mid.n12;have so:=uV h (by omega) m0 hr (by omega)
  obtain ⟨i,g',hi,hgi,hgm,hat,hag,hbg⟩:=so.at;have hap:s.a∈g.1:=by rw [ha,aC,aA hp];exact aI hp
  obtain rfl:=H3 h.mid.out.nd hgm hg hag hap;have og:=h.mid.out.ok _ hgm;have hidx:g'.1.idxOf s.a=p:=by
    rw [ha,aC,aA hp];exact og.nd.idxOf_getElem p hp
  obtain ⟨w0,hw0,e0⟩:=hw;have hin:w0∈jU c s g':=(DF hk).2 ⟨hw0,by rw [hidx];exact e0⟩
  obtain ⟨v0,hv0,_⟩:=wM hin;have hne:fN (jU c s g')≠[]:=List.ne_nil_of_mem hv0;have hlen:=IP c s g';have hsw:yC8 s=1:=by unfold yC8;rw [if_neg (by omega)]
  have hwl:=h.mid.wl _ hgm;rw [hsw] at hlen;have hle:(fN (jU c s g')).length≤1000:=by omega
  obtain ⟨hmid,_⟩:=so.next (by omega) hgi hag hbg hne hle
  unfold lR at h0 ⊢;rw [if_pos hr,if_neg (show ¬ s.k=4 by omega)] at h0 ⊢
  unfold wJ at h0 ⊢;dsimp only at h0 ⊢;rw [hat,hi,bR,if_neg hne,if_neg (by omega)] at h0 ⊢
  cases hany:(uD c (gs.set i (g'.1,fN (jU c s g')))).any (fun g=>g.2.isEmpty) with
  | true=>rw [hany] at h0;simp at h0
  | false=>
    rw [if_neg (by simp)]
    dsimp only;have h1:=RK (ids:=ids) hmid hany;have h2:=VV (ids:=ids) (y:=(g'.1,fN (jU c s g'))) hgi;have ok:=xP og (h.mid.ne _ hgm);have hm0:w0.1∈sN g'.2:=kT.2 ⟨w0,hw0,rfl⟩;obtain ⟨_,h3,_⟩:=Lk.need_next ok ids hn hm0;have h4:nG ids (g'.1,fN (jU c s g'))≤Lk.need ids (Lk.leftM (sN g'.2) p (Lk.cell w0.1 p)):=
      Lk.need_fewer (fun _ h=>h) _ _ _ (aT _) (ok.left hm0) (FF hne) fun a ha'=>by
        obtain ⟨w,hw,rfl⟩:=kT.1 ha';obtain ⟨k1,k2⟩:=(DF hk).1 (qX hw);rw [hidx] at k2;exact Lk.mem_leftM.2 ⟨kT.2 ⟨w,k1,rfl⟩,k2.trans e0.symm⟩
    show mI ids (uD c (gs.set i (g'.1,fN (jU c s g'))))<_;change Lk.need ids _<nG ids g' at h3;omega
def tQ (ids:List Int) (x:Int × Nat) (g:G):Int × Nat:=(if x.1<0∧0≤(Lk.needM ids (sN g.2)).2 then g.1.getD (Lk.needM ids (sN g.2)).2.toNat 0 else x.1,x.2+nG ids g)
def lT (ids:List Int) (gs:List G):Int × Nat:=gs.foldl (tQ ids) (-1,0)
theorem LY (ids:List Int) (gs:List G) (g:G):lT ids (gs++[g])=tQ ids (lT ids gs) g:=by unfold lT;rw [vR];rfl
theorem L7 (ids:List Int):∀ (gs:List G) (x:Int × Nat),(gs.foldl (tQ ids) x).2=x.2+mI ids gs
  | [],x=>by simp [mI]
  | g::gs,x=>by
    rw [jT,L7 ids gs,nE];show x.2+nG ids g+_=_;omega
def GQ (ids:List Int) (gs:List G) (b:Int):Prop:=∃ g p,g∈gs∧p<g.1.length∧(Lk.needM ids (sN g.2)).2=((p:Nat):Int)∧b=g.1.getD p 0
theorem CX {ids:List Int}{n:Nat}:∀ {gs:List G},(∀ g,g∈gs→uB n g∧g.2≠[])→∀ (x:Int × Nat),(0≤x.1→(gs.foldl (tQ ids) x).1=x.1)∧(x.1<0→((gs.foldl (tQ ids) x).1=x.1∧mI ids gs=0)∨GQ ids gs (gs.foldl (tQ ids) x).1)
  | [],_,x=>⟨fun _=>rfl,fun _=>.inl ⟨rfl,rfl⟩⟩
  | g::gs,h,x=>by
    obtain ⟨h1,h2⟩:=CX (ids:=ids) (gs:=gs) (fun y hy=>h y (aL _ hy)) (tQ ids x g);obtain ⟨og,hne⟩:=h g aR;have ok:=xP og hne;rw [jT];constructor
    · intro hx;have e:(tQ ids x g).1=x.1:=if_neg (by omega)
      rw [h1 (by rw [e];exact hx),e]
    · intro hx;by_cases hq:0≤(Lk.needM ids (sN g.2)).2
      · have e:(tQ ids x g).1=g.1.getD (Lk.needM ids (sN g.2)).2.toNat 0:=if_pos ⟨hx,hq⟩;have e2:(Lk.needM ids (sN g.2)).2=((Lk.needM ids (sN g.2)).2.toNat:Int):=by omega
        obtain ⟨h3,_⟩:=Lk.need_next ok ids e2 (Lk.hd_mem ok.ne);have hb:0≤(tQ ids x g).1:=by
          rw [e,aC,aA h3];exact (og.rg _ (aI h3)).1
        exact .inr ⟨g,_,aR,h3,e2,(h1 hb).trans e⟩
      · have e:(tQ ids x g).1=x.1:=if_neg (by omega)
        have z:nG ids g=0:=by
          rcases Lk.need_spec ok ids with ⟨_,k⟩ | ⟨_,p,_,_,k,_⟩
          · show (Lk.needM ids (sN g.2)).1=0;rw [k]
          · rw [k] at hq;exact absurd (Int.natCast_nonneg p) hq
        rcases h2 (by rw [e];exact hx) with ⟨k1,k2⟩ | ⟨g',p,k1,k2,k3,k4⟩
        · exact .inl ⟨k1.trans e,by rw [nE,z,k2]⟩
        · exact .inr ⟨g',p,aL _ k1,k2,k3,k4⟩
theorem WQ {ids:List Int}{n:Nat}{gs:List G}{b:Int}(h:∀ g,g∈gs→uB n g∧g.2≠[]) (hp:GQ ids gs b):0<mI ids gs:=by
  obtain ⟨g,p,hg,h1,h2,_⟩:=hp;obtain ⟨og,hne⟩:=h g hg;have ok:=xP og hne;have k1:_<nG ids g:=(Lk.need_next ok ids h2 (Lk.hd_mem ok.ne)).2.1;have k2:=HM (ids:=ids) hg;omega
theorem kQ.all {c:Cx}{gs:List G}(h:kQ c gs):∀ g,g∈gs→uB c.bs.length g∧g.2≠[]:=fun g hg=>⟨h.mid.out.ok g hg,h.mid.ne g hg⟩
theorem OR {c:Cx}{gs:List G}(ids:List Int) (h:kQ c gs):(lT ids gs).2=mI ids gs∧((lT ids gs).1 = -1∧mI ids gs=0∨0<mI ids gs∧GQ ids gs (lT ids gs).1):=by
  refine ⟨by unfold lT;rw [L7];simp,?_⟩
  rcases (CX (ids:=ids) h.all (-1,0)).2 (by decide) with h1 | h1
  · exact .inl h1
  · exact .inr ⟨WQ h.all h1,h1⟩
theorem yE2 {c:Cx}{gs:List G}{ids:List Int}(h:kQ c gs):∀ g,g∈gs→nG ids g≤6:=fun g hg=>
  bY (Lk.need_le (xP (h.all g hg).1 (h.all g hg).2) ids) (h.all g hg).1.ln
theorem VP {c:Cx}{gs:List G}{ids:List Int}(h:kQ c gs) (k:Nat):mI ids (gs.take k)≤72:=by
  have h1:=OG (ids:=ids) (n:=6) (l:=gs.take k) fun g hg=>yE2 h g (eK hg);have h2:gs.length≤12:=bY h.mid.out.len h.mid.out.ln;have h3:(gs.take k).length≤12:=by rw [bE];omega
  have:=fY 6 h3;omega
theorem SW {c:Cx}{gs:List G}{ps:List Int}{bs:List BX}{M:Int}{ids:List Int}{b:Int}(hc:qP c) (h:rE c gs ps bs M) (hp:GQ ids gs b) :
    0≤b∧b<ps.length∧(lR c gs ⟨5,b,0,ps.getD b.toNat 0,[]⟩).1=0∧rE c (lR c gs ⟨5,b,0,ps.getD b.toNat 0,[]⟩).2 ps bs M∧mI ids (lR c gs ⟨5,b,0,ps.getD b.toNat 0,[]⟩).2<mI ids gs:=by
  obtain ⟨g,p,hg,h1,h2,rfl⟩:=hp;have og:=h.gk.mid.out.ok g hg;have hmem:g.1.getD p 0∈g.1:=by rw [aC,aA h1];exact aI h1
  obtain ⟨b0,b1⟩:=og.rg _ hmem;have hpl:=h.re.len;obtain ⟨i0,i1⟩:=h.re.pq.at b0 b1;have n12:=h.gk.mid.n12;have hgb:g.1[p]=g.1.getD p 0:=by rw [aC,aA h1];rfl
  generalize g.1.getD p 0=b at *;obtain ⟨f,hf,hs⟩:=h.f;have hr:gH c.bs.length ⟨5,b,0,ps.getD b.toNat 0,[]⟩=true:=by
    unfold gH;dsimp only;rw [if_neg (by decide),if_neg (by decide),if_neg (by decide),if_pos rfl,decide_eq_true ⟨b0,by omega⟩,decide_eq_true (.inr rfl),decide_eq_true (.inr rfl),decide_eq_true ⟨i0,by omega⟩];rfl
  have hag:GL c ps (lS bs) ⟨5,b,0,ps.getD b.toNat 0,[]⟩=true:=by
    unfold GL BB;simp
  have hcan:rR c ps (lS bs) ⟨5,b,0,ps.getD b.toNat 0,[]⟩ 0=true:=by
    unfold rR C5;simp
  have hmis:rD c ps ⟨5,b,0,ps.getD b.toNat 0,[]⟩=0:=by
    unfold rD UR;simp
  have hM:=h.m1;have hst:=h.step hc hr hag hcan (by rw [hmis];omega)
  have e1:rS ps ⟨5,b,0,ps.getD b.toNat 0,[]⟩ 0=ps:=by unfold rS;simp
  have e2:yC ps bs ⟨5,b,0,ps.getD b.toNat 0,[]⟩ 0=bs:=by unfold yC;simp
  rw [hmis,e1,e2,Int.add_zero] at hst;have hw:∃ w,w∈g.2∧gP w p=ps.getD b.toNat 0:=by
    obtain ⟨w,hw,hfw⟩:=uT hs hg;refine ⟨w,hw,?_⟩;rw [N6 hfw h1,hgb];exact (hf b b0 b1).1
  have hn6:(lR c gs ⟨5,b,0,ps.getD b.toNat 0,[]⟩).1≠6:=by
    have so:=uV h.gk (by omega) hc.s.1 hr (show (5:Int)≠4 by decide)
    obtain ⟨i,g',hi,hgi,hgm,hat,_⟩:=so.at;have h3:=IP c ⟨5,b,0,ps.getD b.toNat 0,[]⟩ g';have h4:=h.gk.mid.wl _ hgm;rw [show yC8 ⟨5,b,0,ps.getD b.toNat 0,[]⟩=1 from if_neg (show ¬ (5:Int)=4 by decide)] at h3
    unfold lR;rw [if_pos hr,if_neg (show ¬ (5:Int)=4 by decide)]
    unfold wJ;dsimp only at hat ⊢;rw [hat];split
    · show (26:Int)≠6;decide
    · split
      · omega
      · split
        · show (26:Int)≠6;decide
        · show (0:Int)≠6;decide
  obtain ⟨k0,k1,_⟩:=hst.resolve_left hn6;exact ⟨b0,by omega,k0,k1,SX h.gk hc.s.1 hc.s.2.1 hr rfl hg h1 (by show b=_;rw [aC,aA h1];exact hgb.symm) h2 hw k0⟩
theorem zF2 {c:Cx}{gs:List G}{ids:List Int}(h:kQ c gs) (h0:mI ids gs=0):∀ g,g∈gs→Lk.decM (sN g.2) ids=true:=fun g hg=>by
  have h1:=HM (ids:=ids) hg;have h2:nG ids g=0:=by omega
  exact (Lk.need_zero (xP (h.all g hg).1 (h.all g hg).2) ids).1 h2
theorem WN {g:G}{i:Nat}{x:Int}(hx:x∈qC g i) (h:∀ y,y∈qC g i→y=x):(YG (qC g i)).2=true:=by
  have hs:(jJ (H9 g i)).Pairwise (·≤·):=by
    unfold jJ;have:=BI (le:=fun x y:Int=>decide (x≤y)) (by intro a b c h1 h2;simp at *;omega) (by intro a b;simp;omega) (H9 g i)
    exact this.imp (by simp)
  have ha:yK2 (qC g i):=JZ hs _ (aT _);unfold YG;rw [if_pos]
  match hq:qC g i with
  | []=>rw [hq] at hx;cases hx
  | [y]=>rfl
  | y::z::l=>
    exfalso;rw [hq] at ha h;have e1:=h y (by simp)
    have e2:=h z (by simp)
    have:=List.rel_of_pairwise_cons ha (a':=z) (by simp)
    omega
theorem zY4 {c:Cx}{gs:List G}{ps:List Int}{bs:List BX}{M:Int}{ids:List Int}{b:Int}{g:G}{i:Nat}{id:Int}(hc:qP c) (h:rE c gs ps bs M) (hb:0≤b∧b<c.bs.length) (hg:tD gs b=some (g,i)) (hd:Lk.decM (sN g.2) ids=true) (hid:id∈ids) :
    ps.getD b.toNat 0=id↔(YG (qC g i)).2=true∧(YG (qC g i)).1=id:=by
  obtain ⟨f,hf,hs⟩:=h.f;have hag:zS2 c gs ps (lS bs)=true:=(U6 h.gk).2 ⟨h.re.pq.pl,by rw [h.re.pq.ql,h.re.pq.pl],(Y0 h.re.pq.pl).2 h.re.pq.pp,f,hf,hs.mono h.m1⟩
  obtain ⟨hx,_⟩:=zF1 h.gk hag hb hg;obtain ⟨k,h1,h2,h3,h4⟩:=nC hg;have hgm:=aH h2;have og:=h.gk.mid.out.ok g hgm;have ok:=xP og (h.gk.mid.ne g hgm);have hi:i<g.1.length:=by rw [h4];exact gR h3
  constructor
  · rintro rfl;have hall:∀ y,y∈qC g i→y=ps.getD b.toNat 0:=fun y hy=>by
      obtain ⟨w,hw,rfl⟩:=X7.1 hy;obtain ⟨w0,hw0,e0⟩:=X7.1 hx;exact (Lk.dec_iff ok ids).1 hd _ hid w0.1 (kT.2 ⟨w0,hw0,rfl⟩) i hi e0 w.1 (kT.2 ⟨w,hw,rfl⟩)
    have:=WN hx hall;exact ⟨this,OF hx this⟩
  · rintro ⟨h5,h6⟩;rw [← h6];exact (OF hx h5).symm
theorem U4:∀ {gs:List G},(gs.flatMap (·.1)).Nodup→∀ {i j:Nat}{x y:G}{b:Int},gs[i]? = some x→gs[j]? = some y→b∈x.1→b∈y.1→i=j
  | [],_,i,j,x,y,b,hi,_,_,_=>by simp at hi
  | g::gs,h,i,j,x,y,b,hi,hj,hx,hy=>by
    rw [bJ] at h;obtain ⟨_,h2,h3⟩:=cO.1 h;cases i with
    | zero=>
      cases j with
      | zero=>rfl
      | succ j=>
        simp only [dW,Option.some.injEq,gJ] at hi hj;subst hi;exact absurd rfl (h3 b hx b (nD (aH hj) hy))
    | succ i=>
      cases j with
      | zero=>
        simp only [dW,Option.some.injEq,gJ] at hi hj;subst hj;exact absurd rfl (h3 b hy b (nD (aH hi) hx))
      | succ j=>
        simp only [gJ] at hi hj;rw [U4 h2 hi hj hx hy]
structure NR (gs:List G) (b:Int) (j:Nat):Prop where
  le:j≤gs.length
  lo:∀ i x,gs[i]? = some x→i<j→x.1.headD 0<b
  hi:∀ i x,gs[i]? = some x→j≤i→b≤x.1.headD 0
theorem JH {c:Cx}{gs:List G}(h:kQ c gs){i:Nat}{x:G}(hi:gs[i]? = some x):x.1.headD 0∈x.1:=by
  have og:=h.mid.out.ok x (aH hi);exact hd_mem og.ne
theorem RG {c:Cx}{gs:List G}(h:kQ c gs):NR gs 0 0:=
  ⟨cC _,fun i x _ q=>absurd q (cW _),fun i x hi _=>((h.mid.out.ok x (aH hi)).rg _ (JH h hi)).1⟩
theorem RI {c:Cx}{gs:List G}(h:kQ c gs){b:Int}{j i:Nat}{g:G}(u:NR gs b j) (hg:tD gs b=some (g,i)) (hne:g.1.headD 0≠b):NR gs (b+1) j:=by
  obtain ⟨k,h1,h2,h3,h4⟩:=nC hg;refine ⟨u.le,fun q x hq hj=>by have:=u.lo q x hq hj;omega,fun q x hq hj=>?_⟩
  have h5:=u.hi q x hq hj;by_cases e:x.1.headD 0=b
  · exfalso;have hx:=JH h hq;rw [e] at hx;obtain rfl:=U4 h.mid.out.nd hq h2 hx h3;rw [h2] at hq;cases hq;exact hne e
  · omega
theorem RH {c:Cx}{gs:List G}(h:kQ c gs){b:Int}{j i:Nat}{g:G}(u:NR gs b j) (hg:tD gs b=some (g,i)) (he:g.1.headD 0=b):gs[j]? = some g∧NR gs (b+1) (j+1):=by
  obtain ⟨k,h1,h2,h3,h4⟩:=nC hg;have hkj:j≤k:=by
    by_cases q:k<j
    · have:=u.lo k g h2 q;omega
    · omega
  have hkl:k<gs.length:=by
    by_cases q:k<gs.length
    · exact q
    · rw [cN (by omega)] at h2;cases h2
  have hj:gs[j]? = some (gs[j]'(by omega)):=aA (by omega)
  have h5:=u.hi j _ hj (aT _);have hup:=zV.1 h.mid.up;have h6:(gs[j]'(by omega)).1.headD 0≤b:=by
    by_cases e:j=k
    · subst e;have e3:=Option.some.inj (hj.symm.trans h2);rw [e3];omega
    · have:=jF.1 hup j k (by simp;omega) (by simp;omega) (by omega)
      simp only [mR] at this;have e2:gs[k]=g:=by rw [aA hkl] at h2;exact Option.some.inj h2
      rw [e2] at this;omega
  have hjb:b∈(gs[j]'(by omega)).1:=by
    have hx:=JH h hj
    rwa [show (gs[j]'(by omega)).1.headD 0=b by omega] at hx
  have ekj:j=k:=U4 h.mid.out.nd hj h2 hjb h3;subst ekj;refine ⟨h2,by omega,fun q x hq hlt=>?_,fun q x hq hle=>?_⟩
  · by_cases e:q=j
    · subst e;rw [h2] at hq;cases hq;omega
    · have:=u.lo q x hq (by omega);omega
  · have h7:=u.hi q x hq (by omega)
    by_cases e:x.1.headD 0=b
    · have hx:=JH h hq;rw [e] at hx;have:=U4 h.mid.out.nd hq h2 hx h3;omega
    · omega
theorem VB {c:Cx}{gs:List G}(h:kQ c gs){b:Int}{j:Nat}(u:NR gs b j) (hb:c.bs.length≤b):gs.take j=gs:=by
  by_cases q:j<gs.length
  · exfalso;have hj:gs[j]? = some gs[j]:=aA q;have h5:=u.hi j _ hj (aT _);have:=((h.mid.out.ok _ (aH hj)).rg _ (JH h hj)).2;omega
  · exact cD (by omega)
theorem SE (ids:List Int){gs:List G}{j:Nat}{g:G}(h:gs[j]? = some g):lT ids (gs.take (j+1))=tQ ids (lT ids (gs.take j)) g:=by
  obtain ⟨hj,rfl⟩:=aB.1 h;rw [aM hj,LY]
theorem H2 {c:Cx}{gs:List G}(ids:List Int) (h:kQ c gs) (j:Nat):(lT ids (gs.take j)).2≤72:=by
  have:=VP (ids:=ids) h j;unfold lT;rw [L7];simpa using this
theorem YM {c:Cx}{gs:List G}(h:kQ c gs){b:Int}(h0:0≤b) (hg:tD gs b=none):c.bs.length≤b:=by
  by_cases q:b<c.bs.length
  · obtain ⟨g,e,_⟩:=YL (h.mid.find ⟨h0,q⟩);rw [hg] at e;cases e
  · omega
theorem zX9 {c:Cx}{gs:List G}(h:kQ c gs){b:Int}{g:G}{i:Nat}(hg:tD gs b=some (g,i)):0≤b∧b<c.bs.length:=by
  obtain ⟨k,_,h2,h3,_⟩:=nC hg;exact (h.mid.out.ok g (aH h2)).rg b h3
end Go.Ld
namespace Go.Ld
def Y4 (l:List Int) (id:Int):Nat:=l.countP fun x=>!decide (x=id)
theorem WX (l:List Int) (x id:Int):Y4 (l++[x]) id=Y4 l id+if x=id then 0 else 1:=by
  unfold Y4;rw [List.countP_append];by_cases h:x=id <;> simp [h]
theorem zV1 (l:List Int) (id:Int):Y4 l id≤l.length:=GS
theorem OU:∀ {l:List Int}{id:Int},l.Nodup→(Y4 l id:Int)=(l.length:Int)-if id∈l then 1 else 0
  | [],id,_=>by simp [Y4]
  | x::l,id,h=>by
    obtain ⟨h1,h2⟩:=eY.1 h;have ih:=OU (id:=id) h2;unfold Y4 at ih ⊢;rw [BM];by_cases e:x=id
    · subst e;rw [if_neg h1] at ih;simp [ih]
    · have e2:(id∈x::l)↔id∈l:=by simp [Ne.symm e]
      simp only [e2];simp [e];omega
end Go.Ld
namespace Go.Proofs.YtojgimibalokkaaGreat
open Go Go.Ab Go.Ld
attribute [local irreducible] VC AW cF aP kG
set_option maxHeartbeats 4000000
theorem RW {ks:List KD}{ls:List LT}{ps:List Int}{bs:List BX}(f:Fit ks ls ps bs){lot:Int}(h:lot<ls.length):aP Tryz.prog 48 [.rowE (fF ks) 2,.rowE (iF ls) 3,.i lot] [] (.i (mT ks ls lot)) []:=by
  unfold mT;by_cases h0:lot<0
  · rw [if_pos h0];refine bL T Tryz.func48 rfl rfl rfl rfl ?_
    (repeat' (first|refine wS ?_|refine wR ?_|(refine wC rfl ?_ ?_<;>(intro hb;(try simp only [nm] at hb);try (exfalso;omega)))|(refine rg 0 (aV ?_))|(refine rg 1 (mW rfl (vV (aK rfl rfl) ?_)))|(refine rg 2 (aV ?_))|refine nZ ?_));all_goals first | (exfalso;omega) | exact rQ
  · rw [if_neg h0];have hl:lot.toNat<ls.length:=by omega
    have h1:=f.l lot.toNat hl;have hk:ls[lot.toNat].1.toNat<ks.length:=by omega
    have e1:ls.getD lot.toNat (0,0,false)=ls[lot.toNat]:=by rw [aC,aA hl];rfl
    rw [e1];have e2:ks.getD ls[lot.toNat].1.toNat (⟨#[]⟩,0)=ks[ls[lot.toNat].1.toNat]:=by rw [aC,aA hk];rfl
    rw [e2];have q1:=H5 hl;have q2:=A5 hk;have hll:(iF ls).length=ls.length:=aX _;have hkl:(fF ks).length=ks.length:=aX _;generalize ks[ls[lot.toNat].1.toNat]=kd at *;generalize ls[lot.toNat]=lt at *;refine bL T Tryz.func48 rfl rfl rfl rfl ?_
    (repeat' (first|refine wS ?_|refine wK ?_|refine wR ?_|(refine wC rfl ?_ ?_<;>(intro hb;(try simp only [nm] at hb);try (exfalso;omega)))|(refine rg 0 (aV ?_))|(refine rg 1 (mW rfl (vV (aK rfl rfl) ?_)))|(refine rg 3 (dR rfl (mW rfl (vV (ix T rfl (by omega) (vC ls) q1) (fR T rfl (vV (ix T rfl (by omega) (rV ks) q2) (fR T rfl (aV ?_))))))))|refine nZ ?_));all_goals first | (exfalso;omega) | exact rQ
section
variable {ks:List KD}{ls:List LT}{ps:List Int}{bs:List BX}{m st er sl k a b n id lot ct ta done:Int}{ids:List Int}{M:Int}
theorem WK (f:Fit ks ls ps bs) (hs:mH m st er sl) (ha:0≤a) (hn:0≤n∧n≤1099511627776) (hl:ids.length≤9223372036854775806) (hnd:k=0→ids.Nodup)
    (hid:ps[a.toNat]? = some id) (hbx:bs[id.toNat]? = some (lot,ct,ta)) :
    aP Tryz.prog 19 [lH m st er sl,.rowE (fF ks) 2,.rowE (iF ls) 3,.rowE (ints ps) 1,.rowE (dY bs) 3,yH k a b n ids] [] (.tup [.i (UR st id k ids),.b (BB st er sl id ct (ta+ct*mT ks ls lot) k n ids)]) []:=by
  unfold mH at hs;have hc1:(ints ps)[a.toNat]? = some [AV.i id]:=by simp [hid]
  have hc2:(dY bs)[id.toNat]? = some [AV.i lot,AV.i ct,AV.i ta]:=by simp [hbx]
  obtain ⟨hx1,hx2⟩:=aB.1 hid;obtain ⟨hy1,hy2⟩:=aB.1 hbx;have hp:=f.p _ hx1;rw [hx2] at hp;have hb0:=f.b _ hy1;rw [hy2] at hb0;simp only at hb0;have hu:=OB f hb0.2.1;have hcu:=RW f hb0.2.1;have b1:0≤ct*mT ks ls lot:=Int.mul_nonneg hb0.2.2.1 hu.1;have b2:ct*mT ks ls lot≤20000*1048576:=F6 (Int.mul_le_mul_of_nonneg_right hb0.2.2.2.1 hu.1) (Int.mul_le_mul_of_nonneg_left hu.2 (by omega))
  have hil:(ints ids).length=ids.length:=by simp
  generalize hU:mT ks ls lot=U at *;refine bL T Tryz.func19 rfl rfl rfl rfl ?_
  (repeat' (first|refine wS ?_|(refine rg 0 (bS (bZ rfl rfl) rfl (bS (bZ rfl rfl) rfl (lO ?_))))|refine nZ ?_));refine eI 6 (cs:=[.i m,.i st,.i er,.i sl]) rfl rfl rfl ?_
  refine eI 11 (cs:=[.i k,.i a,.i b,.i n,.rowE (ints ids) 1]) rfl rfl rfl ?_
  (repeat' (first|refine wS ?_|(refine rg 1 (mW rfl (fR T rfl (vV (ix T rfl (by omega) (ints_len ps) hc1) (lW T rfl (aV ?_))))))|(refine rg 2 (dR rfl (vV (ix T rfl (by omega) (lE bs) hc2) (lW T rfl (bS (bM T rfl) rfl (aU T rfl rfl rfl rfl rfl rfl (by decide) rfl ?_))))))|refine nZ ?_));refine eI 15 (cs:=[.i lot,.i ct,.i ta]) rfl rfl rfl ?_
  by_cases k0:k=0
  · subst k0;have hnd:=hnd rfl
    (repeat' (first|refine wS ?_|refine wB ?_|refine wT ?_|(refine rg 3 (AC T ?_))|(refine rg 4 (vV (bW rfl rfl) (aV ?_)))|(refine rg 5 (aV ?_))|(refine rg 6 (aV ?_))|(refine rg 7 (aV ?_))|refine nZ ?_));all_goals try (exfalso;omega)
    refine cX (X:={j:Nat // j≤ids.length}) (fun j=>[(6,.pr [.i m,.i st,.i er,.i sl] 0),(11,.pr [.i 0,.i a,.i b,.i n,.rowE (ints ids) 1] 0),(14,.i id),(16,.i (Y4 (ids.take j.1) id:Nat)),(17,.i (if id∈ids.take j.1 then 0 else 1)),(18,.i (j.1:Int))]) (fun _=>[]) (fun j=>ids.length-j.1) ⟨0,cC _⟩ ⟨[],rfl,(by repeat first|exact trivial|refine ⟨rfl,?_⟩),trivial,bK,kP _⟩ ?_
    rintro ⟨j,hj⟩;dsimp only;have hoj:=zV1 (ids.take j) id;rw [bE] at hoj;by_cases hlt:j<ids.length
    · have q:=iQ (l:=ids) (k:=j) hlt;have e1:=WX (ids.take j) ids[j] id;rw [← aM hlt] at e1;have e2:id∈ids.take (j+1)↔id∈ids.take j∨ids[j]=id:=by
        rw [aM hlt,bG,bH];exact ⟨fun q=>q.imp (fun z=>z) Eq.symm,fun q=>q.imp (fun z=>z) Eq.symm⟩
      generalize ids[j]=x at *;by_cases e:x=id
      · rw [if_pos e] at e1;have e3:(if id∈ids.take (j+1) then (0:Int) else 1)=0:=if_pos (e2.2 (.inr e))
        (repeat' (first|refine wS ?_|refine wB ?_|refine wK ?_|(refine wC rfl ?_ ?_<;>(intro hb;(try simp only [nm] at hb);try (exfalso;omega)))|(refine rg 8 (mW rfl (fR T rfl (qW T rfl (vV (aK rfl rfl) ?_)))))|(refine rg 10 (fR T rfl (mW rfl (vV (ix T rfl (by omega) (ints_len _) q) (lW T rfl (mW rfl (vV (bW rfl rfl) ?_)))))))|(refine rg 11 (aV ?_))|(refine iA 9 rfl rfl rfl (by omega) (by omega) ?_)|refine nZ ?_));all_goals try (exfalso;omega)
        all_goals exact ⟨⟨j+1,hlt⟩,by dsimp only;omega,⟨[],rfl,⟨rfl,rfl,rfl,by dsimp only;rw [e1];rfl,by dsimp only;rw [e3];rfl,rfl,trivial⟩,trivial,bK,kP _⟩⟩
      · rw [if_neg e] at e1;have e3:(if id∈ids.take (j+1) then (0:Int) else 1)=if id∈ids.take j then 0 else 1:=by
          by_cases q:id∈ids.take j
          · rw [if_pos q,if_pos (e2.2 (.inl q))]
          · rw [if_neg q,if_neg (fun w=>(e2.1 w).elim q e)]
        (repeat' (first|refine wS ?_|refine wB ?_|refine wK ?_|(refine wC rfl ?_ ?_<;>(intro hb;(try simp only [nm] at hb);try (exfalso;omega)))|(refine rg 8 (mW rfl (fR T rfl (qW T rfl (vV (aK rfl rfl) ?_)))))|(refine rg 10 (fR T rfl (mW rfl (vV (ix T rfl (by omega) (ints_len _) q) (lW T rfl (mW rfl (vV (bW rfl rfl) ?_)))))))|(refine iA 12 rfl rfl rfl (by omega) (by omega) ?_)|(refine iA 9 rfl rfl rfl (by omega) (by omega) ?_)|refine nZ ?_));all_goals try (exfalso;omega)
        all_goals exact ⟨⟨j+1,hlt⟩,by dsimp only;omega,⟨[],rfl,⟨rfl,rfl,rfl,by dsimp only;rw [e1];rfl,by dsimp only;rw [e3];rfl,rfl,trivial⟩,trivial,bK,kP _⟩⟩
    · obtain rfl:j=ids.length:=by omega
      rw [cQ];have e4:=OU (id:=id) hnd;have em:UR st id 0 ids=if (Y4 ids id:Int) > st then 0 else if id∈ids then 0 else 1:=by rw [e4];rfl
      have eo:BB st er sl id ct (ta+ct*U) 0 n ids=decide ((Y4 ids id:Int)≤st):=by rw [e4];rfl
      rw [em,eo];rw [cQ] at hoj;generalize (if id∈ids then (0:Int) else 1)=mi at *
      generalize Y4 ids id=oc at *
      (repeat' (first|refine wS ?_|refine wK ?_|refine wR ?_|refine wE ?_|(refine wC rfl ?_ ?_<;>(intro hb;(try simp only [nm] at hb);try (exfalso;omega)))|(refine rg 8 (mW rfl (fR T rfl (qW T rfl (vV (aK rfl rfl) ?_)))))|(refine rg 13 (mW rfl (fR T rfl (vV (dX rfl rfl) ?_))))|(refine rg 14 (lO ?_))|(refine rg 15 (mW rfl (lO ?_)))|refine nZ ?_));all_goals try (exfalso;omega)
      all_goals refine cM (.inl rfl) rfl (OD ?_ ?_)
      all_goals (simp [*];try omega)
  · (repeat' (first|refine wS ?_|refine wB ?_|refine wK ?_|refine wR ?_|(refine wC rfl (fun hb=>?_) (fun hb=>?_) <;> (((try simp only [nm] at hb);try (exfalso;omega))))|(refine rg 3 (AC T ?_))|(refine rg 4 (vV (bW rfl rfl) (aV ?_)))|(refine rg 16 (vV (bW rfl rfl) (aV ?_)))|(refine bO (id:=17) 102 [[],[0],[],[2],[],[],[],[6],rM 4 4,rM 2 7,rN 10] (rM 56 11) [[],[],[56,57],[56,57],rM 56 4,rM 56 5,rM 56 6,rM 56 6,rM 56 4,[56,57],[]] cK rfl (by decide +kernel) (dP T rfl (dO T rfl (dP T rfl (dO T rfl (dN rfl (dN rfl (dP T rfl (dO T rfl (dV rfl (kC (hcu)) ?_)))))))));refine dV rfl (wX rfl rfl (by omega) (by omega)) (dV rfl (bP rfl rfl (by omega) (by omega)) (dE ?_));refine aV ?_)|(refine bO (id:=18) 102 [[],[],[1],[0,1,2],[],[4],[],[4,5,6],rN 8,[],[9],rN 11,[]] [67,68,69,70,71,72,73,74,75,76,77,78,12] [[],[67],[67],[],rM 67 4,rM 67 4,rM 67 6,rM 67 4,[],rM 67 9,rM 67 9,[],rM 67 12] cK rfl (by decide +kernel) (dN rfl (dP T rfl (dO T rfl (dV rfl (cH rfl rfl (by omega) (by omega)) (dP T rfl (dO T rfl (dN rfl (dV rfl (cH rfl rfl (by omega) (by omega)) (dV rfl (uJ rfl rfl) ?_)))))))));refine dP T rfl (dO T rfl (dV rfl (jP rfl rfl) (dV rfl (dS rfl) (dE ?_))));refine aV ?_)|(refine rg 19 (vV (bW rfl rfl) (aV ?_)))|(refine bO (id:=20) 102 [[],[0],[],[2],[],[4],rM 2 4,rN 7,[]] [81,82,83,84,85,86,87,88,12] [[],[],[81,82],[81,82],rM 81 4,rM 81 4,[81,82],[],rM 81 8] cK rfl (by decide +kernel) (dP T rfl (dO T rfl (dP T rfl (dO T rfl (dP T rfl (dO T rfl (dV rfl (cH rfl rfl (by omega) (by omega)) (dV rfl (fM rfl rfl) (dV rfl (dS rfl) ?_)))))))));refine dE ?_;refine aV ?_)|(refine rg 21 (vV (bW rfl rfl) (aV ?_)))|(refine bO (id:=22) 102 [[],[0],[],[2],rN 4,[]] [91,92,93,94,95,12] [[],[],[91,92],[91,92],[],rM 91 5] cK rfl (by decide +kernel) (dP T rfl (dO T rfl (dP T rfl (dO T rfl (dV rfl (bW rfl rfl) (dV rfl (dS rfl) (dE ?_)))))));refine aV ?_)|(refine rg 23 (vV (bW rfl rfl) (aV ?_)))|(refine bO (id:=24) 102 [[],[],[1],[0,1,2],[]] [98,99,100,101,12] [[],[98],[98],[],rM 98 4] cK rfl (by decide +kernel) (dN rfl (dP T rfl (dO T rfl (dV rfl (bW rfl rfl) (dV rfl (dS rfl) (dE ?_))))));refine aV ?_)|(refine rg 25 (lO ?_))|(refine nZ ?_)));all_goals try (exfalso;omega)
    all_goals
      refine cM (.inl rfl) rfl (OD ?_ ?_)
      all_goals (simp [UR,BB,eF, *];try first | omega | (rw [iK];simp only [aJ,decide_eq_true_eq];omega))
theorem CV (f:Fit ks ls ps bs) (hs:mH m st er sl) (ha:0≤a) (hn:0≤n∧n≤1099511627776) (hid:ps[a.toNat]? = some id) (hbx:bs[id.toNat]? = some (lot,ct,ta)){ok:Bool}(hno:ok=false∨C5 sl ct k n done=false)
    (hag:aP Tryz.prog 19 [lH m st er sl,.rowE (fF ks) 2,.rowE (iF ls) 3,.rowE (ints ps) 1,.rowE (dY bs) 3,yH k a b n ids] [] (.tup [.i M,.b ok]) []) :
    aP Tryz.prog 20 [lH m st er sl,.rowE (fF ks) 2,.rowE (iF ls) 3,.rowE (ints ps) 1,.rowE (dY bs) 3,yH k a b n ids,.i done] [] (.tup [.nils,.nils,.b false]) []:=by
  unfold mH at hs;have hc1:(ints ps)[a.toNat]? = some [AV.i id]:=by simp [hid]
  have hc2:(dY bs)[id.toNat]? = some [AV.i lot,AV.i ct,AV.i ta]:=by simp [hbx]
  obtain ⟨hx1,hx2⟩:=aB.1 hid;obtain ⟨hy1,hy2⟩:=aB.1 hbx;have hp:=f.p _ hx1;rw [hx2] at hp;have hb0:=f.b _ hy1;rw [hy2] at hb0;simp only at hb0;have h2:ok=true→k=2→¬ (0≤done∧done≤ct∧n-sl≤done∧done≤n+sl):=fun e q=>by
    rcases hno with h | h
    · rw [h] at e;cases e
    · unfold C5 at h;rw [if_pos q] at h;simp [eF] at h;omega
  have h4:ok=true→k=4→¬ (done=0∨done=1):=fun e q=>by
    rcases hno with h | h
    · rw [h] at e;cases e
    · unfold C5 at h;rw [if_neg (by omega),if_pos q] at h;simp at h;omega
  have h0:ok=true→k≠2→k≠4→¬ (done=0):=fun e q q'=>by
    rcases hno with h | h
    · rw [h] at e;cases e
    · unfold C5 at h;rw [if_neg q,if_neg q'] at h;simpa using h
  clear hno;refine bL T Tryz.func20 rfl rfl rfl rfl ?_
  (repeat' (first|refine wS ?_|(refine rg 0 (bS (bZ rfl rfl) rfl (bS (bZ rfl rfl) rfl (yA4 rfl (aV ?_)))))|refine nZ ?_));refine eI 7 (cs:=[.i m,.i st,.i er,.i sl]) rfl rfl rfl ?_
  refine eI 12 (cs:=[.i k,.i a,.i b,.i n,.rowE (ints ids) 1]) rfl rfl rfl ?_;cases ok
  · clear h0 h2 h4
    (repeat' (first|refine wS ?_|refine wK ?_|refine wR ?_|refine wT ?_|(refine wC rfl ?_ ?_<;>(intro hb;(try simp only [nm] at hb);try (exfalso;omega)))|(refine rg 1 (lW T rfl (dR rfl (dR rfl (lW T rfl (vV (kC (hag)) (mW rfl (xW rfl (xW rfl (lO ?_))))))))))|(refine rg 2 (mW rfl (fR T rfl (vV (ix T rfl (by omega) (ints_len ps) hc1) (lW T rfl (aV ?_))))))|(refine rg 3 (mW rfl (vV (bW rfl rfl) (aV ?_))))|(refine rg 4 (fR T rfl (vV (bW rfl rfl) ?_)))|(refine rg 5 (mW rfl (vV (fM rfl rfl) (mV ?_)));refine aY rfl rfl ?_ ?_<;>(intro hb;rw [hb];(try simp only [nm] at hb);try (exfalso;omega));(all_goals first|(refine gT (mW rfl (gT (mW rfl (gT (mW rfl (gT (vV (ix T rfl (by omega) (lE bs) hc2) (gT (fV T ?_)))))))));refine gT (lW T rfl (gT (vV (jP rfl rfl) ?_))))|(iterate 7 refine gF ?_));(all_goals (refine pW rfl (mV ?_)));(all_goals first|(refine gK ?_)|(refine aY rfl rfl ?_ ?_<;>(intro hb;rw [hb];(try simp only [nm] at hb);try (exfalso;omega))));(all_goals first|(refine gT (mW rfl (gT (fW T rfl (gT (lW T rfl (gT (fW T rfl (gT (lV T ?_)))))))));refine gT (vV (cH rfl rfl (by omega) (by omega)) (gT (vV (fM rfl rfl) ?_))))|(iterate 7 refine gF ?_));(all_goals (refine pW rfl (mV ?_)));(all_goals first|(refine gK ?_)|(refine aY rfl rfl ?_ ?_<;>(intro hb;rw [hb];(try simp only [nm] at hb);try (exfalso;omega))));(all_goals first|(refine gT (mW rfl (gT (fW T rfl (gT (lW T rfl (gT (fW T rfl (gT (lV T ?_)))))))));refine gT (vV (bP rfl rfl (by omega) (by omega)) (gT (vV (jP rfl rfl) ?_))))|(iterate 7 refine gF ?_));(all_goals (refine pW rfl (aV ?_))))|(refine rg 6 (fR T rfl (vV (bW rfl rfl) ?_)))|(refine rg 7 (mW rfl (vV (bW rfl rfl) (mV ?_)));refine aY rfl rfl ?_ ?_<;>(intro hb;rw [hb];(try simp only [nm] at hb);try (exfalso;omega));(all_goals first|(refine gT (mW rfl (gT (vV (bW rfl rfl) ?_))))|(iterate 2 refine gF ?_));(all_goals (refine pW rfl (aV ?_))))|(refine rg 8 (mW rfl (vV (cT rfl) (mV ?_)));(iterate 2 refine gF ?_);refine pV ?_)|(refine rg 9 (yA4 rfl (aV ?_)))|refine nZ ?_));all_goals first | (exfalso;omega) | exact rQ
  · have h0:=h0 rfl;have h2:=h2 rfl;have h4:=h4 rfl
    (repeat' (first|refine wS ?_|refine wK ?_|refine wR ?_|refine wT ?_|(refine wC rfl ?_ ?_<;>(intro hb;(try simp only [nm] at hb);try (exfalso;omega)))|(refine rg 1 (lW T rfl (dR rfl (dR rfl (lW T rfl (vV (kC (hag)) (mW rfl (xW rfl (xW rfl (lO ?_))))))))))|(refine rg 2 (mW rfl (fR T rfl (vV (ix T rfl (by omega) (ints_len ps) hc1) (lW T rfl (aV ?_))))))|(refine rg 3 (mW rfl (vV (bW rfl rfl) (aV ?_))))|(refine rg 4 (fR T rfl (vV (bW rfl rfl) ?_)))|(refine rg 5 (mW rfl (vV (fM rfl rfl) (mV ?_)));refine aY rfl rfl ?_ ?_<;>(intro hb;rw [hb];(try simp only [nm] at hb);try (exfalso;omega));(all_goals first|(refine gT (mW rfl (gT (mW rfl (gT (mW rfl (gT (vV (ix T rfl (by omega) (lE bs) hc2) (gT (fV T ?_)))))))));refine gT (lW T rfl (gT (vV (jP rfl rfl) ?_))))|(iterate 7 refine gF ?_));(all_goals (refine pW rfl (mV ?_)));(all_goals first|(refine gK ?_)|(refine aY rfl rfl ?_ ?_<;>(intro hb;rw [hb];(try simp only [nm] at hb);try (exfalso;omega))));(all_goals first|(refine gT (mW rfl (gT (fW T rfl (gT (lW T rfl (gT (fW T rfl (gT (lV T ?_)))))))));refine gT (vV (cH rfl rfl (by omega) (by omega)) (gT (vV (fM rfl rfl) ?_))))|(iterate 7 refine gF ?_));(all_goals (refine pW rfl (mV ?_)));(all_goals first|(refine gK ?_)|(refine aY rfl rfl ?_ ?_<;>(intro hb;rw [hb];(try simp only [nm] at hb);try (exfalso;omega))));(all_goals first|(refine gT (mW rfl (gT (fW T rfl (gT (lW T rfl (gT (fW T rfl (gT (lV T ?_)))))))));refine gT (vV (bP rfl rfl (by omega) (by omega)) (gT (vV (jP rfl rfl) ?_))))|(iterate 7 refine gF ?_));(all_goals (refine pW rfl (aV ?_))))|(refine rg 6 (fR T rfl (vV (bW rfl rfl) ?_)))|(refine rg 7 (mW rfl (vV (bW rfl rfl) (mV ?_)));refine aY rfl rfl ?_ ?_<;>(intro hb;rw [hb];(try simp only [nm] at hb);try (exfalso;omega));(all_goals (refine yN rfl (yV (bW rfl rfl) (pW rfl (aV ?_))))))|(refine rg 8 (mW rfl (vV (cT rfl) (mW rfl (yN rfl (yV (cT rfl) (pV ?_)))))))|(refine rg 9 (yA4 rfl (aV ?_)))|refine nZ ?_));all_goals first | (exfalso;omega) | exact rQ
theorem LX (f:Fit ks ls ps bs) (hs:mH m st er sl) (ha:0≤a) (hn:0≤n∧n≤1099511627776) (hid:ps[a.toNat]? = some id) (hbx:bs[id.toNat]? = some (lot,ct,ta)) (hcan:C5 sl ct k n done=true) (hb:k=4→0≤b∧b<ps.length∧a≠b)
    (hag:aP Tryz.prog 19 [lH m st er sl,.rowE (fF ks) 2,.rowE (iF ls) 3,.rowE (ints ps) 1,.rowE (dY bs) 3,yH k a b n ids] [] (.tup [.i M,.b true]) []) :
    aP Tryz.prog 20 [lH m st er sl,.rowE (fF ks) 2,.rowE (iF ls) 3,.rowE (ints ps) 1,.rowE (dY bs) 3,yH k a b n ids,.i done] []
      (.tup [.sl 0 0 ps.length 1,.sl 1 0 bs.length 3,.b true]) [.arr (ints (if k=4∧done=1 then (ps.set a.toNat (ps.getD b.toNat 0)).set b.toNat id else ps)) 1,.arr (dY (if k=2 then bs.set id.toNat (lot,ct-done,ta) else bs)) 3]:=by
  unfold mH at hs;have hn1:=f.n1;have hn8:=f.n8;have hle:=f.len;have hc1:(ints ps)[a.toNat]? = some [AV.i id]:=by simp [hid]
  have hc2:(dY bs)[id.toNat]? = some [AV.i lot,AV.i ct,AV.i ta]:=by simp [hbx]
  obtain ⟨hx1,hx2⟩:=aB.1 hid;obtain ⟨hy1,hy2⟩:=aB.1 hbx;have hp:=f.p _ hx1;rw [hx2] at hp;have hb0:=f.b _ hy1;rw [hy2] at hb0;simp only at hb0;have hpl:(ints ps).length=ps.length:=aX _;have hbl:(dY bs).length=bs.length:=aX _;have h2:k=2→(0≤done∧done≤ct∧n-sl≤done∧done≤n+sl):=fun q=>by
    unfold C5 at hcan;rw [if_pos q] at hcan;simp [eF] at hcan;omega
  have h4:k=4→(done=0∨done=1):=fun q=>by
    unfold C5 at hcan;rw [if_neg (by omega),if_pos q] at hcan;simp at hcan;omega
  have h0:k≠2→k≠4→(done=0):=fun q q'=>by
    unfold C5 at hcan;rw [if_neg q,if_neg q'] at hcan;simpa using hcan
  clear hcan;refine bL T Tryz.func20 rfl rfl rfl rfl ?_
  (repeat' (first|refine wS ?_|(refine rg 0 (bS (bZ rfl rfl) rfl (bS (bZ rfl rfl) rfl (yA4 rfl (aV ?_)))))|refine nZ ?_));refine eI 7 (cs:=[.i m,.i st,.i er,.i sl]) rfl rfl rfl ?_
  refine eI 12 (cs:=[.i k,.i a,.i b,.i n,.rowE (ints ids) 1]) rfl rfl rfl ?_;apply Go.Ab.cutT
  · intro rest
    (repeat' (first|refine wS ?_|refine wK ?_|refine wU ?_|(refine wC rfl ?_ ?_<;>(intro hb;(try simp only [nm] at hb);try (exfalso;omega)))|(refine rg 1 (lW T rfl (dR rfl (dR rfl (lW T rfl (vV (kC (hag)) (mW rfl (xW rfl (xW rfl (lO ?_))))))))))|(refine rg 2 (mW rfl (fR T rfl (vV (ix T rfl (by omega) (ints_len ps) hc1) (lW T rfl (aV ?_))))))|(refine rg 3 (mW rfl (vV (bW rfl rfl) (aV ?_))))|(refine rg 4 (fR T rfl (vV (bW rfl rfl) ?_)))|(refine rg 5 (mW rfl (vV (fM rfl rfl) (mV ?_)));refine aY rfl rfl ?_ ?_<;>(intro hb;rw [hb];(try simp only [nm] at hb);try (exfalso;omega));(all_goals (refine yN rfl (yN rfl (yN rfl (yV (ix T rfl (by omega) (lE bs) hc2) (yP T rfl (yO T rfl (yV (jP rfl rfl) (pW rfl (mV ?_))))))));refine aY rfl rfl ?_ ?_<;>(intro hb;rw [hb];(try simp only [nm] at hb);try (exfalso;omega))));(all_goals (refine yN rfl (yP T rfl (yO T rfl (yP T rfl (yO T rfl (yV (cH rfl rfl (by omega) (by omega)) (yV (fM rfl rfl) (pW rfl (mV ?_))))))));refine aY rfl rfl ?_ ?_<;>(intro hb;rw [hb];(try simp only [nm] at hb);try (exfalso;omega))));(all_goals (refine yN rfl (yP T rfl (yO T rfl (yP T rfl (yO T rfl (yV (bP rfl rfl (by omega) (by omega)) (yV (jP rfl rfl) (pW rfl (aV ?_)))))))))))|(refine rg 6 (fR T rfl (vV (bW rfl rfl) ?_)))|(refine rg 7 (mW rfl (vV (bW rfl rfl) (mV ?_)));refine aY rfl rfl ?_ ?_<;>(intro hb;rw [hb];(try simp only [nm] at hb);try (exfalso;omega));(all_goals first|(refine gT (mW rfl (gT (vV (bW rfl rfl) ?_))))|(iterate 2 refine gF ?_));(all_goals (refine pW rfl (aV ?_))))|(refine rg 8 (mW rfl (vV (cT rfl) (mW rfl (yN rfl (yV (cT rfl) (pV ?_)))))))|(refine rg 10 (bS (by exact bF T rfl rfl (by decide) (by decide) rfl rfl rfl) rfl ?_);refine mW rfl (gD T rfl rfl rfl rfl rfl rfl (by decide) (.row (ints_len _)) (sQ _) (by simp;omega) (by simp;omega) rfl ?_);refine aV ?_)|(refine rg 11 (bS (by exact bF T rfl rfl (by decide) (by decide) rfl rfl rfl) rfl ?_);refine mW rfl (gD T rfl rfl rfl rfl rfl rfl (by decide) (.row (lE _)) (UI _) (by simp;omega) (by simp;omega) rfl ?_);refine aV ?_)|refine nZ ?_));all_goals try (exfalso;omega)
    all_goals
      refine gM [(3,.rowE (ints ps) 1),(4,.rowE (dY bs) 3),(6,.i done),(12,.pr [.i k,.i a,.i b,.i n,.rowE (ints ids) 1] 0),(19,.i id),(21,.sl 0 0 ps.length 1),(22,.sl 1 0 bs.length 3)] [.arr (ints ps) 1,.arr (dY bs) 3] ⟨[3,5],rfl,⟨rfl,rfl,rfl,rfl,rfl,?_,?_,trivial⟩,⟨.inr (aE rfl rfl (cJ _)),.inr (aE rfl rfl (vM _)),trivial⟩,by decide,kP _⟩ rest.get
      · show some (AV.sl 3 0 (0+(ints ps).length) 1)=_;rw [hpl,Nat.zero_add];rfl
      · show some (AV.sl 5 0 (0+(dY bs).length) 3)=_;rw [hbl,Nat.zero_add];rfl
  have hB:∀ θ,((dY bs).map (AV.mapL θ))[0+id.toNat]? = some [AV.i lot,AV.i ct,AV.i ta]:=fun θ=>by rw [dA θ (vM bs),Nat.zero_add];exact hc2
  by_cases k2:k=2
  · rw [if_neg (by omega),if_pos k2]
    have hS:(dY bs).set (0+id.toNat) [AV.i lot,AV.i (ct-done),AV.i ta]=dY (bs.set id.toNat (lot,ct-done,ta)):=by rw [Nat.zero_add];simp [rH]
    (repeat' (first|refine wS ?_|refine wK ?_|refine wR ?_|refine wU ?_|(refine wC rfl ?_ ?_<;>(intro hb;(try simp only [nm] at hb);try (exfalso;omega)))|(refine rg 12 (fW T rfl (vV (bD T rfl rfl rfl rfl) (vV (bW rfl rfl) ?_))))|(refine rg 13 (dR rfl (dR rfl (vV (by exact aQ T rfl rfl rfl rfl rfl (by omega) (by omega)) ?_)));refine fW T rfl (vV (by exact bD T rfl rfl (bV rfl (by rw [Nat.zero_add];exact hc2)) rfl) ?_);refine mW rfl (vV (cH rfl rfl (by omega) (by omega)) (vV (by exact aQ T rfl rfl rfl rfl rfl (by omega) (by omega)) ?_));refine fW T rfl (aU T rfl rfl rfl rfl rfl rfl (by decide) (lQ rfl (by rw [Nat.zero_add];exact hc2) rfl) ?_))|(refine rg 14 (fW T rfl (vV (bD T rfl rfl rfl rfl) (vV (bW rfl rfl) (mV ?_))));refine aY rfl rfl ?_ ?_<;>(intro hb;rw [hb];(try simp only [nm] at hb);try (exfalso;omega));(all_goals ((iterate 2 refine gF ?_);refine pV ?_)))|(refine rg 17 (dR rfl (yA4 rfl (aV ?_))))|refine nZ ?_));all_goals first | (exfalso;omega) | exact ⟨.inl rfl,[0,1],_,rfl,rfl,rfl,⟨.inr (aE rfl rfl (cJ ps)),.inr (aE rfl hS (vM _)),trivial⟩,by decide,kP _⟩
  · rw [if_neg k2];by_cases k4:k=4∧done=1
    · rw [if_pos k4];obtain ⟨c0,c1,c2⟩:=hb k4.1;have hbq:(ints ps)[b.toNat]? = some [AV.i (ps.getD b.toNat 0)]:=by
        rw [bN,aA (by omega),aC,aA (by omega)];rfl
      have hne:a.toNat≠b.toNat:=by omega
      have hbl2:b.toNat<ps.length:=by omega
      have hS:((ints ps).set (0+a.toNat) [AV.i (ps.getD b.toNat 0)]).set (0+b.toNat) [AV.i id]=ints ((ps.set a.toNat (ps.getD b.toNat 0)).set b.toNat id):=by rw [Nat.zero_add,Nat.zero_add];simp [rH]
      generalize ps.getD b.toNat 0=idb at *;have hA:(ints ps)[0+a.toNat]? = some [AV.i id]:=by rw [Nat.zero_add];exact hc1
      have hB2:∀ x,((ints ps).set (0+a.toNat) x)[0+b.toNat]? = some [AV.i idb]:=fun x=>by rw [iV (by omega),Nat.zero_add];exact hbq
      (repeat' (first|refine wS ?_|refine wK ?_|refine wR ?_|(refine wC rfl ?_ ?_<;>(intro hb;(try simp only [nm] at hb);try (exfalso;omega)))|(refine rg 12 (fR T rfl (vV (bW rfl rfl) ?_)))|(refine rg 14 (fR T rfl (vV (bW rfl rfl) (mV ?_)));refine aY rfl rfl ?_ ?_<;>(intro hb;rw [hb];(try simp only [nm] at hb);try (exfalso;omega));(all_goals (refine yN rfl (yV (bW rfl rfl) (pV ?_)))))|(refine bO (id:=15) 134 [[],[],[1],[],[],[4],[3,4,5],rM 3 4] (rM 114 8) [[],[114],[114],[114,115,116],rM 114 4,rM 114 4,[114,115,116],[114,115,116]] cK rfl (by decide +kernel) (dN rfl (dP T rfl (dO T rfl (dN rfl (dP T rfl (dO T rfl (dV rfl (ix T rfl (by omega) (ints_len ps) hbq) (dO T rfl (dE ?_)))))))));refine vV (by exact aQ T rfl rfl rfl rfl rfl (by omega) (by omega)) ?_;refine aU T rfl rfl rfl rfl rfl rfl (by decide) (lQ rfl hA rfl) ?_)|(refine bO (id:=16) 134 [[],[],[1],[],[],[4],[3,4,5],rM 3 4] (rM 123 8) [[],[123],[123],[123,124,125],rM 123 4,rM 123 4,[123,124,125],[123,124,125]] cK rfl (by decide +kernel) (dN rfl (dP T rfl (dO T rfl (dN rfl (dP T rfl (dO T rfl (dV rfl (ix T rfl (by omega) (ints_len ps) hc1) (dO T rfl (dE ?_)))))))));refine vV (by exact aQ T rfl rfl rfl rfl rfl (by omega) (by omega)) ?_;refine aU T rfl rfl rfl rfl rfl rfl (by decide) (lQ rfl (hB2 _) rfl) ?_)|(refine rg 17 (dR rfl (yA4 rfl (aV ?_))))|refine nZ ?_));all_goals first | (exfalso;omega) | exact ⟨.inl rfl,[0,1],_,rfl,rfl,rfl,⟨.inr (aE rfl hS (cJ _)),.inr (aE rfl rfl (vM _)),trivial⟩,by decide,kP _⟩
    · rw [if_neg k4]
      (repeat' (first|refine wS ?_|refine wK ?_|refine wR ?_|refine wU ?_|(refine wC rfl ?_ ?_<;>(intro hb;(try simp only [nm] at hb);try (exfalso;omega)))|(refine rg 12 (fR T rfl (vV (bW rfl rfl) ?_)))|(refine rg 14 (fR T rfl (vV (bW rfl rfl) (mV ?_)));refine aY rfl rfl ?_ ?_<;>(intro hb;rw [hb];(try simp only [nm] at hb);try (exfalso;omega));(all_goals first|(refine gT (mW rfl (gT (vV (bW rfl rfl) ?_))))|(iterate 2 refine gF ?_));(all_goals (refine pV ?_)))|(refine rg 17 (dR rfl (yA4 rfl (aV ?_))))|refine nZ ?_));all_goals first | (exfalso;omega) | exact ⟨.inl rfl,[0,1],_,rfl,rfl,rfl,⟨.inr (aE rfl rfl (cJ _)),.inr (aE rfl rfl (vM _)),trivial⟩,by decide,kP _⟩
end
end Go.Proofs.YtojgimibalokkaaGreat
namespace Go.Ld
open Go.Ab Go.Proofs.YtojgimibalokkaaGreat
def zS8 (x:KD):Bool:=!eF x.2 0 1048576
def zS7 (n:Nat) (x:LT):Bool:=!eF x.1 0 ((n:Int)-1)
def zS9 (n:Nat) (x:BX):Bool:=(((!eF x.1 (-1) ((n:Int)-1)) || !eF x.2.1 0 20000)||(decide (x.1<0)&&decide (0<x.2.1))) || !eF x.2.2 0 1073741824
def LP (ks:List KD) (ls:List LT) (bs:List BX):Bool:=!(ks.any zS8||ls.any (zS7 ks.length)) && !bs.any (zS9 ls.length)
theorem zF3 {ks:List KD}{ls:List LT}{bs:List BX}:LP ks ls bs=true↔U7 ks ls (nats (List.range bs.length)) bs:=by
  have wb:∀ a b c:Int,eF a b c=true↔b≤a∧a≤c:=fun a b c=>by unfold eF;simp
  have e:LP ks ls bs=true↔(∀ x,x∈ks→0≤x.2∧x.2≤1048576)∧(∀ x,x∈ls→0≤x.1∧x.1<ks.length)∧(∀ x,x∈bs→-1≤x.1∧x.1<ls.length∧0≤x.2.1∧x.2.1≤20000∧(x.1 = -1→x.2.1=0)∧0≤x.2.2∧x.2.2≤1073741824):=by
    have h1:ks.any zS8=false↔∀ x,x∈ks→0≤x.2∧x.2≤1048576:=by
      rw [R6];refine forall_congr' fun x=>forall_congr' fun hx=>?_
      unfold zS8;rw [eA,tH,wb]
    have h2:ls.any (zS7 ks.length)=false↔∀ x,x∈ls→0≤x.1∧x.1<ks.length:=by
      rw [R6];refine forall_congr' fun x=>forall_congr' fun hx=>?_
      unfold zS7;rw [eA,tH,wb];omega
    have h3:bs.any (zS9 ls.length)=false↔∀ x,x∈bs→-1≤x.1∧x.1<ls.length∧0≤x.2.1∧x.2.1≤20000∧(x.1 = -1→x.2.1=0)∧0≤x.2.2∧x.2.2≤1073741824:=by
      rw [R6];refine forall_congr' fun x=>forall_congr' fun hx=>?_
      unfold zS9;rw [eA,iC,iC,iC,tH,wb,tH,wb,tH,wb,Bool.and_eq_false_iff,decide_eq_false_iff_not,decide_eq_false_iff_not];omega
    unfold LP;rw [aJ,vY,vY,iC,h1,h2,h3,and_assoc]
  rw [e];constructor
  · rintro ⟨h1,h2,h3⟩;exact ⟨by simp,fun i hi=>by rw [aX,List.length_range] at hi;exact bB.2 ⟨i,eJ.2 hi,rfl⟩,fun i h=>h1 _ (aI h),fun i h=>h2 _ (aI h),fun i h=>h3 _ (aI h)⟩
  · intro t;refine ⟨fun x hx=>?_,fun x hx=>?_,fun x hx=>?_⟩
    · obtain ⟨i,hi,rfl⟩:=iU.1 hx;exact t.k i hi
    · obtain ⟨i,hi,rfl⟩:=iU.1 hx;exact t.l i hi
    · obtain ⟨i,hi,rfl⟩:=iU.1 hx;exact t.b i hi
end Go.Ld
namespace Go.Proofs.YtojgimibalokkaaGreat
open Go Go.Ab Go.Ld
attribute [local irreducible] VC AW cF aP
set_option maxHeartbeats 4000000
theorem zK2 {l:List KD}{k:Nat}(h:k<l.length):(fF l)[(k:Int).toNat]? = some [AV.v (.string l[k].1),AV.i l[k].2]:=by rw [bR];exact A5 h
theorem zJ3 {l:List LT}{k:Nat}(h:k<l.length):(iF l)[(k:Int).toNat]? = some [AV.i l[k].1,AV.i l[k].2.1,AV.b l[k].2.2]:=by rw [bR];exact H5 h
theorem zP3 {l:List BX}{k:Nat}(h:k<l.length):(dY l)[(k:Int).toNat]? = some [AV.i l[k].1,AV.i l[k].2.1,AV.i l[k].2.2]:=by rw [bR];exact EG h
theorem zX0 {l:List KD}{F:FuncId}{caps:List AV}{p:KD→Bool}(hl:l.length≤1000000) (hi:AV.idfL caps=true) (hF:∀ x,x∈l→aP Tryz.prog F (.agg [AV.v (.string x.1),AV.i x.2]::caps) [] (.b (p x)) []) :
    aP Tryz.prog 118 [.rowE (fF l) 2,.clo (.func F) [] caps] [] (.i (oS p l 0)) []:=by
  have hlen:(fF l).length=l.length:=aX _;refine bL T Tryz.func118 rfl rfl rfl rfl ?_
  (repeat' (first|refine wS ?_|refine wB ?_|(refine rg 0 (aV ?_))|(refine rg 1 (mW rfl (qW T rfl (mV ?_))))|refine nZ ?_));refine cX (X:={k:Nat // k≤l.length∧oS p l 0=oS p (l.drop k) k}) (fun k=>[(0,.rowE (fF l) 2),(1,.clo (.func F) [] caps),(7,.i (fF l).length),(8,.i k.1)]) (fun _=>[]) (fun k=>l.length-k.1) ⟨0,by simp,rfl⟩ ⟨[],rfl,⟨rfl,by rw [iW hi];rfl,rfl,rfl,trivial⟩,trivial,bK,fun _ h=>absurd h (cW _)⟩ ?_
  rintro ⟨k,hk,he⟩;dsimp only;by_cases hlt:k<l.length
  · have hc:=hF l[k] (aI hlt);have hg:=zK2 (l:=l) hlt;rw [B1 hlt] at he;generalize l[k]=y at *;cases hp:p y with
    | true=>
      rw [hp] at hc;rw [hp,if_pos rfl] at he
      (repeat' (first|refine wS ?_|refine wB ?_|refine wK ?_|refine wR ?_|refine wT ?_|(refine wC rfl ?_ ?_<;>(intro hb;(try simp only [nm] at hb);try (exfalso;omega)))|(refine rg 2 (vV (aK rfl rfl) ?_))|(refine rg 3 (mW rfl (aV ?_)))|(refine rg 4 (dR rfl (mW rfl (vV (ix T rfl (by omega) (rV l) hg) (lW T rfl (vV (by exact eL rfl rfl hc rfl (by simp [AV.idfL,AV.idf,hi]) rfl) ?_))))))|(refine rg 5 (mW rfl (aV ?_)))|refine nZ ?_));all_goals first | (exfalso;omega) | exact cM (.inl rfl) rfl (by rw [he];rfl)
    | false=>
      rw [hp] at hc;rw [hp,if_neg (by simp)] at he
      (repeat' (first|refine wS ?_|refine wB ?_|refine wK ?_|refine wU ?_|(refine wC rfl ?_ ?_<;>(intro hb;(try simp only [nm] at hb);try (exfalso;omega)))|(refine rg 2 (vV (aK rfl rfl) ?_))|(refine rg 3 (mW rfl (aV ?_)))|(refine rg 4 (dR rfl (mW rfl (vV (ix T rfl (by omega) (rV l) hg) (lW T rfl (vV (by exact eL rfl rfl hc rfl (by simp [AV.idfL,AV.idf,hi]) rfl) ?_))))))|(refine rg 6 (vV (bP rfl rfl (by omega) (by omega)) (mV ?_)))|refine nZ ?_));all_goals first | (exfalso;omega) | exact ⟨⟨k+1,hlt,he⟩,by dsimp only;omega,⟨[],rfl,⟨rfl,by rw [iW hi];rfl,rfl,rfl,trivial⟩,trivial,bK,fun _ h=>absurd h (cW _)⟩⟩
  · rw [vG (by omega)] at he
    (repeat' (first|refine wS ?_|refine wR ?_|refine wE ?_|(refine wC rfl ?_ ?_<;>(intro hb;(try simp only [nm] at hb);try (exfalso;omega)))|(refine rg 2 (vV (aK rfl rfl) ?_))|(refine rg 7 (aV ?_))|refine nZ ?_));all_goals first | (exfalso;omega) | exact cM (.inl rfl) rfl (by rw [he];rfl)
theorem zL3 {l:List KD}{F:FuncId}{caps:List AV}{p:KD→Bool}(hl:l.length≤1000000) (hi:AV.idfL caps=true) (hF:∀ x,x∈l→aP Tryz.prog F (.agg [AV.v (.string x.1),AV.i x.2]::caps) [] (.b (p x)) []) :
    aP Tryz.prog 87 [.rowE (fF l) 2,.clo (.func F) [] caps] [] (.b (l.any p)) []:=by
  have hc:=zX0 hl hi hF;rw [← sS p l 0];refine bL T Tryz.func87 rfl rfl rfl rfl ?_
  (repeat' (first|refine wS ?_|refine wR ?_|(refine rg 0 (aV ?_))|(refine rg 1 (dR rfl (vV (by exact eL rfl rfl hc rfl (by simp [AV.idfL,AV.idf,hi]) rfl) ?_));refine vV (fM rfl rfl) (aV ?_))|refine nZ ?_));all_goals first | (exfalso;omega) | exact rQ
theorem zW9 {l:List LT}{F:FuncId}{caps:List AV}{p:LT→Bool}(hl:l.length≤1000000) (hi:AV.idfL caps=true) (hF:∀ x,x∈l→aP Tryz.prog F (.agg [AV.i x.1,AV.i x.2.1,AV.b x.2.2]::caps) [] (.b (p x)) []) :
    aP Tryz.prog 119 [.rowE (iF l) 3,.clo (.func F) [] caps] [] (.i (oS p l 0)) []:=by
  have hlen:(iF l).length=l.length:=aX _;refine bL T Tryz.func119 rfl rfl rfl rfl ?_
  (repeat' (first|refine wS ?_|refine wB ?_|(refine rg 0 (aV ?_))|(refine rg 1 (mW rfl (qW T rfl (mV ?_))))|refine nZ ?_));refine cX (X:={k:Nat // k≤l.length∧oS p l 0=oS p (l.drop k) k}) (fun k=>[(0,.rowE (iF l) 3),(1,.clo (.func F) [] caps),(7,.i (iF l).length),(8,.i k.1)]) (fun _=>[]) (fun k=>l.length-k.1) ⟨0,by simp,rfl⟩ ⟨[],rfl,⟨rfl,by rw [iW hi];rfl,rfl,rfl,trivial⟩,trivial,bK,fun _ h=>absurd h (cW _)⟩ ?_
  rintro ⟨k,hk,he⟩;dsimp only;by_cases hlt:k<l.length
  · have hc:=hF l[k] (aI hlt);have hg:=zJ3 (l:=l) hlt;rw [B1 hlt] at he;generalize l[k]=y at *;cases hp:p y with
    | true=>
      rw [hp] at hc;rw [hp,if_pos rfl] at he
      (repeat' (first|refine wS ?_|refine wB ?_|refine wK ?_|refine wR ?_|refine wT ?_|(refine wC rfl ?_ ?_<;>(intro hb;(try simp only [nm] at hb);try (exfalso;omega)))|(refine rg 2 (vV (aK rfl rfl) ?_))|(refine rg 3 (mW rfl (aV ?_)))|(refine rg 4 (dR rfl (mW rfl (vV (ix T rfl (by omega) (vC l) hg) (lW T rfl (vV (by exact eL rfl rfl hc rfl (by simp [AV.idfL,AV.idf,hi]) rfl) ?_))))))|(refine rg 5 (mW rfl (aV ?_)))|refine nZ ?_));all_goals first | (exfalso;omega) | exact cM (.inl rfl) rfl (by rw [he];rfl)
    | false=>
      rw [hp] at hc;rw [hp,if_neg (by simp)] at he
      (repeat' (first|refine wS ?_|refine wB ?_|refine wK ?_|refine wU ?_|(refine wC rfl ?_ ?_<;>(intro hb;(try simp only [nm] at hb);try (exfalso;omega)))|(refine rg 2 (vV (aK rfl rfl) ?_))|(refine rg 3 (mW rfl (aV ?_)))|(refine rg 4 (dR rfl (mW rfl (vV (ix T rfl (by omega) (vC l) hg) (lW T rfl (vV (by exact eL rfl rfl hc rfl (by simp [AV.idfL,AV.idf,hi]) rfl) ?_))))))|(refine rg 6 (vV (bP rfl rfl (by omega) (by omega)) (mV ?_)))|refine nZ ?_));all_goals first | (exfalso;omega) | exact ⟨⟨k+1,hlt,he⟩,by dsimp only;omega,⟨[],rfl,⟨rfl,by rw [iW hi];rfl,rfl,rfl,trivial⟩,trivial,bK,fun _ h=>absurd h (cW _)⟩⟩
  · rw [vG (by omega)] at he
    (repeat' (first|refine wS ?_|refine wR ?_|refine wE ?_|(refine wC rfl ?_ ?_<;>(intro hb;(try simp only [nm] at hb);try (exfalso;omega)))|(refine rg 2 (vV (aK rfl rfl) ?_))|(refine rg 7 (aV ?_))|refine nZ ?_));all_goals first | (exfalso;omega) | exact cM (.inl rfl) rfl (by rw [he];rfl)
theorem zL2 {l:List LT}{F:FuncId}{caps:List AV}{p:LT→Bool}(hl:l.length≤1000000) (hi:AV.idfL caps=true) (hF:∀ x,x∈l→aP Tryz.prog F (.agg [AV.i x.1,AV.i x.2.1,AV.b x.2.2]::caps) [] (.b (p x)) []) :
    aP Tryz.prog 89 [.rowE (iF l) 3,.clo (.func F) [] caps] [] (.b (l.any p)) []:=by
  have hc:=zW9 hl hi hF;rw [← sS p l 0];refine bL T Tryz.func89 rfl rfl rfl rfl ?_
  (repeat' (first|refine wS ?_|refine wR ?_|(refine rg 0 (aV ?_))|(refine rg 1 (dR rfl (vV (by exact eL rfl rfl hc rfl (by simp [AV.idfL,AV.idf,hi]) rfl) ?_));refine vV (fM rfl rfl) (aV ?_))|refine nZ ?_));all_goals first | (exfalso;omega) | exact rQ
theorem zX1 {l:List BX}{F:FuncId}{caps:List AV}{p:BX→Bool}(hl:l.length≤1000000) (hi:AV.idfL caps=true) (hF:∀ x,x∈l→aP Tryz.prog F (.agg [AV.i x.1,AV.i x.2.1,AV.i x.2.2]::caps) [] (.b (p x)) []) :
    aP Tryz.prog 120 [.rowE (dY l) 3,.clo (.func F) [] caps] [] (.i (oS p l 0)) []:=by
  have hlen:(dY l).length=l.length:=aX _;refine bL T Tryz.func120 rfl rfl rfl rfl ?_
  (repeat' (first|refine wS ?_|refine wB ?_|(refine rg 0 (aV ?_))|(refine rg 1 (mW rfl (qW T rfl (mV ?_))))|refine nZ ?_));refine cX (X:={k:Nat // k≤l.length∧oS p l 0=oS p (l.drop k) k}) (fun k=>[(0,.rowE (dY l) 3),(1,.clo (.func F) [] caps),(7,.i (dY l).length),(8,.i k.1)]) (fun _=>[]) (fun k=>l.length-k.1) ⟨0,by simp,rfl⟩ ⟨[],rfl,⟨rfl,by rw [iW hi];rfl,rfl,rfl,trivial⟩,trivial,bK,fun _ h=>absurd h (cW _)⟩ ?_
  rintro ⟨k,hk,he⟩;dsimp only;by_cases hlt:k<l.length
  · have hc:=hF l[k] (aI hlt);have hg:=zP3 (l:=l) hlt;rw [B1 hlt] at he;generalize l[k]=y at *;cases hp:p y with
    | true=>
      rw [hp] at hc;rw [hp,if_pos rfl] at he
      (repeat' (first|refine wS ?_|refine wB ?_|refine wK ?_|refine wR ?_|refine wT ?_|(refine wC rfl ?_ ?_<;>(intro hb;(try simp only [nm] at hb);try (exfalso;omega)))|(refine rg 2 (vV (aK rfl rfl) ?_))|(refine rg 3 (mW rfl (aV ?_)))|(refine rg 4 (dR rfl (mW rfl (vV (ix T rfl (by omega) (lE l) hg) (lW T rfl (vV (by exact eL rfl rfl hc rfl (by simp [AV.idfL,AV.idf,hi]) rfl) ?_))))))|(refine rg 5 (mW rfl (aV ?_)))|refine nZ ?_));all_goals first | (exfalso;omega) | exact cM (.inl rfl) rfl (by rw [he];rfl)
    | false=>
      rw [hp] at hc;rw [hp,if_neg (by simp)] at he
      (repeat' (first|refine wS ?_|refine wB ?_|refine wK ?_|refine wU ?_|(refine wC rfl ?_ ?_<;>(intro hb;(try simp only [nm] at hb);try (exfalso;omega)))|(refine rg 2 (vV (aK rfl rfl) ?_))|(refine rg 3 (mW rfl (aV ?_)))|(refine rg 4 (dR rfl (mW rfl (vV (ix T rfl (by omega) (lE l) hg) (lW T rfl (vV (by exact eL rfl rfl hc rfl (by simp [AV.idfL,AV.idf,hi]) rfl) ?_))))))|(refine rg 6 (vV (bP rfl rfl (by omega) (by omega)) (mV ?_)))|refine nZ ?_));all_goals first | (exfalso;omega) | exact ⟨⟨k+1,hlt,he⟩,by dsimp only;omega,⟨[],rfl,⟨rfl,by rw [iW hi];rfl,rfl,rfl,trivial⟩,trivial,bK,fun _ h=>absurd h (cW _)⟩⟩
  · rw [vG (by omega)] at he
    (repeat' (first|refine wS ?_|refine wR ?_|refine wE ?_|(refine wC rfl ?_ ?_<;>(intro hb;(try simp only [nm] at hb);try (exfalso;omega)))|(refine rg 2 (vV (aK rfl rfl) ?_))|(refine rg 7 (aV ?_))|refine nZ ?_));all_goals first | (exfalso;omega) | exact cM (.inl rfl) rfl (by rw [he];rfl)
theorem zL4 {l:List BX}{F:FuncId}{caps:List AV}{p:BX→Bool}(hl:l.length≤1000000) (hi:AV.idfL caps=true) (hF:∀ x,x∈l→aP Tryz.prog F (.agg [AV.i x.1,AV.i x.2.1,AV.i x.2.2]::caps) [] (.b (p x)) []) :
    aP Tryz.prog 91 [.rowE (dY l) 3,.clo (.func F) [] caps] [] (.b (l.any p)) []:=by
  have hc:=zX1 hl hi hF;rw [← sS p l 0];refine bL T Tryz.func91 rfl rfl rfl rfl ?_
  (repeat' (first|refine wS ?_|refine wR ?_|(refine rg 0 (aV ?_))|(refine rg 1 (dR rfl (vV (by exact eL rfl rfl hc rfl (by simp [AV.idfL,AV.idf,hi]) rfl) ?_));refine vV (fM rfl rfl) (aV ?_))|refine nZ ?_));all_goals first | (exfalso;omega) | exact rQ
theorem yB8 (x:KD):aP Tryz.prog 88 [.agg [AV.v (.string x.1),AV.i x.2]] [] (.b (zS8 x)) []:=by
  have hw:=kJ x.2 0 1048576;unfold zS8;generalize eF x.2 0 1048576=v at *;refine bL T Tryz.func88 rfl rfl rfl rfl ?_
  (repeat' (first|refine wS ?_|refine wR ?_|(refine rg 0 (bS (bZ rfl rfl) rfl (aV ?_)))|(refine rg 1 (fR T rfl (vV (kC (hw)) (vV (cT rfl) (aV ?_)))))|refine nZ ?_));all_goals first | (exfalso;omega) | exact rQ
theorem yB7 (ks:List KD) (x:LT) (hk:ks.length≤1000):aP Tryz.prog 90 [.agg [AV.i x.1,AV.i x.2.1,AV.b x.2.2],.pr [.rowE (fF ks) 2] 0] [] (.b (zS7 ks.length x)) []:=by
  have e1:(fF ks).length=ks.length:=by simp
  have hw:=kJ x.1 0 (((fF ks).length:Int)-1);unfold zS7;rw [e1] at hw;generalize eF x.1 0 ((ks.length:Int)-1)=v at *;rw [← e1] at hw;refine bL T Tryz.func90 rfl rfl rfl rfl ?_
  (repeat' (first|refine wS ?_|refine wR ?_|(refine rg 0 (bS (bZ rfl rfl) rfl (aV ?_)))|(refine rg 1 (fR T rfl (lW T rfl (qW T rfl (vV (cH rfl rfl (by omega) (by omega)) (vV (kC (hw)) (vV (cT rfl) (aV ?_))))))))|refine nZ ?_));all_goals first | (exfalso;omega) | exact rQ
theorem yB9 (ls:List LT) (x:BX) (hk:ls.length≤1000):aP Tryz.prog 92 [.agg [AV.i x.1,AV.i x.2.1,AV.i x.2.2],.pr [.rowE (iF ls) 3] 0] [] (.b (zS9 ls.length x)) []:=by
  have e1:(iF ls).length=ls.length:=by simp
  obtain ⟨lot,ct,ta⟩:=x;have h1:=kJ lot (-1) (((iF ls).length:Int)-1);have h2:=kJ ct 0 20000;have h3:=kJ ta 0 1073741824;unfold zS9;dsimp only;rw [e1] at h1;generalize eF lot (-1) ((ls.length:Int)-1)=v1 at *;rw [← e1] at h1;generalize eF ct 0 20000=v2 at *;generalize eF ta 0 1073741824=v3 at *;cases v1 <;> cases v2 <;> cases v3
  all_goals
    by_cases a1:lot<0
    · by_cases a2:0<ct
      · rw [decide_eq_true a1,decide_eq_true a2];refine bL T Tryz.func92 rfl rfl rfl rfl ?_
        (repeat' (first|refine wS ?_|refine wR ?_|(refine rg 0 (bS (bZ rfl rfl) rfl (aV ?_)))|(refine rg 1 (fR T rfl (lW T rfl (qW T rfl (vV (cH rfl rfl (by omega) (by omega)) (vV (kC (h1)) (vV (cT rfl) (mV ?_)))))));(all_goals first|(refine gT (fW T rfl (gT (lW T rfl (gT (vV (kC (h2)) (gT (vV (cT rfl) ?_))))))))|(iterate 4 refine gF ?_));(all_goals (refine pW rfl (mV ?_)));(all_goals first|(refine gT (fW T rfl (gT (lW T rfl (gT (vV (aK rfl rfl) (gT (mV ?_))))))))|(iterate 4 refine gF ?_));(all_goals first|(refine gK ?_)|(refine aY rfl rfl ?_ ?_<;>(intro hb;rw [hb];(try simp only [nm] at hb);try (exfalso;omega))));(all_goals first|(refine gT (fW T rfl (gT (lW T rfl (gT (vV (dX rfl rfl) ?_))))))|(iterate 3 refine gU ?_));(all_goals first|(refine gT (pV ?_))|(refine gF ?_));(all_goals (refine pW rfl (mV ?_)));(all_goals first|(refine gK ?_)|(refine aY rfl rfl ?_ ?_<;>(intro hb;rw [hb];(try simp only [nm] at hb);try (exfalso;omega))));(all_goals ((iterate 4 refine gF ?_);refine pW rfl (aV ?_))))|refine nZ ?_));all_goals first | (exfalso;omega) | exact rQ
      · rw [decide_eq_true a1,decide_eq_false a2];refine bL T Tryz.func92 rfl rfl rfl rfl ?_
        (repeat' (first|refine wS ?_|refine wR ?_|(refine rg 0 (bS (bZ rfl rfl) rfl (aV ?_)))|(refine rg 1 (fR T rfl (lW T rfl (qW T rfl (vV (cH rfl rfl (by omega) (by omega)) (vV (kC (h1)) (vV (cT rfl) (mV ?_)))))));(all_goals first|(refine gT (fW T rfl (gT (lW T rfl (gT (vV (kC (h2)) (gT (vV (cT rfl) ?_))))))))|(iterate 4 refine gF ?_));(all_goals (refine pW rfl (mV ?_)));(all_goals first|(refine gT (fW T rfl (gT (lW T rfl (gT (vV (aK rfl rfl) (gT (mV ?_))))))))|(iterate 4 refine gF ?_));(all_goals first|(refine gK ?_)|(refine aY rfl rfl ?_ ?_<;>(intro hb;rw [hb];(try simp only [nm] at hb);try (exfalso;omega))));(all_goals first|(refine gT (fW T rfl (gT (lW T rfl (gT (vV (dX rfl rfl) ?_))))))|(iterate 3 refine gU ?_));(all_goals first|(refine gT (pV ?_))|(refine gF ?_));(all_goals (refine pW rfl (mV ?_)));(all_goals first|(refine gK ?_)|(refine aY rfl rfl ?_ ?_<;>(intro hb;rw [hb];(try simp only [nm] at hb);try (exfalso;omega))));(all_goals first|(refine gT (fW T rfl (gT (lW T rfl (gT (vV (kC (h3)) (gT (vV (cT rfl) ?_))))))))|(iterate 4 refine gF ?_));(all_goals (refine pW rfl (aV ?_))))|refine nZ ?_));all_goals first | (exfalso;omega) | exact rQ
    · rw [decide_eq_false a1];refine bL T Tryz.func92 rfl rfl rfl rfl ?_
      (repeat' (first|refine wS ?_|refine wR ?_|(refine rg 0 (bS (bZ rfl rfl) rfl (aV ?_)))|(refine rg 1 (fR T rfl (lW T rfl (qW T rfl (vV (cH rfl rfl (by omega) (by omega)) (vV (kC (h1)) (vV (cT rfl) (mV ?_)))))));(all_goals first|(refine gT (fW T rfl (gT (lW T rfl (gT (vV (kC (h2)) (gT (vV (cT rfl) ?_))))))))|(iterate 4 refine gF ?_));(all_goals (refine pW rfl (mV ?_)));(all_goals first|(refine gT (fW T rfl (gT (lW T rfl (gT (vV (aK rfl rfl) (gT (mV ?_))))))))|(iterate 4 refine gF ?_));(all_goals first|(refine gK ?_)|(refine aY rfl rfl ?_ ?_<;>(intro hb;rw [hb];(try simp only [nm] at hb);try (exfalso;omega))));(all_goals ((iterate 3 first|refine gF ?_|refine gU ?_)));(all_goals first|(refine gT (pV ?_))|(refine gF ?_));(all_goals (refine pW rfl (mV ?_)));(all_goals first|(refine gT (fW T rfl (gT (lW T rfl (gT (vV (kC (h3)) (gT (vV (cT rfl) ?_))))))))|(iterate 4 refine gF ?_));(all_goals (refine pW rfl (aV ?_))))|refine nZ ?_));all_goals first | (exfalso;omega) | exact rQ
theorem zQ7 (ks:List KD) (ls:List LT) (bs:List BX) (h1:ks.length≤1000) (h2:ls.length≤1000) (h3:bs.length≤1000) :
    aP Tryz.prog 44 [.rowE (fF ks) 2,.rowE (iF ls) 3,.rowE (ints (nats (List.range bs.length))) 1,.rowE (dY bs) 3] [] (.b (LP ks ls bs)) []:=by
  have en:(nats (List.range bs.length)).length=bs.length:=by simp
  have e3:(ints (nats (List.range bs.length))).length=bs.length:=by simp
  have e4:(dY bs).length=bs.length:=by simp
  have v1:=G1 (nats (List.range bs.length));have v2:=V9 (nats (List.range bs.length)) (by omega)
  have hm:∀ i:Nat,i<bs.length→(i:Int)∈nats (List.range bs.length):=fun i hi=>bB.2 ⟨i,eJ.2 hi,rfl⟩
  rw [G6 (n:=bs.length) en hm] at v2;have v3:=B8 (nats (List.range bs.length)) bs.length (by omega) (by omega)
  rw [CU] at v3;rw [show (bs.length:Int)=((dY bs).length:Int) by omega] at v3
  have c1:=zL3 (l:=ks) (F:=88) (caps:=[]) (p:=zS8) (by omega) rfl (fun x hx=>yB8 x)
  have c2:=zL2 (l:=ls) (F:=90) (caps:=[.pr [.rowE (fF ks) 2] 0]) (p:=zS7 ks.length) (by omega) rfl (fun x hx=>yB7 ks x h1)
  have c3:=zL4 (l:=bs) (F:=92) (caps:=[.pr [.rowE (iF ls) 3] 0]) (p:=zS9 ls.length) (by omega) rfl (fun x hx=>yB9 ls x h2)
  unfold LP;generalize nats (List.range bs.length)=sr at *;generalize ks.any zS8=w1 at *;generalize ls.any (zS7 ks.length)=w2 at *;generalize bs.any (zS9 ls.length)=w3 at *;cases w1 <;> cases w2 <;> cases w3
  all_goals
    refine bL T Tryz.func44 rfl rfl rfl rfl ?_
    (repeat' (first|refine wS ?_|refine wK ?_|refine wU ?_|(refine rg 0 (bS (bZ rfl rfl) rfl (bS (bZ rfl rfl) rfl (aV ?_))))|(refine rg 1 (mW rfl (vV (kC (v1)) (vV (by exact eL rfl rfl v2 rfl rfl rfl) ?_)));refine aV ?_)|(refine rg 2 (mW rfl (qW T rfl (mW rfl (qW T rfl (vV (I3 rfl rfl (by omega)) (mW rfl (yN rfl (yN rfl (gT ?_)))))))));refine qW T rfl (yV (kC (v3)) (yV (cT rfl) (pV ?_))))|refine nZ ?_));all_goals try (exfalso;omega)
    (repeat' (first|refine wS ?_|refine wR ?_|(refine rg 4 (lW T rfl (vV (by exact eL rfl rfl c1 rfl rfl rfl) ?_));refine aV ?_)|(refine rg 5 (yG7 ?_);(all_goals first|(refine gT (lW T rfl (gT (vV (by exact gI rfl rfl) ?_)));refine gT (vV (by exact eC rfl rfl c2 (.cons (.row _ _ _) (.cons (.clo .nil (.cons (.ptr rfl (.cons (.row _ _ _) .nil)) .nil)) .nil)) rfl rfl) ?_))|(iterate 3 refine gF ?_));(all_goals (refine pW rfl (aV ?_))))|(refine rg 6 (mW rfl (vV (cT rfl) (mV ?_)));(all_goals first|(refine gT (mW rfl (gT (vV (by exact gI rfl rfl) ?_)));refine gT (vV (by exact eC rfl rfl c3 (.cons (.row _ _ _) (.cons (.clo .nil (.cons (.ptr rfl (.cons (.row _ _ _) .nil)) .nil)) .nil)) rfl rfl) ?_);refine gT (vV (cT rfl) ?_))|(iterate 4 refine gF ?_));(all_goals (refine pW rfl (aV ?_))))|refine nZ ?_));all_goals first | (exfalso;omega) | exact rQ
theorem zV6 (c:Cx) (h1:c.ks.length≤1000) (h2:c.ls.length≤1000) (h3:c.bs.length≤1000) (hno:(!sE c&&LP c.ks c.ls c.bs)=false) :
    aP Tryz.prog 16 [.agg [.i c.m,.i c.st,.i c.er,.i c.sl],.rowE (fF c.ks) 2,.rowE (iF c.ls) 3,.rowE (dY c.bs) 3] [] (.tup [.v (.pointer none),.i 1]) []:=by
  have hbl:(dY c.bs).length=c.bs.length:=aX _;have hid:=Go.Proofs.YtojgimibalokkaaGreat.ident_c c.bs.length (by omega)
  rw [show (c.bs.length:Int)=((dY c.bs).length:Int) by omega] at hid
  have htr:=zQ7 c.ks c.ls c.bs h1 h2 h3;have hsn:=uE c;generalize LP c.ks c.ls c.bs=v at *;generalize sE c=w at *;cases w <;> cases v
  case false.true=>cases hno
  all_goals
    refine bL T Tryz.func16 rfl rfl rfl rfl ?_
    (repeat' (first|refine wS ?_|(refine rg 0 (bS (bZ rfl rfl) rfl (lO ?_)))|refine nZ ?_));refine eI 4 rfl rfl rfl ?_
    (repeat' (first|refine wS ?_|refine wR ?_|refine wT ?_|(refine rg 1 (lW T rfl (vV (kC (hsn)) (vV (cT rfl) (mV ?_))));(all_goals first|(refine gT (mW rfl (gT (mW rfl (gT (mW rfl (gT (qW T rfl (gT (vV (kC (hid)) ?_)))))))));refine gT (mW rfl (gT (vV (kC (htr)) (gT (vV (cT rfl) ?_))))))|(iterate 8 refine gF ?_));(all_goals (refine pV ?_)))|(refine rg 2 (lO ?_))|refine nZ ?_));all_goals first | (exfalso;omega) | exact rQ
theorem zV8 (c:Cx) (h1:c.ks.length≤1000) (h2:c.ls.length≤1000) (h0:c.bs=[]) (hs:sE c=false) (ht:LP c.ks c.ls c.bs=true) :
    aP Tryz.prog 16 [.agg [.i c.m,.i c.st,.i c.er,.i c.sl],.rowE (fF c.ks) 2,.rowE (iF c.ls) 3,.rowE (dY c.bs) 3] [] (.tup [.ptr 0 0,.i 0]) [.cells [.i c.m,.i c.st,.i c.er,.i c.sl,.rowE (fF c.ks) 2,.rowE (iF c.ls) 3,.rowE (dY c.bs) 3,.nils]]:=by
  have hbl:(dY c.bs).length=0:=by rw [h0];rfl
  have hid:=ident_c c.bs.length (by rw [h0];decide)
  have htr:=zQ7 c.ks c.ls c.bs h1 h2 (by rw [h0];decide)
  rw [ht] at htr;rw [show (c.bs.length:Int)=((dY c.bs).length:Int) by rw [h0];rfl] at hid
  have hsn:=uE c;rw [hs] at hsn;have c1:=KC c.ks (by omega)
  have c2:=KB c.ls (by omega)
  have c3:=KF c.bs (by rw [h0];decide)
  refine bL T Tryz.func16 rfl rfl rfl rfl ?_
  (repeat' (first|refine wS ?_|(refine rg 0 (bS (bZ rfl rfl) rfl (lO ?_)))|refine nZ ?_));refine eI 4 rfl rfl rfl ?_
  (repeat' (first|refine wS ?_|refine wK ?_|refine wU ?_|(refine rg 1 (lW T rfl (vV (kC (hsn)) (vV (cT rfl) (mW rfl (yN rfl (yN rfl (yN rfl (gT (qV T ?_)))))))));refine yV (kC (hid)) (yN rfl (yV (kC (htr)) (yV (cT rfl) (pV ?_)))))|(refine bO (id:=3) 69 [[],[],[1],[],[1,2,3],[],rM 1 5,rN 7,rN 8] (rM 27 9) yO8 cK rfl (by decide +kernel) (dO T rfl (dN rfl (dV rfl (kC (c1)) (dN rfl (dV rfl (kC (c2)) (dN rfl (dV rfl (kC (c3)) (dV rfl (by exact gG T rfl rfl rfl rfl) ?_))))))));refine uL rfl rfl rfl (by exact bZ rfl rfl) rfl ?_;refine dE ?_;refine aV ?_)|refine nZ ?_));all_goals try (exfalso;omega)
  refine gM [(3,.rowE (dY c.bs) 3),(10,.ptr 0 0)] [.cells [.i c.m,.i c.st,.i c.er,.i c.sl,.rowE (fF c.ks) 2,.rowE (iF c.ls) 3,.rowE (dY c.bs) 3,.nils]] ⟨[1],rfl,(by repeat first|exact trivial|refine ⟨rfl,?_⟩),⟨.inr rfl,trivial⟩,by decide,kP _⟩ ?_
  (repeat' (first|refine wB ?_|(refine rg 4 (mW rfl (qW T rfl (mV ?_))))|refine nZ ?_));all_goals try (exfalso;omega)
  refine cX (X:=Unit) (fun _=>[(10,.ptr 0 0),(36,.rowE (dY c.bs) 3),(37,.i (dY c.bs).length),(38,.i 0)]) (fun _=>[.cells [.i c.m,.i c.st,.i c.er,.i c.sl,.rowE (fF c.ks) 2,.rowE (iF c.ls) 3,.rowE (dY c.bs) 3,.nils]]) (fun _=>0) () ⟨[0],rfl,(by repeat first|exact trivial|refine ⟨rfl,?_⟩),⟨.inr rfl,trivial⟩,by decide,kP _⟩ ?_
  rintro ⟨⟩
  (repeat' (first|refine wS ?_|refine wR ?_|refine wE ?_|(refine wC rfl ?_ ?_<;>(intro hb;(try simp only [nm] at hb);try (exfalso;omega)))|(refine rg 5 (vV (aK rfl rfl) ?_))|(refine rg 10 (mW rfl (lO ?_)))|refine nZ ?_));all_goals try (exfalso;omega)
  all_goals exact ⟨.inl rfl,[0],_,rfl,rfl,rfl,⟨.inr rfl,trivial⟩,by decide,kP _⟩
theorem W9 (n k a b m:Int) (ids:List Int) (hl:ids.length≤9223372036854775807) (hn:0≤n∧n≤1000) :
    aP Tryz.prog 18 [.i n,.agg [.i k,.i a,.i b,.i m,.rowE (Go.Ab.ints ids) 1]] [] (.b (gH n ⟨k,a,b,m,ids⟩)) []:=by
  have hil:(Go.Ab.ints ids).length=ids.length:=by simp
  cases hA:eF a 0 (n-1)
  · have hA2:a<0∨n≤a:=by
      rw [← eA] at hA;simp only [eF,aJ,decide_eq_true_eq] at hA;omega
    have e:gH n ⟨k,a,b,m,ids⟩=(false):=by rw [kD];first | (rw [hA];rfl) | (rw [hAb];rcases h1 with h | h;(rw [decide_eq_false (by omega:¬ (k=0∨ids.length=0))];simp);(rw [decide_eq_false (by omega:¬ (k=4∨b=0))];simp)) | (rw [hAb,decide_eq_true hid,decide_eq_true hbz];simp only [gL];first | rw [if_pos k0] | rw [if_neg k0,if_pos k1] | rw [if_neg k0,if_neg k1,if_pos k4] | rw [if_neg k0,if_neg k1,if_neg k4,if_pos k5] | rw [if_neg k0,if_neg k1,if_neg k4,if_neg k5])
    rw [e];refine bL T Tryz.func18 rfl rfl rfl rfl ?_
    (repeat' (first|refine wS ?_|(refine rg 0 (bS (bZ rfl rfl) rfl (aV ?_)))|refine nZ ?_));refine eI 3 (cs:=[.i k,.i a,.i b,.i m,.rowE (Go.Ab.ints ids) 1]) rfl rfl rfl ?_
    (repeat' (first|refine wS ?_|refine wR ?_|refine wT ?_|(refine rg 1 (fR T rfl (vV (aK rfl rfl) (mV ?_)));refine aY rfl rfl ?_ ?_<;>(intro hb;rw [hb];(try simp only [nm] at hb);try (exfalso;omega));(all_goals first|(refine gT (fW T rfl (gT (lW T rfl (gT (mW rfl (gT (vV (fM rfl rfl) ?_))))))))|(iterate 4 refine gF ?_));(all_goals (refine pW rfl (mV ?_)));(all_goals first|(refine gK ?_)|(refine aY rfl rfl ?_ ?_<;>(intro hb;rw [hb];(try simp only [nm] at hb);try (exfalso;omega))));(all_goals ((iterate 4 refine gF ?_);(iterate 3 refine gU ?_);refine gF (pW rfl (mV ?_));(iterate 5 refine gF ?_);(iterate 3 refine gU ?_);refine gF (pV ?_))))|(refine rg 2 (aV ?_))|refine nZ ?_));all_goals first | (exfalso;omega) | exact rQ
  · have hAb:=hA;simp only [eF,aJ,decide_eq_true_eq] at hA;by_cases h1:k≠0∧0<ids.length∨k≠4∧b≠0
    · have e:gH n ⟨k,a,b,m,ids⟩=(false):=by rw [kD];first | (rw [hA];rfl) | (rw [hAb];rcases h1 with h | h;(rw [decide_eq_false (by omega:¬ (k=0∨ids.length=0))];simp);(rw [decide_eq_false (by omega:¬ (k=4∨b=0))];simp)) | (rw [hAb,decide_eq_true hid,decide_eq_true hbz];simp only [gL];first | rw [if_pos k0] | rw [if_neg k0,if_pos k1] | rw [if_neg k0,if_neg k1,if_pos k4] | rw [if_neg k0,if_neg k1,if_neg k4,if_pos k5] | rw [if_neg k0,if_neg k1,if_neg k4,if_neg k5])
      rw [e];refine bL T Tryz.func18 rfl rfl rfl rfl ?_
      (repeat' (first|refine wS ?_|(refine rg 0 (bS (bZ rfl rfl) rfl (aV ?_)))|refine nZ ?_));refine eI 3 (cs:=[.i k,.i a,.i b,.i m,.rowE (Go.Ab.ints ids) 1]) rfl rfl rfl ?_
      (repeat' (first|refine wS ?_|refine wR ?_|refine wT ?_|(refine wC rfl ?_ ?_<;>(intro hb;(try simp only [nm] at hb);try (exfalso;omega)))|(refine rg 1 (fR T rfl (vV (aK rfl rfl) (mV ?_)));refine aY rfl rfl ?_ ?_<;>(intro hb;rw [hb];(try simp only [nm] at hb);try (exfalso;omega));(all_goals (refine yP T rfl (yO T rfl (yN rfl (yV (fM rfl rfl) (pW rfl (mV ?_)))));refine aY rfl rfl ?_ ?_<;>(intro hb;rw [hb];(try simp only [nm] at hb);try (exfalso;omega))));(all_goals (refine yP T rfl (yO T rfl (yV (dI rfl rfl) (yM ?_)));refine aY rfl rfl ?_ ?_<;>(intro hb;rw [hb];(try simp only [nm] at hb);try (exfalso;omega))));(all_goals first|(refine gT (fW T rfl (gT (lW T rfl (gT (vV (dI rfl rfl) ?_))))))|(iterate 3 refine gF ?_));(all_goals (refine gT (pW rfl (pW rfl (mV ?_)))));(all_goals first|(refine gK ?_)|(refine aY rfl rfl ?_ ?_<;>(intro hb;rw [hb];(try simp only [nm] at hb);try (exfalso;omega))));(all_goals first|(refine gT (fW T rfl (gT (lW T rfl (gT (qW T rfl (gT (vV (dX rfl rfl) (gT (mV ?_))))))))))|(iterate 5 refine gF ?_));(all_goals first|(refine gK ?_)|(refine aY rfl rfl ?_ ?_<;>(intro hb;rw [hb];(try simp only [nm] at hb);try (exfalso;omega))));(all_goals first|(refine gT (fW T rfl (gT (lW T rfl (gT (vV (dI rfl rfl) ?_))))))|(iterate 3 refine gU ?_));(all_goals first|(refine gT (pV ?_))|(refine gF ?_));(all_goals (refine pV ?_)))|(refine rg 2 (aV ?_))|refine nZ ?_));all_goals first | (exfalso;omega) | exact rQ
    · have hid:k=0∨ids.length=0:=by omega
      have hbz:k=4∨b=0:=by omega
      by_cases k0:k=0
      · have e:gH n ⟨k,a,b,m,ids⟩=(decide (m=0)&&S6 ids n):=by rw [kD];first | (rw [hA];rfl) | (rw [hAb];rcases h1 with h | h;(rw [decide_eq_false (by omega:¬ (k=0∨ids.length=0))];simp);(rw [decide_eq_false (by omega:¬ (k=4∨b=0))];simp)) | (rw [hAb,decide_eq_true hid,decide_eq_true hbz];simp only [gL];first | rw [if_pos k0] | rw [if_neg k0,if_pos k1] | rw [if_neg k0,if_neg k1,if_pos k4] | rw [if_neg k0,if_neg k1,if_neg k4,if_pos k5] | rw [if_neg k0,if_neg k1,if_neg k4,if_neg k5])
        rw [e];have hno:=fun (i:Nat) (h:i<ids.length)=>U5 (l:=ids) (n:=n) h;have hyes:=J8 (l:=ids) (n:=n);generalize S6 ids n=R at *;refine bL T Tryz.func18 rfl rfl rfl rfl ?_
        (repeat' (first|refine wS ?_|(refine rg 0 (bS (bZ rfl rfl) rfl (aV ?_)))|refine nZ ?_));refine eI 3 (cs:=[.i k,.i a,.i b,.i m,.rowE (Go.Ab.ints ids) 1]) rfl rfl rfl ?_
        (repeat' (first|refine wS ?_|refine wB ?_|refine wK ?_|refine wT ?_|refine wU ?_|(refine wC rfl ?_ ?_<;>(intro hb;(try simp only [nm] at hb);try (exfalso;omega)))|(refine rg 1 (fR T rfl (vV (aK rfl rfl) (mV ?_)));refine aY rfl rfl ?_ ?_<;>(intro hb;rw [hb];(try simp only [nm] at hb);try (exfalso;omega));(all_goals (refine yP T rfl (yO T rfl (yN rfl (yV (fM rfl rfl) (pW rfl (mV ?_)))));refine aY rfl rfl ?_ ?_<;>(intro hb;rw [hb];(try simp only [nm] at hb);try (exfalso;omega))));(all_goals (refine yP T rfl (yO T rfl (yV (dI rfl rfl) (yM ?_)));refine aY rfl rfl ?_ ?_<;>(intro hb;rw [hb];(try simp only [nm] at hb);try (exfalso;omega))));(all_goals ((iterate 3 refine gF ?_);refine gT (pW rfl (pW rfl (mW rfl (yP T rfl (yO T rfl (gT (qW T rfl (yV (dX rfl rfl) (yM ?_)))))))));refine aY rfl rfl ?_ ?_<;>(intro hb;rw [hb];(try simp only [nm] at hb);try (exfalso;omega))));(all_goals first|(refine gT (fW T rfl (gT (lW T rfl (gT (vV (dI rfl rfl) ?_))))))|(iterate 3 refine gF ?_));(all_goals (refine gT (pW rfl (pV ?_)))))|(refine rg 3 (AC T ?_))|(refine rg 4 (vV (jL rfl rfl (by omega)) (aV ?_)))|(refine rg 5 (aV ?_))|(refine rg 6 (aV ?_))|refine nZ ?_));all_goals try (exfalso;omega)
        all_goals
          refine cX (X:={x:Nat × Int // x.1≤ids.length∧-1≤x.2∧(x.1=0→x.2 = -1)∧(0<x.1→x.2=ids.getD (x.1-1) 0)∧∀ i,i<x.1→yW ids n i}) (fun x=>[(0,.i n),(3,.pr [.i k,.i a,.i b,.i m,.rowE (Go.Ab.ints ids) 1] 0),(5,.i x.1.2),(6,.i (x.1.1:Int))]) (fun _=>[]) (fun x=>ids.length-x.1.1) ⟨(0,-1),cC _,fK _,fun _=>rfl,fun h=>absurd h (yJ1 _),K8⟩ (fU []) ?_;rintro ⟨⟨i,la⟩,hi,hm1,hi0,hi1,hall⟩;dsimp only at hi hm1 hi0 hi1 hall ⊢;by_cases hlt:i<ids.length
          · have hno:=hno i hlt;have q1:=nK (l:=ids) (j:=(i:Int)) (i:=i) 0 hlt rfl;have hok:yW ids n i↔la<ids.getD i 0∧ids.getD i 0≤n-1:=by
              unfold yW;by_cases e0:i=0
              · have:=hi0 e0;constructor
                · rintro ⟨h1,h2,h3⟩;omega
                · rintro ⟨h1,h2⟩;exact ⟨by omega,h2,fun q=>by omega⟩
              · have h4:=hi1 (by omega)
                have h5:=hall (i-1) (by omega)
                unfold yW at h5;constructor
                · rintro ⟨h1,h2,h3⟩;exact ⟨by have:=h3 (by omega);omega,h2⟩
                · rintro ⟨h1,h2⟩;exact ⟨by omega,h2,fun q=>by omega⟩
            have hsn:(i+1-1)=i:=by omega
            by_cases hk:la<ids.getD i 0∧ids.getD i 0≤n-1
            · have hall2:∀ j,j<i+1→yW ids n j:=fun j hj=>by
                by_cases e1:j=i
                · rw [e1];exact hok.2 hk
                · exact hall j (by omega)
              generalize hv:ids.getD i 0=v at *
              (repeat' (first|refine wS ?_|refine wB ?_|refine wK ?_|refine wU ?_|(refine wC rfl ?_ ?_<;>(intro hb;(try simp only [nm] at hb);try (exfalso;omega)))|(refine rg 7 (mW rfl (fR T rfl (qW T rfl (vV (aK rfl rfl) ?_)))))|(refine rg 9 (fR T rfl (mW rfl (vV (ix T rfl (by omega) (Go.Ab.ints_len _) q1) (lW T rfl (mW rfl (vV (PU rfl rfl (by omega)) (mW rfl (yP T rfl (yL T ?_)))))))));refine yN rfl (yV (ix T rfl (by omega) (Go.Ab.ints_len _) q1) (yO T rfl (yN rfl (yV (zM3 rfl rfl (by omega)) (pV ?_))))))|(refine rg 11 (fR T rfl (mW rfl (vV (ix T rfl (by omega) (Go.Ab.ints_len _) q1) (lW T rfl (aV ?_))))))|(refine iA 8 rfl rfl rfl (by omega) (by omega) ?_)|refine nZ ?_));all_goals try (exfalso;omega)
              all_goals exact ⟨⟨(i+1,v),hlt,by dsimp only;omega,fun h=>absurd h (Nat.succ_ne_zero i),fun _=>by dsimp only;rw [hsn,hv],hall2⟩,by dsimp only;omega,fU []⟩
            · have hR:=hno (fun q=>hk (hok.1 q));subst hR;rw [Bool.and_false];generalize ids.getD i 0=v at *;by_cases hk2:la<v
              · (repeat' (first|refine wS ?_|refine wB ?_|refine wK ?_|refine wR ?_|refine rA rfl ?_|(refine wC rfl (fun hb=>?_) (fun hb=>?_) <;> (((try simp only [nm] at hb);try (exfalso;omega))))|(refine rg 7 (mW rfl (fR T rfl (qW T rfl (vV (aK rfl rfl) ?_)))))|(refine rg 9 (fR T rfl (mW rfl (vV (ix T rfl (by omega) (Go.Ab.ints_len _) q1) (lW T rfl (mW rfl (vV (PU rfl rfl (by omega)) (mW rfl (yP T rfl (yL T ?_)))))))));refine yN rfl (yV (ix T rfl (by omega) (Go.Ab.ints_len _) q1) (yO T rfl (yN rfl (yV (zM2 rfl rfl (by omega)) (pV ?_))))))|(refine rg 10 (aV ?_))|(refine nZ ?_)));all_goals first | (exfalso;omega) | exact rQ
              · (repeat' (first|refine wS ?_|refine wB ?_|refine wK ?_|refine wR ?_|refine rA rfl ?_|(refine wC rfl (fun hb=>?_) (fun hb=>?_) <;> (((try simp only [nm] at hb);try (exfalso;omega))))|(refine rg 7 (mW rfl (fR T rfl (qW T rfl (vV (aK rfl rfl) ?_)))))|(refine rg 9 (fR T rfl (mW rfl (vV (ix T rfl (by omega) (Go.Ab.ints_len _) q1) (lW T rfl (mW rfl (vV (zM1 rfl rfl (by omega)) (mV ?_)))))));(iterate 7 refine gF ?_);refine pV ?_)|(refine rg 10 (aV ?_))|(refine nZ ?_)));all_goals first | (exfalso;omega) | exact rQ
          · have hR:=hyes (fun i hi=>hall i (by omega))
            subst hR;rw [Bool.and_true]
            (repeat' (first|refine wS ?_|refine wR ?_|refine wE ?_|(refine wC rfl ?_ ?_<;>(intro hb;(try simp only [nm] at hb);try (exfalso;omega)))|(refine rg 7 (mW rfl (fR T rfl (qW T rfl (vV (aK rfl rfl) ?_)))))|(refine rg 12 (fR T rfl (vV (bW rfl rfl) (aV ?_))))|refine nZ ?_));all_goals first | (exfalso;omega) | exact rQ
      · by_cases k1:k=1∨k=2∨k=3
        · have e:gH n ⟨k,a,b,m,ids⟩=(eF m 0 1099511627776):=by rw [kD];first | (rw [hA];rfl) | (rw [hAb];rcases h1 with h | h;(rw [decide_eq_false (by omega:¬ (k=0∨ids.length=0))];simp);(rw [decide_eq_false (by omega:¬ (k=4∨b=0))];simp)) | (rw [hAb,decide_eq_true hid,decide_eq_true hbz];simp only [gL];first | rw [if_pos k0] | rw [if_neg k0,if_pos k1] | rw [if_neg k0,if_neg k1,if_pos k4] | rw [if_neg k0,if_neg k1,if_neg k4,if_pos k5] | rw [if_neg k0,if_neg k1,if_neg k4,if_neg k5])
          rw [e];refine bL T Tryz.func18 rfl rfl rfl rfl ?_
          (repeat' (first|refine wS ?_|(refine rg 0 (bS (bZ rfl rfl) rfl (aV ?_)))|refine nZ ?_));refine eI 3 (cs:=[.i k,.i a,.i b,.i m,.rowE (Go.Ab.ints ids) 1]) rfl rfl rfl ?_
          (repeat' (first|refine wS ?_|refine wB ?_|refine wK ?_|refine wR ?_|refine wT ?_|refine wU ?_|(refine wC rfl ?_ ?_<;>(intro hb;(try simp only [nm] at hb);try (exfalso;omega)))|(refine rg 1 (fR T rfl (vV (aK rfl rfl) (mV ?_)));refine aY rfl rfl ?_ ?_<;>(intro hb;rw [hb];(try simp only [nm] at hb);try (exfalso;omega));(all_goals (refine yP T rfl (yO T rfl (yN rfl (yV (fM rfl rfl) (pW rfl (mV ?_)))));refine aY rfl rfl ?_ ?_<;>(intro hb;rw [hb];(try simp only [nm] at hb);try (exfalso;omega))));(all_goals (refine yP T rfl (yO T rfl (yV (dI rfl rfl) (yM ?_)));refine aY rfl rfl ?_ ?_<;>(intro hb;rw [hb];(try simp only [nm] at hb);try (exfalso;omega))));(all_goals ((iterate 3 refine gF ?_);refine gT (pW rfl (pW rfl (mW rfl (yP T rfl (yO T rfl (gT (qW T rfl (yV (dX rfl rfl) (yM ?_)))))))));refine aY rfl rfl ?_ ?_<;>(intro hb;rw [hb];(try simp only [nm] at hb);try (exfalso;omega))));(all_goals ((iterate 3 refine gF ?_);refine gT (pW rfl (pV ?_)))))|(refine rg 3 (AC T ?_))|(refine rg 4 (vV (fB rfl rfl (by omega)) (aV ?_)))|(refine rg 13 (vV (fB rfl rfl (by omega)) (aV ?_)))|(refine rg 15 (vV (fB rfl rfl (by omega)) (aV ?_)))|(refine rg 17 (vV (bW rfl rfl) (aV ?_)))|(refine rg 18 (vV (bW rfl rfl) (aV ?_)))|(refine rg 19 (vV (jL rfl rfl (by omega)) (aV ?_)))|(refine rg 20 (fR T rfl (vV (fM rfl rfl) (mV ?_)));refine aY rfl rfl ?_ ?_<;>(intro hb;rw [hb];(try simp only [nm] at hb);try (exfalso;omega));(all_goals first|(refine gT (fW T rfl (gT (lW T rfl (gT (vV (jP rfl rfl) ?_))))))|(iterate 3 refine gF ?_));(all_goals (refine pW rfl (aV ?_))))|refine nZ ?_));all_goals first | (exfalso;omega) | (refine cM (.inl rfl) rfl (lX ?_);rw [iK];simp [eF, *];try omega)
        · by_cases k4:k=4
          · have e:gH n ⟨k,a,b,m,ids⟩=(decide (m=0)&&eF b (a+1) (n-1)):=by rw [kD];first | (rw [hA];rfl) | (rw [hAb];rcases h1 with h | h;(rw [decide_eq_false (by omega:¬ (k=0∨ids.length=0))];simp);(rw [decide_eq_false (by omega:¬ (k=4∨b=0))];simp)) | (rw [hAb,decide_eq_true hid,decide_eq_true hbz];simp only [gL];first | rw [if_pos k0] | rw [if_neg k0,if_pos k1] | rw [if_neg k0,if_neg k1,if_pos k4] | rw [if_neg k0,if_neg k1,if_neg k4,if_pos k5] | rw [if_neg k0,if_neg k1,if_neg k4,if_neg k5])
            rw [e];refine bL T Tryz.func18 rfl rfl rfl rfl ?_
            (repeat' (first|refine wS ?_|(refine rg 0 (bS (bZ rfl rfl) rfl (aV ?_)))|refine nZ ?_));refine eI 3 (cs:=[.i k,.i a,.i b,.i m,.rowE (Go.Ab.ints ids) 1]) rfl rfl rfl ?_
            (repeat' (first|refine wS ?_|refine wB ?_|refine wK ?_|refine wR ?_|refine wT ?_|refine wU ?_|(refine rg 1 (fR T rfl (vV (aK rfl rfl) (mV ?_)));refine aY rfl rfl ?_ ?_<;>(intro hb;rw [hb];(try simp only [nm] at hb);try (exfalso;omega));(all_goals (refine yP T rfl (yO T rfl (yN rfl (yV (fM rfl rfl) (pW rfl (mV ?_)))));refine aY rfl rfl ?_ ?_<;>(intro hb;rw [hb];(try simp only [nm] at hb);try (exfalso;omega))));(all_goals (refine yP T rfl (yO T rfl (yV (dI rfl rfl) (yM ?_)));refine aY rfl rfl ?_ ?_<;>(intro hb;rw [hb];(try simp only [nm] at hb);try (exfalso;omega))));(all_goals first|(refine gT (fW T rfl (gT (lW T rfl (gT (vV (dI rfl rfl) ?_))))))|(iterate 3 refine gF ?_));(all_goals (refine gT (pW rfl (pW rfl (mV ?_)))));(all_goals first|(refine gK ?_)|(refine aY rfl rfl ?_ ?_<;>(intro hb;rw [hb];(try simp only [nm] at hb);try (exfalso;omega))));(all_goals (refine yP T rfl (yO T rfl (gT (qW T rfl (yV (dX rfl rfl) (yM ?_)))));refine aY rfl rfl ?_ ?_<;>(intro hb;rw [hb];(try simp only [nm] at hb);try (exfalso;omega))));(all_goals ((iterate 3 refine gF ?_);refine gT (pW rfl (pV ?_)))))|(refine rg 3 (AC T ?_))|(refine rg 4 (vV (fB rfl rfl (by omega)) (aV ?_)))|(refine rg 13 (vV (jL rfl rfl (by omega)) (aV ?_)))|(refine rg 14 (fR T rfl (vV (bW rfl rfl) (mV ?_)));refine aY rfl rfl ?_ ?_<;>(intro hb;rw [hb];(try simp only [nm] at hb);try (exfalso;omega));(all_goals first|(refine gT (fW T rfl (gT (lW T rfl (gT (fW T rfl (gT (lW T rfl (gT (vV (dX rfl rfl) ?_))))))))))|(iterate 5 refine gF ?_));(all_goals (refine pW rfl (mV ?_)));(all_goals first|(refine gK ?_)|(refine aY rfl rfl ?_ ?_<;>(intro hb;rw [hb];(try simp only [nm] at hb);try (exfalso;omega))));(all_goals first|(refine gT (fW T rfl (gT (lW T rfl (gT (mW rfl (gT (vV (aK rfl rfl) ?_))))))))|(iterate 4 refine gF ?_));(all_goals (refine pW rfl (aV ?_))))|refine nZ ?_));all_goals first | (exfalso;omega) | (refine cM (.inl rfl) rfl (lX ?_);rw [iK];simp [eF, *];try omega)
          · by_cases k5:k=5
            · have e:gH n ⟨k,a,b,m,ids⟩=(eF m 0 (n-1)):=by rw [kD];first | (rw [hA];rfl) | (rw [hAb];rcases h1 with h | h;(rw [decide_eq_false (by omega:¬ (k=0∨ids.length=0))];simp);(rw [decide_eq_false (by omega:¬ (k=4∨b=0))];simp)) | (rw [hAb,decide_eq_true hid,decide_eq_true hbz];simp only [gL];first | rw [if_pos k0] | rw [if_neg k0,if_pos k1] | rw [if_neg k0,if_neg k1,if_pos k4] | rw [if_neg k0,if_neg k1,if_neg k4,if_pos k5] | rw [if_neg k0,if_neg k1,if_neg k4,if_neg k5])
              rw [e];refine bL T Tryz.func18 rfl rfl rfl rfl ?_
              (repeat' (first|refine wS ?_|(refine rg 0 (bS (bZ rfl rfl) rfl (aV ?_)))|refine nZ ?_));refine eI 3 (cs:=[.i k,.i a,.i b,.i m,.rowE (Go.Ab.ints ids) 1]) rfl rfl rfl ?_
              (repeat' (first|refine wS ?_|refine wB ?_|refine wK ?_|refine wR ?_|refine wT ?_|refine wU ?_|(refine rg 1 (fR T rfl (vV (aK rfl rfl) (mV ?_)));refine aY rfl rfl ?_ ?_<;>(intro hb;rw [hb];(try simp only [nm] at hb);try (exfalso;omega));(all_goals (refine yP T rfl (yO T rfl (yN rfl (yV (fM rfl rfl) (pW rfl (mV ?_)))));refine aY rfl rfl ?_ ?_<;>(intro hb;rw [hb];(try simp only [nm] at hb);try (exfalso;omega))));(all_goals (refine yP T rfl (yO T rfl (yV (dI rfl rfl) (yM ?_)));refine aY rfl rfl ?_ ?_<;>(intro hb;rw [hb];(try simp only [nm] at hb);try (exfalso;omega))));(all_goals ((iterate 3 refine gF ?_);refine gT (pW rfl (pW rfl (mW rfl (yP T rfl (yO T rfl (gT (qW T rfl (yV (dX rfl rfl) (yM ?_)))))))));refine aY rfl rfl ?_ ?_<;>(intro hb;rw [hb];(try simp only [nm] at hb);try (exfalso;omega))));(all_goals ((iterate 3 refine gF ?_);refine gT (pW rfl (pV ?_)))))|(refine rg 3 (AC T ?_))|(refine rg 4 (vV (fB rfl rfl (by omega)) (aV ?_)))|(refine rg 13 (vV (fB rfl rfl (by omega)) (aV ?_)))|(refine rg 15 (vV (jL rfl rfl (by omega)) (aV ?_)))|(refine rg 16 (fR T rfl (vV (fM rfl rfl) (mV ?_)));refine aY rfl rfl ?_ ?_<;>(intro hb;rw [hb];(try simp only [nm] at hb);try (exfalso;omega));(all_goals first|(refine gT (fW T rfl (gT (lW T rfl (gT (mW rfl (gT (vV (aK rfl rfl) ?_))))))))|(iterate 4 refine gF ?_));(all_goals (refine pW rfl (aV ?_))))|refine nZ ?_));all_goals first | (exfalso;omega) | (refine cM (.inl rfl) rfl (lX ?_);rw [iK];simp [eF, *];try omega)
            · have e:gH n ⟨k,a,b,m,ids⟩=(false):=by rw [kD];first | (rw [hA];rfl) | (rw [hAb];rcases h1 with h | h;(rw [decide_eq_false (by omega:¬ (k=0∨ids.length=0))];simp);(rw [decide_eq_false (by omega:¬ (k=4∨b=0))];simp)) | (rw [hAb,decide_eq_true hid,decide_eq_true hbz];simp only [gL];first | rw [if_pos k0] | rw [if_neg k0,if_pos k1] | rw [if_neg k0,if_neg k1,if_pos k4] | rw [if_neg k0,if_neg k1,if_neg k4,if_pos k5] | rw [if_neg k0,if_neg k1,if_neg k4,if_neg k5])
              rw [e];refine bL T Tryz.func18 rfl rfl rfl rfl ?_
              (repeat' (first|refine wS ?_|(refine rg 0 (bS (bZ rfl rfl) rfl (aV ?_)))|refine nZ ?_));refine eI 3 (cs:=[.i k,.i a,.i b,.i m,.rowE (Go.Ab.ints ids) 1]) rfl rfl rfl ?_
              (repeat' (first|refine wS ?_|refine wB ?_|refine wK ?_|refine wR ?_|refine wU ?_|(refine rg 1 (fR T rfl (vV (aK rfl rfl) (mV ?_)));refine aY rfl rfl ?_ ?_<;>(intro hb;rw [hb];(try simp only [nm] at hb);try (exfalso;omega));(all_goals (refine yP T rfl (yO T rfl (yN rfl (yV (fM rfl rfl) (pW rfl (mV ?_)))));refine aY rfl rfl ?_ ?_<;>(intro hb;rw [hb];(try simp only [nm] at hb);try (exfalso;omega))));(all_goals (refine yP T rfl (yO T rfl (yV (dI rfl rfl) (yM ?_)));refine aY rfl rfl ?_ ?_<;>(intro hb;rw [hb];(try simp only [nm] at hb);try (exfalso;omega))));(all_goals ((iterate 3 refine gF ?_);refine gT (pW rfl (pW rfl (mW rfl (yP T rfl (yO T rfl (gT (qW T rfl (yV (dX rfl rfl) (yM ?_)))))))));refine aY rfl rfl ?_ ?_<;>(intro hb;rw [hb];(try simp only [nm] at hb);try (exfalso;omega))));(all_goals ((iterate 3 refine gF ?_);refine gT (pW rfl (pV ?_)))))|(refine rg 3 (AC T ?_))|(refine rg 4 (vV (fB rfl rfl (by omega)) (aV ?_)))|(refine rg 13 (vV (fB rfl rfl (by omega)) (aV ?_)))|(refine rg 15 (vV (fB rfl rfl (by omega)) (aV ?_)))|(refine rg 17 (vV (fB rfl rfl (by omega)) (aV ?_)))|(refine rg 18 (vV (fB rfl rfl (by omega)) (aV ?_)))|(refine rg 19 (vV (fB rfl rfl (by omega)) (aV ?_)))|(refine rg 21 (aV ?_))|refine nZ ?_));all_goals first | (exfalso;omega) | exact rQ
theorem QW (c:Cx) (gs:List G) (b:Int) (h:kQ c gs){g:G}{i:Nat}(hg:tD gs b=some (g,i)) :
    aP Tryz.prog 34 [.pr (kN c gs) 0,.i b] [] (.rowE (wsA g.2) 3) []:=by
  obtain ⟨k0,h1,h2,h3,h4⟩:=nC hg;have hgm:=aH h2;have og:=h.mid.out.ok g hgm;have hwl:=h.mid.wl g hgm;have hl12:gs.length≤12:=bY h.mid.out.len h.mid.out.ln;have hgr:=FN c gs b (by omega) (fun x hx=>by have:=(h.mid.out.ok x hx).ln;omega) hg
  have hln:=og.ln;have hcl:∀ k (h:k<g.2.length),aP Tryz.prog 61 [CG g.2[k]] [] (CG g.2[k]) []:=fun k hk=>by
    have ow:=og.ws _ (aI hk);have e1:=ow.pl;have e2:=ow.cl;exact QF _ ⟨by omega,by omega⟩
  obtain ⟨bs,ws⟩:=g;dsimp only at *;have hwsl:(wsA ws).length=ws.length:=eZ _;refine jS (len:=ws.length) hwsl.symm (iG (bQ ws)) ?_;refine bL T Tryz.func34 rfl rfl rfl rfl ?_
  (repeat' (first|refine wS ?_|(refine rg 0 (aV ?_))|(refine rg 1 (dR rfl (vV (kC (hgr)) (mW rfl (xW rfl (xW rfl (xW rfl (bS (bM T rfl) rfl (aU T rfl rfl rfl rfl rfl rfl (by decide) rfl (lO ?_))))))))))|refine nZ ?_));all_goals try (exfalso;omega)
  refine eI 5 (cs:=gA (bs,ws)) rfl rfl rfl ?_
  (repeat' (first|refine wS ?_|(refine rg 2 (vV (dS rfl) (rY 8 3 rfl (by decide) ?_)))|refine nZ ?_));all_goals try (exfalso;omega)
  (repeat' (first|refine wB ?_|(refine rg 3 (fR T rfl (qW T rfl (mV ?_))))|refine nZ ?_));all_goals try (exfalso;omega)
  refine cX (X:={k:Nat // k≤ws.length}) (fun k=>[(8,.sl 0 0 k.1 3),(19,.rowE (wsA ws) 3),(20,.i (wsA ws).length),(21,.i k.1)]) (fun k=>[.arr (wsA (ws.take k.1)) 3]) (fun k=>ws.length-k.1) ⟨0,cC _⟩ ⟨[1],rfl,(by repeat first|exact trivial|refine ⟨rfl,?_⟩),⟨.inr rfl,trivial⟩,by decide,kP _⟩ ?_
  rintro ⟨k,hk⟩;dsimp only;by_cases hlt:k<ws.length
  · have hgk:=tJ hlt;have hc:=hcl k hlt;have q4:(wsA (ws.take k)).length=k:=by rw [eZ,bE];omega
    have q5:wsA (ws.take (k+1))=wsA (ws.take k)++[wA ws[k]]:=by rw [aM hlt,wsA,dJ];rfl
    have q6:=bQ (ws.take (k+1));have q7:=bQ (ws.take k);generalize wsA (ws.take k)=A at *;generalize ws[k]=w at *;obtain ⟨wp,wm,wc⟩:=w
    try dsimp only at *
    (repeat' (first|refine wS ?_|refine wB ?_|refine wK ?_|(refine wC rfl ?_ ?_<;>(intro hb;(try simp only [nm] at hb);try (exfalso;omega)))|(refine rg 4 (vV (aK rfl rfl) ?_))|(refine rg 5 (vV (ix T rfl (by omega) (nH _) hgk) (lW T rfl (bS (bM T rfl) rfl (aU T rfl rfl rfl rfl rfl rfl (by decide) rfl ?_)))))|refine nZ ?_));all_goals try (exfalso;omega)
    refine eI 10 (cs:=wA (wp,wm,wc)) rfl rfl rfl ?_
    (repeat' (first|(refine rg 6 (mW rfl (lW T rfl (vV (kC (hc)) (bS (by exact bF T rfl rfl (by decide) (by decide) rfl rfl rfl) rfl ?_))));refine gD T rfl rfl rfl rfl rfl rfl (by omega) (kZ.whole rfl rfl) rfl (by simp;omega) (by simp;omega) rfl ?_;refine aV ?_)|(refine rg 7 (vV (bP rfl rfl (by omega) (by omega)) (mV ?_)))|refine nZ ?_));all_goals try (exfalso;omega)
    exact ⟨⟨k+1,hlt⟩,by dsimp only;omega,⟨[3],rfl,(by repeat first|exact trivial|refine ⟨rfl,?_⟩),⟨.inr (aE rfl (by dsimp only;rw [q5];exact mN q4.symm) q6),trivial⟩,by decide,kP _⟩⟩
  · obtain rfl:k=ws.length:=by omega
    rw [cQ]
    (repeat' (first|refine wS ?_|refine wR ?_|refine wE ?_|(refine wC rfl ?_ ?_<;>(intro hb;(try simp only [nm] at hb);try (exfalso;omega)))|(refine rg 4 (vV (aK rfl rfl) ?_))|(refine rg 8 (mW rfl (aV ?_)))|refine nZ ?_));all_goals try (exfalso;omega)
    exact ⟨.inl rfl,[0],_,rfl,rfl,rfl,⟨.inr (aE rfl rfl (bQ _)),trivial⟩,by decide,kP _⟩
theorem ZB (a b:List Int) (ha:a.length≤9223372036854775806):aP Tryz.prog 37 [.rowE (ints a) 1,.rowE (ints b) 1] [] (.b (decide (a=b))) []:=by
  have hal:(ints a).length=a.length:=by simp
  have hbl:(ints b).length=b.length:=by simp
  by_cases hl:a.length=b.length
  · refine bL T Tryz.func37 rfl rfl rfl rfl ?_
    (repeat' (first|refine wS ?_|refine wB ?_|refine wK ?_|(refine wC rfl ?_ ?_<;>(intro hb;(try simp only [nm] at hb);try (exfalso;omega)))|(refine rg 0 (aV ?_))|(refine rg 1 (mW rfl (qW T rfl (mW rfl (qW T rfl (vV (dI rfl rfl) ?_))))))|(refine rg 3 (mW rfl (qW T rfl (mV ?_))))|refine nZ ?_));all_goals try (exfalso;omega)
    refine cX (X:={i:Nat // i≤a.length∧a.take i=b.take i}) (fun i=>[(0,.rowE (ints a) 1),(1,.rowE (ints b) 1),(12,.i (ints a).length),(13,.i i.1)]) (fun _=>[]) (fun i=>a.length-i.1) ⟨0,by omega,rfl⟩ (fU []) ?_
    rintro ⟨i,hi,hg⟩;dsimp only;by_cases hlt:i<a.length
    · have q1:=iQ (l:=a) (k:=i) hlt;have q2:=iQ (l:=b) (k:=i) (by omega)
      by_cases e:a[i]=b[i]
      · (repeat' (first|refine wS ?_|refine wB ?_|refine wK ?_|(refine wC rfl (fun hb=>?_) (fun hb=>?_) <;> (((try simp only [nm] at hb);try (exfalso;omega))))|(refine rg 4 (vV (aK rfl rfl) ?_))|(refine rg 5 (mW rfl (aV ?_)))|(refine bO (id:=6) 26 yO9 (rM 16 9) yP0 cK rfl (by decide +kernel) (dN rfl (dN rfl (dV rfl (ix T rfl (by omega) (ints_len a) q1) (dO T rfl (dN rfl (dN rfl (dV rfl (ix T rfl (by omega) (ints_len b) q2) (dO T rfl (dV rfl (dI rfl rfl) ?_)))))))));refine dE ?_)|(refine rg 8 (vV (bP rfl rfl (by omega) (by omega)) (mV ?_)))|(refine nZ ?_)));all_goals try (exfalso;omega)
        refine ⟨⟨i+1,hlt,?_⟩,by dsimp only;omega,fU []⟩
        rw [aM hlt,aM (by omega),hg,e]
      · rw [show decide (a=b)=false from decide_eq_false (fun h=>e (by subst h;rfl))]
        (repeat' (first|refine wS ?_|refine wB ?_|refine wK ?_|refine wR ?_|(refine wC rfl ?_ ?_<;>(intro hb;(try simp only [nm] at hb);try (exfalso;omega)))|(refine rg 4 (vV (aK rfl rfl) ?_))|(refine rg 5 (mW rfl (aV ?_)))|(refine bO (id:=6) 26 yO9 (rM 16 9) yP0 cK rfl (by decide +kernel) (dN rfl (dN rfl (dV rfl (ix T rfl (by omega) (ints_len a) q1) (dO T rfl (dN rfl (dN rfl (dV rfl (ix T rfl (by omega) (ints_len b) q2) (dO T rfl (dV rfl (dI rfl rfl) ?_)))))))));refine dE ?_)|(refine rg 7 (aV ?_))|refine nZ ?_));all_goals first | (exfalso;omega) | exact rQ
    · rw [cD (by omega),cD (by omega)] at hg
      rw [show decide (a=b)=true from decide_eq_true hg]
      (repeat' (first|refine wS ?_|refine wR ?_|refine wE ?_|(refine wC rfl ?_ ?_<;>(intro hb;(try simp only [nm] at hb);try (exfalso;omega)))|(refine rg 4 (vV (aK rfl rfl) ?_))|(refine rg 9 (aV ?_))|refine nZ ?_));all_goals first | (exfalso;omega) | exact rQ
  · rw [show decide (a=b)=false from decide_eq_false (fun h=>hl (by rw [h]))]
    refine bL T Tryz.func37 rfl rfl rfl rfl ?_
    (repeat' (first|refine wS ?_|refine wR ?_|(refine wC rfl ?_ ?_<;>(intro hb;(try simp only [nm] at hb);try (exfalso;omega)))|(refine rg 0 (aV ?_))|(refine rg 1 (mW rfl (qW T rfl (mW rfl (qW T rfl (vV (dI rfl rfl) ?_))))))|(refine rg 2 (aV ?_))|refine nZ ?_));all_goals first | (exfalso;omega) | exact rQ
end Go.Proofs.YtojgimibalokkaaGreat
namespace Go.Proofs.YtojgimibalokkaaGreat.L4
open Go Go.Ab Go.Lk
attribute [local irreducible] VC AW cF aP
set_option maxHeartbeats 4000000
abbrev ints (l:List Int):List (List AV):=l.map fun n=>[AV.i n]
theorem ints_len (l:List Int):∀ e,e∈ints l→e.length=1:=by intro e he;obtain ⟨n,_,rfl⟩:=bB.1 he;rfl
theorem iQ {l:List Int}{k:Nat}(h:k<l.length):(ints l)[k]? = some [AV.i l[k]]:=by simp [h]
theorem cJ (l:List Int):∀ e,e∈ints l→AV.idfL e=true:=by intro e he;obtain ⟨i,_,rfl⟩:=bB.1 he;rfl
theorem B2:∀ {es:List (List AV)},(∀ e,e∈es→AV.idfL e=true)→AV.idfL es.flatten=true
  | [],_=>rfl
  | e::es,h=>by
    have h1:=h e aR;have h2:=B2 (es:=es) fun q hq=>h q (aL _ hq);have app:∀ (a b:List AV),AV.idfL a=true→AV.idfL b=true→AV.idfL (a++b)=true:=by
      intro a
      induction a with
      | nil=>exact fun b _ hb=>hb
      | cons x a ih=>
        intro b ha hb;simp only [List.cons_append,AV.idfL,aJ] at ha ⊢;exact ⟨ha.1,ih b ha.2 hb⟩
    exact app _ _ h1 h2
theorem sQ (l:List Int):(ints l).flatten.all AV.one=true:=by
  rw [bA];intro x hx;obtain ⟨e,he,hx⟩:=BJ.1 hx;obtain ⟨p,_,rfl⟩:=bB.1 he;simp at hx;subst hx;rfl
theorem lX {a b:Bool}(h:a=b):AV.b a=AV.b b:=by rw [h]
abbrev wsA (w:Ws):List (List AV):=w.map fun a=>[AV.rowE (ints a) 1]
theorem lF (w:Ws):∀ e,e∈wsA w→e.length=1:=by intro e he;obtain ⟨n,_,rfl⟩:=bB.1 he;rfl
theorem zT {w:Ws}{k:Nat}(h:k<w.length):(wsA w)[k]? = some [AV.rowE (ints w[k]) 1]:=by simp [h]
theorem D9 {w:Ws}(h:w≠[]):(wsA w)[(0:Int).toNat]? = some [AV.rowE (ints (hd w)) 1]:=by
  cases w with
  | nil=>exact absurd rfl h
  | cons a w=>rfl
theorem wsA_idf (w:Ws):∀ e,e∈wsA w→AV.idfL e=true:=by intro e he;obtain ⟨i,_,rfl⟩:=bB.1 he;rfl
abbrev worldsA (w:Ws):AV:=.rowE (wsA w) 1
theorem pR (l:List Int) (v:Int) (hl:l.length≤1000):aP Tryz.prog 27 [.rowE (ints l) 1,.i v] [] (.i (GV l v)) []:=by
  have hlen:(ints l).length=l.length:=by simp
  refine bL T Tryz.func27 rfl rfl rfl rfl ?_
  (repeat' (first|refine wS ?_|refine wB ?_|(refine rg 0 (aV ?_))|(refine rg 1 (mW rfl (qW T rfl (mV ?_))))|refine nZ ?_));refine cX (X:={k:Nat // k≤l.length∧GV l v=zD (fun x=>decide (v=x)) (l.drop k) k}) (fun k=>[(0,.rowE (ints l) 1),(1,.i v),(7,.i (ints l).length),(8,.i k.1)]) (fun _=>[]) (fun k=>l.length-k.1) ⟨0,by simp,rfl⟩ (fU []) ?_
  rintro ⟨k,hk,hf⟩;dsimp only;by_cases hlt:k<l.length
  · have hd:=DY (q:=fun x=>decide (v=x)) hlt
    repeat' (first|refine wS ?_|refine wB ?_|refine wK ?_|refine wR ?_|(refine wC rfl ?_ ?_<;>(intro hb;(try simp only [nm] at hb);try (exfalso;omega)))|(refine rg 2 (vV (aK rfl rfl) ?_))|(refine rg 3 (mW rfl (aV ?_)))|(refine rg 4 (dR rfl (mW rfl (vV (ix T rfl (by omega) (ints_len l) (iQ (k:=k) (by omega))) (lW T rfl (vV (bW rfl rfl) ?_))))))|(refine rg 5 (mW rfl (aV ?_)))|(refine rg 6 (vV (bP rfl rfl (by omega) (by omega)) (mV ?_)))|refine nZ ?_)
    · refine cM (.inl rfl) rfl ?_;rw [hf,hd,if_pos (by simpa using hb)];rfl
    · refine ⟨⟨k+1,by omega,?_⟩,by dsimp only;omega,fU []⟩
      rw [hf,hd,if_neg (by simpa using hb)]
  · (repeat' (first|refine wS ?_|refine wR ?_|refine wE ?_|(refine wC rfl (fun hb=>?_) (fun hb=>?_) <;> (((try simp only [nm] at hb);try (exfalso;omega))))|(refine rg 2 (vV (aK rfl rfl) ?_))|(refine rg 7 (aV ?_))|(refine nZ ?_)));refine cM (.inl rfl) rfl ?_
    rw [hf,dC (by omega)];rfl
theorem zP4 (l:List Int) (v:Int):0≤GV l v↔v∈l:=by
  unfold GV;rw [AI _ l 0 (by omega)]
  simp
theorem xE (l:List Int) (v:Int) (hl:l.length≤1000):aP Tryz.prog 60 [.rowE (ints l) 1,.i v] [] (.b (decide (v∈l))) []:=by
  refine bL T Tryz.func60 rfl rfl rfl rfl ?_
  (repeat' (first|refine wS ?_|refine wR ?_|(refine rg 0 (aV ?_))|(refine rg 1 (dR rfl (vV (kC (pR l v hl)) (vV (fM rfl rfl) (aV ?_)))))|refine nZ ?_));refine cM (.inl rfl) rfl (lX ?_)
  rw [iK];simp only [decide_eq_true_eq];exact zP4 l v
theorem iW {θ:Nat→Nat}{f:Fn}{caps:List AV}(hi:AV.idfL caps=true):(AV.clo f [] caps).map θ = .clo f [] caps:=by
  show AV.clo f (AV.mapL θ []) (AV.mapL θ caps)=_;rw [mD θ caps hi];rfl
theorem JD {w:Ws}{F:FuncId}{caps:List AV}{q:List Int→Bool}(hl:w.length≤1000) (hi:AV.idfL caps=true) (hF:∀ a,a∈w→aP Tryz.prog F (.rowE (ints a) 1::caps) [] (.b (q a)) []) :
    aP Tryz.prog 82 [worldsA w,.clo (.func F) [] caps] [] (.i (zD q w 0)) []:=by
  have hlen:(wsA w).length=w.length:=by simp
  refine bL T Tryz.func82 rfl rfl rfl rfl ?_
  (repeat' (first|refine wS ?_|refine wB ?_|(refine rg 0 (aV ?_))|(refine rg 1 (mW rfl (qW T rfl (mV ?_))))|refine nZ ?_));refine cX (X:={k:Nat // k≤w.length∧zD q w 0=zD q (w.drop k) k}) (fun k=>[(0,worldsA w),(1,.clo (.func F) [] caps),(7,.i (wsA w).length),(8,.i k.1)]) (fun _=>[]) (fun k=>w.length-k.1) ⟨0,by simp,rfl⟩ ⟨[],rfl,⟨rfl,by rw [iW hi];rfl,rfl,rfl,trivial⟩,trivial,bK,fun _ h=>absurd h (cW _)⟩ ?_
  rintro ⟨k,hk,hf⟩;dsimp only;by_cases hlt:k<w.length
  · have hd:=DY (q:=q) hlt;have hc:=hF w[k] (aI hlt)
    repeat' (first|refine wS ?_|refine wB ?_|refine wK ?_|refine wR ?_|(refine wC rfl ?_ ?_<;>(intro hb;(try simp only [nm] at hb);try (exfalso;omega)))|(refine rg 2 (vV (aK rfl rfl) ?_))|(refine rg 3 (mW rfl (aV ?_)))|(refine rg 4 (dR rfl (mW rfl (vV (ix T rfl (by omega) (lF w) (zT (k:=k) (by omega))) (lW T rfl (vV (by exact eL rfl rfl hc rfl (by simp [AV.idfL,AV.idf,hi]) rfl) ?_))))))|(refine rg 5 (mW rfl (aV ?_)))|(refine rg 6 (vV (bP rfl rfl (by omega) (by omega)) (mV ?_)))|refine nZ ?_)
    · refine cM (.inl rfl) rfl ?_;rw [hf,hd,if_pos (by simpa using hb)];rfl
    · refine ⟨⟨k+1,by omega,?_⟩,by dsimp only;omega,⟨[],rfl,⟨rfl,by rw [iW hi];rfl,rfl,rfl,trivial⟩,trivial,bK,fun _ h=>absurd h (cW _)⟩⟩
      rw [hf,hd,if_neg (by simpa using hb)]
  · (repeat' (first|refine wS ?_|refine wR ?_|refine wE ?_|(refine wC rfl (fun hb=>?_) (fun hb=>?_) <;> (((try simp only [nm] at hb);try (exfalso;omega))))|(refine rg 2 (vV (aK rfl rfl) ?_))|(refine rg 7 (aV ?_))|(refine nZ ?_)));refine cM (.inl rfl) rfl ?_
    rw [hf,dC (by omega)];rfl
theorem containsFunc_c {w:Ws}{F:FuncId}{caps:List AV}{q:List Int→Bool}(hl:w.length≤1000) (hi:AV.idfL caps=true) (hF:∀ a,a∈w→aP Tryz.prog F (.rowE (ints a) 1::caps) [] (.b (q a)) []) :
    aP Tryz.prog 35 [worldsA w,.clo (.func F) [] caps] [] (.b (w.any q)) []:=by
  have hc:=JD hl hi hF;refine bL T Tryz.func35 rfl rfl rfl rfl ?_
  (repeat' (first|refine wS ?_|refine wR ?_|(refine rg 0 (aV ?_))|(refine rg 1 (dR rfl (vV (by exact eL rfl rfl hc rfl (by simp [AV.idfL,AV.idf,hi]) rfl) ?_));refine vV (fM rfl rfl) (aV ?_))|refine nZ ?_));refine cM (.inl rfl) rfl (lX ?_)
  rw [iK];simp only [decide_eq_true_eq];exact AI q w 0 (by omega)
def xR (a:List Int):Bool:=decide (a.Nodup∧∀ x,x∈a→0≤x)
theorem SN {a:List Int}{k:Nat}(h:k<a.length):xR (a.take (k+1))=(xR (a.take k)&&decide (0≤a[k])&&decide (a[k]∉a.take k)):=by
  unfold xR;rw [aM h,iK];simp only [cO,decide_eq_true_eq,aJ,bG,bH];constructor
  · rintro ⟨⟨h1,_,h2⟩,h3⟩;exact ⟨⟨⟨h1,fun x hx=>h3 x (.inl hx)⟩,h3 _ (.inr rfl)⟩,fun hm=>h2 _ hm _ rfl rfl⟩
  · rintro ⟨⟨⟨h1,h2⟩,h3⟩,h4⟩;exact ⟨⟨h1,eY.2 ⟨by simp,bK⟩,fun x hx y hy e=>h4 (by rw [← hy,← e];exact hx)⟩,fun x hx=>hx.elim (h2 x) fun e=>e▸h3⟩
theorem DE {a:List Int}(h:xR a=true) (k:Nat):xR (a.take k)=true:=by
  unfold xR at *;simp only [decide_eq_true_eq] at *;exact ⟨h.1.sublist (List.take_sublist k a),fun x hx=>h.2 x (eK hx)⟩
theorem WG (a:List Int) (n:Int) (hl:a.length≤1000):aP Tryz.prog 42 [.rowE (ints a) 1,.i n] [] (.b (xR a&&decide ((a.length:Int)=n))) []:=by
  have hlen:(ints a).length=a.length:=by simp
  refine bL T Tryz.func42 rfl rfl rfl rfl ?_
  (repeat' (first|refine wS ?_|refine wB ?_|(refine rg 0 (aV ?_))|(refine rg 1 (mW rfl (qW T rfl (mV ?_))))|refine nZ ?_));refine cX (X:={k:Nat // k≤a.length∧xR (a.take k)=true}) (fun k=>[(0,.rowE (ints a) 1),(1,.i n),(7,.rowE (ints a) 1),(8,.i (ints a).length),(9,.i k.1)]) (fun _=>[]) (fun k=>a.length-k.1) ⟨0,by simp,rfl⟩ (fU []) ?_
  rintro ⟨k,hk,hf⟩;dsimp only;by_cases hlt:k<a.length
  · have hs:=SN hlt;rw [hf,gL] at hs;have hc:=xE (a.take k) a[k] (by simp;omega)
    rw [show ints (a.take k)=(ints a).take k from jO] at hc
    by_cases hn:xR a=true
    · have ht:=DE hn (k+1);rw [hs,aJ,decide_eq_true_eq,decide_eq_true_eq] at ht;rw [decide_eq_false ht.2] at hc;have h0:=ht.1
      (repeat' (first|refine wS ?_|refine wB ?_|refine wK ?_|refine wU ?_|(refine wC rfl ?_ ?_<;>(intro hb;(try simp only [nm] at hb);try (exfalso;omega)))|(refine rg 2 (vV (aK rfl rfl) ?_))|(refine rg 3 (mW rfl (vV (ix T rfl (by omega) (ints_len a) (iQ (k:=k) (by omega))) (lW T rfl (lO ?_)))))|(refine rg 4 (mW rfl (vV (aK rfl rfl) (mV ?_)));refine aY rfl rfl ?_ ?_<;>(intro hb;rw [hb];(try simp only [nm] at hb);try (exfalso;omega));(all_goals (refine yN rfl (yN rfl (yV (by exact nR T rfl rfl rfl rfl rfl (by simp;omega) (ints_len a)) ?_));refine yN rfl (yV (kC (hc)) (pV ?_)))))|(refine rg 6 (vV (bP rfl rfl (by omega) (by omega)) (mV ?_)))|refine nZ ?_));exact ⟨⟨k+1,by omega,DE hn (k+1)⟩,by dsimp only;omega,fU []⟩
    · by_cases hb2:a[k]∈a.take k
      · rw [decide_eq_true hb2] at hc
        (repeat' (first|refine wS ?_|refine wB ?_|refine wK ?_|refine wR ?_|refine wT ?_|(refine wC rfl ?_ ?_<;>(intro hb;(try simp only [nm] at hb);try (exfalso;omega)))|(refine rg 2 (vV (aK rfl rfl) ?_))|(refine rg 3 (mW rfl (vV (ix T rfl (by omega) (ints_len a) (iQ (k:=k) (by omega))) (lW T rfl (lO ?_)))))|(refine rg 4 (mW rfl (vV (aK rfl rfl) (mV ?_)));refine aY rfl rfl ?_ ?_<;>(intro hb;rw [hb];(try simp only [nm] at hb);try (exfalso;omega));(all_goals first|(refine gT (mW rfl (gT (mW rfl (gT (vV (by exact nR T rfl rfl rfl rfl rfl (by simp;omega) (ints_len a)) ?_)))));refine gT (mW rfl (gT (vV (kC (hc)) ?_))))|(iterate 5 refine gF ?_));(all_goals (refine pV ?_)))|(refine rg 5 (aV ?_))|refine nZ ?_));all_goals exact cM (.inl rfl) rfl (lX (by simp [hn]))
      · rw [decide_eq_false hb2] at hc
        repeat' (first|refine wS ?_|refine wB ?_|refine wK ?_|refine wR ?_|refine wT ?_|refine wU ?_|(refine wC rfl ?_ ?_<;>(intro hb;(try simp only [nm] at hb);try (exfalso;omega)))|(refine rg 2 (vV (aK rfl rfl) ?_))|(refine rg 3 (mW rfl (vV (ix T rfl (by omega) (ints_len a) (iQ (k:=k) (by omega))) (lW T rfl (lO ?_)))))|(refine rg 4 (mW rfl (vV (aK rfl rfl) (mV ?_)));refine aY rfl rfl ?_ ?_<;>(intro hb;rw [hb];(try simp only [nm] at hb);try (exfalso;omega));(all_goals first|(refine gT (mW rfl (gT (mW rfl (gT (vV (by exact nR T rfl rfl rfl rfl rfl (by simp;omega) (ints_len a)) ?_)))));refine gT (mW rfl (gT (vV (kC (hc)) ?_))))|(iterate 5 refine gF ?_));(all_goals (refine pV ?_)))|(refine rg 5 (aV ?_))|(refine rg 6 (vV (bP rfl rfl (by omega) (by omega)) (mV ?_)))|refine nZ ?_)
        · exact cM (.inl rfl) rfl (lX (by simp [hn]))
        · exact ⟨⟨k+1,by omega,by rw [hs];simp [hb2];omega⟩,by dsimp only;omega,fU []⟩
  · (repeat' (first|refine wS ?_|refine wR ?_|refine wE ?_|(refine wC rfl (fun hb=>?_) (fun hb=>?_) <;> (((try simp only [nm] at hb);try (exfalso;omega))))|(refine rg 2 (vV (aK rfl rfl) ?_))|(refine rg 7 (mW rfl (qW T rfl (mW rfl (vV (bW rfl rfl) (aV ?_))))))|(refine nZ ?_)));rw [cD (by omega)] at hf
    exact cM (.inl rfl) rfl (lX (by simp [hf]))
theorem QF (l:List Int) (h0:0<l.length) (hl:l.length≤1000):aP Tryz.prog 38 [.rowE (ints l) 1] [] (.rowE (ints l) 1) []:=by
  refine jS (by simp:l.length=(ints l).length) (B2 (cJ l)) ?_
  refine bL T Tryz.func38 rfl rfl rfl rfl ?_
  repeat' (first|refine wS ?_|refine wK ?_|refine wR ?_|refine wU ?_|(refine rg 0 (aV ?_))|(refine rg 1 (mW rfl (vV (FQ T rfl rfl rfl (by simpa using h0)) ?_)))|(refine rg 3 (bS (by exact bF T rfl rfl (by decide) (by decide) rfl rfl rfl) rfl ?_);refine mW rfl (gD T rfl rfl rfl rfl rfl rfl (by simp) (kZ.row (ints_len l)) (sQ l) (by simp;omega) (by simp;omega) rfl ?_);refine aV ?_)|refine nZ ?_)
  simp only [List.take_nil,List.drop_nil,List.nil_append,Nat.zero_add,aX,List.replicate_zero,lM,lN];exact ⟨.inl rfl,[1],_,rfl,rfl,rfl,⟨.inr (aE rfl rfl (cJ l)),trivial⟩,by decide,K8⟩
def LW (w:Ws):Bool:=decide (w≠[]∧w.length≤1000∧1≤(hd w).length∧(hd w).length≤6)&&w.all fun a=>xR a&&decide (a.length=(hd w).length)
theorem WE {w:Ws}(h:w≠[]) (a:List Int) (hl:a.length≤1000):aP Tryz.prog 41 [.rowE (ints a) 1,.pr [worldsA w] 0] [] (.b (!(xR a&&decide (a.length=(hd w).length)))) []:=by
  have hc:=WG a (hd w).length hl;have hlen:(ints (hd w)).length=(hd w).length:=by simp
  rw [show ((hd w).length:Int)=((ints (hd w)).length:Int) by rw [hlen]] at hc
  refine bL T Tryz.func41 rfl rfl rfl rfl ?_
  (repeat' (first|refine wS ?_|refine wR ?_|(refine rg 0 (aV ?_))|(refine rg 1 (mW rfl (lW T rfl (vV (ix T rfl (by decide) (lF w) (D9 h)) (lW T rfl (qW T rfl (vV (kC (hc)) (vV (cT rfl) (aV ?_)))))))))|refine nZ ?_));refine cM (.inl rfl) rfl (lX ?_)
  rw [hlen,show decide ((a.length:Int)=((hd w).length:Int))=decide (a.length=(hd w).length) from decide_eq_decide.2 (by omega)]
theorem OO (w:Ws) (hw:w.length≤1000) (ha:∀ a,a∈w→a.length≤1000):aP Tryz.prog 15 [worldsA w] [] (.b (LW w)) []:=by
  have hlw:(wsA w).length=w.length:=by simp
  by_cases h:w=[]
  · subst h;refine bL T Tryz.func15 rfl rfl rfl rfl ?_
    (repeat' (first|refine wS ?_|refine wR ?_|refine wT ?_|(refine rg 0 (bS (bZ rfl rfl) rfl (aV ?_)))|(refine rg 1 (lW T rfl (qW T rfl (vV (aK rfl rfl) (mV ?_))));(iterate 3 refine gF ?_);refine pW rfl (mV ?_);(iterate 5 refine gF ?_);refine pW rfl (mV ?_);(iterate 5 refine gF ?_);refine pV ?_)|(refine rg 2 (aV ?_))|refine nZ ?_));all_goals first | (exfalso;omega) | (simp at *;done) | exact rQ
  · have hpos:1≤w.length:=by cases w with | nil=>exact absurd rfl h | cons a w=>simp
    have hlen:(ints (hd w)).length=(hd w).length:=by simp
    have hc:=containsFunc_c (w:=w) (F:=41) (caps:=[.pr [worldsA w] 0]) (q:=fun a=>!(xR a&&decide (a.length=(hd w).length))) hw rfl (fun a hm=>WE h a (ha a hm));refine bL T Tryz.func15 rfl rfl rfl rfl ?_
    (repeat' (first|refine wS ?_|refine wK ?_|refine wR ?_|refine wT ?_|(refine wC rfl ?_ ?_<;>(intro hb;(try simp only [nm] at hb);try (exfalso;omega)))|(refine rg 0 (bS (bZ rfl rfl) rfl (aV ?_)))|(refine rg 1 (lW T rfl (qW T rfl (vV (aK rfl rfl) (mV ?_))));refine aY rfl rfl ?_ ?_<;>(intro hb;rw [hb];(try simp only [nm] at hb);try (exfalso;omega));(all_goals (refine yO T rfl (gT (qW T rfl (yV (dX rfl rfl) (pW rfl (mV ?_)))));refine aY rfl rfl ?_ ?_<;>(intro hb;rw [hb];(try simp only [nm] at hb);try (exfalso;omega))));(all_goals (refine yO T rfl (yV (ix T rfl (by decide) (lF w) (D9 h)) (yO T rfl (gT (qW T rfl (yV (aK rfl rfl) (pW rfl (mV ?_)))))));refine aY rfl rfl ?_ ?_<;>(intro hb;rw [hb];(try simp only [nm] at hb);try (exfalso;omega))));(all_goals first|(refine gT (lW T rfl (gT (vV (ix T rfl (by decide) (lF w) (D9 h)) (gT (lW T rfl (gT (qW T rfl (gT (vV (dX rfl rfl) ?_))))))))))|(iterate 5 refine gF ?_));(all_goals (refine pV ?_)))|(refine rg 2 (aV ?_))|(refine rg 3 (lW T rfl (vV (by exact gI rfl rfl) ?_));refine vV (by exact eC rfl rfl hc (.cons (.row _ _ _) (.cons (.clo .nil (.cons (.ptr rfl (.cons (.row _ _ _) .nil)) .nil)) .nil)) rfl rfl) ?_;refine vV (cT rfl) (aV ?_))|refine nZ ?_));all_goals first | (exfalso;omega) | skip
    all_goals refine cM (.inl rfl) rfl (lX ?_)
    all_goals unfold LW
    all_goals first
      | (rw [decide_eq_false (by rintro ⟨_,_,h1,h2⟩;omega)];rfl)
      | (rw [decide_eq_true ⟨h,hw,by omega,by omega⟩,gL,List.not_any_eq_all_not];simp only [Bool.not_not])
theorem zZ6 (a:List Int) (id at_:Int) (hl:a.length≤1000):aP Tryz.prog 39 [.rowE (ints a) 1,.pr [.i id] 0,.pr [.i at_] 0] [] (.b (!decide (GV a id=at_))) []:=by
  have hc:=pR a id hl;refine bL T Tryz.func39 rfl rfl rfl rfl ?_
  (repeat' (first|refine wS ?_|refine wR ?_|(refine rg 0 (aV ?_))|(refine bO (id:=1) 10 [[],[],[0,1],[],rN 4] (rM 5 5) [[],[5],[],[5,6,7],[]] cK rfl (by decide +kernel) (dN rfl (dO T rfl (dV rfl (kC (hc)) (dO T rfl (dV rfl (dI rfl rfl) (dE ?_))))));refine aV ?_)|refine nZ ?_));exact rQ
def ZF (w:Ws) (id:Int):Bool:=w.all fun a=>decide (GV a id=GV (hd w) id)
theorem decided_c (w:Ws) (ids:List Int) (h:w≠[]) (hw:w.length≤1000) (ha:∀ a,a∈w→a.length≤1000) (hi:ids.length≤1000):aP Tryz.prog 10 [worldsA w,.rowE (ints ids) 1] [] (.b (decM w ids)) []:=by
  have hlen:(ints ids).length=ids.length:=by simp
  refine bL T Tryz.func10 rfl rfl rfl rfl ?_
  (repeat' (first|refine wS ?_|refine wB ?_|(refine rg 0 (aV ?_))|(refine rg 1 (mW rfl (qW T rfl (mV ?_))))|refine nZ ?_));refine cX (X:={k:Nat // k≤ids.length∧(ids.take k).all (ZF w)=true}) (fun k=>[(0,worldsA w),(8,.rowE (ints ids) 1),(9,.i (ints ids).length),(10,.i k.1)]) (fun _=>[]) (fun k=>ids.length-k.1) ⟨0,by simp,rfl⟩ (fU []) ?_
  rintro ⟨k,hk,hf⟩;dsimp only;by_cases hlt:k<ids.length
  · have hc1:=pR (hd w) ids[k] (ha _ (hd_mem h));have hc2:=containsFunc_c (w:=w) (F:=39) (caps:=[.pr [.i ids[k]] 0,.pr [.i (GV (hd w) ids[k])] 0]) (q:=fun a=>!decide (GV a ids[k]=GV (hd w) ids[k])) hw rfl (fun a hm=>zZ6 a _ _ (ha a hm));have e:(w.any fun a=>!decide (GV a ids[k]=GV (hd w) ids[k])) = !ZF w ids[k]:=by
      unfold ZF;rw [List.not_all_eq_any_not]
    rw [e] at hc2;cases hd1:ZF w ids[k] with
    | true=>
      rw [hd1] at hc2;have hc2:aP _ _ _ [] (.b false) []:=hc2
      (repeat' (first|refine wS ?_|refine wB ?_|refine wK ?_|refine wU ?_|(refine wC rfl ?_ ?_<;>(intro hb;(try simp only [nm] at hb);try (exfalso;omega)))|(refine rg 2 (vV (aK rfl rfl) ?_))|(refine rg 3 (vV (ix T rfl (by omega) (ints_len ids) (iQ (k:=k) (by omega))) (lW T rfl (bS (bM T rfl) rfl (aU T rfl rfl rfl rfl rfl rfl (by decide) rfl ?_)))))|(refine bO (id:=4) 23 [[],[0],[0,1],[],rN 4,[]] [14,15,16,17,18,7] [[],[],[],[14,15,16],[],rM 14 5] cK rfl (by decide +kernel) (dN rfl (dV rfl (ix T rfl (by decide) (lF w) (D9 h)) (dO T rfl (dO T rfl (dV rfl (kC (hc1)) (uL rfl rfl rfl (by exact bM T rfl) rfl ?_))))));refine dE ?_;refine aU T rfl rfl rfl rfl rfl rfl (by decide) rfl ?_)|(refine rg 5 (mW rfl (vV (by exact gI rfl rfl) ?_));refine vV (by exact eC rfl rfl hc2 (.cons (.row _ _ _) (.cons (.clo .nil (.cons (.ptr rfl (.cons (.v _) .nil)) (.cons (.ptr rfl (.cons (.v _) .nil)) .nil))) .nil)) rfl rfl) ?_)|(refine rg 7 (vV (bP rfl rfl (by omega) (by omega)) (mV ?_)))|refine nZ ?_));exact ⟨⟨k+1,hlt,by rw [aM hlt,List.all_append,hf];simp [hd1]⟩,by dsimp only;omega,fU []⟩
    | false=>
      rw [hd1] at hc2;have hc2:aP _ _ _ [] (.b true) []:=hc2
      (repeat' (first|refine wS ?_|refine wB ?_|refine wK ?_|refine wR ?_|refine wT ?_|(refine wC rfl ?_ ?_<;>(intro hb;(try simp only [nm] at hb);try (exfalso;omega)))|(refine rg 2 (vV (aK rfl rfl) ?_))|(refine rg 3 (vV (ix T rfl (by omega) (ints_len ids) (iQ (k:=k) (by omega))) (lW T rfl (bS (bM T rfl) rfl (aU T rfl rfl rfl rfl rfl rfl (by decide) rfl ?_)))))|(refine bO (id:=4) 23 [[],[0],[0,1],[],rN 4,[]] [14,15,16,17,18,7] [[],[],[],[14,15,16],[],rM 14 5] cK rfl (by decide +kernel) (dN rfl (dV rfl (ix T rfl (by decide) (lF w) (D9 h)) (dO T rfl (dO T rfl (dV rfl (kC (hc1)) (uL rfl rfl rfl (by exact bM T rfl) rfl ?_))))));refine dE ?_;refine aU T rfl rfl rfl rfl rfl rfl (by decide) rfl ?_)|(refine rg 5 (mW rfl (vV (by exact gI rfl rfl) ?_));refine vV (by exact eC rfl rfl hc2 (.cons (.row _ _ _) (.cons (.clo .nil (.cons (.ptr rfl (.cons (.v _) .nil)) (.cons (.ptr rfl (.cons (.v _) .nil)) .nil))) .nil)) rfl rfl) ?_)|(refine rg 6 (aV ?_))|refine nZ ?_));refine cM (.inl rfl) rfl (lX ?_)
      symm;show ids.all (ZF w)=false;rw [vT];exact ⟨ids[k],aI hlt,by simp [hd1]⟩
  · (repeat' (first|refine wS ?_|refine wR ?_|refine wE ?_|(refine wC rfl (fun hb=>?_) (fun hb=>?_) <;> (((try simp only [nm] at hb);try (exfalso;omega))))|(refine rg 2 (vV (aK rfl rfl) ?_))|(refine rg 8 (aV ?_))|(refine nZ ?_)));refine cM (.inl rfl) rfl (lX ?_)
    rw [cD (by omega)] at hf
    exact hf.symm
theorem qI {a:List Int}{p:Nat}(h:p<a.length):(ints a)[(p:Int).toNat]? = some [AV.i (cell a p)]:=by
  rw [bR,iQ h];simp [cell,aC,h]
theorem ML {w:Ws}{p k:Nat}{v:Int}(h:k<w.length):leftM (w.take (k+1)) p v=if cell w[k] p=v then leftM (w.take k) p v++[w[k]] else leftM (w.take k) p v:=by
  unfold leftM;rw [aM h,List.filter_append];split
  · rename_i e;simp [e]
  · rename_i e;simp [e]
theorem zW5 (w:Ws) (p:Nat) (v:Int) (hw:w.length≤1000) (ha:∀ a,a∈w→p<a.length):aP Tryz.prog 122 [worldsA w,.i p,.i v] [] (.sl 0 0 (leftM w p v).length 1) [.arr (wsA (leftM w p v)) 1]:=by
  have hlen:(wsA w).length=w.length:=by simp
  refine bL T Tryz.func122 rfl rfl rfl rfl ?_
  (repeat' (first|refine wS ?_|refine wB ?_|(refine rg 0 (aV ?_))|(refine rg 1 (aV ?_))|(refine rg 2 (mW rfl (qW T rfl (mV ?_))))|refine nZ ?_));refine ZV 7 1 rfl (by decide) ?_
  refine cX (X:={k:Nat // k≤w.length}) (fun k=>[(1,.i p),(2,.i v),(7,.sl 0 0 (leftM (w.take k.1) p v).length 1),(10,worldsA w),(11,.i (wsA w).length),(12,.i k.1)]) (fun k=>[.arr (wsA (leftM (w.take k.1) p v)) 1]) (fun k=>w.length-k.1) ⟨0,by simp⟩ (fU [0]) ?_
  rintro ⟨k,hk⟩;dsimp only;by_cases hlt:k<w.length
  · have hp:=ha w[k] (aI hlt);have hlp:(leftM (w.take k) p v).length≤k:=by
      have:=zJ9 (w.take k) p v;simp at this;omega
    have hs:=ML (p:=p) (v:=v) hlt;by_cases hv:cell w[k] p=v
    · rw [if_pos hv] at hs
      (repeat' (first|refine wS ?_|refine wB ?_|refine wK ?_|(refine wC rfl ?_ ?_<;>(intro hb;(try simp only [nm] at hb);try (exfalso;omega)))|(refine rg 3 (vV (aK rfl rfl) ?_))|(refine rg 4 (vV (ix T rfl (by omega) (lF w) (zT (k:=k) (by omega))) (lW T rfl (aV ?_))))|(refine rg 5 (dR rfl (vV (ix T rfl (by omega) (ints_len _) (qI hp)) (lW T rfl (mW rfl (vV (bW rfl rfl) ?_))))))|(refine rg 6 (dR rfl (bS (by exact bF T rfl rfl (by decide) (by decide) rfl rfl rfl) rfl ?_));refine gD T rfl rfl rfl rfl rfl rfl (by simp) (kZ.whole rfl rfl) rfl (by simp;omega) (by simp;omega) rfl ?_;refine aV ?_)|(refine rg 7 (vV (bP rfl rfl (by omega) (by omega)) (mV ?_)))|refine nZ ?_));exact ⟨⟨k+1,hlt⟩,by dsimp only;omega,[2],rfl,⟨rfl,rfl,by rw [hs,aF];rfl,rfl,rfl,rfl,trivial⟩,⟨.inr (aE rfl (by rw [hs,lN,cD (by simp)];simp) (wsA_idf _)),trivial⟩,by decide,K8⟩
    · rw [if_neg hv] at hs
      (repeat' (first|refine wS ?_|refine wB ?_|refine wK ?_|(refine wC rfl ?_ ?_<;>(intro hb;(try simp only [nm] at hb);try (exfalso;omega)))|(refine rg 3 (vV (aK rfl rfl) ?_))|(refine rg 4 (vV (ix T rfl (by omega) (lF w) (zT (k:=k) (by omega))) (lW T rfl (aV ?_))))|(refine rg 5 (dR rfl (vV (ix T rfl (by omega) (ints_len _) (qI hp)) (lW T rfl (mW rfl (vV (bW rfl rfl) ?_))))))|(refine rg 7 (vV (bP rfl rfl (by omega) (by omega)) (mV ?_)))|refine nZ ?_));exact ⟨⟨k+1,hlt⟩,by dsimp only;omega,[0],rfl,⟨rfl,rfl,by rw [hs];rfl,rfl,rfl,rfl,trivial⟩,⟨.inr (aE rfl (by rw [hs]) (wsA_idf _)),trivial⟩,by decide,K8⟩
  · (repeat' (first|refine wS ?_|refine wR ?_|refine wE ?_|(refine wC rfl (fun hb=>?_) (fun hb=>?_) <;> (((try simp only [nm] at hb);try (exfalso;omega))))|(refine rg 3 (vV (aK rfl rfl) ?_))|(refine rg 8 (mW rfl (aV ?_)))|(refine nZ ?_)));rw [cD (by omega)]
    exact ⟨.inl rfl,[0],_,rfl,rfl,rfl,⟨.inr (aE rfl rfl (wsA_idf _)),trivial⟩,by decide,K8⟩
theorem XR (w:Ws) (p:Nat) (v:Int) (hw:w.length≤1000) (ha:∀ a,a∈w→p<a.length):aP Tryz.prog 122 [worldsA w,.i p,.i v] [] (worldsA (leftM w p v)) []:=
  jS (by simp) (B2 (wsA_idf _)) (zW5 w p v hw ha)
def rngI (x:Int):Prop:=-9223372036854775808≤x∧x≤9223372036854775807
theorem zT3 {x:Int}:(Lit.int .i64 x).wf=true↔rngI x:=by
  have h1:IntKind.i64.min = -9223372036854775808:=by decide
  have h2:IntKind.i64.max=9223372036854775807:=by decide
  simp [Lit.wf,rngI,h1,h2]
abbrev yG5 (s:Nat→Int):List Value:=[.int .i64 (s 0),.int .i64 (s 1),.int .i64 (s 2),.int .i64 (s 3),.int .i64 (s 4),.int .i64 (s 5)]
abbrev RQ (s:Nat→Int):AV:=.agg [.i (s 0),.i (s 1),.i (s 2),.i (s 3),.i (s 4),.i (s 5)]
def kv (s:Nat→Int):Value:=.agg (yG5 s).toArray
def zP9 (s:Nat→Int):Prop:=∀ q,rngI (s q)
def PN (v:Value):Prop:=∃ s,zP9 s∧v=kv s
theorem A7 (s:Nat→Int):zD5 (RQ s) (kv s):=zD5.agg (yG5 s)
theorem zW7 {s t:Nat→Int}(h:kv s=kv t):∀ q,q<6→s q=t q:=by
  simp only [kv,yG5,Value.agg.injEq,Array.mk.injEq,List.cons.injEq,Value.int.injEq,true_and,and_true] at h;obtain ⟨h0,h1,h2,h3,h4,h5⟩:=h;intro q hq;have:q=0∨q=1∨q=2∨q=3∨q=4∨q=5:=by omega
  rcases this with rfl | rfl | rfl | rfl | rfl | rfl <;> assumption
abbrev yI:TypeId:=110
theorem EV:Tryz.prog.underlying yI=some (.array 6 3):=by kernel_rfl
theorem zR3:Tryz.prog.underlying 3=some (.int .i64):=by kernel_rfl
theorem OK:Tryz.prog.cellsOf yI=6:=by kernel_rfl
theorem zX2:Tryz.prog.cellsOf 3=1:=by kernel_rfl
theorem zG2:Tryz.prog.keyType yI=true:=by kernel_rfl
theorem RJ:Nat.ble 1 Tryz.prog.types.size=true:=by kernel_rfl
theorem XT {s:Nat→Int}(h:zP9 s):∃ l,keyOf Tryz.prog yI (kv s)=some l:=by
  have hp:=aS RJ;obtain ⟨d,hd⟩:∃ d,Tryz.prog.types.size=d+1:=⟨Tryz.prog.types.size-1,by omega⟩
  have hw:∀ q,(Lit.int .i64 (s q)).wf=true:=fun q=>zT3.2 (h q);have hf:Value.formed Tryz.prog yI (kv s)=true:=by simp only [kv,Value.formed,EV,OK];rfl
  have one:∀ x,(Lit.int .i64 x).wf=true→Tryz.prog.keyLits (d+1) 3 [.int .i64 x]=some [.int .i64 x]:=fun x hx=>by
    simp only [Program.keyLits,zR3,hx,and_self,if_true]
  unfold keyOf;rw [EV];simp only [zG2,hf,Bool.and_self,if_true,hd];have e:Tryz.prog.keyLits (d+1+1) yI (kv s).cells.toList=some [.int .i64 (s 0),.int .i64 (s 1),.int .i64 (s 2),.int .i64 (s 3),.int .i64 (s 4),.int .i64 (s 5)]:=by
    have e0:(kv s).cells.toList=yG5 s:=rfl;have e1:List.range 6=[0,1,2,3,4,5]:=rfl;rw [e0];simp [Program.keyLits,EV,zR3,OK,zX2,e1,hw,yG4]
  rw [e];exact ⟨_,rfl⟩
theorem RU:Tryz.prog.keyTypeAt 2 yI=true:=by kernel_rfl
theorem LR:Tryz.prog.tiled 2 yI=true:=by kernel_rfl
theorem uU:tC Tryz.prog yI PN:=by
  have k:=tC.deep (P:=Tryz.prog) (m:=2) (by decide) RU LR (by rw [EV])
  have w:∀ {v},PN v→∃ l,keyOf Tryz.prog yI v=some l:=fun ⟨s,h1,h2⟩=>h2▸XT h1
  exact ⟨fun w' em v hv=>k.check w' em (w hv),fun w' x hx es hes=>k.find w' (w hx) es fun e he=>w (hes e he),fun w' v hv=>k.stays w' (w hv)⟩
def VX (n:Nat) (s:Nat→Int) (a:List Int):Bool:=(List.range n).all fun p=>decide (s p=0∨s p=IntKind.i64.wrap (cell a p+1))
def nP (n:Nat) (w0:Ws) (s:Nat→Int):Ws:=w0.filter (VX n s)
def G2 (s:Nat→Int) (p:Nat) (x:Int) (q:Nat):Int:=if q=p then x else s q
theorem UT (x:Int):rngI (IntKind.i64.wrap x):=by
  rw [IntKind.wrap_i64];unfold rngI;omega
theorem VD {s:Nat→Int}(h:zP9 s) (p:Nat) (x:Int):zP9 (G2 s p (IntKind.i64.wrap x)):=by
  intro q;unfold G2;split
  · exact UT x
  · exact h q
theorem zF8 {s:Nat→Int}{p:Nat}{x:Int}(h:p<6):([.i (s 0),.i (s 1),.i (s 2),.i (s 3),.i (s 4),.i (s 5)]:List AV).set p (.i x)=[.i (G2 s p x 0),.i (G2 s p x 1),.i (G2 s p x 2),.i (G2 s p x 3),.i (G2 s p x 4),.i (G2 s p x 5)]:=by
  have:p=0∨p=1∨p=2∨p=3∨p=4∨p=5:=by omega
  rcases this with rfl | rfl | rfl | rfl | rfl | rfl <;> rfl
theorem SU {n:Nat}{w0:Ws}{s:Nat→Int}{p:Nat}{a:List Int}(hw:∀ b,b∈w0→∀ x,x∈b→rngI x∧0≤x) (hl:∀ b,b∈w0→b.length=n) (hp:p<n) (ha:a∈nP n w0 s) :
    nP n w0 (G2 s p (IntKind.i64.wrap (cell a p+1)))=leftM (nP n w0 s) p (cell a p):=by
  unfold nP leftM;rw [List.filter_filter];apply zD1;intro b hb;have ha':a∈w0∧VX n s a=true:=by simpa [nP] using ha
  have ra:=hw a ha'.1 _ (zJ (p:=p) (by rw [hl a ha'.1];exact hp))
  have rb:=hw b hb _ (zJ (p:=p) (by rw [hl b hb];exact hp))
  have sa:=ha'.2;rw [iK];simp only [VX,bA,eJ,decide_eq_true_eq,aJ] at sa ⊢;unfold rngI at ra rb;have wne:IntKind.i64.wrap (cell a p+1)≠0:=by rw [IntKind.wrap_i64];omega
  have winj:IntKind.i64.wrap (cell a p+1)=IntKind.i64.wrap (cell b p+1)↔cell b p=cell a p:=by
    rw [IntKind.wrap_i64,IntKind.wrap_i64];constructor
    · intro h;omega
    · intro h;rw [h]
  constructor
  · intro h;have h1:=h p hp;unfold G2 at h1;rw [if_pos rfl] at h1;have h2:cell b p=cell a p:=winj.1 (h1.resolve_left wne);refine ⟨h2,fun q hq=>?_⟩
    by_cases hqp:q=p
    · subst hqp;rw [h2];exact sa q hq
    · have:=h q hq;unfold G2 at this
      rwa [if_neg hqp] at this
  · rintro ⟨h1,h2⟩ q hq;unfold G2;by_cases hqp:q=p
    · subst hqp;rw [if_pos rfl,h1];exact .inr rfl
    · rw [if_neg hqp];exact h2 q hq
theorem IU {n:Nat}{w0:Ws}{s t:Nat→Int}(h:∀ q,q<n→s q=t q):nP n w0 s=nP n w0 t:=by
  unfold nP;apply zD1;intro b _;rw [iK];simp only [VX,bA,eJ,decide_eq_true_eq];constructor <;> intro g q hq
  · rw [← h q hq];exact g q hq
  · rw [h q hq];exact g q hq
theorem MI (n:Nat) (w0:Ws):nP n w0 (fun _=>0)=w0:=by
  unfold nP;rw [oN];intro a _;simp [VX]
abbrev BU (r:Nat × Int):AV:=.agg [.i (r.1:Int),.i r.2]
structure zP (ids:List Int) (w0:Ws) (n:Nat) (m:List Value × List AV):Prop where
  nd:m.1.Nodup
  len:m.1.length=m.2.length
  idf:AV.idfL m.2=true
  at_:∀ (i:Nat) k,m.1[i]? = some k→∃ s,zP9 s∧k=kv s∧m.2[i]? = some (BU (needM ids (nP n w0 s)))
theorem zP.good {ids:List Int}{w0:Ws}{n:Nat}{m:List Value × List AV}(g:zP ids w0 n m):∀ q,q∈m.1→PN q:=by
  intro q hq;obtain ⟨i,hi⟩:=zS hq;obtain ⟨s,h1,h2,_⟩:=g.at_ i q hi;exact ⟨s,h1,h2⟩
theorem JF:∀ (a b:List AV),AV.idfL a=true→AV.idfL b=true→AV.idfL (a++b)=true
  | [],_,_,hb=>hb
  | x::a,b,ha,hb=>by
    simp only [List.cons_append,AV.idfL,aJ] at ha ⊢;exact ⟨ha.1,JF a b ha.2 hb⟩
theorem zP.find {ids:List Int}{w0:Ws}{n:Nat}{m:List Value × List AV}(g:zP ids w0 n m) (hn:n≤6){s:Nat→Int}{i:Nat}(hi:m.1[i]? = some (kv s)):m.2[i]? = some (BU (needM ids (nP n w0 s))):=by
  obtain ⟨t,_,h2,h3⟩:=g.at_ i _ hi;rw [h3,IU fun q hq=>zW7 h2 q (by omega)]
theorem zP.put {ids:List Int}{w0:Ws}{n:Nat}{m:List Value × List AV}(g:zP ids w0 n m){s:Nat→Int}(hs:zP9 s) (hni:kv s∉m.1):zP ids w0 n (m.1++[kv s],m.2++[BU (needM ids (nP n w0 s))]):=by
  refine ⟨?_,by simp [g.len],JF _ _ g.idf rfl,fun i k hi=>?_⟩
  · rw [cO];exact ⟨g.nd,by simp,fun a ha b hb e=>hni (by simp at hb;rw [← hb,← e];exact ha)⟩
  · by_cases hlt:i<m.1.length
    · rw [aG hlt] at hi;obtain ⟨t,h1,h2,h3⟩:=g.at_ i k hi;exact ⟨t,h1,h2,by rw [aG (by rw [← g.len];exact hlt)];exact h3⟩
    · have hl:=(aB.1 hi).1;simp at hl;have e:i=m.1.length:=by omega
      subst e;rw [aD (aT _)] at hi;simp at hi;exact ⟨s,hs,hi.symm,by rw [g.len,aD (aT _)];simp⟩
theorem zP.set {ids:List Int}{w0:Ws}{n:Nat}{m:List Value × List AV}(g:zP ids w0 n m) (hn:n≤6){s:Nat→Int}{i:Nat}(hi:m.1[i]? = some (kv s)):m.2.set i (BU (needM ids (nP n w0 s)))=m.2:=by
  apply gQ;intro j;rw [gB];split
  · rename_i e;subst e;rw [if_pos (by rw [← g.len];exact (aB.1 hi).1)]
    exact (g.find hn hi).symm
  · rfl
abbrev qK (ids:List Int):AB:=.cells [.rowE (ints ids) 1,.mp 1]
theorem lZ {h:Hp}{i:Nat}{θ:Nat→Nat}{ks:List Value}{vs vs':List AV}(hk:h[i]? = some (.mapO ks vs')) (he:vs'=vs) (hi:AV.idfL vs=true):h[i]? = some ((AB.mapO ks vs).map θ):=by
  subst he;rw [hk];show _=some (AB.mapO ks (AV.mapL θ vs'));rw [mD θ vs' hi]
theorem L2 {h:Hp}{i:Nat}{θ:Nat→Nat}{cs cs':List AV}(hk:h[i]? = some (.cells cs')) (he:cs'=AV.mapL θ cs):h[i]? = some ((AB.cells cs).map θ):=by
  rw [hk,he];rfl
theorem QG {α:Type}(G:α→Prop) (S:Nat→α→α→Prop):∀ (N:Nat),(∀ i,i<N→∀ m,G m→∃ m',G m'∧S i m m')→∀ m0,G m0→∃ M:Nat→α,M 0=m0∧(∀ i,i≤N→G (M i))∧∀ i,i<N→S i (M i) (M (i+1))
  | 0,_,m0,g=>⟨fun _=>m0,rfl,fun _ _=>g,fun i hi=>absurd hi (cW i)⟩
  | N+1,h,m0,g=>by
    obtain ⟨M,h1,h2,h3⟩:=QG G S N (fun i hi=>h i (by omega)) m0 g
    obtain ⟨m',h4,h5⟩:=h N (by omega) (M N) (h2 N (aT _))
    refine ⟨fun i=>if i≤N then M i else m',by simp [h1],fun i hi=>?_,fun i hi=>?_⟩
    · by_cases hN:i≤N
      · simp only [hN,if_true];exact h2 i hN
      · simp only [hN,if_false];exact h4
    · by_cases hN:i+1≤N
      · have:i≤N:=by omega
        simp only [hN,this,if_true];exact h3 i (by omega)
      · obtain rfl:i=N:=by omega
        simp only [aT,if_true,hN,if_false];exact h5
end Go.Proofs.YtojgimibalokkaaGreat.L4
