/-
  Texts of the logic and of the layer,in one module (part 3).
-/
import Derived.Test.YtjjfjhkbmdbhkaaGreatDoorK2
import Derived.RangeFuncSeq
import Derived.Maps.RangeRun
import Derived.Lib.AppendStr
import Derived.Laws.Concat
import Derived.Laws.Strings
import Derived.Laws.Strings2
import Derived.Laws.Strings3
import Derived.Lib.UnsafeStr
import Derived.RangeFuncGives
import Derived.Lib.SlKeysI
import Derived.Maps.Own
import Derived.Sort.Grow
import Derived.Lib.SliceRun
import Derived.SizedLaws
import Derived.Deep.Draws
import Derived.Lib.LaidTab
import Derived.Lib.ItoaNum
import Derived.Lib.Builder
import Derived.Laws.Pointers
import Derived.Maps.Views
import Derived.WideShapes
import Derived.Test.YtjjfjhkbmdbhkaaGreatDoorRows
import Derived.KernelRfl
import Derived.Shelf.Lay
import Derived.Shelf.Strings.Builder1
import Derived.Shelf.Strconv.Itoa4
import Derived.Ground.NamesProg
set_option maxHeartbeats 1000000
set_option linter.unusedVariables false
set_option linter.unusedSimpArgs false
set_option linter.unnecessarySimpa false
namespace Go.Ab
open Go
theorem xH1 {S S':Nat→Prop}{w:World}{ρ:Pl}{x:AV}{y:Value}(hS:∀ b,S b→S' b) (h:R S w x ρ y):R S' w x ρ y:=
 oN hS (fun _ _=>rfl) x ρ ρ y (fun _ _ h=>h) (fun _ _ _ _ _ h=>h) h
theorem xE7 {S S':Nat→Prop}{w:World}{ρ:Pl}{p:Option (Nat × Nat)}{x:AB}(hS:∀ b,S b→S' b) (h:RB S w ρ p x):RB S' w ρ p x:=
 FU (fun b _ _ hb _=>hS b hb) (fun _ _ _ h=>h) h
theorem HS.re {c:pS}{ρ:Pl}{S:Nat→Prop}{h:Hp}{w:World}(s:HS c ρ S h w) (c':pS) (hM:∀ (k:Nat) x p,h[k]? = some x→x≠.gone→ρ k=some p→c'.M p.1) (hext:nD c'.M c'.w0 w) (h0:∀ b,c'.S0 b→S b) (h1:∀ b,S b→c'.S0 b∨c'.M b) (hm:c'.m≤h.length) (hk:∀ k,k<c'.m→ρ k=c'.ρ0 k):HS c' ρ S h w:=
 ⟨s.dom,s.rng,s.blk,fun k b p hb hg hp=>⟨hM k b p hb hg hp,(s.live k b p hb hg hp).2⟩,s.inj,s.stab,hext,h0,h1,hm,hk,s.glob⟩
theorem HS.world {c:pS}{ρ:Pl}{S N:Nat→Prop}{h:Hp}{w w':World}(s:HS c ρ S h w) (x:nD N w w') (hS:∀ b,S b→¬ N b) (hl:∀ (k:Nat) y p,h[k]? = some y→y≠.gone→ρ k=some p→¬ N p.1) (hM:∀ b,b<c.w0.heap.size→N b→c.M b):HS c ρ S h w'∧iF ρ ρ S S w w':=by
 have l:iF ρ ρ S S w w':=⟨fun _ _ h=>h,fun _ h=>h,fun b hb=>x.same b (s.stab b hb) (hS b hb),fun _ _ _ _ _ hr=>x.room hr⟩
 refine ⟨⟨s.dom,fun k p hp=>eC (s.rng k p hp) x.size,fun k b hb=>?_,s.live,s.inj,fun b hb=>eC (s.stab b hb) x.size,s.ext.trans x (fun b hb hlt=>hM b hlt hb),s.st0,s.st1,s.mle,s.keep,s.glob.later l⟩,l⟩;by_cases hg:b = .gone
 ·subst hg;trivial
 ·exact RB.later l (fun b' o hp=>x.same b' (s.rng k _ hp) (hl k b _ hb hg hp)) (s.blk k b hb)
theorem HS.more {c:pS}{ρ:Pl}{S S':Nat→Prop}{h:Hp}{w:World}(s:HS c ρ S h w) (hS:∀ b,S b→S' b) (hlt:∀ b,S' b→b<w.heap.size) (hl:∀ (k:Nat) y p,h[k]? = some y→y≠.gone→ρ k=some p→¬ S' p.1) (h1:∀ b,S' b→c.S0 b∨c.M b):HS c ρ S' h w:=
 ⟨s.dom,s.rng,fun k b hb=>xE7 hS (s.blk k b hb),fun k b p hb hg hp=>⟨(s.live k b p hb hg hp).1,hl k b p hb hg hp⟩,s.inj,hlt,s.ext,fun b hb=>hS b (s.st0 b hb),h1,s.mle,s.keep,s.glob.st hS⟩
theorem LL {w:World}{l:Nat}{o o':Obj}(hl:w.heap[l]? = some o) (hn:∀ c e fz,o≠.cells c e fz):nD (fun b=>b=l) w (w.putObj l o'):=
 ⟨rfl,rfl,rfl,by rw [World.putObj_size];exact aX _,fun b _ hb=>rB hb,fun b c e fz hc=>⟨c,fz,by
  have:b≠l:=fun e'=>by rw [e',hl] at hc;cases hc;exact hn _ _ _ rfl
  rw [rB this];exact hc,rfl⟩⟩
theorem HS.put {c:pS}{ρ:Pl}{S:Nat→Prop}{h:Hp}{w:World}{l:Nat}{o:Obj}(s:HS c ρ S h w) (hl:w.heap[l]? = some o) (hn:∀ c e fz,o≠.cells c e fz) (hm:yJ7 o=false) (o':Obj) (hM:l<c.w0.heap.size→c.M l) (h0:¬ c.S0 l) :
  HS c ρ (fun b=>S b∧b≠l) h (w.putObj l o')∧∀ x y,R S w x ρ y→R (fun b=>S b∧b≠l) (w.putObj l o') x ρ y:=by
 have hmm:∀ (b:Nat) q,vT q=true→w.heap[b]? = some q→b≠l:=fun b q hq hb e'=>by
  rw [e',hl] at hb;cases hb;cases o <;> first|(cases hq;done)|exact hn _ _ _ rfl | (rw [yJ7] at hm;cases hm)
 have a1:∀ (b:Nat) q,vT q=true→S b→w.heap[b]? = some q→S b∧b≠l:=fun b q hq h1 h2=>⟨h1,hmm b q hq h2⟩
 have a2:∀ (b:Nat) q,vT q=true→w.heap[b]? = some q→(w.putObj l o').heap[b]? = some q:=fun b q hq h2=>by rw [rB (hmm b q hq h2)];exact h2
 refine ⟨⟨s.dom,fun k p hp=>by rw [World.putObj_size];exact s.rng k p hp,fun k b hb=>FU a1 a2 (s.blk k b hb),fun k b p hb hg hp=>⟨(s.live k b p hb hg hp).1,fun h=>(s.live k b p hb hg hp).2 h.1⟩,s.inj,fun b hb=>by rw [World.putObj_size];exact s.stab b hb.1,s.ext.trans (LL hl hn) (fun b hb hlt=>by subst hb;exact hM hlt),fun b hb=>⟨s.st0 b hb,fun e=>h0 (e▸hb)⟩,fun b hb=>s.st1 b hb.1,s.mle,s.keep,s.glob.cells a1 a2⟩,fun x y hx=>U7 a1 a2 x ρ y hx⟩
abbrev JT:=Nat × Bool→(Nat→Prop)→(Nat→Prop)→World→Prop
structure zV2 (J:JT):Prop where
 st:∀ {g W N w w'},J g W N w→nD (fun b=>¬ N b) w w'→J g W N w'
 sub:∀ {g W N w},J g W N w→∀ b,W b→N b
 lt:∀ {g W N w},J g W N w→∀ b,N b→b<w.heap.size
structure yU2 (J:JT) (A:Nat→Prop) (g:Nat × Bool) (c:pS) (ρ:Pl) (S:Nat→Prop) (h:Hp) (w:World) (W N:Nat→Prop):Prop where
 j:J g W N w
 live:∀ (k:Nat) x p,h[k]? = some x→x≠.gone→ρ k=some p→¬ N p.1
 st:∀ b,S b→¬ W b
 cell:∀ b,S b→c.lo≤b→N b→Y7 w b
 wm:∀ b,W b→c.M b
 accS:∀ b,S b→A b
 accM:∀ b,c.M b→A b
 nn:∀ b,N b→c.nb b∨c.S0 b∨c.M b
def JS (J:JT) (A:Nat→Prop) (g:Nat × Bool) (c:pS) (ρ:Pl) (S:Nat→Prop) (h:Hp) (w:World):Prop:=∃ W N,yU2 J A g c ρ S h w W N
def pS.re (c:pS) (w:World) (S N:Nat→Prop) (hn:∀ b,N b→b<w.heap.size) (hs:c.w0.heap.size≤w.heap.size):pS where
 w0:=w
 M:=fun b=>c.M b∧¬ N b
 new:=fun b hb=>⟨c.new b (bL hs hb),fun h=>by have:=hn b h;omega⟩
 S0:=S
 ρ0:=c.ρ0
 m:=c.m
 lo:=c.lo
 lole:=bL c.lole hs
 r:=c.r
 nb:=c.nb
section
variable {P:Program}{J:JT}{A:Nat→Prop}{g:Nat × Bool}{n:Nat × Nat}{c:pS}{ρ:Pl}{S W N:Nat→Prop}{env:eG}{h:Hp}{a:Act}{w:World}
theorem qL.re (s:qL n c ρ S env h a w) (j:yU2 J A g c ρ S h w W N) (hn:∀ b,N b→b<w.heap.size) (hs:c.w0.heap.size≤w.heap.size):qL n (c.re w S N hn hs) ρ S env h a w:=
 ⟨s.size,s.defers,s.env,s.hs.re _ (fun k x p hx hg hp=>⟨(s.hs.live k x p hx hg hp).1,j.live k x p hx hg hp⟩) (nD.refl _ _) (fun _ h=>h) (fun _ h=>.inl h) s.hs.mle s.hs.keep,s.cm⟩
theorem qL.un {ρ':Pl}{S':Nat→Prop}{env':eG}{h':Hp}{a':Act}{w':World}(hJ:zV2 J) (s:qL n c ρ S env h a w) (j:yU2 J A g c ρ S h w W N) (hn:∀ b,N b→b<w.heap.size) (hs:c.w0.heap.size≤w.heap.size) (s':qL n (c.re w S N hn hs) ρ' S' env' h' a' w') :
  qL n c ρ' S' env' h' a' w'∧yU2 J A g c ρ' S' h' w' W N:=by
 have hx:nD (fun b=>c.M b∧¬ N b) w w':=s'.hs.ext;have hl:∀ (k:Nat) x p,h'[k]? = some x→x≠.gone→ρ' k=some p→c.M p.1∧¬ N p.1:=fun k x p a1 a2 a3=>(s'.hs.live k x p a1 a2 a3).1;have hst:∀ b,S' b→S b∨(c.M b∧¬ N b):=fun b hb=>s'.hs.st1 b hb
 refine ⟨⟨s'.size,s'.defers,s'.env,s'.hs.re c (fun k x p a1 a2 a3=>(hl k x p a1 a2 a3).1) (s.hs.ext.trans hx fun b hb _=>hb.1) (fun b hb=>s'.hs.st0 b (s.hs.st0 b hb)) (fun b hb=>(hst b hb).elim (s.hs.st1 b) fun h=>.inr h.1) s'.hs.mle s'.hs.keep,s'.cm⟩,?_⟩;refine ⟨hJ.st j.j (hx.mono fun b _ hb=>hb.2),fun k x p a1 a2 a3=>(hl k x p a1 a2 a3).2,fun b hb hw=>?_,fun b hb h1 h2=>?_,j.wm,fun b hb=>(hst b hb).elim (j.accS b) fun h=>j.accM b h.1,j.accM,j.nn⟩
 ·rcases hst b hb with h1 | h1
  ·exact j.st b h1 hw
  ·exact h1.2 (hJ.sub j.j b hw)
 ·rcases hst b hb with h3 | h3
  ·obtain ⟨cc,e,h4⟩:=j.cell b h3 h1 h2;exact ⟨cc,e,by rw [hx.same b (hn b h2) fun h=>h.2 h2];exact h4⟩
  ·exact absurd h2 h3.2
theorem JS.sub {L:List Nat}{h':Hp}(s:HS c ρ S h w) (hl:L.length=h'.length) (hh:wL (th L h.length) h 0 h') (j:JS J A g c ρ S h w):JS J A g c (fun k=>ρ (th L h.length k)) S h' w:=by
 obtain ⟨W,N,j⟩:=j;refine ⟨W,N,j.j,fun k x p hx hg hp=>?_,j.st,j.cell,j.wm,j.accS,j.accM,j.nn⟩
 have h1:=hh.get k x hx;rw [Nat.zero_add] at h1;exact j.live _ _ p (h1.resolve_left hg) (by cases x <;> simp [AB.map] at *) hp
end
def FZ (P:Program) (l:Nat) (J:JT) (A:Nat→Prop) (items:Nat→List AV) (N:Nat):Prop:=
 ∀ k,k<N→∀ W Nn w S vs,J (k,false) W Nn w→(∀ b,S b→A b∧¬ W b∧Y7 w b)→RL S w (items k) (fun _=>none) vs →
  YieldAt Fence.wide 0 P l vs.toArray w fun e w'=>∃ (b:Bool) (W' N':Nat→Prop),e = .returned (.bool b)∧J (k+1,!b) W' N' w'∧nD W w w'∧(∀ x,W' x→W x∨w.heap.size≤x)∧(∀ x,N' x→Nn x∨S x∨w.heap.size≤x)
def AY (P:Program) (J:JT) (A:Nat→Prop) (n:Nat × Nat) (code:Code) (g:Nat × Bool) (env:eG) (h:Hp) (Q:Nat × Bool→Exit→eG→Hp→Prop):Prop:=
 ∀ c ρ S a w QQ,qL n c ρ S env h a w→JS J A g c ρ S h w→(∀ g' e env' h' ρ' S' a' w',Q g' e env' h'→qL n c ρ' S' env' h' a' w'→JS J A g' c ρ' S' h' w'→QQ e a' w')→code.wpIn (rd c.r) 0 P QQ a w
def VY (P:Program) (J:JT) (A:Nat→Prop) (n:Nat × Nat) (ops:Array Oper) (rest:List Oper) (g:Nat × Bool) (env:eG) (h:Hp) (K:Nat × Bool→eG→Hp→Prop):Prop:=
 ∀ c ρ S a w Q,qL n c ρ S env h a w→JS J A g c ρ S h w→(∀ e a w,Q e a w→e=Exit.normal)→(∀ g' env' h' ρ' S' a' w',K g' env' h'→qL n c ρ' S' env' h' a' w'→JS J A g' c ρ' S' h' w'→Q .normal a' w')→wpListIn (rd c.r) 0 P ops Q rest a w
def zK6 (K:Nat × Bool→eG→Hp→Prop) (Q:Nat × Bool→Exit→eG→Hp→Prop):Nat × Bool→Exit→eG→Hp→Prop
 | g,.normal,v,h=>K g v h
 | g,e,v,h=>Q g e v h
def UG (id:Nat) (Q:Nat × Bool→Exit→eG→Hp→Prop):Nat × Bool→Exit→eG→Hp→Prop
 | g,.exit id',v,h=>if id'=id then Q g .normal v h else Q g (.exit id') v h
 | g,e,v,h=>Q g e v h
section
variable {P:Program}{J:JT}{A:Nat→Prop}{n:Nat × Nat}{g:Nat × Bool}{env:eG}{h:Hp}{Q:Nat × Bool→Exit→eG→Hp→Prop}
theorem sO {code:Code}(hJ:zV2 J) (hv:AW P n code env h (fun e v h=>Q g e v h)):AY P J A n code g env h Q:=by
 intro c ρ S a w QQ s ⟨W,N,j⟩ hQ;have hn:=hJ.lt j.j;refine hv (c.re w S N hn s.hs.ext.size) ρ S a w QQ (s.re j hn s.hs.ext.size) fun e env' h' ρ' S' a' w' hq s'=>?_
 obtain ⟨h1,h2⟩:=s.un hJ j hn s.hs.ext.size s';exact hQ g e env' h' ρ' S' a' w' hq h1 ⟨W,N,h2⟩
theorem A8 {x y:Code}(hx:AY P J A n x g env h (zK6 (fun g v h=>AY P J A n y g v h Q) Q)):AY P J A n (.seq x y) g env h Q:=by
 intro c ρ S a w QQ s j hQ;refine wpIn_seq (hx c ρ S a w _ s j fun g' e env' h' ρ' S' a' w' k s' j'=>?_);cases e with
 | normal=>exact k c ρ' S' a' w' QQ s' j' hQ
 | _=>exact hQ g' _ env' h' ρ' S' a' w' k s' j'
theorem CN (hk:Q g .normal env h):AY P J A n .skip g env h Q:=fun _ _ _ _ _ _ s j hQ=>wpIn_skip (hQ _ _ _ _ _ _ _ _ hk s j)
theorem LX {id:Nat}(hk:Q g (.exit id) env h):AY P J A n (.exit id) g env h Q:=fun _ _ _ _ _ _ s j hQ=>wpIn_exit (hQ _ _ _ _ _ _ _ _ hk s j)
theorem zR6 (hk:Q g .ret env h):AY P J A n .ret g env h Q:=fun _ _ _ _ _ _ s j hQ=>wpIn_ret (hQ _ _ _ _ _ _ _ _ hk s j)
theorem G3 {id:Nat}{x:Code}(hx:AY P J A n x g env h (UG id Q)):AY P J A n (.block id x) g env h Q:=by
 intro c ρ S a w QQ s j hQ;refine wpIn_block (hx c ρ S a w _ s j fun g' e env' h' ρ' S' a' w' k s' j'=>?_);cases e with
 | exit id'=>
  by_cases hid:id'=id
  ·simp only [UG,hid,if_true] at k;simp only [Exit.inBlock,hid,if_true];exact hQ g' _ env' h' ρ' S' a' w' k s' j'
  ·simp only [UG,hid,if_false] at k;simp only [Exit.inBlock,hid,if_false];exact hQ g' _ env' h' ρ' S' a' w' k s' j'
 | _=>exact hQ g' _ env' h' ρ' S' a' w' k s' j'
theorem A9 {x:Operand}{b:Bool}{p q:Code}(hx:ev env x=some (.b b)) (ht:b=true→AY P J A n p g env h Q) (hf:b=false→AY P J A n q g env h Q):AY P J A n (.cond x p q) g env h Q:=by
 intro c ρ S a w QQ s j hQ;have hb:=s.ev hx;simp only [R] at hb;exact wpIn_cond_split hb (fun h1=>ht h1 c ρ S a w QQ s j hQ) (fun h1=>hf h1 c ρ S a w QQ s j hQ)
theorem yT5 {code:Code}{env':eG}{h':Hp}(hs:MF n.2 env h env' h') (hk:AY P J A n code g env' h' Q):AY P J A n code g env h Q:=by
 intro c ρ S a w QQ s j hQ;obtain ⟨L,h1,h2,h3,h4,h5⟩:=hs;exact hk c _ S a w QQ ⟨s.size,s.defers,fun t x hx=>BC _ ρ _ _ (s.env t _ (h2.look t x hx)),s.hs.sub h1 h3 h4 (fun i hi=>h5 i (s.cm▸hi)),s.cm⟩ (JS.sub s.hs h1 h3 j) hQ
theorem LW {body:Code}{X:Type}(E:X→eG) (H:X→Hp) (G:X→Nat × Bool) (μ:X→Nat) (x0:X) (hg:g=G x0) (h0:MF n.2 env h (E x0) (H x0))
  (round:∀ x,AY P J A n body (G x) (E x) (H x) (zK6 (fun g v h=>∃ x',μ x'<μ x∧g=G x'∧MF n.2 v h (E x') (H x')) Q)):AY P J A n (.loop body) g env h Q:=by
 subst hg;refine yT5 h0 ?_;intro c ρ S a w QQ s0 j0 hQ b k cs hro hb hr;have key:∀ m x,μ x=m→∀ ρ S a w,qL n c ρ S (E x) (H x) a w→JS J A (G x) c ρ S (H x) w→∃ e a' w',QQ e a' w'∧ArrivesIn (Machine.fenced P (rd c.r)) P (lone (b.atR a (.code body :: .inLoop body::k)) cs w) b k cs e a' w':=by
  intro m
  induction m using Nat.strongRecOn with
  | _ m ih=>
   intro x hx ρ S a w s j;obtain ⟨e,a₁,w₁,hq,harr⟩:=round x c ρ S a w (fun e a' w'=>∃ g' env' h' ρ' S',zK6 (fun g v h=>∃ x',μ x'<μ x∧g=G x'∧MF n.2 v h (E x') (H x')) Q g' e env' h'∧qL n c ρ' S' env' h' a' w'∧JS J A g' c ρ' S' h' w') s j (fun g' e env' h' ρ' S' a' w' hq s' j'=>⟨g',env',h',ρ',S',hq,s',j'⟩) b (.inLoop body::k) cs hro hb hr;obtain ⟨g',env',h',ρ',S',hq,s',j'⟩:=hq;cases e with
   | normal=>
    obtain ⟨x',hlt,rfl,L,h1,h2,h3,h4,h5⟩:=hq;have s2:qL n c (fun k=>ρ' (th L h'.length k)) S' (E x') (H x') a₁ w₁:=⟨s'.size,s'.defers,fun t x hx=>BC _ ρ' _ _ (s'.env t _ (h2.look t x hx)),s'.hs.sub h1 h3 h4 (fun i hi=>h5 i (s'.cm▸hi)),s'.cm⟩;obtain ⟨e₂,a₂,w₂,hq₂,harr₂⟩:=ih (μ x') (hx▸hlt) x' rfl _ S' a₁ w₁ s2 (JS.sub s'.hs h1 h3 j');exact ⟨e₂,a₂,w₂,hq₂,.of_steps (StepsIn.trans harr (.one (fenced_calm hb hr rfl) stepR_inLoop)) harr₂⟩
   | exit id=>exact ⟨_,a₁,w₁,hQ _ _ env' h' ρ' S' a₁ w₁ hq s' j',.pass (x:=.inLoop body) rfl (fun _ _=>.inl (by simp)) harr⟩
   | goto l=>exact ⟨_,a₁,w₁,hQ _ _ env' h' ρ' S' a₁ w₁ hq s' j',.pass (x:=.inLoop body) rfl (fun _ _=>.inl (by simp)) harr⟩
   | ret=>exact ⟨_,a₁,w₁,hQ _ _ env' h' ρ' S' a₁ w₁ hq s' j',.pass (x:=.inLoop body) rfl (fun _ _=>.inl (by simp)) harr⟩
   | panic ch=>exact ⟨_,a₁,w₁,hQ _ _ env' h' ρ' S' a₁ w₁ hq s' j',.pass (x:=.inLoop body) rfl (fun _ _=>.inl (by simp)) harr⟩
   | outgrown=>exact ⟨_,a₁,w₁,hQ _ _ env' h' ρ' S' a₁ w₁ hq s' j',.pass (x:=.inLoop body) rfl (fun _ _=>.inl (by simp)) harr⟩
 obtain ⟨e,a',w',hq,harr⟩:=key _ x0 rfl ρ S a w s0 j0;exact ⟨e,a',w',hq,.of_steps (.one (fenced_calm hb hr rfl) stepR_loop) harr⟩
theorem JH {id:Nat}{l:List Oper}(hv:VY P J A n l.toArray l g env h (fun g v h=>Q g .normal v h)):AY P J A n (.region id l.toArray false) g env h Q:=by
 intro c ρ S a w QQ s j hQ;exact wpIn_mono (wpIn_region_lit (hv c ρ S a w (fun e a w=>e = .normal∧QQ .normal a w) s j (fun e a w h=>h.1) fun g' env' h' ρ' S' a' w' k s' j'=>⟨rfl,hQ g' .normal env' h' ρ' S' a' w' k s' j'⟩)) fun e a w he=>by obtain ⟨rfl,h3⟩:=he;exact h3
end
theorem OT {F:Fence}{m:Nat}{P:Program}{o:Oper}{a:Act}{w:World}{K:Act→World→Prop}{Q Q':Exit→Act→World→Prop}(hq:∀ e a w,Q e a w→e = .normal) (h:o.wpIn F m P a w K Q):o.wpIn F m P a w K Q':=by
 refine ⟨h.1,?_⟩;have h:=h.2;have hp:∀ {ch a w} {p:Prop},Q (.panic ch) a w→p:=fun hh=>by have:=hq _ _ _ hh;cases this
 have ho:∀ {p:Prop},LetsOut Q→p:=fun ⟨_,_,hh⟩=>by have:=hq _ _ _ hh;cases this
 generalize (o.semAt F.round a.eval).run P w=r at h ⊢;cases r with
 | ok x w'=>
  cases x <;> simp only [Oper.uponIn] at h ⊢ <;>
   first
    | exact h
    | exact ⟨h.1,h.2.mono (fun e w'' he=>by cases e <;> first|exact he | exact hp he | exact ho he)⟩
 | halt x w'=>cases x <;> simp only [Oper.uponIn] at h ⊢ <;> first|exact h | exact hp h
theorem zH {F:Fence}{m:Nat}{P:Program}{ops:Array Oper}{Q:Exit→Act→World→Prop}{l2:List Oper}:∀ {l1:List Oper}{a:Act}{w:World},wpListIn F m P ops (fun e a w=>e = .normal∧wpListIn F m P ops Q l2 a w) l1 a w→wpListIn F m P ops Q (l1++l2) a w
 | [],_,_,h=>h.2
 | o::l1,a,w,h=>by
  show wpListIn F m P ops Q (o::(l1++l2)) a w;unfold wpListIn at h ⊢;split at h
  ·rename_i hw;rw [if_pos hw];exact OT (Q:=fun e a w=>e = .normal∧wpListIn F m P ops Q l2 a w) (fun e a w h=>h.1) (Oper.wpIn_mono (fun a w h=>zH h) h)
  ·rename_i hw;rw [if_neg hw];exact ⟨h.1,zH h.2⟩
section
variable {P:Program}{J:JT}{A:Nat→Prop}{n:Nat × Nat}{g:Nat × Bool}{ops:Array Oper}{env:eG}{h:Hp}{K:Nat × Bool→eG→Hp→Prop}
theorem zD5 {l1 l2:List Oper}(hJ:zV2 J) (hnd:nW l1=true) (hv:VC P n ops l1 env h (fun v h=>VY P J A n ops l2 g v h K)):VY P J A n ops (l1++l2) g env h K:=by
 intro c ρ S a w Q s ⟨W,N,j⟩ hq hQ;have hn:=hJ.lt j.j;refine zH (xT (fun e a w h=>h.1) hnd (hv (c.re w S N hn s.hs.ext.size) ρ S a w (fun e a w=>e = .normal∧wpListIn (rd c.r) 0 P ops Q l2 a w) (s.re j hn s.hs.ext.size) fun env' h' ρ' S' a' w' k s'=>⟨rfl,?_⟩));obtain ⟨h1,h2⟩:=s.un hJ j hn s.hs.ext.size s';exact k c ρ' S' a' w' Q h1 ⟨W,N,h2⟩ hq hQ
theorem zD4 (k:Nat){rest:List Oper}(hJ:zV2 J) (hv:VC P n ops (rest.take k) env h (fun v h=>VY P J A n ops (rest.drop k) g v h K)) (hnd:nW (rest.take k)=true:=by rfl):VY P J A n ops rest g env h K:=by
 have:=zD5 hJ hnd hv
 rwa [bK] at this
theorem yJ8 {rest:List Oper}(hJ:zV2 J) (hv:VC P n ops rest env h (fun v h=>K g v h)) (hnd:nW rest=true:=by rfl):VY P J A n ops rest g env h K:=by
 have:=zD5 (l1:=rest) (l2:=[]) (A:=A) (g:=g) (K:=K) hJ hnd (hv.mono fun e h k=>(fun c ρ S a w Q s j hq hQ=>hQ g e h ρ S a w k s j))
 rwa [List.append_nil] at this
theorem MY {d:Option Nat}{x:Operand}{l k N:Nat}{us:List AV}{args:List Operand}{ats:Array TypeId}{ty:TypeId}{pos:String}{af:Array Edge}{items:Nat→List AV}{rest:List Oper}(hJ:zV2 J) (hy:FZ P l J A items N) (hx:evu env x=some (.clo (.yield l) [] [])) (ha:C9 env args=some us) (hi:AV.idfL us=true) (hk:k<N) (hit:items k=us) (hd:GH d n=true)
  (hb:∀ b:Bool,VY P J A n ops rest (k+1,!b) (nE d (.b b) env) h K):VY P J A n ops (⟨d,.call { callee:=.value x,args:=args.toArray,argTypes:=ats },ty,pos,af,none⟩::rest) (k,false) env h K:=by
 intro c ρ S a w Q s ⟨W,Nn,j⟩ hq hQ;refine wpListIn_plain rfl fun K' hK'=>?_
 have p:=s.pre;have hxv:=p.evu hx;simp only [R,RL] at hxv;obtain ⟨ys,zs,e1,h1,h2⟩:=hxv;have e2:ys = #[]:=by cases ys;simp_all
 have e3:zs = #[]:=by cases zs;simp_all
 subst e2 e3;have hargs:=uR p ha;have hS1:∀ b,(S b∧Y7 w b)→A b∧¬ W b∧Y7 w b:=fun b hb=>⟨j.accS b hb.1,j.st b hb.1,hb.2⟩
 have hargs1:RL (fun b=>S b∧Y7 w b) w (items k) (fun _=>none) (args.map a.eval):=by
  rw [hit];exact xR ρ _ _ _ hi (lG (fun b cc e q1 q2=>⟨q1,cc,e,q2⟩) (fun _ _ _ h=>h) _ _ _ hargs)
 obtain ⟨fn,tmps,assign,body,hrun,hround⟩:=hy k hk W Nn w _ _ j.j hS1 hargs1;refine ⟨fun _ _=>trivial,?_⟩
 rw [EC rfl];have hr2:(execOp a.eval ⟨d,.call { callee:=.value x,args:=args.toArray,argTypes:=ats },ty,pos,af,none⟩).run P w = .ok (.round l fn tmps assign body) w:=by
  have e4:(#[]++(args.toArray.map a.eval))=(args.map a.eval).toArray:=by
   apply Array.ext';simp
  simp only [execOp,resolve,e1,Deferred.ofValue,Sem.run_bind,Sem.run_pure,Result.andThen_ok,invoke];rw [e4];exact hrun
 rw [hr2];refine ⟨fun h=>(by cases h),?_⟩
 have hround:RoundIn (rd c.r) (0-1) P l fn tmps assign body w _:=hround;refine hround.mono ?_;rintro e w' ⟨b,W',N',rfl,j1,hx,hW',hN'⟩;have hWlt:∀ b,W b→b<w.heap.size:=fun b hb=>hJ.lt j.j b (hJ.sub j.j b hb);obtain ⟨hs',l'⟩:=s.hs.world hx j.st (fun k y p a1 a2 a3 hw=>j.live k y p a1 a2 a3 (hJ.sub j.j _ hw)) (fun b _ hb=>j.wm b hb);refine hK' _ _ (hb b c ρ S (a.put d (.bool b)) w' Q ⟨by rw [mT];exact s.size,by rw [kN];exact s.defers.later l',xB s.size hd (fun t u hu=>(s.env t u hu).later l') (lN _),hs',s.cm⟩ ⟨W',N',j1,fun k y p a1 a2 a3 hn=>?_,fun b hb hw=>?_,fun b hb h1 h2=>?_,fun b hb=>?_,j.accS,j.accM,fun b hb=>?_⟩ hq hQ)
 ·rcases hN' _ hn with hn | hn | hn
  ·exact j.live k y p a1 a2 a3 hn
  ·exact (s.hs.live k y p a1 a2 a3).2 hn.1
  ·have:=s.hs.rng k p a3;omega
 ·rcases hW' _ hw with hw | hw
  ·exact j.st b hb hw
  ·have:=s.hs.stab b hb;omega
 ·have same:=hx.same b (s.hs.stab b hb) (j.st b hb);rcases hN' _ h2 with h2 | h2 | h2
  ·obtain ⟨cc,e,h4⟩:=j.cell b hb h1 h2;exact ⟨cc,e,by rw [same];exact h4⟩
  ·obtain ⟨cc,e,h4⟩:=h2.2;exact ⟨cc,e,by rw [same];exact h4⟩
  ·have:=s.hs.stab b hb;omega
 ·rcases hW' _ hb with hb | hb
  ·exact j.wm b hb
  ·exact c.new b (bL s.hs.ext.size hb)
 ·rcases hN' _ hb with hb | hb | hb
  ·exact j.nn b hb
  ·exact .inr (s.hs.st1 b hb.1)
  ·exact .inr (.inr (c.new b (bL s.hs.ext.size hb)))
end
def yH1 (w:World) (ρ:Pl) (S:Nat→Prop) (hit:Hp) (A:Nat→Prop) (hA:∀ b,w.heap.size≤b→A b):pS where
 w0:=w
 M:=A
 new:=hA
 S0:=S
 ρ0:=ρ
 m:=hit.length
 lo:=w.heap.size
 lole:=aX _
 r:=none
def GA (P:Program) (f:FuncId) (fs cs:List AV) (hit:Hp) (items:Nat→List AV) (N:Nat):Prop:=
  (∃ fn, P.funcs[f]? = some fn ∧ (fn.name == "runtime.NumGoroutine") = false ∧ fn.body.isNone = false) ∧
  ∀ (J:JT) (A:Nat→Prop) (l:Nat),zV2 J→FZ P l J A items N→∀ ρ S w vs W Nn (hA:∀ b,w.heap.size≤b→A b),HS (yH1 w ρ S hit A hA) ρ S hit w→RL S w (fs++[.clo (.yield l) [] []]++cs) ρ vs→J (0,false) W Nn w →
    (∀ (k:Nat) x p,hit[k]? = some x→x≠.gone→ρ k=some p→¬ Nn p.1)→(∀ b,S b→A b∧¬ W b)→(∀ b,W b→A b) →
    Calls P f vs.toArray w fun e w'=>∃ y g W' N',e = .returned y∧J g W' N' w'∧(g.2=false→g.1=N)
theorem Q8 {P:Program}{fn:Func}{tmps:Array Value}{RR:Ending→World→Prop}{c:pS}{ρ:Pl}{h:Hp}(hlo:c.w0.heap.size≤c.lo) (h0:∀ b,c.S0 b→b<c.w0.heap.size):∀ (D:List Nat) (S:Nat→Prop) (w:World),HS c ρ S h w→D.Nodup→(∀ b,b∈D→S b∧w.heap[b]? = some (.deferred (some []))∧c.lo≤b) →
  (∀ S' w',HS c ρ S' h w'→(∀ x y,R S w x ρ y→R S' w' x ρ y)→nD (fun b=>b∈D) w w'→∃ v,(results fn tmps).run P w' = .ok v w'∧RR (.returned v) w')→LeavesInM Fence.wide 0 P fn tmps RR (D.map yB4) .returning w
 | [],S,w,s,_,_,hk=>by
  have:=hk S w s (fun _ _ h=>h) (nD.refl _ _);simpa only [List.map_nil,LeavesInM,LeavesIn] using this
 | m::D,S,w,s,hnd,hD,hk=>by
  rw [fR] at hnd;obtain ⟨h1,h2,h3⟩:=hD m (by simp)
  obtain ⟨g1,g2⟩:=s.shut1 h2 (by omega) h1 h0
  simp only [List.map_cons,LeavesInM];refine ⟨by simp,.inl ⟨m,_,rfl,run_takeDeferred h2,Q8 hlo h0 D _ _ g1 hnd.2 (fun b hb=>?_) fun S' w' s' hr hx=>hk S' w' s' (fun x y hx=>hr x y (g2 x y hx)) ?_⟩⟩
  ·have hne:b≠m:=fun e=>hnd.1 (e▸hb);obtain ⟨q1,q2,q3⟩:=hD b (by simp [hb])
   exact ⟨⟨q1,hne⟩,by rw [rB hne];exact q2,q3⟩
  ·exact ((LL h2 (fun _ _ _ e=>by cases e)).mono fun b _ hb=>by simp [hb]).trans hx (fun b hb _=>by simp [hb])
theorem yL9 {P : Program} (T : pR P) {f : FuncId} {fn : Func} {code : Code} {n N : Nat} {fs cs : List AV} {hit : Hp} {items : Nat → List AV} (hf : P.funcs[f]? = some fn) (hb : fn.body = some code) (hnm : (fn.name == "runtime.NumGoroutine") = false) (hn : fn.ntmps = n) (ha : Nat.ble (fs.length + 1 + cs.length) n = true)
    (haw:∀ J A l,zV2 J→FZ P l J A items N→AY P J A (n,hit.length) code (0,false) (tA 0 (fs++[.clo (.yield l) [] []]++cs)) hit (fun g e v h=>(e = .ret∨e = .normal)∧(g.2=false→g.1=N)∧∃ xs,L4 T v h fn.results.toList=some xs)):GA P f fs cs hit items N:=by
  refine ⟨⟨fn,hf,hnm,by rw [hb];rfl⟩,?_⟩
  intro J A l hJ hy ρ S w vs W Nn hA hs hargs j0 hd1 hd2 hd3;have hlen:=fZ hargs;have hle:=aI ha;refine (callsIn_wide (n:=0)).1 (callsIn_of_wp_marks (F:=Fence.wide) hf hb trivial ?_ rfl);refine haw J A l hJ hy (yH1 w ρ S hit A hA) ρ S _ w _ ⟨?_,wG.nil rfl _ _,fun t x hx=>?_,hs,rfl⟩ ⟨W,Nn,j0,hd1,fun b hb=>(hd2 b hb).2,fun b hb hlo=>?_,hd3,fun b hb=>(hd2 b hb).1,fun b hb=>hb,fun _ _=>.inl trivial⟩ ?_
  · simp at hlen;simp [hn];omega
  · obtain ⟨_,h1⟩:=G4 hx;simp only [zU5] at h1;obtain ⟨y,h2,h3⟩:=sH hargs t x h1;have hlt:t<vs.length:=(aA.1 h2).1;have:(vs.toArray++Array.replicate (fn.ntmps-vs.toArray.size) undef).getD t undef=y:=by
      rw [eA,uA (by simpa using hlt)]
      simp [h2]
    rw [this];exact h3
  · have:=hs.stab b hb;have hlo:w.heap.size≤b:=hlo;omega
  · intro g e env' h' ρ' S' a' w' hq s ⟨W',N',j⟩;obtain ⟨he,hg,xs,h1⟩:=hq;obtain ⟨⟨D,hD1,hD2,hD3⟩,_⟩:=s.defers;have hl:LeavesInM Fence.wide 0 P fn a'.tmps (fun e w'=>∃ y g W' N',e=Ending.returned y∧J g W' N' w'∧(g.2=false→g.1=N)) a'.defers .returning w':=by
      rw [hD1];refine Q8 (c:=yH1 w ρ S hit A hA) (aX _) (fun b hb=>hs.stab b hb) D S' w' s.hs hD2 hD3 fun S2 w2 s2 hr hx=>?_
      obtain ⟨ys,h7,h8⟩:=wO T s2.blk (fun t x hx=>hr _ _ (s.env t x hx)) h1;have hm:(fn.results.mapM (yC a'.tmps)).run P w2 = .ok ys.toArray w2:=by
        rw [Array.mapM_eq_mapM_toList];simp only [Sem.run_map,h7,Result.andThen_ok]
      refine ⟨_,by rw [DL];simp only [Sem.run_bind,hm,Result.andThen_ok,Sem.run_pure];rfl,_,g,W',N',rfl,hJ.st j.j (hx.mono fun b _ hb hn=>?_),hg⟩
      obtain ⟨q1,q2,q3⟩:=hD3 b hb;obtain ⟨cc,e,q4⟩:=j.cell b q1 q3 hn;rw [q2] at q4;cases q4;cases e
    rcases he with rfl | rfl
    · exact hl
    · exact hl
mutual
def AV.low (m:Nat):AV→Bool
 | .v _ | .any | .row .. | .mrow .. | .pr ..=>true
 | .ptr k _ | .ep k _ _ _ | .sl k _ _ _ | .mp k=>Nat.blt k m
 | .agg cs | .tup cs=>AV.lowL m cs
 | .clo _ cs ds=>AV.lowL m cs&&AV.lowL m ds
 | .cond _ x=>AV.low m x
 | .ifc _ x=>AV.low m x
def AV.lowL (m:Nat):List AV→Bool
 | []=>true
 | x::xs=>AV.low m x&&AV.lowL m xs
end
theorem LR {k m:Nat}(h:Nat.blt k m=true):k<m:=aI h
mutual
theorem RH {S:Nat→Prop}{w:World}{ρ ρ':Pl}{m:Nat}(hρ:∀ k,k<m→ρ' k=ρ k):∀ (x:AV) (y:Value),x.low m=true→R S w x ρ y→R S w x ρ' y
 | .v x,y,_,h=>by simpa only [R] using h
 | .any,_,_,_=>by simp [R]
 | .pr cs off,y,_,h=>by simpa only [R] using h
 | .row cs len sz,y,_,h=>by simpa only [R] using h
 | .mrow ks vs,y,_,h=>by simpa only [R] using h
 | .ptr k off,y,hi,h=>by
  simp only [R,AV.low] at *;rw [hρ k (LR hi)];exact h
 | .ep k i off sz,y,hi,h=>by
  simp only [R,AV.low] at *;rw [hρ k (LR hi)];exact h
 | .sl k off len sz,y,hi,h=>by
  simp only [R,AV.low] at *;rw [hρ k (LR hi)];exact h
 | .mp k,y,hi,h=>by
  simp only [R,AV.low] at *;rw [hρ k (LR hi)];exact h
 | .agg cs,y,hi,h=>by
  simp only [R,AV.low] at *;obtain ⟨ys,h1,h2⟩:=h;exact ⟨ys,h1,FT hρ cs _ hi h2⟩
 | .tup cs,y,hi,h=>by
  simp only [R,AV.low] at *;obtain ⟨ys,h1,h2⟩:=h;exact ⟨ys,h1,FT hρ cs _ hi h2⟩
 | .clo f cs ds,y,hi,h=>by
  simp only [R,AV.low,aN] at *;obtain ⟨ys,zs,h1,h2,h3⟩:=h;exact ⟨ys,zs,h1,FT hρ cs _ hi.1 h2,FT hρ ds _ hi.2 h3⟩
 | .cond b x,y,hi,h=>by
  simp only [R,AV.low] at *;exact fun hb=>RH hρ x y hi (h hb)
 | .ifc t x,y,hi,h=>by
  simp only [R,AV.low] at *;obtain ⟨z,h1,h2⟩:=h;exact ⟨z,h1,RH hρ x z hi h2⟩
theorem FT {S:Nat→Prop}{w:World}{ρ ρ':Pl}{m:Nat}(hρ:∀ k,k<m→ρ' k=ρ k):∀ (xs:List AV) (ys:List Value),AV.lowL m xs=true→RL S w xs ρ ys→RL S w xs ρ' ys
 | [],ys,_,h=>by simpa only [RL] using h
 | x::xs,ys,hi,h=>by
  simp only [RL,AV.lowL,aN] at *;obtain ⟨y,zs,h1,h2,h3⟩:=h;exact ⟨y,zs,h1,RH hρ x y hi.1 h2,FT hρ xs zs hi.2 h3⟩
end
def zL3 (m:Nat):eG→Bool
 | []=>true
 | (_,x)::r=>x.low m&&zL3 m r
theorem Y5 {m:Nat}:∀ {env:eG},zL3 m env=true→∀ {t x},look env t=some x→x.low m=true
 | [],_,_,_,h=>by cases h
 | (k,u)::r,hl,t,x,h=>by
  simp only [zL3,aN] at hl;rw [iJ] at h;split at h
  ·cases h;exact hl.1
  ·exact Y5 hl.2 h
def tJ:List Nat→List AV→eG→eG
 | t::ts,x::xs,E=>tJ ts xs ((t,x)::E)
 | _,_,E=>E
def EK:Exit→Option Code
 | .ret=>some .ret
 | .exit id=>some (.exit id)
 | .goto t=>some (.goto t)
 | _=>none
theorem PV {S:Nat→Prop}{w:World}{ρ:Pl}:∀ (ts:List Nat) (xs:List AV) (vs:List Value) (E:eG) (tm:Array Value),(∀ t,t∈ts→t<tm.size)→RL S w xs ρ vs→(∀ t x,look E t=some x→R S w x ρ (tm.getD t undef))→ts.length=xs.length →
  ((ts.zip vs).foldl (fun tm (p:Nat × Value)=>tm.setIfInBounds p.1 p.2) tm).size=tm.size∧∀ t x,look (tJ ts xs E) t=some x→R S w x ρ (((ts.zip vs).foldl (fun tm (p:Nat × Value)=>tm.setIfInBounds p.1 p.2) tm).getD t undef)
 | [],_,_,E,tm,_,_,hE,_=>⟨rfl,by intro t x hx;simpa [tJ] using hE t x (by simpa [tJ] using hx)⟩
 | t0::ts,[],_,E,tm,_,_,hE,hl=>by simp at hl
 | t0::ts,x0::xs,vs,E,tm,hlt,hv,hE,hl=>by
  simp only [RL] at hv;obtain ⟨y,zs,rfl,h1,h2⟩:=hv;have h0:=hlt t0 (by simp)
  obtain ⟨h3,h4⟩:=PV ts xs zs ((t0,x0)::E) (tm.setIfInBounds t0 y) (fun t ht=>by simpa using hlt t (by simp [ht])) h2 (fun t x hx=>by
   rw [iJ] at hx;split at hx
   ·rename_i e;subst e;cases hx;simp [Array.getD,h0];exact h1
   ·rename_i e;have:=hE t x hx
    rwa [show (tm.setIfInBounds t0 y).getD t undef=tm.getD t undef by
     simp only [eA];rw [Array.getElem?_setIfInBounds_ne e]]) (by simpa using hl)
  exact ⟨by simpa using h3,fun t x hx=>by simpa [tJ] using h4 t x (by simpa [tJ] using hx)⟩
theorem TV {P:Program}{c:pS}{S:Nat→Prop}{l0:List Deferred}{w:World}(m:wG c S l0 w) (hS:∀ b,S b→b<w.heap.size) (hlo:c.lo≤w.heap.size) (fn:FuncId) (tmps:Array Value) (ps:Array Tmp) (assign body:Code) :
  ∃ (l bd:Nat) (mk:List Deferred) (w1:World) (T:Nat→Prop),(Instr.enterLoop fn tmps ps assign body c.r).run P w = .ok (l,mk) w1 ∧
   w1.heap[l]? = some (.loop { state:=.ready,pending:=none,fn:=fn,tmps:=tmps,params:=ps,assign:=assign,body:=body,defers:=bd })∧w.heap.size≤l∧l<w1.heap.size∧nD (fun _=>False) w w1 ∧
   (∀ b,T b→w.heap.size≤b∧b≠l∧b<w1.heap.size) ∧
   (∀ S' w',(∀ b,S b→S' b)→(∀ b,T b→S' b)→(∀ b,S b∨T b→w'.heap[b]? = w1.heap[b]?)→wG c S' (mk++l0) w'):=by
 obtain ⟨⟨D,hD1,hD2,hD3⟩,hr⟩:=m;cases hc:c.r with
 | none=>
  have hx:nD (fun _=>False) w ((w.alloc (.deferred (some []))).alloc (.loop { state:=.ready,pending:=none,fn:=fn,tmps:=tmps,params:=ps,assign:=assign,body:=body,defers:=w.heap.size })):=(oB w _ _).trans (oB _ _ (fun _=>False)) (fun _ h _=>h);refine ⟨w.heap.size+1,w.heap.size,[yB4 w.heap.size],_,fun b=>b=w.heap.size,run_enterLoop_outer _ _ _ _ _,?_,by omega,by simp,hx,fun b hb=>by subst hb;simp;omega,fun S' w' h1 h2 h3=>⟨⟨w.heap.size::D,by rw [hD1];rfl,?_,fun b hb=>?_⟩,fun q hq=>by rw [hc] at hq;cases hq⟩⟩
  ·have:=World.alloc_heap_new (w.alloc (.deferred (some []))) (.loop { state:=.ready,pending:=none,fn:=fn,tmps:=tmps,params:=ps,assign:=assign,body:=body,defers:=w.heap.size })
   rwa [World.size_alloc] at this
  ·rw [fR];exact ⟨fun hm=>by have:=hS _ (hD3 _ hm).1;omega,hD2⟩
  ·rcases bQ.1 hb with rfl | hb
   ·refine ⟨h2 _ rfl,?_,hlo⟩;rw [h3 _ (.inr rfl)];exact (RowKit.Below.heap_alloc _ _ _ (by simp)).trans (World.alloc_heap_new w _)
   ·obtain ⟨q1,q2,q3⟩:=hD3 b hb;exact ⟨h1 _ q1,by rw [h3 _ (.inl q1),hx.same b (hS b q1) (by simp)];exact q2,q3⟩
 | some q=>
  obtain ⟨hq1,r0,hq2⟩:=hr q hc;have hx:nD (fun _=>False) w (w.alloc (.loop { state:=.ready,pending:=none,fn:=fn,tmps:=tmps,params:=ps,assign:=assign,body:=body,defers:=r0.defers })):=oB w _ _;have hrun:(Instr.enterLoop fn tmps ps assign body (some q)).run P w = .ok (w.heap.size,[]) (w.alloc (.loop { state:=.ready,pending:=none,fn:=fn,tmps:=tmps,params:=ps,assign:=assign,body:=body,defers:=r0.defers })):=by
   unfold Instr.enterLoop;simp only [Sem.run_bind,run_getLoop hq2,run_newObj_alloc,Result.andThen,Sem.run_pure]
  refine ⟨w.heap.size,r0.defers,[],_,fun _=>False,hrun,World.alloc_heap_new w _,aX _,by simp,hx,fun b hb=>hb.elim,fun S' w' h1 h2 h3=>⟨⟨D,hD1,hD2,fun b hb=>?_⟩,fun q' hq'=>?_⟩⟩
  ·obtain ⟨q1,q2,q3⟩:=hD3 b hb;exact ⟨h1 _ q1,by rw [h3 _ (.inl q1),hx.same b (hS b q1) (by simp)];exact q2,q3⟩
  ·obtain ⟨g1,rec,g2⟩:=hr q' hq';exact ⟨h1 _ g1,rec,by rw [h3 _ (.inl g1),hx.same q' (hS q' g1) (by simp)];exact g2⟩
def JR (cA:pS) (l:Nat) (rec0:Loop) (E:eG) (HA:Nat→Hp) (Q:Exit→eG→Hp→Prop):JT:=fun g W N w=>
 ∃ ρ S hh rec,HS cA ρ S hh w∧w.heap[l]? = some (.loop rec)∧¬ S l∧(∀ (k:Nat) x p,hh[k]? = some x→x≠.gone→ρ k=some p→p.1≠l)∧(∀ b,W b↔lD hh ρ b∨b=l)∧(∀ b,N b↔lD hh ρ b∨S b∨b=l∨¬ cA.M b) ∧
  (g.2=false→hh=HA g.1∧rec=rec0)∧(g.2=true→∃ e cd,EK e=some cd∧rec={ rec0 with state:=.done,pending:=some cd }∧Q e E hh)
section
variable {cA:pS}{l:Nat}{rec0:Loop}{E:eG}{HA:Nat→Hp}{Q:Exit→eG→Hp→Prop}
theorem yY5:zV2 (JR cA l rec0 E HA Q):=by
 refine ⟨fun {g W N w w'} j x=>?_,fun {g W N w} j b hb=>?_,fun {g W N w} j b hb=>?_⟩
 ·obtain ⟨ρ,S,hh,rec,s,h1,h2,h3,h4,h5,h6⟩:=j;obtain ⟨s',_⟩:=s.world x (fun b hb h=>h ((h5 b).2 (.inr (.inl hb)))) (fun k y p a1 a2 a3 h=>h ((h5 _).2 (.inl ⟨k,y,p.2,a1,a2,a3⟩))) (fun b hb hn=>Classical.byContradiction fun hM=>hn ((h5 b).2 (.inr (.inr (.inr hM)))));exact ⟨ρ,S,hh,rec,s',by rw [x.same l (aJ.1 h1).1 (fun h=>h ((h5 l).2 (.inr (.inr (.inl rfl)))))];exact h1,h2,h3,h4,h5,h6⟩
 ·obtain ⟨ρ,S,hh,rec,s,h1,h2,h3,h4,h5,h6⟩:=j;exact (h5 b).2 (((h4 b).1 hb).elim .inl fun h=>.inr (.inr (.inl h)))
 ·obtain ⟨ρ,S,hh,rec,s,h1,h2,h3,h4,h5,h6⟩:=j;rcases (h5 b).1 hb with ⟨k,x,o,_,_,hp⟩ | hb | rfl | hb
  ·exact s.rng k _ hp
  ·exact s.stab b hb
  ·exact (aJ.1 h1).1
  ·apply Classical.byContradiction;intro hge;exact hb (cA.new b (by have:=s.ext.size;omega))
def QR (m0:Nat) (E:eG) (HA:Nat→Hp) (Q:Exit→eG→Hp→Prop) (k:Nat):Exit→eG→Hp→Prop
 | .normal,v,h=>MF m0 v h [] (HA (k+1))
 | e,v,h=>(∃ cd,EK e=some cd)∧∃ hx,MF m0 v h [] hx∧Q e E hx
theorem OC {P:Program}{n1 m0:Nat}{items:Nat→List AV}{N:Nat}{ps:List Nat}(hm:cA.m=m0) (hMl:cA.M l) (hS0l:¬ cA.S0 l) (hS0:∀ b,cA.S0 b→b<cA.w0.heap.size∧¬ cA.M b) (hst:rec0.state = .ready) (hpe:rec0.pending=none) (hps:rec0.params=ps.toArray)
  (hsz:rec0.tmps.size=n1) (hpl:∀ t,t∈ps→t<n1) (hit:∀ k,k<N→(items k).length=ps.length∧AV.idfL (items k)=true)
  (hE:∀ t x,look E t=some x→R cA.S0 cA.w0 x cA.ρ0 (rec0.tmps.getD t undef)) (hlow:zL3 m0 E=true)
  (hround:∀ k,k<N→AW P (n1,m0) rec0.assign (tJ ps (items k) E) (HA k) (fun e v h=>e = .normal∧AW P (n1,m0) rec0.body v h (QR m0 E HA Q k))) :
  FZ P l (JR cA l rec0 E HA Q) (fun b=>cA.S0 b∨cA.M b) items N:=by
 intro k hk W Nn w Sb vs j hSb hv;obtain ⟨ρ,S,hh,rec,s,hl,hSl,hll,hW,hN,hg,_⟩:=j;obtain ⟨rfl,rfl⟩:=hg rfl;dsimp only at s hll hW hN;have hlt:l<w.heap.size:=(aJ.1 hl).1;have hvl:=fZ hv;obtain ⟨hil,hiidf⟩:=hit k hk
 -- what no longer changes,in a round
 have hS2lt:∀ b,(S b∨Sb b∨b=l)→b<w.heap.size:=fun b hb=>by
  rcases hb with hb | hb | rfl
  ·exact s.stab b hb
  ·obtain ⟨_,_,cc,e,h⟩:=hSb b hb;exact (aJ.1 h).1
  ·exact hlt
 have hlive:∀ (q:Nat) y p,(HA k)[q]? = some y→y≠.gone→ρ q=some p→lD (HA k) ρ p.1:=fun q y p a1 a2 a3=>⟨q,y,p.2,a1,a2,a3⟩
 have hS2live:∀ (q:Nat) y p,(HA k)[q]? = some y→y≠.gone→ρ q=some p→¬ (S p.1∨Sb p.1∨p.1=l):=fun q y p a1 a2 a3 hb=>by
  rcases hb with hb | hb | hb
  ·exact (s.live q y p a1 a2 a3).2 hb
  ·exact (hSb _ hb).2.1 ((hW _).2 (.inl (hlive q y p a1 a2 a3)))
  ·exact hll q y p a1 a2 a3 hb
 have s2:HS cA ρ (fun b=>S b∨Sb b∨b=l) (HA k) w:=s.more (fun _ h=>.inl h) hS2lt hS2live (fun b hb=>by
  rcases hb with hb | hb | rfl
  ·exact s.st1 b hb
  ·exact (hSb b hb).1
  ·exact .inr hMl)
 let cR:pS:={ w0:=w,M:=fun b=>lD (HA k) ρ b∨w.heap.size≤b,new:=fun b hb=>.inr hb,S0:=fun b=>S b∨Sb b∨b=l,ρ0:=cA.ρ0,m:=cA.m,lo:=w.heap.size,lole:=aX _,r:=some l }
 have sR:HS cR ρ (fun b=>S b∨Sb b∨b=l) (HA k) w:=s2.re cR (fun q y p a1 a2 a3=>.inl (hlive q y p a1 a2 a3)) (nD.refl _ _) (fun _ h=>h) (fun _ h=>.inl h) s2.mle s2.keep;have hMnl:¬ (lD (HA k) ρ l∨w.heap.size≤l):=fun h=>by
  rcases h with ⟨q,y,o,a1,a2,a3⟩ | h
  ·exact hll q y _ a1 a2 a3 rfl
  ·omega
 -- the frame
 have hE2:∀ t x,look E t=some x→R (fun b=>S b∨Sb b∨b=l) w x ρ (rec.tmps.getD t undef):=fun t x hx=>by
  have h1:=RH (ρ':=ρ) (m:=m0) (fun q hq=>s.keep q (by omega)) x _ (Y5 hlow hx) (hE t x hx)
  exact oN (fun b hb=>.inl (s.st0 b hb)) (fun b hb=>s.ext.same b (hS0 b hb).1 (hS0 b hb).2) x ρ ρ _ (fun _ _ h=>h) (fun _ _ _ _ _ hr=>s.ext.room hr) h1
 have hv2:RL (fun b=>S b∨Sb b∨b=l) w (items k) ρ vs:=xR _ _ _ _ hiidf (mG (fun b hb=>.inr (.inl hb)) (fun _ _=>rfl) _ _ _ _ (fun _ _ h=>h) (fun _ _ _ _ _ h=>h) hv);obtain ⟨hf1,hf2⟩:=PV ps (items k) vs E rec.tmps (fun t ht=>by rw [hsz];exact hpl t ht) hv2 hE2 hil.symm
 have hfold:(rec.params.zip vs.toArray).foldl (fun tmps (x:Nat × Value)=>tmps.setIfInBounds x.1 x.2) rec.tmps=(ps.zip vs).foldl (fun tm (p:Nat × Value)=>tm.setIfInBounds p.1 p.2) rec.tmps:=by
  rw [hps,← Array.foldl_toList];congr 1;simp
 refine ⟨rec.fn,_,rec.assign,rec.body,run_yield hl (by rw [hps];simp [hvl,hil]),?_⟩
 rw [show (rec.params.zip vs.toArray).foldl (fun tmps (x:Tmp × Value)=>match x with | (t,a)=>tmps.setIfInBounds t a) rec.tmps=(ps.zip vs).foldl (fun tm (p:Nat × Value)=>tm.setIfInBounds p.1 p.2) rec.tmps from hfold]
 refine roundIn_of_wpIn (F:=Fence.wide) trivial ?_;refine hround k hk cR ρ _ ⟨_,[]⟩ w _ ⟨by rw [hf1];exact hsz,⟨⟨[],rfl,eM,fun _ h=>by cases h⟩,fun q hq=>?_⟩,hf2,sR,hm⟩ ?_
 ·cases hq;exact ⟨.inr (.inr rfl),rec,hl⟩
 intro e env' h' ρ' S' a' w' hq s';obtain ⟨rfl,hbody⟩:=hq;have x1:nD cR.M w w':=s'.hs.ext;have hl1:w'.heap[l]? = some (.loop rec):=by rw [x1.same l hlt hMnl];exact hl
 refine ⟨_,run_beginRound hl1 hst,?_⟩;generalize hb1:({ rec with state:=.busy }:Loop)=recb
 -- the record is busy
 have hS'l:S' l:=s'.hs.st0 l (.inr (.inr rfl))
 let cZ:pS:={ w0:=w,M:=fun b=>(lD (HA k) ρ b∨w.heap.size≤b)∨b=l,new:=fun b hb=>.inl (.inr hb),S0:=fun b=>S b∨Sb b,ρ0:=cA.ρ0,m:=cA.m,lo:=w.heap.size,lole:=aX _,r:=some l }
 have hZ0:¬ cZ.S0 l:=fun h=>by
  rcases h with h | h
  ·exact hSl h
  ·exact (hSb _ h).2.1 ((hW l).2 (.inr rfl))
 have hst1:∀ b,S' b→cZ.S0 b∨cZ.M b:=fun b hb=>by
  rcases s'.hs.st1 b hb with (h | h | h) | h
  ·exact .inl (.inl h)
  ·exact .inl (.inr h)
  ·exact .inr (.inr h)
  ·exact .inr (.inl h)
 have sZ:HS cZ ρ' S' h' w':=s'.hs.re cZ (fun q y p a1 a2 a3=>.inl (s'.hs.live q y p a1 a2 a3).1) (x1.mono fun b _ hb=>.inl hb) (fun b hb=>s'.hs.st0 b (by rcases hb with hb | hb;exact .inl hb;exact .inr (.inl hb))) hst1 s'.hs.mle s'.hs.keep
 obtain ⟨sP,hP⟩:=sZ.put hl1 (fun _ _ _ e=>by cases e) rfl (.loop recb) (fun _=>.inr rfl) hZ0
 have hsz2:w.heap.size≤(w'.putObj l (.loop recb)).heap.size:=by rw [World.putObj_size];exact x1.size
 let cB:pS:={ w0:=w'.putObj l (.loop recb),M:=fun b=>lD (HA k) ρ b∨w.heap.size≤b,new:=fun b hb=>.inr (bL hsz2 hb),S0:=S',ρ0:=cA.ρ0,m:=cA.m,lo:=w.heap.size,lole:=hsz2,r:=some l }
 have sM:HS cZ ρ' S' h' (w'.putObj l (.loop recb)):=sP.more (fun b hb=>hb.1) (fun b hb=>by rw [World.putObj_size];exact s'.hs.stab b hb) (fun q y p a1 a2 a3=>(s'.hs.live q y p a1 a2 a3).2) hst1
 have sB:HS cB ρ' S' h' (w'.putObj l (.loop recb)):=sM.re cB (fun q y p a1 a2 a3=>(s'.hs.live q y p a1 a2 a3).1) (nD.refl _ _) (fun _ h=>h) (fun _ h=>.inl h) s'.hs.mle s'.hs.keep;have hl2:(w'.putObj l (.loop recb)).heap[l]? = some (.loop recb):=World.putObj_heap_same (aJ.1 hl1).1;have hmarks:wG cB S' a'.defers (w'.putObj l (.loop recb)):=by
  obtain ⟨⟨D,d1,d2,d3⟩,_⟩:=s'.defers;refine ⟨⟨D,d1,d2,fun b hb=>?_⟩,fun q hq=>?_⟩
  ·obtain ⟨q1,q2,q3⟩:=d3 b hb;exact ⟨q1,by rw [rB (fun e=>by rw [e,hl1] at q2;cases q2)];exact q2,q3⟩
  ·cases hq;exact ⟨hS'l,recb,hl2⟩
 refine hbody cB ρ' S' a' _ _ ⟨s'.size,hmarks,fun t x hx=>xH1 (fun b hb=>hb.1) (hP _ _ (s'.env t x hx)),sB,hm⟩ ?_;intro e env3 h3 ρ3 S3 a3 w3 hq3 s3;have x2:nD (fun b=>b=l) w' (w'.putObj l (.loop recb)):=LL hl1 (fun _ _ _ e=>by cases e)
 have x3:nD cB.M (w'.putObj l (.loop recb)) w3:=s3.hs.ext;have hl3:w3.heap[l]? = some (.loop recb):=by rw [x3.same l (aJ.1 hl2).1 hMnl];exact hl2
 have x13:nD cZ.M w w3:=((x1.mono fun b _ hb=>.inl hb).trans (x2.mono fun b _ hb=>.inr hb) (fun _ h _=>h)).trans (x3.mono fun b _ hb=>.inl hb) (fun _ h _=>h)
 -- the round's end,whichever way
 have fin:∀ (jump:Option Code) (hx:Hp),MF m0 env3 h3 [] hx→((jump=none∧hx=HA (k+1))∨∃ e cd,EK e=some cd∧jump=some cd∧Q e E hx) →
   ∃ v w4,(Instr.endRound l jump).run P w3 = .ok v w4∧∃ (b:Bool) (W' N':Nat→Prop),Ending.returned v = .returned (.bool b)∧JR cA l rec E HA Q (k+1,!b) W' N' w4∧nD W w w4∧(∀ x,W' x→W x∨w.heap.size≤x)∧(∀ x,N' x→Nn x∨Sb x∨w.heap.size≤x):=by
  intro jump hx hsub hj;obtain ⟨L,q1,_,q3,q4,q5⟩:=hsub;have s4:HS cB (fun k=>ρ3 (th L h3.length k)) S3 hx w3:=s3.hs.sub q1 q3 q4 (fun i hi=>q5 i (by have hi:i<cA.m:=hi;omega))
  have RY:∀ b,S3 b→cZ.S0 b∨cZ.M b:=fun b hb=>by
   rcases s3.hs.st1 b hb with h | h
   ·exact hst1 b h
   ·exact .inr (.inl h)
  have s5:HS cZ (fun k=>ρ3 (th L h3.length k)) S3 hx w3:=s4.re cZ (fun q y p a1 a2 a3=>.inl (s4.live q y p a1 a2 a3).1) x13 (fun b hb=>s3.hs.st0 b (s'.hs.st0 b (by rcases hb with hb | hb;exact .inl hb;exact .inr (.inl hb)))) RY s4.mle s4.keep
  obtain ⟨s6,_⟩:=s5.put hl3 (fun _ _ _ e=>by cases e) rfl (.loop { recb with state:=if jump.isNone then .ready else .done,pending:=jump }) (fun _=>.inr rfl) hZ0
  have hZA:∀ b,cZ.M b→cA.M b:=fun b hb=>by
   rcases hb with (⟨q,y,o,a1,a2,a3⟩ | hb) | rfl
   ·exact (s.live q y _ a1 a2 a3).1
   ·exact cA.new b (bL s.ext.size hb)
   ·exact hMl
  have s7:=s6.re cA (fun q y p a1 a2 a3=>hZA _ (s6.live q y p a1 a2 a3).1) (s.ext.trans s6.ext fun b hb _=>hZA b hb) (fun b hb=>⟨s3.hs.st0 b (s'.hs.st0 b (.inl (s.st0 b hb))),fun e=>hS0l (e▸hb)⟩) (fun b hb=>by
   rcases RY b hb.1 with (h | h) | h
   ·exact s.st1 b h
   ·exact (hSb b h).1
   ·exact .inr (hZA b h)) s6.mle s6.keep
  have hZW:∀ b,cZ.M b→W b∨w.heap.size≤b:=fun b hb=>by
   rcases hb with (hb | hb) | rfl
   ·exact .inl ((hW b).2 (.inl hb))
   ·exact .inr hb
   ·exact .inl ((hW _).2 (.inr rfl))
  have hWN:∀ b,W b→Nn b:=fun b hb=>(hN b).2 (((hW b).1 hb).elim .inl fun h=>.inr (.inr (.inl h)));have hS3l:S3 l:=s3.hs.st0 l hS'l;refine ⟨_,_,run_endRound jump hl3,jump.isNone,fun b=>lD hx (fun k=>ρ3 (th L h3.length k)) b∨b=l,fun b=>lD hx (fun k=>ρ3 (th L h3.length k)) b∨(S3 b∧b≠l)∨b=l∨¬ cA.M b,rfl,?_,?_,fun b hb=>?_,fun b hb=>?_⟩
  ·refine ⟨_,_,hx,_,s7,World.putObj_heap_same (aJ.1 hl3).1,fun h=>h.2 rfl,fun q y p a1 a2 a3 e=>(s4.live q y p a1 a2 a3).2 (e▸hS3l),fun b=>Iff.rfl,fun b=>Iff.rfl,fun h=>?_,fun h=>?_⟩
   ·rcases hj with ⟨rfl,rfl⟩ | ⟨e,cd,_,rfl,_⟩
    ·refine ⟨rfl,?_⟩;rw [← hb1];cases rec;simp only at hst hpe;subst hst hpe;rfl
    ·cases h
   ·rcases hj with ⟨rfl,rfl⟩ | ⟨e,cd,he,rfl,hq⟩
    ·cases h
    ·exact ⟨e,cd,he,by rw [← hb1];rfl,hq⟩
  ·exact s6.ext.mono fun b hb hm=>by
    rcases hZW b hm with h | h
    ·exact h
    ·have hb:b<w.heap.size:=hb;omega
  ·rcases hb with ⟨q,y,o,a1,a2,a3⟩ | rfl
   ·exact hZW _ (s6.live q y _ a1 a2 a3).1
   ·exact .inl ((hW _).2 (.inr rfl))
  ·rcases hb with ⟨q,y,o,a1,a2,a3⟩ | hb | rfl | hb
   ·exact (hZW _ (s6.live q y _ a1 a2 a3).1).elim (fun h=>.inl (hWN _ h)) fun h=>.inr (.inr h)
   ·rcases RY b hb.1 with (h | h) | h
    ·exact .inl ((hN b).2 (.inr (.inl h)))
    ·exact .inr (.inl h)
    ·exact (hZW _ h).elim (fun h=>.inl (hWN _ h)) fun h=>.inr (.inr h)
   ·exact .inl ((hN _).2 (.inr (.inr (.inl rfl))))
   ·exact .inl ((hN b).2 (.inr (.inr (.inr hb))))
 cases e with
 | normal=>exact fin none _ hq3 (.inl ⟨rfl,rfl⟩)
 | ret=>
  obtain ⟨_,hx,hs,hq⟩:=hq3;exact fin (some .ret) hx hs (.inr ⟨.ret,.ret,rfl,rfl,hq⟩)
 | exit id=>
  obtain ⟨_,hx,hs,hq⟩:=hq3;exact fin (some (.exit id)) hx hs (.inr ⟨.exit id,.exit id,rfl,rfl,hq⟩)
 | goto t=>
  obtain ⟨_,hx,hs,hq⟩:=hq3;exact fin (some (.goto t)) hx hs (.inr ⟨.goto t,.goto t,rfl,rfl,hq⟩)
 | panic ch=>
  obtain ⟨⟨cd,hcd⟩,_⟩:=hq3;cases hcd
 | outgrown=>
  obtain ⟨⟨cd,hcd⟩,_⟩:=hq3;cases hcd
end
theorem wL.live {θ:Nat→Nat}{h h':Hp}{ρ:Pl}(hs:wL θ h 0 h'){k:Nat}{x:AB}{p:Nat × Nat}(hx:h'[k]? = some x) (hg:x≠.gone) (hp:ρ (θ k)=some p):∃ y,h[θ k]? = some y∧y≠.gone:=by
 have:=hs.get k x hx;rw [Nat.zero_add] at this;exact ⟨_,this.resolve_left hg,by cases x <;> simp [AB.map] at *⟩
theorem zE1 {L:List Nat}{N k:Nat}(hk:k<L.length):th L N k∈L:=by
 unfold th;rw [aB hk];exact aO hk
theorem yC4 {P:Program}{r:Option Nat}{Q:Exit→Act→World→Prop}{a:Act}{w:World}{e:Exit}{cd:Code}(h:EK e=some cd) (hq:Q e a w):cd.wpIn (rd r) 0 P Q a w:=by
 cases e <;> simp [EK] at h <;> subst h
 ·exact wpIn_exit hq
 ·exact wpIn_goto hq
 ·exact wpIn_ret hq
theorem QV {P:Program}{n:Nat × Nat}{env:eG}{h:Hp}{Q:Exit→eG→Hp→Prop}{g:Operand}{ps:List Nat}{assign body:Code}{f:FuncId}{fs cs fs' cs':List AV}{hit:Hp}{items:Nat→List AV}{N:Nat}
  (LI LA:List Nat) (E:eG) (HA:Nat→Hp) (m0:Nat) (hx:evu env g=some (.clo (.func f) fs cs)) (hI:GA P f fs' cs' hit items N)
  (hfs:AV.mapL (th LI h.length) fs'=fs) (hcs:AV.mapL (th LI h.length) cs'=cs) (hLI:LI.length=hit.length) (hHI:wL (th LI h.length) h 0 hit) (hIn:LI.Nodup)
  (hLA:LA.length=(HA 0).length) (hEA:UP (th LA h.length) env E) (hHA:wL (th LA h.length) h 0 (HA 0)) (hAn:LA.Nodup) (hAk:∀ i,i<n.2→LA[i]? = some i) (hdis:∀ x,x∈LI→x∉LA) (hn2:n.2≤m0) (hm0:m0≤(HA 0).length)
  (hlow:zL3 m0 E=true) (hpl:∀ t,t∈ps→t<n.1) (hit':∀ k,k<N→(items k).length=ps.length∧AV.idfL (items k)=true)
  (hround:∀ k,k<N→AW P (n.1,m0) assign (tJ ps (items k) E) (HA k) (fun e v h=>e = .normal∧AW P (n.1,m0) body v h (QR m0 E HA Q k)))
  (hafter:Q .normal E (HA N)):AW P n (.rangeFunc g ps.toArray assign body) env h Q:=by
 intro c ρ S a w QQ s hQ;have p:=s.pre;refine wpIn_rangeFunc fun fn _=>?_
 have hlo:c.lo≤w.heap.size:=bL c.lole s.hs.ext.size;obtain ⟨l,bd,mk,w1,T,henter,hl1,hlw,hll1,x01,hT,hmk⟩:=TV (P:=P) s.defers s.hs.stab hlo fn a.tmps ps.toArray assign body
 -- the function's value
 have hxv:=p.evu hx;simp only [R] at hxv;obtain ⟨ys,zs,e1,hy1,hz1⟩:=hxv
 let ρA:Pl:=fun k=>ρ (th LA h.length k)
 let ρI:Pl:=fun k=>ρ (th LI h.length k)
 have hMnew:∀ b,w1.heap.size≤b→lD h ρ b∨(w.heap.size≤b∧¬ T b):=fun b hb=>.inr ⟨bL x01.size hb,fun ht=>by have:=(hT b ht).2.2;omega⟩
 let cA:pS:={ w0:=w1,M:=fun b=>lD h ρ b∨(w.heap.size≤b∧¬ T b),new:=hMnew,S0:=fun b=>S b∨T b,ρ0:=ρA,m:=m0,lo:=c.lo,lole:=bL hlo x01.size,r:=some l }
 have hlnT:¬ T l:=fun ht=>(hT l ht).2.1 rfl;have hlnS:∀ b,S b→b≠l:=fun b hb e=>by have:=s.hs.stab b hb;omega
 -- the caller's objects,aZ the rounds keep them
 have hsA0:HS c ρA S (HA 0) w:=s.hs.sub hLA hHA hAn (fun i hi=>hAk i (s.cm▸hi));obtain ⟨hsA1,later1⟩:=hsA0.world x01 (fun _ _ h=>h) (fun _ _ _ _ _ _ h=>h) (fun _ _ h=>h.elim);have liveA:∀ (k:Nat) x q,(HA 0)[k]? = some x→x≠.gone→ρA k=some q→lD h ρ q.1:=fun k x q a1 a2 a3=>by
  obtain ⟨y,b1,b2⟩:=hHA.live (ρ:=ρ) a1 a2 a3;exact ⟨_,y,q.2,b1,b2,a3⟩
 have liveI:∀ (k:Nat) x q,hit[k]? = some x→x≠.gone→ρI k=some q→lD h ρ q.1:=fun k x q a1 a2 a3=>by
  obtain ⟨y,b1,b2⟩:=hHI.live (ρ:=ρ) a1 a2 a3;exact ⟨_,y,q.2,b1,b2,a3⟩
 have liveLt:∀ b,lD h ρ b→b<w.heap.size:=fun b ⟨k,x,o,_,_,hp⟩=>s.hs.rng k _ hp
 have liveS:∀ b,lD h ρ b→¬ S b:=fun b ⟨k,x,o,a1,a2,a3⟩=>(s.hs.live k x _ a1 a2 a3).2
 have hsA2:HS c ρA (fun b=>S b∨T b) (HA 0) w1:=hsA1.more (fun _ h=>.inl h) (fun b hb=>by
  rcases hb with hb | hb
  ·exact hsA1.stab b hb
  ·exact (hT b hb).2.2) (fun k x q a1 a2 a3 hb=>by
  have h1:=liveA k x q a1 a2 a3;rcases hb with hb | hb
  ·exact liveS _ h1 hb
  ·have:=(hT _ hb).1;have:=liveLt _ h1;omega) (fun b hb=>by
  rcases hb with hb | hb
  ·exact s.hs.st1 b hb
  ·exact .inr (c.new b (bL s.hs.ext.size (hT b hb).1)))
 have hsA:HS cA ρA (fun b=>S b∨T b) (HA 0) w1:=hsA2.re cA (fun k x q a1 a2 a3=>.inl (liveA k x q a1 a2 a3)) (nD.refl _ _) (fun _ h=>h) (fun _ h=>.inl h) hm0 (fun _ _=>rfl)
 -- the record
 obtain ⟨rec0,hrec⟩:∃ rec0:Loop,rec0={ state:=.ready,pending:=none,fn:=fn,tmps:=a.tmps,params:=ps.toArray,assign:=assign,body:=body,defers:=bd }:=⟨_,rfl⟩;rw [← hrec] at hl1;have hSA:∀ b,(S b∨T b)→b<w1.heap.size∧¬ (lD h ρ b∨(w.heap.size≤b∧¬ T b)):=fun b hb=>by
  rcases hb with hb | hb
  ·refine ⟨eC (s.hs.stab b hb) x01.size,fun hm=>?_⟩
   rcases hm with hm | hm
   ·exact liveS b hm hb
   ·have:=s.hs.stab b hb;omega
  ·refine ⟨(hT b hb).2.2,fun hm=>?_⟩
   rcases hm with hm | hm
   ·have:=liveLt b hm;have:=(hT b hb).1;omega
   ·exact hm.2 hb
 have hMl:cA.M l:=.inr ⟨hlw,hlnT⟩;have hS0l:¬ cA.S0 l:=fun h=>by
  rcases h with h | h
  ·exact hlnS l h rfl
  ·exact hlnT h
 have henvE:∀ t x,look E t=some x→R (fun b=>S b∨T b) w1 x ρA (a.tmps.getD t undef):=fun t x hx=>by
  have h1:=BC _ ρ _ _ (s.env t _ (hEA.look t x hx));exact xH1 (fun _ h=>.inl h) (h1.later later1)
 have hyield:FZ P l (JR cA l rec0 E HA Q) (fun b=>cA.S0 b∨cA.M b) items N:=by
  refine OC (cA:=cA) (n1:=n.1) (m0:=m0) (ps:=ps) rfl hMl hS0l hSA (by rw [hrec]) (by rw [hrec]) (by rw [hrec]) (by rw [hrec];exact s.size) hpl hit' (fun t x hx=>by rw [hrec];exact henvE t x hx) hlow (fun k hk=>by rw [hrec];exact hround k hk)
 have hJok:zV2 (JR cA l rec0 E HA Q):=yY5
 let W0:Nat→Prop:=fun b=>lD (HA 0) ρA b∨b=l
 let N0:Nat→Prop:=fun b=>lD (HA 0) ρA b∨(S b∨T b)∨b=l∨¬ cA.M b
 have hJ0:JR cA l rec0 E HA Q (0,false) W0 N0 w1:=⟨ρA,_,HA 0,rec0,hsA,hl1,hS0l,fun k x q a1 a2 a3 e=>by have:=liveLt _ (liveA k x q a1 a2 a3);omega,fun b=>Iff.rfl,fun b=>Iff.rfl,fun _=>⟨rfl,rfl⟩,fun h=>by cases h⟩
 -- the iterator's call
 have hAnew:∀ b,w1.heap.size≤b→cA.S0 b∨cA.M b:=fun b hb=>.inr (hMnew b hb)
 let c0:pS:={ w0:=w,M:=fun b=>lD h ρ b∨w.heap.size≤b,new:=fun b hb=>.inr hb,S0:=S,ρ0:=fun _=>none,m:=0,lo:=w.heap.size,lole:=aX _,r:=none }
 have hs0:HS c0 ρ S h w:=s.hs.re c0 (fun k x q a1 a2 a3=>.inl ⟨k,x,q.2,a1,a2,a3⟩) (nD.refl _ _) (fun _ h=>h) (fun _ h=>.inl h) (bZ _) (fun k hk=>absurd hk (eV _));have hsI0:HS c0 ρI S hit w:=hs0.sub hLI hHI hIn (AM);obtain ⟨hsI1,_⟩:=hsI0.world x01 (fun _ _ h=>h) (fun _ _ _ _ _ _ h=>h) (fun _ _ h=>h.elim);have hsI:HS (yH1 w1 ρI S hit (fun b=>cA.S0 b∨cA.M b) hAnew) ρI S hit w1:=hsI1.re _ (fun k x q a1 a2 a3=>.inr (.inl (liveI k x q a1 a2 a3))) (nD.refl _ _) (fun _ h=>h) (fun _ h=>.inl h) (aX _) (fun _ _=>rfl);have hargs:RL S w1 (fs'++[.clo (.yield l) [] []]++cs') ρI (ys.toList++[Value.func (.yield l) #[] #[]]++zs.toList):=by
  have lI:iF ρI ρI S S w w1:=⟨fun _ _ h=>h,fun _ h=>h,fun b hb=>x01.same b (s.hs.stab b hb) (fun h=>h),fun _ _ _ _ _ hr=>x01.room hr⟩
  rw [← hfs] at hy1;rw [← hcs] at hz1;exact iT (iT ((qY _ ρ _ _ hy1).later lI) (by simp only [RL];exact ⟨_,_,rfl,by simp only [R,RL];exact ⟨#[],#[],rfl,rfl,rfl⟩,rfl⟩)) ((qY _ ρ _ _ hz1).later lI)
 have hcall:=hI.2 _ _ l hJok hyield ρI S w1 _ W0 N0 hAnew hsI hargs hJ0 (fun k x q a1 a2 a3 hn=>by
  have hlv:=liveI k x q a1 a2 a3;rcases hn with ⟨k',x',o',b1,b2,b3⟩ | hn | hn | hn
  ·obtain ⟨y,d1,d2⟩:=hHI.live (ρ:=ρ) a1 a2 a3;obtain ⟨y',d3,d4⟩:=hHA.live (ρ:=ρ) b1 b2 b3;have he:=s.hs.inj _ _ _ _ _ _ d1 d3 d2 d4 a3 b3 rfl;have hkI:k<LI.length:=by rw [hLI];exact (aA.1 a1).1
   have hkA:k'<LA.length:=by rw [hLA];exact (aA.1 b1).1
   exact hdis _ (zE1 (N:=h.length) hkI) (he▸zE1 (N:=h.length) hkA)
  ·rcases hn with hn | hn
   ·exact liveS _ hlv hn
   ·have:=(hT _ hn).1;have:=liveLt _ hlv;omega
  ·have:=liveLt _ hlv;omega
  ·exact hn (.inl hlv)) (fun b hb=>⟨.inl (.inl hb),fun hw=>by
  rcases hw with ⟨k',x',o',b1,b2,b3⟩ | hw
  ·exact liveS b (liveA k' x' (b,o') b1 b2 b3) hb
  ·exact hlnS b hb hw⟩) (fun b hw=>by
  rcases hw with ⟨k',x',o',b1,b2,b3⟩ | rfl
  ·exact .inr (.inl (liveA k' x' (b,o') b1 b2 b3))
  ·exact .inr hMl)
 have hrun:=yB (P:=P) (f:=f) (args:=(ys.toList++[Value.func (.yield l) #[] #[]]++zs.toList).toArray) (w:=w1) hI.1;refine ⟨l,mk,w1,{ target:=.fn (.func f) zs,args:=ys ++ #[Value.func (.yield l) #[] #[]] },w1,f,(ys.toList++[Value.func (.yield l) #[] #[]]++zs.toList).toArray,w1,henter,?_,fun _ _=>trivial,?_,(fun h=>(by cases h)),?_⟩
 ·simp only [resolve];rw [e1];simp [Deferred.ofValue,Act.eval]
 ·have e2:(ys ++ #[Value.func (.yield l) #[] #[]]++zs:Array Value)=(ys.toList++[Value.func (.yield l) #[] #[]]++zs.toList).toArray:=by
   apply Array.ext';simp
  simp only [invoke];rw [e2];exact hrun
 refine (OK (r:=c.r) (n:=0-1) hcall).mono ?_;rintro e w5 ⟨y,g',W5,N5,rfl,⟨ρ5,S5,hh,rec5,s5,hl5,hSl5,hll5,hW5,hN5,hg1,hg2⟩,hgN⟩
 -- kU the loop
 have hbusy:rec5.state≠.busy:=by
  cases hb:g'.2 with
  | false=>rw [(hg1 hb).2,hrec];simp
  | true=>
   obtain ⟨e,cd,_,hr,_⟩:=hg2 hb;rw [hr];simp
 refine ⟨_,_,run_endLoop hl5 hbusy,?_⟩;obtain ⟨s6,hr6⟩:=s5.put hl5 (fun _ _ _ e=>by cases e) rfl (.loop { rec5 with state:=.exhausted }) (fun _=>hMl) hS0l
 have hAc:∀ b,cA.M b→c.M b:=fun b hb=>by
  rcases hb with ⟨k,x,o,a1,a2,a3⟩ | hb
  ·exact (s.hs.live k x _ a1 a2 a3).1
  ·exact c.new b (bL s.hs.ext.size hb.1)
 have s7:HS c ρ5 (fun b=>S5 b∧b≠l) hh (w5.putObj l (.loop { rec5 with state:=.exhausted })):=s6.re c (fun k x q a1 a2 a3=>hAc _ (s6.live k x q a1 a2 a3).1) (s.hs.ext.trans (((x01.mono (N:=cA.M) fun _ _ h=>h.elim)).trans s6.ext (fun _ h _=>h)) fun b hb _=>hAc b hb) (fun b hb=>⟨s5.st0 b (.inl (s.hs.st0 b hb)),hlnS b (s.hs.st0 b hb)⟩) (fun b hb=>by
  rcases s5.st1 b hb.1 with (h | h) | h
  ·exact s.hs.st1 b h
  ·exact .inr (c.new b (bL s.hs.ext.size (hT b h).1))
  ·exact .inr (hAc b h)) (bL (by rw [s.cm];exact hn2) s5.mle) (fun k hk=>by
  have hk2:k<n.2:=s.cm▸hk;have h1:=s5.keep k (eC hk2 hn2);rw [h1];show ρ (th LA h.length k)=_;have:th LA h.length k=k:=by unfold th;rw [hAk k hk2]
  rw [this];exact s.hs.keep k hk)
 have hsame:∀ b,(S b∨T b)→(w5.putObj l (.loop { rec5 with state:=.exhausted })).heap[b]? = w1.heap[b]?:=fun b hb=>s6.ext.same b (hSA b hb).1 (hSA b hb).2;have s8:qL n c ρ5 (fun b=>S5 b∧b≠l) E hh { a with defers:=mk++a.defers } (w5.putObj l (.loop { rec5 with state:=.exhausted })):=by
  refine ⟨s.size,hmk _ _ (fun b hb=>⟨s5.st0 b (.inl hb),hlnS b hb⟩) (fun b hb=>⟨s5.st0 b (.inr hb),(hT b hb).2.1⟩) hsame,fun t x hx=>?_,s7,s.cm⟩
  have h1:=RH (ρ':=ρ5) (m:=m0) (fun q hq=>s5.keep q hq) x _ (Y5 hlow hx) (henvE t x hx);exact oN (fun b hb=>⟨s5.st0 b hb,fun e=>hS0l (e▸hb)⟩) hsame x ρ5 ρ5 _ (fun _ _ h=>h) (fun _ _ _ _ _ hr=>s6.ext.room hr) h1
 generalize w5.putObj l (.loop { rec5 with state:=.exhausted })=w6 at s8 ⊢;cases hb:g'.2 with
 | false=>
  obtain ⟨rfl,hr5⟩:=hg1 hb;rw [hgN hb] at s8;have:rec5.pending=none:=by rw [hr5,hrec]
  rw [this];exact hQ .normal E (HA N) ρ5 _ _ _ hafter s8
 | true=>
  obtain ⟨e,cd,he,hr,hq⟩:=hg2 hb;have:rec5.pending=some cd:=by rw [hr]
  rw [this];exact yC4 he (hQ e E hh ρ5 _ _ _ hq s8)
section
variable {cA:pS}{l:Nat}{rec0:Loop}{E:eG}{HA:Nat→Hp}{GO:Nat→Nat × Bool}{J:JT}{A:Nat→Prop}{Q:Nat × Bool→Exit→eG→Hp→Prop}
theorem yU2.later {g:Nat × Bool}{c c':pS}{ρ ρ':Pl}{S S' W N N':Nat→Prop}{h h':Hp}{w w':World}(hJ:zV2 J) (j:yU2 J A g c ρ S h w W N) (x:nD (fun b=>¬ N' b) w w') (hN:∀ b,N b→N' b)
  (hl:∀ (k:Nat) x p,h'[k]? = some x→x≠.gone→ρ' k=some p→¬ N p.1) (hst:∀ b,S' b→¬ W b) (hc:∀ b,S' b→c'.lo≤b→N b→Y7 w b) (hwm:∀ b,W b→c'.M b) (haS:∀ b,S' b→A b) (haM:∀ b,c'.M b→A b) (hnn:∀ b,N b→c'.nb b∨c'.S0 b∨c'.M b):yU2 J A g c' ρ' S' h' w' W N:=by
 refine ⟨hJ.st j.j (x.mono fun b _ hb h=>hb (hN b h)),hl,hst,fun b hb h1 h2=>?_,hwm,haS,haM,hnn⟩
 obtain ⟨cc,e,h4⟩:=hc b hb h1 h2;exact ⟨cc,e,by rw [x.same b (hJ.lt j.j b h2) (fun h=>h (hN b h2))];exact h4⟩
end
def T5 (l:List Oper) (pres:List (List Nat)) (k:Nat):Bool:=
 vM l.toArray pres&&Nat.ble k l.length&&(List.range l.length).all fun i=>match Nat.blt i k with
  | true=>match l[i]? with
   | some o=>match o.guard with
    | some (j,_)=>Nat.blt j k
    | none=>true
   | none=>true
  | false=>(List.range i).all fun j=>(pres.getD i []).any (Nat.beq j)
section
variable {P:Program}{r:Option Nat}{Q Q1:Exit→Act→World→Prop}{l:List Oper}{pres:List (List Nat)}{k:Nat}
theorem N8 (h:T5 l pres k=true):vM l.toArray pres=true∧k≤l.length∧(∀ i,i<k→∀ o j b,l[i]? = some o→o.guard=some (j,b)→j<k)∧∀ i,k≤i→i<l.length→∀ j,j<i→j∈pres.getD i []:=by
 unfold T5 at h;simp only [aN] at h;obtain ⟨⟨h1,h2⟩,h3⟩:=h;have h2:=aI h2;rw [bJ] at h3;refine ⟨h1,h2,fun i hi o j b ho hg=>?_,fun i hi hl j hj=>?_⟩
 ·have:=h3 i (fG.2 (by omega))
  rw [show Nat.blt i k=true from Nat.ble_eq_true_of_le hi] at this
  simp only [ho,hg] at this;exact aI this
 ·have:=h3 i (fG.2 hl);have hb:Nat.blt i k=false:=by
   rw [← fA];intro hb;have:=aI hb;omega
  rw [hb] at this;simp only [bJ] at this;have:=this j (fG.2 hj);rw [kX] at this;obtain ⟨x,hx,hxe⟩:=this;rw [aS hxe];exact hx
theorem DO (hok:vM l.toArray pres=true){listed:Array Bool}(hcl:∀ (i:Nat) o,l.toArray[i]? = some o→listed.getD i false=true→∀ e,e∈o.after→Region.binds .any e=true→listed.getD e.on false=true) :
  ∀ (i:Nat) o,l.toArray[i]? = some o→(∀ e,e∈o.after→Region.binds .any e=true→listed.getD e.on false=true)→∀ j,j∈pres.getD i []→listed.getD j false=true:=by
 intro i
 induction i using Nat.strongRecOn with
 | _ i ih=>
  intro o ho hall j hj;have hlt:i<l.toArray.size:=(aJ.1 ho).1;have h:=bJ.1 hok i (by simpa using hlt)
  rw [ho] at h;simp only [aN] at h;have h2:=h.2;cases hp:pres[i]? with
  | none=>rw [aE,hp] at hj;simp at hj
  | some pre=>
   rw [aE,hp] at hj;rw [hp] at h2;simp only [bJ,aN,decide_eq_true_eq] at h2;obtain ⟨h3,h4⟩:=h2 j hj;rw [kX] at h4;obtain ⟨e,he,h5⟩:=h4;rw [aN,K8] at h5;obtain ⟨hb,h6⟩:=h5;have he':e∈o.after:=by simpa using he
   have hel:=hall e he' hb;rcases h6 with h6 | h6
   ·rw [← aS h6];exact hel
   ·rw [kX] at h6;obtain ⟨x,hx,hxe⟩:=h6;rw [aS hxe];have hei:=lU hok ho e he' hb;exact ih e.on hei _ (dQ (by omega)) (fun e2 he2 hb2=>hcl e.on _ (dQ (by omega)) hel e2 he2 hb2) x hx
theorem zX5 (hc:T5 l pres k=true):∀ (m k' fuel:Nat) (listed:Array Bool) (a:Act) (w:World),k'+m=l.length→k≤k'→m≤fuel→listed.size=l.length→(∀ j,j<l.length→listed.getD j false=decide (j<k')) →
  wpListIn (rd r) 0 P l.toArray Q (l.drop k') a w→wpAnyIn (rd r) 0 P .any l.toArray Q fuel listed a w:=by
 obtain ⟨hok,hkl,_,hpre⟩:=N8 hc;intro m
 induction m with
 | zero=>
  intro k' fuel listed a w hk hkk hf hsz hl h;rw [cY (by omega)] at h
  have hre:Region.ready .any l.toArray listed=[]:=by
   rw [lQ];intro i hi;obtain ⟨h1,o,ho,_⟩:=mem_ready.1 hi;have hil:i<l.length:=by have:=(aJ.1 ho).1;simpa using this
   have e:listed.getD i true=listed.getD i false:=by simp [Array.getD,hsz,hil]
   rw [e,hl i hil] at h1;have:¬ i<k':=by simpa using h1
   omega
  cases fuel with
  | zero=>exact ⟨hre,h⟩
  | succ f=>exact ⟨fun _=>h,fun i hi=>by rw [hre] at hi;cases hi⟩
 | succ m ih=>
  intro k' fuel listed a w hk hkk hf hsz hl h;obtain ⟨f,rfl⟩:∃ f,fuel=f+1:=⟨fuel-1,by omega⟩
  have hlt:k'<l.length:=by omega
  have ho:l.toArray[k']? = some l[k']:=by simp [aB hlt]
  have hin:k'∈Region.ready .any l.toArray listed:=mem_ready.2 ⟨by
   have e:listed.getD k' true=listed.getD k' false:=by simp [Array.getD,hsz,hlt]
   rw [e,hl k' hlt];simp,l[k'],ho,fun e he hb=>by
   have:=lU hok ho e he hb
   rw [hl e.on (by omega)];simpa using this⟩
  refine ⟨(fun hr=>by rw [hr] at hin;cases hin),fun i hi=>?_⟩
  obtain ⟨h1,o,hoi,hall⟩:=mem_ready.1 hi;have hil:i<l.length:=by have:=(aJ.1 hoi).1;simpa using this
  have hcl:∀ (i:Nat) o,l.toArray[i]? = some o→listed.getD i false=true→∀ e,e∈o.after→Region.binds .any e=true→listed.getD e.on false=true:=fun i o ho hi e he hb=>by
   have hil:i<l.length:=by have:=(aJ.1 ho).1;simpa using this
   have:=lU hok ho e he hb;rw [hl i hil] at hi;have:i<k':=by simpa using hi
   rw [hl e.on (by omega)];simp;omega
  have hik:i=k':=by
   have e:listed.getD i true=listed.getD i false:=by simp [Array.getD,hsz,hil]
   rw [e,hl i hil] at h1;have h2:¬ i<k':=by simpa using h1
   rcases jO k' i with h3 | h3
   ·have:=DO hok hcl i o hoi hall k' (hpre i (by omega) hil k' h3)
    rw [hl k' hlt] at this;simp at this
   ·omega
  subst hik;rw [aP hlt] at h;unfold wpListIn at h;unfold wpOpIn;rw [ho];have nx:∀ a w,wpListIn (rd r) 0 P l.toArray Q (l.drop (i+1)) a w→wpAnyIn (rd r) 0 P .any l.toArray Q f (listed.setIfInBounds i true) a w:=fun a w h'=>
   ih (i+1) f _ a w (by omega) (by omega) (by omega) (by simpa using hsz) (fun j hj=>by
    by_cases hij:i=j
    ·subst hij;simp [Array.getD,hsz,hlt]
    ·rw [getD_set_ne false hij,hl j hj]
     simp;omega) h'
  simp only;split at h
  ·rename_i hw;rw [if_pos hw];exact Oper.wpIn_mono nx h
  ·rename_i hw;rw [if_neg hw];exact ⟨h.1,nx _ _ h.2⟩
theorem MA (hc:T5 l pres k=true) (hnd:nW (l.take k)=true) (hq1:∀ e a w,Q1 e a w→e = .normal) (hrest:∀ a w,Q1 .normal a w→wpListIn (rd r) 0 P l.toArray Q (l.drop k) a w) :
  ∀ (fuel' fuel:Nat) (listed listedf:Array Bool) (U:List Nat) (a:Act) (w:World),listed.size=l.length→listedf.size=k→(∀ j,j<k→listed.getD j false=listedf.getD j false)→(∀ j,k≤j→listed.getD j false=false) →
   (∀ (i:Nat) o,l.toArray[i]? = some o→listed.getD i false=true→∀ e,e∈o.after→Region.binds .any e=true→listed.getD e.on false=true) →
   (∀ j,j<k→listed.getD j false=false→j∈U)→U.length≤fuel'→fuel'+(l.length-k)≤fuel →
   wpAny P .any (l.take k).toArray Q1 fuel' listedf a w→wpAnyIn (rd r) 0 P .any l.toArray Q fuel listed a w:=by
 obtain ⟨hok,hkl,hgd,hpre⟩:=N8 hc;have hlk:(l.take k).toArray.size=k:=by simp;omega
 have done:∀ (fuel:Nat) (listed:Array Bool) (a:Act) (w:World),listed.size=l.length→(∀ j,k≤j→listed.getD j false=false)→(∀ j,j<k→listed.getD j false=true)→l.length-k≤fuel→Q1 .normal a w→wpAnyIn (rd r) 0 P .any l.toArray Q fuel listed a w:=fun fuel listed a w hsz ht hf hfu hq=>
  zX5 hc (l.length-k) k fuel listed a w (by omega) (aX _) hfu hsz (fun j hj=>by
   by_cases h:j<k
   ·rw [hf j h];simp [h]
   ·rw [ht j (by omega)];simp [h]) (hrest a w hq)
 intro fuel'
 induction fuel' with
 | zero=>
  intro fuel listed listedf U a w hsz hszf hlf ht hcl hU hUl hfu h;have hU0:U=[]:=cJ (by omega)
  subst hU0
  exact done fuel listed a w hsz ht (fun j hj=>by
   cases hb:listed.getD j false with
   | true=>rfl
   | false=>exact absurd (hU j hj hb) (by simp)) (by omega) h.2
 | succ fuel' ih=>
  intro fuel listed listedf U a w hsz hszf hlf ht hcl hU hUl hfu h;by_cases hfl:∀ j,j<k→listed.getD j false=true
  ·refine done fuel listed a w hsz ht hfl (by omega) (h.1 ?_)
   rw [lQ];intro i hi;obtain ⟨h1,o,ho,_⟩:=mem_ready.1 hi;have hil:i<k:=by have:=(aJ.1 ho).1;omega
   have e:listedf.getD i true=listedf.getD i false:=by simp [Array.getD,hszf,hil]
   rw [e,← hlf i hil,hfl i hil] at h1;cases h1
  ·obtain ⟨j0,hj0,hjf⟩:∃ j,j<k∧listed.getD j false=false:=by
    apply Classical.byContradiction;intro hn;apply hfl;intro j hj;cases hb:listed.getD j false with
    | true=>rfl
    | false=>exact absurd ⟨j,hj,hb⟩ hn
   obtain ⟨f,rfl⟩:∃ f,fuel=f+1:=⟨fuel-1,by omega⟩
   have hex:Region.ready .any l.toArray listed≠[]:=by
    have gW:∃ j,j<k∧listed.getD j false=false∧∀ i,i<j→listed.getD i false=true:=by
     have:∀ b j,j≤b→j<k→listed.getD j false=false→∃ j,j<k∧listed.getD j false=false∧∀ i,i<j→listed.getD i false=true:=by
      intro b
      induction b with
      | zero=>exact fun j hj h5 h6=>⟨j,h5,h6,fun k hk=>by omega⟩
      | succ b ihb=>
       intro j hj h5 h6;by_cases hk:∃ k,k<j∧listed.getD k false=false
       ·obtain ⟨k,hk1,hk2⟩:=hk;exact ihb k (by omega) (by omega) hk2
       ·refine ⟨j,h5,h6,fun k hk'=>?_⟩
        cases hb:listed.getD k false with
        | true=>rfl
        | false=>exact absurd ⟨k,hk',hb⟩ hk
     exact this j0 j0 (aX _) hj0 hjf
    obtain ⟨j,h5,h6,h7⟩:=gW;intro he;have hlt:j<l.toArray.size:=by simp;omega
    have:j∈Region.ready .any l.toArray listed:=mem_ready.2 ⟨by
     have e:listed.getD j true=listed.getD j false:=by simp only [Array.getD,hsz,show j<l.length by omega,dif_pos]
     rw [e,h6],_,dQ hlt,fun e he hb=>h7 _ (lU hok (dQ hlt) e he hb)⟩
    rw [he] at this;cases this
   refine ⟨fun h5=>absurd h5 hex,fun i hi=>?_⟩
   obtain ⟨h1,o,hoi,hall⟩:=mem_ready.1 hi;have hil:i<l.length:=by have:=(aJ.1 hoi).1;simpa using this
   have hik:i<k:=by
    apply Classical.byContradiction;intro hge;have:=DO hok hcl i o hoi hall j0 (hpre i (by omega) hil j0 (by omega))
    rw [hjf] at this;cases this
   have ei:listed.getD i true=listed.getD i false:=by simp [Array.getD,hsz,hil]
   have eif:listedf.getD i true=listedf.getD i false:=by simp [Array.getD,hszf,hik]
   have hil0:listed.getD i false=false:=by rw [← ei];exact h1
   have hof:(l.take k).toArray[i]? = some o:=by
    have:l[i]? = some o:=by simpa using hoi
    simp [cE,hik,this]
   have hif:i∈Region.ready .any (l.take k).toArray listedf:=mem_ready.2 ⟨by rw [eif,← hlf i hik];exact hil0,o,hof,fun e he hb=>by
    have hlt:=lU hok hoi e he hb
    rw [← hlf e.on (by omega)];exact hall e he hb⟩
   have hop:=h.2 i hif;unfold wpOp at hop;unfold wpOpIn;rw [hof] at hop;rw [hoi];simp only at hop ⊢;have hoi':l[i]? = some o:=by simpa using hoi
   have hwant:Region.wanted o (yielded (l.take k).toArray a.tmps)=Region.wanted o (yielded l.toArray a.tmps):=by
    unfold Region.wanted;cases hg:o.guard with
    | none=>rfl
    | some g=>
     obtain ⟨j,b⟩:=g;have hj:=hgd i hik o j b hoi' hg;simp only;unfold yielded;have:(l.take k).toArray[j]? = l.toArray[j]?:=by simp [cE,hj]
     rw [this]
   have nx:∀ a w,wpAny P .any (l.take k).toArray Q1 fuel' (listedf.setIfInBounds i true) a w→wpAnyIn (rd r) 0 P .any l.toArray Q f (listed.setIfInBounds i true) a w:=fun a' w' h'=>by
    refine ih f _ _ (U.erase i) a' w' (by simpa using hsz) (by simpa using hszf) (fun j hj=>?_) (fun j hj=>?_) (fun i2 o2 ho2 hi2 e he hb=>?_) (fun j hj hjl=>?_) ?_ (by omega) h'
    ·by_cases hij:i=j
     ·subst hij;simp [Array.getD,hsz,hszf,hil,hik]
     ·rw [getD_set_ne false hij,getD_set_ne false hij];exact hlf j hj
    ·rw [getD_set_ne false (by omega)];exact ht j hj
    ·by_cases hij:i=i2
     ·subst hij;rw [hoi] at ho2;cases ho2;exact getD_set_true (hall e he hb)
     ·rw [getD_set_ne false hij] at hi2;exact getD_set_true (hcl i2 o2 ho2 hi2 e he hb)
    ·by_cases hij:i=j
     ·subst hij;simp [Array.getD,hsz,hil] at hjl
     ·rw [getD_set_ne false hij] at hjl;exact (mI (Ne.symm hij)).2 (hU j hj hjl)
    ·have:=lR (hU i hik hil0);have hpos:0<U.length:=List.length_pos_of_mem (hU i hik hil0);omega
   have hnd1:Y3 o=true:=Y0 hnd (i:=i) (by simp [cE,hik,hoi'])
   split at hop
   ·rename_i hw;rw [if_pos (by rw [← hwant];exact hw)]
    rcases hop with hop | ⟨_,a',w',hop⟩
    ·exact OT (Q:=Q1) hq1 (Oper.wpIn_mono nx (zJ8 hnd1 hop))
    ·have:=hq1 _ _ _ hop;cases this
   ·rename_i hw;rw [if_neg (by rw [← hwant];exact hw)]
    exact ⟨fun _ _=>trivial,nx _ _ hop⟩
end
section
variable {P:Program}{env:eG}{h:Hp}{d:Option Nat}{ty:TypeId}{pos:String}{af:Array Edge}{g:Option (Nat × Bool)}
end
end Go.Ab
namespace Go.Ab
open Go Go.MapKept
section
variable {P:Program}{env:eG}{h:Hp}
variable {d:Option Nat}{ty:TypeId}{pos:String}{af:Array Edge}{g:Option (Nat × Bool)}
variable {n:Nat × Nat}{ops:Array Oper}{rest:List Oper}{K:eG→Hp→Prop}
variable {t kt et:TypeId}{good:Value→Prop}{x y z:Operand}{k i:Nat}{kv:Value}{ks:List Value}{vs:List AV}{v:AV}
theorem vY.erase {l:Array MapEntry}{ck i:Nat}(h:vY l ck):vY (l.eraseIdxIfInBounds i) ck:=by
 have e:(l.eraseIdxIfInBounds i).toList=l.toList.eraseIdx i:=by
  unfold Array.eraseIdxIfInBounds;split
  ·simp
  ·rename_i hh;rw [List.eraseIdx_of_length_le (by simpa using hh)]
 refine ⟨?_,fun q hq=>h.2 q (by rw [e] at hq;exact List.mem_of_mem_eraseIdx hq)⟩
 rw [e];have:(l.toList.eraseIdx i).map (·.born)=(l.toList.map (·.born)).eraseIdx i:=by
  apply kD;intro j;simp only [bN,List.getElem?_eraseIdx];split <;> simp
 rw [this];exact h.1.eraseIdx i
end
end Go.Ab
namespace Go.Ab
open Go
abbrev AV.s (l:List UInt8):AV:=.v (.string ⟨l.toArray⟩)
def zR3 (l:List UInt8):List (List AV):=l.map fun b=>[.v (.int .u8 b.toNat)]
@[simp] theorem bytesA_length (l:List UInt8):(zR3 l).length=l.length:=by simp [zR3]
def MG (P:Program) (t:TypeId):Prop:=P.underlying t=some .string
section
variable {P:Program}{env:eG}{h:Hp}
variable {d:Option Nat}{ty:TypeId}{pos:String}{af:Array Edge}{g:Option (Nat × Bool)}
variable {t t2:TypeId}{x y:Operand}{a b:List UInt8}
theorem xD8 (op:BinOp) (t:TypeId) (x y:Operand) (s:ByteArray) (v:Value):eqGuard op t x y (.string s) v=pure ():=by cases op <;> rfl
theorem mE (hx:evu env x=some (.s a)) (hy:evu env y=some (.s b)) (hl:a.length+b.length≤9223372036854775807):bW P ⟨d,.binOp .add t x y t2,ty,pos,af,g⟩ env h 0 (fun _=>.s (a++b)) (fun _=>[]):=by
 refine iD fun ρ S ac w p=>⟨.string ⟨(a++b).toArray⟩,?_,by simp [R]⟩
 have h1:=rL (p.evu hx);have h2:=rL (p.evu hy);have e:(⟨a.toArray⟩:ByteArray)++⟨b.toArray⟩=⟨(a++b).toArray⟩:=by apply ByteArray.ext;simp
 have:=Go.run_string_add_sum (P:=P) w ⟨a.toArray⟩ ⟨b.toArray⟩ (by show a.toArray.size+b.toArray.size≤_;simpa using hl)
 simp [execOp,h1,h2,xD8,binOp_string_add,this,e]
theorem yE9 (hx:evu env x=some (.s a)) (hy:evu env y=some (.s b)):bW P ⟨d,.binOp .eql t x y t2,ty,pos,af,g⟩ env h 0 (fun _=>.b (decide (a=b))) (fun _=>[]):=by
 refine iD fun ρ S ac w p=>⟨.bool (decide (a=b)),?_,by simp [R]⟩
 have h1:=rL (p.evu hx);have h2:=rL (p.evu hy);simp [execOp,h1,h2,xD8,binOp_string_eql,binOp_string_neq];by_cases hab:a=b <;> simp [hab]
theorem WJ (hx:evu env x=some (.s a)) (hy:evu env y=some (.s b)):bW P ⟨d,.binOp .neq t x y t2,ty,pos,af,g⟩ env h 0 (fun _=>.b (!decide (a=b))) (fun _=>[]):=by
 refine iD fun ρ S ac w p=>⟨.bool (!decide (a=b)),?_,by simp [R]⟩
 have h1:=rL (p.evu hx);have h2:=rL (p.evu hy);simp [execOp,h1,h2,xD8,binOp_string_eql,binOp_string_neq];by_cases hab:a=b <;> simp [hab]
theorem tC (ht:MG P t) (hx:evu env x=some (.s a)):bW P ⟨d,.call { callee:=.builtin .len,args:=#[x],argTypes:=#[t] },ty,pos,af,g⟩ env h 0 (fun _=>.i a.length) (fun _=>[]):=by
 refine iD fun ρ S ac w p=>⟨.int .i64 a.length,?_,by simp [R]⟩
 have h1:=rL (p.evu hx);have ht':P.underlying t=some .string:=ht;have e:(⟨a.toArray⟩:ByteArray).size=a.length:=by show a.toArray.size=_;simp
 rw [← e];simp [execOp,resolve,invoke,builtin,h1,Builtin.len_,run_underlying ht',goInt]
theorem ZQ (ht:MG P t){k:IntKind}{j:Int}(hx:evu env x=some (.s a)) (hy:evu env y=some (.v (.int k j))) (h0:0≤j){c:UInt8}(hc:a[j.toNat]? = some c):bW P ⟨d,.index t x y,ty,pos,af,g⟩ env h 0 (fun _=>.v (.int .u8 c.toNat)) (fun _=>[]):=by
 refine iD fun ρ S ac w p=>⟨.int .u8 c.toNat,?_,by simp [R]⟩
 have h1:=rL (p.evu hx);have h2:=rL (p.evu hy);have ht':P.underlying t=some .string:=ht;have hlt:j.toNat<a.length:=(aA.1 hc).1;have hs:j.toNat<(⟨a.toArray⟩:ByteArray).size:=by show _<a.toArray.size;simpa using hlt
 have e:(⟨a.toArray⟩:ByteArray)[j.toNat]'hs=c:=by
  have:=(aA.1 hc).2;rw [← this];rfl
 have hr:(Instr.index t (.string ⟨a.toArray⟩) (.int k j)).run P w = .ok (.int .u8 c.toNat) w:=by
  rw [run_index_string (P:=P) w t ⟨a.toArray⟩ k j ht',dif_pos ⟨h0,by omega⟩,e]
 simp [execOp,h1,h2,hr]
theorem OB {ρ:Pl}{S:Nat→Prop}{a:Act}{w:World}(p:GM ρ S env h a w){lo hi:Option Operand}{l r:Int}{len:Nat}(hlo:CK env lo 0=some l) (hhi:CK env hi len=some r) (h0:0≤l) (h1:l≤r) (h2:r≤len) :
  ∀ w,(Instr.sliceBounds false len len (lo.map a.eval) (hi.map a.eval) none).run P w = .ok (l.toNat,r.toNat,len) w:=by
 intro w;have hr:∀ k code,(Instr.sliceBound (.int k r) len code).run P w = .ok r.toNat w:=fun k code=>by
  simp only [Instr.sliceBound,asIntOf,Sem.run_bind,Sem.run_pure,Result.andThen_ok];rw [if_pos ⟨by omega,by omega⟩];rfl
 have hl:∀ k code,(Instr.sliceBound (.int k l) r.toNat code).run P w = .ok l.toNat w:=fun k code=>by
  simp only [Instr.sliceBound,asIntOf,Sem.run_bind,Sem.run_pure,Result.andThen_ok];rw [if_pos ⟨by omega,by omega⟩];rfl
 cases lo with
 | none=>
  simp only [CK,Option.some.injEq] at hlo;subst hlo;cases hi with
  | none=>
   simp only [CK,Option.some.injEq] at hhi;subst hhi;simp [Instr.sliceBounds]
  | some x=>
   obtain ⟨k,hk⟩:=J5 p hhi;simp [Instr.sliceBounds,hk,hr]
 | some y=>
  obtain ⟨k',hk'⟩:=J5 p hlo;cases hi with
  | none=>
   simp only [CK,Option.some.injEq] at hhi;subst hhi;have:=hl k';simp only [bI] at this;simp [Instr.sliceBounds,hk',this]
  | some x=>
   obtain ⟨k,hk⟩:=J5 p hhi;simp [Instr.sliceBounds,hk,hk',hr,hl]
theorem ZP (ht:MG P t){lo hi:Option Operand}{l r:Int}(hx:evu env x=some (.s a)) (hlo:CK env lo 0=some l) (hhi:CK env hi a.length=some r) (h0:0≤l) (h1:l≤r) (h2:r≤a.length):bW P ⟨d,.slice t x lo hi none,ty,pos,af,g⟩ env h 0 (fun _=>.s ((a.take r.toNat).drop l.toNat)) (fun _=>[]):=by
 refine iD fun ρ S ac w p=>⟨.string ⟨((a.take r.toNat).drop l.toNat).toArray⟩,?_,by simp [R]⟩
 have hv:=rL (p.evu hx);have ht':P.underlying t=some .string:=ht;have e:(⟨a.toArray⟩:ByteArray).size=a.length:=by show a.toArray.size=_;simp
 have he:(⟨a.toArray⟩:ByteArray).extract l.toNat r.toNat=⟨((a.take r.toNat).drop l.toNat).toArray⟩:=by
  apply ByteArray.ext;simp [ByteArray.data_extract,List.extract_eq_take_drop,List.drop_take]
 have hb:=OB (P:=P) p hlo hhi h0 h1 h2;have hS:(Instr.slice t (.string ⟨a.toArray⟩) (lo.map ac.eval) (hi.map ac.eval) none).run P w = .ok (.string ⟨((a.take r.toNat).drop l.toNat).toArray⟩) w:=by
  rw [← he];have hb':(Instr.sliceBounds false (⟨a.toArray⟩:ByteArray).size (⟨a.toArray⟩:ByteArray).size (lo.map ac.eval) (hi.map ac.eval) none).run P w = .ok (l.toNat,r.toNat,a.length) w:=by rw [e];exact hb w
  simp [Instr.slice,run_underlying ht',hb']
 simp [execOp,hv,Instr.sliceAt,run_underlying ht',hS]
theorem M5 (w:World) (size:Nat) (l:List UInt8):(Builtin.firstCells size l.length (.string ⟨l.toArray⟩)).run P w = .ok (l.map fun b=>Value.int .u8 b.toNat).toArray w:=by
 have:=Go.Lib.run_firstCells_string (P:=P) w size ⟨l.toArray⟩;have e:(⟨l.toArray⟩:ByteArray).size=l.length:=by show l.toArray.size=_;simp
 rw [e] at this;rw [this];simp [Go.Lib.strCells]
theorem KW (w:World) (l:List UInt8):(Builtin.lenOf (.string ⟨l.toArray⟩)).run P w = .ok l.length w:=by
 have e:(⟨l.toArray⟩:ByteArray).size=l.length:=by show l.toArray.size=_;simp
 simp [Builtin.lenOf,e]
theorem DJ {w:World}{t tS ty e:TypeId}{i:TypeInfo}(ht:P.underlying t=some (.slice e)) (hS:P.underlying tS=some .string) (hi:P.info? e=some i){b o len cap:Nat}{l:List UInt8}{zs:List Value}(hl:zs=l.map fun b=>Value.int .u8 b.toNat) (h1:∀ u∈zs,u.oneCell'=true)
  {cc:Array Value} {ee:TypeId} (hc:w.heap[b]? = some (.cells cc ee (0,0))) (hroom:len+l.length≤cap) (hfit:o+len*i.size+zs.length≤cc.size) :
  (Builtin.append_ #[t,tS] ty #[.slice (some ⟨b,o,none⟩) len cap,.string ⟨l.toArray⟩]).run P w = .ok (.slice (some ⟨b,o,none⟩) (len+l.length) cap) (w.setRow b (cc.toList.take (o+len*i.size)++zs++cc.toList.drop (o+len*i.size+zs.length)).toArray):=by
 have hf:=M5 (P:=P) w i.size l;rw [← hl] at hf;have hst:=run_storeCells_at P b (o+len*i.size) ee zs 0 cc w hc (by simpa using hfit) h1
 simp only [Nat.add_zero] at hst;simp [Builtin.append_,run_underlying ht,run_underlying hS,sizeOf,typeInfo,hi,KW,hroom,hf,Addr.add_lit,hst]
theorem W8 {w:World}{t tS ty e:TypeId}{i:TypeInfo}(ht:P.underlying t=some (.slice e)) (hS:P.underlying tS=some .string) (hi:P.info? e=some i){a:Option Addr}{len cap:Nat}(hlc:len≤cap) :
  (Builtin.append_ #[t,tS] ty #[.slice a len cap,.string ⟨([]:List UInt8).toArray⟩]).run P w = .ok (.slice a len cap) w:=by
 have hf:=M5 (P:=P) w i.size [];simp only [List.length_nil,List.map_nil] at hf;have h0:=KW (P:=P) w [];simp only [List.length_nil] at h0;cases a with
 | none=>simp [Builtin.append_,run_underlying ht,run_underlying hS,sizeOf,typeInfo,hi,h0,hlc,hf]
 | some a=>simp [Builtin.append_,run_underlying ht,run_underlying hS,sizeOf,typeInfo,hi,h0,hlc,hf,storeCells]
theorem BK {w:World}{t tS ty e:TypeId}{i:TypeInfo}{z:Value}(ht:P.underlying t=some (.slice e)) (hS:P.underlying tS=some .string) (hi:P.info? e=some i) (hz0:i.zero=some z){a:Option Addr}{len cap:Nat}{l:List UInt8}{ys zs:List Value}(hly:ys.length=len*i.size) (hy:len=0∨∃ b o,a=some ⟨b,o,none⟩∧lies w b o ys)
  (hl:zs=l.map fun b=>Value.int .u8 b.toNat) (hg:cap<len+l.length) (hb:(len+l.length)*i.bytes≤140737488355328) (h63:len+l.length≤9223372036854775807) :
  (Builtin.append_ #[t,tS] ty #[.slice a len cap,.string ⟨l.toArray⟩]).run P w = .ok (.slice (some ⟨w.heap.size,0,none⟩) (len+l.length) (grownCap w (len+l.length) cap e)) (w.drew.alloc (.cells (ys.toArray++zs.toArray++Builtin.zeroCells z.cells (grownCap w (len+l.length) cap e-(len+l.length))) e)):=by
 have hn:¬ (len+l.length≤cap):=by omega
 have h63':¬ (9223372036854775807<((len:Int)+(l.length:Int))):=by omega
 have h48':¬ (281474976710656<Builtin.nextslicecap (len+l.length) cap*i.bytes):=by have:=growslice_fits (old:=cap) (need:=len+l.length) (by omega) hb;omega
 have hd:∀ {b o:Nat} {l:List Value},lies w b o l→lies w.drew b o l:=fun h=>h
 have hf:=M5 (P:=P) w.drew i.size l;rw [← hl] at hf;have hfo:=yA (P:=P) (w:=w.drew) (size:=i.size) (cap:=cap) hly (hy.imp id fun ⟨b,o,h1,h2⟩=>⟨b,o,h1,hd h2⟩);simp [Builtin.append_,run_underlying ht,run_underlying hS,sizeOf,typeInfo,zeroValue,hi,hz0,KW,hn,h63',h48',Question.forced,hf,hfo,newRow,grownCap,-List.append_toArray]
end
section
variable {P:Program}{env:eG}{h:Hp}
variable {d:Option Nat}{ty:TypeId}{pos:String}{af:Array Edge}{g:Option (Nat × Bool)}
def uC (l:List UInt8):List Value:=l.map fun b=>Value.int .u8 b.toNat
@[simp] theorem strV_length (l:List UInt8):(uC l).length=l.length:=by simp [uC]
theorem zF5 {l:List UInt8}{j:Nat}{y:Value}(h:(uC l)[j]? = some y):∃ x,l[j]? = some x∧y = .int .u8 x.toNat:=by
 simp only [uC,bN,fD] at h;obtain ⟨x,h1,h2⟩:=h;exact ⟨x,h1,h2.symm⟩
theorem VA {l:List UInt8}{j:Nat}{x:UInt8}(h:l[j]? = some x):(uC l)[j]? = some (.int .u8 x.toNat):=by
 simp [uC,h]
theorem ZT (T:pR P){t:TypeId}{i:TI}(hz:T.ti t=some i) (hag:i.agg=true):bW P ⟨d,.alloc t,ty,pos,af,g⟩ env h 1 (fun p=>.ptr p 0) (fun _=>[.var t (i.zero.map .v)]):=by
 refine yE2 fun ρ S a w p=>?_
 obtain ⟨z,h1,h2⟩:=T.zeroV hz w;refine ⟨.cells z.cells t (0,0),.pointer (some ⟨w.heap.size,0,none⟩),?_,fun pos hpos w' hw'=>⟨?_,?_⟩⟩
 ·simp [execOp,Instr.alloc,h1];rfl
 ·simp [R,Pl.with]
 ·exact ⟨w.heap.size,z.cells,rfl,hw',by rw [h2];exact RI _⟩
section
variable {n:Nat × Nat}{ops:Array Oper}{rest:List Oper}{K:eG→Hp→Prop}
theorem CT (T:pR P){t e k len dd:Nat}{i:TI}{x y:Operand}{lb l0:List UInt8}{tS:TypeId}(htS:P.underlying tS=some .string) (hx:evu env x=some (.sl k 0 len 1)) (hy:evu env y=some (.s l0)) (ht:T.elem t=some e) (he:T.ti e=some i) (hs:i.size=1) (hby:i.bytes=1)
  (hkk:h[k]? = some (.buf e lb)) (hlen:len=lb.length) (hb:lb.length+l0.length≤140737488355328) (hd:GH (some dd) n=true)
  (hk:VC P n ops rest ((dd,.sl h.length 0 (lb.length+l0.length) 1)::env) (h.set k .gone++[.buf e (lb++l0)]) K) :
  VC P n ops (⟨some dd,.call { callee:=.builtin .append,args:=#[x,y],argTypes:=#[t,tS] },ty,pos,af,none⟩::rest) env h K:=by
 subst hlen;intro c ρ S a w Q s hQ;refine wpList_plain rfl fun K' hK'=>?_
 have p:=s.pre;have hxv:=p.evu hx;have y1:a.eval y = .string ⟨l0.toArray⟩:=rL (p.evu hy);obtain ⟨inf,z,t1,t2,t3,t4,t5,t6,t7⟩:=T.tiOk e i he;simp only [R] at hxv;obtain ⟨a1,c1,x1,x3,hxv⟩:=hxv;have x2:lb.length≤c1:=by
  rcases hxv with ⟨h0,h1⟩ | ⟨b,o,_,_,h3,_⟩
  ·omega
  ·exact h3
 have hB:RB S w ρ (ρ k) (.buf e lb):=p.blk k _ hkk;simp only [RB] at hB;have hklt:k<h.length:=(aA.1 hkk).1;have ev1:∀ r w',(Builtin.append_ #[t,tS] ty #[a.eval x,a.eval y]).run P w = .ok r w'→(execOp a.eval ⟨some dd,.call { callee:=.builtin .append,args:=#[x,y],argTypes:=#[t,tS] },ty,pos,af,none⟩).run P w = .ok (.value r) w':=fun r w' hr=>by
  simp [execOp,resolve,invoke,builtin,hr]
 -- whatever it does: the new object's place,and the world
 have fin:∀ {r:Value} {w':World} {q:Option (Nat × Nat)},(Builtin.append_ #[t,tS] ty #[a.eval x,a.eval y]).run P w = .ok r w'→nD c.M w w'→(∀ j b,h[j]? = some b→j≠k→b≠.gone→∀ b1 o1,ρ j=some (b1,o1)→w'.heap[b1]? = w.heap[b1]?)→(∀ b1,S b1→w'.heap[b1]? = w.heap[b1]?) →
   (∀ b1 o1,q=some (b1,o1)→c.M b1∧¬ S b1∧b1<w'.heap.size∧∀ j b,h[j]? = some b→j≠k→b≠.gone→∀ b2 o2,ρ j=some (b2,o2)→b2≠b1) →
   (iF ρ (fun j=>if j=h.length then q else ρ j) S S w w'→R S w' (.sl h.length 0 (lb.length+l0.length) 1) (fun j=>if j=h.length then q else ρ j) r∧RB S w' (fun j=>if j=h.length then q else ρ j) q (.buf e (lb++l0))) →
   Oper.wp P ⟨some dd,.call { callee:=.builtin .append,args:=#[x,y],argTypes:=#[t,tS] },ty,pos,af,none⟩ a w K' Q:=fun {r w' q} hr hext hoth hst hq hval=>by
  unfold Oper.wp;rw [ev1 r w' hr];have hdom:=s.hs.dom h.length (aX _)
  have l:iF ρ (fun j=>if j=h.length then q else ρ j) S S w w':=⟨fun j u hu=>by
   show (if j=h.length then q else ρ j)=_
   rw [if_neg (fun e=>by rw [e,hdom] at hu;cases hu)];exact hu,fun _ h=>h,hst,fun _ _ _ _ _ hr=>hext.room hr⟩
  obtain ⟨v1,v2⟩:=hval l;have hget:∀ {j:Nat} {b:AB},(h.set k .gone++[.buf e (lb++l0)])[j]? = some b→b≠.gone→(j<h.length∧j≠k∧h[j]? = some b)∨(j=h.length∧b = .buf e (lb++l0)):=fun {j b} hj hg=>by
   by_cases hjl:j<h.length
   ·rw [aG (by simpa using hjl)] at hj
    by_cases hjk:j=k
    ·subst hjk;rw [zD hklt] at hj;cases hj;exact absurd rfl hg
    ·rw [iN (Ne.symm hjk)] at hj;exact .inl ⟨hjl,hjk,hj⟩
   ·rw [aF (by simp;omega)] at hj
    simp only [hC] at hj;by_cases hj0:j-h.length=0
    ·rw [hj0] at hj;simp at hj;exact .inr ⟨by omega,hj.symm⟩
    ·rw [dA (by simp;omega)] at hj;cases hj
  refine hK' _ _ (hk c (fun j=>if j=h.length then q else ρ j) S _ w' Q ⟨by rw [mT];exact s.size,by rw [kN];exact s.defers.later l,xB s.size hd (fun tt uu huu=>(s.env tt uu huu).later l) v1,⟨fun j hj=>?_,fun j u hu=>?_,fun j b hj=>?_,fun j b u hj hg hu=>?_,fun j j' b b' u u' hj hj' hg hg' hu hu' e=>?_,fun b1 hb1=>eC (s.hs.stab b1 hb1) hext.size,s.hs.ext.trans hext (fun _ h _=>h),s.hs.st0,s.hs.st1,by simp;exact bL s.hs.mle (gZ _ _),fun j hj=>by
   have:=s.hs.mle;show (if j=h.length then q else ρ j)=_
   rw [if_neg (by omega)];exact s.hs.keep j hj,s.hs.glob.later l⟩,s.cm⟩ hQ)
  ·simp at hj;show (if j=h.length then q else ρ j)=_
   rw [if_neg (by omega)];exact s.hs.dom j (by omega)
  ·by_cases hj:j=h.length
   ·simp only [hj,if_true] at hu;exact (hq u.1 u.2 hu).2.2.1
   ·simp only [hj,if_false] at hu;exact eC (s.hs.rng j u hu) hext.size
  ·cases b with
   | gone=>trivial
   | _=>
    rcases hget hj (by simp) with ⟨h2,h3,h4⟩ | ⟨h2,h3⟩
    ·show RB S w' _ (if j=h.length then q else ρ j) _
     rw [if_neg (by omega)]
     exact RB.later l (fun b1 o1 hp1=>hoth j _ h4 h3 (by simp) b1 o1 hp1) (s.hs.blk j _ h4)
    ·subst h2;show RB S w' _ (if h.length=h.length then q else ρ h.length) _
     rw [if_pos rfl,h3];exact v2
  ·rcases hget hj hg with ⟨h2,h3,h4⟩ | ⟨h2,h3⟩
   ·rw [if_neg (by omega)] at hu
    exact s.hs.live j b u h4 hg hu
   ·rw [if_pos h2] at hu;exact ⟨(hq u.1 u.2 hu).1,(hq u.1 u.2 hu).2.1⟩
  ·rcases hget hj hg with ⟨h2,h3,h4⟩ | ⟨h2,h3⟩ <;> rcases hget hj' hg' with ⟨h2',h3',h4'⟩ | ⟨h2',h3'⟩
   ·rw [if_neg (by omega)] at hu hu'
    exact s.hs.inj j j' b b' u u' h4 h4' hg hg' hu hu' e
   ·rw [if_neg (by omega)] at hu
    rw [if_pos h2'] at hu';exact absurd e ((hq u'.1 u'.2 hu').2.2.2 j b h4 h3 hg u.1 u.2 hu)
   ·rw [if_neg (by omega)] at hu'
    rw [if_pos h2] at hu;exact absurd e.symm ((hq u.1 u.2 hu).2.2.2 j' b' h4' h3' hg' u'.1 u'.2 hu')
   ·omega
 have hoth0:∀ (w':World) (b0:Nat),(∀ x,x≠b0→w'.heap[x]? = w.heap[x]?)→(∃ o,ρ k=some (b0,o))→(∀ j b,h[j]? = some b→j≠k→b≠.gone→∀ b1 o1,ρ j=some (b1,o1)→w'.heap[b1]? = w.heap[b1]?)∧(∀ b1,S b1→w'.heap[b1]? = w.heap[b1]?):=fun w' b0 hw ⟨o,ho⟩=>
  ⟨fun j b hj hjk hg b1 o1 h1=>hw b1 (fun e=>hjk (s.hs.inj j k b _ _ _ hj hkk hg (by simp) h1 ho e)),fun b1 hb1=>hw b1 (fun e=>(s.hs.live k _ _ hkk (by simp) ho).2 (e▸hb1))⟩
 have hoth0:∀ (w':World) (b0:Nat),(∀ x,x≠b0→w'.heap[x]? = w.heap[x]?)→(∃ o,ρ k=some (b0,o))→(∀ j b,h[j]? = some b→j≠k→b≠.gone→∀ b1 o1,ρ j=some (b1,o1)→w'.heap[b1]? = w.heap[b1]?)∧(∀ b1,S b1→w'.heap[b1]? = w.heap[b1]?):=fun w' b0 hw ⟨o,ho⟩=>
  ⟨fun j b hj hjk hg b1 o1 h1=>hw b1 (fun e=>hjk (s.hs.inj j k b _ _ _ hj hkk hg (by simp) h1 ho e)),fun b1 hb1=>hw b1 (fun e=>(s.hs.live k _ _ hkk (by simp) ho).2 (e▸hb1))⟩
 by_cases hroom:lb.length+l0.length≤c1
 ·by_cases hm:l0=[]
  ·-- nothing is appended
   subst hm;have hr:=W8 (P:=P) (w:=w) (t:=t) (ty:=ty) (T.elemOk _ _ ht) htS t1 (a:=a1) x2;refine fin (q:=ρ k) (by rw [x1,y1];exact hr) (nD.refl _ _) (fun _ _ _ _ _ _ _ _=>rfl) (fun _ _=>rfl) (fun b1 o1 hq=>?_) (fun l'=>⟨?_,?_⟩)
   ·obtain ⟨m1,m2⟩:=s.hs.live k _ _ hkk (by simp) hq
    exact ⟨m1,m2,s.hs.rng k _ hq,fun j b hj hjk hg b3 o3 h3 e=>hjk (s.hs.inj j k b _ _ _ hj hkk hg (by simp) h3 hq e)⟩
   ·simp only [R,List.length_nil,Nat.add_zero];refine ⟨a1,c1,rfl,x3,?_⟩;rcases hxv with e3 | ⟨b,o,f1,f2,f3,f4⟩
    ·exact .inl e3
    ·exact .inr ⟨b,o,by simp [f1],f2,f3,f4⟩
   ·simp only [RB,List.append_nil];exact hB
  ·-- there is room
   have hpos:0<l0.length:=eO.2 hm;rcases hxv with ⟨e3,e4⟩ | ⟨b,o,f1,f2,f3,⟨c3,e3,fz3,r1,r2⟩⟩
   ·omega
   rcases hB with ⟨_,hB⟩ | ⟨b',cc,g1,f4,g3⟩
   ·rw [f1] at hB;cases hB
   rw [f1] at g1;obtain ⟨rfl,rfl⟩:b=b'∧o=0:=by simpa using g1
   obtain rfl:cc=c3:=by rw [f4] at r1;cases r1;rfl
   have hone:∀ u∈uC l0,u.oneCell'=true:=fun u hu=>by obtain ⟨q,_,rfl⟩:=bD.1 hu;rfl
   have hfit:0+lb.length*inf.size+(uC l0).length≤cc.size:=by rw [t2,hs,strV_length];omega
   have hr:=DJ (P:=P) (w:=w) (t:=t) (ty:=ty) (T.elemOk _ _ ht) htS t1 (b:=b) (o:=0) (len:=lb.length) (cap:=c1) (l:=l0) (zs:=uC l0) rfl hone f4 hroom hfit;rw [t2,hs,Nat.mul_one,Nat.zero_add] at hr hfit;have hcs:((cc.toList.take lb.length++uC l0++cc.toList.drop (lb.length+(uC l0).length)).toArray).size=cc.size:=by
    simp only [mN,aD,aY,dK,gG];omega
   have hnew:=setRow_heap w b cc (cc.toList.take lb.length++uC l0++cc.toList.drop (lb.length+(uC l0).length)).toArray e (0,0) f4;obtain ⟨m1,m2⟩:=s.hs.live k _ _ hkk (by simp) f1
   obtain ⟨o1,o2⟩:=hoth0 _ b (fun x hx=>setRow_other w b x (cc.toList.take lb.length++uC l0++cc.toList.drop (lb.length+(uC l0).length)).toArray hx) ⟨0,f1⟩;refine fin (q:=some (b,0)) (by rw [x1,y1,f2];simpa using hr) ((qU f4 hcs).mono fun x _ hx=>by rw [hx];exact m1) o1 o2 (fun b1 o1 hq=>?_) (fun l'=>⟨?_,?_⟩)
   ·cases hq;exact ⟨m1,m2,(aJ.1 hnew).1,fun j b hj hjk hg b3 o3 h3 e=>hjk (s.hs.inj j k b _ _ _ hj hkk hg (by simp) h3 f1 e)⟩
   ·simp only [R];refine ⟨_,c1,rfl,x3,.inr ⟨b,0,by simp,by simp,hroom,_,e,_,hnew,?_⟩⟩
    rw [hcs];omega
   ·simp only [RB];refine .inr ⟨b,_,rfl,hnew,fun j u hj=>?_⟩
    rw [iH];by_cases hj1:j<lb.length
    ·rw [aG hj1] at hj;rw [bM,aG (by simp;omega),cE,if_pos hj1]
     simpa using g3 j u hj
    ·rw [aF (by omega)] at hj
     have hj2:=(aA.1 hj).1;rw [aG (by simp;omega),aF (by simp;omega)]
     have e9:(List.take lb.length cc.toList).length=lb.length:=by simp only [aY,gG];omega
     rw [e9];exact VA hj
 ·-- a new row
  have hy0:lb.length=0∨∃ b o,a1=some ⟨b,o,none⟩∧lies w b o (uC lb):=by
   rcases hxv with ⟨e3,_⟩ | ⟨b,o,f1,f2,f3,_⟩
   ·exact .inl e3
   rcases hB with ⟨_,hB⟩ | ⟨b',cc,g1,f4,g3⟩
   ·rw [f1] at hB;cases hB
   rw [f1] at g1;obtain ⟨rfl,rfl⟩:b=b'∧o=0:=by simpa using g1
   refine .inr ⟨b,0,by simpa using f2,cc,e,_,f4,fun j y hj=>?_⟩
   obtain ⟨q,q1,rfl⟩:=zF5 hj;rw [Nat.zero_add];exact g3 j q q1
  have hr:=BK (P:=P) (w:=w) (t:=t) (ty:=ty) (a:=a1) (len:=lb.length) (cap:=c1) (l:=l0) (ys:=uC lb) (zs:=uC l0) (T.elemOk _ _ ht) htS t1 t4 (by rw [t2,hs];simp) hy0 rfl (by omega) (by rw [t3,hby];omega) (by omega)
  have hgc:=grownCap_ge w (lb.length+l0.length) c1 e;have hgm:=grownCap_le_maxLen w (lb.length+l0.length) c1 e (by simp only [maxLen];omega)
  have hzs:z.cells.size=1:=by rw [← hs,← t6,← t5];simp
  obtain ⟨g1,g2⟩:=F2 (ys:=uC lb) (zs:=uC l0) (len:=lb.length) (m:=l0.length) hzs (by simp) (by simp) hgc
  have hnew:(w.drew.alloc (.cells ((uC lb).toArray++(uC l0).toArray++Builtin.zeroCells z.cells (grownCap w (lb.length+l0.length) c1 e-(lb.length+l0.length))) e)).heap[w.heap.size]? = some (.cells _ e (0,0)):=heap_alloc_new w.drew _;have hold:∀ b1,b1<w.heap.size→(w.drew.alloc (.cells ((uC lb).toArray++(uC l0).toArray++Builtin.zeroCells z.cells (grownCap w (lb.length+l0.length) c1 e-(lb.length+l0.length))) e)).heap[b1]? = w.heap[b1]?:=fun b1 hb1=>RowKit.Below.heap_alloc w.drew _ b1 hb1
  refine fin (q:=some (w.heap.size,0)) (by rw [x1,y1];exact hr) ((nD.drew1 w).trans (oB w.drew _ c.M) (fun _ h _=>h)) (fun j b hj hjk hg b1 o1 h2=>hold b1 (s.hs.rng j _ h2)) (fun b1 hb1=>hold b1 (s.hs.stab b1 hb1)) (fun b1 o1 hq=>?_) (fun l'=>⟨?_,?_⟩)
  ·cases hq;refine ⟨c.new _ s.hs.ext.size,fun hS=>?_,by simp,fun j b hj hjk hg b2 o2 h2 e=>?_⟩
   ·have:=s.hs.stab _ hS;omega
   ·have:=s.hs.rng j _ h2;simp at this;omega
  ·simp only [R];exact ⟨_,_,rfl,hgm,.inr ⟨w.heap.size,0,by simp,by simp,hgc,_,e,_,hnew,by rw [Nat.zero_add,Nat.zero_add];exact g1⟩⟩
  ·simp only [RB];refine .inr ⟨w.heap.size,_,rfl,hnew,fun j u hj=>g2 j _ ?_⟩
   have:=VA hj;simpa [uC] using this
end
end
def AA (P:Program) (t:TypeId) (k:IntKind):Prop:=P.underlying t=some (.int k)
section
variable {P:Program}{env:eG}{h:Hp}{d:Option Nat}{ty:TypeId}{pos:String}{af:Array Edge}{g:Option (Nat × Bool)}
theorem jQ {s t:TypeId}{x:Operand}{ks k kk:IntKind}{n:Int}(hs:AA P s ks) (ht:AA P t k) (hx:evu env x=some (.v (.int kk n))) (hn:k.wrap n=n) :
  bW P ⟨d,.convert s t x,ty,pos,af,g⟩ env h 0 (fun _=>.v (.int k n)) (fun _=>[]):=ZS hs ht hx hn
theorem MV {n:Int}(h0:0≤n) (h1:n<18446744073709551616):IntKind.u64.wrap n=n:=by
 simp [IntKind.wrap,IntKind.signed,IntKind.bits];omega
end
end Go.Ab
namespace Go.Ab
open Go Go.MapKept
section
variable {P:Program}{env:eG}{h:Hp}{d:Option Nat}{ty:TypeId}{pos:String}{af:Array Edge}{g:Option (Nat × Bool)}
variable {t kt et:TypeId}{good:Value→Prop}{x y:Operand}{k i:Nat}{kv:Value}{ks:List Value}{vs:List AV}{v:AV}
end
theorem JO.int {P:Program}{kt:TypeId}(hd:P.underlying kt=some (.int .i64)):JO P kt (IsKey (.int .i64)):=JO.plain hd
end Go.Ab
namespace Go.Ab
open Go
abbrev SA (l:List Int):List (List AV):=l.map fun n=>[AV.i n]
def jF (l:List Int):List Int:=l.mergeSort fun x y=>decide (x≤y)
theorem zK (l:List Int):(jF l).length=l.length:=List.length_mergeSort l
theorem vP:∀ l:List Int,(SA l).flatten=l.map AV.i
 | []=>rfl
 | a::l=>by
  show [AV.i a]++(SA l).flatten=_;rw [vP l];rfl
theorem B2 {S:Nat→Prop}{w:World}{ρ:Pl}:∀ {l:List Int}{ys:List Value},RL S w (l.map AV.i) ρ ys↔ys=l.map (Value.int .i64)
 | [],ys=>by simp [RL]
 | a::l,ys=>by
  simp only [List.map_cons,RL,R];constructor
  ·rintro ⟨y,zs,rfl,rfl,h⟩;rw [B2.1 h]
  ·rintro rfl;exact ⟨_,_,rfl,rfl,B2.2 rfl⟩
theorem W3 {w:World}{n b off:Nat}{d:List Int}{os:Array Obj}{c:Array Value}{e:TypeId}(hc:w.heap[b]? = some (.cells c e (0,0))) (hb:b<w.heap.size) :
  (Sort.grow (Sort.putRow (Value.int .i64) (Sort.ahead w n) b off d.toArray) os).heap[b]? = some (.cells (Sort.putCells (Value.int .i64) off d.toArray c) e (0,0)):=by
 rw [Sort.heap_grow_old _ _ (by rw [Sort.size_putRow];exact hb)]
 unfold Sort.putRow Sort.mapBlock;show (w.heap.modify b _)[b]? = _;rw [oE,if_pos rfl,hc];rfl
theorem DA {w:World}{n b off:Nat}{d:List Int}{os:Array Obj}{c:Array Value}{e:TypeId}(hc:w.heap[b]? = some (.cells c e (0,0))) (hb:b<w.heap.size) :
  nD (fun x=>x=b) w (Sort.grow (Sort.putRow (Value.int .i64) (Sort.ahead w n) b off d.toArray) os):=by
 have other:∀ x,x<w.heap.size→x≠b→(Sort.grow (Sort.putRow (Value.int .i64) (Sort.ahead w n) b off d.toArray) os).heap[x]? = w.heap[x]?:=fun x hx hne=>by
  rw [Sort.heap_grow_old _ _ (by rw [Sort.size_putRow];exact hx)]
  unfold Sort.putRow Sort.mapBlock;show (w.heap.modify b _)[x]? = _;rw [oE,if_neg (Ne.symm hne)]
 refine ⟨rfl,rfl,rfl,by rw [Sort.size_grow,Sort.size_putRow];exact gZ _ _,fun x hx hne=>other x hx hne,fun x cc ee fz hcc=>?_⟩
 by_cases hx:x=b
 ·subst hx;rw [hc] at hcc;cases hcc;exact ⟨_,_,W3 hc hb,by simp [Sort.putCells]⟩
 ·exact ⟨cc,fz,by rw [other x (aJ.1 hcc).1 hx];exact hcc,rfl⟩
theorem UL {P : Program} {f : FuncId} (hfn : ∃ fn, P.funcs[f]? = some fn ∧ (fn.name == "runtime.NumGoroutine") = false ∧ fn.body.isNone = false)
    (hs:∀ (blk off cap:Nat) (zs:List Int) (w:World),Sort.Holds (Value.int .i64) w blk off zs.toArray→blk<w.heap.size→zs.length<4611686018427387904 →
      Calls P f #[.slice (some ⟨blk,off,none⟩) zs.length cap] w fun e w'=>e = .returned (.tuple #[])∧∃ n os,w'=Sort.grow (Sort.putRow (Value.int .i64) (Sort.ahead w n) blk off (zs.mergeSort fun x y=>decide (x≤y)).toArray) os)
    (hn:∀ (p:Option Addr) (cap:Nat) (w:World),Calls P f #[.slice p 0 cap] w fun e w'=>e = .returned (.tuple #[])∧w'=w)
    (l:List Int) (hl:l.length≤17592186043904):aM P f [.sl 0 0 l.length 1] [.arr (SA l) 1] (.tup []) [.arr (SA (jF l)) 1]:=by
  refine ⟨hfn,fun ρ S w vs s hv=>?_⟩
  simp only [RL] at hv;obtain ⟨y,_,rfl,hy,rfl⟩:=hv;simp only [R] at hy;obtain ⟨a,cap,rfl,hcap,hy⟩:=hy;cases l with
  | nil=>
    refine (hn a cap w).mono fun e w' ⟨he,hw⟩=>?_
    subst he hw;rw [show jF []=[] from by simp [jF]]
    exact ⟨_,ρ,S,rfl,s,by simp [R,RL]⟩
  | cons i0 l0=>
    rcases hy with ⟨h0,_⟩ | ⟨b,o,hp,ha,hcl,_⟩
    · cases h0
    · obtain ⟨_,_,h3⟩:=s.blk 0 _ rfl;rcases h3 with ⟨h3,_⟩ | ⟨b',o',ys,h4,h5,h6⟩
      · cases h3
      · rw [hp] at h4;cases h4;rw [vP] at h6;have h6:=B2.1 h6;subst h6;obtain ⟨c,ty,hc,hg⟩:=h5;have hb:=(aJ.1 hc).1;rw [GN,Nat.add_zero] at ha;subst ha;have hH:Sort.Holds (Value.int .i64) w b o (i0::l0).toArray:=fun j hj=>by
          have hj:j<(i0::l0).length:=by simpa using hj
          have:=hg j (.int .i64 (i0::l0)[j]) (by rw [bN,aB hj];rfl)
          refine ⟨?_,?_⟩
          · unfold World.cell?;simp only [hc];rw [if_neg (by simp),this]
            congr 2;rw [getElem!_pos _ j (by simpa using hj)]
            simp
          · unfold World.frozen?;simp only [hc];simp
        refine (hs b o cap (i0::l0) w hH hb (by omega)).mono fun e w' ⟨he,n,os,hw⟩=>?_
        subst he;have hlen:=zK (i0::l0);have hw:w'=Sort.grow (Sort.putRow (Value.int .i64) (Sort.ahead w n) b o (jF (i0::l0)).toArray) os:=hw;have hh:w'.heap[b]? = some (.cells (Sort.putCells (Value.int .i64) o (jF (i0::l0)).toArray c) ty (0,0)):=by rw [hw];exact W3 hc hb
        obtain ⟨s',_⟩:=s.upd (k:=0) (b0:=.arr (SA (i0::l0)) 1) (nb:=.arr (SA (jF (i0::l0))) 1) (w':=w') rfl (by simp) hp (by rw [hw];exact DA hc hb) (fun _=>by
          refine ⟨fun e he=>by obtain ⟨i,_,rfl⟩:=bD.1 he;rfl,RM,.inr ⟨b,o,(jF (i0::l0)).map (Value.int .i64),rfl,⟨_,ty,hh,fun j y hj=>?_⟩,by rw [vP];exact B2.2 rfl⟩⟩
          rw [bN] at hj;obtain ⟨z,hz,rfl⟩:=fD.1 hj;obtain ⟨hjl,hz⟩:=aA.1 hz;have hold:=hg j (.int .i64 ((i0::l0)[j]'(by omega))) (by rw [bN,aB (by omega)];rfl)
          have hlt:=(aJ.1 hold).1;unfold Sort.putCells;rw [MR,hold];show some (if o≤o+j∧o+j<o+(jF (i0::l0)).toArray.size then _ else _)=_
          rw [if_pos ⟨by omega,by simpa using hjl⟩]
          congr 2;rw [show o+j-o=j by omega,getElem!_pos _ j (by simpa using hjl)]
          simpa using hz)
        exact ⟨_,ρ,S,rfl,s',by simp [R,RL]⟩
theorem J2 {es:List (List AV)}{sz:Nat}(h:∀ e,e∈es→e.length=sz) (m:Nat):(es.take m).flatten=es.flatten.take (m*sz):=by
 induction es generalizing m with
 | nil=>simp
 | cons a l ih=>
  have ha:=h a aR;cases m with
  | zero=>simp
  | succ m=>
   rw [nA,dZ,dZ,ih (fun e he=>h e (aH _ he)),iW];rw [bO (l:=a) (by rw [ha,eQ];omega),ha,eQ,BD,zB9]
theorem MK {S:Nat→Prop}{w:World}{ρ:Pl}{p:Option (Nat × Nat)}{es:List (List AV)}{sz:Nat}(m:Nat) (h:RB S w ρ p (.arr es sz)):RB S w ρ p (.arr (es.take m) sz):=by
 obtain ⟨h1,h2,h3⟩:=h;refine ⟨fun e he=>h1 e (eJ he),h2,?_⟩;rcases h3 with h3 | ⟨b,o,ys,h4,⟨c,e,h5,h6⟩,h7⟩
 ·exact .inl ⟨by rw [h3.1];simp,h3.2⟩
 ·refine .inr ⟨b,o,ys.take (m*sz),h4,⟨c,e,h5,fun j y hj=>h6 j y ?_⟩,by rw [J2 h1];exact sF h7 _⟩
  rw [cE] at hj;split at hj
  ·exact hj
  ·cases hj
section
variable {P:Program}{env:eG}{h:Hp}{n:Nat × Nat}{ops:Array Oper}{rest:List Oper}{K:eG→Hp→Prop}{ty:TypeId}{pos:String}{af:Array Edge}
theorem NA (T:pR P){t e k off len:Nat}{i:TI}{x:Operand}{es:List (List AV)}(hx:evu env x=some (.sl k off len 1)) (ht:T.elem t=some e) (he:T.ti e=some i) (hz:i.zero=[.int .i64 0]) (hkk:h[k]? = some (.arr es 1)) (hle:off+len≤es.length)
  (hk:VC P n ops rest env (h.set k (.arr (es.take off) 1)) K):VC P n ops (⟨none,.call { callee:=.builtin .clear,args:=#[x],argTypes:=#[t] },ty,pos,af,none⟩::rest) env h K:=by
 intro c ρ S a w Q s hQ;refine wpList_plain rfl fun K' hK'=>?_
 have p:=s.pre;have hxv:=p.evu hx;simp only [R] at hxv;obtain ⟨ad,cap,hev,_,hxv⟩:=hxv;obtain ⟨inf,z,t1,t2,t3,t4,t5,t6,t7⟩:=T.tiOk e i he;have hund:P.underlying t=some (.slice e):=T.elemOk _ _ ht;have hzv:∀ w,(zeroValue e).run P w = .ok z w:=fun w=>by simp [zeroValue,typeInfo,t1,t4]
 have hzc:z.cells = #[.int .i64 0]:=by
  rw [hz] at t5;exact yJ5.1 t5
 have ev1:∀ r w',(Builtin.clear_ #[t] ty #[a.eval x]).run P w = .ok r w'→(execOp a.eval ⟨none,.call { callee:=.builtin .clear,args:=#[x],argTypes:=#[t] },ty,pos,af,none⟩).run P w = .ok (.value r) w':=fun r w' hr=>by
  simp [execOp,resolve,invoke,builtin,hr]
 have fin:∀ {r:Value} {w':World},(Builtin.clear_ #[t] ty #[a.eval x]).run P w = .ok r w'→HS c ρ S (h.set k (.arr (es.take off) 1)) w'∧iF ρ ρ S S w w'→Oper.wp P ⟨none,.call { callee:=.builtin .clear,args:=#[x],argTypes:=#[t] },ty,pos,af,none⟩ a w K' Q:=fun {r w'} hr ⟨g1,g2⟩=>by
  unfold Oper.wp;rw [ev1 r w' hr];exact hK' _ _ (hk c ρ S _ _ Q ⟨by rw [mT];exact s.size,by rw [kN];exact s.defers.later g2,fun tt uu huu=>(s.env tt uu huu).later g2,g1,s.cm⟩ hQ)
 have stay:HS c ρ S (h.set k (.arr (es.take off) 1)) w∧iF ρ ρ S S w w:=⟨s.hs.alter hkk (MK off) (by simp),⟨fun _ _ h=>h,fun _ h=>h,fun _ _=>rfl,fun _ _ _ _ _ h=>h⟩⟩
 cases len with
 | zero=>
  refine fin (r:=.tuple #[]) ?_ stay;rw [hev];cases ad <;> simp [Builtin.clear_,run_underlying hund]
 | succ m=>
  rcases hxv with ⟨h0,_⟩ | ⟨b,o,hp,ha,hlc,hroom⟩
  ·cases h0
  ·have hB:=p.blk k _ hkk;obtain ⟨hes,hs0,hB⟩:=hB;rcases hB with hB | ⟨b',o',ys,h4,⟨cc,ct,h5,h6⟩,h7⟩
   ·obtain ⟨hB,_⟩:=hB;subst hB;simp at hle
   rw [hp] at h4;cases h4;have hyl:=fZ h7;have hfl:=fP hes;have hlast:=h6 (ys.length-1) (ys[ys.length-1]'(by omega)) (aB _)
   have hsz:=(aJ.1 hlast).1;have hzs:(Builtin.zeroCells z.cells (m+1)).toList=List.replicate (m+1) (.int .i64 0):=by
    rw [hzc];simp [Builtin.zeroCells];apply lP
    ·simp
    ·intro i h1 h2;simp [Nat.mod_one]
   have hst:=run_storeCells_at P b (o+off) ct (List.replicate (m+1) (Value.int .i64 0)) 0 cc w h5 (by rw [List.length_replicate];omega) (by intro v hv;rw [wH hv];rfl)
   rw [Nat.mul_one] at ha;subst ha;refine fin (r:=.tuple #[]) (w':=w.setRow b (cc.toList.take (o+off+0)++List.replicate (m+1) (Value.int .i64 0)++cc.toList.drop (o+off+0+(List.replicate (m+1) (Value.int .i64 0)).length)).toArray) ?_ (s.hs.upd hkk (by simp) hp (qU h5 ?_) fun l=>?_)
   ·rw [hev];simp only [Builtin.clear_];simp [run_underlying hund,hzv,hzs,hst]
   ·simp;omega
   ·refine ⟨fun e he=>hes e (eJ he),RM,.inr ⟨b,o,ys.take off,rfl,⟨_,ct,setRow_heap w b cc _ ct _ h5,fun j y hj=>?_⟩,?_⟩⟩
    ·rw [cE] at hj;split at hj
     ·rename_i hjo;have:=h6 j y hj;have hjl:=(aJ.1 this).1;rw [iH,bM,aG (by simp;omega),cE,if_pos (by omega)]
      simpa using this
     ·cases hj
    ·rw [J2 hes,Nat.mul_one];exact sF (h7.later l) off
end
section
variable {P:Program}{env:eG}{h:Hp}{n:Nat × Nat}{ops:Array Oper}{rest:List Oper}{K:eG→Hp→Prop}{ty:TypeId}{pos:String}{af:Array Edge}
theorem vE {t t2 e len sz dd:Nat}{cs:List AV}{x y:Operand}(T:pR P) (hx:evu env x=some (.row cs len sz)) (hy:evu env y=some .nils) (ht:T.elem t=some e) (hd:GH (some dd) n=true)
  (hk:∀ b:Bool,(0<len→b=false)→VC P n ops rest ((dd,.b b)::env) h K):VC P n ops (⟨some dd,.binOp .eql t x y t2,ty,pos,af,none⟩::rest) env h K:=by
 intro c ρ S a w Q s hQ;refine wpList_plain rfl fun K' hK'=>?_
 have p:=s.pre;have h3:=p.evu hx;simp only [R] at h3;obtain ⟨ad,cap,h4,hlc,hn,_⟩:=h3;have h5:=rL (p.evu hy);have run:(execOp a.eval ⟨some dd,.binOp .eql t x y t2,ty,pos,af,none⟩).run P w = .ok (.value (.bool ad.isNone)) w:=by
  have he:=Lib.run_eql_slice_nil w t e ad len cap 0 0 (T.elemOk _ _ ht);have hg:(eqGuard .eql t x y (.slice ad len cap) (.slice none 0 0)).run P w = .ok () w:=by cases ad <;> rfl
  simp [execOp,h4,h5,hg,he]
 have hv:=hk ad.isNone (fun h0=>by
  cases ad with
  | none=>have:=hn rfl;omega
  | some _=>rfl)
 unfold Oper.wp;rw [run];have hs:=s.post (d:=some dd) (m:=0) (x:=.b ad.isNone) (new:=[]) (y:=.bool ad.isNone) hd ⟨nD.refl _ _,rfl,fun _ _=>rfl,fun _ h=>h,fun _ h=>.inl h,fun k p h1 h2=>by omega,fun k k' p p' h1 h2=>by omega,lN _,fun j b hb=>by simp at hb⟩
 rw [List.append_nil] at hs;exact hK' _ _ (hv c ρ S _ w Q hs hQ)
end
theorem HS.freezeC {c:pS}{ρ:Pl}{S:Nat→Prop}{h:Hp}{w:World}{k:Nat}{x:AB}(s:HS c ρ S h w) (hk:h[k]? = some x) (hx:x≠.gone):HS c ρ (fun b=>S b∨∃ o,ρ k=some (b,o)) (h.set k .gone) w:=by
 have get:∀ {j:Nat} {b:AB},(h.set k .gone)[j]? = some b→b≠.gone→j≠k∧h[j]? = some b:=fun {j b} hj hg=>by
  rw [iC] at hj;split at hj
  ·split at hj
   ·cases hj;exact absurd rfl hg
   ·cases hj
  ·rename_i e;exact ⟨fun e'=>e e'.symm,hj⟩
 have l:iF ρ ρ S (fun b=>S b∨∃ o,ρ k=some (b,o)) w w:=⟨fun _ _ h=>h,fun _ h=>.inl h,fun _ _=>rfl,fun _ _ _ _ _ h=>h⟩
 refine ⟨fun j hj=>s.dom j (by simpa using hj),s.rng,fun j b hb=>?_,fun j b p hb hg hp=>?_,fun j j' b b' p p' hb hb' hg hg' hp hp' e=>s.inj j j' b b' p p' (get hb hg).2 (get hb' hg').2 hg hg' hp hp' e,fun b hb=>?_,s.ext,fun b hb=>.inl (s.st0 b hb),fun b hb=>?_,by simpa using s.mle,s.keep,s.glob.st (fun b hb=>.inl hb)⟩
 ·by_cases hg:b = .gone
  ·subst hg;trivial
  ·exact RB.later l (fun _ _ _=>rfl) (s.blk j b (get hb hg).2)
 ·obtain ⟨h1,h2⟩:=s.live j b p (get hb hg).2 hg hp;refine ⟨h1,fun hs=>?_⟩
  rcases hs with hs | ⟨o,ho⟩
  ·exact h2 hs
  ·exact (get hb hg).1 (s.inj j k b _ p _ (get hb hg).2 hk hg hx hp ho rfl)
 ·rcases hb with hb | ⟨o,ho⟩
  ·exact s.stab b hb
  ·exact s.rng k _ ho
 ·rcases hb with hb | ⟨o,ho⟩
  ·exact s.st1 b hb
  ·exact .inr (s.live k _ _ hk hx ho).1
theorem EV {S:Nat→Prop}{w:World}{ρ:Pl}{k off:Nat}{cs:List AV}(hi:AV.idfL cs=true) (hb:RB S w ρ (ρ k) (.cells cs)){y:Value}(hy:R S w (.ptr k off) ρ y):R (fun c=>S c∨∃ o,ρ k=some (c,o)) w (.pr cs off) ρ y:=by
 simp only [RB] at hb;obtain ⟨b,o,ys,h1,h2,h3⟩:=hb;simp only [R] at hy ⊢;obtain ⟨b',o',h4,rfl⟩:=hy;rw [h1] at h4;cases h4;exact ⟨b,o,ys,rfl,.inr ⟨o,h1⟩,h2.lies,zU2 (fun _ h=>.inl h) (xR ρ _ _ _ hi h3)⟩
theorem UO {P:Program}{f:FuncId}{args cs:List AV}{fn:Fn}(hi:AV.idfL cs=true) (h:aM P f args [] (.clo fn [] [.ptr 0 0]) [.cells cs]):aM P f args [] (.clo fn [] [.pr cs 0]) []:=by
 refine ⟨h.1,fun ρ S w vs hs ha=>(h.2 ρ S w vs hs ha).mono ?_⟩;rintro e w' ⟨y,ρ',S',rfl,h2,h3⟩;simp only [R,RL] at h3;obtain ⟨ys,zs,rfl,h4,y2,z2,e2,h5,e3⟩:=h3;refine ⟨_,_,_,rfl,(h2.freezeC (k:=0) rfl (by simp)).none rfl,?_⟩
 unfold R;refine ⟨ys,zs,rfl,?_,?_⟩
 ·simp only [RL];exact h4
 ·rw [e2,e3];simp only [RL];refine ⟨y2,[],rfl,JN ρ' _ _ _ rfl (EV hi (h2.blk 0 _ rfl) ?_),rfl⟩;simp only [R];exact h5
abbrev ints (l:List Int):List (List AV):=l.map fun n=>[AV.i n]
abbrev nats (l:List Nat):List Int:=l.map fun n:Nat=>(n:Int)
theorem dY (l:List Int):∀ e,e∈ints l→e.length=1:=by intro e he;obtain ⟨n,_,rfl⟩:=bD.1 he;rfl
theorem bF (l:List Int):∀ e,e∈ints l→AV.idfL e=true:=by intro e he;obtain ⟨i,_,rfl⟩:=bD.1 he;rfl
theorem VZ (l:List Int):AV.rfL (ints l).flatten=true:=by
 induction l with
 | nil=>rfl
 | cons c l ih=>exact ih
theorem EO (θ:Nat→Nat) (l:List Int):(ints l).map (AV.mapL θ)=ints l:=by
 rw [uF];rfl
theorem R0 (l:List Int):(ints l).flatten.all AV.one=true:=
 bJ.2 fun x hx=>by obtain ⟨i,_,rfl⟩:=bD.1 ((vP l)▸hx);rfl
theorem ZE (l:List Int):AV.idfL (ints l).flatten=true:=by
 induction l with
 | nil=>rfl
 | cons c l ih=>exact ih
theorem uO {l:List Int}{j:Int}{i:Nat}(d:Int) (h:i<l.length) (e:j=i):(ints l)[j.toNat]? = some [AV.i (l.getD i d)]:=by
 subst e;rw [bI,bN,aB h,aE,aB h];rfl
theorem CG {l:List Int}{j:Int}{i:Nat}(d:Int) (h:i<l.length) (e:j=i):(ints l)[0+j.toNat]? = some [AV.i (l.getD i d)]:=by
 rw [Nat.zero_add];exact uO d h e
theorem VX {l:List Int}{j x:Int}{i:Nat}(e:j=i):(ints l).set (0+j.toNat) [AV.i x]=ints (l.set i x):=by
 subst e;rw [Nat.zero_add,bI,← zC]
theorem uN:∀ i:Nat,i<1→([0]:List Nat)[i]? = some i:=by decide
theorem CS (h:Hp):∀ l:List Int,mM h (ints l).flatten (ints l).flatten
 | []=>.nil
 | _::l=>.cons (.v _) (CS h l)
theorem sS {h:Hp}{k n:Nat}{l:List Int}(hk:h[k]? = some (.arr (ints l) 1)) (hn:n=l.length):oX h (.sl k 0 n 1) (.rowE (ints l) 1):=by
 subst hn;have:=oX.sl (h:=h) (k:=k) (off:=0) (len:=l.length) hk (by simp) (by rw [jJ,bO (by simp)];exact CS h l)
 rwa [show l.length=(ints l).length by simp] at this ⊢
theorem jW {l:List (List AV)}{n:Nat}{x:List AV}(h:n=l.length):List.take n (List.drop 0 l)++[x]=l++[x]:=by
 rw [jJ,h,cM]
theorem I5 (l:List Int) (x:Int):ints l++[[AV.i x]]=ints (l++[x]):=by simp
theorem YX (l:List Nat) (x:Nat):ints (nats l)++[[AV.i (x:Int)]]=ints (nats (l++[x])):=by simp
theorem dD (l:List Int):(ints l).length=l.length:=aU _
theorem R5 (w:World):Sort.grow w #[]=w:=by simp [Sort.grow]
theorem zN4 {c:pS}{ρ:Pl}{S:Nat→Prop}{l:List Int}{w:World}{b o:Nat}(s:HS c ρ S [.arr (SA l) 1] w) (hp:ρ 0=some (b,o)) (hne:l≠[]):Sort.Holds (Value.int .i64) w b o l.toArray∧b<w.heap.size:=by
 obtain ⟨_,_,h3⟩:=s.blk 0 _ rfl;rcases h3 with h3 | ⟨b',o',ys,h4,h5,h6⟩
 ·exact absurd (nB.1 h3.1) hne
 ·rw [hp] at h4;cases h4;rw [vP] at h6;have h6:=B2.1 h6;subst h6;obtain ⟨c,ty,hc,hg⟩:=h5;refine ⟨fun j hj=>?_,(aJ.1 hc).1⟩;have hj:j<l.length:=by simpa using hj
  have:=hg j (.int .i64 l[j]) (by rw [bN,aB hj];rfl)
  refine ⟨?_,?_⟩
  ·unfold World.cell?;simp only [hc];rw [if_neg (by simp),this]
   congr 2;rw [getElem!_pos _ j (by simpa using hj)]
   simp
  ·unfold World.frozen?;simp only [hc];simp
theorem yO2 {c:pS}{ρ:Pl}{S:Nat→Prop}{l d:List Int}{w w':World}{b o n:Nat}{os:Array Obj}(s:HS c ρ S [.arr (SA l) 1] w) (hp:ρ 0=some (b,o)) (hne:l≠[]) (hl:d.length=l.length)
  (hw:w'=Sort.grow (Sort.putRow (Value.int .i64) (Sort.ahead w n) b o d.toArray) os):HS c ρ S [.arr (SA d) 1] w':=by
 obtain ⟨_,_,h3⟩:=s.blk 0 _ rfl;rcases h3 with h3 | ⟨b',o',ys,h4,h5,h6⟩
 ·exact absurd (nB.1 h3.1) hne
 ·rw [hp] at h4;cases h4;rw [vP] at h6;have h6:=B2.1 h6;subst h6;obtain ⟨c,ty,hc,hg⟩:=h5;have hb:=(aJ.1 hc).1;have hh:w'.heap[b]? = some (.cells (Sort.putCells (Value.int .i64) o d.toArray c) ty (0,0)):=by rw [hw];exact W3 hc hb
  obtain ⟨s',_⟩:=s.upd (k:=0) (b0:=.arr (SA l) 1) (nb:=.arr (SA d) 1) (w':=w') rfl (by simp) hp (by rw [hw];exact DA hc hb) (fun _=>by
   refine ⟨fun e he=>by obtain ⟨i,_,rfl⟩:=bD.1 he;rfl,RM,.inr ⟨b,o,d.map (Value.int .i64),rfl,⟨_,ty,hh,fun j y hj=>?_⟩,by rw [vP];exact B2.2 rfl⟩⟩
   rw [bN] at hj;obtain ⟨z,hz,rfl⟩:=fD.1 hj;obtain ⟨hjl,hz⟩:=aA.1 hz;have hold:=hg j (.int .i64 (l[j]'(by omega))) (by rw [bN,aB (by omega)];rfl)
   unfold Sort.putCells;rw [MR,hold];show some (if o≤o+j∧o+j<o+d.toArray.size then _ else _)=_
   rw [if_pos ⟨by omega,by simpa using hjl⟩]
   congr 2;rw [show o+j-o=j by omega,getElem!_pos _ j (by simpa using hjl)]
   simpa using hz)
  exact s'
theorem ME {P : Program} {f : FuncId} (hfn : ∃ fn, P.funcs[f]? = some fn ∧ (fn.name == "runtime.NumGoroutine") = false ∧ fn.body.isNone = false)
    (hs:∀ (blk off cap i j:Nat) (zs:List Int) (w:World),Sort.Holds (Value.int .i64) w blk off zs.toArray→zs.length≤cap→cap≤9223372036854775807→i≤j→j≤zs.length →
      Calls P f #[.slice (some ⟨blk,off,none⟩) zs.length cap,.int .i64 i,.int .i64 j] w fun e w'=>e = .returned (.slice (some ⟨blk,off,none⟩) (zs.length-(j-i)) cap)∧∃ q,w'=Sort.putRow (Value.int .i64) (Sort.ahead w q) blk off (zs.take i++zs.drop j++List.replicate (j-i) 0).toArray)
    (l:List Int) (i j:Nat) (hij:i≤j) (hj:j≤l.length) (hne:l≠[]) :
    aM P f [.sl 0 0 l.length 1,.i (i:Int),.i (j:Int)] [.arr (SA l) 1] (.sl 0 0 (l.length-(j-i)) 1) [.arr (SA (l.take i++l.drop j)) 1]:=by
  refine ⟨hfn,fun ρ S w vs s hv=>?_⟩
  simp only [RL] at hv;obtain ⟨y,_,rfl,hy,y2,_,rfl,hy2,y3,_,rfl,hy3,rfl⟩:=hv;simp only [R] at hy hy2 hy3;subst hy2 hy3;obtain ⟨a,cap,rfl,hcap,hy⟩:=hy;have hl0:0<l.length:=eO.2 hne;rcases hy with ⟨h0,_⟩ | ⟨b,o,hp,ha,hcl,hrm⟩
  · omega
  · obtain ⟨hH,hb⟩:=zN4 s hp hne;rw [GN,Nat.add_zero] at ha;subst ha;have hmax:maxLen≤9223372036854775807:=by decide
    refine (hs b o cap i j l w hH hcl (by omega) hij hj).mono fun e w' ⟨he,n,hw⟩=>?_
    subst he;have s':=yO2 (n:=n) (os:=#[]) (w':=w') (d:=l.take i++l.drop j++List.replicate (j-i) 0) s hp hne (by simp only [aD,aY,dK,List.length_replicate];omega) (by rw [R5];exact hw)
    have e2:SA (l.take i++l.drop j)=(SA (l.take i++l.drop j++List.replicate (j-i) 0)).take (l.take i++l.drop j).length:=by
      rw [← lB,rF (aX _),cM]
    refine ⟨_,ρ,S,rfl,?_,?_⟩
    · have:=s'.alter (k:=0) (b1:=.arr (SA (l.take i++l.drop j)) 1) rfl (fun h=>by rw [e2];exact MK _ h) (by simp)
      exact this
    · have hE:=s'.ext;have hx:room w' b (o+(0+cap)*1):=by
        have hext:nD (fun _=>True) w w':=?_;exact hext.room hrm;rw [hw];have:=s.blk 0 _ rfl;obtain ⟨_,_,h3⟩:=this;rcases h3 with h3 | ⟨b',o',ys,h4,h5,h6⟩
        · exact absurd (nB.1 h3.1) hne
        · rw [hp] at h4;cases h4;obtain ⟨c,ty,hc,_⟩:=h5;have:=DA (n:=n) (off:=o) (d:=l.take i++l.drop j++List.replicate (j-i) 0) (os:=#[]) hc hb;rw [R5] at this;exact this.mono fun _ _ _=>trivial
      simp only [R];exact ⟨_,cap,rfl,hcap,.inr ⟨b,o,hp,by simp,by omega,hx⟩⟩
section
variable {P:Program}
theorem HS.made {c:pS}{ρ:Pl}{S:Nat→Prop}{h:Hp}{w w':World}{x:AV}{b:AB}{y:Value}{q:Option (Nat × Nat)}(s:HS c ρ S h w) (hext:nD (fun _=>False) w w')
  (hq:∀ p,q=some p→w.heap.size≤p.1∧p.1<w'.heap.size)
  (hv:∀ ρ':Pl,ρ' h.length=q→(∀ k,k≠h.length→ρ' k=ρ k)→iF ρ ρ' S S w w'→R S w' x ρ' y∧RB S w' ρ' q b) :
  ∃ ρ',HS c ρ' S (h++[b]) w'∧R S w' x ρ' y∧iF ρ ρ' S S w w':=by
 let ρ':Pl:=fun k=>if k=h.length then q else ρ k
 have hd:=s.dom h.length (aX _);have e1:ρ' h.length=q:=if_pos rfl;have e2:∀ k,k≠h.length→ρ' k=ρ k:=fun k hk=>if_neg hk
 have l:iF ρ ρ' S S w w':=⟨fun k p hp=>by rw [e2 k (fun e=>by rw [e,hd] at hp;cases hp)];exact hp,fun _ h=>h,fun b hb=>hext.same b (s.stab b hb) (fun h=>h),fun _ _ _ _ _ hr=>hext.room hr⟩
 obtain ⟨v1,v2⟩:=hv ρ' e1 e2 l;refine ⟨ρ',s.post (m:=1) (new:=[b]) (x:=x) (y:=y) ⟨hext,rfl,fun k hk=>e2 k (by omega),fun _ h=>h,fun _ h=>.inl h,fun k p hk1 hk2 hp=>?_,fun k k' p p' a1 a2 a3 a4 _ _ _=>by omega,v1,fun j b' hb=>?_⟩,v1,l⟩
 ·have:k=h.length:=by omega
  subst this;rw [e1] at hp;obtain ⟨g1,g2⟩:=hq p hp;exact ⟨g1,g2,fun hS=>by have:=s.stab _ hS;omega⟩
 ·cases j with
  | zero=>
   simp only [eF,Option.some.injEq] at hb;subst hb;rw [Nat.add_zero,e1];exact v2
  | succ j=>simp at hb
theorem ZZ {w w':World}(h:RowKit.Below w.heap.size w w'):nD (fun _=>False) w w':=
 ⟨h.os,h.tape,h.output,h.size,fun b hb _=>h.block b hb,fun b c e fz hc=>⟨c,fz,by rw [h.block b (aJ.1 hc).1];exact hc,rfl⟩⟩
theorem zP3 {w:World}{k:Nat}{os:Array Obj}:nD (fun _=>False) w (Sort.grow (w.drewN k) os):=by
 have hh:∀ b,b<w.heap.size→(Sort.grow (w.drewN k) os).heap[b]? = w.heap[b]?:=fun b hb=>by
  show (w.heap++os)[b]? = _;rw [uA hb]
 exact ⟨rfl,rfl,rfl,by show w.heap.size≤(w.heap++os).size;rw [zV5];exact gZ _ _,fun b hb _=>hh b hb,fun b c e fz hc=>⟨c,fz,by rw [hh b (aJ.1 hc).1];exact hc,rfl⟩⟩
theorem HS.kept {c:pS}{ρ:Pl}{S:Nat→Prop}{h:Hp}{w w':World}(s:HS c ρ S h w) (hext:nD (fun _=>False) w w'):HS c ρ S h w':=by
 have:=s.post (m:=0) (new:=[]) (x:=.any) (y:=.nilIface) (ρ':=ρ) (S':=S) (w':=w') ⟨hext,rfl,fun _ _=>rfl,fun _ h=>h,fun _ h=>.inl h,fun k p a1 a2 _=>by omega,fun k k' p p' a1 a2=>by omega,by simp [R],fun j b hb=>by simp at hb⟩
 simpa using this
theorem IH {w:World}{b:Nat}{f:Obj→Obj}{o:Obj}(h:w.heap[b]? = some o):(w.heap.modify b f)[b]? = some (f o):=by
 simp [oE,h]
theorem Q5 {w:World}{b x:Nat}{f:Obj→Obj}(h:x≠b):(w.heap.modify b f)[x]? = w.heap[x]?:=by
 simp only [oE];rw [if_neg (Ne.symm h)]
theorem GL {f : FuncId} {T : TypeId} {x : AV} (hfn : ∃ fn, P.funcs[f]? = some fn ∧ (fn.name == "runtime.NumGoroutine") = false ∧ fn.body.isNone = false)
    (hs:∀ (b:Nat) (w:World),w.cell? ⟨b,0,none⟩=some (.pointer none)→w.shape? b=some (T,2)→w.frozen? ⟨b,0,none⟩=false→Calls P f #[.pointer (some ⟨b,0,none⟩)] w fun e w'=>e = .returned (.tuple #[])∧w'=w.setCell ⟨b,0,none⟩ (.pointer (some ⟨b,0,none⟩))) :
    aM P f [.ptr 0 0] [.var T [.v (.pointer none),x]] (.tup []) [.cells [.ptr 0 0,x]]:=by
  refine ⟨hfn,fun ρ S w vs s ha=>?_⟩
  simp only [RL,R] at ha;obtain ⟨y,ys,rfl,⟨b,o,hp,rfl⟩,rfl⟩:=ha;obtain ⟨b',c,h1,h2,h3⟩:=s.blk 0 _ rfl;rw [hp] at h1;obtain ⟨rfl,rfl⟩:b=b'∧o=0:=by simpa using h1
  simp only [RL,R] at h3;obtain ⟨v0,l1,hc,rfl,v1,l2,rfl,hx,rfl⟩:=h3;have hcc:c = #[.pointer none,v1]:=yJ5.1 hc;subst hcc;refine (hs b w (by simp [World.cell?,h2]) (by simp [World.shape?,h2]) (by simp [World.frozen?,h2])).mono fun e w' ⟨he,hw⟩=>?_
  have hb:w'.heap[b]? = some (.cells #[.pointer (some ⟨b,0,none⟩),v1] T (0,0)):=by
    rw [hw];show (w.heap.modify b _)[b]? = _;rw [IH h2];rfl
  have ho:∀ x,x≠b→w'.heap[x]? = w.heap[x]?:=fun x hx=>by rw [hw];exact Q5 hx
  have hext:nD (fun x=>x=b) w w':=by
    refine ⟨by rw [hw];rfl,by rw [hw];rfl,by rw [hw];rfl,by rw [hw];simp [World.setCell],fun x _ hx=>ho x hx,fun x cc ee fz hcc=>?_⟩
    by_cases hx:x=b
    · subst hx;rw [h2] at hcc;cases hcc;exact ⟨_,_,hb,rfl⟩
    · exact ⟨cc,fz,by rw [ho x hx];exact hcc,rfl⟩
  obtain ⟨g1,g2⟩:=s.upd (nb:=.cells [.ptr 0 0,x]) rfl (by simp) hp hext (fun l=>⟨b,0,[.pointer (some ⟨b,0,none⟩),v1],rfl,⟨_,T,hb,fun j y hj=>by rw [Nat.zero_add];simpa using hj⟩,by
    simp only [RL,R]
    exact ⟨_,_,rfl,⟨b,0,hp,rfl⟩,_,_,rfl,R.later l hx,rfl⟩⟩)
  exact ⟨.tuple #[],ρ,S,he,g1,by simp [R,RL]⟩
theorem sX {env:eG}{h:Hp}{d:Option Nat}{ty:TypeId}{pos:String}{af:Array Edge}{g:Option (Nat × Bool)}{t t2 te:TypeId}{x y:Operand}{u z:AV}(ht:P.underlying t=some (.pointer te)) (hx:evu env x=some u) (hz:u.plus 0=some z) (hy:evu env y=some (.v (.pointer none))) :
  bW P ⟨d,.binOp .eql t x y t2,ty,pos,af,g⟩ env h 0 (fun _=>.b false) (fun _=>[]):=by
 refine iD fun ρ S a w p=>⟨.bool false,?_,by simp [R]⟩
 obtain ⟨b,o,h1,_⟩:=DQ (p.evu hx) hz;have h2:=rL (p.evu hy);have ht':P.underlying t=some (.pointer (P.pointee t)):=by simp [Program.pointee,ht]
 have hq:eqGuard .eql t x y (.pointer (some ⟨b,o,none⟩)) (.pointer none)=pure ():=by rfl
 have hr:(binOp .eql t (.pointer (some ⟨b,o,none⟩)) (.pointer none)).run P w = .ok (.bool false) w:=by rw [run_eql_pointer_nil (P:=P) w t (some ⟨b,o,none⟩) ht'];rfl
 simp [execOp,h1,h2,hq,hr]
theorem TN {env:eG}{h:Hp}{d:Option Nat}{ty:TypeId}{pos:String}{af:Array Edge}{g:Option (Nat × Bool)}{t t2 te:TypeId}{x y:Operand}{k off:Nat}{i:TypeInfo}(ht:P.underlying t=some (.pointer te)) (hi:P.info? te=some i) (hx:evu env x=some (.ptr k off)) (hy:evu env y=some (.ptr k off)) :
  bW P ⟨d,.binOp .neq t x y t2,ty,pos,af,g⟩ env h 0 (fun _=>.b false) (fun _=>[]):=by
 refine iD fun ρ S a w p=>⟨.bool false,?_,by simp [R]⟩
 have h1:=p.evu hx;have h2:=p.evu hy;simp only [R] at h1 h2;obtain ⟨b,o,h3,h4⟩:=h1;obtain ⟨b',o',h5,h6⟩:=h2;rw [h3] at h5;cases h5;have hq:eqGuard .neq t x y (.pointer (some ⟨b,o+off,none⟩)) (.pointer (some ⟨b,o+off,none⟩))=pure ():=by rfl
 have:=Go.Lib.run_neq_ptr_same (P:=P) w (⟨b,o+off,none⟩:Addr) ht hi;simp [execOp,h4,h6,hq,this]
theorem LD {env:eG}{h:Hp}{d:Option Nat}{ty:TypeId}{pos:String}{af:Array Edge}{g:Option (Nat × Bool)}{ts:Array TypeId}{x:Operand}{k len:Nat}(hx:evu env x=some (.sl k 0 len 1)) (hl:0<len) :
  bW P ⟨d,.call { callee:=.builtin .unsafeSliceData,args:=#[x],argTypes:=ts },ty,pos,af,g⟩ env h 0 (fun _=>.ep k 0 0 1) (fun _=>[]):=by
 refine iD fun ρ S a w p=>?_
 have h1:=p.evu hx;simp only [R] at h1;obtain ⟨ad,cap,h2,_,h3⟩:=h1;rcases h3 with ⟨h0,_⟩ | ⟨b,o,h4,h5,h6,_⟩
 ·omega
 refine ⟨.pointer ad,?_,by simp only [R];exact ⟨b,o,h4,by rw [h5]⟩⟩
 have:=Go.Lib.run_unsafeSliceData_row (P:=P) w ts ty ⟨b,o,none⟩ len cap (by omega)
 have h5':ad=some ⟨b,o,none⟩:=by rw [h5];simp
 rw [h5'] at h2 ⊢;simp [execOp,resolve,invoke,builtin,h2,this]
theorem MD {f : FuncId} {name : String} {gi : Nat} {tab : List Int} (hfn : ∃ fn, P.funcs[f]? = some fn ∧ (fn.name == "runtime.NumGoroutine") = false ∧ fn.body.isNone = false)
    (hs:∀ (n:Int) (w:World),-9223372036854775808≤n→n≤9223372036854775807→Go.Lib.TabIs P w name .u64 tab→Calls P f #[.int .i64 n,.int .i64 10] w fun e w'=>e = .returned (.string ⟨(Go.Lib.itoa n).toArray⟩)∧∃ k os,w'=Sort.grow (w.drewN k) os)
    (hg:P.globalNamed name=some gi) (hgt:(gi,tab.map fun z=>AV.v (.int .u64 z))∈wZ) (n:Int) (h0:-9223372036854775808≤n) (h1:n≤9223372036854775807):aM P f [.i n,.i 10] [] (.s (Go.Lib.itoa n)) []:=by
  refine ⟨hfn,fun ρ S w vs s ha=>?_⟩
  simp only [RL,R] at ha;obtain ⟨y,ys,rfl,rfl,z,zs,rfl,rfl,rfl⟩:=ha;obtain ⟨_,ys,t,fz,g1,g2⟩:=s.glob gi _ hgt;have hT:Go.Lib.TabIs P w name .u64 tab:=by
    have e:ys.toList=tab.map fun z=>Value.int .u64 z:=by
      have:=MH (vs:=tab.map fun z=>Value.int .u64 z) (ys:=ys.toList) (ρ:=fun _=>none) (S:=S) (w:=w) (by simpa [uF,Function.comp_def] using g2)
      exact this
    unfold Go.Lib.TabIs World.var?;rw [hg];simp only [FW,g1];rw [← e]
  refine (hs n w h0 h1 hT).mono fun e w' ⟨he,k,os,hw⟩=>?_
  subst hw;exact ⟨_,ρ,S,he,s.kept zP3,by simp [R]⟩
end
end Go.Ab
namespace Go.Ab
open Go Go.WideElems
section
variable {P:Program}{n:Nat × Nat}{ops:Array Oper}{env:eG}{h:Hp}{K:eG→Hp→Prop}{rest:List Oper}{Q:Exit→eG→Hp→Prop}{code:Code}
theorem yI2 (k j e:Nat){cs:List AV}(hk:h[k]? = some (.cells cs)) (hj:cs[j]? = some .nils) (hv:AW P n code env (h.set k (.cells (cs.set j (.sl h.length 0 0 1)))++[.buf e []]) Q):AW P n code env h Q:=by
 intro c ρ S a w QQ s hQ;refine hv c ρ S a w QQ ⟨s.size,s.defers,s.env,?_,s.cm⟩ hQ
 have h1:=s.hs.alter (b1:=.cells (cs.set j (.sl h.length 0 0 1))) hk (fun hb=>by
  simp only [RB] at hb ⊢;obtain ⟨b,o,ys,h2,h3,h4⟩:=hb;refine ⟨b,o,ys,h2,h3,MI h4 fun y hy=>?_⟩
  obtain ⟨y',h5,h6⟩:=sH h4 _ _ hj;rw [hy] at h5;cases h5;rw [rL h6];simp only [R]
  exact ⟨none,0,rfl,bZ _,.inl ⟨trivial,rfl⟩⟩) (by simp)
 have hd:=h1.dom h.length (by simp)
 generalize hh:h.set k (.cells (cs.set j (.sl h.length 0 0 1)))=h' at h1 ⊢;have hl:h.length=h'.length:=by rw [← hh];simp
 rw [hl] at hd;have get:∀ {j:Nat} {b:AB},(h'++[.buf e []])[j]? = some b→h'[j]? = some b∨(j=h'.length∧b = .buf e []):=fun {j b} hj=>by
  by_cases hlt:j<h'.length
  ·rw [aG hlt] at hj;exact .inl hj
  ·have:=(aA.1 hj).1;simp at this;have e:j=h'.length:=by omega
   subst e;simp at hj;exact .inr ⟨rfl,hj.symm⟩
 refine ⟨fun k hk=>h1.dom k (by simp at hk;omega),h1.rng,fun k b hb=>?_,fun k b p hb hg hp=>?_,fun k k' b b' p p' hb hb' hg hg' hp hp' e=>?_,h1.stab,h1.ext,h1.st0,h1.st1,by simp;exact BE h1.mle,h1.keep,h1.glob⟩
 ·rcases get hb with hb | ⟨rfl,rfl⟩
  ·exact h1.blk k b hb
  ·exact .inl ⟨rfl,hd⟩
 ·rcases get hb with hb | ⟨rfl,rfl⟩
  ·exact h1.live k b p hb hg hp
  ·rw [hd] at hp;cases hp
 ·rcases get hb with hb | ⟨rfl,rfl⟩
  ·rcases get hb' with hb' | ⟨rfl,rfl⟩
   ·exact h1.inj k k' b b' p p' hb hb' hg hg' hp hp' e
   ·rw [hd] at hp';cases hp'
  ·rw [hd] at hp;cases hp
end
end Go.Ab
namespace Go.Proofs.Q
open Go Go.Ab
def xF6:List (Nat × TI):=[(1,⟨false,1,8,[.nilFunc]⟩),
 (2,⟨false,1,8,[.int .i64 0]⟩),
 (3,⟨false,1,8,[.int .i64 0]⟩),
 (4,⟨false,1,1,[.bool false]⟩),
 (5,⟨false,1,1,[.int .u8 0]⟩),
 (6,⟨false,1,1,[.int .u8 0]⟩),
 (7,⟨true,4,24,[.int .i64 0,.int .i64 0,.bool false,.int .u8 0]⟩),
 (8,⟨true,4,24,[.int .i64 0,.int .i64 0,.bool false,.int .u8 0]⟩),
 (9,⟨false,1,16,[.string ⟨#[]⟩]⟩),
 (10,⟨false,1,16,[.string ⟨#[]⟩]⟩),
 (11,⟨false,1,16,[.string ⟨#[]⟩]⟩),
 (12,⟨false,1,8,[.int .u64 0]⟩),
 (13,⟨true,2,24,[.string ⟨#[]⟩,.int .u64 0]⟩),
 (14,⟨true,2,24,[.string ⟨#[]⟩,.int .u64 0]⟩),
 (15,⟨false,1,8,[.pointer none]⟩),
 (16,⟨false,1,8,[.pointer none]⟩),
 (17,⟨false,1,8,[.pointer none]⟩),
 (18,⟨true,1,8,[.pointer none]⟩),
 (19,⟨true,1,8,[.pointer none]⟩),
 (21,⟨false,1,4,[.int .i32 0]⟩),
 (22,⟨false,1,24,[.slice none 0 0]⟩),
 (23,⟨false,1,24,[.slice none 0 0]⟩),
 (24,⟨false,1,24,[.slice none 0 0]⟩),
 (25,⟨false,1,24,[.slice none 0 0]⟩),
 (26,⟨true,4,96,[.slice none 0 0,.slice none 0 0,.slice none 0 0,.slice none 0 0]⟩),
 (27,⟨true,4,96,[.slice none 0 0,.slice none 0 0,.slice none 0 0,.slice none 0 0]⟩),
 (28,⟨true,4,32,[.int .i64 0,.int .i64 0,.int .i64 0,.int .i64 0]⟩),
 (29,⟨true,4,32,[.int .i64 0,.int .i64 0,.int .i64 0,.int .i64 0]⟩),
 (30,⟨false,1,24,[.slice none 0 0]⟩),
 (31,⟨false,1,8,[.nilFunc]⟩),
 (32,⟨false,1,8,[.nilFunc]⟩),
 (33,⟨false,1,8,[.pointer none]⟩),
 (34,⟨false,1,8,[.int .i64 0]⟩),
 (36,⟨false,1,8,[.nilFunc]⟩),
 (37,⟨false,1,8,[.pointer none]⟩),
 (39,⟨false,1,8,[.nilFunc]⟩),
 (40,⟨true,5,56,[.int .i64 0,.int .i64 0,.int .i64 0,.int .i64 0,.slice none 0 0]⟩),
 (41,⟨true,5,56,[.int .i64 0,.int .i64 0,.int .i64 0,.int .i64 0,.slice none 0 0]⟩),
 (42,⟨true,4,32,[.int .i64 0,.int .i64 0,.int .i64 0,.int .i64 0]⟩),
 (43,⟨true,4,32,[.int .i64 0,.int .i64 0,.int .i64 0,.int .i64 0]⟩),
 (44,⟨true,10,96,[.bool false,.int .i64 0,.int .i64 0,.int .i64 0,.int .i64 0,.slice none 0 0,.int .i64 0,.int .i64 0,.int .i64 0,.int .i64 0]⟩),
 (45,⟨true,10,96,[.bool false,.int .i64 0,.int .i64 0,.int .i64 0,.int .i64 0,.slice none 0 0,.int .i64 0,.int .i64 0,.int .i64 0,.int .i64 0]⟩),
 (46,⟨false,1,8,[.nilFunc]⟩),
 (47,⟨false,1,8,[.nilFunc]⟩),
 (48,⟨false,1,8,[.nilFunc]⟩),
 (50,⟨false,1,8,[.nilFunc]⟩),
 (51,⟨false,1,8,[.nilFunc]⟩),
 (52,⟨false,1,24,[.slice none 0 0]⟩),
 (53,⟨false,1,8,[.nilFunc]⟩),
 (54,⟨false,1,8,[.nilFunc]⟩),
 (55,⟨false,1,8,[.nilFunc]⟩),
 (56,⟨false,1,8,[.nilFunc]⟩),
 (57,⟨false,1,8,[.nilFunc]⟩),
 (58,⟨false,1,8,[.nilFunc]⟩),
 (60,⟨false,1,8,[.nilFunc]⟩),
 (61,⟨true,3,24,[.int .i64 0,.int .i64 0,.int .i64 0]⟩),
 (62,⟨true,3,24,[.int .i64 0,.int .i64 0,.int .i64 0]⟩),
 (63,⟨false,1,8,[.nilFunc]⟩),
 (64,⟨false,1,8,[.nilFunc]⟩),
 (65,⟨false,1,8,[.nilFunc]⟩),
 (66,⟨false,1,24,[.slice none 0 0]⟩),
 (67,⟨false,1,8,[.nilFunc]⟩),
 (68,⟨false,1,8,[.pointer none]⟩),
 (70,⟨false,1,8,[.nilFunc]⟩),
 (71,⟨false,1,8,[.nilFunc]⟩),
 (72,⟨true,3,24,[.int .i64 0,.int .i64 0,.bool false]⟩),
 (73,⟨true,3,24,[.int .i64 0,.int .i64 0,.bool false]⟩),
 (74,⟨false,1,8,[.nilFunc]⟩),
 (75,⟨false,1,24,[.slice none 0 0]⟩),
 (76,⟨false,1,24,[.slice none 0 0]⟩),
 (77,⟨true,6,128,[.slice none 0 0,.slice none 0 0,.pointer none,.slice none 0 0,.slice none 0 0,.slice none 0 0]⟩),
 (78,⟨true,6,128,[.slice none 0 0,.slice none 0 0,.pointer none,.slice none 0 0,.slice none 0 0,.slice none 0 0]⟩),
 (79,⟨false,1,8,[.pointer none]⟩),
 (81,⟨false,1,8,[.nilFunc]⟩),
 (82,⟨true,8,128,[.int .i64 0,.int .i64 0,.int .i64 0,.int .i64 0,.slice none 0 0,.slice none 0 0,.slice none 0 0,.slice none 0 0]⟩),
 (83,⟨true,8,128,[.int .i64 0,.int .i64 0,.int .i64 0,.int .i64 0,.slice none 0 0,.slice none 0 0,.slice none 0 0,.slice none 0 0]⟩),
 (84,⟨false,1,8,[.nilFunc]⟩),
 (85,⟨true,6,48,[.int .i64 0,.int .i64 0,.int .i64 0,.int .i64 0,.pointer none,.int .i64 0]⟩),
 (86,⟨true,6,48,[.int .i64 0,.int .i64 0,.int .i64 0,.int .i64 0,.pointer none,.int .i64 0]⟩),
 (87,⟨false,1,8,[.nilFunc]⟩),
 (88,⟨false,1,8,[.nilFunc]⟩),
 (89,⟨false,1,8,[.nilFunc]⟩),
 (90,⟨false,1,8,[.nilFunc]⟩),
 (91,⟨false,1,8,[.nilFunc]⟩),
 (92,⟨false,1,8,[.nilFunc]⟩),
 (93,⟨false,1,8,[.nilFunc]⟩),
 (95,⟨false,1,8,[.pointer none]⟩),
 (96,⟨false,1,8,[.nilFunc]⟩),
 (97,⟨false,1,8,[.nilFunc]⟩),
 (99,⟨true,2,24,[.string ⟨#[]⟩,.int .i64 0]⟩),
 (100,⟨true,2,24,[.string ⟨#[]⟩,.int .i64 0]⟩),
 (101,⟨false,1,8,[.nilFunc]⟩),
 (102,⟨false,1,8,[.nilFunc]⟩),
 (103,⟨false,1,24,[.slice none 0 0]⟩),
 (104,⟨true,8,128,[.int .i64 0,.int .i64 0,.int .i64 0,.int .i64 0,.slice none 0 0,.slice none 0 0,.slice none 0 0,.slice none 0 0]⟩),
 (105,⟨true,8,128,[.int .i64 0,.int .i64 0,.int .i64 0,.int .i64 0,.slice none 0 0,.slice none 0 0,.slice none 0 0,.slice none 0 0]⟩),
 (106,⟨true,2,16,[.int .i64 0,.int .i64 0]⟩),
 (107,⟨true,2,16,[.int .i64 0,.int .i64 0]⟩),
 (108,⟨false,1,24,[.slice none 0 0]⟩),
 (109,⟨true,3,56,[.slice none 0 0,.int .i64 0,.slice none 0 0]⟩),
 (110,⟨true,3,56,[.slice none 0 0,.int .i64 0,.slice none 0 0]⟩),
 (111,⟨false,1,24,[.slice none 0 0]⟩),
 (112,⟨true,2,48,[.slice none 0 0,.slice none 0 0]⟩),
 (113,⟨true,2,48,[.slice none 0 0,.slice none 0 0]⟩),
 (114,⟨true,9,152,[.int .i64 0,.int .i64 0,.int .i64 0,.int .i64 0,.slice none 0 0,.slice none 0 0,.slice none 0 0,.slice none 0 0,.slice none 0 0]⟩),
 (115,⟨true,9,152,[.int .i64 0,.int .i64 0,.int .i64 0,.int .i64 0,.slice none 0 0,.slice none 0 0,.slice none 0 0,.slice none 0 0,.slice none 0 0]⟩),
 (116,⟨false,1,8,[.nilFunc]⟩),
 (119,⟨false,1,8,[.nilFunc]⟩),
 (120,⟨false,1,8,[.nilFunc]⟩),
 (121,⟨false,1,8,[.nilFunc]⟩),
 (122,⟨false,1,8,[.nilFunc]⟩),
 (124,⟨false,1,8,[.nilFunc]⟩),
 (125,⟨false,1,8,[.nilFunc]⟩),
 (128,⟨false,1,8,[.nilFunc]⟩),
 (129,⟨true,2,24,[.string ⟨#[]⟩,.bool false]⟩),
 (130,⟨true,2,24,[.string ⟨#[]⟩,.bool false]⟩),
 (131,⟨false,1,8,[.nilFunc]⟩),
 (134,⟨false,1,8,[.nilFunc]⟩),
 (136,⟨false,1,8,[.nilFunc]⟩),
 (137,⟨false,1,8,[.nilFunc]⟩),
 (139,⟨false,1,8,[.nilFunc]⟩),
 (142,⟨false,1,8,[.nilFunc]⟩),
 (143,⟨false,1,8,[.nilFunc]⟩),
 (144,⟨false,1,8,[.nilFunc]⟩),
 (145,⟨false,1,8,[.nilFunc]⟩),
 (146,⟨false,1,8,[.nilFunc]⟩),
 (147,⟨false,1,8,[.nilFunc]⟩),
 (148,⟨false,1,8,[.nilFunc]⟩),
 (150,⟨false,1,8,[.nilFunc]⟩),
 (152,⟨false,1,8,[.nilFunc]⟩),
 (154,⟨false,1,8,[.nilFunc]⟩),
 (157,⟨false,1,8,[.nilFunc]⟩),
 (164,⟨false,1,8,[.int .u64 0]⟩),
 (165,⟨false,1,8,[.nilFunc]⟩),
 (167,⟨false,1,24,[.slice none 0 0]⟩),
 (172,⟨false,1,8,[.nilFunc]⟩),
 (173,⟨false,1,8,[.nilFunc]⟩),
 (174,⟨false,1,8,[.nilFunc]⟩),
 (176,⟨false,1,8,[.nilFunc]⟩),
 (177,⟨false,1,8,[.nilFunc]⟩),
 (180,⟨false,1,8,[.nilFunc]⟩),
 (181,⟨false,1,8,[.nilFunc]⟩),
 (183,⟨false,1,8,[.nilFunc]⟩),
 (184,⟨false,1,8,[.nilFunc]⟩),
 (186,⟨false,1,8,[.nilFunc]⟩),
 (187,⟨false,1,8,[.nilFunc]⟩),
 (188,⟨false,1,8,[.nilFunc]⟩),
 (189,⟨false,1,8,[.nilFunc]⟩),
 (190,⟨false,1,8,[.nilFunc]⟩),
 (192,⟨false,1,8,[.nilFunc]⟩),
 (193,⟨false,1,8,[.nilFunc]⟩),
 (194,⟨false,1,8,[.nilFunc]⟩),
 (195,⟨false,1,8,[.nilFunc]⟩),
 (197,⟨false,1,8,[.nilFunc]⟩),
 (198,⟨false,1,8,[.nilFunc]⟩),
 (200,⟨false,1,8,[.int .i64 0]⟩),
 (202,⟨false,1,8,[.nilFunc]⟩),
 (203,⟨false,1,8,[.nilFunc]⟩),
 (208,⟨false,1,4,[.int .u32 0]⟩),
 (209,⟨false,1,8,[.nilFunc]⟩),
 (210,⟨false,1,8,[.int .u64 0]⟩),
 (211,⟨false,1,8,[.nilFunc]⟩),
 (212,⟨false,1,8,[.pointer none]⟩),
 (213,⟨true,2,32,[.pointer none,.slice none 0 0]⟩),
 (214,⟨true,2,32,[.pointer none,.slice none 0 0]⟩),
 (215,⟨false,1,8,[.nilFunc]⟩),
 (216,⟨false,1,8,[.nilFunc]⟩),
 (219,⟨false,1,24,[.slice none 0 0]⟩),
 (221,⟨false,1,8,[.nilFunc]⟩),
 (222,⟨false,1,8,[.nilFunc]⟩),
 (225,⟨false,1,8,[.nilFunc]⟩),
 (226,⟨false,1,8,[.nilFunc]⟩),
 (228,⟨false,1,8,[.nilFunc]⟩),
 (231,⟨false,1,8,[.nilFunc]⟩),
 (246,⟨false,1,8,[.pointer none]⟩),
 (285,⟨true,4,40,[.pointer none,.pointer none,.pointer none,.string ⟨#[]⟩]⟩),
 (286,⟨true,4,40,[.pointer none,.pointer none,.pointer none,.string ⟨#[]⟩]⟩),
 (290,⟨false,1,1,[.int .u8 0]⟩),
 (291,⟨false,1,1,[.int .u8 0]⟩),
 (292,⟨false,1,8,[.nilFunc]⟩),
 (293,⟨false,1,4,[.int .i32 0]⟩),
 (294,⟨false,1,4,[.int .i32 0]⟩),
 (295,⟨true,11,48,[.int .u64 0,.int .u64 0,.int .u32 0,.int .u8 0,.int .u8 0,.int .u8 0,.int .u8 0,.nilFunc,.pointer none,.int .i32 0,.int .i32 0]⟩),
 (296,⟨true,11,48,[.int .u64 0,.int .u64 0,.int .u32 0,.int .u8 0,.int .u8 0,.int .u8 0,.int .u8 0,.nilFunc,.pointer none,.int .i32 0,.int .i32 0]⟩)]
set_option maxRecDepth 8000 in
theorem yN2:RW (fun t i=>∃ inf z,Tryz.prog.info? t=some inf∧inf.size=i.size∧inf.bytes=i.bytes∧inf.zero=some z∧z.cells.toList=i.zero∧i.zero.length=i.size∧FP Tryz.prog t=some i.agg) xF6:=
  ⟨tq (.nilFunc),tq (.int .i64 0),tq (.int .i64 0),tq (.bool false),tq (.int .u8 0),tq (.int .u8 0),tq (.agg #[.int .i64 0,.int .i64 0,.bool false,.int .u8 0]),tq (.agg #[.int .i64 0,.int .i64 0,.bool false,.int .u8 0]),tq (.string ⟨#[]⟩),tq (.string ⟨#[]⟩),tq (.string ⟨#[]⟩),tq (.int .u64 0),tq (.agg #[.string ⟨#[]⟩,.int .u64 0]),tq (.agg #[.string ⟨#[]⟩,.int .u64 0]),tq (.pointer none),tq (.pointer none),tq (.pointer none),tq (.agg #[.pointer none]),tq (.agg #[.pointer none]),tq (.int .i32 0),tq (.slice none 0 0),tq (.slice none 0 0),tq (.slice none 0 0),tq (.slice none 0 0),tq (.agg #[.slice none 0 0,.slice none 0 0,.slice none 0 0,.slice none 0 0]),tq (.agg #[.slice none 0 0,.slice none 0 0,.slice none 0 0,.slice none 0 0]),tq (.agg #[.int .i64 0,.int .i64 0,.int .i64 0,.int .i64 0]),tq (.agg #[.int .i64 0,.int .i64 0,.int .i64 0,.int .i64 0]),tq (.slice none 0 0),tq (.nilFunc),tq (.nilFunc),tq (.pointer none),tq (.int .i64 0),tq (.nilFunc),tq (.pointer none),tq (.nilFunc),tq (.agg #[.int .i64 0,.int .i64 0,.int .i64 0,.int .i64 0,.slice none 0 0]),tq (.agg #[.int .i64 0,.int .i64 0,.int .i64 0,.int .i64 0,.slice none 0 0]),tq (.agg #[.int .i64 0,.int .i64 0,.int .i64 0,.int .i64 0]),tq (.agg #[.int .i64 0,.int .i64 0,.int .i64 0,.int .i64 0]),tq (.agg #[.bool false,.int .i64 0,.int .i64 0,.int .i64 0,.int .i64 0,.slice none 0 0,.int .i64 0,.int .i64 0,.int .i64 0,.int .i64 0]),tq (.agg #[.bool false,.int .i64 0,.int .i64 0,.int .i64 0,.int .i64 0,.slice none 0 0,.int .i64 0,.int .i64 0,.int .i64 0,.int .i64 0]),tq (.nilFunc),tq (.nilFunc),tq (.nilFunc),tq (.nilFunc),tq (.nilFunc),tq (.slice none 0 0),tq (.nilFunc),tq (.nilFunc),tq (.nilFunc),tq (.nilFunc),tq (.nilFunc),tq (.nilFunc),tq (.nilFunc),tq (.agg #[.int .i64 0,.int .i64 0,.int .i64 0]),tq (.agg #[.int .i64 0,.int .i64 0,.int .i64 0]),tq (.nilFunc),tq (.nilFunc),tq (.nilFunc),tq (.slice none 0 0),tq (.nilFunc),tq (.pointer none),tq (.nilFunc),tq (.nilFunc),tq (.agg #[.int .i64 0,.int .i64 0,.bool false]),tq (.agg #[.int .i64 0,.int .i64 0,.bool false]),tq (.nilFunc),tq (.slice none 0 0),tq (.slice none 0 0),tq (.agg #[.slice none 0 0,.slice none 0 0,.pointer none,.slice none 0 0,.slice none 0 0,.slice none 0 0]),tq (.agg #[.slice none 0 0,.slice none 0 0,.pointer none,.slice none 0 0,.slice none 0 0,.slice none 0 0]),tq (.pointer none),tq (.nilFunc),tq (.agg #[.int .i64 0,.int .i64 0,.int .i64 0,.int .i64 0,.slice none 0 0,.slice none 0 0,.slice none 0 0,.slice none 0 0]),tq (.agg #[.int .i64 0,.int .i64 0,.int .i64 0,.int .i64 0,.slice none 0 0,.slice none 0 0,.slice none 0 0,.slice none 0 0]),tq (.nilFunc),tq (.agg #[.int .i64 0,.int .i64 0,.int .i64 0,.int .i64 0,.pointer none,.int .i64 0]),tq (.agg #[.int .i64 0,.int .i64 0,.int .i64 0,.int .i64 0,.pointer none,.int .i64 0]),tq (.nilFunc),tq (.nilFunc),tq (.nilFunc),tq (.nilFunc),tq (.nilFunc),tq (.nilFunc),tq (.nilFunc),tq (.pointer none),tq (.nilFunc),tq (.nilFunc),tq (.agg #[.string ⟨#[]⟩,.int .i64 0]),tq (.agg #[.string ⟨#[]⟩,.int .i64 0]),tq (.nilFunc),tq (.nilFunc),tq (.slice none 0 0),tq (.agg #[.int .i64 0,.int .i64 0,.int .i64 0,.int .i64 0,.slice none 0 0,.slice none 0 0,.slice none 0 0,.slice none 0 0]),tq (.agg #[.int .i64 0,.int .i64 0,.int .i64 0,.int .i64 0,.slice none 0 0,.slice none 0 0,.slice none 0 0,.slice none 0 0]),tq (.agg #[.int .i64 0,.int .i64 0]),tq (.agg #[.int .i64 0,.int .i64 0]),tq (.slice none 0 0),tq (.agg #[.slice none 0 0,.int .i64 0,.slice none 0 0]),tq (.agg #[.slice none 0 0,.int .i64 0,.slice none 0 0]),tq (.slice none 0 0),tq (.agg #[.slice none 0 0,.slice none 0 0]),tq (.agg #[.slice none 0 0,.slice none 0 0]),tq (.agg #[.int .i64 0,.int .i64 0,.int .i64 0,.int .i64 0,.slice none 0 0,.slice none 0 0,.slice none 0 0,.slice none 0 0,.slice none 0 0]),tq (.agg #[.int .i64 0,.int .i64 0,.int .i64 0,.int .i64 0,.slice none 0 0,.slice none 0 0,.slice none 0 0,.slice none 0 0,.slice none 0 0]),tq (.nilFunc),tq (.nilFunc),tq (.nilFunc),tq (.nilFunc),tq (.nilFunc),tq (.nilFunc),tq (.nilFunc),tq (.nilFunc),tq (.agg #[.string ⟨#[]⟩,.bool false]),tq (.agg #[.string ⟨#[]⟩,.bool false]),tq (.nilFunc),tq (.nilFunc),tq (.nilFunc),tq (.nilFunc),tq (.nilFunc),tq (.nilFunc),tq (.nilFunc),tq (.nilFunc),tq (.nilFunc),tq (.nilFunc),tq (.nilFunc),tq (.nilFunc),tq (.nilFunc),tq (.nilFunc),tq (.nilFunc),tq (.nilFunc),tq (.int .u64 0),tq (.nilFunc),tq (.slice none 0 0),tq (.nilFunc),tq (.nilFunc),tq (.nilFunc),tq (.nilFunc),tq (.nilFunc),tq (.nilFunc),tq (.nilFunc),tq (.nilFunc),tq (.nilFunc),tq (.nilFunc),tq (.nilFunc),tq (.nilFunc),tq (.nilFunc),tq (.nilFunc),tq (.nilFunc),tq (.nilFunc),tq (.nilFunc),tq (.nilFunc),tq (.nilFunc),tq (.nilFunc),tq (.int .i64 0),tq (.nilFunc),tq (.nilFunc),tq (.int .u32 0),tq (.nilFunc),tq (.int .u64 0),tq (.nilFunc),tq (.pointer none),tq (.agg #[.pointer none,.slice none 0 0]),tq (.agg #[.pointer none,.slice none 0 0]),tq (.nilFunc),tq (.nilFunc),tq (.slice none 0 0),tq (.nilFunc),tq (.nilFunc),tq (.nilFunc),tq (.nilFunc),tq (.nilFunc),tq (.nilFunc),tq (.pointer none),tq (.agg #[.pointer none,.pointer none,.pointer none,.string ⟨#[]⟩]),tq (.agg #[.pointer none,.pointer none,.pointer none,.string ⟨#[]⟩]),tq (.int .u8 0),tq (.int .u8 0),tq (.nilFunc),tq (.int .i32 0),tq (.int .i32 0),tq (.agg #[.int .u64 0,.int .u64 0,.int .u32 0,.int .u8 0,.int .u8 0,.int .u8 0,.int .u8 0,.nilFunc,.pointer none,.int .i32 0,.int .i32 0]),tq (.agg #[.int .u64 0,.int .u64 0,.int .u32 0,.int .u8 0,.int .u8 0,.int .u8 0,.int .u8 0,.nilFunc,.pointer none,.int .i32 0,.int .i32 0]),
   trivial⟩
def yL6:List (Nat × Nat):=[(22,100),(23,73),(24,3),(25,62),(30,45),(52,43),(66,41),(75,86),(76,4),(103,113),(108,107),(111,110),(167,5),(219,24)]
theorem zP6:RW (fun t e=>Tryz.prog.underlying t=some (.slice e)) yL6:=⟨kq,kq,kq,kq,kq,kq,kq,kq,kq,kq,kq,kq,kq,kq,trivial⟩
def xA0:List (Nat × (Nat × Nat)):=[(287,(0,16))]
theorem yI5:RW (fun t p=>Tryz.prog.underlying t=some (.array p.1 p.2)) xA0:=⟨kq,trivial⟩
def VL:List (Nat × List (Nat × Nat)):=[(7,[(0,1),(1,1),(2,1),(3,1)]),(8,[(0,1),(1,1),(2,1),(3,1)]),(13,[(0,1),(1,1)]),(14,[(0,1),(1,1)]),(18,[(0,1)]),(19,[(0,1)]),(26,[(0,1),(1,1),(2,1),(3,1)]),(27,[(0,1),(1,1),(2,1),(3,1)]),(28,[(0,1),(1,1),(2,1),(3,1)]),(29,[(0,1),(1,1),(2,1),(3,1)]),(40,[(0,1),(1,1),(2,1),(3,1),(4,1)]),(41,[(0,1),(1,1),(2,1),(3,1),(4,1)]),(42,[(0,1),(1,1),(2,1),(3,1)]),(43,[(0,1),(1,1),(2,1),(3,1)]),(44,[(0,1),(1,5),(6,4)]),(45,[(0,1),(1,5),(6,4)]),(61,[(0,1),(1,1),(2,1)]),(62,[(0,1),(1,1),(2,1)]),(72,[(0,1),(1,1),(2,1)]),(73,[(0,1),(1,1),(2,1)]),(77,[(0,1),(1,1),(2,1),(3,1),(4,1),(5,1)]),(78,[(0,1),(1,1),(2,1),(3,1),(4,1),(5,1)]),(82,[(0,4),(4,1),(5,1),(6,1),(7,1)]),(83,[(0,4),(4,1),(5,1),(6,1),(7,1)]),(85,[(0,4),(4,1),(5,1)]),(86,[(0,4),(4,1),(5,1)]),(99,[(0,1),(1,1)]),(100,[(0,1),(1,1)]),(104,[(0,4),(4,1),(5,1),(6,1),(7,1)]),(105,[(0,4),(4,1),(5,1),(6,1),(7,1)]),(106,[(0,1),(1,1)]),(107,[(0,1),(1,1)]),(109,[(0,1),(1,1),(2,1)]),(110,[(0,1),(1,1),(2,1)]),(112,[(0,1),(1,1)]),(113,[(0,1),(1,1)]),(114,[(0,4),(4,4),(8,1)]),(115,[(0,4),(4,4),(8,1)]),(129,[(0,1),(1,1)]),(130,[(0,1),(1,1)]),(213,[(0,1),(1,1)]),(214,[(0,1),(1,1)]),(285,[(0,1),(1,1),(2,1),(3,1)]),(286,[(0,1),(1,1),(2,1),(3,1)]),(288,[(0,0)]),(289,[(0,0)]),(295,[(0,1),(1,1),(2,1),(3,1),(4,1),(5,1),(6,1),(7,1),(8,1),(9,1),(10,1)]),(296,[(0,1),(1,1),(2,1),(3,1),(4,1),(5,1),(6,1),(7,1),(8,1),(9,1),(10,1)])]
theorem SV:RW (fun t l=>KM Tryz.prog t=some l) VL:=⟨kq,kq,kq,kq,kq,kq,kq,kq,kq,kq,kq,kq,kq,kq,kq,kq,kq,kq,kq,kq,kq,kq,kq,kq,kq,kq,kq,kq,kq,kq,kq,kq,kq,kq,kq,kq,kq,kq,kq,kq,kq,kq,kq,kq,kq,kq,kq,kq,trivial⟩
def zP0:List ((Nat × Nat) × Nat):=[((7,0),0),((7,1),1),((7,2),2),((7,3),3),((8,0),0),((8,1),1),((8,2),2),((8,3),3),((13,0),0),((13,1),1),((14,0),0),((14,1),1),((18,0),0),((19,0),0),((26,0),0),((26,1),1),((26,2),2),((26,3),3),((27,0),0),((27,1),1),((27,2),2),((27,3),3),((28,0),0),((28,1),1),((28,2),2),((28,3),3),((29,0),0),((29,1),1),((29,2),2),((29,3),3),((40,0),0),((40,1),1),((40,2),2),((40,3),3),((40,4),4),((41,0),0),((41,1),1),((41,2),2),((41,3),3),((41,4),4),((42,0),0),((42,1),1),((42,2),2),((42,3),3),((43,0),0),((43,1),1),((43,2),2),((43,3),3),((44,0),0),((44,1),1),((44,2),6),((45,0),0),((45,1),1),((45,2),6),((61,0),0),((61,1),1),((61,2),2),((62,0),0),((62,1),1),((62,2),2),((72,0),0),((72,1),1),((72,2),2),((73,0),0),((73,1),1),((73,2),2),((77,0),0),((77,1),1),((77,2),2),((77,3),3),((77,4),4),((77,5),5),((78,0),0),((78,1),1),((78,2),2),((78,3),3),((78,4),4),((78,5),5),((82,0),0),((82,1),4),((82,2),5),((82,3),6),((82,4),7),((83,0),0),((83,1),4),((83,2),5),((83,3),6),((83,4),7),((85,0),0),((85,1),4),((85,2),5),((86,0),0),((86,1),4),((86,2),5),((99,0),0),((99,1),1),((100,0),0),((100,1),1),((104,0),0),((104,1),4),((104,2),5),((104,3),6),((104,4),7),((105,0),0),((105,1),4),((105,2),5),((105,3),6),((105,4),7),((106,0),0),((106,1),1),((107,0),0),((107,1),1),((109,0),0),((109,1),1),((109,2),2),((110,0),0),((110,1),1),((110,2),2),((112,0),0),((112,1),1),((113,0),0),((113,1),1),((114,0),0),((114,1),4),((114,2),8),((115,0),0),((115,1),4),((115,2),8),((129,0),0),((129,1),1),((130,0),0),((130,1),1),((213,0),0),((213,1),1),((214,0),0),((214,1),1),((285,0),0),((285,1),1),((285,2),2),((285,3),3),((286,0),0),((286,1),1),((286,2),2),((286,3),3),((295,0),0),((295,1),1),((295,2),2),((295,3),3),((295,4),4),((295,5),5),((295,6),6),((295,7),7),((295,8),8),((295,9),9),((295,10),10),((296,0),0),((296,1),1),((296,2),2),((296,3),3),((296,4),4),((296,5),5),((296,6),6),((296,7),7),((296,8),8),((296,9),9),((296,10),10)]
theorem ZX:RW (fun (tf:Nat × Nat) o=>∃ fs fd inf,Tryz.prog.underlying tf.1=some (.struct fs)∧fs[tf.2]? = some fd∧fd.offset=o∧Tryz.prog.info? fd.type=some inf∧inf.size≠0) zP0:=
  ⟨fq,fq,fq,fq,fq,fq,fq,fq,fq,fq,fq,fq,fq,fq,fq,fq,fq,fq,fq,fq,fq,fq,fq,fq,fq,fq,fq,fq,fq,fq,fq,fq,fq,fq,fq,fq,fq,fq,fq,fq,fq,fq,fq,fq,fq,fq,fq,fq,fq,lM (n:=4) (by kernel_rfl),lM (n:=3) (by kernel_rfl),fq,lM (n:=4) (by kernel_rfl),lM (n:=3) (by kernel_rfl),fq,fq,fq,fq,fq,fq,fq,fq,fq,fq,fq,fq,fq,fq,fq,fq,fq,fq,fq,fq,fq,fq,fq,fq,lM (n:=3) (by kernel_rfl),fq,fq,fq,fq,lM (n:=3) (by kernel_rfl),fq,fq,fq,fq,lM (n:=3) (by kernel_rfl),fq,fq,lM (n:=3) (by kernel_rfl),fq,fq,fq,fq,fq,fq,lM (n:=3) (by kernel_rfl),fq,fq,fq,fq,lM (n:=3) (by kernel_rfl),fq,fq,fq,fq,fq,fq,fq,fq,fq,fq,fq,fq,fq,fq,fq,fq,fq,fq,lM (n:=3) (by kernel_rfl),lM (n:=3) (by kernel_rfl),fq,lM (n:=3) (by kernel_rfl),lM (n:=3) (by kernel_rfl),fq,fq,fq,fq,fq,fq,fq,fq,fq,fq,fq,fq,fq,fq,fq,fq,fq,fq,fq,fq,fq,fq,fq,fq,fq,fq,fq,fq,fq,fq,fq,fq,fq,fq,fq,fq,fq,fq,fq,
   trivial⟩
theorem cP:Tryz.prog.follows .mixedOrders=true:=by kernel_rfl
def T:pR Tryz.prog where
 ti:=EG xF6
 tiOk:=fun _ _ h=>F0 yN2 h
 elem:=EG yL6
 elemOk:=fun _ _ h=>F0 zP6 h
 field:=fun t f=>KV zP0 t f
 fieldOk:=fun _ _ _ h=>II ZX h
 arr:=EG xA0
 arrOk:=fun _ _ _ h=>F0 yI5 h
 places:=EG VL
 placesOk:=fun _ _ h=>F0 SV h
end Go.Proofs.Q
namespace Go.Proofs.Q
open Go Go.Ab Go.Shelf Go.Proofs
shelf_lay LaysM.n246 Nm 246 at Tryz as laysFmt
theorem zO3 (n:Int) (h0:-9223372036854775808≤n) (h1:n≤9223372036854775807):aM Tryz.prog 171 [.i n,.i 10] [] (.s (Go.Lib.itoa n)) []:=
  MD (name := "internal/strconv.uint64pow10") (gi := 0) (tab := Go.Lib.pow10Tab) ⟨_, Tryz.func171, by kernel_rfl, by kernel_rfl⟩ (fun n w h2 h3 h4 => Any.internal_strconv_FormatInt_10 laysFmt n h2 h3 w h4) (by kernel_rfl) (by unfold wZ Go.Lib.pow10Tab; simp [uF, Function.comp_def]) n h0 h1
theorem yK4:(Tryz.prog.info? 214).map (·.size)=some 2:=by kernel_rfl
theorem yY1:liesAt Tryz.prog Tryz.prog.depth 214 (2 / Tryz.prog.cellsOf 214) 0 214 1=true:=by kernel_rfl
theorem yV6:Tryz.prog.underlying 267=some .unsafePointer:=by kernel_rfl
theorem zW4:Tryz.prog.underlying 212=some (.pointer 214):=by kernel_rfl
set_option maxRecDepth 100000 in
theorem zQ9 (b:Nat) (w:World) (h0:w.cell? ⟨b,0,none⟩=some (.pointer none)) (hsh:w.shape? b=some (214,2)) (hfz:w.frozen? ⟨b,0,none⟩=false) :
  Calls Tryz.prog 208 #[.pointer (some ⟨b,0,none⟩)] w fun e w'=>e = .returned (.tuple #[])∧w'=w.setCell ⟨b,0,none⟩ (.pointer (some ⟨b,0,none⟩)):=by
 obtain ⟨j,hj,hjs⟩:=fD.1 yK4
 go_enter Tryz.func208,Tryz.ntmps208
 go_wp2
 rw [Go.Lib.run_to_unsafe w ⟨b,0,none⟩ zW4 yV6 hj (by rw [hjs];decide) hsh (Nat.zero_lt_succ 1)]
 simp only [Result.andThen];rw [Oper.upon_value]
 go_wp2
 rw [run_callFunc_extern Tryz.func231 (by kernel_rfl) (by kernel_rfl) (by kernel_rfl) (e:=Extern.AbiNoEscape.same) (by kernel_rfl)]
 rw [Go.Lib.run_noEscape];simp only [Result.andThen];rw [Oper.upon_value]
 go_wp2
 rw [Go.Lib.run_from_unsafe w ⟨b,0,none⟩ yV6 zW4 hj hsh yY1];simp only [Result.andThen];rw [Oper.upon_value]
 go_wp2
 go_end0
 exact ⟨rfl,rfl⟩
theorem zB0 (x:AV):aM Tryz.prog 208 [.ptr 0 0] [.var 214 [.v (.pointer none),x]] (.tup []) [.cells [.ptr 0 0,x]]:=
 GL ⟨_,Tryz.func208,by kernel_rfl,by kernel_rfl⟩ (fun b w h1 h2 h3=>zQ9 b w h1 h2 h3)
end Go.Proofs.Q
namespace Go.Ab
open Go
def yL3 (H:Hp) (pos:Nat):List AB→Hp
 | []=>H
 | b::_=>H.set pos b
theorem pE (A B:Hp) (b c:AB):(A++(c::B)).set A.length b=A++(b::B):=by
 rw [jC _ _ (aX _),eI];rfl
def iU (P:Program) (o:Oper) (env:eG) (h:Hp) (pos k:Nat) (nb:AB) (x:AV) (new:List AB):Prop:=
 ∀ c ρ S a w H,HS c ρ S H w→GM ρ S env h a w→(∀ (j:Nat) b,h[j]? = some b→b≠.gone→H[j]? = some b)→(new=[]∨(ρ pos=none∧H[pos]? = some .gone∧c.m≤pos))→∀ (K:Act→World→Prop) Q,
  (∀ y ρ' S' w',HS c ρ' S' (yL3 (H.set k nb) pos new) w'→iF ρ ρ' S S' w w'→R S' w' x ρ' y→(∀ j,(new≠[]→j≠pos)→ρ' j=ρ j)→K (a.put o.dst y) w')→o.wp P a w K Q
theorem iU.more {P:Program}{o:Oper}{env env':eG}{h:Hp}{pos k:Nat}{nb:AB}{x:AV}{new:List AB}(hs:iU P o env h pos k nb x new) (he:∀ t u,look env t=some u→look env' t=some u):iU P o env' h pos k nb x new:=
 fun c ρ S a w H g p=>hs c ρ S a w H g ⟨fun t u hu=>p.env t u (he t u hu),p.rng,p.blk,p.live,p.stab,p.glob⟩
theorem BB.a {P:Program}{op:Op}{ty:TypeId}{ps:String}{af:Array Edge}{env:eG}{h:Hp}{pos k:Nat}{nb:AB}(hs:BB P ⟨none,op,ty,ps,af,none⟩ env h k nb):iU P ⟨none,op,ty,ps,af,none⟩ env h pos k nb (.v undef) []:=
 fun c ρ S a w H g p hb _ K Q hK=>hs c ρ S a w H g p hb K Q fun _ w' hh l=>hK undef ρ S w' hh l (lN _) (fun _ _=>rfl)
theorem xF.astep {P:Program}{n:Nat × Nat}{c:pS}{env:eG}{h h':Hp}{all:List nS}{L L':Nat→Bool}{ρ ρ':Pl}{S S':Nat→Prop}{a:Act}{w w':World}{i:Nat}{f:nS}{y:Value}(s:xF P n c env h all L ρ S a w)
  (hf:all[i]? = some f) (hL:∀ j,L' j=(L j||Nat.beq j i)) (hd:GH f.d n=true) (hnd:(jS all).Nodup) (henv:∀ t x,look env t=some x→t∉jS all)
  (hh:HS c ρ' S' (h'++kQ L' 0 all) w') (hl:h'.length=h.length) (l:iF ρ ρ' S S' w w') (hv:R S' w' f.x ρ' y) (hρ:∀ j,(f.new≠[]→j≠h.length+nN (all.take i))→ρ' j=ρ j) (hn1:f.new.length≤1) :
  xF P n c env h' all L' ρ' S' (a.put f.d y) w':=by
 have hil:i<all.length:=(aA.1 hf).1;have dst_ne:∀ {j:Nat} {g:nS} {t:Nat},all[j]? = some g→j≠i→g.d=some t→f.d≠some t:=fun {j g t} hg hne hgt hft=>by
  have key:∀ {l:List nS} {i j:Nat} {f g:nS},(jS l).Nodup→l[i]? = some f→l[j]? = some g→i<j→f.d=some t→g.d=some t→False:=by
   intro l
   induction l with
   | nil=>intro i j f g _ h1;simp at h1
   | cons e l ih=>
    intro i j f g hnd h1 h2 hij hf hg;have tail:(jS l).Nodup:=by
     unfold jS at hnd ⊢;rw [M2] at hnd;split at hnd
     ·exact hnd
     ·exact (fR.1 hnd).2
    cases j with
    | zero=>omega
    | succ j=>
     simp only [kW] at h2;cases i with
     | zero=>
      simp only [eF,Option.some.injEq] at h1;subst h1;unfold jS at hnd;rw [M2,hf] at hnd;exact (fR.1 hnd).1 (kP.2 ⟨g,aQ h2,hg⟩)
     | succ i=>exact ih tail (by simpa using h1) h2 (by omega) hf hg
  rcases jI hne with h1 | h1
  ·exact key hnd hg hf h1 hgt hft
  ·exact key hnd hf hg h1 hft hgt
 have other:∀ {t:Nat},f.d≠some t→(a.put f.d y).tmps.getD t undef=a.tmps.getD t undef:=fun {t} ht=>by
  cases hfd:f.d with
  | none=>rfl
  | some d=>exact vR (fun e=>ht (by rw [hfd,e]))
 refine ⟨by rw [mT];exact s.size,by rw [kN];exact s.defers.later l,s.cm,fun t x hx=>?_,fun j g t hg hj ht=>?_,hh,fun j g hg hj k hk=>?_⟩
 ·rw [other (fun e=>henv t x hx (kP.2 ⟨f,aQ hf,e⟩))];exact (s.env0 t x hx).later l
 ·by_cases hji:j=i
  ·subst hji;rw [hf] at hg;cases hg;rw [ht] at hd ⊢;have hlt:t<a.tmps.size:=by rw [s.size];exact aI hd
   rw [xL hlt];exact hv
  ·rw [other (dst_ne hg hji ht)];have hjL:L j=true:=by
    rw [hL] at hj;rcases jB.1 hj with hj | hj
    ·exact hj
    ·exact absurd (aS hj) hji
   exact (s.done j g t hg hjL ht).later l
 ·have hjL:L j=false:=by rw [hL] at hj;exact (pC.1 hj).1
  have hji:j≠i:=fun e=>by rw [hL,e,fN,zE] at hj;cases hj
  have:=s.undone j g hg hjL k hk;rw [hl];rw [hρ _ (fun hne e=>?_)];exact this;have lens_take:∀ (l:List nS) (a b:Nat) (f:nS),a<b→l[a]? = some f→nN (l.take a)+f.new.length≤nN (l.take b):=by
   intro l
   induction l with
   | nil=>intro a b f _ h;simp at h
   | cons e l ih=>
    intro a b f hab h;cases b with
    | zero=>omega
    | succ b=>
     cases a with
     | zero=>simp at h;subst h;simp [nN]
     | succ a=>simp only [nA,nN];have:=ih a b f (by omega) (by simpa using h);omega
  rcases jI hji with h1 | h1
  ·have:=lens_take all j i g h1 hg;omega
  ·have:=lens_take all i j f h1 hf;have h2:0<f.new.length:=eO.2 hne;omega
def xB2 (P:Program) (n:Nat × Nat) (ops:Array Oper) (pres:List (List Nat)) (ss:List (Nat × Nat)) (ds:List Nat) (env:eG) (h:Hp) (effs:List nS) (don:List AB) (K:eG→Hp→Prop):Prop:=
 ∃ more mb,(effs++more).length=pres.length∧(don++mb).length=ss.length∧jS (effs++more)=ds ∧
  (∀ i f pre,effs.length≤i→(effs++more)[i]? = some f→pres[i]? = some pre →
   ((∀ x,x∈ss→x.1≠i)∧JP P ops i (B4 env ((effs++more).take i) pre) (seeH pres i pre ss (don++mb) h++kQ (fun j=>pre.any (Nat.beq j)) 0 ((effs++more).take i)) f) ∨
   (∃ (m k:Nat) (b:AB) (o:Oper),ss[m]? = some (i,k)∧(don++mb)[m]? = some b∧o.dst=f.d∧f.new.length≤1∧ops[i]? = some o∧(o.guard=none∨∃ g want t,o.guard=some (g,want)∧(ops[g]?).bind (·.dst)=some t∧look (B4 env ((effs++more).take i) pre) t=some (.b want))∧k<h.length∧iU P o (B4 env ((effs++more).take i) pre) (seeH pres i pre ss (don++mb) h++kQ (fun j=>pre.any (Nat.beq j)) 0 ((effs++more).take i)) (h.length+nN ((effs++more).take i)) k b f.x f.new)) ∧
  VC P n ops (ops.toList.drop pres.length) (B4 env (effs++more) (List.range pres.length)) (fC (fun _=>true) ss (don++mb) h++kQ (fun _=>true) 0 (effs++more)) K
theorem zR9 {P:Program}{n:Nat × Nat}{env:eG}{h:Hp}{Q:Exit→eG→Hp→Prop}{id:Nat}{l:List Oper}(pres:List (List Nat)) (ds:List Nat) (ss:List (Nat × Nat)) (hm:P.follows .mixedOrders=true) (hok:vM l.toArray pres=true) (hss:RZ pres ss=true) (hssl:(ss.all fun x=>Nat.blt x.1 pres.length)=true) (hnd:ds.Nodup) (hds:(ds.all fun d=>Nat.blt d n.1)=true) (hsz:Nat.ble pres.length l.length=true)
  (hv:xB2 P n l.toArray pres ss ds (eP ds env) h [] [] (fun v h=>Q .normal v h)) (hndf:nW l=true:=by rfl):AW P n (.region id l.toArray true) env h Q:=by
 intro c ρ S a w QX s hX;refine pX hm hndf ?_;have hQ:∀ (env':eG) (h':Hp) ρ' S' a' w',Q .normal env' h'→qL n c ρ' S' env' h' a' w'→(fun e a w=>e=Exit.normal∧QX Exit.normal a w) Exit.normal a' w':=fun env' h' ρ' S' a' w' k s'=>⟨rfl,hX .normal env' h' ρ' S' a' w' k s'⟩
 generalize (fun e a w=>e=Exit.normal∧QX Exit.normal a w)=QQ at hQ ⊢;obtain ⟨all,bs,h1,hbl,h2,h3,h4⟩:=hv;simp only [List.nil_append,List.length_nil,bZ,true_implies] at h1 hbl h2 h3 h4;have hAT:∀ L:Nat→Bool,(∀ j,j<pres.length→L j=true)→fC L ss bs h=fC (fun _=>true) ss bs h:=fun L hL=>pH ss bs h fun x hx=>hL x.1 (by have:=bJ.1 hssl x hx;exact aI this)
 have hple:pres.length≤l.toArray.size:=by simpa using aI hsz
 have henv:∀ t x,look (eP ds env) t=some x→look env t=some x∧t∉jS all:=fun t x hx=>by rw [h2];exact lA hx
 -- the first operations,in whatever order
 have key:∀ (fuel:Nat) (listed:Array Bool) (U:List Nat) (ρ:Pl) (S:Nat→Prop) (a:Act) (w:World),listed.size=l.toArray.size→(∀ j,j<l.toArray.size→listed.getD j false=false→j∈U)→U.length≤fuel→(∀ j,pres.length≤j→listed.getD j false=false) →
   (∀ (i:Nat) o,l.toArray[i]? = some o→listed.getD i false=true→∀ e,e∈o.after→Region.binds .any e=true→listed.getD e.on false=true) →
   xF P n c (eP ds env) (fC (fun j=>listed.getD j false) ss bs h) all (fun j=>listed.getD j false) ρ S a w→wpAny P .any l.toArray QQ fuel listed a w:=by
  intro fuel
  induction fuel with
  | zero=>
   intro listed U ρ S a w hls hU hUl htail hcl st;have hU0:U=[]:=cJ (by omega)
   subst hU0;have hall:∀ j,j<l.toArray.size→listed.getD j false=true:=fun j hj=>by
    cases hb:listed.getD j false with
    | true=>rfl
    | false=>exact absurd (hU j hj hb) (by simp)
   have hpm:pres.length=l.toArray.size:=by
    rcases jO pres.length l.toArray.size with h5 | h5
    ·have:=htail pres.length (aX _);rw [hall _ h5] at this;cases this
    ·omega
   refine sQ (k:=pres.length) (r:=0) hok _ _ a w (by omega) (aX _) (aX _) hls (fun j hj=>?_) (h4 c ρ S a w QQ ?_ fun env' h' ρ' S' a' w' k s'=>hQ env' h' ρ' S' a' w' k s')
   ·rw [hall j hj];simp;omega
   ·refine ⟨st.size,st.defers,fun t x hx=>?_,?_,st.cm⟩
    ·rcases nT hx with hx | ⟨j,f,h5,h6,h7,rfl⟩
     ·exact st.env0 t x hx
     ·exact st.done j f t h6 (hall j (by have:=(aA.1 h6).1;omega)) h7
    ·have:=st.hs
     rwa [mX (L:=fun j=>listed.getD j false) (L':=fun _=>true) all 0 (fun j _ hj=>hall j (by omega)),hAT _ (fun j hj=>hall j (by omega))] at this
  | succ fuel ih=>
   intro listed U ρ S a w hls hU hUl htail hcl st;by_cases hfl:∀ j,j<pres.length→listed.getD j false=true
   ·-- all of the first ones have come up
    refine sQ (k:=pres.length) (r:=l.toArray.size-pres.length) hok _ _ a w (by omega) (aX _) ?_ hls (fun j hj=>?_) (h4 c ρ S a w QQ ?_ fun env' h' ρ' S' a' w' k s'=>hQ env' h' ρ' S' a' w' k s')
    ·have hsub:∀ j,j∈List.range' pres.length (l.toArray.size-pres.length)→j∈U:=fun j hj=>by
      rw [zV0] at hj;exact hU j (by omega) (htail j hj.1)
     have:=(zU9 (s:=pres.length) (n:=l.toArray.size-pres.length)).length_le_of_subset hsub;rw [zC0] at this;omega
    ·by_cases hj':j<pres.length
     ·rw [hfl j hj'];simp [hj']
     ·rw [htail j (by omega)];simp;omega
    ·refine ⟨st.size,st.defers,fun t x hx=>?_,?_,st.cm⟩
     ·rcases nT hx with hx | ⟨j,f,h5,h6,h7,rfl⟩
      ·exact st.env0 t x hx
      ·exact st.done j f t h6 (hfl j (by have:=(aA.1 h6).1;omega)) h7
     ·have:=st.hs
      rwa [mX (L:=fun j=>listed.getD j false) (L':=fun _=>true) all 0 (fun j _ hj=>hfl j (by omega)),hAT _ hfl] at this
   ·obtain ⟨j0,hj0,hjf⟩:∃ j,j<pres.length∧listed.getD j false=false:=by
     apply Classical.byContradiction;intro hc;apply hfl;intro j hj;cases hb:listed.getD j false with
     | true=>rfl
     | false=>exact absurd ⟨j,hj,hb⟩ hc
    -- something is ready
    have hex:Region.ready .any l.toArray listed≠[]:=by
     have gW:∃ j,j<pres.length∧listed.getD j false=false∧∀ k,k<j→listed.getD k false=true:=by
      have:∀ b j,j≤b→j<pres.length→listed.getD j false=false→∃ j,j<pres.length∧listed.getD j false=false∧∀ k,k<j→listed.getD k false=true:=by
       intro b
       induction b with
       | zero=>exact fun j hj h5 h6=>⟨j,h5,h6,fun k hk=>by omega⟩
       | succ b ihb=>
        intro j hj h5 h6;by_cases hk:∃ k,k<j∧listed.getD k false=false
        ·obtain ⟨k,hk1,hk2⟩:=hk;exact ihb k (by omega) (by omega) hk2
        ·refine ⟨j,h5,h6,fun k hk'=>?_⟩
         cases hb:listed.getD k false with
         | true=>rfl
         | false=>exact absurd ⟨k,hk',hb⟩ hk
      exact this j0 j0 (aX _) hj0 hjf
     obtain ⟨j,h5,h6,h7⟩:=gW;intro he;have hlt:j<l.toArray.size:=by omega
     have:j∈Region.ready .any l.toArray listed:=mem_ready.2 ⟨by
      have e:listed.getD j true=listed.getD j false:=by simp only [Array.getD,hls,hlt,dif_pos]
      rw [e,h6],_,dQ hlt,fun e he hb=>h7 _ (lU hok (dQ hlt) e he hb)⟩
     rw [he] at this;cases this
    refine ⟨fun h5=>absurd h5 hex,fun i hi=>?_⟩
    obtain ⟨g1,o,ho,hall⟩:=mem_ready.1 hi;have hil:i<l.toArray.size:=(aJ.1 ho).1;have g1':listed.getD i false=false:=by
     have e:listed.getD i true=listed.getD i false:=by simp only [Array.getD,hls,hil,dif_pos]
     rw [← e];exact g1
    have him:i<pres.length:=by
     rcases jO i pres.length with h5 | h5
     ·exact h5
     ·obtain ⟨e,he,hb,hon⟩:=wV hok ho h5 j0 (by omega)
      have:=hall e he hb;rw [hon,hjf] at this;cases this
    have hfi:all[i]? = some all[i]:=aB (by omega)
    obtain ⟨pre,hpre⟩:∃ pre,pres[i]? = some pre:=⟨_,aB him⟩
    -- its predecessors have come up
    have up:∀ (b k:Nat) (p:List Nat),k≤b→pres[k]? = some p→(k=i∨listed.getD k false=true)→∀ j,j∈p→listed.getD j false=true:=by
     intro b
     induction b with
     | zero=>
      intro k p hk hp _ j hj;obtain ⟨ok,hok1⟩:∃ o,l.toArray[k]? = some o:=⟨_,dQ (by have:=(aA.1 hp).1;omega)⟩
      have:=(qR hok hok1 hp j hj).1;omega
     | succ b ihb=>
      intro k p hk hp hki j hj;obtain ⟨ok,hok1⟩:∃ o,l.toArray[k]? = some o:=⟨_,dQ (by have:=(aA.1 hp).1;omega)⟩
      obtain ⟨_,e,he,hb,hor⟩:=qR hok hok1 hp j hj;have hle:listed.getD e.on false=true:=by
       rcases hki with rfl | hki
       ·rw [ho] at hok1;cases hok1;exact hall e he hb
       ·exact hcl k ok hok1 hki e he hb
      rcases hor with hor | hor
      ·rw [← hor];exact hle
      ·have hon:=lU hok hok1 e he hb;cases hpe:pres[e.on]? with
       | none=>rw [aE,hpe] at hor;simp at hor
       | some p'=>
        rw [aE,hpe] at hor;exact ihb e.on p' (by omega) hpe (.inr hle) j hor
    have hprel:∀ j,j∈pre→listed.getD j false=true:=up i i pre (aX _) hpre (.inl rfl);have hH0:(fC (fun j=>listed.getD j false) ss bs h).length=h.length:=oW _ _ _ _;have hhv:(seeH pres i pre ss bs h).length=h.length:=vK _ _ _ _ _;have hbel:∀ (k:Nat) b,(seeH pres i pre ss bs h)[k]? = some b→b≠.gone→(fC (fun j=>listed.getD j false) ss bs h)[k]? = some b:=by
     refine W6 ss bs h h hbl rfl (fun _ _ hb _=>hb) (fun x _ hp=>hprel _ (pI.1 hp)) (fun x hx _ hbf=>?_);cases hlx:listed.getD x.1 false with
     | false=>rfl
     | true=>
      rcases jB.1 hbf with h5 | h5
      ·rw [aS h5,g1'] at hlx;cases hlx
      ·cases hpx:pres[x.1]? with
       | none=>rw [aE,hpx] at h5;simp at h5
       | some px=>
        rw [aE,hpx] at h5;have:=up x.1 x.1 px (aX _) hpx (.inr hlx) i (pI.1 h5);rw [g1'] at this;cases this
    have hbel2:∀ (k:Nat) b,(seeH pres i pre ss bs h++kQ (fun j=>pre.any (Nat.beq j)) 0 (all.take i))[k]? = some b→b≠.gone→(fC (fun j=>listed.getD j false) ss bs h++kQ (fun j=>listed.getD j false) 0 all)[k]? = some b:=fun k b hb hgb=>by
     by_cases hk:k<h.length
     ·rw [aG (by omega)] at hb ⊢;exact hbel k b hb hgb
     ·rw [aF (by omega)] at hb ⊢
      rw [hhv] at hb;rw [hH0];have h5:=P7 (L':=fun j=>listed.getD j false) _ _ _ _ (fun j hj=>hprel j (pI.1 hj)) hb hgb;have h6:kQ (fun j=>listed.getD j false) 0 all=kQ (fun j=>listed.getD j false) 0 (all.take i)++kQ (fun j=>listed.getD j false) (0+(all.take i).length) (all.drop i):=by
       rw [← sT,bK]
      rw [h6,aG (aA.1 h5).1];exact h5
    have hpreP:GM ρ S (B4 (eP ds env) (all.take i) pre) (seeH pres i pre ss bs h++kQ (fun j=>pre.any (Nat.beq j)) 0 (all.take i)) a w:=by
     refine ⟨fun t x hx=>?_,st.hs.rng,fun k b hb=>?_,fun k b p hb hgb hp=>(st.hs.live k b p (hbel2 k b hb hgb) hgb hp).2,st.hs.stab,st.hs.glob⟩
     ·rcases nT hx with hx | ⟨j,f,h5,h6,h7,rfl⟩
      ·exact st.env0 t x hx
      ·rw [cE] at h6;split at h6
       ·exact st.done j f t h6 (hprel j h5) h7
       ·cases h6
     ·by_cases hgb:b = .gone
      ·subst hgb;trivial
      ·exact st.hs.blk k b (hbel2 k b hb hgb)
    have hposl:(seeH pres i pre ss bs h++kQ (fun j=>pre.any (Nat.beq j)) 0 (all.take i)).length=(fC (fun j=>listed.getD j false) ss bs h).length+nN (all.take i):=by rw [aD,nK,hhv,hH0]
    have hokd:GH all[i].d n=true:=by
     cases hdi:all[i].d with
     | none=>rfl
     | some d=>
      have:d∈ds:=by rw [← h2];exact kP.2 ⟨all[i],aO _,hdi⟩
      exact bJ.1 hds d this
    -- on,kU it
    have hget:∀ j,(listed.setIfInBounds i true).getD j false=(listed.getD j false||Nat.beq j i):=fun j=>by
     by_cases hij:i=j
     ·subst hij;rw [fN,zE];simp only [Array.getD,BU,hls,hil,dif_pos];simp
     ·rw [getD_set_ne false hij,show Nat.beq j i=false from by rw [← fA];intro hb;have:=aS hb;omega,lC]
    have onS:∀ ρ' S' a' w',xF P n c (eP ds env) (fC (fun j=>(listed.setIfInBounds i true).getD j false) ss bs h) all (fun j=>(listed.setIfInBounds i true).getD j false) ρ' S' a' w'→wpAny P .any l.toArray QQ fuel (listed.setIfInBounds i true) a' w':=fun ρ' S' a' w' st'=>by
     have hiU:i∈U:=hU i hil g1';refine ih (listed.setIfInBounds i true) (U.erase i) ρ' S' _ w' (by simpa using hls) (fun j hj hjl=>?_) (by rw [lR hiU];omega) (fun j hj=>?_) (fun k ok hok1 hkl e he hb=>?_) st'
     ·rw [hget] at hjl;obtain ⟨h5,h6⟩:=pC.1 hjl;have hne:j≠i:=fun e=>by rw [e,fN] at h6;cases h6
      exact (mI hne).2 (hU j hj h5)
     ·rw [hget,htail j hj,show Nat.beq j i=false from by rw [← fA];intro hb;have:=aS hb;omega];rfl
     ·rw [hget] at hkl ⊢;rcases jB.1 hkl with h5 | h5
      ·rw [hcl k ok hok1 h5 e he hb];rfl
      ·have:=aS h5;subst this;rw [ho] at hok1;cases hok1;rw [hall e he hb];rfl
    have yv:∀ {g t:Nat} {b:Bool},(l.toArray[g]?).bind (·.dst)=some t→look (B4 (eP ds env) (all.take i) pre) t=some (.b b)→yielded l.toArray a.tmps g=some b:=fun {g t b} h5 h6=>by
     have h7:=rL (hpreP.env t _ h6);unfold yielded;rw [h5];have:a.tmps[t]? = some (.bool b):=by
      rw [eA] at h7;cases h8:a.tmps[t]? with
      | none=>rw [h8] at h7;simp [undef] at h7
      | some v=>rw [h8] at h7;simp at h7;rw [h7]
     simp [this]
    have yvu:∀ {g t:Nat},(l.toArray[g]?).bind (·.dst)=some t→look (B4 (eP ds env) (all.take i) pre) t=some (.v undef)→yielded l.toArray a.tmps g=none:=fun {g t} h5 h6=>by
     have h7:=rL (hpreP.env t _ h6);unfold yielded;rw [h5];rw [eA] at h7;cases h8:a.tmps[t]? with
     | none=>simp [h8]
     | some v=>rw [h8] at h7;simp at h7;simp [h8,h7,undef]
    unfold wpOp;rw [ho];simp only;rcases h3 i all[i] pre hfi hpre with ⟨hns,o',ho',hd',hg⟩ | ⟨m,k,b,o',hm1,hm2,hdd,hn1,ho',hgu,hkl,hst⟩
    ·rw [ho] at ho';cases ho';have hsame:fC (fun j=>(listed.setIfInBounds i true).getD j false) ss bs h=fC (fun j=>listed.getD j false) ss bs h:=pH ss bs h fun x hx=>by
      rw [hget,show Nat.beq x.1 i=false from by rw [← fA];intro hb;exact hns x hx (aS hb),lC]
     have on:∀ y ρ' S' w',BQ ρ ρ' S S' w w' ((fC (fun j=>listed.getD j false) ss bs h).length+nN (all.take i)) all[i].new.length all[i].x all[i].new y→wpAny P .any l.toArray QQ fuel (listed.setIfInBounds i true) (a.put all[i].d y) w':=fun y ρ' S' w' p=>by
      have:=st.step (L':=fun j=>(listed.setIfInBounds i true).getD j false) hfi g1' hget p hokd (by rw [h2];exact hnd) (fun t x hx=>(henv t x hx).2) (by rw [hH0];exact s.hs.mle)
      rw [← hsame] at this;exact onS _ _ _ _ this
     rcases hg with ⟨x,new,hgu,hfs,hx,hn⟩ | ⟨g,want,t,hgu,h5,h6,hx,hn⟩
     ·have hw:Region.wanted o (yielded l.toArray a.tmps)=true:=by
       rcases hgu with hgu | ⟨g,want,t,hgu,h5,h6⟩
       ·exact oO hgu
       ·simp [Region.wanted,hgu,yv h5 h6]
      rw [if_pos hw];left;have:=hfs ρ S a w hpreP (seeH pres i pre ss bs h++kQ (fun j=>pre.any (Nat.beq j)) 0 (all.take i)).length (fun j hj=>by rw [hposl];exact st.undone i _ hfi g1' j hj)
      refine this (wpAny P .any l.toArray QQ fuel (listed.setIfInBounds i true)) QQ fun y ρ' S' w' p=>?_
      rw [hx,hn,hposl] at p;have:=on y ρ' S' w' p;rw [← hd'] at this;exact this
     ·have hw:Region.wanted o (yielded l.toArray a.tmps)=false:=by
       rcases h6 with h6 | h6
       ·simp [Region.wanted,hgu,yv h5 h6]
       ·simp [Region.wanted,hgu,yvu h5 h6]
      rw [if_neg (by rw [hw];exact oA)]
      have:=on undef ρ S w ⟨nD.refl _ _,rfl,fun _ _=>rfl,fun _ h=>h,fun _ h=>.inl h,fun k p hk1 hk2=>by rw [hn,List.length_nil] at hk2;omega,fun k k' p p' hk1 hk2=>by rw [hn,List.length_nil] at hk2;omega,by rw [hx];exact lN _,fun j b hb=>by rw [hn] at hb;simp at hb⟩
      rw [← hd'] at this;exact this
    ·rw [ho] at ho';cases ho';have hw:Region.wanted o (yielded l.toArray a.tmps)=true:=by
      rcases hgu with hgu | ⟨g,want,t,hgu,h5,h6⟩
      ·exact oO hgu
      ·simp [Region.wanted,hgu,yv h5 h6]
     rw [if_pos hw];left;have hap:(fC (fun j=>listed.getD j false) ss bs h).set k b=fC (fun j=>(listed.setIfInBounds i true).getD j false) ss bs h:=by
      rw [O0 (L:=fun j=>listed.getD j false) (L':=fun j=>(listed.setIfInBounds i true).getD j false) ss bs h m hss hm1 hm2 g1' hget (fun x hx hlx j hj=>?_)];cases hpx:pres[x.1]? with
      | none=>rw [aE,hpx] at hj;simp at hj
      | some px=>
       rw [aE,hpx] at hj;exact up x.1 x.1 px (aX _) hpx (.inr hlx) j hj
     have hil2:i<all.length:=(aA.1 hfi).1;have hsplit:all=all.take i++all[i]::all.drop (i+1):=by
      have:=bK i all;rw [aP hil2] at this;exact this.symm
     have hti:(all.take i).length=i:=by rw [aY];omega
     have sL:∀ M:Nat→Bool,kQ M 0 all=kQ M 0 (all.take i)++((match M i with | true=>all[i].new | false=>List.replicate all[i].new.length .gone)++kQ M (i+1) (all.drop (i+1))):=fun M=>by
      conv=>lhs;rw [hsplit]
      rw [sT,hti,Nat.zero_add];rfl
     have e1:kQ (fun j=>(listed.setIfInBounds i true).getD j false) 0 (all.take i)=kQ (fun j=>listed.getD j false) 0 (all.take i):=mX _ _ fun j _ hj=>by
      rw [hti] at hj;show (listed.setIfInBounds i true).getD j false=_;rw [hget,show Nat.beq j i=false from by rw [← fA];intro hb;have:=aS hb;omega,lC]
     have e2:kQ (fun j=>(listed.setIfInBounds i true).getD j false) (i+1) (all.drop (i+1))=kQ (fun j=>listed.getD j false) (i+1) (all.drop (i+1)):=mX _ _ fun j hj _=>by
      show (listed.setIfInBounds i true).getD j false=_;rw [hget,show Nat.beq j i=false from by rw [← fA];intro hb;have:=aS hb;omega,lC]
     have hLi:(listed.setIfInBounds i true).getD i false=true:=by rw [hget,fN,zE]
     have hlen:=nK (fun j=>listed.getD j false) 0 (all.take i);have hA:fC (fun j=>listed.getD j false) ss bs h++kQ (fun j=>listed.getD j false) 0 all=(fC (fun j=>listed.getD j false) ss bs h++kQ (fun j=>listed.getD j false) 0 (all.take i))++(List.replicate all[i].new.length .gone++kQ (fun j=>listed.getD j false) (i+1) (all.drop (i+1))):=by rw [sL (fun j=>listed.getD j false)];simp only [g1',bM]
     have hB:fC (fun j=>(listed.setIfInBounds i true).getD j false) ss bs h++kQ (fun j=>(listed.setIfInBounds i true).getD j false) 0 all=(fC (fun j=>(listed.setIfInBounds i true).getD j false) ss bs h++kQ (fun j=>listed.getD j false) 0 (all.take i))++(all[i].new++kQ (fun j=>listed.getD j false) (i+1) (all.drop (i+1))):=by rw [sL (fun j=>(listed.setIfInBounds i true).getD j false)];simp only [hLi,e1,e2,bM]
     have hsetk:(fC (fun j=>listed.getD j false) ss bs h++kQ (fun j=>listed.getD j false) 0 all).set k b=(fC (fun j=>(listed.setIfInBounds i true).getD j false) ss bs h++kQ (fun j=>listed.getD j false) 0 (all.take i))++(List.replicate all[i].new.length .gone++kQ (fun j=>listed.getD j false) (i+1) (all.drop (i+1))):=by
      rw [hA,bM,RO _ _ (by rw [hH0];exact hkl),hap,bM]
     have hfill:yL3 ((fC (fun j=>listed.getD j false) ss bs h++kQ (fun j=>listed.getD j false) 0 all).set k b) (h.length+nN (all.take i)) all[i].new=fC (fun j=>(listed.setIfInBounds i true).getD j false) ss bs h++kQ (fun j=>(listed.setIfInBounds i true).getD j false) 0 all:=by
      rw [hsetk,hB];have hpl:(fC (fun j=>(listed.setIfInBounds i true).getD j false) ss bs h++kQ (fun j=>listed.getD j false) 0 (all.take i)).length=h.length+nN (all.take i):=by rw [aD,oW,hlen]
      match hnw:all[i].new,hn1 with
      | [],_=>rfl
      | [q],_=>
       show List.set _ _ _=_;rw [← hpl];exact pE _ _ _ _
      | _::_::_,h9=>exact absurd h9 (by simp)
     refine hst c ρ S a w _ st.hs hpreP hbel2 ?_ (wpAny P .any l.toArray QQ fuel (listed.setIfInBounds i true)) QQ fun y ρ' S' w' hh l' hv hρ=>?_
     ·by_cases hnw:all[i].new=[]
      ·exact .inl hnw
      ·have hpos:0<all[i].new.length:=eO.2 hnw;refine .inr ⟨by have:=st.undone i _ hfi g1' 0 hpos;rwa [Nat.add_zero,hH0] at this,?_,by have:=s.hs.mle;omega⟩
       rw [hA,aF (by rw [aD,hlen,hH0];omega),aD,hlen,hH0,eI,aG (by simpa using hpos)]
       simp [qG,hpos]
     ·rw [hfill] at hh;have:=st.astep (h':=fC (fun j=>(listed.setIfInBounds i true).getD j false) ss bs h) (L':=fun j=>(listed.setIfInBounds i true).getD j false) hfi hget hokd (by rw [h2];exact hnd) (fun t x hx=>(henv t x hx).2) hh (by rw [oW,oW]) l' hv (fun j hj=>?_) hn1
      ·rw [hdd];exact onS _ _ _ _ this
      ·exact hρ j (by rw [hH0] at hj;exact hj)
 have hsize:l.toArray.size=l.length:=by simp
 have hrep:∀ j,(Array.replicate l.toArray.size false).getD j false=false:=fun j=>by
  simp only [Array.getD];split <;> simp
 refine key l.toArray.size _ (List.range l.toArray.size) ρ S a _ (by simp) (fun j hj _=>by simpa using hj) (by simp) (fun j _=>hrep j) (fun i o _ hi=>by rw [hrep] at hi;cases hi) ?_
 have hseg:∀ (r:List nS) (i:Nat),kQ (fun _=>false) i r=List.replicate (nN r) .gone:=by
  intro r
  induction r with
  | nil=>intro i;rfl
  | cons f r ih=>intro i;simp only [kQ,ih,nN,B3]
 have hL:(fun j=>(Array.replicate l.toArray.size false).getD j false)=fun _=>false:=funext hrep
 rw [hL,show fC (fun _=>false) ss bs h=h from ?_]
 rotate_left
 ·have:∀ (ss:List (Nat × Nat)) (bs:List AB) (h:Hp),fC (fun _=>false) ss bs h=h:=by
   intro ss
   induction ss with
   | nil=>intros;rfl
   | cons x r ihr=>
    intro bs h;cases bs with
    | nil=>rfl
    | cons b bs=>simp only [fC];exact ihr bs h
  exact this ss bs h
 have l0:iF ρ ρ S S w { w with drawn:=w.drawn+1 }:=⟨fun _ _ h=>h,fun _ h=>h,fun _ _=>rfl,fun _ _ _ _ _ h=>h⟩
 refine ⟨s.size,s.defers.later l0,s.cm,fun t x hx=>(s.env t x (lA hx).1).later l0,fun i f t _ hi=>(by cases hi),?_,fun i f _ _ j _=>s.hs.dom _ (by omega)⟩
 rw [hseg];have ext:nD c.M c.w0 { w with drawn:=w.drawn+1 }:=s.hs.ext.drew;have at_:∀ {k:Nat} {b:AB},(h++List.replicate (nN all) .gone)[k]? = some b→b≠.gone→h[k]? = some b:=fun {k b} hb hg=>by
  by_cases hk:k<h.length
  ·rwa [aG hk] at hb
  ·rw [aF (by omega),qG] at hb
   split at hb
   ·cases hb;exact absurd rfl hg
   ·cases hb
 refine ⟨fun k hk=>s.hs.dom k (by simp at hk;omega),s.hs.rng,fun k b hb=>?_,fun k b p hb hg hp=>s.hs.live k b p (at_ hb hg) hg hp,fun k k' b b' p p' hb hb' hg hg' hp hp' e=>s.hs.inj k k' b b' p p' (at_ hb hg) (at_ hb' hg') hg hg' hp hp' e,s.hs.stab,ext,s.hs.st0,s.hs.st1,by simp;exact bL s.hs.mle (gZ _ _),s.hs.keep,s.hs.glob.later l0⟩
 by_cases hg:b = .gone
 ·subst hg;trivial
 ·exact RB.later l0 (fun _ _ _=>rfl) (s.hs.blk k b (at_ hb hg))
def MQ (P:Program) (n:Nat × Nat) (ops:List Oper) (pres:List (List Nat)) (ds:List Nat) (bads:List (List Nat)) (ss:List (Nat × Nat)) (env:eG) (h:Hp) (i:Nat) (cur:eG) (objs:List (Nat × Hp)) (don:List AB) (K:eG→Hp→Prop):Prop:=
 jU ops pres ds bads ss n.1=true→(∀ t,t∈ds→look env t=none)→∀ effs,V0 ops ss env i cur objs don effs→xB2 P n ops.toArray pres ss ds env h effs don K
section
variable {P:Program}{n:Nat × Nat}{ops:List Oper}{pres:List (List Nat)}{ds:List Nat}{bads:List (List Nat)}{ss:List (Nat × Nat)}{env:eG}{h:Hp}{K:eG→Hp→Prop}{pre bad:List Nat}
theorem zS0 {Q:Exit→eG→Hp→Prop}{id:Nat}{l:List Oper}(pres:List (List Nat)) (ds:List Nat) (bads:List (List Nat)) (ss:List (Nat × Nat)) (hm:P.follows .mixedOrders=true) (hok:jU l pres ds bads ss n.1=true)
  (hv:MQ P n l pres ds bads ss (eP ds env) h 0 (eP ds env) [] [] (fun v h=>Q .normal v h)) (hndf:nW l=true:=by rfl):AW P n (.region id l.toArray true) env h Q:=by
 have hok':=hok;simp only [jU,mF,aN,decide_eq_true_eq] at hok';obtain ⟨⟨⟨⟨⟨⟨⟨h1,h2⟩,h3⟩,h4⟩,h5⟩,h6⟩,h7⟩,h8⟩:=hok';refine zR9 pres ds ss hm h1 h7 h8 h2 h3 h4 (hv hok (fun t ht=>?_) [] ⟨⟨rfl,rfl,rfl,fun j f hf=>by simp at hf⟩,fun x _=>bZ _⟩) hndf
 cases hl:look (eP ds env) t with
 | none=>rfl
 | some x=>exact absurd ht (lA hl).2
variable {op:Op}{ty:TypeId}{pos:String}{af:Array Edge}{d:Option Nat}{i:Nat}{cur:eG}{objs:List (Nat × Hp)}{don:List AB}
theorem T2 {effs:List nS}{f:nS}(hok:jU ops pres ds bads ss n.1=true) (g:V0 ops ss env i cur objs don effs) (hp:pres[i]? = some pre) (hi:i<ops.length) (hns:(ss.all fun x=>!Nat.beq x.1 i)=true)
  (hg:JP P ops.toArray i (B4 env effs pre) (seeH pres i pre ss don h++mD pre objs) f) (hk:xB2 P n ops.toArray pres ss ds env h (effs++[f]) don K):xB2 P n ops.toArray pres ss ds env h effs don K:=by
 obtain ⟨more,mb,h1,h0,h2,h3,h4⟩:=hk;have e:effs++[f]++more=effs++(f::more):=by simp
 rw [e] at h1 h2 h3 h4;have hie:effs.length=i:=g.g.len;refine ⟨f::more,mb,h1,h0,h2,fun j q p hj hgj hpj=>?_,h4⟩
 by_cases hji:j=i
 ·subst hji;rw [hp] at hpj;cases hpj;rw [aF (by omega),hie,eI] at hgj
  simp at hgj;subst hgj;left;refine ⟨fun x hx hxe=>?_,?_⟩
  ·have:=bJ.1 hns x hx;rw [hxe,fN] at this;cases this
  ·rw [iW,bO (by omega),hie,eI,g.seeH hok hi hp mb]
   simp only [lH,List.append_nil];rw [lL,← g.g.objs];exact hg
 ·exact h3 j q p (by simp;omega) hgj hpj
theorem cQ {dd:Nat}{u:AV}(ho:ops[i]? = some ⟨some dd,op,ty,pos,af,none⟩) (hp:pres[i]? = some pre) (hb:bads[i]? = some bad) (hns:(ss.all fun x=>!Nat.beq x.1 i)=true) (hs:bW P ⟨some dd,op,ty,pos,af,none⟩ (eP bad cur) (seeH pres i pre ss don h++mD pre objs) 0 (fun _=>u) (fun _=>[]))
  (hk:MQ P n ops pres ds bads ss env h (i+1) ((dd,u)::cur) objs don K):MQ P n ops pres ds bads ss env h i cur objs don K:=by
 intro hok hen effs g;refine T2 (f:=⟨some dd,u,[]⟩) hok g hp (aA.1 ho).1 hns ⟨_,by simpa using ho,rfl,.inl ⟨fun _=>u,fun _=>[],.inl rfl,hs.more (g.g.see (T6 hok) hp hb),rfl,rfl⟩⟩ (hk hok hen _ (g.next (g.g.snoc (f:=⟨some dd,u,[]⟩) ho rfl rfl) hns))
theorem A4 {dd:Nat}{u:AV}{gd t:Nat}{want:Bool}(ho:ops[i]? = some ⟨some dd,op,ty,pos,af,some (gd,want)⟩) (hp:pres[i]? = some pre) (hb:bads[i]? = some bad) (hns:(ss.all fun x=>!Nat.beq x.1 i)=true) (hj:(ops[gd]?).bind (·.dst)=some t) (hl:look (eP bad cur) t=some (.b want)) (hs:bW P ⟨some dd,op,ty,pos,af,none⟩ (eP bad cur) (seeH pres i pre ss don h++mD pre objs) 0 (fun _=>u) (fun _=>[]))
  (hk:MQ P n ops pres ds bads ss env h (i+1) ((dd,u)::cur) objs don K):MQ P n ops pres ds bads ss env h i cur objs don K:=by
 intro hok hen effs g;refine T2 (f:=⟨some dd,u,[]⟩) hok g hp (aA.1 ho).1 hns ⟨_,by simpa using ho,rfl,.inl ⟨fun _=>u,fun _=>[],.inr ⟨gd,want,t,rfl,by simpa using hj,g.g.see (T6 hok) hp hb _ _ hl⟩,hs.more (g.g.see (T6 hok) hp hb),rfl,rfl⟩⟩ (hk hok hen _ (g.next (g.g.snoc (f:=⟨some dd,u,[]⟩) ho rfl rfl) hns))
theorem xO {dd:Nat}{gd t:Nat}{want:Bool}(ho:ops[i]? = some ⟨some dd,op,ty,pos,af,some (gd,want)⟩) (hp:pres[i]? = some pre) (hb:bads[i]? = some bad) (hns:(ss.all fun x=>!Nat.beq x.1 i)=true) (hj:(ops[gd]?).bind (·.dst)=some t) (hl:look (eP bad cur) t=some (.b (!want)))
  (hk:MQ P n ops pres ds bads ss env h (i+1) ((dd,.v undef)::cur) objs don K):MQ P n ops pres ds bads ss env h i cur objs don K:=by
 intro hok hen effs g;refine T2 (f:=⟨some dd,.v undef,[]⟩) hok g hp (aA.1 ho).1 hns ⟨_,by simpa using ho,rfl,.inr ⟨gd,want,t,rfl,by simpa using hj,.inl (g.g.see (T6 hok) hp hb _ _ hl),rfl,rfl⟩⟩ (hk hok hen _ (g.next (g.g.snoc (f:=⟨some dd,.v undef,[]⟩) ho rfl rfl) hns))
theorem B9 {dd:Nat}{u:Nat→AV}{b:Nat→List AB}{m:Nat}(ho:ops[i]? = some ⟨some dd,op,ty,pos,af,none⟩) (hp:pres[i]? = some pre) (hb:bads[i]? = some bad) (hns:(ss.all fun x=>!Nat.beq x.1 i)=true) (hs:bW P ⟨some dd,op,ty,pos,af,none⟩ (eP bad cur) (seeH pres i pre ss don h++mD pre objs) (m+1) u b) (hm:(b (seeH pres i pre ss don h++mD pre objs).length).length=m+1)
  (hk:MQ P n ops pres ds bads ss env h (i+1) ((dd,u (seeH pres i pre ss don h++mD pre objs).length)::cur) (objs++[(i,b (seeH pres i pre ss don h++mD pre objs).length)]) don K):MQ P n ops pres ds bads ss env h i cur objs don K:=by
 intro hok hen effs g;refine T2 (f:=⟨some dd,u (seeH pres i pre ss don h++mD pre objs).length,b (seeH pres i pre ss don h++mD pre objs).length⟩) hok g hp (aA.1 ho).1 hns ⟨_,by simpa using ho,rfl,.inl ⟨u,b,.inl rfl,by simp only [hm];exact hs.more (g.g.see (T6 hok) hp hb),rfl,rfl⟩⟩ ?_
 refine hk hok hen _ (g.next (g.g.snoc' (f:=⟨some dd,u (seeH pres i pre ss don h++mD pre objs).length,b (seeH pres i pre ss don h++mD pre objs).length⟩) ho rfl ?_) hns)
 intro e2;rw [show b (seeH pres i pre ss don h++mD pre objs).length=[] from e2] at hm
 cases hm
theorem F5 {k:Nat}{nb:AB}{t:TypeId}{x y:Operand}{j:TI}{u v:AV}{xs:List AV}(ho:ops[i]? = some ⟨none,.store t x y,ty,pos,af,none⟩) (hp:pres[i]? = some pre) (hb:bads[i]? = some bad) (hm:ss[don.length]? = some (i,k)) (hkl:k<h.length)
  (T:pR P) (hx:evu (eP bad cur) x=some u) (hy:evu (eP bad cur) y=some v) (ht:T.ti t=some j) (hv:v.cellsOf=some xs) (hl:xs.length=j.size) (h1:xs.all AV.one=true) (h0:0<j.size) (hu:NB (seeH pres i pre ss don h++mD pre objs) u xs=some (k,nb))
  (hk:MQ P n ops pres ds bads ss env h (i+1) cur objs (don++[nb]) K):MQ P n ops pres ds bads ss env h i cur objs don K:=by
 intro hok hen effs g;have hs:=NL (P:=P) (pos:=pos) (ty:=ty) (af:=af) T hx hy ht hv hl h1 h0 hu;have hi:=(aA.1 ho).1;have hgs:K7 ops env (i+1) cur objs (effs++[⟨none,.v undef,[]⟩]):=g.g.snoc (f:=⟨none,.v undef,[]⟩) ho rfl rfl;have hkk:=hk hok hen (effs++[⟨none,.v undef,[]⟩]) ⟨hgs,fun x hx=>?_⟩
 ·obtain ⟨more,mb,g1,g0,g2,g3,g4⟩:=hkk;have e:effs++[⟨none,.v undef,[]⟩]++more=effs++((⟨none,.v undef,[]⟩:nS)::more):=by simp
  have e':don++[nb]++mb=don++(nb::mb):=by simp
  rw [e] at g1 g2;rw [e'] at g0;simp only [e,e'] at g3 g4;have hie:effs.length=i:=g.g.len;refine ⟨_,_,g1,g0,g2,fun j' q p hj hgj hpj=>?_,g4⟩
  by_cases hji:j'=i
  ·subst hji;rw [hp] at hpj;cases hpj;rw [aF (by omega),hie,eI] at hgj
   simp at hgj;subst hgj;right;refine ⟨don.length,k,nb,_,hm,?_,rfl,bZ _,by simpa using ho,.inl rfl,hkl,?_⟩
   ·rw [aF (aX _),eI];rfl
   ·rw [iW,bO (by omega),hie,eI,g.seeH hok hi hp _]
    simp only [lH,List.append_nil];rw [lL,← g.g.objs];exact (BB.more hs (g.g.see (T6 hok) hp hb)).a
  ·exact g3 j' q p (by simp;omega) hgj hpj
 ·have hok':=hok;simp only [jU,aN] at hok';have hls:don.length<ss.length:=(aA.1 hm).1;have e1:ss.drop don.length=(i,k)::ss.drop (don.length+1):=by
   rw [aP hls];have:=aB hls;rw [hm] at this;rw [Option.some.inj this]
  have hx':x∈ss.drop (don.length+1):=by simpa using hx
  have h5:=g.later x (by rw [e1];exact aH _ hx')
  have key:∀ (ss:List (Nat × Nat)) (m:Nat),RZ pres ss=true→ss[m]? = some (i,k)→∀ x,x∈ss.drop (m+1)→x.1≠i:=by
   intro ss
   induction ss with
   | nil=>intro m _ h;simp at h
   | cons y r ih=>
    intro m hok h x hx;obtain ⟨s,k'⟩:=y;simp only [RZ,aN,bJ] at hok;cases m with
    | zero=>
     simp only [eF,Option.some.injEq,Prod.mk.injEq] at h;intro e;have:=(hok.1 x (by simpa using hx)).1
     rw [e,h.1,fN] at this;cases this
    | succ m=>exact ih m hok.2 (by simpa using h) x (by simpa using hx)
  have:=key ss don.length hok'.1.2 hm x hx';omega
theorem yS2 {k dd:Nat}{nb:AB}{u:AV}(ho:ops[i]? = some ⟨some dd,op,ty,pos,af,none⟩) (hp:pres[i]? = some pre) (hb:bads[i]? = some bad) (hm:ss[don.length]? = some (i,k)) (hkl:k<h.length)
  (hs:iU P ⟨some dd,op,ty,pos,af,none⟩ (eP bad cur) (seeH pres i pre ss don h++mD pre objs) (seeH pres i pre ss don h++mD pre objs).length k nb u [])
  (hk:MQ P n ops pres ds bads ss env h (i+1) ((dd,u)::cur) objs (don++[nb]) K):MQ P n ops pres ds bads ss env h i cur objs don K:=by
 intro hok hen effs g;have hi:=(aA.1 ho).1;have hgs:K7 ops env (i+1) ((dd,u)::cur) objs (effs++[⟨some dd,u,[]⟩]):=g.g.snoc (f:=⟨some dd,u,[]⟩) ho rfl rfl;have hkk:=hk hok hen (effs++[⟨some dd,u,[]⟩]) ⟨hgs,fun x hx=>?_⟩
 ·obtain ⟨more,mb,g1,g0,g2,g3,g4⟩:=hkk;have e:effs++[⟨some dd,u,[]⟩]++more=effs++((⟨some dd,u,[]⟩:nS)::more):=by simp
  have e':don++[nb]++mb=don++(nb::mb):=by simp
  rw [e] at g1 g2;rw [e'] at g0;simp only [e,e'] at g3 g4;have hie:effs.length=i:=g.g.len;refine ⟨_,_,g1,g0,g2,fun j' q p hj hgj hpj=>?_,g4⟩
  by_cases hji:j'=i
  ·subst hji;rw [hp] at hpj;cases hpj;rw [aF (by omega),hie,eI] at hgj
   simp at hgj;subst hgj;right;refine ⟨don.length,k,nb,_,hm,?_,rfl,bZ _,by simpa using ho,.inl rfl,hkl,?_⟩
   ·rw [aF (aX _),eI];rfl
   ·rw [iW,bO (by omega),hie,eI,g.seeH hok hi hp _]
    simp only [lH,List.append_nil];rw [lL,← g.g.objs];have hpl:(seeH pres j' pre ss don h++mD pre objs).length=h.length+nN effs:=by rw [g.g.objs,← lL,aD,nK];congr 1;exact vK _ _ _ _ _
    rw [hpl] at hs;exact iU.more hs (g.g.see (T6 hok) hp hb)
  ·exact g3 j' q p (by simp;omega) hgj hpj
 ·have hok':=hok;simp only [jU,aN] at hok';have hls:don.length<ss.length:=(aA.1 hm).1;have e1:ss.drop don.length=(i,k)::ss.drop (don.length+1):=by
   rw [aP hls];have:=aB hls;rw [hm] at this;rw [Option.some.inj this]
  have hx':x∈ss.drop (don.length+1):=by simpa using hx
  have h5:=g.later x (by rw [e1];exact aH _ hx')
  have key:∀ (ss:List (Nat × Nat)) (m:Nat),RZ pres ss=true→ss[m]? = some (i,k)→∀ x,x∈ss.drop (m+1)→x.1≠i:=by
   intro ss
   induction ss with
   | nil=>intro m _ h;simp at h
   | cons y r ih=>
    intro m hok h x hx;obtain ⟨s,k'⟩:=y;simp only [RZ,aN,bJ] at hok;cases m with
    | zero=>
     simp only [eF,Option.some.injEq,Prod.mk.injEq] at h;intro e;have:=(hok.1 x (by simpa using hx)).1
     rw [e,h.1,fN] at this;cases this
    | succ m=>exact ih m hok.2 (by simpa using h) x (by simpa using hx)
  have:=key ss don.length hok'.1.2 hm x hx';omega
theorem oT {k dd:Nat}{nb:AB}{u:AV}{b1:AB}(ho:ops[i]? = some ⟨some dd,op,ty,pos,af,none⟩) (hp:pres[i]? = some pre) (hb:bads[i]? = some bad) (hm:ss[don.length]? = some (i,k)) (hkl:k<h.length)
  (hs:iU P ⟨some dd,op,ty,pos,af,none⟩ (eP bad cur) (seeH pres i pre ss don h++mD pre objs) (seeH pres i pre ss don h++mD pre objs).length k nb u [b1])
  (hk:MQ P n ops pres ds bads ss env h (i+1) ((dd,u)::cur) (objs++[(i,[b1])]) (don++[nb]) K):MQ P n ops pres ds bads ss env h i cur objs don K:=by
 intro hok hen effs g;have hi:=(aA.1 ho).1;have hgs:K7 ops env (i+1) ((dd,u)::cur) (objs++[(i,[b1])]) (effs++[⟨some dd,u,[b1]⟩]):=g.g.snoc' (f:=⟨some dd,u,[b1]⟩) ho rfl (by simp)
 have hkk:=hk hok hen (effs++[⟨some dd,u,[b1]⟩]) ⟨hgs,fun x hx=>?_⟩
 ·obtain ⟨more,mb,g1,g0,g2,g3,g4⟩:=hkk;have e:effs++[⟨some dd,u,[b1]⟩]++more=effs++((⟨some dd,u,[b1]⟩:nS)::more):=by simp
  have e':don++[nb]++mb=don++(nb::mb):=by simp
  rw [e] at g1 g2;rw [e'] at g0;simp only [e,e'] at g3 g4;have hie:effs.length=i:=g.g.len;refine ⟨_,_,g1,g0,g2,fun j' q p hj hgj hpj=>?_,g4⟩
  by_cases hji:j'=i
  ·subst hji;rw [hp] at hpj;cases hpj;rw [aF (by omega),hie,eI] at hgj
   simp at hgj;subst hgj;right;refine ⟨don.length,k,nb,_,hm,?_,rfl,aX _,by simpa using ho,.inl rfl,hkl,?_⟩
   ·rw [aF (aX _),eI];rfl
   ·rw [iW,bO (by omega),hie,eI,g.seeH hok hi hp _]
    simp only [lH,List.append_nil];rw [lL,← g.g.objs];have hpl:(seeH pres j' pre ss don h++mD pre objs).length=h.length+nN effs:=by rw [g.g.objs,← lL,aD,nK];congr 1;exact vK _ _ _ _ _
    rw [hpl] at hs;exact iU.more hs (g.g.see (T6 hok) hp hb)
  ·exact g3 j' q p (by simp;omega) hgj hpj
 ·have hok':=hok;simp only [jU,aN] at hok';have hls:don.length<ss.length:=(aA.1 hm).1;have e1:ss.drop don.length=(i,k)::ss.drop (don.length+1):=by
   rw [aP hls];have:=aB hls;rw [hm] at this;rw [Option.some.inj this]
  have hx':x∈ss.drop (don.length+1):=by simpa using hx
  have h5:=g.later x (by rw [e1];exact aH _ hx')
  have key:∀ (ss:List (Nat × Nat)) (m:Nat),RZ pres ss=true→ss[m]? = some (i,k)→∀ x,x∈ss.drop (m+1)→x.1≠i:=by
   intro ss
   induction ss with
   | nil=>intro m _ h;simp at h
   | cons y r ih=>
    intro m hok h x hx;obtain ⟨s,k'⟩:=y;simp only [RZ,aN,bJ] at hok;cases m with
    | zero=>
     simp only [eF,Option.some.injEq,Prod.mk.injEq] at h;intro e;have:=(hok.1 x (by simpa using hx)).1
     rw [e,h.1,fN] at this;cases this
    | succ m=>exact ih m hok.2 (by simpa using h) x (by simpa using hx)
  have:=key ss don.length hok'.1.2 hm x hx';omega
theorem yG5 {k dd gd t:Nat}{want:Bool}{nb:AB}{u:AV}{b1:AB}(ho:ops[i]? = some ⟨some dd,op,ty,pos,af,some (gd,want)⟩) (hp:pres[i]? = some pre) (hb:bads[i]? = some bad) (hm:ss[don.length]? = some (i,k)) (hkl:k<h.length) (hjg:(ops[gd]?).bind (·.dst)=some t) (hlg:look (eP bad cur) t=some (.b want))
  (hs:iU P ⟨some dd,op,ty,pos,af,none⟩ (eP bad cur) (seeH pres i pre ss don h++mD pre objs) (seeH pres i pre ss don h++mD pre objs).length k nb u [b1])
  (hk:MQ P n ops pres ds bads ss env h (i+1) ((dd,u)::cur) (objs++[(i,[b1])]) (don++[nb]) K):MQ P n ops pres ds bads ss env h i cur objs don K:=by
 intro hok hen effs g;have hi:=(aA.1 ho).1;have hgs:K7 ops env (i+1) ((dd,u)::cur) (objs++[(i,[b1])]) (effs++[⟨some dd,u,[b1]⟩]):=g.g.snoc' (f:=⟨some dd,u,[b1]⟩) ho rfl (by simp)
 have hkk:=hk hok hen (effs++[⟨some dd,u,[b1]⟩]) ⟨hgs,fun x hx=>?_⟩
 ·obtain ⟨more,mb,g1,g0,g2,g3,g4⟩:=hkk;have e:effs++[⟨some dd,u,[b1]⟩]++more=effs++((⟨some dd,u,[b1]⟩:nS)::more):=by simp
  have e':don++[nb]++mb=don++(nb::mb):=by simp
  rw [e] at g1 g2;rw [e'] at g0;simp only [e,e'] at g3 g4;have hie:effs.length=i:=g.g.len;refine ⟨_,_,g1,g0,g2,fun j' q p hj hgj hpj=>?_,g4⟩
  by_cases hji:j'=i
  ·subst hji;rw [hp] at hpj;cases hpj;rw [aF (by omega),hie,eI] at hgj
   simp at hgj;subst hgj;right;refine ⟨don.length,k,nb,_,hm,?_,rfl,aX _,by simpa using ho,.inr ⟨gd,want,t,rfl,by simpa using hjg,?_⟩,hkl,?_⟩
   ·rw [aF (aX _),eI];rfl
   ·rw [iW,bO (by omega),hie,eI]
    simp only [lH,List.append_nil];exact g.g.see (T6 hok) hp hb _ _ hlg
   ·rw [iW,bO (by omega),hie,eI,g.seeH hok hi hp _]
    simp only [lH,List.append_nil];rw [lL,← g.g.objs];have hpl:(seeH pres j' pre ss don h++mD pre objs).length=h.length+nN effs:=by rw [g.g.objs,← lL,aD,nK];congr 1;exact vK _ _ _ _ _
    rw [hpl] at hs;exact iU.more hs (g.g.see (T6 hok) hp hb)
  ·exact g3 j' q p (by simp;omega) hgj hpj
 ·have hok':=hok;simp only [jU,aN] at hok';have hls:don.length<ss.length:=(aA.1 hm).1;have e1:ss.drop don.length=(i,k)::ss.drop (don.length+1):=by
   rw [aP hls];have:=aB hls;rw [hm] at this;rw [Option.some.inj this]
  have hx':x∈ss.drop (don.length+1):=by simpa using hx
  have h5:=g.later x (by rw [e1];exact aH _ hx')
  have key:∀ (ss:List (Nat × Nat)) (m:Nat),RZ pres ss=true→ss[m]? = some (i,k)→∀ x,x∈ss.drop (m+1)→x.1≠i:=by
   intro ss
   induction ss with
   | nil=>intro m _ h;simp at h
   | cons y r ih=>
    intro m hok h x hx;obtain ⟨s,k'⟩:=y;simp only [RZ,aN,bJ] at hok;cases m with
    | zero=>
     simp only [eF,Option.some.injEq,Prod.mk.injEq] at h;intro e;have:=(hok.1 x (by simpa using hx)).1
     rw [e,h.1,fN] at this;cases this
    | succ m=>exact ih m hok.2 (by simpa using h) x (by simpa using hx)
  have:=key ss don.length hok'.1.2 hm x hx';omega
theorem qK (hi:pres.length=i) (hdl:don.length=ss.length){rest:List Oper}{h':Hp}(hr:ops.drop i=rest) (hh:fC (fun _=>true) ss don h++mR objs=h')
  (hk:VC P n ops.toArray rest cur h' K):MQ P n ops pres ds bads ss env h i cur objs don K:=by
 intro hok hen effs gs;have g:=gs.g;have hok':=T6 hok;simp only [mF,aN,decide_eq_true_eq] at hok';obtain ⟨⟨⟨⟨⟨h1,h2⟩,h3⟩,h4⟩,h5⟩,h6⟩:=hok';have hds:jS effs=ds:=by
  rw [← h5];have hle:i≤ops.length:=by rw [← hi];exact aI h4
  unfold jS;have:effs.map (·.d)=(ops.take pres.length).map (·.dst):=by
   apply kD;intro j;simp only [bN,cE,hi];by_cases hj:j<i
   ·rw [if_pos hj];have hje:j<effs.length:=by rw [g.len];exact hj
    obtain ⟨o,ho,hod⟩:=g.dst j effs[j] (aB hje);rw [aB hje,ho];simp [hod]
   ·rw [if_neg hj,dA (by rw [g.len];omega)];rfl
  have e1:effs.filterMap (·.d)=(effs.map (·.d)).filterMap id:=by rw [rK];rfl
  have e2:(ops.take pres.length).filterMap (·.dst)=((ops.take pres.length).map (·.dst)).filterMap id:=by rw [rK];rfl
  rw [e1,e2,this]
 refine ⟨[],[],by rw [List.append_nil,g.len,hi],by rw [List.append_nil];exact hdl,by rw [List.append_nil];exact hds,fun j f pre hj hf _=>?_,?_⟩
 ·have:=(aA.1 hf).1;simp at this;omega
 rw [List.append_nil,List.append_nil];have el:effs.length=pres.length:=by rw [g.len,hi]
 rw [← el,G8,H6 0 effs.length (by omega),jJ,← T0,P6,← CH,el,hi]
 rw [I1 effs 0,← g.objs,← B0,hh];rw [show ops.toArray.toList.drop i=rest from by simpa using hr]
 refine hk.moreE fun t x hx=>?_
 rw [g.cur] at hx;exact Y9 (by have:jS effs=effs.filterMap (·.d):=rfl;rw [← this,hds];exact h2) hx
end
theorem HS.moved {c:pS}{ρ:Pl}{S:Nat→Prop}{H:Hp}{w w':World}{k pp:Nat}{q:Option (Nat × Nat)}{nb:AB}(g:HS c ρ S H w) (hpk:pp≠k) (hH:H[pp]? = some .gone) (hρ:ρ pp=Option.none) (hm:c.m≤pp) (hext:nD c.M w w')
  (hoth:∀ j b,H[j]? = some b→j≠k→b≠.gone→∀ b1 o1,ρ j=some (b1,o1)→w'.heap[b1]? = w.heap[b1]?) (hst:∀ b1,S b1→w'.heap[b1]? = w.heap[b1]?)
  (hq:∀ b1 o1,q=some (b1,o1)→c.M b1∧¬ S b1∧b1<w'.heap.size∧∀ j b,H[j]? = some b→j≠k→b≠.gone→∀ b2 o2,ρ j=some (b2,o2)→b2≠b1)
  (hv:iF ρ (fun j=>if j=pp then q else ρ j) S S w w'→RB S w' (fun j=>if j=pp then q else ρ j) q nb) :
  HS c (fun j=>if j=pp then q else ρ j) S ((H.set k .gone).set pp nb) w'∧iF ρ (fun j=>if j=pp then q else ρ j) S S w w':=by
 have hplt:pp<H.length:=(aA.1 hH).1
 have l:iF ρ (fun j=>if j=pp then q else ρ j) S S w w':=⟨fun j u hu=>by
  show (if j=pp then q else ρ j)=_
  rw [if_neg (fun e=>by rw [e,hρ] at hu;cases hu)];exact hu,fun _ h=>h,hst,fun _ _ _ _ _ hr=>hext.room hr⟩
 have v2:=hv l;have hget:∀ {j:Nat} {b:AB},((H.set k .gone).set pp nb)[j]? = some b→b≠.gone→(j≠pp∧j≠k∧H[j]? = some b)∨(j=pp∧b=nb):=fun {j b} hj hg=>by
  by_cases hjp:j=pp
  ·subst hjp;rw [zD (by simpa using hplt)] at hj
   cases hj;exact .inr ⟨rfl,rfl⟩
  ·rw [iN (Ne.symm hjp)] at hj;by_cases hjk:j=k
   ·subst hjk;rw [iC] at hj;simp only [if_true] at hj;split at hj
    ·cases hj;exact absurd rfl hg
    ·cases hj
   ·rw [iN (Ne.symm hjk)] at hj;exact .inl ⟨hjp,hjk,hj⟩
 refine ⟨⟨fun j hj=>?_,fun j u hu=>?_,fun j b hj=>?_,fun j b u hj hg hu=>?_,fun j j' b b' u u' hj hj' hg hg' hu hu' e=>?_,fun b1 hb1=>eC (g.stab b1 hb1) hext.size,g.ext.trans hext (fun _ h _=>h),g.st0,g.st1,by simpa using g.mle,fun j hj=>by
   show (if j=pp then q else ρ j)=_
   rw [if_neg (by omega)];exact g.keep j hj,g.glob.later l⟩,l⟩
 ·simp at hj;show (if j=pp then q else ρ j)=_
  rw [if_neg (by omega)];exact g.dom j (by omega)
 ·by_cases hj:j=pp
  ·simp only [hj,if_true] at hu;exact (hq u.1 u.2 hu).2.2.1
  ·simp only [hj,if_false] at hu;exact eC (g.rng j u hu) hext.size
 ·by_cases hbg:b = .gone
  ·subst hbg;trivial
  ·rcases hget hj hbg with ⟨h2,h3,h4⟩ | ⟨h2,h3⟩
   ·show RB S w' _ (if j=pp then q else ρ j) _
    rw [if_neg h2];exact RB.later l (fun b1 o1 hp1=>hoth j _ h4 h3 hbg b1 o1 hp1) (g.blk j _ h4)
   ·subst h2;show RB S w' _ (if j=j then q else ρ j) _
    rw [if_pos rfl,h3];exact v2
 ·rcases hget hj hg with ⟨h2,h3,h4⟩ | ⟨h2,h3⟩
  ·rw [if_neg h2] at hu;exact g.live j b u h4 hg hu
  ·rw [if_pos h2] at hu;exact ⟨(hq u.1 u.2 hu).1,(hq u.1 u.2 hu).2.1⟩
 ·rcases hget hj hg with ⟨h2,h3,h4⟩ | ⟨h2,h3⟩ <;> rcases hget hj' hg' with ⟨h2',h3',h4'⟩ | ⟨h2',h3'⟩
  ·rw [if_neg h2] at hu;rw [if_neg h2'] at hu';exact g.inj j j' b b' u u' h4 h4' hg hg' hu hu' e
  ·rw [if_neg h2] at hu;rw [if_pos h2'] at hu';exact absurd e ((hq u'.1 u'.2 hu').2.2.2 j b h4 h3 hg u.1 u.2 hu)
  ·rw [if_neg h2'] at hu';rw [if_pos h2] at hu;exact absurd e.symm ((hq u.1 u.2 hu).2.2.2 j' b' h4' h3' hg' u'.1 u'.2 hu')
  ·omega
section
variable {P:Program}{env:eG}{h:Hp}
variable {ty:TypeId}{pos:String}{af:Array Edge}
theorem oC (T:pR P){t e k off len sz pp dd:Nat}{i:TI}{x y:Operand}{v:AV}{es news:List (List AV)}(hx:evu env x=some (.sl k off len sz)) (hy:evu env y=some v) (ht:T.elem t=some e) (he:T.ti e=some i) (hs:i.size=sz)
  (hkk:h[k]? = some (.arr es sz)) (hle:off+len≤es.length) (hn:kK h v news sz) (h1:news.flatten.all AV.one=true) (hb:(len+news.length)*i.bytes≤140737488355328) (h63:len+news.length≤9223372036854775807) :
  iU P ⟨some dd,.call { callee:=.builtin .append,args:=#[x,y],argTypes:=#[t,t] },ty,pos,af,none⟩ env h pp k .gone (.sl pp 0 (len+news.length) sz) [.arr ((es.drop off).take len++news) sz]:=by
 intro c ρ S a w H g p hbel hpp K' Q hK';have hKK:=hbel k _ hkk (by simp)
 obtain ⟨hr0,hH0,hm0⟩:ρ pp=none∧H[pp]? = some .gone∧c.m≤pp:=by
  rcases hpp with h0 | h0
  ·cases h0
  ·exact h0
 have hpk:pp≠k:=fun e=>by rw [e,hKK] at hH0;cases hH0
 have hxv:=p.evu hx;obtain ⟨a2,c2,zs,y1,y2,y3,y4,y5,y6,y7⟩:=yX p.blk (p.evu hy) hn;obtain ⟨inf,z,t1,t2,t3,t4,t5,t6,t7⟩:=T.tiOk e i he;have hone:=CD y6 h1;have hxe:kK h (.sl k off len sz) ((es.drop off).take len) sz:=.sl hkk hle;obtain ⟨a1,c1,ys,x1,x2,x3,x4,x5,x6,x7⟩:=yX p.blk hxv hxe;have hlen:((es.drop off).take len).length=len:=by rw [aY,dK];omega
 rw [hlen] at x1 x2 x5 x7;have hB:=p.blk k _ hkk;simp only [RB] at hB;obtain ⟨hes,hs0,hB⟩:=hB;have hnl:∀ q,q∈news→q.length=sz:=by
  cases hn with
  | sl hk2 _=>
   have:=p.blk _ _ hk2;simp only [RB] at this;exact fun q hq=>this.1 q (eB (eJ hq))
  | row h=>exact h
  | nil=>exact fun q hq=>by cases hq
 have hall:∀ q,q∈(es.drop off).take len++news→q.length=sz:=fun q hq=>by
  rcases bH.1 hq with hq | hq
  ·exact hes q (eB (eJ hq))
  ·exact hnl q hq
 have ev1:∀ r w',(Builtin.append_ #[t,t] ty #[a.eval x,a.eval y]).run P w = .ok r w'→(execOp a.eval ⟨some dd,.call { callee:=.builtin .append,args:=#[x,y],argTypes:=#[t,t] },ty,pos,af,none⟩).run P w = .ok (.value r) w':=fun r w' hr=>by
  simp [execOp,resolve,invoke,builtin,hr]
 have fin:∀ {r:Value} {w':World} {q:Option (Nat × Nat)},(Builtin.append_ #[t,t] ty #[a.eval x,a.eval y]).run P w = .ok r w'→nD c.M w w'→(∀ j b,H[j]? = some b→j≠k→b≠.gone→∀ b1 o1,ρ j=some (b1,o1)→w'.heap[b1]? = w.heap[b1]?)→(∀ b1,S b1→w'.heap[b1]? = w.heap[b1]?) →
   (∀ b1 o1,q=some (b1,o1)→c.M b1∧¬ S b1∧b1<w'.heap.size∧∀ j b,H[j]? = some b→j≠k→b≠.gone→∀ b2 o2,ρ j=some (b2,o2)→b2≠b1) →
   (iF ρ (fun j=>if j=pp then q else ρ j) S S w w'→R S w' (.sl pp 0 (len+news.length) sz) (fun j=>if j=pp then q else ρ j) r∧RB S w' (fun j=>if j=pp then q else ρ j) q (.arr ((es.drop off).take len++news) sz)) →
   Oper.wp P ⟨some dd,.call { callee:=.builtin .append,args:=#[x,y],argTypes:=#[t,t] },ty,pos,af,none⟩ a w K' Q:=fun {r w' q} hr hext hoth hst hq hval=>by
  unfold Oper.wp;rw [ev1 r w' hr];obtain ⟨g1,g2⟩:=g.moved hpk hH0 hr0 hm0 hext hoth hst hq (fun l=>(hval l).2);exact hK' _ _ _ _ g1 g2 (hval g2).1 (fun j hj=>if_neg (hj (by simp)))
 have hoth0:∀ (w':World) (b0:Nat),(∀ x,x≠b0→w'.heap[x]? = w.heap[x]?)→(∃ o,ρ k=some (b0,o))→(∀ j b,H[j]? = some b→j≠k→b≠.gone→∀ b1 o1,ρ j=some (b1,o1)→w'.heap[b1]? = w.heap[b1]?)∧(∀ b1,S b1→w'.heap[b1]? = w.heap[b1]?):=fun w' b0 hw ⟨o,ho⟩=>
  ⟨fun j b hj hjk hg b1 o1 h1=>hw b1 (fun e=>hjk (g.inj j k b _ _ _ hj hKK hg (by simp) h1 ho e)),fun b1 hb1=>hw b1 (fun e=>(g.live k _ _ hKK (by simp) ho).2 (e▸hb1))⟩
 have hxy:a.eval x = .slice a1 len c1∧a.eval y = .slice a2 news.length c2:=⟨x1,y1⟩;by_cases hroom:len+news.length≤c1
 ·by_cases hm:news.length=0
  ·-- nothing is appended
   have hnews:news=[]:=cJ hm;subst hnews;have hr:=B5 (P:=P) (w:=w) (t:=t) (ty:=ty) (a2:=a2) (c2:=c2) (T.elemOk _ _ ht) t1 (a:=a1) x2;simp only [R] at hxv;obtain ⟨a1',c1',e1,e2,e3⟩:=hxv;rw [x1] at e1;cases e1;refine fin (q:=(ρ k).map fun q=>(q.1,q.2+off*sz)) (by rw [hxy.1,hxy.2];exact hr) (nD.refl _ _) (fun _ _ _ _ _ _ _ _=>rfl) (fun _ _=>rfl) (fun b1 o1 hq=>?_) (fun l=>⟨?_,?_⟩)
   ·obtain ⟨⟨b2,o2⟩,h2,h3⟩:=fD.1 hq;cases h3;obtain ⟨m1,m2⟩:=g.live k _ _ hKK (by simp) h2
    exact ⟨m1,m2,g.rng k _ h2,fun j b hj hjk hg b3 o3 h3 e=>hjk (g.inj j k b _ _ _ hj hKK hg (by simp) h3 h2 e)⟩
   ·simp only [R];refine ⟨a1,c1,rfl,e2,?_⟩;rcases e3 with e3 | ⟨b,o,f1,f2,f3,f4⟩
    ·exact .inl e3
    ·exact .inr ⟨b,o+off*sz,by simp [f1],by simpa using f2,f3,by
      have:o+off*sz+(0+c1)*sz=o+(off+c1)*sz:=by rw [Nat.zero_add,eQ,eE]
      rw [this];exact f4⟩
   ·simp only [RB,List.append_nil];refine ⟨fun q hq=>hall q (by simpa using hq),hs0,?_⟩
    rcases hB with hB | ⟨b,o,ws,f1,⟨cc,ee,f2,f3⟩,f4⟩
    ·left;obtain ⟨hB,hu⟩:=hB;subst hB;exact ⟨by simp,fun b o e=>by obtain ⟨q,g1,g2⟩:=fD.1 e;cases g2;exact hu _ _ g1⟩
    ·right;refine ⟨b,o+off*sz,(ws.drop (off*sz)).take (len*sz),by simp [f1],⟨cc,ee,f2,fun j u hj=>?_⟩,?_⟩
     ·rw [cE] at hj;split at hj
      ·rw [eK] at hj;rw [eE];exact f3 _ _ hj
      ·cases hj
     ·have:=sF (xG (f4.later l) (off*sz)) (len*sz)
      rwa [rX _ hes,rW _ (fun e he=>hes e (eB he))] at this
  ·-- there is room
   simp only [R] at hxv;obtain ⟨a1',c1',e1,e2,e3⟩:=hxv;rw [x1] at e1;cases e1;rcases e3 with ⟨e3,e4⟩ | ⟨b,o,f1,f2,f3,⟨cc,ee,fz,f4,f5⟩⟩
   ·omega
   obtain rfl:fz=(0,0):=by
    rcases hB with ⟨_,hu⟩ | ⟨b3,o3,ws3,g1,⟨cc3,ee3,g2,_⟩,_⟩
    ·obtain ⟨cc3,ee3,g2⟩:=hu _ _ f1;rw [f4] at g2;cases g2;rfl
    ·rw [f1] at g1;cases g1;rw [f4] at g2;cases g2;rfl
   have hmul:(off+len)*sz+news.length*sz≤(off+c1)*sz:=by rw [← eQ];exact fT _ (by omega)
   have hfit:o+off*sz+len*inf.size+zs.length≤cc.size:=by
    rw [t2,hs,y5];have:(off+len)*sz=off*sz+len*sz:=eQ _ _ _;omega
   have hr:=L3 (P:=P) (w:=w) (t:=t) (ty:=ty) (a2:=a2) (c2:=c2) (T.elemOk _ _ ht) t1 (b:=b) (o:=o+off*sz) (len:=len) (cap:=c1) (m:=news.length) (by rw [t2,hs];exact y5) y7 hone f4 hroom hfit
   rw [t2,hs] at hr hfit;have hyl:ys.length=len*sz:=x5;have hx8:len=0∨∃ b o,a1=some ⟨b,o,none⟩∧lies w b o ys:=x7;have hcs:((cc.toList.take (o+off*sz+len*sz)++zs++cc.toList.drop (o+off*sz+len*sz+zs.length)).toArray).size=cc.size:=by
    simp only [mN,aD,aY,dK,gG];omega
   have hnew:=setRow_heap w b cc (cc.toList.take (o+off*sz+len*sz)++zs++cc.toList.drop (o+off*sz+len*sz+zs.length)).toArray ee (0,0) f4;obtain ⟨m1,m2⟩:=g.live k _ _ hKK (by simp) f1
   obtain ⟨o1,o2⟩:=hoth0 _ b (fun x hx=>setRow_other w b x (cc.toList.take (o+off*sz+len*sz)++zs++cc.toList.drop (o+off*sz+len*sz+zs.length)).toArray hx) ⟨o,f1⟩;refine fin (q:=some (b,o+off*sz)) (by rw [hxy.1,hxy.2,f2];exact hr) ((qU f4 hcs).mono fun x _ hx=>by rw [hx];exact m1) o1 o2 (fun b1 o1 hq=>?_) (fun l=>⟨?_,?_⟩)
   ·cases hq;exact ⟨m1,m2,(aJ.1 hnew).1,fun j b hj hjk hg b3 o3 h3 e=>hjk (g.inj j k b _ _ _ hj hKK hg (by simp) h3 f1 e)⟩
   ·simp only [R];refine ⟨_,c1,rfl,e2,.inr ⟨b,o+off*sz,by simp,by simp,hroom,_,ee,_,hnew,?_⟩⟩
    rw [hcs,Nat.zero_add];have:(off+c1)*sz=off*sz+c1*sz:=eQ _ _ _;omega
   ·simp only [RB];refine ⟨hall,hs0,.inr ⟨b,o+off*sz,ys++zs,rfl,⟨_,ee,hnew,fun j u hj=>?_⟩,?_⟩⟩
    ·rw [iH];by_cases hj1:j<ys.length
     ·rw [aG hj1] at hj;rcases hx8 with h0 | ⟨b',o',g1,⟨c',e',fz,g2,g3⟩⟩
      ·subst h0;simp at hyl;omega
      rw [f2] at g1;cases g1;rw [f4] at g2;cases g2;rw [bM,aG (by simp;omega),cE,if_pos (by omega)]
      simpa using g3 j u hj
     ·rw [aF (by omega)] at hj
      have hj2:=(aA.1 hj).1;rw [aG (by simp;omega),aF (by simp;omega),← hj]
      congr 1;simp only [aY,gG];omega
    ·rw [fE];exact iT (x6.later l) (y6.later l)
 ·-- a new row
  have hr:=E3 (P:=P) (w:=w) (t:=t) (ty:=ty) (c2:=c2) (a:=a1) (len:=len) (cap:=c1) (m:=news.length) (T.elemOk _ _ ht) t1 t4 (by rw [t2,hs];exact x5) x7 (by rw [t2,hs];exact y5) y7 (by omega) (by rw [t3];exact hb) h63
  have hgc:=grownCap_ge w (len+news.length) c1 e;have hgm:=grownCap_le_maxLen w (len+news.length) c1 e (by simp only [maxLen];omega)
  have hzs:z.cells.size=sz:=by rw [← hs,← t6,← t5];simp
  obtain ⟨g1,g2⟩:=F2 hzs x5 y5 hgc;have hnew:(w.drew.alloc (.cells (ys.toArray++zs.toArray++Builtin.zeroCells z.cells (grownCap w (len+news.length) c1 e-(len+news.length))) e)).heap[w.heap.size]? = some (.cells _ e (0,0)):=heap_alloc_new w.drew _;have hold:∀ b1,b1<w.heap.size→(w.drew.alloc (.cells (ys.toArray++zs.toArray++Builtin.zeroCells z.cells (grownCap w (len+news.length) c1 e-(len+news.length))) e)).heap[b1]? = w.heap[b1]?:=fun b1 hb1=>RowKit.Below.heap_alloc w.drew _ b1 hb1
  refine fin (q:=some (w.heap.size,0)) (by rw [hxy.1,hxy.2];exact hr) ((nD.drew1 w).trans (oB w.drew _ c.M) (fun _ h _=>h)) (fun j b hj hjk hg b1 o1 h2=>hold b1 (g.rng j _ h2)) (fun b1 hb1=>hold b1 (g.stab b1 hb1)) (fun b1 o1 hq=>?_) (fun l=>⟨?_,?_⟩)
  ·cases hq;refine ⟨c.new _ g.ext.size,fun hS=>?_,by simp,fun j b hj hjk hg b2 o2 h2 e=>?_⟩
   ·have:=g.stab _ hS;omega
   ·have:=g.rng j _ h2;simp at this;omega
  ·simp only [R];exact ⟨_,_,rfl,hgm,.inr ⟨w.heap.size,0,by simp,by simp,hgc,_,e,_,hnew,by rw [Nat.zero_add,Nat.zero_add];exact g1⟩⟩
  ·simp only [RB];refine ⟨hall,hs0,.inr ⟨w.heap.size,0,ys++zs,rfl,⟨_,e,hnew,fun j u hj=>by rw [Nat.zero_add];exact g2 j u hj⟩,?_⟩⟩
   rw [fE];exact iT (x6.later l) (y6.later l)
theorem BP {pt it e k dd pp:Nat}{x y:Operand}{l:List UInt8}{m:Int}(hp:P.underlying pt=some (.pointer e)) (hc:P.cellsOf e=1)
  (hx:evu env x=some (.ep k 0 0 1)) (hy:evu env y=some (.i m)) (hm:m=l.length) (hl:l≠[]) (h63:l.length≤9223372036854775807) (hk:h[k]? = some (.buf e l)) :
  iU P ⟨some dd,.call { callee:=.builtin .unsafeString,args:=#[x,y],argTypes:=#[pt,it] },ty,pos,af,none⟩ env h pp k .gone (.s l) []:=by
 subst hm;intro c ρ S a w H g p hbel _ K' Q hK';have h1:=p.evu hx;simp only [R] at h1;obtain ⟨b,o,h2,h3⟩:=h1;have h4:=rL (p.evu hy);rcases p.blk k _ hk with ⟨h5,_⟩ | ⟨b',cc,g1,g2,g3⟩
 ·exact absurd h5 hl
 rw [h2] at g1;obtain ⟨rfl,rfl⟩:b=b'∧o=0:=by simpa using g1
 have hlen:l.length≤cc.size:=by
  have hpos:=eO.2 hl;have:=g3 (l.length-1) (l[l.length-1]'(by omega)) (aB _)
  have:=(aJ.1 this).1;omega
 have hr:=Go.Lib.run_unsafeString_row (P:=P) w pt it ty e hp hc b cc.size (by simp [World.shape?,g2]) l hl hlen h63 (fun j x hj=>by
  have:((⟨b,0,none⟩:Addr).add j)=⟨b,0+j,none⟩:=Addr.add_lit ..;rw [this]
  simp [World.cell?,g2,g3 j x hj])
 unfold Oper.wp;have hev:(execOp a.eval ⟨some dd,.call { callee:=.builtin .unsafeString,args:=#[x,y],argTypes:=#[pt,it] },ty,pos,af,none⟩).run P w = .ok (.value (.string ⟨l.toArray⟩)) (w.freeze ⟨b,0,none⟩ l.length):=by
  have h3':a.eval x = .pointer (some ⟨b,0,none⟩):=by rw [h3]
  simp [execOp,resolve,invoke,builtin,h3',h4,hr]
 rw [hev];have hl0:l.length≠0:=by simpa using hl
 obtain ⟨ff,hfz,hff⟩:∃ ff:Obj→Obj,(w.freeze ⟨b,0,none⟩ l.length).heap=w.heap.modify b ff∧∀ c e fz,∃ fz',ff (.cells c e fz) = .cells c e fz':=by
  unfold World.freeze;rw [if_neg hl0];exact ⟨fun | .cells c elem (lo,hi)=>.cells c elem (if lo == hi then (0,0+l.length) else (min lo 0,max hi (0+l.length))) | o=>o,rfl,fun c e fz=>⟨if fz.1 == fz.2 then (0,0+l.length) else (min fz.1 0,max fz.2 (0+l.length)),rfl⟩⟩
 have hext:nD (fun x=>x=b) w (w.freeze ⟨b,0,none⟩ l.length):=by
  have ho:∀ x,x≠b→(w.freeze ⟨b,0,none⟩ l.length).heap[x]? = w.heap[x]?:=fun x hx=>by rw [hfz];exact Q5 hx
  have hf:∀ {α:Type} (f:World→α),(∀ w h',f { w with heap:=h' }=f w)→f (w.freeze ⟨b,0,none⟩ l.length)=f w:=fun f hf=>by
   unfold World.freeze;rw [if_neg hl0];exact hf _ _
  refine ⟨hf (·.os) (fun _ _=>rfl),hf (·.tape) (fun _ _=>rfl),hf (·.output) (fun _ _=>rfl),by rw [hfz,Array.size_modify];exact aX _,fun x _ hx=>ho x hx,fun x c0 ee fz hcc=>?_⟩
  by_cases hx:x=b
  ·subst hx;rw [g2] at hcc;cases hcc;obtain ⟨fz',hz'⟩:=hff cc e (0,0);exact ⟨cc,fz',by rw [hfz,IH g2,hz'],rfl⟩
  ·exact ⟨c0,fz,by rw [ho x hx];exact hcc,rfl⟩
 obtain ⟨g4,g5⟩:=g.upd (nb:=.gone) (hbel k _ hk (by simp)) (by simp) h2 hext (fun _=>trivial)
 exact hK' _ _ _ _ g4 g5 (by simp [R]) (fun _ _=>rfl)
theorem lY {n:Nat × Nat}{Q:Exit→eG→Hp→Prop}{id:Nat}{l:List Oper}(k:Nat) (pres:List (List Nat)) (ds:List Nat) (bads:List (List Nat)) (ss:List (Nat × Nat)) (hm:P.follows .mixedOrders=true) (hn:n.1=k) (hok:jU l pres ds bads ss k=true)
  (hv:MQ P n l pres ds bads ss (eP ds env) h 0 (eP ds env) [] [] (fun v h=>Q .normal v h)) (hndf:nW l=true:=by rfl):AW P n (.region id l.toArray true) env h Q:=zS0 pres ds bads ss hm (by rw [hn];exact hok) hv hndf
end
end Go.Ab
