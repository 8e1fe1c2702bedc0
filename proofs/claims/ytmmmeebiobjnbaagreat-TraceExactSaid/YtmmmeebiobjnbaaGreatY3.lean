/-
  Texts of the logic and of the layer,in one module (part 3).
-/
import Derived.Test.YtmmmeebiobjnbaaGreatY2
import Derived.RangeFuncSeq
import Derived.Sort.Grow
import Derived.Lib.SliceRun
import Derived.SizedLaws
import Derived.Maps.RangeRun
import Derived.Lib.AppendStr
import Derived.Laws.Concat
import Derived.Laws.Strings
import Derived.Laws.Strings2
import Derived.Laws.Strings3
import Derived.Lib.UnsafeStr
import Derived.RangeFuncGives
import Derived.Lib.SlKeysI
import Derived.Maps.Own
import Derived.Deep.Draws
import Derived.Lib.LaidTab
import Derived.Lib.ItoaNum
import Derived.Lib.Builder
import Derived.Laws.Pointers
import Derived.Lib.SlicesDelete
import Derived.Deep.RegionLaw
import Derived.Sort.EncStr
set_option linter.unusedVariables false
set_option linter.unusedSimpArgs false
set_option linter.unnecessarySimpa false

namespace Go.Ab
open Go
theorem yR5 {S S':Nat→Prop}{w:World}{ρ:Pl}{x:AV}{y:Value}(hS:∀ b,S b→S' b) (h:R S w x ρ y):R S' w x ρ y:=
  nW hS (fun _ _=>rfl) x ρ ρ y (fun _ _ h=>h) (fun _ _ _ _ _ h=>h) h
theorem yP2 {S S':Nat→Prop}{w:World}{ρ:Pl}{p:Option (Nat × Nat)}{x:AB}(hS:∀ b,S b→S' b) (h:RB S w ρ p x):RB S' w ρ p x:=
  EE (fun b _ _ hb _=>hS b hb) (fun _ _ _ h=>h) h
theorem HS.re {c:pA}{ρ:Pl}{S:Nat→Prop}{h:Hp}{w:World}(s:HS c ρ S h w) (c':pA) (hM:∀ (k:Nat) x p,h[k]? = some x→x≠.gone→ρ k=some p→c'.M p.1) (hext:nU c'.M c'.w0 w) (h0:∀ b,c'.S0 b→S b) (h1:∀ b,S b→c'.S0 b∨c'.M b) (hm:c'.m≤h.length) (hk:∀ k,k<c'.m→ρ k=c'.ρ0 k):HS c' ρ S h w:=
  ⟨s.dom,s.rng,s.blk,fun k b p hb hg hp=>⟨hM k b p hb hg hp,(s.live k b p hb hg hp).2⟩,s.inj,s.stab,hext,h0,h1,hm,hk,s.glob⟩
theorem HS.world {c:pA}{ρ:Pl}{S N:Nat→Prop}{h:Hp}{w w':World}(s:HS c ρ S h w) (x:nU N w w') (hS:∀ b,S b→¬ N b) (hl:∀ (k:Nat) y p,h[k]? = some y→y≠.gone→ρ k=some p→¬ N p.1) (hM:∀ b,b<c.w0.heap.size→N b→c.M b):HS c ρ S h w'∧iJ ρ ρ S S w w':=by
  have l:iJ ρ ρ S S w w':=⟨fun _ _ h=>h,fun _ h=>h,fun b hb=>x.same b (s.stab b hb) (hS b hb),fun _ _ _ _ _ hr=>x.room hr⟩
  refine ⟨⟨s.dom,fun k p hp=>eL (s.rng k p hp) x.size,fun k b hb=>?_,s.live,s.inj,fun b hb=>eL (s.stab b hb) x.size,s.ext.trans x (fun b hb hlt=>hM b hlt hb),s.st0,s.st1,s.mle,s.keep,s.glob.later l⟩,l⟩;by_cases hg:b = .gone
  · subst hg;trivial
  · exact RB.later l (fun b' o hp=>x.same b' (s.rng k _ hp) (hl k b _ hb hg hp)) (s.blk k b hb)
theorem HS.more {c:pA}{ρ:Pl}{S S':Nat→Prop}{h:Hp}{w:World}(s:HS c ρ S h w) (hS:∀ b,S b→S' b) (hlt:∀ b,S' b→b<w.heap.size) (hl:∀ (k:Nat) y p,h[k]? = some y→y≠.gone→ρ k=some p→¬ S' p.1) (h1:∀ b,S' b→c.S0 b∨c.M b):HS c ρ S' h w:=
  ⟨s.dom,s.rng,fun k b hb=>yP2 hS (s.blk k b hb),fun k b p hb hg hp=>⟨(s.live k b p hb hg hp).1,hl k b p hb hg hp⟩,s.inj,hlt,s.ext,fun b hb=>hS b (s.st0 b hb),h1,s.mle,s.keep,s.glob.st hS⟩
theorem JJ {w:World}{l:Nat}{o o':Obj}(hl:w.heap[l]? = some o) (hn:∀ c e fz,o≠.cells c e fz):nU (fun b=>b=l) w (w.putObj l o'):=
  ⟨rfl,rfl,rfl,by rw [World.putObj_size];exact aU _,fun b _ hb=>qL hb,fun b c e fz hc=>⟨c,fz,by
    have:b≠l:=fun e'=>by rw [e',hl] at hc;cases hc;exact hn _ _ _ rfl
    rw [qL this];exact hc,rfl⟩⟩
theorem HS.put {c:pA}{ρ:Pl}{S:Nat→Prop}{h:Hp}{w:World}{l:Nat}{o:Obj}(s:HS c ρ S h w) (hl:w.heap[l]? = some o) (hn:∀ c e fz,o≠.cells c e fz) (hm:zX9 o=false) (o':Obj) (hM:l<c.w0.heap.size→c.M l) (h0:¬ c.S0 l) :
    HS c ρ (fun b=>S b∧b≠l) h (w.putObj l o')∧∀ x y,R S w x ρ y→R (fun b=>S b∧b≠l) (w.putObj l o') x ρ y:=by
  have hmm:∀ (b:Nat) q,uU q=true→w.heap[b]? = some q→b≠l:=fun b q hq hb e'=>by
    rw [e',hl] at hb;cases hb;cases o <;> first | (cases hq;done) | exact hn _ _ _ rfl | (rw [zX9] at hm;cases hm)
  have a1:∀ (b:Nat) q,uU q=true→S b→w.heap[b]? = some q→S b∧b≠l:=fun b q hq h1 h2=>⟨h1,hmm b q hq h2⟩
  have a2:∀ (b:Nat) q,uU q=true→w.heap[b]? = some q→(w.putObj l o').heap[b]? = some q:=fun b q hq h2=>by rw [qL (hmm b q hq h2)];exact h2
  refine ⟨⟨s.dom,fun k p hp=>by rw [World.putObj_size];exact s.rng k p hp,fun k b hb=>EE a1 a2 (s.blk k b hb),fun k b p hb hg hp=>⟨(s.live k b p hb hg hp).1,fun h=>(s.live k b p hb hg hp).2 h.1⟩,s.inj,fun b hb=>by rw [World.putObj_size];exact s.stab b hb.1,s.ext.trans (JJ hl hn) (fun b hb hlt=>by subst hb;exact hM hlt),fun b hb=>⟨s.st0 b hb,fun e=>h0 (e▸hb)⟩,fun b hb=>s.st1 b hb.1,s.mle,s.keep,s.glob.cells a1 a2⟩,fun x y hx=>P5 a1 a2 x ρ y hx⟩
abbrev JT:=Nat × Bool→(Nat→Prop)→(Nat→Prop)→World→Prop
structure zL6 (J:JT):Prop where
  st:∀ {g W N w w'},J g W N w→nU (fun b=>¬ N b) w w'→J g W N w'
  sub:∀ {g W N w},J g W N w→∀ b,W b→N b
  lt:∀ {g W N w},J g W N w→∀ b,N b→b<w.heap.size
structure yG5 (J:JT) (A:Nat→Prop) (g:Nat × Bool) (c:pA) (ρ:Pl) (S:Nat→Prop) (h:Hp) (w:World) (W N:Nat→Prop):Prop where
  j:J g W N w
  live:∀ (k:Nat) x p,h[k]? = some x→x≠.gone→ρ k=some p→¬ N p.1
  st:∀ b,S b→¬ W b
  cell:∀ b,S b→c.lo≤b→N b→T0 w b
  wm:∀ b,W b→c.M b
  accS:∀ b,S b→A b
  accM:∀ b,c.M b→A b
  nn:∀ b,N b→c.nb b∨c.S0 b∨c.M b
def JS (J:JT) (A:Nat→Prop) (g:Nat × Bool) (c:pA) (ρ:Pl) (S:Nat→Prop) (h:Hp) (w:World):Prop:=∃ W N,yG5 J A g c ρ S h w W N
def pA.re (c:pA) (w:World) (S N:Nat→Prop) (hn:∀ b,N b→b<w.heap.size) (hs:c.w0.heap.size≤w.heap.size):pA where
  w0:=w
  M:=fun b=>c.M b∧¬ N b
  new:=fun b hb=>⟨c.new b (bG hs hb),fun h=>by have:=hn b h;omega⟩
  S0:=S
  ρ0:=c.ρ0
  m:=c.m
  lo:=c.lo
  lole:=bG c.lole hs
  r:=c.r
  nb:=c.nb
section
variable {P:Program}{J:JT}{A:Nat→Prop}{g:Nat × Bool}{n:Nat × Nat}{c:pA}{ρ:Pl}{S W N:Nat→Prop}{env:eE}{h:Hp}{a:Act}{w:World}
theorem pX.re (s:pX n c ρ S env h a w) (j:yG5 J A g c ρ S h w W N) (hn:∀ b,N b→b<w.heap.size) (hs:c.w0.heap.size≤w.heap.size):pX n (c.re w S N hn hs) ρ S env h a w:=
  ⟨s.size,s.defers,s.env,s.hs.re _ (fun k x p hx hg hp=>⟨(s.hs.live k x p hx hg hp).1,j.live k x p hx hg hp⟩) (nU.refl _ _) (fun _ h=>h) (fun _ h=>.inl h) s.hs.mle s.hs.keep,s.cm⟩
theorem pX.un {ρ':Pl}{S':Nat→Prop}{env':eE}{h':Hp}{a':Act}{w':World}(hJ:zL6 J) (s:pX n c ρ S env h a w) (j:yG5 J A g c ρ S h w W N) (hn:∀ b,N b→b<w.heap.size) (hs:c.w0.heap.size≤w.heap.size) (s':pX n (c.re w S N hn hs) ρ' S' env' h' a' w') :
    pX n c ρ' S' env' h' a' w'∧yG5 J A g c ρ' S' h' w' W N:=by
  have hx:nU (fun b=>c.M b∧¬ N b) w w':=s'.hs.ext;have hl:∀ (k:Nat) x p,h'[k]? = some x→x≠.gone→ρ' k=some p→c.M p.1∧¬ N p.1:=fun k x p a1 a2 a3=>(s'.hs.live k x p a1 a2 a3).1;have hst:∀ b,S' b→S b∨(c.M b∧¬ N b):=fun b hb=>s'.hs.st1 b hb
  refine ⟨⟨s'.size,s'.defers,s'.env,s'.hs.re c (fun k x p a1 a2 a3=>(hl k x p a1 a2 a3).1) (s.hs.ext.trans hx fun b hb _=>hb.1) (fun b hb=>s'.hs.st0 b (s.hs.st0 b hb)) (fun b hb=>(hst b hb).elim (s.hs.st1 b) fun h=>.inr h.1) s'.hs.mle s'.hs.keep,s'.cm⟩,?_⟩;refine ⟨hJ.st j.j (hx.mono fun b _ hb=>hb.2),fun k x p a1 a2 a3=>(hl k x p a1 a2 a3).2,fun b hb hw=>?_,fun b hb h1 h2=>?_,j.wm,fun b hb=>(hst b hb).elim (j.accS b) fun h=>j.accM b h.1,j.accM,j.nn⟩
  · rcases hst b hb with h1 | h1
    · exact j.st b h1 hw
    · exact h1.2 (hJ.sub j.j b hw)
  · rcases hst b hb with h3 | h3
    · obtain ⟨cc,e,h4⟩:=j.cell b h3 h1 h2;exact ⟨cc,e,by rw [hx.same b (hn b h2) fun h=>h.2 h2];exact h4⟩
    · exact absurd h2 h3.2
theorem JS.sub {L:List Nat}{h':Hp}(s:HS c ρ S h w) (hl:L.length=h'.length) (hh:vD (th L h.length) h 0 h') (j:JS J A g c ρ S h w):JS J A g c (fun k=>ρ (th L h.length k)) S h' w:=by
  obtain ⟨W,N,j⟩:=j;refine ⟨W,N,j.j,fun k x p hx hg hp=>?_,j.st,j.cell,j.wm,j.accS,j.accM,j.nn⟩
  have h1:=hh.get k x hx;rw [Nat.zero_add] at h1;exact j.live _ _ p (h1.resolve_left hg) (by cases x <;> simp [AB.map] at *) hp
end
def EI (P:Program) (l:Nat) (J:JT) (A:Nat→Prop) (items:Nat→List AV) (N:Nat):Prop:=
  ∀ k,k<N→∀ W Nn w S vs,J (k,false) W Nn w→(∀ b,S b→A b∧¬ W b∧T0 w b)→RL S w (items k) (fun _=>none) vs →
    YieldAt Fence.wide 0 P l vs.toArray w fun e w'=>∃ (b:Bool) (W' N':Nat→Prop),e = .returned (.bool b)∧J (k+1,!b) W' N' w'∧nU W w w'∧(∀ x,W' x→W x∨w.heap.size≤x)∧(∀ x,N' x→Nn x∨S x∨w.heap.size≤x)
def AY (P:Program) (J:JT) (A:Nat→Prop) (n:Nat × Nat) (code:Code) (g:Nat × Bool) (env:eE) (h:Hp) (Q:Nat × Bool→Exit→eE→Hp→Prop):Prop:=
  ∀ c ρ S a w QQ,pX n c ρ S env h a w→JS J A g c ρ S h w→(∀ g' e env' h' ρ' S' a' w',Q g' e env' h'→pX n c ρ' S' env' h' a' w'→JS J A g' c ρ' S' h' w'→QQ e a' w')→code.wpIn (rd c.r) 0 P QQ a w
def VY (P:Program) (J:JT) (A:Nat→Prop) (n:Nat × Nat) (ops:Array Oper) (rest:List Oper) (g:Nat × Bool) (env:eE) (h:Hp) (K:Nat × Bool→eE→Hp→Prop):Prop:=
  ∀ c ρ S a w Q,pX n c ρ S env h a w→JS J A g c ρ S h w→(∀ e a w,Q e a w→e=Exit.normal)→(∀ g' env' h' ρ' S' a' w',K g' env' h'→pX n c ρ' S' env' h' a' w'→JS J A g' c ρ' S' h' w'→Q .normal a' w')→wpListIn (rd c.r) 0 P ops Q rest a w
def zB5 (K:Nat × Bool→eE→Hp→Prop) (Q:Nat × Bool→Exit→eE→Hp→Prop):Nat × Bool→Exit→eE→Hp→Prop
  | g,.normal,v,h=>K g v h
  | g,e,v,h=>Q g e v h
def RI (id:Nat) (Q:Nat × Bool→Exit→eE→Hp→Prop):Nat × Bool→Exit→eE→Hp→Prop
  | g,.exit id',v,h=>if id'=id then Q g .normal v h else Q g (.exit id') v h
  | g,e,v,h=>Q g e v h
section
variable {P:Program}{J:JT}{A:Nat→Prop}{n:Nat × Nat}{g:Nat × Bool}{env:eE}{h:Hp}{Q:Nat × Bool→Exit→eE→Hp→Prop}
theorem rU {code:Code}(hJ:zL6 J) (hv:AW P n code env h (fun e v h=>Q g e v h)):AY P J A n code g env h Q:=by
  intro c ρ S a w QQ s ⟨W,N,j⟩ hQ;have hn:=hJ.lt j.j;refine hv (c.re w S N hn s.hs.ext.size) ρ S a w QQ (s.re j hn s.hs.ext.size) fun e env' h' ρ' S' a' w' hq s'=>?_
  obtain ⟨h1,h2⟩:=s.un hJ j hn s.hs.ext.size s';exact hQ g e env' h' ρ' S' a' w' hq h1 ⟨W,N,h2⟩
theorem zI {x y:Code}(hx:AY P J A n x g env h (zB5 (fun g v h=>AY P J A n y g v h Q) Q)):AY P J A n (.seq x y) g env h Q:=by
  intro c ρ S a w QQ s j hQ;refine wpIn_seq (hx c ρ S a w _ s j fun g' e env' h' ρ' S' a' w' k s' j'=>?_);cases e with
  | normal=>exact k c ρ' S' a' w' QQ s' j' hQ
  | _=>exact hQ g' _ env' h' ρ' S' a' w' k s' j'
theorem AS (hk:Q g .normal env h):AY P J A n .skip g env h Q:=fun _ _ _ _ _ _ s j hQ=>wpIn_skip (hQ _ _ _ _ _ _ _ _ hk s j)
theorem JW {id:Nat}(hk:Q g (.exit id) env h):AY P J A n (.exit id) g env h Q:=fun _ _ _ _ _ _ s j hQ=>wpIn_exit (hQ _ _ _ _ _ _ _ _ hk s j)
theorem zH6 (hk:Q g .ret env h):AY P J A n .ret g env h Q:=fun _ _ _ _ _ _ s j hQ=>wpIn_ret (hQ _ _ _ _ _ _ _ _ hk s j)
theorem D1 {id:Nat}{x:Code}(hx:AY P J A n x g env h (RI id Q)):AY P J A n (.block id x) g env h Q:=by
  intro c ρ S a w QQ s j hQ;refine wpIn_block (hx c ρ S a w _ s j fun g' e env' h' ρ' S' a' w' k s' j'=>?_);cases e with
  | exit id'=>
    by_cases hid:id'=id
    · simp only [RI,hid,if_true] at k;simp only [Exit.inBlock,hid,if_true];exact hQ g' _ env' h' ρ' S' a' w' k s' j'
    · simp only [RI,hid,if_false] at k;simp only [Exit.inBlock,hid,if_false];exact hQ g' _ env' h' ρ' S' a' w' k s' j'
  | _=>exact hQ g' _ env' h' ρ' S' a' w' k s' j'
theorem zJ {x:Operand}{b:Bool}{p q:Code}(hx:ev env x=some (.b b)) (ht:b=true→AY P J A n p g env h Q) (hf:b=false→AY P J A n q g env h Q):AY P J A n (.cond x p q) g env h Q:=by
  intro c ρ S a w QQ s j hQ;have hb:=s.ev hx;simp only [R] at hb;exact wpIn_cond_split hb (fun h1=>ht h1 c ρ S a w QQ s j hQ) (fun h1=>hf h1 c ρ S a w QQ s j hQ)
theorem yF5 {code:Code}{env':eE}{h':Hp}(hs:KQ n.2 env h env' h') (hk:AY P J A n code g env' h' Q):AY P J A n code g env h Q:=by
  intro c ρ S a w QQ s j hQ;obtain ⟨L,h1,h2,h3,h4,h5⟩:=hs;exact hk c _ S a w QQ ⟨s.size,s.defers,fun t x hx=>Y5 _ ρ _ _ (s.env t _ (h2.look t x hx)),s.hs.sub h1 h3 h4 (fun i hi=>h5 i (s.cm▸hi)),s.cm⟩ (JS.sub s.hs h1 h3 j) hQ
theorem JV {body:Code}{X:Type}(E:X→eE) (H:X→Hp) (G:X→Nat × Bool) (μ:X→Nat) (x0:X) (hg:g=G x0) (h0:KQ n.2 env h (E x0) (H x0))
    (round:∀ x,AY P J A n body (G x) (E x) (H x) (zB5 (fun g v h=>∃ x',μ x'<μ x∧g=G x'∧KQ n.2 v h (E x') (H x')) Q)):AY P J A n (.loop body) g env h Q:=by
  subst hg;refine yF5 h0 ?_;intro c ρ S a w QQ s0 j0 hQ b k cs hro hb hr;have key:∀ m x,μ x=m→∀ ρ S a w,pX n c ρ S (E x) (H x) a w→JS J A (G x) c ρ S (H x) w→∃ e a' w',QQ e a' w'∧ArrivesIn (Machine.fenced P (rd c.r)) P (lone (b.atR a (.code body :: .inLoop body::k)) cs w) b k cs e a' w':=by
    intro m
    induction m using Nat.strongRecOn with
    | _ m ih=>
      intro x hx ρ S a w s j;obtain ⟨e,a₁,w₁,hq,harr⟩:=round x c ρ S a w (fun e a' w'=>∃ g' env' h' ρ' S',zB5 (fun g v h=>∃ x',μ x'<μ x∧g=G x'∧KQ n.2 v h (E x') (H x')) Q g' e env' h'∧pX n c ρ' S' env' h' a' w'∧JS J A g' c ρ' S' h' w') s j (fun g' e env' h' ρ' S' a' w' hq s' j'=>⟨g',env',h',ρ',S',hq,s',j'⟩) b (.inLoop body::k) cs hro hb hr;obtain ⟨g',env',h',ρ',S',hq,s',j'⟩:=hq;cases e with
      | normal=>
        obtain ⟨x',hlt,rfl,L,h1,h2,h3,h4,h5⟩:=hq;have s2:pX n c (fun k=>ρ' (th L h'.length k)) S' (E x') (H x') a₁ w₁:=⟨s'.size,s'.defers,fun t x hx=>Y5 _ ρ' _ _ (s'.env t _ (h2.look t x hx)),s'.hs.sub h1 h3 h4 (fun i hi=>h5 i (s'.cm▸hi)),s'.cm⟩;obtain ⟨e₂,a₂,w₂,hq₂,harr₂⟩:=ih (μ x') (hx▸hlt) x' rfl _ S' a₁ w₁ s2 (JS.sub s'.hs h1 h3 j');exact ⟨e₂,a₂,w₂,hq₂,.of_steps (StepsIn.trans harr (.one (fenced_calm hb hr rfl) stepR_inLoop)) harr₂⟩
      | exit id=>exact ⟨_,a₁,w₁,hQ _ _ env' h' ρ' S' a₁ w₁ hq s' j',.pass (x:=.inLoop body) rfl (fun _ _=>.inl (by simp)) harr⟩
      | goto l=>exact ⟨_,a₁,w₁,hQ _ _ env' h' ρ' S' a₁ w₁ hq s' j',.pass (x:=.inLoop body) rfl (fun _ _=>.inl (by simp)) harr⟩
      | ret=>exact ⟨_,a₁,w₁,hQ _ _ env' h' ρ' S' a₁ w₁ hq s' j',.pass (x:=.inLoop body) rfl (fun _ _=>.inl (by simp)) harr⟩
      | panic ch=>exact ⟨_,a₁,w₁,hQ _ _ env' h' ρ' S' a₁ w₁ hq s' j',.pass (x:=.inLoop body) rfl (fun _ _=>.inl (by simp)) harr⟩
      | outgrown=>exact ⟨_,a₁,w₁,hQ _ _ env' h' ρ' S' a₁ w₁ hq s' j',.pass (x:=.inLoop body) rfl (fun _ _=>.inl (by simp)) harr⟩
  obtain ⟨e,a',w',hq,harr⟩:=key _ x0 rfl ρ S a w s0 j0;exact ⟨e,a',w',hq,.of_steps (.one (fenced_calm hb hr rfl) stepR_loop) harr⟩
theorem HH {id:Nat}{l:List Oper}(hv:VY P J A n l.toArray l g env h (fun g v h=>Q g .normal v h)):AY P J A n (.region id l.toArray false) g env h Q:=by
  intro c ρ S a w QQ s j hQ;exact wpIn_mono (wpIn_region_lit (hv c ρ S a w (fun e a w=>e = .normal∧QQ .normal a w) s j (fun e a w h=>h.1) fun g' env' h' ρ' S' a' w' k s' j'=>⟨rfl,hQ g' .normal env' h' ρ' S' a' w' k s' j'⟩)) fun e a w he=>by obtain ⟨rfl,h3⟩:=he;exact h3
end
theorem MN {F:Fence}{m:Nat}{P:Program}{o:Oper}{a:Act}{w:World}{K:Act→World→Prop}{Q Q':Exit→Act→World→Prop}(hq:∀ e a w,Q e a w→e = .normal) (h:o.wpIn F m P a w K Q):o.wpIn F m P a w K Q':=by
  refine ⟨h.1,?_⟩;have h:=h.2;have hp:∀ {ch a w} {p:Prop},Q (.panic ch) a w→p:=fun hh=>by have:=hq _ _ _ hh;cases this
  have ho:∀ {p:Prop},LetsOut Q→p:=fun ⟨_,_,hh⟩=>by have:=hq _ _ _ hh;cases this
  generalize (o.semAt F.round a.eval).run P w=r at h ⊢;cases r with
  | ok x w'=>
    cases x <;> simp only [Oper.uponIn] at h ⊢ <;>
      first
        | exact h
        | exact ⟨h.1,h.2.mono (fun e w'' he=>by cases e <;> first | exact he | exact hp he | exact ho he)⟩
  | halt x w'=>cases x <;> simp only [Oper.uponIn] at h ⊢ <;> first | exact h | exact hp h
theorem xZ {F:Fence}{m:Nat}{P:Program}{ops:Array Oper}{Q:Exit→Act→World→Prop}{l2:List Oper}:∀ {l1:List Oper}{a:Act}{w:World},wpListIn F m P ops (fun e a w=>e = .normal∧wpListIn F m P ops Q l2 a w) l1 a w→wpListIn F m P ops Q (l1++l2) a w
  | [],_,_,h=>h.2
  | o::l1,a,w,h=>by
    show wpListIn F m P ops Q (o::(l1++l2)) a w;unfold wpListIn at h ⊢;split at h
    · rename_i hw;rw [if_pos hw];exact MN (Q:=fun e a w=>e = .normal∧wpListIn F m P ops Q l2 a w) (fun e a w h=>h.1) (Oper.wpIn_mono (fun a w h=>xZ h) h)
    · rename_i hw;rw [if_neg hw];exact ⟨h.1,xZ h.2⟩
section
variable {P:Program}{J:JT}{A:Nat→Prop}{n:Nat × Nat}{g:Nat × Bool}{ops:Array Oper}{env:eE}{h:Hp}{K:Nat × Bool→eE→Hp→Prop}
theorem YA {l1 l2:List Oper}(hJ:zL6 J) (hnd:nJ l1=true) (hv:VC P n ops l1 env h (fun v h=>VY P J A n ops l2 g v h K)):VY P J A n ops (l1++l2) g env h K:=by
  intro c ρ S a w Q s ⟨W,N,j⟩ hq hQ;have hn:=hJ.lt j.j;refine xZ (wV (fun e a w h=>h.1) hnd (hv (c.re w S N hn s.hs.ext.size) ρ S a w (fun e a w=>e = .normal∧wpListIn (rd c.r) 0 P ops Q l2 a w) (s.re j hn s.hs.ext.size) fun env' h' ρ' S' a' w' k s'=>⟨rfl,?_⟩));obtain ⟨h1,h2⟩:=s.un hJ j hn s.hs.ext.size s';exact k c ρ' S' a' w' Q h1 ⟨W,N,h2⟩ hq hQ
theorem XZ (k:Nat){rest:List Oper}(hJ:zL6 J) (hv:VC P n ops (rest.take k) env h (fun v h=>VY P J A n ops (rest.drop k) g v h K)) (hnd:nJ (rest.take k)=true:=by rfl):VY P J A n ops rest g env h K:=by
  have:=YA hJ hnd hv
  rwa [bS] at this
theorem zY0 {rest:List Oper}(hJ:zL6 J) (hv:VC P n ops rest env h (fun v h=>K g v h)) (hnd:nJ rest=true:=by rfl):VY P J A n ops rest g env h K:=by
  have:=YA (l1:=rest) (l2:=[]) (A:=A) (g:=g) (K:=K) hJ hnd (hv.mono fun e h k=>(fun c ρ S a w Q s j hq hQ=>hQ g e h ρ S a w k s j))
  rwa [List.append_nil] at this
theorem KX {d:Option Nat}{x:Operand}{l k N:Nat}{us:List AV}{args:List Operand}{ats:Array TypeId}{ty:TypeId}{pos:String}{af:Array Edge}{items:Nat→List AV}{rest:List Oper}(hJ:zL6 J) (hy:EI P l J A items N) (hx:evu env x=some (.clo (.yield l) [] [])) (ha:xN env args=some us) (hi:AV.idfL us=true) (hk:k<N) (hit:items k=us) (hd:GD d n=true)
    (hb:∀ b:Bool,VY P J A n ops rest (k+1,!b) (nA d (.b b) env) h K):VY P J A n ops (⟨d,.call { callee:=.value x,args:=args.toArray,argTypes:=ats },ty,pos,af,none⟩::rest) (k,false) env h K:=by
  intro c ρ S a w Q s ⟨W,Nn,j⟩ hq hQ;refine wpListIn_plain rfl fun K' hK'=>?_
  have p:=s.pre;have hxv:=p.evu hx;simp only [R,RL] at hxv;obtain ⟨ys,zs,e1,h1,h2⟩:=hxv;have e2:ys = #[]:=by cases ys;simp_all
  have e3:zs = #[]:=by cases zs;simp_all
  subst e2 e3;have hargs:=tW p ha;have hS1:∀ b,(S b∧T0 w b)→A b∧¬ W b∧T0 w b:=fun b hb=>⟨j.accS b hb.1,j.st b hb.1,hb.2⟩
  have hargs1:RL (fun b=>S b∧T0 w b) w (items k) (fun _=>none) (args.map a.eval):=by
    rw [hit];exact wP ρ _ _ _ hi (lC (fun b cc e q1 q2=>⟨q1,cc,e,q2⟩) (fun _ _ _ h=>h) _ _ _ hargs)
  obtain ⟨fn,tmps,assign,body,hrun,hround⟩:=hy k hk W Nn w _ _ j.j hS1 hargs1;refine ⟨fun _ _=>trivial,?_⟩
  rw [CM rfl];have hr2:(execOp a.eval ⟨d,.call { callee:=.value x,args:=args.toArray,argTypes:=ats },ty,pos,af,none⟩).run P w = .ok (.round l fn tmps assign body) w:=by
    have e4:(#[]++(args.toArray.map a.eval))=(args.map a.eval).toArray:=by
      apply Array.ext';simp
    simp only [execOp,resolve,e1,Deferred.ofValue,Sem.run_bind,Sem.run_pure,Result.andThen_ok,invoke];rw [e4];exact hrun
  rw [hr2];refine ⟨fun h=>(by cases h),?_⟩
  have hround:RoundIn (rd c.r) (0-1) P l fn tmps assign body w _:=hround;refine hround.mono ?_;rintro e w' ⟨b,W',N',rfl,j1,hx,hW',hN'⟩;have hWlt:∀ b,W b→b<w.heap.size:=fun b hb=>hJ.lt j.j b (hJ.sub j.j b hb);obtain ⟨hs',l'⟩:=s.hs.world hx j.st (fun k y p a1 a2 a3 hw=>j.live k y p a1 a2 a3 (hJ.sub j.j _ hw)) (fun b _ hb=>j.wm b hb);refine hK' _ _ (hb b c ρ S (a.put d (.bool b)) w' Q ⟨by rw [nI];exact s.size,by rw [kX];exact s.defers.later l',zC s.size hd (fun t u hu=>(s.env t u hu).later l') (lM _),hs',s.cm⟩ ⟨W',N',j1,fun k y p a1 a2 a3 hn=>?_,fun b hb hw=>?_,fun b hb h1 h2=>?_,fun b hb=>?_,j.accS,j.accM,fun b hb=>?_⟩ hq hQ)
  · rcases hN' _ hn with hn | hn | hn
    · exact j.live k y p a1 a2 a3 hn
    · exact (s.hs.live k y p a1 a2 a3).2 hn.1
    · have:=s.hs.rng k p a3;omega
  · rcases hW' _ hw with hw | hw
    · exact j.st b hb hw
    · have:=s.hs.stab b hb;omega
  · have same:=hx.same b (s.hs.stab b hb) (j.st b hb);rcases hN' _ h2 with h2 | h2 | h2
    · obtain ⟨cc,e,h4⟩:=j.cell b hb h1 h2;exact ⟨cc,e,by rw [same];exact h4⟩
    · obtain ⟨cc,e,h4⟩:=h2.2;exact ⟨cc,e,by rw [same];exact h4⟩
    · have:=s.hs.stab b hb;omega
  · rcases hW' _ hb with hb | hb
    · exact j.wm b hb
    · exact c.new b (bG s.hs.ext.size hb)
  · rcases hN' _ hb with hb | hb | hb
    · exact j.nn b hb
    · exact .inr (s.hs.st1 b hb.1)
    · exact .inr (.inr (c.new b (bG s.hs.ext.size hb)))
end
def zV6 (w:World) (ρ:Pl) (S:Nat→Prop) (hit:Hp) (A:Nat→Prop) (hA:∀ b,w.heap.size≤b→A b):pA where
  w0:=w
  M:=A
  new:=hA
  S0:=S
  ρ0:=ρ
  m:=hit.length
  lo:=w.heap.size
  lole:=aU _
  r:=none
def EJ (P:Program) (f:FuncId) (fs cs:List AV) (hit:Hp) (items:Nat→List AV) (N:Nat):Prop:=
  (∃ fn, P.funcs[f]? = some fn ∧ (fn.name == "runtime.NumGoroutine") = false ∧ fn.body.isNone = false) ∧
  ∀ (J:JT) (A:Nat→Prop) (l:Nat),zL6 J→EI P l J A items N→∀ ρ S w vs W Nn (hA:∀ b,w.heap.size≤b→A b),HS (zV6 w ρ S hit A hA) ρ S hit w→RL S w (fs++[.clo (.yield l) [] []]++cs) ρ vs→J (0,false) W Nn w →
    (∀ (k:Nat) x p,hit[k]? = some x→x≠.gone→ρ k=some p→¬ Nn p.1)→(∀ b,S b→A b∧¬ W b)→(∀ b,W b→A b) →
    Calls P f vs.toArray w fun e w'=>∃ y g W' N',e = .returned y∧J g W' N' w'∧(g.2=false→g.1=N)
theorem M5 {P:Program}{fn:Func}{tmps:Array Value}{RR:Ending→World→Prop}{c:pA}{ρ:Pl}{h:Hp}(hlo:c.w0.heap.size≤c.lo) (h0:∀ b,c.S0 b→b<c.w0.heap.size):∀ (D:List Nat) (S:Nat→Prop) (w:World),HS c ρ S h w→D.Nodup→(∀ b,b∈D→S b∧w.heap[b]? = some (.deferred (some []))∧c.lo≤b) →
    (∀ S' w',HS c ρ S' h w'→(∀ x y,R S w x ρ y→R S' w' x ρ y)→nU (fun b=>b∈D) w w'→∃ v,(results fn tmps).run P w' = .ok v w'∧RR (.returned v) w')→LeavesInM Fence.wide 0 P fn tmps RR (D.map zR0) .returning w
  | [],S,w,s,_,_,hk=>by
    have:=hk S w s (fun _ _ h=>h) (nU.refl _ _);simpa only [List.map_nil,LeavesInM,LeavesIn] using this
  | m::D,S,w,s,hnd,hD,hk=>by
    rw [fT] at hnd;obtain ⟨h1,h2,h3⟩:=hD m (by simp)
    obtain ⟨g1,g2⟩:=s.shut1 h2 (by omega) h1 h0
    simp only [List.map_cons,LeavesInM];refine ⟨by simp,.inl ⟨m,_,rfl,run_takeDeferred h2,M5 hlo h0 D _ _ g1 hnd.2 (fun b hb=>?_) fun S' w' s' hr hx=>hk S' w' s' (fun x y hx=>hr x y (g2 x y hx)) ?_⟩⟩
    · have hne:b≠m:=fun e=>hnd.1 (e▸hb);obtain ⟨q1,q2,q3⟩:=hD b (by simp [hb])
      exact ⟨⟨q1,hne⟩,by rw [qL hne];exact q2,q3⟩
    · exact ((JJ h2 (fun _ _ _ e=>by cases e)).mono fun b _ hb=>by simp [hb]).trans hx (fun b hb _=>by simp [hb])
theorem zZ5 {P : Program} (T : oQ P) {f : FuncId} {fn : Func} {code : Code} {n N : Nat} {fs cs : List AV} {hit : Hp} {items : Nat → List AV} (hf : P.funcs[f]? = some fn) (hb : fn.body = some code) (hnm : (fn.name == "runtime.NumGoroutine") = false) (hn : fn.ntmps = n) (ha : Nat.ble (fs.length + 1 + cs.length) n = true)
    (haw:∀ J A l,zL6 J→EI P l J A items N→AY P J A (n,hit.length) code (0,false) (tK 0 (fs++[.clo (.yield l) [] []]++cs)) hit (fun g e v h=>(e = .ret∨e = .normal)∧(g.2=false→g.1=N)∧∃ xs,H3 T v h fn.results.toList=some xs)):EJ P f fs cs hit items N:=by
  refine ⟨⟨fn,hf,hnm,by rw [hb];rfl⟩,?_⟩
  intro J A l hJ hy ρ S w vs W Nn hA hs hargs j0 hd1 hd2 hd3;have hlen:=gD hargs;have hle:=aH ha;refine (callsIn_wide (n:=0)).1 (callsIn_of_wp_marks (F:=Fence.wide) hf hb trivial ?_ rfl);refine haw J A l hJ hy (zV6 w ρ S hit A hA) ρ S _ w _ ⟨?_,vA.nil rfl _ _,fun t x hx=>?_,hs,rfl⟩ ⟨W,Nn,j0,hd1,fun b hb=>(hd2 b hb).2,fun b hb hlo=>?_,hd3,fun b hb=>(hd2 b hb).1,fun b hb=>hb,fun _ _=>.inl trivial⟩ ?_
  · simp at hlen;simp [hn];omega
  · obtain ⟨_,h1⟩:=D2 hx;simp only [zK9] at h1;obtain ⟨y,h2,h3⟩:=sH hargs t x h1;have hlt:t<vs.length:=(aB.1 h2).1;have:(vs.toArray++Array.replicate (fn.ntmps-vs.toArray.size) undef).getD t undef=y:=by
      rw [dZ,Q0 (by simpa using hlt)]
      simp [h2]
    rw [this];exact h3
  · have:=hs.stab b hb;have hlo:w.heap.size≤b:=hlo;omega
  · intro g e env' h' ρ' S' a' w' hq s ⟨W',N',j⟩;obtain ⟨he,hg,xs,h1⟩:=hq;obtain ⟨⟨D,hD1,hD2,hD3⟩,_⟩:=s.defers;have hl:LeavesInM Fence.wide 0 P fn a'.tmps (fun e w'=>∃ y g W' N',e=Ending.returned y∧J g W' N' w'∧(g.2=false→g.1=N)) a'.defers .returning w':=by
      rw [hD1];refine M5 (c:=zV6 w ρ S hit A hA) (aU _) (fun b hb=>hs.stab b hb) D S' w' s.hs hD2 hD3 fun S2 w2 s2 hr hx=>?_
      obtain ⟨ys,h7,h8⟩:=vG T s2.blk (fun t x hx=>hr _ _ (s.env t x hx)) h1;have hm:(fn.results.mapM (xC a'.tmps)).run P w2 = .ok ys.toArray w2:=by
        rw [Array.mapM_eq_mapM_toList];simp only [Sem.run_map,h7,Result.andThen_ok]
      refine ⟨_,by rw [BT];simp only [Sem.run_bind,hm,Result.andThen_ok,Sem.run_pure];rfl,_,g,W',N',rfl,hJ.st j.j (hx.mono fun b _ hb hn=>?_),hg⟩
      obtain ⟨q1,q2,q3⟩:=hD3 b hb;obtain ⟨cc,e,q4⟩:=j.cell b q1 q3 hn;rw [q2] at q4;cases q4;cases e
    rcases he with rfl | rfl
    · exact hl
    · exact hl
mutual
def AV.low (m:Nat):AV→Bool
  | .v _ | .any | .row .. | .mrow .. | .pr ..=>true
  | .ptr k _ | .ep k _ _ _ | .sl k _ _ _ | .mp k=>Nat.blt k m
  | .agg cs | .tup cs=>AV.lowL m cs
  | .clo _ cs ds=>AV.lowL m cs&&AV.lowL m ds
  | .cond _ x=>AV.low m x
  | .ifc _ x=>AV.low m x
def AV.lowL (m:Nat):List AV→Bool
  | []=>true
  | x::xs=>AV.low m x&&AV.lowL m xs
end
theorem JO {k m:Nat}(h:Nat.blt k m=true):k<m:=aH h
mutual
theorem OO {S:Nat→Prop}{w:World}{ρ ρ':Pl}{m:Nat}(hρ:∀ k,k<m→ρ' k=ρ k):∀ (x:AV) (y:Value),x.low m=true→R S w x ρ y→R S w x ρ' y
  | .v x,y,_,h=>by simpa only [R] using h
  | .any,_,_,_=>by simp [R]
  | .pr cs off,y,_,h=>by simpa only [R] using h
  | .row cs len sz,y,_,h=>by simpa only [R] using h
  | .mrow ks vs,y,_,h=>by simpa only [R] using h
  | .ptr k off,y,hi,h=>by
    simp only [R,AV.low] at *;rw [hρ k (JO hi)];exact h
  | .ep k i off sz,y,hi,h=>by
    simp only [R,AV.low] at *;rw [hρ k (JO hi)];exact h
  | .sl k off len sz,y,hi,h=>by
    simp only [R,AV.low] at *;rw [hρ k (JO hi)];exact h
  | .mp k,y,hi,h=>by
    simp only [R,AV.low] at *;rw [hρ k (JO hi)];exact h
  | .agg cs,y,hi,h=>by
    simp only [R,AV.low] at *;obtain ⟨ys,h1,h2⟩:=h;exact ⟨ys,h1,ED hρ cs _ hi h2⟩
  | .tup cs,y,hi,h=>by
    simp only [R,AV.low] at *;obtain ⟨ys,h1,h2⟩:=h;exact ⟨ys,h1,ED hρ cs _ hi h2⟩
  | .clo f cs ds,y,hi,h=>by
    simp only [R,AV.low,aN] at *;obtain ⟨ys,zs,h1,h2,h3⟩:=h;exact ⟨ys,zs,h1,ED hρ cs _ hi.1 h2,ED hρ ds _ hi.2 h3⟩
  | .cond b x,y,hi,h=>by
    simp only [R,AV.low] at *;exact fun hb=>OO hρ x y hi (h hb)
  | .ifc t x,y,hi,h=>by
    simp only [R,AV.low] at *;obtain ⟨z,h1,h2⟩:=h;exact ⟨z,h1,OO hρ x z hi h2⟩
theorem ED {S:Nat→Prop}{w:World}{ρ ρ':Pl}{m:Nat}(hρ:∀ k,k<m→ρ' k=ρ k):∀ (xs:List AV) (ys:List Value),AV.lowL m xs=true→RL S w xs ρ ys→RL S w xs ρ' ys
  | [],ys,_,h=>by simpa only [RL] using h
  | x::xs,ys,hi,h=>by
    simp only [RL,AV.lowL,aN] at *;obtain ⟨y,zs,h1,h2,h3⟩:=h;exact ⟨y,zs,h1,OO hρ x y hi.1 h2,ED hρ xs zs hi.2 h3⟩
end
def zC1 (m:Nat):eE→Bool
  | []=>true
  | (_,x)::r=>x.low m&&zC1 m r
theorem S8 {m:Nat}:∀ {env:eE},zC1 m env=true→∀ {t x},look env t=some x→x.low m=true
  | [],_,_,_,h=>by cases h
  | (k,u)::r,hl,t,x,h=>by
    simp only [zC1,aN] at hl;rw [iF] at h;split at h
    · cases h;exact hl.1
    · exact S8 hl.2 h
def sT:List Nat→List AV→eE→eE
  | t::ts,x::xs,E=>sT ts xs ((t,x)::E)
  | _,_,E=>E
def CT:Exit→Option Code
  | .ret=>some .ret
  | .exit id=>some (.exit id)
  | .goto t=>some (.goto t)
  | _=>none
theorem NK {S:Nat→Prop}{w:World}{ρ:Pl}:∀ (ts:List Nat) (xs:List AV) (vs:List Value) (E:eE) (tm:Array Value),(∀ t,t∈ts→t<tm.size)→RL S w xs ρ vs→(∀ t x,look E t=some x→R S w x ρ (tm.getD t undef))→ts.length=xs.length →
    ((ts.zip vs).foldl (fun tm (p:Nat × Value)=>tm.setIfInBounds p.1 p.2) tm).size=tm.size∧∀ t x,look (sT ts xs E) t=some x→R S w x ρ (((ts.zip vs).foldl (fun tm (p:Nat × Value)=>tm.setIfInBounds p.1 p.2) tm).getD t undef)
  | [],_,_,E,tm,_,_,hE,_=>⟨rfl,by intro t x hx;simpa [sT] using hE t x (by simpa [sT] using hx)⟩
  | t0::ts,[],_,E,tm,_,_,hE,hl=>by simp at hl
  | t0::ts,x0::xs,vs,E,tm,hlt,hv,hE,hl=>by
    simp only [RL] at hv;obtain ⟨y,zs,rfl,h1,h2⟩:=hv;have h0:=hlt t0 (by simp)
    obtain ⟨h3,h4⟩:=NK ts xs zs ((t0,x0)::E) (tm.setIfInBounds t0 y) (fun t ht=>by simpa using hlt t (by simp [ht])) h2 (fun t x hx=>by
      rw [iF] at hx;split at hx
      · rename_i e;subst e;cases hx;simp [Array.getD,h0];exact h1
      · rename_i e;have:=hE t x hx
        rwa [show (tm.setIfInBounds t0 y).getD t undef=tm.getD t undef by
          simp only [dZ];rw [Array.getElem?_setIfInBounds_ne e]]) (by simpa using hl)
    exact ⟨by simpa using h3,fun t x hx=>by simpa [sT] using h4 t x (by simpa [sT] using hx)⟩
theorem QV {P:Program}{c:pA}{S:Nat→Prop}{l0:List Deferred}{w:World}(m:vA c S l0 w) (hS:∀ b,S b→b<w.heap.size) (hlo:c.lo≤w.heap.size) (fn:FuncId) (tmps:Array Value) (ps:Array Tmp) (assign body:Code) :
    ∃ (l bd:Nat) (mk:List Deferred) (w1:World) (T:Nat→Prop),(Instr.enterLoop fn tmps ps assign body c.r).run P w = .ok (l,mk) w1 ∧
      w1.heap[l]? = some (.loop { state:=.ready,pending:=none,fn:=fn,tmps:=tmps,params:=ps,assign:=assign,body:=body,defers:=bd })∧w.heap.size≤l∧l<w1.heap.size∧nU (fun _=>False) w w1 ∧
      (∀ b,T b→w.heap.size≤b∧b≠l∧b<w1.heap.size) ∧
      (∀ S' w',(∀ b,S b→S' b)→(∀ b,T b→S' b)→(∀ b,S b∨T b→w'.heap[b]? = w1.heap[b]?)→vA c S' (mk++l0) w'):=by
  obtain ⟨⟨D,hD1,hD2,hD3⟩,hr⟩:=m;cases hc:c.r with
  | none=>
    have hx:nU (fun _=>False) w ((w.alloc (.deferred (some []))).alloc (.loop { state:=.ready,pending:=none,fn:=fn,tmps:=tmps,params:=ps,assign:=assign,body:=body,defers:=w.heap.size })):=(qO w _ _).trans (qO _ _ (fun _=>False)) (fun _ h _=>h);refine ⟨w.heap.size+1,w.heap.size,[zR0 w.heap.size],_,fun b=>b=w.heap.size,run_enterLoop_outer _ _ _ _ _,?_,by omega,by simp,hx,fun b hb=>by subst hb;simp;omega,fun S' w' h1 h2 h3=>⟨⟨w.heap.size::D,by rw [hD1];rfl,?_,fun b hb=>?_⟩,fun q hq=>by rw [hc] at hq;cases hq⟩⟩
    · have:=World.alloc_heap_new (w.alloc (.deferred (some []))) (.loop { state:=.ready,pending:=none,fn:=fn,tmps:=tmps,params:=ps,assign:=assign,body:=body,defers:=w.heap.size })
      rwa [World.size_alloc] at this
    · rw [fT];exact ⟨fun hm=>by have:=hS _ (hD3 _ hm).1;omega,hD2⟩
    · rcases bN.1 hb with rfl | hb
      · refine ⟨h2 _ rfl,?_,hlo⟩;rw [h3 _ (.inr rfl)];exact (RowKit.Below.heap_alloc _ _ _ (by simp)).trans (World.alloc_heap_new w _)
      · obtain ⟨q1,q2,q3⟩:=hD3 b hb;exact ⟨h1 _ q1,by rw [h3 _ (.inl q1),hx.same b (hS b q1) (by simp)];exact q2,q3⟩
  | some q=>
    obtain ⟨hq1,r0,hq2⟩:=hr q hc;have hx:nU (fun _=>False) w (w.alloc (.loop { state:=.ready,pending:=none,fn:=fn,tmps:=tmps,params:=ps,assign:=assign,body:=body,defers:=r0.defers })):=qO w _ _;have hrun:(Instr.enterLoop fn tmps ps assign body (some q)).run P w = .ok (w.heap.size,[]) (w.alloc (.loop { state:=.ready,pending:=none,fn:=fn,tmps:=tmps,params:=ps,assign:=assign,body:=body,defers:=r0.defers })):=by
      unfold Instr.enterLoop;simp only [Sem.run_bind,run_getLoop hq2,run_newObj_alloc,Result.andThen,Sem.run_pure]
    refine ⟨w.heap.size,r0.defers,[],_,fun _=>False,hrun,World.alloc_heap_new w _,aU _,by simp,hx,fun b hb=>hb.elim,fun S' w' h1 h2 h3=>⟨⟨D,hD1,hD2,fun b hb=>?_⟩,fun q' hq'=>?_⟩⟩
    · obtain ⟨q1,q2,q3⟩:=hD3 b hb;exact ⟨h1 _ q1,by rw [h3 _ (.inl q1),hx.same b (hS b q1) (by simp)];exact q2,q3⟩
    · obtain ⟨g1,rec,g2⟩:=hr q' hq';exact ⟨h1 _ g1,rec,by rw [h3 _ (.inl g1),hx.same q' (hS q' g1) (by simp)];exact g2⟩
def JR (cA:pA) (l:Nat) (rec0:Loop) (E:eE) (HA:Nat→Hp) (Q:Exit→eE→Hp→Prop):JT:=fun g W N w=>
  ∃ ρ S hh rec,HS cA ρ S hh w∧w.heap[l]? = some (.loop rec)∧¬ S l∧(∀ (k:Nat) x p,hh[k]? = some x→x≠.gone→ρ k=some p→p.1≠l)∧(∀ b,W b↔lA hh ρ b∨b=l)∧(∀ b,N b↔lA hh ρ b∨S b∨b=l∨¬ cA.M b) ∧
    (g.2=false→hh=HA g.1∧rec=rec0)∧(g.2=true→∃ e cd,CT e=some cd∧rec={ rec0 with state:=.done,pending:=some cd }∧Q e E hh)
section
variable {cA:pA}{l:Nat}{rec0:Loop}{E:eE}{HA:Nat→Hp}{Q:Exit→eE→Hp→Prop}
theorem yK1:zL6 (JR cA l rec0 E HA Q):=by
  refine ⟨fun {g W N w w'} j x=>?_,fun {g W N w} j b hb=>?_,fun {g W N w} j b hb=>?_⟩
  · obtain ⟨ρ,S,hh,rec,s,h1,h2,h3,h4,h5,h6⟩:=j;obtain ⟨s',_⟩:=s.world x (fun b hb h=>h ((h5 b).2 (.inr (.inl hb)))) (fun k y p a1 a2 a3 h=>h ((h5 _).2 (.inl ⟨k,y,p.2,a1,a2,a3⟩))) (fun b hb hn=>Classical.byContradiction fun hM=>hn ((h5 b).2 (.inr (.inr (.inr hM)))));exact ⟨ρ,S,hh,rec,s',by rw [x.same l (aR.1 h1).1 (fun h=>h ((h5 l).2 (.inr (.inr (.inl rfl)))))];exact h1,h2,h3,h4,h5,h6⟩
  · obtain ⟨ρ,S,hh,rec,s,h1,h2,h3,h4,h5,h6⟩:=j;exact (h5 b).2 (((h4 b).1 hb).elim .inl fun h=>.inr (.inr (.inl h)))
  · obtain ⟨ρ,S,hh,rec,s,h1,h2,h3,h4,h5,h6⟩:=j;rcases (h5 b).1 hb with ⟨k,x,o,_,_,hp⟩ | hb | rfl | hb
    · exact s.rng k _ hp
    · exact s.stab b hb
    · exact (aR.1 h1).1
    · apply Classical.byContradiction;intro hge;exact hb (cA.new b (by have:=s.ext.size;omega))
def QR (m0:Nat) (E:eE) (HA:Nat→Hp) (Q:Exit→eE→Hp→Prop) (k:Nat):Exit→eE→Hp→Prop
  | .normal,v,h=>KQ m0 v h [] (HA (k+1))
  | e,v,h=>(∃ cd,CT e=some cd)∧∃ hx,KQ m0 v h [] hx∧Q e E hx
theorem MB {P:Program}{n1 m0:Nat}{items:Nat→List AV}{N:Nat}{ps:List Nat}(hm:cA.m=m0) (hMl:cA.M l) (hS0l:¬ cA.S0 l) (hS0:∀ b,cA.S0 b→b<cA.w0.heap.size∧¬ cA.M b) (hst:rec0.state = .ready) (hpe:rec0.pending=none) (hps:rec0.params=ps.toArray)
    (hsz:rec0.tmps.size=n1) (hpl:∀ t,t∈ps→t<n1) (hit:∀ k,k<N→(items k).length=ps.length∧AV.idfL (items k)=true)
    (hE:∀ t x,look E t=some x→R cA.S0 cA.w0 x cA.ρ0 (rec0.tmps.getD t undef)) (hlow:zC1 m0 E=true)
    (hround:∀ k,k<N→AW P (n1,m0) rec0.assign (sT ps (items k) E) (HA k) (fun e v h=>e = .normal∧AW P (n1,m0) rec0.body v h (QR m0 E HA Q k))) :
    EI P l (JR cA l rec0 E HA Q) (fun b=>cA.S0 b∨cA.M b) items N:=by
  intro k hk W Nn w Sb vs j hSb hv;obtain ⟨ρ,S,hh,rec,s,hl,hSl,hll,hW,hN,hg,_⟩:=j;obtain ⟨rfl,rfl⟩:=hg rfl;dsimp only at s hll hW hN;have hlt:l<w.heap.size:=(aR.1 hl).1;have hvl:=gD hv;obtain ⟨hil,hiidf⟩:=hit k hk
  -- what no longer changes,in a round
  have hS2lt:∀ b,(S b∨Sb b∨b=l)→b<w.heap.size:=fun b hb=>by
    rcases hb with hb | hb | rfl
    · exact s.stab b hb
    · obtain ⟨_,_,cc,e,h⟩:=hSb b hb;exact (aR.1 h).1
    · exact hlt
  have hlive:∀ (q:Nat) y p,(HA k)[q]? = some y→y≠.gone→ρ q=some p→lA (HA k) ρ p.1:=fun q y p a1 a2 a3=>⟨q,y,p.2,a1,a2,a3⟩
  have hS2live:∀ (q:Nat) y p,(HA k)[q]? = some y→y≠.gone→ρ q=some p→¬ (S p.1∨Sb p.1∨p.1=l):=fun q y p a1 a2 a3 hb=>by
    rcases hb with hb | hb | hb
    · exact (s.live q y p a1 a2 a3).2 hb
    · exact (hSb _ hb).2.1 ((hW _).2 (.inl (hlive q y p a1 a2 a3)))
    · exact hll q y p a1 a2 a3 hb
  have s2:HS cA ρ (fun b=>S b∨Sb b∨b=l) (HA k) w:=s.more (fun _ h=>.inl h) hS2lt hS2live (fun b hb=>by
    rcases hb with hb | hb | rfl
    · exact s.st1 b hb
    · exact (hSb b hb).1
    · exact .inr hMl)
  let cR:pA:={ w0:=w,M:=fun b=>lA (HA k) ρ b∨w.heap.size≤b,new:=fun b hb=>.inr hb,S0:=fun b=>S b∨Sb b∨b=l,ρ0:=cA.ρ0,m:=cA.m,lo:=w.heap.size,lole:=aU _,r:=some l }
  have sR:HS cR ρ (fun b=>S b∨Sb b∨b=l) (HA k) w:=s2.re cR (fun q y p a1 a2 a3=>.inl (hlive q y p a1 a2 a3)) (nU.refl _ _) (fun _ h=>h) (fun _ h=>.inl h) s2.mle s2.keep;have hMnl:¬ (lA (HA k) ρ l∨w.heap.size≤l):=fun h=>by
    rcases h with ⟨q,y,o,a1,a2,a3⟩ | h
    · exact hll q y _ a1 a2 a3 rfl
    · omega
  -- the frame
  have hE2:∀ t x,look E t=some x→R (fun b=>S b∨Sb b∨b=l) w x ρ (rec.tmps.getD t undef):=fun t x hx=>by
    have h1:=OO (ρ':=ρ) (m:=m0) (fun q hq=>s.keep q (by omega)) x _ (S8 hlow hx) (hE t x hx)
    exact nW (fun b hb=>.inl (s.st0 b hb)) (fun b hb=>s.ext.same b (hS0 b hb).1 (hS0 b hb).2) x ρ ρ _ (fun _ _ h=>h) (fun _ _ _ _ _ hr=>s.ext.room hr) h1
  have hv2:RL (fun b=>S b∨Sb b∨b=l) w (items k) ρ vs:=wP _ _ _ _ hiidf (mI (fun b hb=>.inr (.inl hb)) (fun _ _=>rfl) _ _ _ _ (fun _ _ h=>h) (fun _ _ _ _ _ h=>h) hv);obtain ⟨hf1,hf2⟩:=NK ps (items k) vs E rec.tmps (fun t ht=>by rw [hsz];exact hpl t ht) hv2 hE2 hil.symm
  have hfold:(rec.params.zip vs.toArray).foldl (fun tmps (x:Nat × Value)=>tmps.setIfInBounds x.1 x.2) rec.tmps=(ps.zip vs).foldl (fun tm (p:Nat × Value)=>tm.setIfInBounds p.1 p.2) rec.tmps:=by
    rw [hps,← Array.foldl_toList];congr 1;simp
  refine ⟨rec.fn,_,rec.assign,rec.body,run_yield hl (by rw [hps];simp [hvl,hil]),?_⟩
  rw [show (rec.params.zip vs.toArray).foldl (fun tmps (x:Tmp × Value)=>match x with | (t,a)=>tmps.setIfInBounds t a) rec.tmps=(ps.zip vs).foldl (fun tm (p:Nat × Value)=>tm.setIfInBounds p.1 p.2) rec.tmps from hfold]
  refine roundIn_of_wpIn (F:=Fence.wide) trivial ?_;refine hround k hk cR ρ _ ⟨_,[]⟩ w _ ⟨by rw [hf1];exact hsz,⟨⟨[],rfl,eT,fun _ h=>by cases h⟩,fun q hq=>?_⟩,hf2,sR,hm⟩ ?_
  · cases hq;exact ⟨.inr (.inr rfl),rec,hl⟩
  intro e env' h' ρ' S' a' w' hq s';obtain ⟨rfl,hbody⟩:=hq;have x1:nU cR.M w w':=s'.hs.ext;have hl1:w'.heap[l]? = some (.loop rec):=by rw [x1.same l hlt hMnl];exact hl
  refine ⟨_,run_beginRound hl1 hst,?_⟩;generalize hb1:({ rec with state:=.busy }:Loop)=recb
  -- the record is busy
  have hS'l:S' l:=s'.hs.st0 l (.inr (.inr rfl))
  let cZ:pA:={ w0:=w,M:=fun b=>(lA (HA k) ρ b∨w.heap.size≤b)∨b=l,new:=fun b hb=>.inl (.inr hb),S0:=fun b=>S b∨Sb b,ρ0:=cA.ρ0,m:=cA.m,lo:=w.heap.size,lole:=aU _,r:=some l }
  have hZ0:¬ cZ.S0 l:=fun h=>by
    rcases h with h | h
    · exact hSl h
    · exact (hSb _ h).2.1 ((hW l).2 (.inr rfl))
  have hst1:∀ b,S' b→cZ.S0 b∨cZ.M b:=fun b hb=>by
    rcases s'.hs.st1 b hb with (h | h | h) | h
    · exact .inl (.inl h)
    · exact .inl (.inr h)
    · exact .inr (.inr h)
    · exact .inr (.inl h)
  have sZ:HS cZ ρ' S' h' w':=s'.hs.re cZ (fun q y p a1 a2 a3=>.inl (s'.hs.live q y p a1 a2 a3).1) (x1.mono fun b _ hb=>.inl hb) (fun b hb=>s'.hs.st0 b (by rcases hb with hb | hb;exact .inl hb;exact .inr (.inl hb))) hst1 s'.hs.mle s'.hs.keep
  obtain ⟨sP,hP⟩:=sZ.put hl1 (fun _ _ _ e=>by cases e) rfl (.loop recb) (fun _=>.inr rfl) hZ0
  have hsz2:w.heap.size≤(w'.putObj l (.loop recb)).heap.size:=by rw [World.putObj_size];exact x1.size
  let cB:pA:={ w0:=w'.putObj l (.loop recb),M:=fun b=>lA (HA k) ρ b∨w.heap.size≤b,new:=fun b hb=>.inr (bG hsz2 hb),S0:=S',ρ0:=cA.ρ0,m:=cA.m,lo:=w.heap.size,lole:=hsz2,r:=some l }
  have sM:HS cZ ρ' S' h' (w'.putObj l (.loop recb)):=sP.more (fun b hb=>hb.1) (fun b hb=>by rw [World.putObj_size];exact s'.hs.stab b hb) (fun q y p a1 a2 a3=>(s'.hs.live q y p a1 a2 a3).2) hst1
  have sB:HS cB ρ' S' h' (w'.putObj l (.loop recb)):=sM.re cB (fun q y p a1 a2 a3=>(s'.hs.live q y p a1 a2 a3).1) (nU.refl _ _) (fun _ h=>h) (fun _ h=>.inl h) s'.hs.mle s'.hs.keep;have hl2:(w'.putObj l (.loop recb)).heap[l]? = some (.loop recb):=World.putObj_heap_same (aR.1 hl1).1;have hmarks:vA cB S' a'.defers (w'.putObj l (.loop recb)):=by
    obtain ⟨⟨D,d1,d2,d3⟩,_⟩:=s'.defers;refine ⟨⟨D,d1,d2,fun b hb=>?_⟩,fun q hq=>?_⟩
    · obtain ⟨q1,q2,q3⟩:=d3 b hb;exact ⟨q1,by rw [qL (fun e=>by rw [e,hl1] at q2;cases q2)];exact q2,q3⟩
    · cases hq;exact ⟨hS'l,recb,hl2⟩
  refine hbody cB ρ' S' a' _ _ ⟨s'.size,hmarks,fun t x hx=>yR5 (fun b hb=>hb.1) (hP _ _ (s'.env t x hx)),sB,hm⟩ ?_;intro e env3 h3 ρ3 S3 a3 w3 hq3 s3;have x2:nU (fun b=>b=l) w' (w'.putObj l (.loop recb)):=JJ hl1 (fun _ _ _ e=>by cases e)
  have x3:nU cB.M (w'.putObj l (.loop recb)) w3:=s3.hs.ext;have hl3:w3.heap[l]? = some (.loop recb):=by rw [x3.same l (aR.1 hl2).1 hMnl];exact hl2
  have x13:nU cZ.M w w3:=((x1.mono fun b _ hb=>.inl hb).trans (x2.mono fun b _ hb=>.inr hb) (fun _ h _=>h)).trans (x3.mono fun b _ hb=>.inl hb) (fun _ h _=>h)
  -- the round's end,whichever way
  have fin:∀ (jump:Option Code) (hx:Hp),KQ m0 env3 h3 [] hx→((jump=none∧hx=HA (k+1))∨∃ e cd,CT e=some cd∧jump=some cd∧Q e E hx) →
      ∃ v w4,(Instr.endRound l jump).run P w3 = .ok v w4∧∃ (b:Bool) (W' N':Nat→Prop),Ending.returned v = .returned (.bool b)∧JR cA l rec E HA Q (k+1,!b) W' N' w4∧nU W w w4∧(∀ x,W' x→W x∨w.heap.size≤x)∧(∀ x,N' x→Nn x∨Sb x∨w.heap.size≤x):=by
    intro jump hx hsub hj;obtain ⟨L,q1,_,q3,q4,q5⟩:=hsub;have s4:HS cB (fun k=>ρ3 (th L h3.length k)) S3 hx w3:=s3.hs.sub q1 q3 q4 (fun i hi=>q5 i (by have hi:i<cA.m:=hi;omega))
    have st3:∀ b,S3 b→cZ.S0 b∨cZ.M b:=fun b hb=>by
      rcases s3.hs.st1 b hb with h | h
      · exact hst1 b h
      · exact .inr (.inl h)
    have s5:HS cZ (fun k=>ρ3 (th L h3.length k)) S3 hx w3:=s4.re cZ (fun q y p a1 a2 a3=>.inl (s4.live q y p a1 a2 a3).1) x13 (fun b hb=>s3.hs.st0 b (s'.hs.st0 b (by rcases hb with hb | hb;exact .inl hb;exact .inr (.inl hb)))) st3 s4.mle s4.keep
    obtain ⟨s6,_⟩:=s5.put hl3 (fun _ _ _ e=>by cases e) rfl (.loop { recb with state:=if jump.isNone then .ready else .done,pending:=jump }) (fun _=>.inr rfl) hZ0
    have hZA:∀ b,cZ.M b→cA.M b:=fun b hb=>by
      rcases hb with (⟨q,y,o,a1,a2,a3⟩ | hb) | rfl
      · exact (s.live q y _ a1 a2 a3).1
      · exact cA.new b (bG s.ext.size hb)
      · exact hMl
    have s7:=s6.re cA (fun q y p a1 a2 a3=>hZA _ (s6.live q y p a1 a2 a3).1) (s.ext.trans s6.ext fun b hb _=>hZA b hb) (fun b hb=>⟨s3.hs.st0 b (s'.hs.st0 b (.inl (s.st0 b hb))),fun e=>hS0l (e▸hb)⟩) (fun b hb=>by
      rcases st3 b hb.1 with (h | h) | h
      · exact s.st1 b h
      · exact (hSb b h).1
      · exact .inr (hZA b h)) s6.mle s6.keep
    have hZW:∀ b,cZ.M b→W b∨w.heap.size≤b:=fun b hb=>by
      rcases hb with (hb | hb) | rfl
      · exact .inl ((hW b).2 (.inl hb))
      · exact .inr hb
      · exact .inl ((hW _).2 (.inr rfl))
    have hWN:∀ b,W b→Nn b:=fun b hb=>(hN b).2 (((hW b).1 hb).elim .inl fun h=>.inr (.inr (.inl h)));have hS3l:S3 l:=s3.hs.st0 l hS'l;refine ⟨_,_,run_endRound jump hl3,jump.isNone,fun b=>lA hx (fun k=>ρ3 (th L h3.length k)) b∨b=l,fun b=>lA hx (fun k=>ρ3 (th L h3.length k)) b∨(S3 b∧b≠l)∨b=l∨¬ cA.M b,rfl,?_,?_,fun b hb=>?_,fun b hb=>?_⟩
    · refine ⟨_,_,hx,_,s7,World.putObj_heap_same (aR.1 hl3).1,fun h=>h.2 rfl,fun q y p a1 a2 a3 e=>(s4.live q y p a1 a2 a3).2 (e▸hS3l),fun b=>Iff.rfl,fun b=>Iff.rfl,fun h=>?_,fun h=>?_⟩
      · rcases hj with ⟨rfl,rfl⟩ | ⟨e,cd,_,rfl,_⟩
        · refine ⟨rfl,?_⟩;rw [← hb1];cases rec;simp only at hst hpe;subst hst hpe;rfl
        · cases h
      · rcases hj with ⟨rfl,rfl⟩ | ⟨e,cd,he,rfl,hq⟩
        · cases h
        · exact ⟨e,cd,he,by rw [← hb1];rfl,hq⟩
    · exact s6.ext.mono fun b hb hm=>by
        rcases hZW b hm with h | h
        · exact h
        · have hb:b<w.heap.size:=hb;omega
    · rcases hb with ⟨q,y,o,a1,a2,a3⟩ | rfl
      · exact hZW _ (s6.live q y _ a1 a2 a3).1
      · exact .inl ((hW _).2 (.inr rfl))
    · rcases hb with ⟨q,y,o,a1,a2,a3⟩ | hb | rfl | hb
      · exact (hZW _ (s6.live q y _ a1 a2 a3).1).elim (fun h=>.inl (hWN _ h)) fun h=>.inr (.inr h)
      · rcases st3 b hb.1 with (h | h) | h
        · exact .inl ((hN b).2 (.inr (.inl h)))
        · exact .inr (.inl h)
        · exact (hZW _ h).elim (fun h=>.inl (hWN _ h)) fun h=>.inr (.inr h)
      · exact .inl ((hN _).2 (.inr (.inr (.inl rfl))))
      · exact .inl ((hN b).2 (.inr (.inr (.inr hb))))
  cases e with
  | normal=>exact fin none _ hq3 (.inl ⟨rfl,rfl⟩)
  | ret=>
    obtain ⟨_,hx,hs,hq⟩:=hq3;exact fin (some .ret) hx hs (.inr ⟨.ret,.ret,rfl,rfl,hq⟩)
  | exit id=>
    obtain ⟨_,hx,hs,hq⟩:=hq3;exact fin (some (.exit id)) hx hs (.inr ⟨.exit id,.exit id,rfl,rfl,hq⟩)
  | goto t=>
    obtain ⟨_,hx,hs,hq⟩:=hq3;exact fin (some (.goto t)) hx hs (.inr ⟨.goto t,.goto t,rfl,rfl,hq⟩)
  | panic ch=>
    obtain ⟨⟨cd,hcd⟩,_⟩:=hq3;cases hcd
  | outgrown=>
    obtain ⟨⟨cd,hcd⟩,_⟩:=hq3;cases hcd
end
theorem vD.live {θ:Nat→Nat}{h h':Hp}{ρ:Pl}(hs:vD θ h 0 h'){k:Nat}{x:AB}{p:Nat × Nat}(hx:h'[k]? = some x) (hg:x≠.gone) (hp:ρ (θ k)=some p):∃ y,h[θ k]? = some y∧y≠.gone:=by
  have:=hs.get k x hx;rw [Nat.zero_add] at this;exact ⟨_,this.resolve_left hg,by cases x <;> simp [AB.map] at *⟩
theorem YI {L:List Nat}{N k:Nat}(hk:k<L.length):th L N k∈L:=by
  unfold th;rw [aA hk];exact aM hk
theorem zR7 {P:Program}{r:Option Nat}{Q:Exit→Act→World→Prop}{a:Act}{w:World}{e:Exit}{cd:Code}(h:CT e=some cd) (hq:Q e a w):cd.wpIn (rd r) 0 P Q a w:=by
  cases e <;> simp [CT] at h <;> subst h
  · exact wpIn_exit hq
  · exact wpIn_goto hq
  · exact wpIn_ret hq
theorem OE {P:Program}{n:Nat × Nat}{env:eE}{h:Hp}{Q:Exit→eE→Hp→Prop}{g:Operand}{ps:List Nat}{assign body:Code}{f:FuncId}{fs cs fs' cs':List AV}{hit:Hp}{items:Nat→List AV}{N:Nat}
    (LI LA:List Nat) (E:eE) (HA:Nat→Hp) (m0:Nat) (hx:evu env g=some (.clo (.func f) fs cs)) (hI:EJ P f fs' cs' hit items N)
    (hfs:AV.mapL (th LI h.length) fs'=fs) (hcs:AV.mapL (th LI h.length) cs'=cs) (hLI:LI.length=hit.length) (hHI:vD (th LI h.length) h 0 hit) (hIn:LI.Nodup)
    (hLA:LA.length=(HA 0).length) (hEA:RY (th LA h.length) env E) (hHA:vD (th LA h.length) h 0 (HA 0)) (hAn:LA.Nodup) (hAk:∀ i,i<n.2→LA[i]? = some i) (hdis:∀ x,x∈LI→x∉LA) (hn2:n.2≤m0) (hm0:m0≤(HA 0).length)
    (hlow:zC1 m0 E=true) (hpl:∀ t,t∈ps→t<n.1) (hit':∀ k,k<N→(items k).length=ps.length∧AV.idfL (items k)=true)
    (hround:∀ k,k<N→AW P (n.1,m0) assign (sT ps (items k) E) (HA k) (fun e v h=>e = .normal∧AW P (n.1,m0) body v h (QR m0 E HA Q k)))
    (hafter:Q .normal E (HA N)):AW P n (.rangeFunc g ps.toArray assign body) env h Q:=by
  intro c ρ S a w QQ s hQ;have p:=s.pre;refine wpIn_rangeFunc fun fn _=>?_
  have hlo:c.lo≤w.heap.size:=bG c.lole s.hs.ext.size;obtain ⟨l,bd,mk,w1,T,henter,hl1,hlw,hll1,x01,hT,hmk⟩:=QV (P:=P) s.defers s.hs.stab hlo fn a.tmps ps.toArray assign body
  -- the function's value
  have hxv:=p.evu hx;simp only [R] at hxv;obtain ⟨ys,zs,e1,hy1,hz1⟩:=hxv
  let ρA:Pl:=fun k=>ρ (th LA h.length k)
  let ρI:Pl:=fun k=>ρ (th LI h.length k)
  have hMnew:∀ b,w1.heap.size≤b→lA h ρ b∨(w.heap.size≤b∧¬ T b):=fun b hb=>.inr ⟨bG x01.size hb,fun ht=>by have:=(hT b ht).2.2;omega⟩
  let cA:pA:={ w0:=w1,M:=fun b=>lA h ρ b∨(w.heap.size≤b∧¬ T b),new:=hMnew,S0:=fun b=>S b∨T b,ρ0:=ρA,m:=m0,lo:=c.lo,lole:=bG hlo x01.size,r:=some l }
  have hlnT:¬ T l:=fun ht=>(hT l ht).2.1 rfl;have hlnS:∀ b,S b→b≠l:=fun b hb e=>by have:=s.hs.stab b hb;omega
  -- the caller's objects,aZ the rounds keep them
  have hsA0:HS c ρA S (HA 0) w:=s.hs.sub hLA hHA hAn (fun i hi=>hAk i (s.cm▸hi));obtain ⟨hsA1,later1⟩:=hsA0.world x01 (fun _ _ h=>h) (fun _ _ _ _ _ _ h=>h) (fun _ _ h=>h.elim);have liveA:∀ (k:Nat) x q,(HA 0)[k]? = some x→x≠.gone→ρA k=some q→lA h ρ q.1:=fun k x q a1 a2 a3=>by
    obtain ⟨y,b1,b2⟩:=hHA.live (ρ:=ρ) a1 a2 a3;exact ⟨_,y,q.2,b1,b2,a3⟩
  have liveI:∀ (k:Nat) x q,hit[k]? = some x→x≠.gone→ρI k=some q→lA h ρ q.1:=fun k x q a1 a2 a3=>by
    obtain ⟨y,b1,b2⟩:=hHI.live (ρ:=ρ) a1 a2 a3;exact ⟨_,y,q.2,b1,b2,a3⟩
  have liveLt:∀ b,lA h ρ b→b<w.heap.size:=fun b ⟨k,x,o,_,_,hp⟩=>s.hs.rng k _ hp
  have liveS:∀ b,lA h ρ b→¬ S b:=fun b ⟨k,x,o,a1,a2,a3⟩=>(s.hs.live k x _ a1 a2 a3).2
  have hsA2:HS c ρA (fun b=>S b∨T b) (HA 0) w1:=hsA1.more (fun _ h=>.inl h) (fun b hb=>by
    rcases hb with hb | hb
    · exact hsA1.stab b hb
    · exact (hT b hb).2.2) (fun k x q a1 a2 a3 hb=>by
    have h1:=liveA k x q a1 a2 a3;rcases hb with hb | hb
    · exact liveS _ h1 hb
    · have:=(hT _ hb).1;have:=liveLt _ h1;omega) (fun b hb=>by
    rcases hb with hb | hb
    · exact s.hs.st1 b hb
    · exact .inr (c.new b (bG s.hs.ext.size (hT b hb).1)))
  have hsA:HS cA ρA (fun b=>S b∨T b) (HA 0) w1:=hsA2.re cA (fun k x q a1 a2 a3=>.inl (liveA k x q a1 a2 a3)) (nU.refl _ _) (fun _ h=>h) (fun _ h=>.inl h) hm0 (fun _ _=>rfl)
  -- the record
  obtain ⟨rec0,hrec⟩:∃ rec0:Loop,rec0={ state:=.ready,pending:=none,fn:=fn,tmps:=a.tmps,params:=ps.toArray,assign:=assign,body:=body,defers:=bd }:=⟨_,rfl⟩;rw [← hrec] at hl1;have hSA:∀ b,(S b∨T b)→b<w1.heap.size∧¬ (lA h ρ b∨(w.heap.size≤b∧¬ T b)):=fun b hb=>by
    rcases hb with hb | hb
    · refine ⟨eL (s.hs.stab b hb) x01.size,fun hm=>?_⟩
      rcases hm with hm | hm
      · exact liveS b hm hb
      · have:=s.hs.stab b hb;omega
    · refine ⟨(hT b hb).2.2,fun hm=>?_⟩
      rcases hm with hm | hm
      · have:=liveLt b hm;have:=(hT b hb).1;omega
      · exact hm.2 hb
  have hMl:cA.M l:=.inr ⟨hlw,hlnT⟩;have hS0l:¬ cA.S0 l:=fun h=>by
    rcases h with h | h
    · exact hlnS l h rfl
    · exact hlnT h
  have henvE:∀ t x,look E t=some x→R (fun b=>S b∨T b) w1 x ρA (a.tmps.getD t undef):=fun t x hx=>by
    have h1:=Y5 _ ρ _ _ (s.env t _ (hEA.look t x hx));exact yR5 (fun _ h=>.inl h) (h1.later later1)
  have hyield:EI P l (JR cA l rec0 E HA Q) (fun b=>cA.S0 b∨cA.M b) items N:=by
    refine MB (cA:=cA) (n1:=n.1) (m0:=m0) (ps:=ps) rfl hMl hS0l hSA (by rw [hrec]) (by rw [hrec]) (by rw [hrec]) (by rw [hrec];exact s.size) hpl hit' (fun t x hx=>by rw [hrec];exact henvE t x hx) hlow (fun k hk=>by rw [hrec];exact hround k hk)
  have hJok:zL6 (JR cA l rec0 E HA Q):=yK1
  let W0:Nat→Prop:=fun b=>lA (HA 0) ρA b∨b=l
  let N0:Nat→Prop:=fun b=>lA (HA 0) ρA b∨(S b∨T b)∨b=l∨¬ cA.M b
  have hJ0:JR cA l rec0 E HA Q (0,false) W0 N0 w1:=⟨ρA,_,HA 0,rec0,hsA,hl1,hS0l,fun k x q a1 a2 a3 e=>by have:=liveLt _ (liveA k x q a1 a2 a3);omega,fun b=>Iff.rfl,fun b=>Iff.rfl,fun _=>⟨rfl,rfl⟩,fun h=>by cases h⟩
  -- the iterator's call
  have hAnew:∀ b,w1.heap.size≤b→cA.S0 b∨cA.M b:=fun b hb=>.inr (hMnew b hb)
  let c0:pA:={ w0:=w,M:=fun b=>lA h ρ b∨w.heap.size≤b,new:=fun b hb=>.inr hb,S0:=S,ρ0:=fun _=>none,m:=0,lo:=w.heap.size,lole:=aU _,r:=none }
  have hs0:HS c0 ρ S h w:=s.hs.re c0 (fun k x q a1 a2 a3=>.inl ⟨k,x,q.2,a1,a2,a3⟩) (nU.refl _ _) (fun _ h=>h) (fun _ h=>.inl h) (bW _) (fun k hk=>absurd hk (eG _));have hsI0:HS c0 ρI S hit w:=hs0.sub hLI hHI hIn (R9);obtain ⟨hsI1,_⟩:=hsI0.world x01 (fun _ _ h=>h) (fun _ _ _ _ _ _ h=>h) (fun _ _ h=>h.elim);have hsI:HS (zV6 w1 ρI S hit (fun b=>cA.S0 b∨cA.M b) hAnew) ρI S hit w1:=hsI1.re _ (fun k x q a1 a2 a3=>.inr (.inl (liveI k x q a1 a2 a3))) (nU.refl _ _) (fun _ h=>h) (fun _ h=>.inl h) (aU _) (fun _ _=>rfl);have hargs:RL S w1 (fs'++[.clo (.yield l) [] []]++cs') ρI (ys.toList++[Value.func (.yield l) #[] #[]]++zs.toList):=by
    have lI:iJ ρI ρI S S w w1:=⟨fun _ _ h=>h,fun _ h=>h,fun b hb=>x01.same b (s.hs.stab b hb) (fun h=>h),fun _ _ _ _ _ hr=>x01.room hr⟩
    rw [← hfs] at hy1;rw [← hcs] at hz1;exact iT (iT ((qG _ ρ _ _ hy1).later lI) (by simp only [RL];exact ⟨_,_,rfl,by simp only [R,RL];exact ⟨#[],#[],rfl,rfl,rfl⟩,rfl⟩)) ((qG _ ρ _ _ hz1).later lI)
  have hcall:=hI.2 _ _ l hJok hyield ρI S w1 _ W0 N0 hAnew hsI hargs hJ0 (fun k x q a1 a2 a3 hn=>by
    have hlv:=liveI k x q a1 a2 a3;rcases hn with ⟨k',x',o',b1,b2,b3⟩ | hn | hn | hn
    · obtain ⟨y,d1,d2⟩:=hHI.live (ρ:=ρ) a1 a2 a3;obtain ⟨y',d3,d4⟩:=hHA.live (ρ:=ρ) b1 b2 b3;have he:=s.hs.inj _ _ _ _ _ _ d1 d3 d2 d4 a3 b3 rfl;have hkI:k<LI.length:=by rw [hLI];exact (aB.1 a1).1
      have hkA:k'<LA.length:=by rw [hLA];exact (aB.1 b1).1
      exact hdis _ (YI (N:=h.length) hkI) (he▸YI (N:=h.length) hkA)
    · rcases hn with hn | hn
      · exact liveS _ hlv hn
      · have:=(hT _ hn).1;have:=liveLt _ hlv;omega
    · have:=liveLt _ hlv;omega
    · exact hn (.inl hlv)) (fun b hb=>⟨.inl (.inl hb),fun hw=>by
    rcases hw with ⟨k',x',o',b1,b2,b3⟩ | hw
    · exact liveS b (liveA k' x' (b,o') b1 b2 b3) hb
    · exact hlnS b hb hw⟩) (fun b hw=>by
    rcases hw with ⟨k',x',o',b1,b2,b3⟩ | rfl
    · exact .inr (.inl (liveA k' x' (b,o') b1 b2 b3))
    · exact .inr hMl)
  have hrun:=xB (P:=P) (f:=f) (args:=(ys.toList++[Value.func (.yield l) #[] #[]]++zs.toList).toArray) (w:=w1) hI.1;refine ⟨l,mk,w1,{ target:=.fn (.func f) zs,args:=ys ++ #[Value.func (.yield l) #[] #[]] },w1,f,(ys.toList++[Value.func (.yield l) #[] #[]]++zs.toList).toArray,w1,henter,?_,fun _ _=>trivial,?_,(fun h=>(by cases h)),?_⟩
  · simp only [resolve];rw [e1];simp [Deferred.ofValue,Act.eval]
  · have e2:(ys ++ #[Value.func (.yield l) #[] #[]]++zs:Array Value)=(ys.toList++[Value.func (.yield l) #[] #[]]++zs.toList).toArray:=by
      apply Array.ext';simp
    simp only [invoke];rw [e2];exact hrun
  refine (MF (r:=c.r) (n:=0-1) hcall).mono ?_;rintro e w5 ⟨y,g',W5,N5,rfl,⟨ρ5,S5,hh,rec5,s5,hl5,hSl5,hll5,hW5,hN5,hg1,hg2⟩,hgN⟩
  -- kP the loop
  have hbusy:rec5.state≠.busy:=by
    cases hb:g'.2 with
    | false=>rw [(hg1 hb).2,hrec];simp
    | true=>
      obtain ⟨e,cd,_,hr,_⟩:=hg2 hb;rw [hr];simp
  refine ⟨_,_,run_endLoop hl5 hbusy,?_⟩;obtain ⟨s6,hr6⟩:=s5.put hl5 (fun _ _ _ e=>by cases e) rfl (.loop { rec5 with state:=.exhausted }) (fun _=>hMl) hS0l
  have hAc:∀ b,cA.M b→c.M b:=fun b hb=>by
    rcases hb with ⟨k,x,o,a1,a2,a3⟩ | hb
    · exact (s.hs.live k x _ a1 a2 a3).1
    · exact c.new b (bG s.hs.ext.size hb.1)
  have s7:HS c ρ5 (fun b=>S5 b∧b≠l) hh (w5.putObj l (.loop { rec5 with state:=.exhausted })):=s6.re c (fun k x q a1 a2 a3=>hAc _ (s6.live k x q a1 a2 a3).1) (s.hs.ext.trans (((x01.mono (N:=cA.M) fun _ _ h=>h.elim)).trans s6.ext (fun _ h _=>h)) fun b hb _=>hAc b hb) (fun b hb=>⟨s5.st0 b (.inl (s.hs.st0 b hb)),hlnS b (s.hs.st0 b hb)⟩) (fun b hb=>by
    rcases s5.st1 b hb.1 with (h | h) | h
    · exact s.hs.st1 b h
    · exact .inr (c.new b (bG s.hs.ext.size (hT b h).1))
    · exact .inr (hAc b h)) (bG (by rw [s.cm];exact hn2) s5.mle) (fun k hk=>by
    have hk2:k<n.2:=s.cm▸hk;have h1:=s5.keep k (eL hk2 hn2);rw [h1];show ρ (th LA h.length k)=_;have:th LA h.length k=k:=by unfold th;rw [hAk k hk2]
    rw [this];exact s.hs.keep k hk)
  have hsame:∀ b,(S b∨T b)→(w5.putObj l (.loop { rec5 with state:=.exhausted })).heap[b]? = w1.heap[b]?:=fun b hb=>s6.ext.same b (hSA b hb).1 (hSA b hb).2;have s8:pX n c ρ5 (fun b=>S5 b∧b≠l) E hh { a with defers:=mk++a.defers } (w5.putObj l (.loop { rec5 with state:=.exhausted })):=by
    refine ⟨s.size,hmk _ _ (fun b hb=>⟨s5.st0 b (.inl hb),hlnS b hb⟩) (fun b hb=>⟨s5.st0 b (.inr hb),(hT b hb).2.1⟩) hsame,fun t x hx=>?_,s7,s.cm⟩
    have h1:=OO (ρ':=ρ5) (m:=m0) (fun q hq=>s5.keep q hq) x _ (S8 hlow hx) (henvE t x hx);exact nW (fun b hb=>⟨s5.st0 b hb,fun e=>hS0l (e▸hb)⟩) hsame x ρ5 ρ5 _ (fun _ _ h=>h) (fun _ _ _ _ _ hr=>s6.ext.room hr) h1
  generalize w5.putObj l (.loop { rec5 with state:=.exhausted })=w6 at s8 ⊢;cases hb:g'.2 with
  | false=>
    obtain ⟨rfl,hr5⟩:=hg1 hb;rw [hgN hb] at s8;have:rec5.pending=none:=by rw [hr5,hrec]
    rw [this];exact hQ .normal E (HA N) ρ5 _ _ _ hafter s8
  | true=>
    obtain ⟨e,cd,he,hr,hq⟩:=hg2 hb;have:rec5.pending=some cd:=by rw [hr]
    rw [this];exact zR7 he (hQ e E hh ρ5 _ _ _ hq s8)
end Go.Ab
namespace Go.Ab
open Go
set_option maxHeartbeats 1000000
section
variable {cA:pA}{l:Nat}{rec0:Loop}{E:eE}{HA:Nat→Hp}{GO:Nat→Nat × Bool}{J:JT}{A:Nat→Prop}{Q:Nat × Bool→Exit→eE→Hp→Prop}
theorem yG5.later {g:Nat × Bool}{c c':pA}{ρ ρ':Pl}{S S' W N N':Nat→Prop}{h h':Hp}{w w':World}(hJ:zL6 J) (j:yG5 J A g c ρ S h w W N) (x:nU (fun b=>¬ N' b) w w') (hN:∀ b,N b→N' b)
    (hl:∀ (k:Nat) x p,h'[k]? = some x→x≠.gone→ρ' k=some p→¬ N p.1) (hst:∀ b,S' b→¬ W b) (hc:∀ b,S' b→c'.lo≤b→N b→T0 w b) (hwm:∀ b,W b→c'.M b) (haS:∀ b,S' b→A b) (haM:∀ b,c'.M b→A b) (hnn:∀ b,N b→c'.nb b∨c'.S0 b∨c'.M b):yG5 J A g c' ρ' S' h' w' W N:=by
  refine ⟨hJ.st j.j (x.mono fun b _ hb h=>hb (hN b h)),hl,hst,fun b hb h1 h2=>?_,hwm,haS,haM,hnn⟩
  obtain ⟨cc,e,h4⟩:=hc b hb h1 h2;exact ⟨cc,e,by rw [x.same b (hJ.lt j.j b h2) (fun h=>h (hN b h2))];exact h4⟩
end
def O7 (l:List Oper) (pres:List (List Nat)) (k:Nat):Bool:=
  uO l.toArray pres&&Nat.ble k l.length&&(List.range l.length).all fun i=>match Nat.blt i k with
    | true=>match l[i]? with
      | some o=>match o.guard with
        | some (j,_)=>Nat.blt j k
        | none=>true
      | none=>true
    | false=>(List.range i).all fun j=>(pres.getD i []).any (Nat.beq j)
section
variable {P:Program}{r:Option Nat}{Q Q1:Exit→Act→World→Prop}{l:List Oper}{pres:List (List Nat)}{k:Nat}
theorem K1 (h:O7 l pres k=true):uO l.toArray pres=true∧k≤l.length∧(∀ i,i<k→∀ o j b,l[i]? = some o→o.guard=some (j,b)→j<k)∧∀ i,k≤i→i<l.length→∀ j,j<i→j∈pres.getD i []:=by
  unfold O7 at h;simp only [aN] at h;obtain ⟨⟨h1,h2⟩,h3⟩:=h;have h2:=aH h2;rw [bK] at h3;refine ⟨h1,h2,fun i hi o j b ho hg=>?_,fun i hi hl j hj=>?_⟩
  · have:=h3 i (eU.2 (by omega))
    rw [show Nat.blt i k=true from Nat.ble_eq_true_of_le hi] at this
    simp only [ho,hg] at this;exact aH this
  · have:=h3 i (eU.2 hl);have hb:Nat.blt i k=false:=by
      rw [← eS];intro hb;have:=aH hb;omega
    rw [hb] at this;simp only [bK] at this;have:=this j (eU.2 hj);rw [iX] at this;obtain ⟨x,hx,hxe⟩:=this;rw [aS hxe];exact hx
theorem BZ (hok:uO l.toArray pres=true){listed:Array Bool}(hcl:∀ (i:Nat) o,l.toArray[i]? = some o→listed.getD i false=true→∀ e,e∈o.after→Region.binds .any e=true→listed.getD e.on false=true) :
    ∀ (i:Nat) o,l.toArray[i]? = some o→(∀ e,e∈o.after→Region.binds .any e=true→listed.getD e.on false=true)→∀ j,j∈pres.getD i []→listed.getD j false=true:=by
  intro i
  induction i using Nat.strongRecOn with
  | _ i ih=>
    intro o ho hall j hj;have hlt:i<l.toArray.size:=(aR.1 ho).1;have h:=bK.1 hok i (by simpa using hlt)
    rw [ho] at h;simp only [aN] at h;have h2:=h.2;cases hp:pres[i]? with
    | none=>rw [aD,hp] at hj;simp at hj
    | some pre=>
      rw [aD,hp] at hj;rw [hp] at h2;simp only [bK,aN,decide_eq_true_eq] at h2;obtain ⟨h3,h4⟩:=h2 j hj;rw [iX] at h4;obtain ⟨e,he,h5⟩:=h4;rw [aN,vC] at h5;obtain ⟨hb,h6⟩:=h5;have he':e∈o.after:=by simpa using he
      have hel:=hall e he' hb;rcases h6 with h6 | h6
      · rw [← aS h6];exact hel
      · rw [iX] at h6;obtain ⟨x,hx,hxe⟩:=h6;rw [aS hxe];have hei:=lX hok ho e he' hb;exact ih e.on hei _ (dD (by omega)) (fun e2 he2 hb2=>hcl e.on _ (dD (by omega)) hel e2 he2 hb2) x hx
theorem zN7 (hc:O7 l pres k=true):∀ (m k' fuel:Nat) (listed:Array Bool) (a:Act) (w:World),k'+m=l.length→k≤k'→m≤fuel→listed.size=l.length→(∀ j,j<l.length→listed.getD j false=decide (j<k')) →
    wpListIn (rd r) 0 P l.toArray Q (l.drop k') a w→wpAnyIn (rd r) 0 P .any l.toArray Q fuel listed a w:=by
  obtain ⟨hok,hkl,_,hpre⟩:=K1 hc;intro m
  induction m with
  | zero=>
    intro k' fuel listed a w hk hkk hf hsz hl h;rw [dC (by omega)] at h
    have hre:Region.ready .any l.toArray listed=[]:=by
      rw [lP];intro i hi;obtain ⟨h1,o,ho,_⟩:=mem_ready.1 hi;have hil:i<l.length:=by have:=(aR.1 ho).1;simpa using this
      have e:listed.getD i true=listed.getD i false:=by simp [Array.getD,hsz,hil]
      rw [e,hl i hil] at h1;have:¬ i<k':=by simpa using h1
      omega
    cases fuel with
    | zero=>exact ⟨hre,h⟩
    | succ f=>exact ⟨fun _=>h,fun i hi=>by rw [hre] at hi;cases hi⟩
  | succ m ih=>
    intro k' fuel listed a w hk hkk hf hsz hl h;obtain ⟨f,rfl⟩:∃ f,fuel=f+1:=⟨fuel-1,by omega⟩
    have hlt:k'<l.length:=by omega
    have ho:l.toArray[k']? = some l[k']:=by simp [aA hlt]
    have hin:k'∈Region.ready .any l.toArray listed:=mem_ready.2 ⟨by
      have e:listed.getD k' true=listed.getD k' false:=by simp [Array.getD,hsz,hlt]
      rw [e,hl k' hlt];simp,l[k'],ho,fun e he hb=>by
      have:=lX hok ho e he hb
      rw [hl e.on (by omega)];simpa using this⟩
    refine ⟨(fun hr=>by rw [hr] at hin;cases hin),fun i hi=>?_⟩
    obtain ⟨h1,o,hoi,hall⟩:=mem_ready.1 hi;have hil:i<l.length:=by have:=(aR.1 hoi).1;simpa using this
    have hcl:∀ (i:Nat) o,l.toArray[i]? = some o→listed.getD i false=true→∀ e,e∈o.after→Region.binds .any e=true→listed.getD e.on false=true:=fun i o ho hi e he hb=>by
      have hil:i<l.length:=by have:=(aR.1 ho).1;simpa using this
      have:=lX hok ho e he hb;rw [hl i hil] at hi;have:i<k':=by simpa using hi
      rw [hl e.on (by omega)];simp;omega
    have hik:i=k':=by
      have e:listed.getD i true=listed.getD i false:=by simp [Array.getD,hsz,hil]
      rw [e,hl i hil] at h1;have h2:¬ i<k':=by simpa using h1
      rcases jO k' i with h3 | h3
      · have:=BZ hok hcl i o hoi hall k' (hpre i (by omega) hil k' h3)
        rw [hl k' hlt] at this;simp at this
      · omega
    subst hik;rw [aY hlt] at h;unfold wpListIn at h;unfold wpOpIn;rw [ho];have nx:∀ a w,wpListIn (rd r) 0 P l.toArray Q (l.drop (i+1)) a w→wpAnyIn (rd r) 0 P .any l.toArray Q f (listed.setIfInBounds i true) a w:=fun a w h'=>
      ih (i+1) f _ a w (by omega) (by omega) (by omega) (by simpa using hsz) (fun j hj=>by
        by_cases hij:i=j
        · subst hij;simp [Array.getD,hsz,hlt]
        · rw [getD_set_ne false hij,hl j hj]
          simp;omega) h'
    simp only;split at h
    · rename_i hw;rw [if_pos hw];exact Oper.wpIn_mono nx h
    · rename_i hw;rw [if_neg hw];exact ⟨h.1,nx _ _ h.2⟩
theorem KA (hc:O7 l pres k=true) (hnd:nJ (l.take k)=true) (hq1:∀ e a w,Q1 e a w→e = .normal) (hrest:∀ a w,Q1 .normal a w→wpListIn (rd r) 0 P l.toArray Q (l.drop k) a w) :
    ∀ (fuel' fuel:Nat) (listed listedf:Array Bool) (U:List Nat) (a:Act) (w:World),listed.size=l.length→listedf.size=k→(∀ j,j<k→listed.getD j false=listedf.getD j false)→(∀ j,k≤j→listed.getD j false=false) →
      (∀ (i:Nat) o,l.toArray[i]? = some o→listed.getD i false=true→∀ e,e∈o.after→Region.binds .any e=true→listed.getD e.on false=true) →
      (∀ j,j<k→listed.getD j false=false→j∈U)→U.length≤fuel'→fuel'+(l.length-k)≤fuel →
      wpAny P .any (l.take k).toArray Q1 fuel' listedf a w→wpAnyIn (rd r) 0 P .any l.toArray Q fuel listed a w:=by
  obtain ⟨hok,hkl,hgd,hpre⟩:=K1 hc;have hlk:(l.take k).toArray.size=k:=by simp;omega
  have done:∀ (fuel:Nat) (listed:Array Bool) (a:Act) (w:World),listed.size=l.length→(∀ j,k≤j→listed.getD j false=false)→(∀ j,j<k→listed.getD j false=true)→l.length-k≤fuel→Q1 .normal a w→wpAnyIn (rd r) 0 P .any l.toArray Q fuel listed a w:=fun fuel listed a w hsz ht hf hfu hq=>
    zN7 hc (l.length-k) k fuel listed a w (by omega) (aU _) hfu hsz (fun j hj=>by
      by_cases h:j<k
      · rw [hf j h];simp [h]
      · rw [ht j (by omega)];simp [h]) (hrest a w hq)
  intro fuel'
  induction fuel' with
  | zero=>
    intro fuel listed listedf U a w hsz hszf hlf ht hcl hU hUl hfu h;have hU0:U=[]:=cF (by omega)
    subst hU0
    exact done fuel listed a w hsz ht (fun j hj=>by
      cases hb:listed.getD j false with
      | true=>rfl
      | false=>exact absurd (hU j hj hb) (by simp)) (by omega) h.2
  | succ fuel' ih=>
    intro fuel listed listedf U a w hsz hszf hlf ht hcl hU hUl hfu h;by_cases hfl:∀ j,j<k→listed.getD j false=true
    · refine done fuel listed a w hsz ht hfl (by omega) (h.1 ?_)
      rw [lP];intro i hi;obtain ⟨h1,o,ho,_⟩:=mem_ready.1 hi;have hil:i<k:=by have:=(aR.1 ho).1;omega
      have e:listedf.getD i true=listedf.getD i false:=by simp [Array.getD,hszf,hil]
      rw [e,← hlf i hil,hfl i hil] at h1;cases h1
    · obtain ⟨j0,hj0,hjf⟩:∃ j,j<k∧listed.getD j false=false:=by
        apply Classical.byContradiction;intro hn;apply hfl;intro j hj;cases hb:listed.getD j false with
        | true=>rfl
        | false=>exact absurd ⟨j,hj,hb⟩ hn
      obtain ⟨f,rfl⟩:∃ f,fuel=f+1:=⟨fuel-1,by omega⟩
      have hex:Region.ready .any l.toArray listed≠[]:=by
        have gQ:∃ j,j<k∧listed.getD j false=false∧∀ i,i<j→listed.getD i false=true:=by
          have:∀ b j,j≤b→j<k→listed.getD j false=false→∃ j,j<k∧listed.getD j false=false∧∀ i,i<j→listed.getD i false=true:=by
            intro b
            induction b with
            | zero=>exact fun j hj h5 h6=>⟨j,h5,h6,fun k hk=>by omega⟩
            | succ b ihb=>
              intro j hj h5 h6;by_cases hk:∃ k,k<j∧listed.getD k false=false
              · obtain ⟨k,hk1,hk2⟩:=hk;exact ihb k (by omega) (by omega) hk2
              · refine ⟨j,h5,h6,fun k hk'=>?_⟩
                cases hb:listed.getD k false with
                | true=>rfl
                | false=>exact absurd ⟨k,hk',hb⟩ hk
          exact this j0 j0 (aU _) hj0 hjf
        obtain ⟨j,h5,h6,h7⟩:=gQ;intro he;have hlt:j<l.toArray.size:=by simp;omega
        have:j∈Region.ready .any l.toArray listed:=mem_ready.2 ⟨by
          have e:listed.getD j true=listed.getD j false:=by simp only [Array.getD,hsz,show j<l.length by omega,dif_pos]
          rw [e,h6],_,dD hlt,fun e he hb=>h7 _ (lX hok (dD hlt) e he hb)⟩
        rw [he] at this;cases this
      refine ⟨fun h5=>absurd h5 hex,fun i hi=>?_⟩
      obtain ⟨h1,o,hoi,hall⟩:=mem_ready.1 hi;have hil:i<l.length:=by have:=(aR.1 hoi).1;simpa using this
      have hik:i<k:=by
        apply Classical.byContradiction;intro hge;have:=BZ hok hcl i o hoi hall j0 (hpre i (by omega) hil j0 (by omega))
        rw [hjf] at this;cases this
      have ei:listed.getD i true=listed.getD i false:=by simp [Array.getD,hsz,hil]
      have eif:listedf.getD i true=listedf.getD i false:=by simp [Array.getD,hszf,hik]
      have hil0:listed.getD i false=false:=by rw [← ei];exact h1
      have hof:(l.take k).toArray[i]? = some o:=by
        have:l[i]? = some o:=by simpa using hoi
        simp [cJ,hik,this]
      have hif:i∈Region.ready .any (l.take k).toArray listedf:=mem_ready.2 ⟨by rw [eif,← hlf i hik];exact hil0,o,hof,fun e he hb=>by
        have hlt:=lX hok hoi e he hb
        rw [← hlf e.on (by omega)];exact hall e he hb⟩
      have hop:=h.2 i hif;unfold wpOp at hop;unfold wpOpIn;rw [hof] at hop;rw [hoi];simp only at hop ⊢;have hoi':l[i]? = some o:=by simpa using hoi
      have hwant:Region.wanted o (yielded (l.take k).toArray a.tmps)=Region.wanted o (yielded l.toArray a.tmps):=by
        unfold Region.wanted;cases hg:o.guard with
        | none=>rfl
        | some g=>
          obtain ⟨j,b⟩:=g;have hj:=hgd i hik o j b hoi' hg;simp only;unfold yielded;have:(l.take k).toArray[j]? = l.toArray[j]?:=by simp [cJ,hj]
          rw [this]
      have nx:∀ a w,wpAny P .any (l.take k).toArray Q1 fuel' (listedf.setIfInBounds i true) a w→wpAnyIn (rd r) 0 P .any l.toArray Q f (listed.setIfInBounds i true) a w:=fun a' w' h'=>by
        refine ih f _ _ (U.erase i) a' w' (by simpa using hsz) (by simpa using hszf) (fun j hj=>?_) (fun j hj=>?_) (fun i2 o2 ho2 hi2 e he hb=>?_) (fun j hj hjl=>?_) ?_ (by omega) h'
        · by_cases hij:i=j
          · subst hij;simp [Array.getD,hsz,hszf,hil,hik]
          · rw [getD_set_ne false hij,getD_set_ne false hij];exact hlf j hj
        · rw [getD_set_ne false (by omega)];exact ht j hj
        · by_cases hij:i=i2
          · subst hij;rw [hoi] at ho2;cases ho2;exact getD_set_true (hall e he hb)
          · rw [getD_set_ne false hij] at hi2;exact getD_set_true (hcl i2 o2 ho2 hi2 e he hb)
        · by_cases hij:i=j
          · subst hij;simp [Array.getD,hsz,hil] at hjl
          · rw [getD_set_ne false hij] at hjl;exact (mJ (Ne.symm hij)).2 (hU j hj hjl)
        · have:=lS (hU i hik hil0);have hpos:0<U.length:=List.length_pos_of_mem (hU i hik hil0);omega
      have hnd1:S6 o=true:=S4 hnd (i:=i) (by simp [cJ,hik,hoi'])
      split at hop
      · rename_i hw;rw [if_pos (by rw [← hwant];exact hw)]
        rcases hop with hop | ⟨_,a',w',hop⟩
        · exact MN (Q:=Q1) hq1 (Oper.wpIn_mono nx (zA7 hnd1 hop))
        · have:=hq1 _ _ _ hop;cases this
      · rename_i hw;rw [if_neg (by rw [← hwant];exact hw)]
        exact ⟨fun _ _=>trivial,nx _ _ hop⟩
end
section
variable {P:Program}{env:eE}{h:Hp}{d:Option Nat}{ty:TypeId}{pos:String}{af:Array Edge}{g:Option (Nat × Bool)}
theorem X7 (T:oQ P){t e len:Nat}{i:TI}{l:List (Nat × Operand)}{aZ:List (Nat × List AV)}{es:List (List AV)}(ht:T.elem t=some e) (he:T.ti e=some i) (hs:0<i.size) (hn:len*i.size≤16777216) (hl:zA env l=some aZ) (hz:GY (List.replicate len (i.zero.map .v)) aZ=some es) (hes:es.length=len) :
    cD P ⟨d,.buildSlice t len l.toArray,ty,pos,af,g⟩ env h 1 (fun p=>.sl p 0 len i.size) (fun _=>[.lit es i.size]):=by
  obtain ⟨inf,z,a1,a2,a3,a4,a5,a6,a7⟩:=T.tiOk e i he;have hrep:∀ e,e∈List.replicate len (i.zero.map AV.v)→e.length=i.size:=fun e he=>by rw [kF he];simp [a6]
  obtain ⟨f1,f2,f3⟩:=J8 hrep hz;refine CZ fun ρ S a w p=>?_
  have hcells:RL S w (List.replicate len (i.zero.map AV.v)).flatten ρ (madeCells z.cells (len*i.size)).toList:=by
    have h1:(List.replicate len (i.zero.map AV.v)).flatten=((List.replicate len i.zero).flatten).map AV.v:=by
      rw [List.map_flatten,List.map_replicate]
    have h2:(madeCells z.cells (len*i.size)).toList=(List.replicate len i.zero).flatten:=by
      apply kA;intro j;by_cases hj:j<len*i.size
      · have hlen:(List.replicate len i.zero).flatten.length=len*i.size:=by
          rw [eP (sz:=i.size) (fun e he=>by rw [kF he];exact a6)];simp
        obtain ⟨y,hy⟩:∃ y,(List.replicate len i.zero).flatten[j]? = some y:=⟨_,aA (by rw [hlen];exact hj)⟩
        rw [hy];obtain ⟨_,c2⟩:=nT i.zero len j y hy
        have:=H6 (z:=z.cells) (n:=len*i.size) (j:=j) (y:=y) hj (by
          have hzs:z.cells.size=i.zero.length:=by rw [← a5];simp
          rw [hzs,a5];exact c2)
        simpa using this
      · rw [cX (by simp [size_madeCells];omega),cX]
        rw [eP (sz:=i.size) (fun e he=>by rw [kF he];exact a6)]
        simp;omega
    rw [h1,h2];exact UN _
  obtain ⟨us,u1,u2⟩:=DF (E7 p hl) hcells f1;have ul:=gD u2;have hus:us.size=es.length*i.size:=by
    rw [eP f2] at ul;simpa using ul
  have hlm:len≤maxLen:=by
    have:len*1≤len*i.size:=SB _ hs;have hm:(16777216:Nat)≤maxLen:=by decide
    omega
  refine ⟨us,e,.slice (some ⟨w.heap.size,0,none⟩) len len,false,?_,fun pos hpos w' hw' lt=>⟨?_,?_⟩⟩
  · have hn':¬ (len*i.size > 2 ^ 24):=by omega
    have hparts:(l.toArray.map fun (i,x)=>(i,a.eval x)).toList=l.map fun (i,x)=>(i,a.eval x):=by simp
    have hmade:∀ zz:Array Value,(len*i.size=0∨zz=z.cells)→((Array.range (len*i.size)).map fun x=>zz[x % zz.size]!)=madeCells z.cells (len*i.size):=fun zz hzz=>by
      rcases hzz with h0 | h0
      · simp [h0,madeCells]
      · rw [h0];rfl
    by_cases h0:len*i.size=0
    · have hm:=hmade #[] (.inl h0);simp only [execOp,Instr.buildSlice,Sem.run_bind,run_underlying (T.elemOk _ _ ht),Result.andThen_ok,Go.sizeOf,typeInfo,run_program,a1,Sem.run_pure,a2,hn',if_false];rw [if_pos h0];simp only [Sem.run_bind,Sem.run_pure,Result.andThen_ok];rw [hm,hparts,u1];simp [newRow]
    · have hm:=hmade z.cells (.inr rfl);simp only [execOp,Instr.buildSlice,Sem.run_bind,run_underlying (T.elemOk _ _ ht),Result.andThen_ok,Go.sizeOf,typeInfo,run_program,a1,Sem.run_pure,a2,hn',if_false];rw [if_neg h0];simp only [Sem.run_bind,zeroValue,typeInfo,run_program,a1,a4,Sem.run_pure,Result.andThen_ok];rw [hm,hparts,u1];simp [newRow]
  · simp only [R];refine ⟨_,len,rfl,hlm,.inr ⟨w.heap.size,0,by simp [Pl.with],by simp,aU _,us,e,_,hw',?_⟩⟩
    rw [hus,hes];simp
  · simp only [RB];exact ⟨f2,hs,_,us.toList,rfl,⟨us,e,hw',hus,fun j y hy=>by rw [Nat.zero_add];simpa using hy⟩,u2.later lt⟩
end
end Go.Ab
namespace Go.Ab
open Go
def V5 (P:Program) (t:TypeId) (k:IntKind):Prop:=P.underlying t=some (.int k)
section
variable {P:Program}{env:eE}{h:Hp}{d:Option Nat}{ty:TypeId}{pos:String}{af:Array Edge}{g:Option (Nat × Bool)}
theorem jR {s t:TypeId}{x:Operand}{ks k kk:IntKind}{n:Int}(hs:V5 P s ks) (ht:V5 P t k) (hx:evu env x=some (.v (.int kk n))) (hn:k.wrap n=n) :
    cD P ⟨d,.convert s t x,ty,pos,af,g⟩ env h 0 (fun _=>.v (.int k n)) (fun _=>[]):=WX hs ht hx hn
theorem KS {n:Int}(h0:0≤n) (h1:n<18446744073709551616):IntKind.u64.wrap n=n:=by
  simp [IntKind.wrap,IntKind.signed,IntKind.bits];omega
end
end Go.Ab
namespace Go.Ab
open Go Go.MapKept
section
variable {P:Program}{env:eE}{h:Hp}{d:Option Nat}{ty:TypeId}{pos:String}{af:Array Edge}{g:Option (Nat × Bool)}
variable {t kt et:TypeId}{good:Value→Prop}{x y:Operand}{k i:Nat}{kv:Value}{ks:List Value}{vs:List AV}{v:AV}
end
theorem HR.int {P:Program}{kt:TypeId}(hd:P.underlying kt=some (.int .i64)):HR P kt (IsKey (.int .i64)):=HR.plain hd
end Go.Ab
namespace Go.Ab
open Go
set_option maxHeartbeats 1000000
abbrev PB (l:List Int):List (List AV):=l.map fun n=>[AV.i n]
def jD (l:List Int):List Int:=l.mergeSort fun x y=>decide (x≤y)
theorem yB (l:List Int):(jD l).length=l.length:=List.length_mergeSort l
theorem uQ:∀ l:List Int,(PB l).flatten=l.map AV.i
  | []=>rfl
  | a::l=>by
    show [AV.i a]++(PB l).flatten=_;rw [uQ l];rfl
theorem zL {S:Nat→Prop}{w:World}{ρ:Pl}:∀ {l:List Int}{ys:List Value},RL S w (l.map AV.i) ρ ys↔ys=l.map (Value.int .i64)
  | [],ys=>by simp [RL]
  | a::l,ys=>by
    simp only [List.map_cons,RL,R];constructor
    · rintro ⟨y,zs,rfl,rfl,h⟩;rw [zL.1 h]
    · rintro rfl;exact ⟨_,_,rfl,rfl,zL.2 rfl⟩
theorem Q7 {w:World}{n b off:Nat}{d:List Int}{os:Array Obj}{c:Array Value}{e:TypeId}(hc:w.heap[b]? = some (.cells c e (0,0))) (hb:b<w.heap.size) :
    (Sort.grow (Sort.putRow (Value.int .i64) (Sort.ahead w n) b off d.toArray) os).heap[b]? = some (.cells (Sort.putCells (Value.int .i64) off d.toArray c) e (0,0)):=by
  rw [Sort.heap_grow_old _ _ (by rw [Sort.size_putRow];exact hb)]
  unfold Sort.putRow Sort.mapBlock;show (w.heap.modify b _)[b]? = _;rw [zX,if_pos rfl,hc];rfl
theorem BJ {w:World}{n b off:Nat}{d:List Int}{os:Array Obj}{c:Array Value}{e:TypeId}(hc:w.heap[b]? = some (.cells c e (0,0))) (hb:b<w.heap.size) :
    nU (fun x=>x=b) w (Sort.grow (Sort.putRow (Value.int .i64) (Sort.ahead w n) b off d.toArray) os):=by
  have other:∀ x,x<w.heap.size→x≠b→(Sort.grow (Sort.putRow (Value.int .i64) (Sort.ahead w n) b off d.toArray) os).heap[x]? = w.heap[x]?:=fun x hx hne=>by
    rw [Sort.heap_grow_old _ _ (by rw [Sort.size_putRow];exact hx)]
    unfold Sort.putRow Sort.mapBlock;show (w.heap.modify b _)[x]? = _;rw [zX,if_neg (Ne.symm hne)]
  refine ⟨rfl,rfl,rfl,by rw [Sort.size_grow,Sort.size_putRow];exact iV _ _,fun x hx hne=>other x hx hne,fun x cc ee fz hcc=>?_⟩
  by_cases hx:x=b
  · subst hx;rw [hc] at hcc;cases hcc;exact ⟨_,_,Q7 hc hb,by simp [Sort.putCells]⟩
  · exact ⟨cc,fz,by rw [other x (aR.1 hcc).1 hx];exact hcc,rfl⟩
theorem RT {P : Program} {f : FuncId} (hfn : ∃ fn, P.funcs[f]? = some fn ∧ (fn.name == "runtime.NumGoroutine") = false ∧ fn.body.isNone = false)
    (hs:∀ (blk off cap:Nat) (zs:List Int) (w:World),Sort.Holds (Value.int .i64) w blk off zs.toArray→blk<w.heap.size→zs.length<4611686018427387904 →
      Calls P f #[.slice (some ⟨blk,off,none⟩) zs.length cap] w fun e w'=>e = .returned (.tuple #[])∧∃ n os,w'=Sort.grow (Sort.putRow (Value.int .i64) (Sort.ahead w n) blk off (zs.mergeSort fun x y=>decide (x≤y)).toArray) os)
    (hn:∀ (p:Option Addr) (cap:Nat) (w:World),Calls P f #[.slice p 0 cap] w fun e w'=>e = .returned (.tuple #[])∧w'=w)
    (l:List Int) (hl:l.length≤17592186043904):aT P f [.sl 0 0 l.length 1] [.arr (PB l) 1] (.tup []) [.arr (PB (jD l)) 1]:=by
  refine ⟨hfn,fun ρ S w vs s hv=>?_⟩
  simp only [RL] at hv;obtain ⟨y,_,rfl,hy,rfl⟩:=hv;simp only [R] at hy;obtain ⟨a,cap,rfl,hcap,hy⟩:=hy;cases l with
  | nil=>
    refine (hn a cap w).mono fun e w' ⟨he,hw⟩=>?_
    subst he hw;rw [show jD []=[] from by simp [jD]]
    exact ⟨_,ρ,S,rfl,s,by simp [R,RL]⟩
  | cons i0 l0=>
    rcases hy with ⟨h0,_⟩ | ⟨b,o,hp,ha,hcl,_⟩
    · cases h0
    · obtain ⟨_,_,h3⟩:=s.blk 0 _ rfl;rcases h3 with ⟨h3,_⟩ | ⟨b',o',ys,h4,h5,h6⟩
      · cases h3
      · rw [hp] at h4;cases h4;rw [uQ] at h6;have h6:=zL.1 h6;subst h6;obtain ⟨c,ty,hc,hg⟩:=h5;have hb:=(aR.1 hc).1;rw [ER,Nat.add_zero] at ha;subst ha;have hH:Sort.Holds (Value.int .i64) w b o (i0::l0).toArray:=fun j hj=>by
          have hj:j<(i0::l0).length:=by simpa using hj
          have:=hg j (.int .i64 (i0::l0)[j]) (by rw [bY,aA hj];rfl)
          refine ⟨?_,?_⟩
          · unfold World.cell?;simp only [hc];rw [if_neg (by simp),this]
            congr 2;rw [getElem!_pos _ j (by simpa using hj)]
            simp
          · unfold World.frozen?;simp only [hc];simp
        refine (hs b o cap (i0::l0) w hH hb (by omega)).mono fun e w' ⟨he,n,os,hw⟩=>?_
        subst he;have hlen:=yB (i0::l0);have hw:w'=Sort.grow (Sort.putRow (Value.int .i64) (Sort.ahead w n) b o (jD (i0::l0)).toArray) os:=hw;have hh:w'.heap[b]? = some (.cells (Sort.putCells (Value.int .i64) o (jD (i0::l0)).toArray c) ty (0,0)):=by rw [hw];exact Q7 hc hb
        obtain ⟨s',_⟩:=s.upd (k:=0) (b0:=.arr (PB (i0::l0)) 1) (nb:=.arr (PB (jD (i0::l0))) 1) (w':=w') rfl (by simp) hp (by rw [hw];exact BJ hc hb) (fun _=>by
          refine ⟨fun e he=>by obtain ⟨i,_,rfl⟩:=bA.1 he;rfl,OR,.inr ⟨b,o,(jD (i0::l0)).map (Value.int .i64),rfl,⟨_,ty,hh,fun j y hj=>?_⟩,by rw [uQ];exact zL.2 rfl⟩⟩
          rw [bY] at hj;obtain ⟨z,hz,rfl⟩:=gY.1 hj;obtain ⟨hjl,hz⟩:=aB.1 hz;have hold:=hg j (.int .i64 ((i0::l0)[j]'(by omega))) (by rw [bY,aA (by omega)];rfl)
          have hlt:=(aR.1 hold).1;unfold Sort.putCells;rw [KN,hold];show some (if o≤o+j∧o+j<o+(jD (i0::l0)).toArray.size then _ else _)=_
          rw [if_pos ⟨by omega,by simpa using hjl⟩]
          congr 2;rw [show o+j-o=j by omega,getElem!_pos _ j (by simpa using hjl)]
          simpa using hz)
        exact ⟨_,ρ,S,rfl,s',by simp [R,RL]⟩
theorem F8 {es:List (List AV)}{sz:Nat}(h:∀ e,e∈es→e.length=sz) (m:Nat):(es.take m).flatten=es.flatten.take (m*sz):=by
  induction es generalizing m with
  | nil=>simp
  | cons a l ih=>
    have ha:=h a aQ;cases m with
    | zero=>simp
    | succ m=>
      rw [pB,eQ,eQ,ih (fun e he=>h e (aJ _ he)),jP];rw [bO (l:=a) (by rw [ha,eM];omega),ha,eM,Y6,XP]
theorem KH {S:Nat→Prop}{w:World}{ρ:Pl}{p:Option (Nat × Nat)}{es:List (List AV)}{sz:Nat}(m:Nat) (h:RB S w ρ p (.arr es sz)):RB S w ρ p (.arr (es.take m) sz):=by
  obtain ⟨h1,h2,h3⟩:=h;refine ⟨fun e he=>h1 e (dS he),h2,?_⟩;rcases h3 with h3 | ⟨b,o,ys,h4,⟨c,e,h5,h6⟩,h7⟩
  · exact .inl ⟨by rw [h3.1];simp,h3.2⟩
  · refine .inr ⟨b,o,ys.take (m*sz),h4,⟨c,e,h5,fun j y hj=>h6 j y ?_⟩,by rw [F8 h1];exact rO h7 _⟩
    rw [cJ] at hj;split at hj
    · exact hj
    · cases hj
section
variable {P:Program}{env:eE}{h:Hp}{n:Nat × Nat}{ops:Array Oper}{rest:List Oper}{K:eE→Hp→Prop}{ty:TypeId}{pos:String}{af:Array Edge}
theorem KZ (T:oQ P){t e k off len:Nat}{i:TI}{x:Operand}{es:List (List AV)}(hx:evu env x=some (.sl k off len 1)) (ht:T.elem t=some e) (he:T.ti e=some i) (hz:i.zero=[.int .i64 0]) (hkk:h[k]? = some (.arr es 1)) (hle:off+len≤es.length)
    (hk:VC P n ops rest env (h.set k (.arr (es.take off) 1)) K):VC P n ops (⟨none,.call { callee:=.builtin .clear,args:=#[x],argTypes:=#[t] },ty,pos,af,none⟩::rest) env h K:=by
  intro c ρ S a w Q s hQ;refine wpList_plain rfl fun K' hK'=>?_
  have p:=s.pre;have hxv:=p.evu hx;simp only [R] at hxv;obtain ⟨ad,cap,hev,_,hxv⟩:=hxv;obtain ⟨inf,z,t1,t2,t3,t4,t5,t6,t7⟩:=T.tiOk e i he;have hund:P.underlying t=some (.slice e):=T.elemOk _ _ ht;have hzv:∀ w,(zeroValue e).run P w = .ok z w:=fun w=>by simp [zeroValue,typeInfo,t1,t4]
  have hzc:z.cells = #[.int .i64 0]:=by
    rw [hz] at t5;exact Array.toList_inj.1 t5
  have ev1:∀ r w',(Builtin.clear_ #[t] ty #[a.eval x]).run P w = .ok r w'→(execOp a.eval ⟨none,.call { callee:=.builtin .clear,args:=#[x],argTypes:=#[t] },ty,pos,af,none⟩).run P w = .ok (.value r) w':=fun r w' hr=>by
    simp [execOp,resolve,invoke,builtin,hr]
  have fin:∀ {r:Value} {w':World},(Builtin.clear_ #[t] ty #[a.eval x]).run P w = .ok r w'→HS c ρ S (h.set k (.arr (es.take off) 1)) w'∧iJ ρ ρ S S w w'→Oper.wp P ⟨none,.call { callee:=.builtin .clear,args:=#[x],argTypes:=#[t] },ty,pos,af,none⟩ a w K' Q:=fun {r w'} hr ⟨g1,g2⟩=>by
    unfold Oper.wp;rw [ev1 r w' hr];exact hK' _ _ (hk c ρ S _ _ Q ⟨by rw [nI];exact s.size,by rw [kX];exact s.defers.later g2,fun tt uu huu=>(s.env tt uu huu).later g2,g1,s.cm⟩ hQ)
  have stay:HS c ρ S (h.set k (.arr (es.take off) 1)) w∧iJ ρ ρ S S w w:=⟨s.hs.alter hkk (KH off) (by simp),⟨fun _ _ h=>h,fun _ h=>h,fun _ _=>rfl,fun _ _ _ _ _ h=>h⟩⟩
  cases len with
  | zero=>
    refine fin (r:=.tuple #[]) ?_ stay;rw [hev];cases ad <;> simp [Builtin.clear_,run_underlying hund]
  | succ m=>
    rcases hxv with ⟨h0,_⟩ | ⟨b,o,hp,ha,hlc,hroom⟩
    · cases h0
    · have hB:=p.blk k _ hkk;obtain ⟨hes,hs0,hB⟩:=hB;rcases hB with hB | ⟨b',o',ys,h4,⟨cc,ct,h5,h6⟩,h7⟩
      · obtain ⟨hB,_⟩:=hB;subst hB;simp at hle
      rw [hp] at h4;cases h4;have hyl:=gD h7;have hfl:=eP hes;have hlast:=h6 (ys.length-1) (ys[ys.length-1]'(by omega)) (aA _)
      have hsz:=(aR.1 hlast).1;have hzs:(Builtin.zeroCells z.cells (m+1)).toList=List.replicate (m+1) (.int .i64 0):=by
        rw [hzc];simp [Builtin.zeroCells];apply jQ
        · simp
        · intro i h1 h2;simp [Nat.mod_one]
      have hst:=run_storeCells_at P b (o+off) ct (List.replicate (m+1) (Value.int .i64 0)) 0 cc w h5 (by rw [List.length_replicate];omega) (by intro v hv;rw [kF hv];rfl)
      rw [Nat.mul_one] at ha;subst ha;refine fin (r:=.tuple #[]) (w':=w.setRow b (cc.toList.take (o+off+0)++List.replicate (m+1) (Value.int .i64 0)++cc.toList.drop (o+off+0+(List.replicate (m+1) (Value.int .i64 0)).length)).toArray) ?_ (s.hs.upd hkk (by simp) hp (sA h5 ?_) fun l=>?_)
      · rw [hev];simp only [Builtin.clear_];simp [run_underlying hund,hzv,hzs,hst]
      · simp;omega
      · refine ⟨fun e he=>hes e (dS he),OR,.inr ⟨b,o,ys.take off,rfl,⟨_,ct,setRow_heap w b cc _ ct _ h5,fun j y hj=>?_⟩,?_⟩⟩
        · rw [cJ] at hj;split at hj
          · rename_i hjo;have:=h6 j y hj;have hjl:=(aR.1 this).1;rw [jA,bZ,aG (by simp;omega),cJ,if_pos (by omega)]
            simpa using this
          · cases hj
        · rw [F8 hes,Nat.mul_one];exact rO (h7.later l) off
end
end Go.Ab
namespace Go.Ab
open Go
section
variable {P:Program}{env:eE}{h:Hp}{n:Nat × Nat}{ops:Array Oper}{rest:List Oper}{K:eE→Hp→Prop}{ty:TypeId}{pos:String}{af:Array Edge}
theorem uG {t t2 e len sz dd:Nat}{cs:List AV}{x y:Operand}(T:oQ P) (hx:evu env x=some (.row cs len sz)) (hy:evu env y=some .nils) (ht:T.elem t=some e) (hd:GD (some dd) n=true)
    (hk:∀ b:Bool,(0<len→b=false)→VC P n ops rest ((dd,.b b)::env) h K):VC P n ops (⟨some dd,.binOp .eql t x y t2,ty,pos,af,none⟩::rest) env h K:=by
  intro c ρ S a w Q s hQ;refine wpList_plain rfl fun K' hK'=>?_
  have p:=s.pre;have h3:=p.evu hx;simp only [R] at h3;obtain ⟨ad,cap,h4,hlc,hn,_⟩:=h3;have h5:=vB (p.evu hy);have run:(execOp a.eval ⟨some dd,.binOp .eql t x y t2,ty,pos,af,none⟩).run P w = .ok (.value (.bool ad.isNone)) w:=by
    have he:=Lib.run_eql_slice_nil w t e ad len cap 0 0 (T.elemOk _ _ ht);have hg:(eqGuard .eql t x y (.slice ad len cap) (.slice none 0 0)).run P w = .ok () w:=by cases ad <;> rfl
    simp [execOp,h4,h5,hg,he]
  have hv:=hk ad.isNone (fun h0=>by
    cases ad with
    | none=>have:=hn rfl;omega
    | some _=>rfl)
  unfold Oper.wp;rw [run];have hs:=s.post (d:=some dd) (m:=0) (x:=.b ad.isNone) (new:=[]) (y:=.bool ad.isNone) hd ⟨nU.refl _ _,rfl,fun _ _=>rfl,fun _ h=>h,fun _ h=>.inl h,fun k p h1 h2=>by omega,fun k k' p p' h1 h2=>by omega,lM _,fun j b hb=>by simp at hb⟩
  rw [List.append_nil] at hs;exact hK' _ _ (hv c ρ S _ w Q hs hQ)
end
theorem HS.freezeC {c:pA}{ρ:Pl}{S:Nat→Prop}{h:Hp}{w:World}{k:Nat}{x:AB}(s:HS c ρ S h w) (hk:h[k]? = some x) (hx:x≠.gone):HS c ρ (fun b=>S b∨∃ o,ρ k=some (b,o)) (h.set k .gone) w:=by
  have get:∀ {j:Nat} {b:AB},(h.set k .gone)[j]? = some b→b≠.gone→j≠k∧h[j]? = some b:=fun {j b} hj hg=>by
    rw [gZ] at hj;split at hj
    · split at hj
      · cases hj;exact absurd rfl hg
      · cases hj
    · rename_i e;exact ⟨fun e'=>e e'.symm,hj⟩
  have l:iJ ρ ρ S (fun b=>S b∨∃ o,ρ k=some (b,o)) w w:=⟨fun _ _ h=>h,fun _ h=>.inl h,fun _ _=>rfl,fun _ _ _ _ _ h=>h⟩
  refine ⟨fun j hj=>s.dom j (by simpa using hj),s.rng,fun j b hb=>?_,fun j b p hb hg hp=>?_,fun j j' b b' p p' hb hb' hg hg' hp hp' e=>s.inj j j' b b' p p' (get hb hg).2 (get hb' hg').2 hg hg' hp hp' e,fun b hb=>?_,s.ext,fun b hb=>.inl (s.st0 b hb),fun b hb=>?_,by simpa using s.mle,s.keep,s.glob.st (fun b hb=>.inl hb)⟩
  · by_cases hg:b = .gone
    · subst hg;trivial
    · exact RB.later l (fun _ _ _=>rfl) (s.blk j b (get hb hg).2)
  · obtain ⟨h1,h2⟩:=s.live j b p (get hb hg).2 hg hp;refine ⟨h1,fun hs=>?_⟩
    rcases hs with hs | ⟨o,ho⟩
    · exact h2 hs
    · exact (get hb hg).1 (s.inj j k b _ p _ (get hb hg).2 hk hg hx hp ho rfl)
  · rcases hb with hb | ⟨o,ho⟩
    · exact s.stab b hb
    · exact s.rng k _ ho
  · rcases hb with hb | ⟨o,ho⟩
    · exact s.st1 b hb
    · exact .inr (s.live k _ _ hk hx ho).1
theorem DB {S:Nat→Prop}{w:World}{ρ:Pl}{k off:Nat}{cs:List AV}(hi:AV.idfL cs=true) (hb:RB S w ρ (ρ k) (.cells cs)){y:Value}(hy:R S w (.ptr k off) ρ y):R (fun c=>S c∨∃ o,ρ k=some (c,o)) w (.pr cs off) ρ y:=by
  simp only [RB] at hb;obtain ⟨b,o,ys,h1,h2,h3⟩:=hb;simp only [R] at hy ⊢;obtain ⟨b',o',h4,rfl⟩:=hy;rw [h1] at h4;cases h4;exact ⟨b,o,ys,rfl,.inr ⟨o,h1⟩,h2.lies,zK6 (fun _ h=>.inl h) (wP ρ _ _ _ hi h3)⟩
theorem RW {P:Program}{f:FuncId}{args cs:List AV}{fn:Fn}(hi:AV.idfL cs=true) (h:aT P f args [] (.clo fn [] [.ptr 0 0]) [.cells cs]):aT P f args [] (.clo fn [] [.pr cs 0]) []:=by
  refine ⟨h.1,fun ρ S w vs hs ha=>(h.2 ρ S w vs hs ha).mono ?_⟩;rintro e w' ⟨y,ρ',S',rfl,h2,h3⟩;simp only [R,RL] at h3;obtain ⟨ys,zs,rfl,h4,y2,z2,e2,h5,e3⟩:=h3;refine ⟨_,_,_,rfl,(h2.freezeC (k:=0) rfl (by simp)).none rfl,?_⟩
  unfold R;refine ⟨ys,zs,rfl,?_,?_⟩
  · simp only [RL];exact h4
  · rw [e2,e3];simp only [RL];refine ⟨y2,[],rfl,P4 ρ' _ _ _ rfl (DB hi (h2.blk 0 _ rfl) ?_),rfl⟩;simp only [R];exact h5
abbrev ints (l:List Int):List (List AV):=l.map fun n=>[AV.i n]
abbrev nats (l:List Nat):List Int:=l.map fun n:Nat=>(n:Int)
theorem dR (l:List Int):∀ e,e∈ints l→e.length=1:=by intro e he;obtain ⟨n,_,rfl⟩:=bA.1 he;rfl
theorem bJ (l:List Int):∀ e,e∈ints l→AV.idfL e=true:=by intro e he;obtain ⟨i,_,rfl⟩:=bA.1 he;rfl
theorem TL (l:List Int):AV.rfL (ints l).flatten=true:=by
  induction l with
  | nil=>rfl
  | cons c l ih=>exact ih
theorem CU (θ:Nat→Nat) (l:List Int):(ints l).map (AV.mapL θ)=ints l:=by
  rw [ES];rfl
theorem C1 (l:List Int):(ints l).flatten.all AV.one=true:=
  bK.2 fun x hx=>by obtain ⟨i,_,rfl⟩:=bA.1 ((uQ l)▸hx);rfl
theorem WK (l:List Int):AV.idfL (ints l).flatten=true:=by
  induction l with
  | nil=>rfl
  | cons c l ih=>exact ih
theorem sK {l:List Int}{j:Int}{i:Nat}(d:Int) (h:i<l.length) (e:j=i):(ints l)[j.toNat]? = some [AV.i (l.getD i d)]:=by
  subst e;rw [bP,bY,aA h,aD,aA h];rfl
theorem AK {l:List Int}{j:Int}{i:Nat}(d:Int) (h:i<l.length) (e:j=i):(ints l)[0+j.toNat]? = some [AV.i (l.getD i d)]:=by
  rw [Nat.zero_add];exact sK d h e
theorem TK {l:List Int}{j x:Int}{i:Nat}(e:j=i):(ints l).set (0+j.toNat) [AV.i x]=ints (l.set i x):=by
  subst e;rw [Nat.zero_add,bP,← oK]
theorem IV:∀ i:Nat,i<1→([0]:List Nat)[i]? = some i:=by decide
theorem BA (h:Hp):∀ l:List Int,mM h (ints l).flatten (ints l).flatten
  | []=>.nil
  | _::l=>.cons (.v _) (BA h l)
theorem wW {h:Hp}{k n:Nat}{l:List Int}(hk:h[k]? = some (.arr (ints l) 1)) (hn:n=l.length):oF h (.sl k 0 n 1) (.rowE (ints l) 1):=by
  subst hn;have:=oF.sl (h:=h) (k:=k) (off:=0) (len:=l.length) hk (by simp) (by rw [kG,bO (by simp)];exact BA h l)
  rwa [show l.length=(ints l).length by simp] at this ⊢
theorem jF {l:List (List AV)}{n:Nat}{x:List AV}(h:n=l.length):List.take n (List.drop 0 l)++[x]=l++[x]:=by
  rw [kG,h,cQ]
theorem T1 (l:List Int) (x:Int):ints l++[[AV.i x]]=ints (l++[x]):=by simp
theorem WE (l:List Nat) (x:Nat):ints (nats l)++[[AV.i (x:Int)]]=ints (nats (l++[x])):=by simp
theorem cY (l:List Int):(ints l).length=l.length:=aX _
end Go.Ab
namespace Go.Ab
open Go
set_option maxHeartbeats 1000000
theorem M9 (w:World):Sort.grow w #[]=w:=by simp [Sort.grow]
theorem zE2 {c:pA}{ρ:Pl}{S:Nat→Prop}{l:List Int}{w:World}{b o:Nat}(s:HS c ρ S [.arr (PB l) 1] w) (hp:ρ 0=some (b,o)) (hne:l≠[]):Sort.Holds (Value.int .i64) w b o l.toArray∧b<w.heap.size:=by
  obtain ⟨_,_,h3⟩:=s.blk 0 _ rfl;rcases h3 with h3 | ⟨b',o',ys,h4,h5,h6⟩
  · exact absurd (mS.1 h3.1) hne
  · rw [hp] at h4;cases h4;rw [uQ] at h6;have h6:=zL.1 h6;subst h6;obtain ⟨c,ty,hc,hg⟩:=h5;refine ⟨fun j hj=>?_,(aR.1 hc).1⟩;have hj:j<l.length:=by simpa using hj
    have:=hg j (.int .i64 l[j]) (by rw [bY,aA hj];rfl)
    refine ⟨?_,?_⟩
    · unfold World.cell?;simp only [hc];rw [if_neg (by simp),this]
      congr 2;rw [getElem!_pos _ j (by simpa using hj)]
      simp
    · unfold World.frozen?;simp only [hc];simp
theorem yB2 {c:pA}{ρ:Pl}{S:Nat→Prop}{l d:List Int}{w w':World}{b o n:Nat}{os:Array Obj}(s:HS c ρ S [.arr (PB l) 1] w) (hp:ρ 0=some (b,o)) (hne:l≠[]) (hl:d.length=l.length)
    (hw:w'=Sort.grow (Sort.putRow (Value.int .i64) (Sort.ahead w n) b o d.toArray) os):HS c ρ S [.arr (PB d) 1] w':=by
  obtain ⟨_,_,h3⟩:=s.blk 0 _ rfl;rcases h3 with h3 | ⟨b',o',ys,h4,h5,h6⟩
  · exact absurd (mS.1 h3.1) hne
  · rw [hp] at h4;cases h4;rw [uQ] at h6;have h6:=zL.1 h6;subst h6;obtain ⟨c,ty,hc,hg⟩:=h5;have hb:=(aR.1 hc).1;have hh:w'.heap[b]? = some (.cells (Sort.putCells (Value.int .i64) o d.toArray c) ty (0,0)):=by rw [hw];exact Q7 hc hb
    obtain ⟨s',_⟩:=s.upd (k:=0) (b0:=.arr (PB l) 1) (nb:=.arr (PB d) 1) (w':=w') rfl (by simp) hp (by rw [hw];exact BJ hc hb) (fun _=>by
      refine ⟨fun e he=>by obtain ⟨i,_,rfl⟩:=bA.1 he;rfl,OR,.inr ⟨b,o,d.map (Value.int .i64),rfl,⟨_,ty,hh,fun j y hj=>?_⟩,by rw [uQ];exact zL.2 rfl⟩⟩
      rw [bY] at hj;obtain ⟨z,hz,rfl⟩:=gY.1 hj;obtain ⟨hjl,hz⟩:=aB.1 hz;have hold:=hg j (.int .i64 (l[j]'(by omega))) (by rw [bY,aA (by omega)];rfl)
      unfold Sort.putCells;rw [KN,hold];show some (if o≤o+j∧o+j<o+d.toArray.size then _ else _)=_
      rw [if_pos ⟨by omega,by simpa using hjl⟩]
      congr 2;rw [show o+j-o=j by omega,getElem!_pos _ j (by simpa using hjl)]
      simpa using hz)
    exact s'
theorem KE {P : Program} {f : FuncId} (hfn : ∃ fn, P.funcs[f]? = some fn ∧ (fn.name == "runtime.NumGoroutine") = false ∧ fn.body.isNone = false)
    (hs:∀ (blk off cap i j:Nat) (zs:List Int) (w:World),Sort.Holds (Value.int .i64) w blk off zs.toArray→zs.length≤cap→cap≤9223372036854775807→i≤j→j≤zs.length →
      Calls P f #[.slice (some ⟨blk,off,none⟩) zs.length cap,.int .i64 i,.int .i64 j] w fun e w'=>e = .returned (.slice (some ⟨blk,off,none⟩) (zs.length-(j-i)) cap)∧∃ q,w'=Sort.putRow (Value.int .i64) (Sort.ahead w q) blk off (zs.take i++zs.drop j++List.replicate (j-i) 0).toArray)
    (l:List Int) (i j:Nat) (hij:i≤j) (hj:j≤l.length) (hne:l≠[]) :
    aT P f [.sl 0 0 l.length 1,.i (i:Int),.i (j:Int)] [.arr (PB l) 1] (.sl 0 0 (l.length-(j-i)) 1) [.arr (PB (l.take i++l.drop j)) 1]:=by
  refine ⟨hfn,fun ρ S w vs s hv=>?_⟩
  simp only [RL] at hv;obtain ⟨y,_,rfl,hy,y2,_,rfl,hy2,y3,_,rfl,hy3,rfl⟩:=hv;simp only [R] at hy hy2 hy3;subst hy2 hy3;obtain ⟨a,cap,rfl,hcap,hy⟩:=hy;have hl0:0<l.length:=fD.2 hne;rcases hy with ⟨h0,_⟩ | ⟨b,o,hp,ha,hcl,hrm⟩
  · omega
  · obtain ⟨hH,hb⟩:=zE2 s hp hne;rw [ER,Nat.add_zero] at ha;subst ha;have hmax:maxLen≤9223372036854775807:=by decide
    refine (hs b o cap i j l w hH hcl (by omega) hij hj).mono fun e w' ⟨he,n,hw⟩=>?_
    subst he;have s':=yB2 (n:=n) (os:=#[]) (w':=w') (d:=l.take i++l.drop j++List.replicate (j-i) 0) s hp hne (by simp only [aF,bH,dQ,List.length_replicate];omega) (by rw [M9];exact hw)
    have e2:PB (l.take i++l.drop j)=(PB (l.take i++l.drop j++List.replicate (j-i) 0)).take (l.take i++l.drop j).length:=by
      rw [← kY,qR (aU _),cQ]
    refine ⟨_,ρ,S,rfl,?_,?_⟩
    · have:=s'.alter (k:=0) (b1:=.arr (PB (l.take i++l.drop j)) 1) rfl (fun h=>by rw [e2];exact KH _ h) (by simp)
      exact this
    · have hE:=s'.ext;have hx:room w' b (o+(0+cap)*1):=by
        have hext:nU (fun _=>True) w w':=?_;exact hext.room hrm;rw [hw];have:=s.blk 0 _ rfl;obtain ⟨_,_,h3⟩:=this;rcases h3 with h3 | ⟨b',o',ys,h4,h5,h6⟩
        · exact absurd (mS.1 h3.1) hne
        · rw [hp] at h4;cases h4;obtain ⟨c,ty,hc,_⟩:=h5;have:=BJ (n:=n) (off:=o) (d:=l.take i++l.drop j++List.replicate (j-i) 0) (os:=#[]) hc hb;rw [M9] at this;exact this.mono fun _ _ _=>trivial
      simp only [R];exact ⟨_,cap,rfl,hcap,.inr ⟨b,o,hp,by simp,by omega,hx⟩⟩
end Go.Ab
namespace Go.Ab
open Go
end Go.Ab
namespace Go.Ab
open Go Go.MapKept
def zU (P:Program) (f:FuncId) (args:List AV) (hin:Hp) (Φ:AV→Hp→Prop):Prop:=
  (∃ fn, P.funcs[f]? = some fn ∧ (fn.name == "runtime.NumGoroutine") = false ∧ fn.body.isNone = false) ∧
  ∀ ρ S w vs,HS (nL w ρ S hin) ρ S hin w→RL S w args ρ vs →
    Calls P f vs.toArray w fun e w'=>∃ res hout,Φ res hout∧∃ y ρ' S',e = .returned y∧HS (nL w ρ S hin) ρ' S' hout w'∧R S' w' res ρ' y
theorem zU.mono {P:Program}{f:FuncId}{args:List AV}{hin:Hp}{Φ Ψ:AV→Hp→Prop}(h:zU P f args hin Φ) (hi:∀ r o,Φ r o→Ψ r o):zU P f args hin Ψ:=
  ⟨h.1,fun ρ S w vs hs ha=>(h.2 ρ S w vs hs ha).mono fun _ _ ⟨r,o,h1,h2⟩=>⟨r,o,hi r o h1,h2⟩⟩
section
variable {P:Program}{n:Nat × Nat}{ops:Array Oper}{rest:List Oper}{env:eE}{h:Hp}{K:eE→Hp→Prop}
variable {d:Option Nat}{ty:TypeId}{pos:String}{af:Array Edge}
theorem yG9 {x:Operand}{f:FuncId}{fs cs us xs:List AV}{args:List Operand}{ats:Array TypeId}{Ψ:AV→Prop}(hx:evu env x=some (.clo (.func f) fs cs)) (ha:xN env args=some us)
    (hc:zU P f xs [] (fun r o=>o=[]∧Ψ r)) (hv:mM h (fs++us++cs) xs) (hrf:∀ r,Ψ r→r.rf=true) (hd:GD d n=true)
    (hk:∀ r,Ψ r→VC P n ops rest (nA d r env) h K):VC P n ops (⟨d,.call { callee:=.value x,args:=args.toArray,argTypes:=ats },ty,pos,af,none⟩::rest) env h K:=by
  intro c ρ S a w Q s hQ;refine wpList_plain rfl fun K' hK'=>?_
  have p:=s.pre;have hxv:=p.evu hx;simp only [R] at hxv;obtain ⟨ys,zs,e1,h1,h2⟩:=hxv;have hall:RL S w (fs++us++cs) ρ (ys.toList++args.map a.eval++zs.toList):=iT (iT h1 (tW p ha)) h2;obtain ⟨hf,hc⟩:=hc;have hS1w:∀ b,(S b∨lA h ρ b)→b<w.heap.size:=fun b hb=>by
    rcases hb with hb | ⟨k,x,o,_,_,hb⟩
    · exact p.stab b hb
    · exact p.rng k _ hb
  have hargs:RL (fun b=>S b∨lA h ρ b) w xs (fun _=>none) (ys.toList++args.map a.eval++zs.toList):=lT p.blk hv hall;have hs0:HS (nL w (fun _=>none) (fun b=>S b∨lA h ρ b) []) (fun _=>none) (fun b=>S b∨lA h ρ b) [] w:=⟨fun _ _=>rfl,(fun _ _ h=>by cases h),(fun k b hb=>by simp at hb),(fun k b p hb=>by simp at hb),(fun k _ b _ _ _ hb=>by simp at hb),hS1w,nU.refl _ _,fun _ h=>h,fun _ h=>.inl h,aU _,(fun _ h=>by simp [nL] at h),p.glob.st fun b hb=>.inl hb⟩
  have hcall:=hc (fun _=>none) _ w _ hs0 hargs;unfold Oper.wp;have hrun:(execOp a.eval ⟨d,.call { callee:=.value x,args:=args.toArray,argTypes:=ats },ty,pos,af,none⟩).run P w = .ok (.enter f (ys.toList++args.map a.eval++zs.toList).toArray) w:=by
    have e2:(ys++(args.toArray.map a.eval)++zs)=(ys.toList++args.map a.eval++zs.toList).toArray:=by
      apply Array.ext';simp
    simp only [execOp,resolve,e1,Deferred.ofValue,Sem.run_bind,Sem.run_pure,Result.andThen_ok,invoke];rw [e2];exact xB hf
  rw [hrun];simp only [Oper.upon];refine hcall.mono ?_;rintro e w' ⟨res,hout,⟨rfl,hΨ⟩,y,ρ',S',rfl,hs,hy⟩;simp only;have hM:∀ b,(nL w (fun _=>none) (fun b=>S b∨lA h ρ b) []).M b→w.heap.size≤b:=fun b hb=>by
    rcases hb with hb | ⟨k,x,o,hb,_⟩
    · exact hb
    · simp at hb
  have hext:nU (fun _=>False) w w':=hs.ext.mono fun b hb hm=>by have:=hM b hm;simp [nL] at hb;omega
  have hρ:ρ'=fun _=>none:=funext fun k=>hs.dom k (bW _);subst hρ;have hpost:Z7 ρ ρ S S w w' h.length 0 res [] y:=by
    refine ⟨hext,rfl,fun _ _=>rfl,fun _ hb=>hb,fun _ hb=>.inl hb,fun k p h1 h2 _=>by omega,fun k k' p p' h1 h2 _ _ _=>by omega,?_,fun j b hb=>by simp at hb⟩
    exact nW (fun _ h=>h) (fun _ _=>rfl) res (fun _=>none) ρ y (fun _ _ h=>nomatch h) (fun _ _ _ _ h=>nomatch h) (XO _ _ _ (hrf _ hΨ) hy)
  have hsim:=s.post (d:=d) hd hpost;rw [List.append_nil] at hsim;exact hK' _ _ (hk _ hΨ c ρ S _ w' Q hsim hQ)
end
theorem zM1 {P:Program}{o:Oper}{a:Act}{w:World}{K:Act→World→Prop}{Q1 Q:Exit→Act→World→Prop}(hq:∀ e a w,Q1 e a w→e = .normal) (h:o.wp P a w K Q1):o.wp P a w K Q:=by
  unfold Oper.wp at *;generalize (execOp a.eval o).run P w=r at *;cases r with
  | ok n w'=>
    cases n with
    | enter f args=>
      simp only [Oper.upon] at *;refine h.mono fun e w''=>?_
      cases e with
      | returned v=>exact id
      | panicked c=>exact fun hh=>by have:=hq _ _ _ hh;cases this
      | outgrown=>exact fun ⟨_,_,hh⟩=>by have:=hq _ _ _ hh;cases this
    | _=>first | exact h | exact h.elim
  | halt x w'=>cases x <;> simp only [Oper.upon] at * <;> first | exact h | (have:=hq _ _ _ h;cases this)
section
variable {P:Program}{n:Nat × Nat}{ops:Array Oper}{env:eE}{h:Hp}{K:eE→Hp→Prop}{listed:Array Bool}{r:Nat}
theorem zI9 (hr:Region.ready .any ops listed=[]) (hk:K env h):Z0 P n ops listed r env h K:=
  fun _ _ _ _ _ _ s _ hQ=>wpAny_done hr (hQ _ _ _ _ _ _ hk s) r
theorem zI7 {rd:List Nat}(hr:Region.ready .any ops listed=rd) (hne:rd≠[]) (hk:∀ i,i∈rd→∃ o,ops[i]? = some o∧VC P n ops [o] env h (fun v h'=>Z0 P n ops (listed.setIfInBounds i true) r v h' K)):Z0 P n ops listed (r+1) env h K:=by
  intro c ρ S a w QQ s hq hQ;refine wpAny_all hr hne fun i hi=>?_
  obtain ⟨o,ho,hv⟩:=hk i hi;have h1:=hv c ρ S a w (fun e a' w'=>e = .normal∧wpAny P .any ops QQ r (listed.setIfInBounds i true) a' w') s (fun env' h' ρ' S' a' w' hK hs=>⟨rfl,hK c ρ' S' a' w' QQ hs hq hQ⟩);unfold wpOp;rw [ho];unfold wpList at h1;dsimp only at h1 ⊢;split at h1
  · rename_i hw;rw [if_pos hw];rcases h1 with h1 | ⟨_,a',w',h1⟩
    · exact .inl (zM1 (fun e a w h=>h.1) (Oper.wp_mono (fun a w h=>h.2) h1))
    · exact nomatch h1.1
  · rename_i hw;rw [if_neg hw];exact h1.2
def zE:Nat→List Oper→List (Nat × List Nat)
  | _,[]=>[]
  | i,o::l=>(i,(o.after.toList.filter fun e=>Region.binds .any e).map (·.on))::zE (i+1) l
def zY6 (b0:List Bool):List Nat→Bool
  | []=>true
  | d::ds=>match b0.getD d false with
    | true=>zY6 b0 ds
    | false=>false
def ME (b0:List Bool):List (Nat × List Nat)→List Bool→List Nat
  | (i,d)::ds,b::bs=>match b with
    | true=>ME b0 ds bs
    | false=>match zY6 b0 d with
      | true=>i::ME b0 ds bs
      | false=>ME b0 ds bs
  | _,_=>[]
theorem TB (b0:List Bool):∀ ds:List Nat,zY6 b0 ds=ds.all fun d=>b0.getD d false
  | []=>rfl
  | d::ds=>by
    unfold zY6;rw [A8,TB b0 ds];cases b0.getD d false <;> rfl
theorem ZQ (b0:List Bool) (i:Nat) (d:List Nat) (ds:List (Nat × List Nat)) (b:Bool) (bs:List Bool):ME b0 ((i,d)::ds) (b::bs)=if b=true then ME b0 ds bs else if zY6 b0 d=true then i::ME b0 ds bs else ME b0 ds bs:=by
  cases b <;> cases h:zY6 b0 d <;> simp [ME,h]
theorem ZP (l0:List Oper) (b0:List Bool):∀ (l:List Oper) (bs:List Bool) (i:Nat),l.length=bs.length→(∀ j,l[j]? = l0[i+j]?)→(∀ j,j<bs.length→bs[j]? = b0[i+j]?) →
    ME b0 (zE i l) bs=(List.range' i l.length).filter fun i=>!b0.toArray.getD i true&&((l0.toArray[i]?).map (·.after.all fun e=>!Region.binds .any e||b0.toArray.getD e.on false)).getD false
  | [],[],i,_,_,_=>rfl
  | o::l,b::bs,i,hl,h1,h2=>by
    have ih:=ZP l0 b0 l bs (i+1) (by simpa using hl) (fun j=>by rw [eB,qT 1 j];simpa using h1 (j+1)) (fun j hj=>by rw [eB,qT 1 j];simpa using h2 (j+1) (by simpa using hj))
    have e1:b0.toArray.getD i true=b:=by
      have:=h2 0 (by simp)
      simp only [eK,Nat.add_zero] at this;rw [dZ,jA,← this];rfl
    have e2:((l0.toArray[i]?).map (·.after.all fun e=>!Region.binds .any e||b0.toArray.getD e.on false)).getD false=zY6 b0 ((o.after.toList.filter fun e=>Region.binds .any e).map (·.on)):=by
      have:=h1 0;simp only [eK,Nat.add_zero] at this;rw [jA,← this,TB,List.all_map];simp only [G6,lO];rw [← Array.all_toList]
      induction o.after.toList with
      | nil=>rfl
      | cons e r ih=>
        rw [A8,zX6,ih];cases Region.binds .any e
        · simp
        · simp [dZ,aD]
    rw [List.length_cons,List.range'_succ,zX6,e1,e2,← ih];generalize hok:zY6 b0 ((o.after.toList.filter fun e=>Region.binds .any e).map (·.on))=q;have e3:=ZQ b0 i ((o.after.toList.filter fun e=>Region.binds .any e).map (·.on)) (zE (i+1) l) b bs;rw [show zE i (o::l)=(i,(o.after.toList.filter fun e=>Region.binds .any e).map (·.on))::zE (i+1) l from rfl,e3,hok]
    generalize ME b0 (zE (i+1) l) bs=u;cases b <;> cases q <;> rfl
  | [],_::_,_,hl,_,_=>by simp at hl
  | _::_,[],_,hl,_,_=>by simp at hl
theorem FU {l:List Oper}{b:List Bool}(hl:l.length=b.length):Region.ready .any l.toArray b.toArray=ME b (zE 0 l) b:=by
  rw [ZP l b l b 0 hl (fun j=>by rw [Nat.zero_add]) (fun j _=>by rw [Nat.zero_add])]
  unfold Region.ready;rw [D6];rfl
def A7 (P:Program) (n:Nat × Nat) (l:List Oper) (ds:List (Nat × List Nat)) (b:List Bool) (r:Nat) (env:eE) (h:Hp) (K:eE→Hp→Prop):Prop:=zE 0 l=ds→l.length=b.length→Z0 P n l.toArray b.toArray r env h K
section
variable {l:List Oper}{ds:List (Nat × List Nat)}{b:List Bool}
theorem G3 (hr:ME b ds b=[]) (hk:K env h):A7 P n l ds b r env h K:=fun hd hl=>by
  subst hd;exact zI9 ((FU hl).trans hr) hk
theorem G2 {rd:List Nat}(hr:ME b ds b=rd) (hne:rd≠[]) (hk:∀ i,i∈rd→∃ o,l[i]? = some o∧VC P n l.toArray [o] env h (fun v h'=>A7 P n l ds (b.set i true) r v h' K)):A7 P n l ds b (r+1) env h K:=fun hd hl=>
  zI7 ((FU hl).trans (by rw [hd];exact hr)) hne fun i hi=>by
    obtain ⟨o,ho,hv⟩:=hk i hi;refine ⟨o,by simpa using ho,hv.mono fun v g hg=>?_⟩
    have:=hg hd (by rw [gW];exact hl)
    rwa [← List.setIfInBounds_toArray] at this
theorem zJ3 {i:Nat}{o:Oper}(hr:ME b ds b=[i]) (ho:l[i]? = some o) (hk:VC P n l.toArray [o] env h (fun v h'=>A7 P n l ds (b.set i true) r v h' K)):A7 P n l ds b (r+1) env h K:=
  G2 hr (by simp) fun k hk2=>by simp only [bN,or_false,kS] at hk2;subst hk2;exact ⟨o,ho,hk⟩
theorem zJ2 {i j:Nat}{o o2:Oper}(hr:ME b ds b=[i,j]) (ho:l[i]? = some o) (ho2:l[j]? = some o2) (hk:VC P n l.toArray [o] env h (fun v h'=>A7 P n l ds (b.set i true) r v h' K)) (hk2:VC P n l.toArray [o2] env h (fun v h'=>A7 P n l ds (b.set j true) r v h' K)):A7 P n l ds b (r+1) env h K:=
  G2 hr (by simp) fun k hm=>by
    simp only [bN,kS,or_false] at hm;rcases hm with rfl | rfl
    · exact ⟨o,ho,hk⟩
    · exact ⟨o2,ho2,hk2⟩
theorem zJ1 {i j k3:Nat}{o o2 o3:Oper}(hr:ME b ds b=[i,j,k3]) (ho:l[i]? = some o) (ho2:l[j]? = some o2) (ho3:l[k3]? = some o3) (hk:VC P n l.toArray [o] env h (fun v h'=>A7 P n l ds (b.set i true) r v h' K)) (hk2:VC P n l.toArray [o2] env h (fun v h'=>A7 P n l ds (b.set j true) r v h' K)) (hk3:VC P n l.toArray [o3] env h (fun v h'=>A7 P n l ds (b.set k3 true) r v h' K)):A7 P n l ds b (r+1) env h K:=
  G2 hr (by simp) fun k hm=>by
    simp only [bN,kS,or_false] at hm;rcases hm with rfl | rfl | rfl
    · exact ⟨o,ho,hk⟩
    · exact ⟨o2,ho2,hk2⟩
    · exact ⟨o3,ho3,hk3⟩
theorem zJ0 {i j k3 k4:Nat}{o o2 o3 o4:Oper}(hr:ME b ds b=[i,j,k3,k4]) (ho:l[i]? = some o) (ho2:l[j]? = some o2) (ho3:l[k3]? = some o3) (ho4:l[k4]? = some o4) (hk:VC P n l.toArray [o] env h (fun v h'=>A7 P n l ds (b.set i true) r v h' K)) (hk2:VC P n l.toArray [o2] env h (fun v h'=>A7 P n l ds (b.set j true) r v h' K)) (hk3:VC P n l.toArray [o3] env h (fun v h'=>A7 P n l ds (b.set k3 true) r v h' K)) (hk4:VC P n l.toArray [o4] env h (fun v h'=>A7 P n l ds (b.set k4 true) r v h' K)):A7 P n l ds b (r+1) env h K:=
  G2 hr (by simp) fun k hm=>by
    simp only [bN,kS,or_false] at hm;rcases hm with rfl | rfl | rfl | rfl
    · exact ⟨o,ho,hk⟩
    · exact ⟨o2,ho2,hk2⟩
    · exact ⟨o3,ho3,hk3⟩
    · exact ⟨o4,ho4,hk4⟩
theorem UL (ds:List (Nat × List Nat)) (hd:zE 0 l=ds) (b:List Bool){listed:Array Bool}(hb:listed=b.toArray) (hl:l.length=b.length) (hk:A7 P n l ds b r env h K):Z0 P n l.toArray listed r env h K:=by
  subst hb;exact hk hd hl
end
theorem zI1 {code:Code}{Q:Exit→eE→Hp→Prop}(E:eE) (H:Hp) (hc:AW P n code env h (fun e v g=>e = .normal∧KQ n.2 v g E H)) (hk:∀ v g,KQ n.2 v g E H→Q .normal v g):AW P n code env h Q:=
  hc.mono fun e v g ⟨he,hs⟩=>by subst he;exact hk v g hs
end
theorem HS.view {c:pA}{ρ:Pl}{S:Nat→Prop}{h:Hp}{w:World}(s:HS c ρ S h w) (hm:c.m=0):HS c (fun _=>Option.none) (fun b=>S b∨lA h ρ b) [] w:=by
  refine ⟨fun _ _=>rfl,(fun _ _ h=>nomatch h),(fun k b hb=>by simp at hb),(fun k b p hb=>by simp at hb),(fun k _ b _ _ _ hb=>by simp at hb),fun b hb=>?_,s.ext,fun b hb=>.inl (s.st0 b hb),fun b hb=>?_,by rw [hm];exact bW _,(fun k hk=>by rw [hm] at hk;exact absurd hk (eG _)),s.glob.st fun b hb=>.inl hb⟩
  · rcases hb with hb | ⟨k,x,o,_,_,hb⟩
    · exact s.stab b hb
    · exact s.rng k _ hb
  · rcases hb with hb | ⟨k,x,o,h1,h2,h3⟩
    · exact s.st1 b hb
    · exact .inr (s.live k x _ h1 h2 h3).1
theorem K6 {P:Program}{f:FuncId}{args:List AV}{res res':AV}{hout:Hp}(h:aT P f args [] res hout) (hv:oF hout res res'):aT P f args [] res' []:=by
  refine ⟨h.1,fun ρ S w vs hs ha=>(h.2 ρ S w vs hs ha).mono ?_⟩;rintro e w' ⟨y,ρ',S',rfl,h2,h3⟩;exact ⟨y,_,_,rfl,h2.view rfl,AX h2.blk hv h3⟩
theorem zM3 {P:Program}{n:Nat × Nat}{ops:Array Oper}{rest:List Oper}{env:eE}{h:Hp}{K:eE→Hp→Prop}(t:Nat){x:AV}(x':AV) (hl:look env t=some x) (hw:∀ (S:Nat→Prop) w ρ y,R S w x ρ y→R S w x' ρ y) (hk:VC P n ops rest ((t,x')::env) h K):VC P n ops rest env h K:=by
  intro c ρ S a w Q s hQ;refine hk c ρ S a w Q ⟨s.size,s.defers,fun u y hu=>?_,s.hs,s.cm⟩ hQ
  rw [iF] at hu;split at hu
  · rename_i e;subst e;cases hu;exact hw _ _ _ _ (s.env _ _ hl)
  · exact s.env u y hu
section
variable {P:Program}{env:eE}{h:Hp}
variable {d:Option Nat}{ty:TypeId}{pos:String}{af:Array Edge}{g:Option (Nat × Bool)}
variable {t kt et:TypeId}{good:Value→Prop}{x y:Operand}{i:Nat}{kv:Value}{ks:List Value}{vs:List AV}{v:AV}
end
section
variable {P:Program}{env:eE}{h:Hp}
variable {d:Option Nat}{ty:TypeId}{pos:String}{af:Array Edge}{g:Option (Nat × Bool)}
variable {t kt et:TypeId}{good:Value→Prop}{x y:Operand}{k:Nat}{kv:Value}{ks:List Value}{vs:List AV}
end
section
variable {P:Program}{env:eE}{h:Hp}
theorem rK {n:Nat × Nat}{Q:Exit→eE→Hp→Prop}{id:Nat}{l:List Oper}(k nt:Nat) (presl pres:List (List Nat)) (ds:List Nat) (bads:List (List Nat)) (hm:P.follows .mixedOrders=true) (hn:n.1=nt) (hc:O7 l presl k=true) (hok:mG (l.take k) pres ds bads nt=true)
    (hv:DW P n (l.take k) pres ds bads (eI ds env) h 0 (eI ds env) [] (fun v h=>VC P n l.toArray (l.drop k) v h (fun v h=>Q .normal v h))) (hnd:nJ (l.take k)=true:=by rfl) (hnd2:nJ (l.drop k)=true:=by rfl):AW P n (.region id l.toArray true) env h Q:=by
  intro c ρ S a w QQ s hQ;have hkl:=(K1 hc).2.1;have hany:=U4 pres ds bads (by rw [hn];exact hok) hv c ρ S a w (fun e a w=>e = .normal∧wpListIn (rd c.r) 0 P l.toArray (fun e a w=>e = .normal∧QQ .normal a w) (l.drop k) a w) s fun env' h' ρ' S' a' w' kv s'=>
    ⟨rfl,wV (fun e a w h=>h.1) hnd2 (kv c ρ' S' a' w' _ s' fun env2 h2 ρ2 S2 a2 w2 k2 s2=>⟨rfl,hQ .normal env2 h2 ρ2 S2 a2 w2 k2 s2⟩)⟩
  have hrep:∀ m j,(Array.replicate m false).getD j false=false:=fun m j=>by
    simp only [Array.getD];split <;> simp
  refine wpIn_mono (wpIn_region_any (Q:=fun e a w=>e = .normal∧QQ .normal a w) hm (KA hc hnd (fun e a w h=>h.1) (fun a w h=>h.2) (l.take k).toArray.size l.toArray.size _ (Array.replicate (l.take k).toArray.size false) (List.range k) a _ (by simp) (by simp;omega) (fun j hj=>by rw [hrep,hrep]) (fun j hj=>hrep _ _) (fun i o ho hi=>by rw [hrep] at hi;cases hi) (fun j hj _=>eU.2 hj) (by simp;omega) (by simp;omega) hany)) fun e a w he=>by obtain ⟨rfl,h3⟩:=he;exact h3
end
end Go.Ab
namespace Go.Ab
open Go
set_option maxHeartbeats 1000000
theorem qX {z:Array Value}{zs:List Value}(hz:z.toList=zs) (hn:zs≠[]) (m:Nat):(∀ v,v∈(Builtin.zeroCells z m).toList→v∈zs)∧(Builtin.zeroCells z m).toList.length=m*zs.length:=by
  subst hz;have h0:0<z.size:=by
    rcases P7 z.size with h | h
    · exact absurd (by simpa using Array.size_eq_zero_iff.1 h) hn
    · exact h
  unfold Builtin.zeroCells;constructor
  · intro v hv;simp only [bA,Array.toList_ofFn,List.mem_ofFn,Array.toList_map,Array.toList_range] at hv;rcases hv with ⟨i,hi⟩
    first
      | (have hlt:=Nat.mod_lt i.1 h0;rw [getElem!_pos z _ hlt] at hi;rw [← hi];exact Array.mem_toList_iff.2 (Array.getElem_mem _))
      | (have hlt:=Nat.mod_lt i h0;rw [getElem!_pos z _ hlt] at hi;rw [← hi.2];exact Array.mem_toList_iff.2 (Array.getElem_mem _))
  · simp
section
variable {P:Program}{env:eE}{h:Hp}{n:Nat × Nat}{ops:Array Oper}{rest:List Oper}{K:eE→Hp→Prop}{ty:TypeId}{pos:String}{af:Array Edge}
theorem Q4 (T:oQ P){t e k off len sz:Nat}{i:TI}{x:Operand}{es:List (List AV)}(hx:evu env x=some (.sl k off len sz)) (ht:T.elem t=some e) (he:T.ti e=some i) (hz:i.zero.length=sz∧i.zero.all Value.oneCell'=true∧0<sz) (hkk:h[k]? = some (.arr es sz)) (hle:off+len≤es.length)
    (hk:VC P n ops rest env (h.set k (.arr (es.take off) sz)) K):VC P n ops (⟨none,.call { callee:=.builtin .clear,args:=#[x],argTypes:=#[t] },ty,pos,af,none⟩::rest) env h K:=by
  intro c ρ S a w Q s hQ;refine wpList_plain rfl fun K' hK'=>?_
  have p:=s.pre;have hxv:=p.evu hx;simp only [R] at hxv;obtain ⟨ad,cap,hev,_,hxv⟩:=hxv;obtain ⟨inf,z,t1,t2,t3,t4,t5,t6,t7⟩:=T.tiOk e i he;have hund:P.underlying t=some (.slice e):=T.elemOk _ _ ht;have hzv:∀ w,(zeroValue e).run P w = .ok z w:=fun w=>by simp [zeroValue,typeInfo,t1,t4]
  obtain ⟨hz1,hz2,hz3⟩:=hz;have hzc:=qX (z:=z.cells) t5 (fun h0=>by rw [h0] at hz1;simp at hz1;omega)
  have ev1:∀ r w',(Builtin.clear_ #[t] ty #[a.eval x]).run P w = .ok r w'→(execOp a.eval ⟨none,.call { callee:=.builtin .clear,args:=#[x],argTypes:=#[t] },ty,pos,af,none⟩).run P w = .ok (.value r) w':=fun r w' hr=>by
    simp [execOp,resolve,invoke,builtin,hr]
  have fin:∀ {r:Value} {w':World},(Builtin.clear_ #[t] ty #[a.eval x]).run P w = .ok r w'→HS c ρ S (h.set k (.arr (es.take off) sz)) w'∧iJ ρ ρ S S w w'→Oper.wp P ⟨none,.call { callee:=.builtin .clear,args:=#[x],argTypes:=#[t] },ty,pos,af,none⟩ a w K' Q:=fun {r w'} hr ⟨g1,g2⟩=>by
    unfold Oper.wp;rw [ev1 r w' hr];exact hK' _ _ (hk c ρ S _ _ Q ⟨by rw [nI];exact s.size,by rw [kX];exact s.defers.later g2,fun tt uu huu=>(s.env tt uu huu).later g2,g1,s.cm⟩ hQ)
  have stay:HS c ρ S (h.set k (.arr (es.take off) sz)) w∧iJ ρ ρ S S w w:=⟨s.hs.alter hkk (KH off) (by simp),⟨fun _ _ h=>h,fun _ h=>h,fun _ _=>rfl,fun _ _ _ _ _ h=>h⟩⟩
  cases len with
  | zero=>
    refine fin (r:=.tuple #[]) ?_ stay;rw [hev];cases ad <;> simp [Builtin.clear_,run_underlying hund]
  | succ m=>
    rcases hxv with ⟨h0,_⟩ | ⟨b,o,hp,ha,hlc,hroom⟩
    · cases h0
    · have hB:=p.blk k _ hkk;obtain ⟨hes,hs0,hB⟩:=hB;rcases hB with hB | ⟨b',o',ys,h4,⟨cc,ct,h5,h6⟩,h7⟩
      · obtain ⟨hB,_⟩:=hB;subst hB;simp at hle
      rw [hp] at h4;cases h4;have hyl:=gD h7;have hfl:=eP hes;have hmul:(off+(m+1))*sz≤es.length*sz:=fE _ hle;rw [eM] at hmul;have hpos:0<(m+1)*sz:=Nat.mul_pos (by omega) hz3
      have hlast:=h6 (ys.length-1) (ys[ys.length-1]'(by omega)) (aA _)
      have hsz:=(aR.1 hlast).1;obtain ⟨hzm,hzl⟩:=hzc (m+1);rw [hz1] at hzl;generalize hZ:(Builtin.zeroCells z.cells (m+1)).toList=Z at *;have hst:=run_storeCells_at P b (o+off*sz) ct Z 0 cc w h5 (by rw [hzl];omega) (by intro v hv;exact (bK.1 hz2) v (hzm v hv))
      subst ha;refine fin (r:=.tuple #[]) (w':=w.setRow b (cc.toList.take (o+off*sz+0)++Z++cc.toList.drop (o+off*sz+0+Z.length)).toArray) ?_ (s.hs.upd hkk (by simp) hp (sA h5 ?_) fun l=>?_)
      · rw [hev];simp only [Builtin.clear_];simp [run_underlying hund,hzv,hZ,hst]
      · simp;omega
      · refine ⟨fun e he=>hes e (dS he),hz3,.inr ⟨b,o,ys.take (off*sz),rfl,⟨_,ct,setRow_heap w b cc _ ct _ h5,fun j y hj=>?_⟩,?_⟩⟩
        · rw [cJ] at hj;split at hj
          · rename_i hjo;have:=h6 j y hj;have hjl:=(aR.1 this).1;rw [jA,bZ,aG (by simp;omega),cJ,if_pos (by omega)]
            simpa using this
          · cases hj
        · rw [F8 hes];exact rO (h7.later l) _
end
end Go.Ab
namespace Go.Ab
open Go Go.MapKept
section
variable {P:Program}{env:eE}{h:Hp}
variable {d:Option Nat}{ty:TypeId}{pos:String}{af:Array Edge}{g:Option (Nat × Bool)}
variable {n:Nat × Nat}{ops:Array Oper}{rest:List Oper}{K:eE→Hp→Prop}
variable {t kt et:TypeId}{good:Value→Prop}{x y z:Operand}{k i:Nat}{kv:Value}{ks:List Value}{vs:List AV}{v:AV}
theorem D4.erase {l:Array MapEntry}{ck i:Nat}(h:D4 l ck):D4 (l.eraseIdxIfInBounds i) ck:=by
  have e:(l.eraseIdxIfInBounds i).toList=l.toList.eraseIdx i:=by
    unfold Array.eraseIdxIfInBounds;split
    · simp
    · rename_i hh;rw [List.eraseIdx_of_length_le (by simpa using hh)]
  refine ⟨?_,fun q hq=>h.2 q (by rw [e] at hq;exact List.mem_of_mem_eraseIdx hq)⟩
  rw [e];have:(l.toList.eraseIdx i).map (·.born)=(l.toList.map (·.born)).eraseIdx i:=by
    apply kA;intro j;simp only [bY,List.getElem?_eraseIdx];split <;> simp
  rw [this];exact h.1.eraseIdx i
end
end Go.Ab
namespace Go.Ab
open Go
abbrev AV.s (l:List UInt8):AV:=.v (.string ⟨l.toArray⟩)
def zH3 (l:List UInt8):List (List AV):=l.map fun b=>[.v (.int .u8 b.toNat)]
@[simp] theorem bytesA_length (l:List UInt8):(zH3 l).length=l.length:=by simp [zH3]
def zX1 (P:Program) (t:TypeId):Prop:=P.underlying t=some .string
section
variable {P:Program}{env:eE}{h:Hp}
variable {d:Option Nat}{ty:TypeId}{pos:String}{af:Array Edge}{g:Option (Nat × Bool)}
variable {t t2:TypeId}{x y:Operand}{a b:List UInt8}
theorem WV (ht:zX1 P t){k:IntKind}{j:Int}(hx:evu env x=some (.s a)) (hy:evu env y=some (.v (.int k j))) (h0:0≤j){c:UInt8}(hc:a[j.toNat]? = some c):cD P ⟨d,.index t x y,ty,pos,af,g⟩ env h 0 (fun _=>.v (.int .u8 c.toNat)) (fun _=>[]):=by
  refine jH fun ρ S ac w p=>⟨.int .u8 c.toNat,?_,by simp [R]⟩
  have h1:=vB (p.evu hx);have h2:=vB (p.evu hy);have ht':P.underlying t=some .string:=ht;have hlt:j.toNat<a.length:=(aB.1 hc).1;have hs:j.toNat<(⟨a.toArray⟩:ByteArray).size:=by show _<a.toArray.size;simpa using hlt
  have e:(⟨a.toArray⟩:ByteArray)[j.toNat]'hs=c:=by
    have:=(aB.1 hc).2;rw [← this];rfl
  have hr:(Instr.index t (.string ⟨a.toArray⟩) (.int k j)).run P w = .ok (.int .u8 c.toNat) w:=by
    rw [run_index_string (P:=P) w t ⟨a.toArray⟩ k j ht',dif_pos ⟨h0,by omega⟩,e]
  simp [execOp,h1,h2,hr]
end
section
variable {P:Program}{env:eE}{h:Hp}
variable {d:Option Nat}{ty:TypeId}{pos:String}{af:Array Edge}{g:Option (Nat × Bool)}
def yI3 (l:List UInt8):List Value:=l.map fun b=>Value.int .u8 b.toNat
@[simp] theorem strV_length (l:List UInt8):(yI3 l).length=l.length:=by simp [yI3]
section
variable {n:Nat × Nat}{ops:Array Oper}{rest:List Oper}{K:eE→Hp→Prop}
end
end
def zZ2 (H:Hp) (pos:Nat):List AB→Hp
  | []=>H
  | b::_=>H.set pos b
theorem oM (A B:Hp) (b c:AB):(A++(c::B)).set A.length b=A++(b::B):=by
  rw [iZ _ _ (aU _),dY];rfl
def jE (P:Program) (o:Oper) (env:eE) (h:Hp) (pos k:Nat) (nb:AB) (x:AV) (new:List AB):Prop:=
  ∀ c ρ S a w H,HS c ρ S H w→HQ ρ S env h a w→(∀ (j:Nat) b,h[j]? = some b→b≠.gone→H[j]? = some b)→(new=[]∨(ρ pos=none∧H[pos]? = some .gone∧c.m≤pos))→∀ (K:Act→World→Prop) Q,
    (∀ y ρ' S' w',HS c ρ' S' (zZ2 (H.set k nb) pos new) w'→iJ ρ ρ' S S' w w'→R S' w' x ρ' y→(∀ j,(new≠[]→j≠pos)→ρ' j=ρ j)→K (a.put o.dst y) w')→o.wp P a w K Q
theorem jE.more {P:Program}{o:Oper}{env env':eE}{h:Hp}{pos k:Nat}{nb:AB}{x:AV}{new:List AB}(hs:jE P o env h pos k nb x new) (he:∀ t u,look env t=some u→look env' t=some u):jE P o env' h pos k nb x new:=
  fun c ρ S a w H g p=>hs c ρ S a w H g ⟨fun t u hu=>p.env t u (he t u hu),p.rng,p.blk,p.live,p.stab,p.glob⟩
theorem Y4.a {P:Program}{op:Op}{ty:TypeId}{ps:String}{af:Array Edge}{env:eE}{h:Hp}{pos k:Nat}{nb:AB}(hs:Y4 P ⟨none,op,ty,ps,af,none⟩ env h k nb):jE P ⟨none,op,ty,ps,af,none⟩ env h pos k nb (.v undef) []:=
  fun c ρ S a w H g p hb _ K Q hK=>hs c ρ S a w H g p hb K Q fun _ w' hh l=>hK undef ρ S w' hh l (lM _) (fun _ _=>rfl)
theorem vW.astep {P:Program}{n:Nat × Nat}{c:pA}{env:eE}{h h':Hp}{all:List nF}{L L':Nat→Bool}{ρ ρ':Pl}{S S':Nat→Prop}{a:Act}{w w':World}{i:Nat}{f:nF}{y:Value}(s:vW P n c env h all L ρ S a w)
    (hf:all[i]? = some f) (hL:∀ j,L' j=(L j||Nat.beq j i)) (hd:GD f.d n=true) (hnd:(jT all).Nodup) (henv:∀ t x,look env t=some x→t∉jT all)
    (hh:HS c ρ' S' (h'++kO L' 0 all) w') (hl:h'.length=h.length) (l:iJ ρ ρ' S S' w w') (hv:R S' w' f.x ρ' y) (hρ:∀ j,(f.new≠[]→j≠h.length+nC (all.take i))→ρ' j=ρ j) (hn1:f.new.length≤1) :
    vW P n c env h' all L' ρ' S' (a.put f.d y) w':=by
  have hil:i<all.length:=(aB.1 hf).1;have dst_ne:∀ {j:Nat} {g:nF} {t:Nat},all[j]? = some g→j≠i→g.d=some t→f.d≠some t:=fun {j g t} hg hne hgt hft=>by
    have key:∀ {l:List nF} {i j:Nat} {f g:nF},(jT l).Nodup→l[i]? = some f→l[j]? = some g→i<j→f.d=some t→g.d=some t→False:=by
      intro l
      induction l with
      | nil=>intro i j f g _ h1;simp at h1
      | cons e l ih=>
        intro i j f g hnd h1 h2 hij hf hg;have tail:(jT l).Nodup:=by
          unfold jT at hnd ⊢;rw [I3] at hnd;split at hnd
          · exact hnd
          · exact (fT.1 hnd).2
        cases j with
        | zero=>omega
        | succ j=>
          simp only [kT] at h2;cases i with
          | zero=>
            simp only [eK,Option.some.injEq] at h1;subst h1;unfold jT at hnd;rw [I3,hf] at hnd;exact (fT.1 hnd).1 (kN.2 ⟨g,aO h2,hg⟩)
          | succ i=>exact ih tail (by simpa using h1) h2 (by omega) hf hg
    rcases jL hne with h1 | h1
    · exact key hnd hg hf h1 hgt hft
    · exact key hnd hf hg h1 hft hgt
  have other:∀ {t:Nat},f.d≠some t→(a.put f.d y).tmps.getD t undef=a.tmps.getD t undef:=fun {t} ht=>by
    cases hfd:f.d with
    | none=>rfl
    | some d=>exact uS (fun e=>ht (by rw [hfd,e]))
  refine ⟨by rw [nI];exact s.size,by rw [kX];exact s.defers.later l,s.cm,fun t x hx=>?_,fun j g t hg hj ht=>?_,hh,fun j g hg hj k hk=>?_⟩
  · rw [other (fun e=>henv t x hx (kN.2 ⟨f,aO hf,e⟩))];exact (s.env0 t x hx).later l
  · by_cases hji:j=i
    · subst hji;rw [hf] at hg;cases hg;rw [ht] at hd ⊢;have hlt:t<a.tmps.size:=by rw [s.size];exact aH hd
      rw [wI hlt];exact hv
    · rw [other (dst_ne hg hji ht)];have hjL:L j=true:=by
        rw [hL] at hj;rcases iY.1 hj with hj | hj
        · exact hj
        · exact absurd (aS hj) hji
      exact (s.done j g t hg hjL ht).later l
  · have hjL:L j=false:=by rw [hL] at hj;exact (oL.1 hj).1
    have hji:j≠i:=fun e=>by rw [hL,e,fJ,xU] at hj;cases hj
    have:=s.undone j g hg hjL k hk;rw [hl];rw [hρ _ (fun hne e=>?_)];exact this;have lens_take:∀ (l:List nF) (a b:Nat) (f:nF),a<b→l[a]? = some f→nC (l.take a)+f.new.length≤nC (l.take b):=by
      intro l
      induction l with
      | nil=>intro a b f _ h;simp at h
      | cons e l ih=>
        intro a b f hab h;cases b with
        | zero=>omega
        | succ b=>
          cases a with
          | zero=>simp at h;subst h;simp [nC]
          | succ a=>simp only [pB,nC];have:=ih a b f (by omega) (by simpa using h);omega
    rcases jL hji with h1 | h1
    · have:=lens_take all j i g h1 hg;omega
    · have:=lens_take all i j f h1 hf;have h2:0<f.new.length:=fD.2 hne;omega
def yM5 (P:Program) (n:Nat × Nat) (ops:Array Oper) (pres:List (List Nat)) (ss:List (Nat × Nat)) (ds:List Nat) (env:eE) (h:Hp) (effs:List nF) (don:List AB) (K:eE→Hp→Prop):Prop:=
  ∃ more mb,(effs++more).length=pres.length∧(don++mb).length=ss.length∧jT (effs++more)=ds ∧
    (∀ i f pre,effs.length≤i→(effs++more)[i]? = some f→pres[i]? = some pre →
      ((∀ x,x∈ss→x.1≠i)∧HT P ops i (yA env ((effs++more).take i) pre) (seeH pres i pre ss (don++mb) h++kO (fun j=>pre.any (Nat.beq j)) 0 ((effs++more).take i)) f) ∨
      (∃ (m k:Nat) (b:AB) (o:Oper),ss[m]? = some (i,k)∧(don++mb)[m]? = some b∧o.dst=f.d∧f.new.length≤1∧ops[i]? = some o∧(o.guard=none∨∃ g want t,o.guard=some (g,want)∧(ops[g]?).bind (·.dst)=some t∧look (yA env ((effs++more).take i) pre) t=some (.b want))∧k<h.length∧jE P o (yA env ((effs++more).take i) pre) (seeH pres i pre ss (don++mb) h++kO (fun j=>pre.any (Nat.beq j)) 0 ((effs++more).take i)) (h.length+nC ((effs++more).take i)) k b f.x f.new)) ∧
    VC P n ops (ops.toList.drop pres.length) (yA env (effs++more) (List.range pres.length)) (eV (fun _=>true) ss (don++mb) h++kO (fun _=>true) 0 (effs++more)) K
theorem zH8 {P:Program}{n:Nat × Nat}{env:eE}{h:Hp}{Q:Exit→eE→Hp→Prop}{id:Nat}{l:List Oper}(pres:List (List Nat)) (ds:List Nat) (ss:List (Nat × Nat)) (hm:P.follows .mixedOrders=true) (hok:uO l.toArray pres=true) (hss:PA pres ss=true) (hssl:(ss.all fun x=>Nat.blt x.1 pres.length)=true) (hnd:ds.Nodup) (hds:(ds.all fun d=>Nat.blt d n.1)=true) (hsz:Nat.ble pres.length l.length=true)
    (hv:yM5 P n l.toArray pres ss ds (eI ds env) h [] [] (fun v h=>Q .normal v h)) (hndf:nJ l=true:=by rfl):AW P n (.region id l.toArray true) env h Q:=by
  intro c ρ S a w QX s hX;refine pF hm hndf ?_;have hQ:∀ (env':eE) (h':Hp) ρ' S' a' w',Q .normal env' h'→pX n c ρ' S' env' h' a' w'→(fun e a w=>e=Exit.normal∧QX Exit.normal a w) Exit.normal a' w':=fun env' h' ρ' S' a' w' k s'=>⟨rfl,hX .normal env' h' ρ' S' a' w' k s'⟩
  generalize (fun e a w=>e=Exit.normal∧QX Exit.normal a w)=QQ at hQ ⊢;obtain ⟨all,bs,h1,hbl,h2,h3,h4⟩:=hv;simp only [List.nil_append,List.length_nil,bW,true_implies] at h1 hbl h2 h3 h4;have hAT:∀ L:Nat→Bool,(∀ j,j<pres.length→L j=true)→eV L ss bs h=eV (fun _=>true) ss bs h:=fun L hL=>oO ss bs h fun x hx=>hL x.1 (by have:=bK.1 hssl x hx;exact aH this)
  have hple:pres.length≤l.toArray.size:=by simpa using aH hsz
  have henv:∀ t x,look (eI ds env) t=some x→look env t=some x∧t∉jT all:=fun t x hx=>by rw [h2];exact kW hx
  -- the first operations,in whatever order
  have key:∀ (fuel:Nat) (listed:Array Bool) (U:List Nat) (ρ:Pl) (S:Nat→Prop) (a:Act) (w:World),listed.size=l.toArray.size→(∀ j,j<l.toArray.size→listed.getD j false=false→j∈U)→U.length≤fuel→(∀ j,pres.length≤j→listed.getD j false=false) →
      (∀ (i:Nat) o,l.toArray[i]? = some o→listed.getD i false=true→∀ e,e∈o.after→Region.binds .any e=true→listed.getD e.on false=true) →
      vW P n c (eI ds env) (eV (fun j=>listed.getD j false) ss bs h) all (fun j=>listed.getD j false) ρ S a w→wpAny P .any l.toArray QQ fuel listed a w:=by
    intro fuel
    induction fuel with
    | zero=>
      intro listed U ρ S a w hls hU hUl htail hcl st;have hU0:U=[]:=cF (by omega)
      subst hU0;have hall:∀ j,j<l.toArray.size→listed.getD j false=true:=fun j hj=>by
        cases hb:listed.getD j false with
        | true=>rfl
        | false=>exact absurd (hU j hj hb) (by simp)
      have hpm:pres.length=l.toArray.size:=by
        rcases jO pres.length l.toArray.size with h5 | h5
        · have:=htail pres.length (aU _);rw [hall _ h5] at this;cases this
        · omega
      refine rW (k:=pres.length) (r:=0) hok _ _ a w (by omega) (aU _) (aU _) hls (fun j hj=>?_) (h4 c ρ S a w QQ ?_ fun env' h' ρ' S' a' w' k s'=>hQ env' h' ρ' S' a' w' k s')
      · rw [hall j hj];simp;omega
      · refine ⟨st.size,st.defers,fun t x hx=>?_,?_,st.cm⟩
        · rcases nG hx with hx | ⟨j,f,h5,h6,h7,rfl⟩
          · exact st.env0 t x hx
          · exact st.done j f t h6 (hall j (by have:=(aB.1 h6).1;omega)) h7
        · have:=st.hs
          rwa [mP (L:=fun j=>listed.getD j false) (L':=fun _=>true) all 0 (fun j _ hj=>hall j (by omega)),hAT _ (fun j hj=>hall j (by omega))] at this
    | succ fuel ih=>
      intro listed U ρ S a w hls hU hUl htail hcl st;by_cases hfl:∀ j,j<pres.length→listed.getD j false=true
      · -- all of the first ones have come up
        refine rW (k:=pres.length) (r:=l.toArray.size-pres.length) hok _ _ a w (by omega) (aU _) ?_ hls (fun j hj=>?_) (h4 c ρ S a w QQ ?_ fun env' h' ρ' S' a' w' k s'=>hQ env' h' ρ' S' a' w' k s')
        · have hsub:∀ j,j∈List.range' pres.length (l.toArray.size-pres.length)→j∈U:=fun j hj=>by
            rw [zL5] at hj;exact hU j (by omega) (htail j hj.1)
          have:=(zL4 (s:=pres.length) (n:=l.toArray.size-pres.length)).length_le_of_subset hsub;rw [XQ] at this;omega
        · by_cases hj':j<pres.length
          · rw [hfl j hj'];simp [hj']
          · rw [htail j (by omega)];simp;omega
        · refine ⟨st.size,st.defers,fun t x hx=>?_,?_,st.cm⟩
          · rcases nG hx with hx | ⟨j,f,h5,h6,h7,rfl⟩
            · exact st.env0 t x hx
            · exact st.done j f t h6 (hfl j (by have:=(aB.1 h6).1;omega)) h7
          · have:=st.hs
            rwa [mP (L:=fun j=>listed.getD j false) (L':=fun _=>true) all 0 (fun j _ hj=>hfl j (by omega)),hAT _ hfl] at this
      · obtain ⟨j0,hj0,hjf⟩:∃ j,j<pres.length∧listed.getD j false=false:=by
          apply Classical.byContradiction;intro hc;apply hfl;intro j hj;cases hb:listed.getD j false with
          | true=>rfl
          | false=>exact absurd ⟨j,hj,hb⟩ hc
        -- something is ready
        have hex:Region.ready .any l.toArray listed≠[]:=by
          have gQ:∃ j,j<pres.length∧listed.getD j false=false∧∀ k,k<j→listed.getD k false=true:=by
            have:∀ b j,j≤b→j<pres.length→listed.getD j false=false→∃ j,j<pres.length∧listed.getD j false=false∧∀ k,k<j→listed.getD k false=true:=by
              intro b
              induction b with
              | zero=>exact fun j hj h5 h6=>⟨j,h5,h6,fun k hk=>by omega⟩
              | succ b ihb=>
                intro j hj h5 h6;by_cases hk:∃ k,k<j∧listed.getD k false=false
                · obtain ⟨k,hk1,hk2⟩:=hk;exact ihb k (by omega) (by omega) hk2
                · refine ⟨j,h5,h6,fun k hk'=>?_⟩
                  cases hb:listed.getD k false with
                  | true=>rfl
                  | false=>exact absurd ⟨k,hk',hb⟩ hk
            exact this j0 j0 (aU _) hj0 hjf
          obtain ⟨j,h5,h6,h7⟩:=gQ;intro he;have hlt:j<l.toArray.size:=by omega
          have:j∈Region.ready .any l.toArray listed:=mem_ready.2 ⟨by
            have e:listed.getD j true=listed.getD j false:=by simp only [Array.getD,hls,hlt,dif_pos]
            rw [e,h6],_,dD hlt,fun e he hb=>h7 _ (lX hok (dD hlt) e he hb)⟩
          rw [he] at this;cases this
        refine ⟨fun h5=>absurd h5 hex,fun i hi=>?_⟩
        obtain ⟨g1,o,ho,hall⟩:=mem_ready.1 hi;have hil:i<l.toArray.size:=(aR.1 ho).1;have g1':listed.getD i false=false:=by
          have e:listed.getD i true=listed.getD i false:=by simp only [Array.getD,hls,hil,dif_pos]
          rw [← e];exact g1
        have him:i<pres.length:=by
          rcases jO i pres.length with h5 | h5
          · exact h5
          · obtain ⟨e,he,hb,hon⟩:=vJ hok ho h5 j0 (by omega)
            have:=hall e he hb;rw [hon,hjf] at this;cases this
        have hfi:all[i]? = some all[i]:=aA (by omega)
        obtain ⟨pre,hpre⟩:∃ pre,pres[i]? = some pre:=⟨_,aA him⟩
        -- its predecessors have come up
        have up:∀ (b k:Nat) (p:List Nat),k≤b→pres[k]? = some p→(k=i∨listed.getD k false=true)→∀ j,j∈p→listed.getD j false=true:=by
          intro b
          induction b with
          | zero=>
            intro k p hk hp _ j hj;obtain ⟨ok,hok1⟩:∃ o,l.toArray[k]? = some o:=⟨_,dD (by have:=(aB.1 hp).1;omega)⟩
            have:=(qD hok hok1 hp j hj).1;omega
          | succ b ihb=>
            intro k p hk hp hki j hj;obtain ⟨ok,hok1⟩:∃ o,l.toArray[k]? = some o:=⟨_,dD (by have:=(aB.1 hp).1;omega)⟩
            obtain ⟨_,e,he,hb,hor⟩:=qD hok hok1 hp j hj;have hle:listed.getD e.on false=true:=by
              rcases hki with rfl | hki
              · rw [ho] at hok1;cases hok1;exact hall e he hb
              · exact hcl k ok hok1 hki e he hb
            rcases hor with hor | hor
            · rw [← hor];exact hle
            · have hon:=lX hok hok1 e he hb;cases hpe:pres[e.on]? with
              | none=>rw [aD,hpe] at hor;simp at hor
              | some p'=>
                rw [aD,hpe] at hor;exact ihb e.on p' (by omega) hpe (.inr hle) j hor
        have hprel:∀ j,j∈pre→listed.getD j false=true:=up i i pre (aU _) hpre (.inl rfl);have hH0:(eV (fun j=>listed.getD j false) ss bs h).length=h.length:=oE _ _ _ _;have hhv:(seeH pres i pre ss bs h).length=h.length:=uL _ _ _ _ _;have hbel:∀ (k:Nat) b,(seeH pres i pre ss bs h)[k]? = some b→b≠.gone→(eV (fun j=>listed.getD j false) ss bs h)[k]? = some b:=by
          refine R0 ss bs h h hbl rfl (fun _ _ hb _=>hb) (fun x _ hp=>hprel _ (oP.1 hp)) (fun x hx _ hbf=>?_);cases hlx:listed.getD x.1 false with
          | false=>rfl
          | true=>
            rcases iY.1 hbf with h5 | h5
            · rw [aS h5,g1'] at hlx;cases hlx
            · cases hpx:pres[x.1]? with
              | none=>rw [aD,hpx] at h5;simp at h5
              | some px=>
                rw [aD,hpx] at h5;have:=up x.1 x.1 px (aU _) hpx (.inr hlx) i (oP.1 h5);rw [g1'] at this;cases this
        have hbel2:∀ (k:Nat) b,(seeH pres i pre ss bs h++kO (fun j=>pre.any (Nat.beq j)) 0 (all.take i))[k]? = some b→b≠.gone→(eV (fun j=>listed.getD j false) ss bs h++kO (fun j=>listed.getD j false) 0 all)[k]? = some b:=fun k b hb hgb=>by
          by_cases hk:k<h.length
          · rw [aG (by omega)] at hb ⊢;exact hbel k b hb hgb
          · rw [aE (by omega)] at hb ⊢
            rw [hhv] at hb;rw [hH0];have h5:=L9 (L':=fun j=>listed.getD j false) _ _ _ _ (fun j hj=>hprel j (oP.1 hj)) hb hgb;have h6:kO (fun j=>listed.getD j false) 0 all=kO (fun j=>listed.getD j false) 0 (all.take i)++kO (fun j=>listed.getD j false) (0+(all.take i).length) (all.drop i):=by
              rw [← rX,bS]
            rw [h6,aG (aB.1 h5).1];exact h5
        have hpreP:HQ ρ S (yA (eI ds env) (all.take i) pre) (seeH pres i pre ss bs h++kO (fun j=>pre.any (Nat.beq j)) 0 (all.take i)) a w:=by
          refine ⟨fun t x hx=>?_,st.hs.rng,fun k b hb=>?_,fun k b p hb hgb hp=>(st.hs.live k b p (hbel2 k b hb hgb) hgb hp).2,st.hs.stab,st.hs.glob⟩
          · rcases nG hx with hx | ⟨j,f,h5,h6,h7,rfl⟩
            · exact st.env0 t x hx
            · rw [cJ] at h6;split at h6
              · exact st.done j f t h6 (hprel j h5) h7
              · cases h6
          · by_cases hgb:b = .gone
            · subst hgb;trivial
            · exact st.hs.blk k b (hbel2 k b hb hgb)
        have hposl:(seeH pres i pre ss bs h++kO (fun j=>pre.any (Nat.beq j)) 0 (all.take i)).length=(eV (fun j=>listed.getD j false) ss bs h).length+nC (all.take i):=by rw [aF,mZ,hhv,hH0]
        have hokd:GD all[i].d n=true:=by
          cases hdi:all[i].d with
          | none=>rfl
          | some d=>
            have:d∈ds:=by rw [← h2];exact kN.2 ⟨all[i],aM _,hdi⟩
            exact bK.1 hds d this
        -- on,kP it
        have hget:∀ j,(listed.setIfInBounds i true).getD j false=(listed.getD j false||Nat.beq j i):=fun j=>by
          by_cases hij:i=j
          · subst hij;rw [fJ,xU];simp only [Array.getD,AA,hls,hil,dif_pos];simp
          · rw [getD_set_ne false hij,show Nat.beq j i=false from by rw [← eS];intro hb;have:=aS hb;omega,kZ]
        have onS:∀ ρ' S' a' w',vW P n c (eI ds env) (eV (fun j=>(listed.setIfInBounds i true).getD j false) ss bs h) all (fun j=>(listed.setIfInBounds i true).getD j false) ρ' S' a' w'→wpAny P .any l.toArray QQ fuel (listed.setIfInBounds i true) a' w':=fun ρ' S' a' w' st'=>by
          have hiU:i∈U:=hU i hil g1';refine ih (listed.setIfInBounds i true) (U.erase i) ρ' S' _ w' (by simpa using hls) (fun j hj hjl=>?_) (by rw [lS hiU];omega) (fun j hj=>?_) (fun k ok hok1 hkl e he hb=>?_) st'
          · rw [hget] at hjl;obtain ⟨h5,h6⟩:=oL.1 hjl;have hne:j≠i:=fun e=>by rw [e,fJ] at h6;cases h6
            exact (mJ hne).2 (hU j hj h5)
          · rw [hget,htail j hj,show Nat.beq j i=false from by rw [← eS];intro hb;have:=aS hb;omega];rfl
          · rw [hget] at hkl ⊢;rcases iY.1 hkl with h5 | h5
            · rw [hcl k ok hok1 h5 e he hb];rfl
            · have:=aS h5;subst this;rw [ho] at hok1;cases hok1;rw [hall e he hb];rfl
        have yv:∀ {g t:Nat} {b:Bool},(l.toArray[g]?).bind (·.dst)=some t→look (yA (eI ds env) (all.take i) pre) t=some (.b b)→yielded l.toArray a.tmps g=some b:=fun {g t b} h5 h6=>by
          have h7:=vB (hpreP.env t _ h6);unfold yielded;rw [h5];have:a.tmps[t]? = some (.bool b):=by
            rw [dZ] at h7;cases h8:a.tmps[t]? with
            | none=>rw [h8] at h7;simp [undef] at h7
            | some v=>rw [h8] at h7;simp at h7;rw [h7]
          simp [this]
        have yvu:∀ {g t:Nat},(l.toArray[g]?).bind (·.dst)=some t→look (yA (eI ds env) (all.take i) pre) t=some (.v undef)→yielded l.toArray a.tmps g=none:=fun {g t} h5 h6=>by
          have h7:=vB (hpreP.env t _ h6);unfold yielded;rw [h5];rw [dZ] at h7;cases h8:a.tmps[t]? with
          | none=>simp [h8]
          | some v=>rw [h8] at h7;simp at h7;simp [h8,h7,undef]
        unfold wpOp;rw [ho];simp only;rcases h3 i all[i] pre hfi hpre with ⟨hns,o',ho',hd',hg⟩ | ⟨m,k,b,o',hm1,hm2,hdd,hn1,ho',hgu,hkl,hst⟩
        · rw [ho] at ho';cases ho';have hsame:eV (fun j=>(listed.setIfInBounds i true).getD j false) ss bs h=eV (fun j=>listed.getD j false) ss bs h:=oO ss bs h fun x hx=>by
            rw [hget,show Nat.beq x.1 i=false from by rw [← eS];intro hb;exact hns x hx (aS hb),kZ]
          have on:∀ y ρ' S' w',Z7 ρ ρ' S S' w w' ((eV (fun j=>listed.getD j false) ss bs h).length+nC (all.take i)) all[i].new.length all[i].x all[i].new y→wpAny P .any l.toArray QQ fuel (listed.setIfInBounds i true) (a.put all[i].d y) w':=fun y ρ' S' w' p=>by
            have:=st.step (L':=fun j=>(listed.setIfInBounds i true).getD j false) hfi g1' hget p hokd (by rw [h2];exact hnd) (fun t x hx=>(henv t x hx).2) (by rw [hH0];exact s.hs.mle)
            rw [← hsame] at this;exact onS _ _ _ _ this
          rcases hg with ⟨x,new,hgu,hfs,hx,hn⟩ | ⟨g,want,t,hgu,h5,h6,hx,hn⟩
          · have hw:Region.wanted o (yielded l.toArray a.tmps)=true:=by
              rcases hgu with hgu | ⟨g,want,t,hgu,h5,h6⟩
              · exact nX hgu
              · simp [Region.wanted,hgu,yv h5 h6]
            rw [if_pos hw];left;have:=hfs ρ S a w hpreP (seeH pres i pre ss bs h++kO (fun j=>pre.any (Nat.beq j)) 0 (all.take i)).length (fun j hj=>by rw [hposl];exact st.undone i _ hfi g1' j hj)
            refine this (wpAny P .any l.toArray QQ fuel (listed.setIfInBounds i true)) QQ fun y ρ' S' w' p=>?_
            rw [hx,hn,hposl] at p;have:=on y ρ' S' w' p;rw [← hd'] at this;exact this
          · have hw:Region.wanted o (yielded l.toArray a.tmps)=false:=by
              rcases h6 with h6 | h6
              · simp [Region.wanted,hgu,yv h5 h6]
              · simp [Region.wanted,hgu,yvu h5 h6]
            rw [if_neg (by rw [hw];exact lQ)]
            have:=on undef ρ S w ⟨nU.refl _ _,rfl,fun _ _=>rfl,fun _ h=>h,fun _ h=>.inl h,fun k p hk1 hk2=>by rw [hn,List.length_nil] at hk2;omega,fun k k' p p' hk1 hk2=>by rw [hn,List.length_nil] at hk2;omega,by rw [hx];exact lM _,fun j b hb=>by rw [hn] at hb;simp at hb⟩
            rw [← hd'] at this;exact this
        · rw [ho] at ho';cases ho';have hw:Region.wanted o (yielded l.toArray a.tmps)=true:=by
            rcases hgu with hgu | ⟨g,want,t,hgu,h5,h6⟩
            · exact nX hgu
            · simp [Region.wanted,hgu,yv h5 h6]
          rw [if_pos hw];left;have hap:(eV (fun j=>listed.getD j false) ss bs h).set k b=eV (fun j=>(listed.setIfInBounds i true).getD j false) ss bs h:=by
            rw [K4 (L:=fun j=>listed.getD j false) (L':=fun j=>(listed.setIfInBounds i true).getD j false) ss bs h m hss hm1 hm2 g1' hget (fun x hx hlx j hj=>?_)];cases hpx:pres[x.1]? with
            | none=>rw [aD,hpx] at hj;simp at hj
            | some px=>
              rw [aD,hpx] at hj;exact up x.1 x.1 px (aU _) hpx (.inr hlx) j hj
          have hil2:i<all.length:=(aB.1 hfi).1;have hsplit:all=all.take i++all[i]::all.drop (i+1):=by
            have:=bS i all;rw [aY hil2] at this;exact this.symm
          have hti:(all.take i).length=i:=by rw [bH];omega
          have sL:∀ M:Nat→Bool,kO M 0 all=kO M 0 (all.take i)++((match M i with | true=>all[i].new | false=>List.replicate all[i].new.length .gone)++kO M (i+1) (all.drop (i+1))):=fun M=>by
            conv=>lhs;rw [hsplit]
            rw [rX,hti,Nat.zero_add];rfl
          have e1:kO (fun j=>(listed.setIfInBounds i true).getD j false) 0 (all.take i)=kO (fun j=>listed.getD j false) 0 (all.take i):=mP _ _ fun j _ hj=>by
            rw [hti] at hj;show (listed.setIfInBounds i true).getD j false=_;rw [hget,show Nat.beq j i=false from by rw [← eS];intro hb;have:=aS hb;omega,kZ]
          have e2:kO (fun j=>(listed.setIfInBounds i true).getD j false) (i+1) (all.drop (i+1))=kO (fun j=>listed.getD j false) (i+1) (all.drop (i+1)):=mP _ _ fun j hj _=>by
            show (listed.setIfInBounds i true).getD j false=_;rw [hget,show Nat.beq j i=false from by rw [← eS];intro hb;have:=aS hb;omega,kZ]
          have hLi:(listed.setIfInBounds i true).getD i false=true:=by rw [hget,fJ,xU]
          have hlen:=mZ (fun j=>listed.getD j false) 0 (all.take i);have hA:eV (fun j=>listed.getD j false) ss bs h++kO (fun j=>listed.getD j false) 0 all=(eV (fun j=>listed.getD j false) ss bs h++kO (fun j=>listed.getD j false) 0 (all.take i))++(List.replicate all[i].new.length .gone++kO (fun j=>listed.getD j false) (i+1) (all.drop (i+1))):=by rw [sL (fun j=>listed.getD j false)];simp only [g1',bZ]
          have hB:eV (fun j=>(listed.setIfInBounds i true).getD j false) ss bs h++kO (fun j=>(listed.setIfInBounds i true).getD j false) 0 all=(eV (fun j=>(listed.setIfInBounds i true).getD j false) ss bs h++kO (fun j=>listed.getD j false) 0 (all.take i))++(all[i].new++kO (fun j=>listed.getD j false) (i+1) (all.drop (i+1))):=by rw [sL (fun j=>(listed.setIfInBounds i true).getD j false)];simp only [hLi,e1,e2,bZ]
          have hsetk:(eV (fun j=>listed.getD j false) ss bs h++kO (fun j=>listed.getD j false) 0 all).set k b=(eV (fun j=>(listed.setIfInBounds i true).getD j false) ss bs h++kO (fun j=>listed.getD j false) 0 (all.take i))++(List.replicate all[i].new.length .gone++kO (fun j=>listed.getD j false) (i+1) (all.drop (i+1))):=by
            rw [hA,bZ,OT _ _ (by rw [hH0];exact hkl),hap,bZ]
          have hfill:zZ2 ((eV (fun j=>listed.getD j false) ss bs h++kO (fun j=>listed.getD j false) 0 all).set k b) (h.length+nC (all.take i)) all[i].new=eV (fun j=>(listed.setIfInBounds i true).getD j false) ss bs h++kO (fun j=>(listed.setIfInBounds i true).getD j false) 0 all:=by
            rw [hsetk,hB];have hpl:(eV (fun j=>(listed.setIfInBounds i true).getD j false) ss bs h++kO (fun j=>listed.getD j false) 0 (all.take i)).length=h.length+nC (all.take i):=by rw [aF,oE,hlen]
            match hnw:all[i].new,hn1 with
            | [],_=>rfl
            | [q],_=>
              show List.set _ _ _=_;rw [← hpl];exact oM _ _ _ _
            | _::_::_,h9=>exact absurd h9 (by simp)
          refine hst c ρ S a w _ st.hs hpreP hbel2 ?_ (wpAny P .any l.toArray QQ fuel (listed.setIfInBounds i true)) QQ fun y ρ' S' w' hh l' hv hρ=>?_
          · by_cases hnw:all[i].new=[]
            · exact .inl hnw
            · have hpos:0<all[i].new.length:=fD.2 hnw;refine .inr ⟨by have:=st.undone i _ hfi g1' 0 hpos;rwa [Nat.add_zero,hH0] at this,?_,by have:=s.hs.mle;omega⟩
              rw [hA,aE (by rw [aF,hlen,hH0];omega),aF,hlen,hH0,dY,aG (by simpa using hpos)]
              simp [pQ,hpos]
          · rw [hfill] at hh;have:=st.astep (h':=eV (fun j=>(listed.setIfInBounds i true).getD j false) ss bs h) (L':=fun j=>(listed.setIfInBounds i true).getD j false) hfi hget hokd (by rw [h2];exact hnd) (fun t x hx=>(henv t x hx).2) hh (by rw [oE,oE]) l' hv (fun j hj=>?_) hn1
            · rw [hdd];exact onS _ _ _ _ this
            · exact hρ j (by rw [hH0] at hj;exact hj)
  have hsize:l.toArray.size=l.length:=by simp
  have hrep:∀ j,(Array.replicate l.toArray.size false).getD j false=false:=fun j=>by
    simp only [Array.getD];split <;> simp
  refine key l.toArray.size _ (List.range l.toArray.size) ρ S a _ (by simp) (fun j hj _=>by simpa using hj) (by simp) (fun j _=>hrep j) (fun i o _ hi=>by rw [hrep] at hi;cases hi) ?_
  have hseg:∀ (r:List nF) (i:Nat),kO (fun _=>false) i r=List.replicate (nC r) .gone:=by
    intro r
    induction r with
    | nil=>intro i;rfl
    | cons f r ih=>intro i;simp only [kO,ih,nC,zM]
  have hL:(fun j=>(Array.replicate l.toArray.size false).getD j false)=fun _=>false:=funext hrep
  rw [hL,show eV (fun _=>false) ss bs h=h from ?_]
  rotate_left
  · have:∀ (ss:List (Nat × Nat)) (bs:List AB) (h:Hp),eV (fun _=>false) ss bs h=h:=by
      intro ss
      induction ss with
      | nil=>intros;rfl
      | cons x r ihr=>
        intro bs h;cases bs with
        | nil=>rfl
        | cons b bs=>simp only [eV];exact ihr bs h
    exact this ss bs h
  have l0:iJ ρ ρ S S w { w with drawn:=w.drawn+1 }:=⟨fun _ _ h=>h,fun _ h=>h,fun _ _=>rfl,fun _ _ _ _ _ h=>h⟩
  refine ⟨s.size,s.defers.later l0,s.cm,fun t x hx=>(s.env t x (kW hx).1).later l0,fun i f t _ hi=>(by cases hi),?_,fun i f _ _ j _=>s.hs.dom _ (by omega)⟩
  rw [hseg];have ext:nU c.M c.w0 { w with drawn:=w.drawn+1 }:=s.hs.ext.drew;have at_:∀ {k:Nat} {b:AB},(h++List.replicate (nC all) .gone)[k]? = some b→b≠.gone→h[k]? = some b:=fun {k b} hb hg=>by
    by_cases hk:k<h.length
    · rwa [aG hk] at hb
    · rw [aE (by omega),pQ] at hb
      split at hb
      · cases hb;exact absurd rfl hg
      · cases hb
  refine ⟨fun k hk=>s.hs.dom k (by simp at hk;omega),s.hs.rng,fun k b hb=>?_,fun k b p hb hg hp=>s.hs.live k b p (at_ hb hg) hg hp,fun k k' b b' p p' hb hb' hg hg' hp hp' e=>s.hs.inj k k' b b' p p' (at_ hb hg) (at_ hb' hg') hg hg' hp hp' e,s.hs.stab,ext,s.hs.st0,s.hs.st1,by simp;exact bG s.hs.mle (iV _ _),s.hs.keep,s.hs.glob.later l0⟩
  by_cases hg:b = .gone
  · subst hg;trivial
  · exact RB.later l0 (fun _ _ _=>rfl) (s.hs.blk k b (at_ hb hg))
def KM (P:Program) (n:Nat × Nat) (ops:List Oper) (pres:List (List Nat)) (ds:List Nat) (bads:List (List Nat)) (ss:List (Nat × Nat)) (env:eE) (h:Hp) (i:Nat) (cur:eE) (objs:List (Nat × Hp)) (don:List AB) (K:eE→Hp→Prop):Prop:=
  jV ops pres ds bads ss n.1=true→(∀ t,t∈ds→look env t=none)→∀ effs,P9 ops ss env i cur objs don effs→yM5 P n ops.toArray pres ss ds env h effs don K
section
variable {P:Program}{n:Nat × Nat}{ops:List Oper}{pres:List (List Nat)}{ds:List Nat}{bads:List (List Nat)}{ss:List (Nat × Nat)}{env:eE}{h:Hp}{K:eE→Hp→Prop}{pre bad:List Nat}
theorem zH9 {Q:Exit→eE→Hp→Prop}{id:Nat}{l:List Oper}(pres:List (List Nat)) (ds:List Nat) (bads:List (List Nat)) (ss:List (Nat × Nat)) (hm:P.follows .mixedOrders=true) (hok:jV l pres ds bads ss n.1=true)
    (hv:KM P n l pres ds bads ss (eI ds env) h 0 (eI ds env) [] [] (fun v h=>Q .normal v h)) (hndf:nJ l=true:=by rfl):AW P n (.region id l.toArray true) env h Q:=by
  have hok':=hok;simp only [jV,mG,aN,decide_eq_true_eq] at hok';obtain ⟨⟨⟨⟨⟨⟨⟨h1,h2⟩,h3⟩,h4⟩,h5⟩,h6⟩,h7⟩,h8⟩:=hok';refine zH8 pres ds ss hm h1 h7 h8 h2 h3 h4 (hv hok (fun t ht=>?_) [] ⟨⟨rfl,rfl,rfl,fun j f hf=>by simp at hf⟩,fun x _=>bW _⟩) hndf
  cases hl:look (eI ds env) t with
  | none=>rfl
  | some x=>exact absurd ht (kW hl).2
variable {op:Op}{ty:TypeId}{pos:String}{af:Array Edge}{d:Option Nat}{i:Nat}{cur:eE}{objs:List (Nat × Hp)}{don:List AB}
theorem O1 {effs:List nF}{f:nF}(hok:jV ops pres ds bads ss n.1=true) (g:P9 ops ss env i cur objs don effs) (hp:pres[i]? = some pre) (hi:i<ops.length) (hns:(ss.all fun x=>!Nat.beq x.1 i)=true)
    (hg:HT P ops.toArray i (yA env effs pre) (seeH pres i pre ss don h++mF pre objs) f) (hk:yM5 P n ops.toArray pres ss ds env h (effs++[f]) don K):yM5 P n ops.toArray pres ss ds env h effs don K:=by
  obtain ⟨more,mb,h1,h0,h2,h3,h4⟩:=hk;have e:effs++[f]++more=effs++(f::more):=by simp
  rw [e] at h1 h2 h3 h4;have hie:effs.length=i:=g.g.len;refine ⟨f::more,mb,h1,h0,h2,fun j q p hj hgj hpj=>?_,h4⟩
  by_cases hji:j=i
  · subst hji;rw [hp] at hpj;cases hpj;rw [aE (by omega),hie,dY] at hgj
    simp at hgj;subst hgj;left;refine ⟨fun x hx hxe=>?_,?_⟩
    · have:=bK.1 hns x hx;rw [hxe,fJ] at this;cases this
    · rw [jP,bO (by omega),hie,dY,g.seeH hok hi hp mb]
      simp only [jM,List.append_nil];rw [lK,← g.g.objs];exact hg
  · exact h3 j q p (by simp;omega) hgj hpj
theorem cH {dd:Nat}{u:AV}(ho:ops[i]? = some ⟨some dd,op,ty,pos,af,none⟩) (hp:pres[i]? = some pre) (hb:bads[i]? = some bad) (hns:(ss.all fun x=>!Nat.beq x.1 i)=true) (hs:cD P ⟨some dd,op,ty,pos,af,none⟩ (eI bad cur) (seeH pres i pre ss don h++mF pre objs) 0 (fun _=>u) (fun _=>[]))
    (hk:KM P n ops pres ds bads ss env h (i+1) ((dd,u)::cur) objs don K):KM P n ops pres ds bads ss env h i cur objs don K:=by
  intro hok hen effs g;refine O1 (f:=⟨some dd,u,[]⟩) hok g hp (aB.1 ho).1 hns ⟨_,by simpa using ho,rfl,.inl ⟨fun _=>u,fun _=>[],.inl rfl,hs.more (g.g.see (O8 hok) hp hb),rfl,rfl⟩⟩ (hk hok hen _ (g.next (g.g.snoc (f:=⟨some dd,u,[]⟩) ho rfl rfl) hns))
theorem zD {dd:Nat}{u:AV}{gd t:Nat}{want:Bool}(ho:ops[i]? = some ⟨some dd,op,ty,pos,af,some (gd,want)⟩) (hp:pres[i]? = some pre) (hb:bads[i]? = some bad) (hns:(ss.all fun x=>!Nat.beq x.1 i)=true) (hj:(ops[gd]?).bind (·.dst)=some t) (hl:look (eI bad cur) t=some (.b want)) (hs:cD P ⟨some dd,op,ty,pos,af,none⟩ (eI bad cur) (seeH pres i pre ss don h++mF pre objs) 0 (fun _=>u) (fun _=>[]))
    (hk:KM P n ops pres ds bads ss env h (i+1) ((dd,u)::cur) objs don K):KM P n ops pres ds bads ss env h i cur objs don K:=by
  intro hok hen effs g;refine O1 (f:=⟨some dd,u,[]⟩) hok g hp (aB.1 ho).1 hns ⟨_,by simpa using ho,rfl,.inl ⟨fun _=>u,fun _=>[],.inr ⟨gd,want,t,rfl,by simpa using hj,g.g.see (O8 hok) hp hb _ _ hl⟩,hs.more (g.g.see (O8 hok) hp hb),rfl,rfl⟩⟩ (hk hok hen _ (g.next (g.g.snoc (f:=⟨some dd,u,[]⟩) ho rfl rfl) hns))
theorem wN {dd:Nat}{gd t:Nat}{want:Bool}(ho:ops[i]? = some ⟨some dd,op,ty,pos,af,some (gd,want)⟩) (hp:pres[i]? = some pre) (hb:bads[i]? = some bad) (hns:(ss.all fun x=>!Nat.beq x.1 i)=true) (hj:(ops[gd]?).bind (·.dst)=some t) (hl:look (eI bad cur) t=some (.b (!want)))
    (hk:KM P n ops pres ds bads ss env h (i+1) ((dd,.v undef)::cur) objs don K):KM P n ops pres ds bads ss env h i cur objs don K:=by
  intro hok hen effs g;refine O1 (f:=⟨some dd,.v undef,[]⟩) hok g hp (aB.1 ho).1 hns ⟨_,by simpa using ho,rfl,.inr ⟨gd,want,t,rfl,by simpa using hj,.inl (g.g.see (O8 hok) hp hb _ _ hl),rfl,rfl⟩⟩ (hk hok hen _ (g.next (g.g.snoc (f:=⟨some dd,.v undef,[]⟩) ho rfl rfl) hns))
theorem vR {dd:Nat}{u:Nat→AV}{b:Nat→List AB}{m:Nat}(ho:ops[i]? = some ⟨some dd,op,ty,pos,af,none⟩) (hp:pres[i]? = some pre) (hb:bads[i]? = some bad) (hns:(ss.all fun x=>!Nat.beq x.1 i)=true) (hs:cD P ⟨some dd,op,ty,pos,af,none⟩ (eI bad cur) (seeH pres i pre ss don h++mF pre objs) (m+1) u b) (hm:(b (seeH pres i pre ss don h++mF pre objs).length).length=m+1)
    (hk:KM P n ops pres ds bads ss env h (i+1) ((dd,u (seeH pres i pre ss don h++mF pre objs).length)::cur) (objs++[(i,b (seeH pres i pre ss don h++mF pre objs).length)]) don K):KM P n ops pres ds bads ss env h i cur objs don K:=by
  intro hok hen effs g;refine O1 (f:=⟨some dd,u (seeH pres i pre ss don h++mF pre objs).length,b (seeH pres i pre ss don h++mF pre objs).length⟩) hok g hp (aB.1 ho).1 hns ⟨_,by simpa using ho,rfl,.inl ⟨u,b,.inl rfl,by simp only [hm];exact hs.more (g.g.see (O8 hok) hp hb),rfl,rfl⟩⟩ ?_
  refine hk hok hen _ (g.next (g.g.snoc' (f:=⟨some dd,u (seeH pres i pre ss don h++mF pre objs).length,b (seeH pres i pre ss don h++mF pre objs).length⟩) ho rfl ?_) hns)
  intro e2;rw [show b (seeH pres i pre ss don h++mF pre objs).length=[] from e2] at hm
  cases hm
theorem wM {k:Nat}{nb:AB}{t:TypeId}{x y:Operand}{j:TI}{u v:AV}{xs:List AV}(ho:ops[i]? = some ⟨none,.store t x y,ty,pos,af,none⟩) (hp:pres[i]? = some pre) (hb:bads[i]? = some bad) (hm:ss[don.length]? = some (i,k)) (hkl:k<h.length)
    (T:oQ P) (hx:evu (eI bad cur) x=some u) (hy:evu (eI bad cur) y=some v) (ht:T.ti t=some j) (hv:v.cellsOf=some xs) (hl:xs.length=j.size) (h1:xs.all AV.one=true) (h0:0<j.size) (hu:LB (seeH pres i pre ss don h++mF pre objs) u xs=some (k,nb))
    (hk:KM P n ops pres ds bads ss env h (i+1) cur objs (don++[nb]) K):KM P n ops pres ds bads ss env h i cur objs don K:=by
  intro hok hen effs g;have hs:=LL (P:=P) (pos:=pos) (ty:=ty) (af:=af) T hx hy ht hv hl h1 h0 hu;have hi:=(aB.1 ho).1;have hgs:G7 ops env (i+1) cur objs (effs++[⟨none,.v undef,[]⟩]):=g.g.snoc (f:=⟨none,.v undef,[]⟩) ho rfl rfl;have hkk:=hk hok hen (effs++[⟨none,.v undef,[]⟩]) ⟨hgs,fun x hx=>?_⟩
  · obtain ⟨more,mb,g1,g0,g2,g3,g4⟩:=hkk;have e:effs++[⟨none,.v undef,[]⟩]++more=effs++((⟨none,.v undef,[]⟩:nF)::more):=by simp
    have e':don++[nb]++mb=don++(nb::mb):=by simp
    rw [e] at g1 g2;rw [e'] at g0;simp only [e,e'] at g3 g4;have hie:effs.length=i:=g.g.len;refine ⟨_,_,g1,g0,g2,fun j' q p hj hgj hpj=>?_,g4⟩
    by_cases hji:j'=i
    · subst hji;rw [hp] at hpj;cases hpj;rw [aE (by omega),hie,dY] at hgj
      simp at hgj;subst hgj;right;refine ⟨don.length,k,nb,_,hm,?_,rfl,bW _,by simpa using ho,.inl rfl,hkl,?_⟩
      · rw [aE (aU _),dY];rfl
      · rw [jP,bO (by omega),hie,dY,g.seeH hok hi hp _]
        simp only [jM,List.append_nil];rw [lK,← g.g.objs];exact (Y4.more hs (g.g.see (O8 hok) hp hb)).a
    · exact g3 j' q p (by simp;omega) hgj hpj
  · have hok':=hok;simp only [jV,aN] at hok';have hls:don.length<ss.length:=(aB.1 hm).1;have e1:ss.drop don.length=(i,k)::ss.drop (don.length+1):=by
      rw [aY hls];have:=aA hls;rw [hm] at this;rw [Option.some.inj this]
    have hx':x∈ss.drop (don.length+1):=by simpa using hx
    have h5:=g.later x (by rw [e1];exact aJ _ hx')
    have key:∀ (ss:List (Nat × Nat)) (m:Nat),PA pres ss=true→ss[m]? = some (i,k)→∀ x,x∈ss.drop (m+1)→x.1≠i:=by
      intro ss
      induction ss with
      | nil=>intro m _ h;simp at h
      | cons y r ih=>
        intro m hok h x hx;obtain ⟨s,k'⟩:=y;simp only [PA,aN,bK] at hok;cases m with
        | zero=>
          simp only [eK,Option.some.injEq,Prod.mk.injEq] at h;intro e;have:=(hok.1 x (by simpa using hx)).1
          rw [e,h.1,fJ] at this;cases this
        | succ m=>exact ih m hok.2 (by simpa using h) x (by simpa using hx)
    have:=key ss don.length hok'.1.2 hm x hx';omega
theorem yO5 {k dd:Nat}{nb:AB}{u:AV}(ho:ops[i]? = some ⟨some dd,op,ty,pos,af,none⟩) (hp:pres[i]? = some pre) (hb:bads[i]? = some bad) (hm:ss[don.length]? = some (i,k)) (hkl:k<h.length)
    (hs:jE P ⟨some dd,op,ty,pos,af,none⟩ (eI bad cur) (seeH pres i pre ss don h++mF pre objs) (seeH pres i pre ss don h++mF pre objs).length k nb u [])
    (hk:KM P n ops pres ds bads ss env h (i+1) ((dd,u)::cur) objs (don++[nb]) K):KM P n ops pres ds bads ss env h i cur objs don K:=by
  intro hok hen effs g;have hi:=(aB.1 ho).1;have hgs:G7 ops env (i+1) ((dd,u)::cur) objs (effs++[⟨some dd,u,[]⟩]):=g.g.snoc (f:=⟨some dd,u,[]⟩) ho rfl rfl;have hkk:=hk hok hen (effs++[⟨some dd,u,[]⟩]) ⟨hgs,fun x hx=>?_⟩
  · obtain ⟨more,mb,g1,g0,g2,g3,g4⟩:=hkk;have e:effs++[⟨some dd,u,[]⟩]++more=effs++((⟨some dd,u,[]⟩:nF)::more):=by simp
    have e':don++[nb]++mb=don++(nb::mb):=by simp
    rw [e] at g1 g2;rw [e'] at g0;simp only [e,e'] at g3 g4;have hie:effs.length=i:=g.g.len;refine ⟨_,_,g1,g0,g2,fun j' q p hj hgj hpj=>?_,g4⟩
    by_cases hji:j'=i
    · subst hji;rw [hp] at hpj;cases hpj;rw [aE (by omega),hie,dY] at hgj
      simp at hgj;subst hgj;right;refine ⟨don.length,k,nb,_,hm,?_,rfl,bW _,by simpa using ho,.inl rfl,hkl,?_⟩
      · rw [aE (aU _),dY];rfl
      · rw [jP,bO (by omega),hie,dY,g.seeH hok hi hp _]
        simp only [jM,List.append_nil];rw [lK,← g.g.objs];have hpl:(seeH pres j' pre ss don h++mF pre objs).length=h.length+nC effs:=by rw [g.g.objs,← lK,aF,mZ];congr 1;exact uL _ _ _ _ _
        rw [hpl] at hs;exact jE.more hs (g.g.see (O8 hok) hp hb)
    · exact g3 j' q p (by simp;omega) hgj hpj
  · have hok':=hok;simp only [jV,aN] at hok';have hls:don.length<ss.length:=(aB.1 hm).1;have e1:ss.drop don.length=(i,k)::ss.drop (don.length+1):=by
      rw [aY hls];have:=aA hls;rw [hm] at this;rw [Option.some.inj this]
    have hx':x∈ss.drop (don.length+1):=by simpa using hx
    have h5:=g.later x (by rw [e1];exact aJ _ hx')
    have key:∀ (ss:List (Nat × Nat)) (m:Nat),PA pres ss=true→ss[m]? = some (i,k)→∀ x,x∈ss.drop (m+1)→x.1≠i:=by
      intro ss
      induction ss with
      | nil=>intro m _ h;simp at h
      | cons y r ih=>
        intro m hok h x hx;obtain ⟨s,k'⟩:=y;simp only [PA,aN,bK] at hok;cases m with
        | zero=>
          simp only [eK,Option.some.injEq,Prod.mk.injEq] at h;intro e;have:=(hok.1 x (by simpa using hx)).1
          rw [e,h.1,fJ] at this;cases this
        | succ m=>exact ih m hok.2 (by simpa using h) x (by simpa using hx)
    have:=key ss don.length hok'.1.2 hm x hx';omega
theorem mR {k dd:Nat}{nb:AB}{u:AV}{b1:AB}(ho:ops[i]? = some ⟨some dd,op,ty,pos,af,none⟩) (hp:pres[i]? = some pre) (hb:bads[i]? = some bad) (hm:ss[don.length]? = some (i,k)) (hkl:k<h.length)
    (hs:jE P ⟨some dd,op,ty,pos,af,none⟩ (eI bad cur) (seeH pres i pre ss don h++mF pre objs) (seeH pres i pre ss don h++mF pre objs).length k nb u [b1])
    (hk:KM P n ops pres ds bads ss env h (i+1) ((dd,u)::cur) (objs++[(i,[b1])]) (don++[nb]) K):KM P n ops pres ds bads ss env h i cur objs don K:=by
  intro hok hen effs g;have hi:=(aB.1 ho).1;have hgs:G7 ops env (i+1) ((dd,u)::cur) (objs++[(i,[b1])]) (effs++[⟨some dd,u,[b1]⟩]):=g.g.snoc' (f:=⟨some dd,u,[b1]⟩) ho rfl (by simp)
  have hkk:=hk hok hen (effs++[⟨some dd,u,[b1]⟩]) ⟨hgs,fun x hx=>?_⟩
  · obtain ⟨more,mb,g1,g0,g2,g3,g4⟩:=hkk;have e:effs++[⟨some dd,u,[b1]⟩]++more=effs++((⟨some dd,u,[b1]⟩:nF)::more):=by simp
    have e':don++[nb]++mb=don++(nb::mb):=by simp
    rw [e] at g1 g2;rw [e'] at g0;simp only [e,e'] at g3 g4;have hie:effs.length=i:=g.g.len;refine ⟨_,_,g1,g0,g2,fun j' q p hj hgj hpj=>?_,g4⟩
    by_cases hji:j'=i
    · subst hji;rw [hp] at hpj;cases hpj;rw [aE (by omega),hie,dY] at hgj
      simp at hgj;subst hgj;right;refine ⟨don.length,k,nb,_,hm,?_,rfl,aU _,by simpa using ho,.inl rfl,hkl,?_⟩
      · rw [aE (aU _),dY];rfl
      · rw [jP,bO (by omega),hie,dY,g.seeH hok hi hp _]
        simp only [jM,List.append_nil];rw [lK,← g.g.objs];have hpl:(seeH pres j' pre ss don h++mF pre objs).length=h.length+nC effs:=by rw [g.g.objs,← lK,aF,mZ];congr 1;exact uL _ _ _ _ _
        rw [hpl] at hs;exact jE.more hs (g.g.see (O8 hok) hp hb)
    · exact g3 j' q p (by simp;omega) hgj hpj
  · have hok':=hok;simp only [jV,aN] at hok';have hls:don.length<ss.length:=(aB.1 hm).1;have e1:ss.drop don.length=(i,k)::ss.drop (don.length+1):=by
      rw [aY hls];have:=aA hls;rw [hm] at this;rw [Option.some.inj this]
    have hx':x∈ss.drop (don.length+1):=by simpa using hx
    have h5:=g.later x (by rw [e1];exact aJ _ hx')
    have key:∀ (ss:List (Nat × Nat)) (m:Nat),PA pres ss=true→ss[m]? = some (i,k)→∀ x,x∈ss.drop (m+1)→x.1≠i:=by
      intro ss
      induction ss with
      | nil=>intro m _ h;simp at h
      | cons y r ih=>
        intro m hok h x hx;obtain ⟨s,k'⟩:=y;simp only [PA,aN,bK] at hok;cases m with
        | zero=>
          simp only [eK,Option.some.injEq,Prod.mk.injEq] at h;intro e;have:=(hok.1 x (by simpa using hx)).1
          rw [e,h.1,fJ] at this;cases this
        | succ m=>exact ih m hok.2 (by simpa using h) x (by simpa using hx)
    have:=key ss don.length hok'.1.2 hm x hx';omega
theorem zV0 {k dd gd t:Nat}{want:Bool}{nb:AB}{u:AV}{b1:AB}(ho:ops[i]? = some ⟨some dd,op,ty,pos,af,some (gd,want)⟩) (hp:pres[i]? = some pre) (hb:bads[i]? = some bad) (hm:ss[don.length]? = some (i,k)) (hkl:k<h.length) (hjg:(ops[gd]?).bind (·.dst)=some t) (hlg:look (eI bad cur) t=some (.b want))
    (hs:jE P ⟨some dd,op,ty,pos,af,none⟩ (eI bad cur) (seeH pres i pre ss don h++mF pre objs) (seeH pres i pre ss don h++mF pre objs).length k nb u [b1])
    (hk:KM P n ops pres ds bads ss env h (i+1) ((dd,u)::cur) (objs++[(i,[b1])]) (don++[nb]) K):KM P n ops pres ds bads ss env h i cur objs don K:=by
  intro hok hen effs g;have hi:=(aB.1 ho).1;have hgs:G7 ops env (i+1) ((dd,u)::cur) (objs++[(i,[b1])]) (effs++[⟨some dd,u,[b1]⟩]):=g.g.snoc' (f:=⟨some dd,u,[b1]⟩) ho rfl (by simp)
  have hkk:=hk hok hen (effs++[⟨some dd,u,[b1]⟩]) ⟨hgs,fun x hx=>?_⟩
  · obtain ⟨more,mb,g1,g0,g2,g3,g4⟩:=hkk;have e:effs++[⟨some dd,u,[b1]⟩]++more=effs++((⟨some dd,u,[b1]⟩:nF)::more):=by simp
    have e':don++[nb]++mb=don++(nb::mb):=by simp
    rw [e] at g1 g2;rw [e'] at g0;simp only [e,e'] at g3 g4;have hie:effs.length=i:=g.g.len;refine ⟨_,_,g1,g0,g2,fun j' q p hj hgj hpj=>?_,g4⟩
    by_cases hji:j'=i
    · subst hji;rw [hp] at hpj;cases hpj;rw [aE (by omega),hie,dY] at hgj
      simp at hgj;subst hgj;right;refine ⟨don.length,k,nb,_,hm,?_,rfl,aU _,by simpa using ho,.inr ⟨gd,want,t,rfl,by simpa using hjg,?_⟩,hkl,?_⟩
      · rw [aE (aU _),dY];rfl
      · rw [jP,bO (by omega),hie,dY]
        simp only [jM,List.append_nil];exact g.g.see (O8 hok) hp hb _ _ hlg
      · rw [jP,bO (by omega),hie,dY,g.seeH hok hi hp _]
        simp only [jM,List.append_nil];rw [lK,← g.g.objs];have hpl:(seeH pres j' pre ss don h++mF pre objs).length=h.length+nC effs:=by rw [g.g.objs,← lK,aF,mZ];congr 1;exact uL _ _ _ _ _
        rw [hpl] at hs;exact jE.more hs (g.g.see (O8 hok) hp hb)
    · exact g3 j' q p (by simp;omega) hgj hpj
  · have hok':=hok;simp only [jV,aN] at hok';have hls:don.length<ss.length:=(aB.1 hm).1;have e1:ss.drop don.length=(i,k)::ss.drop (don.length+1):=by
      rw [aY hls];have:=aA hls;rw [hm] at this;rw [Option.some.inj this]
    have hx':x∈ss.drop (don.length+1):=by simpa using hx
    have h5:=g.later x (by rw [e1];exact aJ _ hx')
    have key:∀ (ss:List (Nat × Nat)) (m:Nat),PA pres ss=true→ss[m]? = some (i,k)→∀ x,x∈ss.drop (m+1)→x.1≠i:=by
      intro ss
      induction ss with
      | nil=>intro m _ h;simp at h
      | cons y r ih=>
        intro m hok h x hx;obtain ⟨s,k'⟩:=y;simp only [PA,aN,bK] at hok;cases m with
        | zero=>
          simp only [eK,Option.some.injEq,Prod.mk.injEq] at h;intro e;have:=(hok.1 x (by simpa using hx)).1
          rw [e,h.1,fJ] at this;cases this
        | succ m=>exact ih m hok.2 (by simpa using h) x (by simpa using hx)
    have:=key ss don.length hok'.1.2 hm x hx';omega
theorem pU (hi:pres.length=i) (hdl:don.length=ss.length){rest:List Oper}{h':Hp}(hr:ops.drop i=rest) (hh:eV (fun _=>true) ss don h++nE objs=h')
    (hk:VC P n ops.toArray rest cur h' K):KM P n ops pres ds bads ss env h i cur objs don K:=by
  intro hok hen effs gs;have g:=gs.g;have hok':=O8 hok;simp only [mG,aN,decide_eq_true_eq] at hok';obtain ⟨⟨⟨⟨⟨h1,h2⟩,h3⟩,h4⟩,h5⟩,h6⟩:=hok';have hds:jT effs=ds:=by
    rw [← h5];have hle:i≤ops.length:=by rw [← hi];exact aH h4
    unfold jT;have:effs.map (·.d)=(ops.take pres.length).map (·.dst):=by
      apply kA;intro j;simp only [bY,cJ,hi];by_cases hj:j<i
      · rw [if_pos hj];have hje:j<effs.length:=by rw [g.len];exact hj
        obtain ⟨o,ho,hod⟩:=g.dst j effs[j] (aA hje);rw [aA hje,ho];simp [hod]
      · rw [if_neg hj,cX (by rw [g.len];omega)];rfl
    have e1:effs.filterMap (·.d)=(effs.map (·.d)).filterMap id:=by rw [qU];rfl
    have e2:(ops.take pres.length).filterMap (·.dst)=((ops.take pres.length).map (·.dst)).filterMap id:=by rw [qU];rfl
    rw [e1,e2,this]
  refine ⟨[],[],by rw [List.append_nil,g.len,hi],by rw [List.append_nil];exact hdl,by rw [List.append_nil];exact hds,fun j f pre hj hf _=>?_,?_⟩
  · have:=(aB.1 hf).1;simp at this;omega
  rw [List.append_nil,List.append_nil];have el:effs.length=pres.length:=by rw [g.len,hi]
  rw [← el,D6,E1 0 effs.length (by omega),kG,← N9,L8,← AL,el,hi]
  rw [E8 effs 0,← g.objs,← zK,hh];rw [show ops.toArray.toList.drop i=rest from by simpa using hr]
  refine hk.moreE fun t x hx=>?_
  rw [g.cur] at hx;exact T4 (by have:jT effs=effs.filterMap (·.d):=rfl;rw [← this,hds];exact h2) hx
end
section
variable {P:Program}
theorem HS.made {c:pA}{ρ:Pl}{S:Nat→Prop}{h:Hp}{w w':World}{x:AV}{b:AB}{y:Value}{q:Option (Nat × Nat)}(s:HS c ρ S h w) (hext:nU (fun _=>False) w w')
    (hq:∀ p,q=some p→w.heap.size≤p.1∧p.1<w'.heap.size)
    (hv:∀ ρ':Pl,ρ' h.length=q→(∀ k,k≠h.length→ρ' k=ρ k)→iJ ρ ρ' S S w w'→R S w' x ρ' y∧RB S w' ρ' q b) :
    ∃ ρ',HS c ρ' S (h++[b]) w'∧R S w' x ρ' y∧iJ ρ ρ' S S w w':=by
  let ρ':Pl:=fun k=>if k=h.length then q else ρ k
  have hd:=s.dom h.length (aU _);have e1:ρ' h.length=q:=if_pos rfl;have e2:∀ k,k≠h.length→ρ' k=ρ k:=fun k hk=>if_neg hk
  have l:iJ ρ ρ' S S w w':=⟨fun k p hp=>by rw [e2 k (fun e=>by rw [e,hd] at hp;cases hp)];exact hp,fun _ h=>h,fun b hb=>hext.same b (s.stab b hb) (fun h=>h),fun _ _ _ _ _ hr=>hext.room hr⟩
  obtain ⟨v1,v2⟩:=hv ρ' e1 e2 l;refine ⟨ρ',s.post (m:=1) (new:=[b]) (x:=x) (y:=y) ⟨hext,rfl,fun k hk=>e2 k (by omega),fun _ h=>h,fun _ h=>.inl h,fun k p hk1 hk2 hp=>?_,fun k k' p p' a1 a2 a3 a4 _ _ _=>by omega,v1,fun j b' hb=>?_⟩,v1,l⟩
  · have:k=h.length:=by omega
    subst this;rw [e1] at hp;obtain ⟨g1,g2⟩:=hq p hp;exact ⟨g1,g2,fun hS=>by have:=s.stab _ hS;omega⟩
  · cases j with
    | zero=>
      simp only [eK,Option.some.injEq] at hb;subst hb;rw [Nat.add_zero,e1];exact v2
    | succ j=>simp at hb
theorem HS.kept {c:pA}{ρ:Pl}{S:Nat→Prop}{h:Hp}{w w':World}(s:HS c ρ S h w) (hext:nU (fun _=>False) w w'):HS c ρ S h w':=by
  have:=s.post (m:=0) (new:=[]) (x:=.any) (y:=.nilIface) (ρ':=ρ) (S':=S) (w':=w') ⟨hext,rfl,fun _ _=>rfl,fun _ h=>h,fun _ h=>.inl h,fun k p a1 a2 _=>by omega,fun k k' p p' a1 a2=>by omega,by simp [R],fun j b hb=>by simp at hb⟩
  simpa using this
theorem yS {env:eE}{h:Hp}{d:Option Nat}{ty:TypeId}{pos:String}{af:Array Edge}{g:Option (Nat × Bool)}{t t2 te:TypeId}{x y:Operand}{u z:AV}(ht:P.underlying t=some (.pointer te)) (hx:evu env x=some u) (hz:u.plus 0=some z) (hy:evu env y=some (.v (.pointer none))) :
    cD P ⟨d,.binOp .eql t x y t2,ty,pos,af,g⟩ env h 0 (fun _=>.b false) (fun _=>[]):=by
  refine jH fun ρ S a w p=>⟨.bool false,?_,by simp [R]⟩
  obtain ⟨b,o,h1,_⟩:=CB (p.evu hx) hz;have h2:=vB (p.evu hy);have ht':P.underlying t=some (.pointer (P.pointee t)):=by simp [Program.pointee,ht]
  have hq:eqGuard .eql t x y (.pointer (some ⟨b,o,none⟩)) (.pointer none)=pure ():=by rfl
  have hr:(binOp .eql t (.pointer (some ⟨b,o,none⟩)) (.pointer none)).run P w = .ok (.bool false) w:=by rw [run_eql_pointer_nil (P:=P) w t (some ⟨b,o,none⟩) ht'];rfl
  simp [execOp,h1,h2,hq,hr]
end
theorem HS.moved {c:pA}{ρ:Pl}{S:Nat→Prop}{H:Hp}{w w':World}{k pp:Nat}{q:Option (Nat × Nat)}{nb:AB}(g:HS c ρ S H w) (hpk:pp≠k) (hH:H[pp]? = some .gone) (hρ:ρ pp=Option.none) (hm:c.m≤pp) (hext:nU c.M w w')
    (hoth:∀ j b,H[j]? = some b→j≠k→b≠.gone→∀ b1 o1,ρ j=some (b1,o1)→w'.heap[b1]? = w.heap[b1]?) (hst:∀ b1,S b1→w'.heap[b1]? = w.heap[b1]?)
    (hq:∀ b1 o1,q=some (b1,o1)→c.M b1∧¬ S b1∧b1<w'.heap.size∧∀ j b,H[j]? = some b→j≠k→b≠.gone→∀ b2 o2,ρ j=some (b2,o2)→b2≠b1)
    (hv:iJ ρ (fun j=>if j=pp then q else ρ j) S S w w'→RB S w' (fun j=>if j=pp then q else ρ j) q nb) :
    HS c (fun j=>if j=pp then q else ρ j) S ((H.set k .gone).set pp nb) w'∧iJ ρ (fun j=>if j=pp then q else ρ j) S S w w':=by
  have hplt:pp<H.length:=(aB.1 hH).1
  have l:iJ ρ (fun j=>if j=pp then q else ρ j) S S w w':=⟨fun j u hu=>by
    show (if j=pp then q else ρ j)=_
    rw [if_neg (fun e=>by rw [e,hρ] at hu;cases hu)];exact hu,fun _ h=>h,hst,fun _ _ _ _ _ hr=>hext.room hr⟩
  have v2:=hv l;have hget:∀ {j:Nat} {b:AB},((H.set k .gone).set pp nb)[j]? = some b→b≠.gone→(j≠pp∧j≠k∧H[j]? = some b)∨(j=pp∧b=nb):=fun {j b} hj hg=>by
    by_cases hjp:j=pp
    · subst hjp;rw [EU (by simpa using hplt)] at hj
      cases hj;exact .inr ⟨rfl,rfl⟩
    · rw [iN (Ne.symm hjp)] at hj;by_cases hjk:j=k
      · subst hjk;rw [gZ] at hj;simp only [if_true] at hj;split at hj
        · cases hj;exact absurd rfl hg
        · cases hj
      · rw [iN (Ne.symm hjk)] at hj;exact .inl ⟨hjp,hjk,hj⟩
  refine ⟨⟨fun j hj=>?_,fun j u hu=>?_,fun j b hj=>?_,fun j b u hj hg hu=>?_,fun j j' b b' u u' hj hj' hg hg' hu hu' e=>?_,fun b1 hb1=>eL (g.stab b1 hb1) hext.size,g.ext.trans hext (fun _ h _=>h),g.st0,g.st1,by simpa using g.mle,fun j hj=>by
      show (if j=pp then q else ρ j)=_
      rw [if_neg (by omega)];exact g.keep j hj,g.glob.later l⟩,l⟩
  · simp at hj;show (if j=pp then q else ρ j)=_
    rw [if_neg (by omega)];exact g.dom j (by omega)
  · by_cases hj:j=pp
    · simp only [hj,if_true] at hu;exact (hq u.1 u.2 hu).2.2.1
    · simp only [hj,if_false] at hu;exact eL (g.rng j u hu) hext.size
  · by_cases hbg:b = .gone
    · subst hbg;trivial
    · rcases hget hj hbg with ⟨h2,h3,h4⟩ | ⟨h2,h3⟩
      · show RB S w' _ (if j=pp then q else ρ j) _
        rw [if_neg h2];exact RB.later l (fun b1 o1 hp1=>hoth j _ h4 h3 hbg b1 o1 hp1) (g.blk j _ h4)
      · subst h2;show RB S w' _ (if j=j then q else ρ j) _
        rw [if_pos rfl,h3];exact v2
  · rcases hget hj hg with ⟨h2,h3,h4⟩ | ⟨h2,h3⟩
    · rw [if_neg h2] at hu;exact g.live j b u h4 hg hu
    · rw [if_pos h2] at hu;exact ⟨(hq u.1 u.2 hu).1,(hq u.1 u.2 hu).2.1⟩
  · rcases hget hj hg with ⟨h2,h3,h4⟩ | ⟨h2,h3⟩ <;> rcases hget hj' hg' with ⟨h2',h3',h4'⟩ | ⟨h2',h3'⟩
    · rw [if_neg h2] at hu;rw [if_neg h2'] at hu';exact g.inj j j' b b' u u' h4 h4' hg hg' hu hu' e
    · rw [if_neg h2] at hu;rw [if_pos h2'] at hu';exact absurd e ((hq u'.1 u'.2 hu').2.2.2 j b h4 h3 hg u.1 u.2 hu)
    · rw [if_neg h2'] at hu';rw [if_pos h2] at hu;exact absurd e.symm ((hq u.1 u.2 hu).2.2.2 j' b' h4' h3' hg' u'.1 u'.2 hu')
    · omega
section
variable {P:Program}{env:eE}{h:Hp}
variable {ty:TypeId}{pos:String}{af:Array Edge}
theorem mA (T:oQ P){t e k off len sz pp dd:Nat}{i:TI}{x y:Operand}{v:AV}{es news:List (List AV)}(hx:evu env x=some (.sl k off len sz)) (hy:evu env y=some v) (ht:T.elem t=some e) (he:T.ti e=some i) (hs:i.size=sz)
    (hkk:h[k]? = some (.arr es sz)) (hle:off+len≤es.length) (hn:iK h v news sz) (h1:news.flatten.all AV.one=true) (hb:(len+news.length)*i.bytes≤140737488355328) (h63:len+news.length≤9223372036854775807) :
    jE P ⟨some dd,.call { callee:=.builtin .append,args:=#[x,y],argTypes:=#[t,t] },ty,pos,af,none⟩ env h pp k .gone (.sl pp 0 (len+news.length) sz) [.arr ((es.drop off).take len++news) sz]:=by
  intro c ρ S a w H g p hbel hpp K' Q hK';have hKK:=hbel k _ hkk (by simp)
  obtain ⟨hr0,hH0,hm0⟩:ρ pp=none∧H[pp]? = some .gone∧c.m≤pp:=by
    rcases hpp with h0 | h0
    · cases h0
    · exact h0
  have hpk:pp≠k:=fun e=>by rw [e,hKK] at hH0;cases hH0
  have hxv:=p.evu hx;obtain ⟨a2,c2,zs,y1,y2,y3,y4,y5,y6,y7⟩:=sE p.blk (p.evu hy) hn;obtain ⟨inf,z,t1,t2,t3,t4,t5,t6,t7⟩:=T.tiOk e i he;have hone:=AI y6 h1;have hxe:iK h (.sl k off len sz) ((es.drop off).take len) sz:=.sl hkk hle;obtain ⟨a1,c1,ys,x1,x2,x3,x4,x5,x6,x7⟩:=sE p.blk hxv hxe;have hlen:((es.drop off).take len).length=len:=by rw [bH,dQ];omega
  rw [hlen] at x1 x2 x5 x7;have hB:=p.blk k _ hkk;simp only [RB] at hB;obtain ⟨hes,hs0,hB⟩:=hB;have hnl:∀ q,q∈news→q.length=sz:=by
    cases hn with
    | sl hk2 _=>
      have:=p.blk _ _ hk2;simp only [RB] at this;exact fun q hq=>this.1 q (eA (dS hq))
    | row h=>exact h
    | nil=>exact fun q hq=>by cases hq
  have hall:∀ q,q∈(es.drop off).take len++news→q.length=sz:=fun q hq=>by
    rcases bL.1 hq with hq | hq
    · exact hes q (eA (dS hq))
    · exact hnl q hq
  have ev1:∀ r w',(Builtin.append_ #[t,t] ty #[a.eval x,a.eval y]).run P w = .ok r w'→(execOp a.eval ⟨some dd,.call { callee:=.builtin .append,args:=#[x,y],argTypes:=#[t,t] },ty,pos,af,none⟩).run P w = .ok (.value r) w':=fun r w' hr=>by
    simp [execOp,resolve,invoke,builtin,hr]
  have fin:∀ {r:Value} {w':World} {q:Option (Nat × Nat)},(Builtin.append_ #[t,t] ty #[a.eval x,a.eval y]).run P w = .ok r w'→nU c.M w w'→(∀ j b,H[j]? = some b→j≠k→b≠.gone→∀ b1 o1,ρ j=some (b1,o1)→w'.heap[b1]? = w.heap[b1]?)→(∀ b1,S b1→w'.heap[b1]? = w.heap[b1]?) →
      (∀ b1 o1,q=some (b1,o1)→c.M b1∧¬ S b1∧b1<w'.heap.size∧∀ j b,H[j]? = some b→j≠k→b≠.gone→∀ b2 o2,ρ j=some (b2,o2)→b2≠b1) →
      (iJ ρ (fun j=>if j=pp then q else ρ j) S S w w'→R S w' (.sl pp 0 (len+news.length) sz) (fun j=>if j=pp then q else ρ j) r∧RB S w' (fun j=>if j=pp then q else ρ j) q (.arr ((es.drop off).take len++news) sz)) →
      Oper.wp P ⟨some dd,.call { callee:=.builtin .append,args:=#[x,y],argTypes:=#[t,t] },ty,pos,af,none⟩ a w K' Q:=fun {r w' q} hr hext hoth hst hq hval=>by
    unfold Oper.wp;rw [ev1 r w' hr];obtain ⟨g1,g2⟩:=g.moved hpk hH0 hr0 hm0 hext hoth hst hq (fun l=>(hval l).2);exact hK' _ _ _ _ g1 g2 (hval g2).1 (fun j hj=>if_neg (hj (by simp)))
  have hoth0:∀ (w':World) (b0:Nat),(∀ x,x≠b0→w'.heap[x]? = w.heap[x]?)→(∃ o,ρ k=some (b0,o))→(∀ j b,H[j]? = some b→j≠k→b≠.gone→∀ b1 o1,ρ j=some (b1,o1)→w'.heap[b1]? = w.heap[b1]?)∧(∀ b1,S b1→w'.heap[b1]? = w.heap[b1]?):=fun w' b0 hw ⟨o,ho⟩=>
    ⟨fun j b hj hjk hg b1 o1 h1=>hw b1 (fun e=>hjk (g.inj j k b _ _ _ hj hKK hg (by simp) h1 ho e)),fun b1 hb1=>hw b1 (fun e=>(g.live k _ _ hKK (by simp) ho).2 (e▸hb1))⟩
  have hxy:a.eval x = .slice a1 len c1∧a.eval y = .slice a2 news.length c2:=⟨x1,y1⟩;by_cases hroom:len+news.length≤c1
  · by_cases hm:news.length=0
    · -- nothing is appended
      have hnews:news=[]:=cF hm;subst hnews;have hr:=tJ (P:=P) (w:=w) (t:=t) (ty:=ty) (a2:=a2) (c2:=c2) (T.elemOk _ _ ht) t1 (a:=a1) x2;simp only [R] at hxv;obtain ⟨a1',c1',e1,e2,e3⟩:=hxv;rw [x1] at e1;cases e1;refine fin (q:=(ρ k).map fun q=>(q.1,q.2+off*sz)) (by rw [hxy.1,hxy.2];exact hr) (nU.refl _ _) (fun _ _ _ _ _ _ _ _=>rfl) (fun _ _=>rfl) (fun b1 o1 hq=>?_) (fun l=>⟨?_,?_⟩)
      · obtain ⟨⟨b2,o2⟩,h2,h3⟩:=gY.1 hq;cases h3;obtain ⟨m1,m2⟩:=g.live k _ _ hKK (by simp) h2
        exact ⟨m1,m2,g.rng k _ h2,fun j b hj hjk hg b3 o3 h3 e=>hjk (g.inj j k b _ _ _ hj hKK hg (by simp) h3 h2 e)⟩
      · simp only [R];refine ⟨a1,c1,rfl,e2,?_⟩;rcases e3 with e3 | ⟨b,o,f1,f2,f3,f4⟩
        · exact .inl e3
        · exact .inr ⟨b,o+off*sz,by simp [f1],by simpa using f2,f3,by
            have:o+off*sz+(0+c1)*sz=o+(off+c1)*sz:=by rw [Nat.zero_add,eM,eB]
            rw [this];exact f4⟩
      · simp only [RB,List.append_nil];refine ⟨fun q hq=>hall q (by simpa using hq),hs0,?_⟩
        rcases hB with hB | ⟨b,o,ws,f1,⟨cc,ee,f2,f3⟩,f4⟩
        · left;obtain ⟨hB,hu⟩:=hB;subst hB;exact ⟨by simp,fun b o e=>by obtain ⟨q,g1,g2⟩:=gY.1 e;cases g2;exact hu _ _ g1⟩
        · right;refine ⟨b,o+off*sz,(ws.drop (off*sz)).take (len*sz),by simp [f1],⟨cc,ee,f2,fun j u hj=>?_⟩,?_⟩
          · rw [cJ] at hj;split at hj
            · rw [eF] at hj;rw [eB];exact f3 _ _ hj
            · cases hj
          · have:=rO (vY (f4.later l) (off*sz)) (len*sz)
            rwa [rC _ hes,rB _ (fun e he=>hes e (eA he))] at this
    · -- there is room
      simp only [R] at hxv;obtain ⟨a1',c1',e1,e2,e3⟩:=hxv;rw [x1] at e1;cases e1;rcases e3 with ⟨e3,e4⟩ | ⟨b,o,f1,f2,f3,⟨cc,ee,fz,f4,f5⟩⟩
      · omega
      obtain rfl:fz=(0,0):=by
        rcases hB with ⟨_,hu⟩ | ⟨b3,o3,ws3,g1,⟨cc3,ee3,g2,_⟩,_⟩
        · obtain ⟨cc3,ee3,g2⟩:=hu _ _ f1;rw [f4] at g2;cases g2;rfl
        · rw [f1] at g1;cases g1;rw [f4] at g2;cases g2;rfl
      have hmul:(off+len)*sz+news.length*sz≤(off+c1)*sz:=by rw [← eM];exact fE _ (by omega)
      have hfit:o+off*sz+len*inf.size+zs.length≤cc.size:=by
        rw [t2,hs,y5];have:(off+len)*sz=off*sz+len*sz:=eM _ _ _;omega
      have hr:=H2 (P:=P) (w:=w) (t:=t) (ty:=ty) (a2:=a2) (c2:=c2) (T.elemOk _ _ ht) t1 (b:=b) (o:=o+off*sz) (len:=len) (cap:=c1) (m:=news.length) (by rw [t2,hs];exact y5) y7 hone f4 hroom hfit
      rw [t2,hs] at hr hfit;have hyl:ys.length=len*sz:=x5;have hx8:len=0∨∃ b o,a1=some ⟨b,o,none⟩∧lies w b o ys:=x7;have hcs:((cc.toList.take (o+off*sz+len*sz)++zs++cc.toList.drop (o+off*sz+len*sz+zs.length)).toArray).size=cc.size:=by
        simp only [oI,aF,bH,dQ,iG];omega
      have hnew:=setRow_heap w b cc (cc.toList.take (o+off*sz+len*sz)++zs++cc.toList.drop (o+off*sz+len*sz+zs.length)).toArray ee (0,0) f4;obtain ⟨m1,m2⟩:=g.live k _ _ hKK (by simp) f1
      obtain ⟨o1,o2⟩:=hoth0 _ b (fun x hx=>setRow_other w b x (cc.toList.take (o+off*sz+len*sz)++zs++cc.toList.drop (o+off*sz+len*sz+zs.length)).toArray hx) ⟨o,f1⟩;refine fin (q:=some (b,o+off*sz)) (by rw [hxy.1,hxy.2,f2];exact hr) ((sA f4 hcs).mono fun x _ hx=>by rw [hx];exact m1) o1 o2 (fun b1 o1 hq=>?_) (fun l=>⟨?_,?_⟩)
      · cases hq;exact ⟨m1,m2,(aR.1 hnew).1,fun j b hj hjk hg b3 o3 h3 e=>hjk (g.inj j k b _ _ _ hj hKK hg (by simp) h3 f1 e)⟩
      · simp only [R];refine ⟨_,c1,rfl,e2,.inr ⟨b,o+off*sz,by simp,by simp,hroom,_,ee,_,hnew,?_⟩⟩
        rw [hcs,Nat.zero_add];have:(off+c1)*sz=off*sz+c1*sz:=eM _ _ _;omega
      · simp only [RB];refine ⟨hall,hs0,.inr ⟨b,o+off*sz,ys++zs,rfl,⟨_,ee,hnew,fun j u hj=>?_⟩,?_⟩⟩
        · rw [jA];by_cases hj1:j<ys.length
          · rw [aG hj1] at hj;rcases hx8 with h0 | ⟨b',o',g1,⟨c',e',fz,g2,g3⟩⟩
            · subst h0;simp at hyl;omega
            rw [f2] at g1;cases g1;rw [f4] at g2;cases g2;rw [bZ,aG (by simp;omega),cJ,if_pos (by omega)]
            simpa using g3 j u hj
          · rw [aE (by omega)] at hj
            have hj2:=(aB.1 hj).1;rw [aG (by simp;omega),aE (by simp;omega),← hj]
            congr 1;simp only [bH,iG];omega
        · rw [fU];exact iT (x6.later l) (y6.later l)
  · -- a new row
    have hr:=uN (P:=P) (w:=w) (t:=t) (ty:=ty) (c2:=c2) (a:=a1) (len:=len) (cap:=c1) (m:=news.length) (T.elemOk _ _ ht) t1 t4 (by rw [t2,hs];exact x5) x7 (by rw [t2,hs];exact y5) y7 (by omega) (by rw [t3];exact hb) h63
    have hgc:=grownCap_ge w (len+news.length) c1 e;have hgm:=grownCap_le_maxLen w (len+news.length) c1 e (by simp only [maxLen];omega)
    have hzs:z.cells.size=sz:=by rw [← hs,← t6,← t5];simp
    obtain ⟨g1,g2⟩:=C3 hzs x5 y5 hgc;have hnew:(w.drew.alloc (.cells (ys.toArray++zs.toArray++Builtin.zeroCells z.cells (grownCap w (len+news.length) c1 e-(len+news.length))) e)).heap[w.heap.size]? = some (.cells _ e (0,0)):=heap_alloc_new w.drew _;have hold:∀ b1,b1<w.heap.size→(w.drew.alloc (.cells (ys.toArray++zs.toArray++Builtin.zeroCells z.cells (grownCap w (len+news.length) c1 e-(len+news.length))) e)).heap[b1]? = w.heap[b1]?:=fun b1 hb1=>RowKit.Below.heap_alloc w.drew _ b1 hb1
    refine fin (q:=some (w.heap.size,0)) (by rw [hxy.1,hxy.2];exact hr) ((nU.drew1 w).trans (qO w.drew _ c.M) (fun _ h _=>h)) (fun j b hj hjk hg b1 o1 h2=>hold b1 (g.rng j _ h2)) (fun b1 hb1=>hold b1 (g.stab b1 hb1)) (fun b1 o1 hq=>?_) (fun l=>⟨?_,?_⟩)
    · cases hq;refine ⟨c.new _ g.ext.size,fun hS=>?_,by simp,fun j b hj hjk hg b2 o2 h2 e=>?_⟩
      · have:=g.stab _ hS;omega
      · have:=g.rng j _ h2;simp at this;omega
    · simp only [R];exact ⟨_,_,rfl,hgm,.inr ⟨w.heap.size,0,by simp,by simp,hgc,_,e,_,hnew,by rw [Nat.zero_add,Nat.zero_add];exact g1⟩⟩
    · simp only [RB];refine ⟨hall,hs0,.inr ⟨w.heap.size,0,ys++zs,rfl,⟨_,e,hnew,fun j u hj=>by rw [Nat.zero_add];exact g2 j u hj⟩,?_⟩⟩
      rw [fU];exact iT (x6.later l) (y6.later l)
theorem lZ {n:Nat × Nat}{Q:Exit→eE→Hp→Prop}{id:Nat}{l:List Oper}(k:Nat) (pres:List (List Nat)) (ds:List Nat) (bads:List (List Nat)) (ss:List (Nat × Nat)) (hm:P.follows .mixedOrders=true) (hn:n.1=k) (hok:jV l pres ds bads ss k=true)
    (hv:KM P n l pres ds bads ss (eI ds env) h 0 (eI ds env) [] [] (fun v h=>Q .normal v h)) (hndf:nJ l=true:=by rfl):AW P n (.region id l.toArray true) env h Q:=zH9 pres ds bads ss hm (by rw [hn];exact hok) hv hndf
end
def pN (L:List Nat) (pos k:Nat):Nat:=match L[k]? with
  | some j=>j
  | none=>pos
theorem HS.callP {c:pA}{ρ ρ':Pl}{S S':Nat→Prop}{H hin hout:Hp}{w w':World}{L:List Nat}{pos:Nat}{b1:AB}(s:HS c ρ S H w) (hL:L.length=hin.length) (hnd:L.Nodup) (hh:vD (th L H.length) H 0 hin) (hng:∀ b,b∈hin→b≠.gone)
    (hlen:hout.length=hin.length) (hp0:ρ pos=Option.none) (hp1:H[pos]? = some .gone) (hpm:c.m≤pos)
    (hs:HS (nL w (fun k=>ρ (th L H.length k)) S hin) ρ' S' (hout++[b1]) w') :
    ∃ ρ3:Pl,HS c ρ3 S' ((zZ H L (hout.map (AB.map (pN L pos)))).set pos (b1.map (pN L pos))) w'∧iJ ρ ρ3 S S' w w'∧(∀ {x:AV} {y:Value},R S' w' x ρ' y→R S' w' (x.map (pN L pos)) ρ3 y)∧∀ j,j≠pos→ρ3 j=ρ j:=by
  have hin_at:∀ {i:Nat} {b:AB},hin[i]? = some b→∃ j,L[i]? = some j∧j<H.length∧H[j]? = some (b.map (th L H.length))∧b.map (th L H.length)≠.gone:=fun {i b} hb=>by
    have hne:=hng b (aO hb);have hlt:i<L.length:=by rw [hL];exact (aB.1 hb).1
    have hj:=aA hlt;have hth:th L H.length i=L[i]:=by simp [th,hj]
    rcases hh.get i b hb with hg | hg
    · exact absurd hg hne
    · rw [Nat.zero_add,hth] at hg;exact ⟨L[i],hj,(aB.1 hg).1,hg,by cases b <;> simp [AB.map] at * ⟩
  have thL:∀ {i j:Nat},L[i]? = some j→th L H.length i=j:=fun hi=>by simp [th,hi]
  have keep:∀ {i j:Nat},i<hin.length→L[i]? = some j→ρ' i=ρ j:=fun {i j} hi hj=>by
    have:=hs.keep i hi;simp only [nL] at this;rw [this,thL hj]
  have hM:∀ b,(nL w (fun k=>ρ (th L H.length k)) S hin).M b→w.heap.size≤b∨∃ (i j:Nat) (o:Nat) (x:AB),hin[i]? = some x∧L[i]? = some j∧ρ j=some (b,o):=fun b hb=>by
    rcases hb with hb | ⟨k,x,o,hb,_,hp⟩
    · exact .inl hb
    · obtain ⟨j,h3,_⟩:=hin_at hb;exact .inr ⟨k,j,o,x,hb,h3,by rw [← thL h3];exact hp⟩
  have hcM:∀ b,(nL w (fun k=>ρ (th L H.length k)) S hin).M b→c.M b:=fun b hb=>by
    rcases hM b hb with hb | ⟨i,j,o,x,h3,h4,h5⟩
    · exact c.new b (bG s.ext.size hb)
    · obtain ⟨j',h6,_,h7,h8⟩:=hin_at h3;rw [h4] at h6;cases h6;exact (s.live j _ _ h7 h8 h5).1
  have hlow:∀ b,b<w.heap.size→(nL w (fun k=>ρ (th L H.length k)) S hin).M b→∃ (i j:Nat) (o:Nat) (x:AB),hin[i]? = some x∧L[i]? = some j∧ρ j=some (b,o):=fun b hlt hb=>by
    rcases hM b hb with hb | hb
    · omega
    · exact hb
  have other:∀ {k:Nat} {b:AB} {q:Nat × Nat},H[k]? = some b→b≠.gone→k∉L→ρ k=some q→¬ (nL w (fun k=>ρ (th L H.length k)) S hin).M q.1:=fun {k b q} hb hg hkL hq hm=>by
    obtain ⟨i,j,o,x,h3,h4,h5⟩:=hlow q.1 (s.rng k q hq) hm;obtain ⟨j',h6,_,h7,h8⟩:=hin_at h3;rw [h4] at h6;cases h6;have:=s.inj k j _ _ q _ hb h7 hg h8 hq h5 rfl;subst this;exact hkL (aO h4)
  have stM:∀ b,S b→¬ (nL w (fun k=>ρ (th L H.length k)) S hin).M b:=fun b hb hm=>by
    obtain ⟨i,j,o,x,h3,h4,h5⟩:=hlow b (s.stab b hb) hm;obtain ⟨j',h6,_,h7,h8⟩:=hin_at h3;rw [h4] at h6;cases h6;exact (s.live j _ _ h7 h8 h5).2 hb
  have same:∀ b,b<w.heap.size→¬ (nL w (fun k=>ρ (th L H.length k)) S hin).M b→w'.heap[b]? = w.heap[b]?:=fun b hb hm=>hs.ext.same b hb hm
  have hposL:pos∉L:=fun hm=>by
    obtain ⟨i,hi⟩:=KJ.1 hm;have hlt:i<hin.length:=by rw [← hL];exact (aB.1 hi).1
    obtain ⟨j,h3,_,h4,h5⟩:=hin_at (aA hlt);rw [hi] at h3;cases h3;rw [hp1] at h4;exact h5 (Option.some.inj h4).symm
  have hposH:pos<H.length:=(aB.1 hp1).1
  let ρ3:Pl:=fun j=>if j=pos then ρ' hin.length else ρ j
  have r3p:ρ3 pos=ρ' hin.length:=if_pos rfl;have r3o:∀ j,j≠pos→ρ3 j=ρ j:=fun j hj=>if_neg hj
  have l:iJ ρ ρ3 S S' w w':=by
    refine ⟨fun k q hq=>?_,hs.st0,fun b hb=>same b (s.stab b hb) (stM b hb),fun _ _ _ _ _ hr=>hs.ext.room hr⟩
    rw [r3o k (fun e=>by rw [e,hp0] at hq;cases hq)];exact hq
  have pl:∀ k q,ρ' k=some q→ρ3 (pN L pos k)=some q:=fun k q hq=>by
    by_cases hk:k<hin.length
    · obtain ⟨j,h3,_,_⟩:=hin_at (aA hk);have hbk:pN L pos k=j:=by simp [pN,h3]
      have hjp:j≠pos:=fun e=>hposL (e▸aO h3);rw [hbk,r3o j hjp,← keep hk h3];exact hq
    · by_cases hk2:k=hin.length
      · have hbk:pN L pos k=pos:=by unfold pN;rw [cX (by omega)]
        rw [hbk,r3p,← hk2];exact hq
      · have:=hs.dom k (by rw [aF,hlen,zW];omega)
        rw [this] at hq;cases hq
  have shift:∀ {x:AV} {y:Value},R S' w' x ρ' y→R S' w' (x.map (pN L pos)) ρ3 y:=fun {x y} hx=>U8 _ _ x y (nW (fun _ h=>h) (fun _ _=>rfl) x ρ' _ y pl (fun _ _ _ _ _ h=>h) hx);have shiftB:∀ {b:AB} {pp},RB S' w' ρ' pp b→RB S' w' ρ3 pp (b.map (pN L pos)):=fun {b pp} hb=>KI _ _ (RB.later (ρ:=ρ') (S:=S') ⟨pl,fun _ h=>h,fun _ _=>rfl,fun _ _ _ _ _ h=>h⟩ (fun _ _ _=>rfl) hb);have get:∀ {k:Nat} {b:AB},((zZ H L (hout.map (AB.map (pN L pos)))).set pos (b1.map (pN L pos)))[k]? = some b →
      (k≠pos∧k∉L∧H[k]? = some b)∨(∃ (i:Nat) (b':AB),(hout++[b1])[i]? = some b'∧b=b'.map (pN L pos)∧pN L pos i=k∧ρ3 k=ρ' i):=fun {k b} hb=>by
    rw [gZ] at hb;by_cases hk:pos=k
    · rw [if_pos hk,if_pos (by rw [lF];exact hposH)] at hb
      cases hb;refine .inr ⟨hin.length,b1,by rw [← hlen];simp,rfl,?_,by rw [← hk];exact r3p⟩
      unfold pN;rw [cX (by omega)]
      exact hk
    · rw [if_neg hk] at hb;by_cases hkL:k∈L
      · obtain ⟨i,hi⟩:=KJ.1 hkL;have hiL:i<hin.length:=by rw [← hL];exact (aB.1 hi).1
        have hb':=aA (l:=hout) (i:=i) (by omega)
        have hkl:k<H.length:=by
          have:=(aB.1 hb).1
          rwa [lF] at this
        rw [IK (b:=(hout[i]'(by omega)).map (pN L pos)) hnd hi (by simp [hb']) hkl] at hb
        simp only [Option.some.injEq] at hb;exact .inr ⟨i,_,by rw [aG (by omega)];exact hb',hb.symm,by simp [pN,hi],by rw [r3o k (fun e=>hk e.symm)];exact (keep hiL hi).symm⟩
      · rw [yC _ _ _ hkL] at hb;exact .inl ⟨fun e=>hk e.symm,hkL,hb⟩
  have mapg:∀ {θ:Nat→Nat} {b:AB},b.map θ≠.gone→b≠.gone:=fun hb e=>hb (by rw [e];rfl)
  refine ⟨ρ3,⟨fun k hk=>?_,fun k q hq=>?_,fun k b hb=>?_,fun k b q hb hg hq=>?_,fun k k' b b' q q' hb hb' hg hg' hq hq' e=>?_,hs.stab,s.ext.trans hs.ext (fun b hb hlt=>hcM b hb),fun b hb=>hs.st0 b (s.st0 b hb),fun b hb=>?_,?_,fun k hk=>?_,hs.glob⟩,l,shift,r3o⟩
  · rw [gW,lF] at hk;rw [r3o k (by omega)]
    exact s.dom k hk
  · by_cases hk:k=pos
    · rw [hk,r3p] at hq;exact hs.rng _ q hq
    · rw [r3o k hk] at hq;exact eL (s.rng k q hq) hs.ext.size
  · rcases get hb with ⟨h3,h4,h5⟩ | ⟨i,b',h3,rfl,h4,h5⟩
    · rw [r3o k h3];by_cases hg:b = .gone
      · subst hg;trivial
      · exact RB.later l (fun b1 o1 hp=>same b1 (s.rng k _ hp) (other h5 hg h4 hp)) (s.blk k b h5)
    · rw [h5];exact shiftB (hs.blk i b' h3)
  · rcases get hb with ⟨h3,h4,h5⟩ | ⟨i,b',h3,rfl,h4,h5⟩
    · rw [r3o k h3] at hq;obtain ⟨h7,h8⟩:=s.live k b q h5 hg hq;refine ⟨h7,fun hs'=>?_⟩
      rcases hs.st1 _ hs' with h9 | h9
      · exact h8 h9
      · exact other h5 hg h4 hq h9
    · rw [h5] at hq;obtain ⟨h7,h8⟩:=hs.live i b' q h3 (mapg hg) hq;exact ⟨hcM _ h7,h8⟩
  · rcases get hb with ⟨h3,h4,h5⟩ | ⟨i,b1,h3,rfl,h4,h5⟩ <;> rcases get hb' with ⟨h3',h4',h5'⟩ | ⟨i',b1',h3',rfl,h4',h5'⟩
    · rw [r3o k h3] at hq;rw [r3o k' h3'] at hq';exact s.inj k k' b b' q q' h5 h5' hg hg' hq hq' e
    · rw [r3o k h3] at hq;rw [h5'] at hq';have hl:=(hs.live i' b1' q' h3' (mapg hg') hq').1;rw [← e] at hl;exact absurd hl (other h5 hg h4 hq)
    · rw [r3o k' h3'] at hq';rw [h5] at hq;have hl:=(hs.live i b1 q h3 (mapg hg) hq).1;rw [e] at hl;exact absurd hl (other h5' hg' h4' hq')
    · rw [h5] at hq;rw [h5'] at hq';have:=hs.inj i i' b1 b1' q q' h3 h3' (mapg hg) (mapg hg') hq hq' e;subst this;rw [← h4,← h4']
  · rcases hs.st1 b hb with hb' | hb'
    · exact s.st1 b hb'
    · exact .inr (hcM b hb')
  · rw [gW,lF];exact s.mle
  · rw [r3o k (by omega)]
    exact s.keep k hk
theorem vD.up {θ:Nat→Nat}{h H:Hp}(hb:∀ (j:Nat) b,h[j]? = some b→b≠.gone→H[j]? = some b):∀ {hin:Hp}{i:Nat},(∀ b,b∈hin→b≠.gone)→vD θ h i hin→vD θ H i hin
  | [],_,_,_=>trivial
  | b::r,i,hng,hs=>by
    refine ⟨?_,vD.up hb (fun x hx=>hng x (aJ _ hx)) hs.2⟩;rcases hs.1 with h1 | h1
    · exact .inl h1
    · refine .inr (hb _ _ h1 ?_);have:=hng b aQ;cases b <;> simp [AB.map] at *
section
variable {P:Program}{env:eE}{h:Hp}{d:Option Nat}{ty:TypeId}{pos:String}{af:Array Edge}
theorem rL (L:List Nat){pp k:Nat}{nb b1 u1:AB}{uu:AV}{dd:Nat}{x:Operand}{f:FuncId}{fs cs us xs:List AV}{args:List Operand}{ats:Array TypeId}{res:AV}{hin hout:Hp}(hx:evu env x=some (.clo (.func f) fs cs)) (ha:xN env args=some us)
    (hc:aT P f xs hin res (hout++[b1])) (hxs:∀ N,fs++us++cs=AV.mapL (th L N) xs) (hL:L.length=hin.length) (hnd:L.Nodup) (hh:∀ N,vD (th L N) h 0 hin) (hng:∀ b,b∈hin→b≠.gone) (hlen:hout.length=hin.length)
    (hput:∀ H:Hp,(∀ (j:Nat) b,h[j]? = some b→b≠.gone→H[j]? = some b)→zZ H L (hout.map (AB.map (pN L pp)))=H.set k nb) (hu:res.map (pN L pp)=uu) (hb1:b1.map (pN L pp)=u1) :
    jE P ⟨some dd,.call { callee:=.value x,args:=args.toArray,argTypes:=ats },ty,pos,af,none⟩ env h pp k nb uu [u1]:=by
  intro c ρ S a w H g p hbel hpp K' Q hK';obtain ⟨hr0,hH0,hm0⟩:ρ pp=none∧H[pp]? = some .gone∧c.m≤pp:=by
    rcases hpp with h0 | h0
    · cases h0
    · exact h0
  have hxv:=p.evu hx;simp only [R] at hxv;obtain ⟨ys,zs,e1,h1,h2⟩:=hxv;have hall:RL S w (fs++us++cs) ρ (ys.toList++args.map a.eval++zs.toList):=iT (iT h1 (tW p ha)) h2;rw [hxs H.length] at hall;have hargs:=qG (th L H.length) ρ _ _ hall;obtain ⟨hf,hc⟩:=hc;have hsub:=vD.up hbel hng (hh H.length);have hs0:=g.hand hL hnd hsub;have hcall:=hc _ S w _ hs0 hargs;unfold Oper.wp;have hrun:(execOp a.eval ⟨some dd,.call { callee:=.value x,args:=args.toArray,argTypes:=ats },ty,pos,af,none⟩).run P w = .ok (.enter f (ys.toList++args.map a.eval++zs.toList).toArray) w:=by
    have e2:(ys++(args.toArray.map a.eval)++zs)=(ys.toList++args.map a.eval++zs.toList).toArray:=by
      apply Array.ext';simp
    simp only [execOp,resolve,e1,Deferred.ofValue,Sem.run_bind,Sem.run_pure,Result.andThen_ok,invoke];rw [e2];exact xB hf
  rw [hrun];simp only [Oper.upon];refine hcall.mono ?_;rintro e w' ⟨y,ρ',S',rfl,hs,hy⟩;simp only;obtain ⟨ρ3,g1,g2,g3,g4⟩:=g.callP hL hnd hsub hng hlen hr0 hH0 hm0 hs;rw [hput H hbel,hb1] at g1;exact hK' _ ρ3 S' w' g1 g2 (hu▸g3 hy) (fun j hj=>g4 j (hj (by simp)))
end
theorem pX.freezeP {n:Nat × Nat}{c:pA}{ρ:Pl}{S:Nat→Prop}{env:eE}{h:Hp}{a:Act}{w:World}{t k off:Nat}{cs:List AV}(s:pX n c ρ S env h a w) (ht:look env t=some (.ptr k off)) (hk:h[k]? = some (.cells cs)) (hi:AV.idfL cs=true) :
    pX n c ρ (fun b=>S b∨∃ o,ρ k=some (b,o)) ((t,.pr cs off)::env) (h.set k .gone) a w:=by
  refine ⟨s.size,s.defers.st (fun _ h=>.inl h),fun t' x hx=>?_,s.hs.freezeC hk (by simp),s.cm⟩
  rw [iF] at hx;split at hx
  · rename_i e;subst e;cases hx;exact DB hi (s.hs.blk k _ hk) (s.env t _ ht)
  · exact KF (fun _ h=>.inl h) (s.env t' x hx)
theorem AU {S S':Nat→Prop}{w:World}{ρ:Pl}{x x':AV}(hS:∀ b,S b→S' b) (hx:∀ y,R S w x ρ y→R S' w x' ρ y):∀ {cs:List AV}{f:Nat},cs[f]? = some x→∀ {ys:List Value},RL S w cs ρ ys→RL S' w (cs.set f x') ρ ys
  | [],f,hf,ys,h=>by simp at hf
  | c::cs,0,hf,ys,h=>by
    simp only [eK,Option.some.injEq] at hf;subst hf;simp only [RL,List.set_cons_zero] at h ⊢;obtain ⟨y,zs,e,h1,h2⟩:=h;exact ⟨y,zs,e,hx y h1,zK6 hS h2⟩
  | c::cs,f+1,hf,ys,h=>by
    simp only [kT] at hf;simp only [RL,List.set_cons_succ] at h ⊢;obtain ⟨y,zs,e,h1,h2⟩:=h;exact ⟨y,zs,e,KF hS h1,AU hS hx hf h2⟩
theorem pX.freezeIn {n:Nat × Nat}{c:pA}{ρ:Pl}{S:Nat→Prop}{env:eE}{h:Hp}{a:Act}{w:World}{j f k len sz:Nat}{cs:List AV}{es:List (List AV)}(s:pX n c ρ S env h a w) (hj:h[j]? = some (.cells cs)) (hf:cs[f]? = some (.sl k 0 len sz)) (hk:h[k]? = some (.arr es sz)) (hn:len=es.length) (hi:AV.idfL es.flatten=true) :
    pX n c ρ (fun b=>S b∨∃ o,ρ k=some (b,o)) env ((h.set k .gone).set j (.cells (cs.set f (.rowE es sz)))) a w:=by
  have hne:j≠k:=by rintro rfl;rw [hj] at hk;cases hk
  have h1:=s.hs.freeze hk;have hj':(h.set k .gone)[j]? = some (.cells cs):=by rw [iN (Ne.symm hne)];exact hj
  refine ⟨s.size,s.defers.st (fun _ h=>.inl h),fun t' x hx=>KF (fun _ h=>.inl h) (s.env t' x hx),h1.alter hj' (fun _=>?_) (by simp),s.cm⟩
  have hb:=s.hs.blk j _ hj;simp only [RB] at hb ⊢;obtain ⟨b,o,ys,e1,e2,e3⟩:=hb;refine ⟨b,o,ys,e1,e2,AU (fun _ h=>.inl h) (fun y hy=>?_) hf e3⟩;rw [hn] at hy;exact vP hi (s.hs.blk k _ hk) hy
section
variable {P:Program}{n:Nat × Nat}{ops:Array Oper}{env:eE}{h:Hp}{K:eE→Hp→Prop}{rest:List Oper}{Q:Exit→eE→Hp→Prop}{code:Code}
theorem fH (t:Nat){k off:Nat}{cs:List AV}(ht:look env t=some (.ptr k off)) (hk:h[k]? = some (.cells cs)) (hi:AV.idfL cs=true) (hv:AW P n code ((t,.pr cs off)::env) (h.set k .gone) Q):AW P n code env h Q:=
  fun c ρ S a w QQ s hQ=>hv c ρ _ a w QQ (s.freezeP ht hk hi) hQ
theorem nN (j f:Nat){k len sz:Nat}{cs:List AV}{es:List (List AV)}(hj:h[j]? = some (.cells cs)) (hf:cs[f]? = some (.sl k 0 len sz)) (hk:h[k]? = some (.arr es sz)) (hn:len=es.length) (hi:AV.idfL es.flatten=true) (hv:AW P n code env ((h.set k .gone).set j (.cells (cs.set f (.rowE es sz)))) Q):AW P n code env h Q:=
  fun c ρ S a w QQ s hQ=>hv c ρ _ a w QQ (s.freezeIn hj hf hk hn hi) hQ
end
theorem HS.snocG {c:pA}{ρ:Pl}{S:Nat→Prop}{H:Hp}{w:World}(s:HS c ρ S H w):HS c ρ S (H++[.gone]) w:=by
  have get:∀ {k:Nat} {b:AB},(H++[AB.gone])[k]? = some b→b≠.gone→H[k]? = some b:=fun {k b} hb hg=>by
    by_cases hk:k<H.length
    · rwa [aG hk] at hb
    · rw [aE (by omega)] at hb
      by_cases e:k-H.length=0
      · rw [e] at hb;simp at hb;exact absurd hb.symm hg
      · rw [cX (by simp;omega)] at hb;cases hb
  refine ⟨fun k hk=>s.dom k (by simp at hk;omega),s.rng,fun k b hb=>?_,fun k b q hb hg hq=>s.live k b q (get hb hg) hg hq,fun k k' b b' q q' hb hb' hg hg' hq hq' e=>s.inj k k' b b' q q' (get hb hg) (get hb' hg') hg hg' hq hq' e,s.stab,s.ext,s.st0,s.st1,by rw [aF];have:=s.mle;omega,s.keep,s.glob⟩
  by_cases hg:b = .gone
  · subst hg;trivial
  · exact s.blk k b (get hb hg)
theorem qF {P:Program}{f:FuncId}{args:List AV}{res:AV}{hin hout:Hp}(h:aT P f args hin res hout):aT P f args hin res (hout++[.gone]):=by
  refine ⟨h.1,fun ρ S w vs hs ha=>(h.2 ρ S w vs hs ha).mono ?_⟩;rintro e w' ⟨y,ρ',S',rfl,h2,h3⟩;exact ⟨y,ρ',S',rfl,h2.snocG,h3⟩
end Go.Ab
namespace Go.Ab
open Go
set_option maxHeartbeats 1000000
theorem FV {w:World}{n b off:Nat}{d:List Value}{os:Array Obj}{c:Array Value}{e:TypeId}(hc:w.heap[b]? = some (.cells c e (0,0))) (hb:b<w.heap.size) :
    (Sort.grow (Sort.putRow id (Sort.ahead w n) b off d.toArray) os).heap[b]? = some (.cells (Sort.putCells id off d.toArray c) e (0,0)):=by
  rw [Sort.heap_grow_old _ _ (by rw [Sort.size_putRow];exact hb)]
  unfold Sort.putRow Sort.mapBlock;show (w.heap.modify b _)[b]? = _;rw [zX,if_pos rfl,hc];rfl
theorem MG {w:World}{n b off:Nat}{d:List Value}{os:Array Obj}{c:Array Value}{e:TypeId}(hc:w.heap[b]? = some (.cells c e (0,0))) (hb:b<w.heap.size) :
    nU (fun x=>x=b) w (Sort.grow (Sort.putRow id (Sort.ahead w n) b off d.toArray) os):=by
  have other:∀ x,x<w.heap.size→x≠b→(Sort.grow (Sort.putRow id (Sort.ahead w n) b off d.toArray) os).heap[x]? = w.heap[x]?:=fun x hx hne=>by
    rw [Sort.heap_grow_old _ _ (by rw [Sort.size_putRow];exact hx)]
    unfold Sort.putRow Sort.mapBlock;show (w.heap.modify b _)[x]? = _;rw [zX,if_neg (Ne.symm hne)]
  refine ⟨rfl,rfl,rfl,by rw [Sort.size_grow,Sort.size_putRow];exact iV _ _,fun x hx hne=>other x hx hne,fun x cc ee fz hcc=>?_⟩
  by_cases hx:x=b
  · subst hx;rw [hc] at hcc;cases hcc;exact ⟨_,_,FV hc hb,by simp [Sort.putCells]⟩
  · exact ⟨cc,fz,by rw [other x (aR.1 hcc).1 hx];exact hcc,rfl⟩
theorem zP6 {c:pA}{ρ:Pl}{S:Nat→Prop}{es es':List (List AV)}{sz:Nat}{w w':World}{b o n:Nat}{ys ys' Z:List Value}(s:HS c ρ S [.arr es sz] w) (hp:ρ 0=some (b,o)) (hne:es≠[])
    (hys:X5 w b o ys) (hl:(ys'++Z).length=ys.length) (he:∀ e,e∈es'→e.length=sz) (hr:∀ S' w',iJ ρ ρ S S' w w'→RL S' w' es'.flatten ρ ys')
    (hw:w'=Sort.putRow id (Sort.ahead w n) b o (ys'++Z).toArray):HS c ρ S [.arr es' sz] w':=by
  obtain ⟨_,h0,h3⟩:=s.blk 0 _ rfl;obtain ⟨c,ty,hc,hg⟩:=hys;have hb:=(aR.1 hc).1;have hw2:w'=Sort.grow (Sort.putRow id (Sort.ahead w n) b o (ys'++Z).toArray) #[]:=by rw [hw,M9]
  have hh:w'.heap[b]? = some (.cells (Sort.putCells id o (ys'++Z).toArray c) ty (0,0)):=by rw [hw2];exact FV hc hb
  obtain ⟨s',_⟩:=s.upd (k:=0) (b0:=.arr es sz) (nb:=.arr es' sz) (w':=w') rfl (by simp) hp (by rw [hw2];exact MG hc hb) (fun l=>by
    refine ⟨he,h0,.inr ⟨b,o,ys',rfl,⟨_,ty,hh,fun j y hj=>?_⟩,hr _ _ l⟩⟩
    obtain ⟨hjl,hz⟩:=aB.1 hj;rw [aF] at hl;have hold:=hg j (ys[j]'(by omega)) (aA (by omega))
    unfold Sort.putCells;rw [KN,hold];show some (if o≤o+j∧o+j<o+(ys'++Z).toArray.size then _ else _)=_
    have hsz:(ys'++Z).toArray.size=ys'.length+Z.length:=by simp
    rw [if_pos ⟨by omega,by omega⟩]
    congr 1;rw [show o+j-o=j by omega,getElem!_pos _ j (by omega)]
    show (ys'++Z).toArray[j]'_=y
    rw [D7,List.getElem_append_left hjl];exact hz)
  exact s'
theorem XA {es:List (List AV)}{sz:Nat}(h:∀ e,e∈es→e.length=sz) (m:Nat):(es.drop m).flatten=es.flatten.drop (m*sz):=by
  induction es generalizing m with
  | nil=>simp
  | cons a l ih=>
    have ha:=h a aQ;cases m with
    | zero=>simp
    | succ m=>
      rw [List.drop_succ_cons,eQ,ih (fun e he=>h e (aJ _ he)),List.drop_append];rw [dC (l:=a) (by rw [ha,eM];omega),ha,eM,Y6,XP,List.nil_append]
theorem zK7 {S:Nat→Prop}{w:World}{ρ:Pl}:∀ {xs as_:List AV}{ys bs:List Value},RL S w xs ρ ys→RL S w as_ ρ bs→RL S w (xs++as_) ρ (ys++bs)
  | [],as_,ys,bs,h,h'=>by simp only [RL] at h;subst h;exact h'
  | x::xs,as_,ys,bs,h,h'=>by
    simp only [RL] at h;obtain ⟨y,zs,rfl,h1,h2⟩:=h;exact ⟨y,zs++bs,rfl,h1,zK7 h2 h'⟩
theorem UP {S:Nat→Prop}{w:World}{ρ:Pl}:∀ {xs:List AV}{ys:List Value},RL S w xs ρ ys→xs.all AV.one=true→∀ u,u∈ys→u.oneCell'=true
  | [],ys,h,_,u,hu=>by simp only [RL] at h;subst h;cases hu
  | x::xs,ys,h,h1,u,hu=>by
    simp only [RL] at h;obtain ⟨y,zs,rfl,h2,h3⟩:=h;simp only [A8,aN] at h1;rcases bN.1 hu with rfl | hu
    · exact IQ h2 h1.1
    · exact UP h3 h1.2 u hu
theorem I1 {P : Program} {f : FuncId} {sz : Nat} (hfn : ∃ fn, P.funcs[f]? = some fn ∧ (fn.name == "runtime.NumGoroutine") = false ∧ fn.body.isNone = false)
    (hs:∀ (blk off cap len i j:Nat) (cs:List Value) (w:World),cs.length=len*sz→Sort.Holds id w blk off cs.toArray→(∀ u,u∈cs→u.oneCell'=true)→len≤cap→cap≤9223372036854775807→i≤j→j≤len →
      Calls P f #[.slice (some ⟨blk,off,none⟩) len cap,.int .i64 i,.int .i64 j] w fun e w'=>e = .returned (.slice (some ⟨blk,off,none⟩) (len-(j-i)) cap)∧∃ (q:Nat) (Z:List Value),Z.length=(j-i)*sz∧w'=Sort.putRow id (Sort.ahead w q) blk off (cs.take (i*sz)++cs.drop (j*sz)++Z).toArray)
    (es:List (List AV)) (hes:∀ e,e∈es→e.length=sz) (h1:es.flatten.all AV.one=true) (i j:Nat) (hij:i≤j) (hj:j≤es.length) (hne:es≠[]) :
    aT P f [.sl 0 0 es.length sz,.i (i:Int),.i (j:Int)] [.arr es sz] (.sl 0 0 (es.length-(j-i)) sz) [.arr (es.take i++es.drop j) sz]:=by
  refine ⟨hfn,fun ρ S w vs s hv=>?_⟩
  simp only [RL] at hv;obtain ⟨y,_,rfl,hy,y2,_,rfl,hy2,y3,_,rfl,hy3,rfl⟩:=hv;simp only [R] at hy hy2 hy3;subst hy2 hy3;obtain ⟨a,cap,rfl,hcap,hy⟩:=hy;have hl0:0<es.length:=fD.2 hne;rcases hy with ⟨h0,_⟩ | ⟨b,o,hp,ha,hcl,hrm⟩
  · omega
  · obtain ⟨_,hs0,hB⟩:=s.blk 0 _ rfl;rcases hB with hB | ⟨b',o',ys,h4,h5,h6⟩
    · exact absurd hB.1 hne
    · rw [hp] at h4;cases h4;rw [ER,Nat.add_zero] at ha;subst ha;have hmax:maxLen≤9223372036854775807:=by decide
      have hyl:ys.length=es.length*sz:=by rw [gD h6,eP hes]
      obtain ⟨cc,ct,hcc,hcg⟩:=h5;have hH:Sort.Holds id w b o ys.toArray:=fun t ht=>by
        have ht':t<ys.length:=by simpa using ht
        have h7:=hcg t ys[t] (aA ht');refine ⟨?_,?_⟩
        · show w.cell? ⟨b,o+t,none⟩=some (ys.toArray[t]!);rw [getElem!_pos _ t ht];simp only [World.cell?,hcc];rw [D7];exact h7
        · simp [World.frozen?,hcc]
      refine (hs b o cap es.length i j ys w hyl hH (UP h6 h1) hcl (by omega) hij hj).mono fun e w' ⟨he,q,Z,hZ,hw⟩=>?_
      subst he;have hil:i*sz≤j*sz:=fE _ hij;have hjl:j*sz≤es.length*sz:=fE _ hj;have hsub:(j-i)*sz=j*sz-i*sz:=Nat.sub_mul _ _ _;have s':=zP6 (es':=es.take i++es.drop j) (ys:=ys) (ys':=ys.take (i*sz)++ys.drop (j*sz)) (Z:=Z) (n:=q) s hp hne ⟨cc,ct,hcc,hcg⟩ (by simp only [aF,bH,dQ,hZ]; omega)
        (fun e he=>by rcases bL.1 he with he | he;exact hes e (dS he);exact hes e (eA he))
        (fun S' w' l=>by
          rw [fU,F8 hes,XA hes]
          exact zK7 (rO (h6.later l) _) (vY (h6.later l) _)) hw
      have hsz0:=hs0;refine ⟨_,ρ,S,rfl,s',?_⟩;simp only [R];refine ⟨_,cap,rfl,hcap,.inr ⟨b,o,hp,by simp,by omega,?_⟩⟩
      rw [hw];have hb:=(aR.1 hcc).1;have hw2:Sort.putRow id (Sort.ahead w q) b o (ys.take (i*sz)++ys.drop (j*sz)++Z).toArray=Sort.grow (Sort.putRow id (Sort.ahead w q) b o (ys.take (i*sz)++ys.drop (j*sz)++Z).toArray) #[]:=by rw [M9]
      rw [hw2];exact (MG hcc hb).room hrm
theorem BQ {P:Program}(w:World) (t e ty:TypeId) (z:Value) (ht:P.underlying t=some (.slice e)) (hv:∀ w,(zeroValue e).run P w = .ok z w) (hz:z.cells.toList≠[]) (h1:∀ u,u∈z.cells.toList→u.oneCell'=true) (b o n c:Nat) (hn:0<n)
    (hc:∀ j,j<n*z.cells.toList.length→(w.cell? ⟨b,o+j,none⟩).isSome=true) (hf:∀ j,j<n*z.cells.toList.length→w.frozen? ⟨b,o+j,none⟩=false) :
    (Builtin.clear_ #[t] ty #[.slice (some ⟨b,o,none⟩) n c]).run P w = .ok (.tuple #[]) (w.setCells b o (Builtin.zeroCells z.cells n).toList):=by
  obtain ⟨hm,hl⟩:=qX (z:=z.cells) rfl hz n;have hst:=run_storeCells_cells (P:=P) b o (Builtin.zeroCells z.cells n).toList 0 w (fun j hj=>by simpa using hc j (by omega)) (fun j hj=>by simpa using hf j (by omega)) (fun v hv'=>h1 v (hm v hv'))
  simp only [Nat.add_zero] at hst;obtain ⟨m,rfl⟩:∃ m,n=m+1:=⟨n-1,by omega⟩
  simp [Builtin.clear_,run_underlying ht,hv,hst]
end Go.Ab
