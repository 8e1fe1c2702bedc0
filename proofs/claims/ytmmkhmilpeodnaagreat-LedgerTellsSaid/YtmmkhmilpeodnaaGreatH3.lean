/-
  Texts of the logic and of the layer,in one module (part 3).
-/
import Derived.Test.YtmmkhmilpeodnaaGreatH2
import Derived.RangeFuncSeq
import Derived.Sort.Grow
import Derived.Lib.SliceRun
import Derived.SizedLaws
import Derived.Maps.RangeRun
import Derived.Lib.AppendStr
import Derived.Laws.Concat
import Derived.Laws.Strings
import Derived.Laws.Strings2
import Derived.Laws.Strings3
import Derived.Lib.UnsafeStr
import Derived.RangeFuncGives
import Derived.Lib.SlKeysI
import Derived.Maps.Own
import Derived.Deep.Draws
import Derived.Lib.LaidTab
import Derived.Lib.ItoaNum
import Derived.Lib.Builder
import Derived.Laws.Pointers
import Derived.Shelf.Lay
import Derived.Shelf.Sort.Plain
import Derived.Shelf.Slices.In.SortNone
import Derived.Ground.NamesProg
import Derived.WalkKit
set_option linter.unusedVariables false
set_option linter.unusedSimpArgs false
set_option linter.unnecessarySimpa false

namespace Go.Ab
open Go
theorem yK0 {S S':Nat→Prop}{w:World}{ρ:Pl}{x:AV}{y:Value}(hS:∀ b,S b→S' b) (h:R S w x ρ y):R S' w x ρ y:=
  nP hS (fun _ _=>rfl) x ρ ρ y (fun _ _ h=>h) (fun _ _ _ _ _ h=>h) h
theorem yI8 {S S':Nat→Prop}{w:World}{ρ:Pl}{p:Option (Nat × Nat)}{x:AB}(hS:∀ b,S b→S' b) (h:RB S w ρ p x):RB S' w ρ p x:=
  CM (fun b _ _ hb _=>hS b hb) (fun _ _ _ h=>h) h
theorem HS.re {c:oP}{ρ:Pl}{S:Nat→Prop}{h:Hp}{w:World}(s:HS c ρ S h w) (c':oP) (hM:∀ (k:Nat) x p,h[k]? = some x→x≠.gone→ρ k=some p→c'.M p.1) (hext:nQ c'.M c'.w0 w) (h0:∀ b,c'.S0 b→S b) (h1:∀ b,S b→c'.S0 b∨c'.M b) (hm:c'.m≤h.length) (hk:∀ k,k<c'.m→ρ k=c'.ρ0 k):HS c' ρ S h w:=
  ⟨s.dom,s.rng,s.blk,fun k b p hb hg hp=>⟨hM k b p hb hg hp,(s.live k b p hb hg hp).2⟩,s.inj,s.stab,hext,h0,h1,hm,hk,s.glob⟩
theorem HS.world {c:oP}{ρ:Pl}{S N:Nat→Prop}{h:Hp}{w w':World}(s:HS c ρ S h w) (x:nQ N w w') (hS:∀ b,S b→¬ N b) (hl:∀ (k:Nat) y p,h[k]? = some y→y≠.gone→ρ k=some p→¬ N p.1) (hM:∀ b,b<c.w0.heap.size→N b→c.M b):HS c ρ S h w'∧iX ρ ρ S S w w':=by
  have l:iX ρ ρ S S w w':=⟨fun _ _ h=>h,fun _ h=>h,fun b hb=>x.same b (s.stab b hb) (hS b hb),fun _ _ _ _ _ hr=>x.room hr⟩
  refine ⟨⟨s.dom,fun k p hp=>eG (s.rng k p hp) x.size,fun k b hb=>?_,s.live,s.inj,fun b hb=>eG (s.stab b hb) x.size,s.ext.trans x (fun b hb hlt=>hM b hlt hb),s.st0,s.st1,s.mle,s.keep,s.glob.later l⟩,l⟩;by_cases hg:b = .gone
  · subst hg;trivial
  · exact RB.later l (fun b' o hp=>x.same b' (s.rng k _ hp) (hl k b _ hb hg hp)) (s.blk k b hb)
theorem HS.more {c:oP}{ρ:Pl}{S S':Nat→Prop}{h:Hp}{w:World}(s:HS c ρ S h w) (hS:∀ b,S b→S' b) (hlt:∀ b,S' b→b<w.heap.size) (hl:∀ (k:Nat) y p,h[k]? = some y→y≠.gone→ρ k=some p→¬ S' p.1) (h1:∀ b,S' b→c.S0 b∨c.M b):HS c ρ S' h w:=
  ⟨s.dom,s.rng,fun k b hb=>yI8 hS (s.blk k b hb),fun k b p hb hg hp=>⟨(s.live k b p hb hg hp).1,hl k b p hb hg hp⟩,s.inj,hlt,s.ext,fun b hb=>hS b (s.st0 b hb),h1,s.mle,s.keep,s.glob.st hS⟩
theorem HD {w:World}{l:Nat}{o o':Obj}(hl:w.heap[l]? = some o) (hn:∀ c e fz,o≠.cells c e fz):nQ (fun b=>b=l) w (w.putObj l o'):=
  ⟨rfl,rfl,rfl,by rw [World.putObj_size];exact bA _,fun b _ hb=>pO hb,fun b c e fz hc=>⟨c,fz,by
    have:b≠l:=fun e'=>by rw [e',hl] at hc;cases hc;exact hn _ _ _ rfl
    rw [pO this];exact hc,rfl⟩⟩
theorem HS.put {c:oP}{ρ:Pl}{S:Nat→Prop}{h:Hp}{w:World}{l:Nat}{o:Obj}(s:HS c ρ S h w) (hl:w.heap[l]? = some o) (hn:∀ c e fz,o≠.cells c e fz) (hm:zR9 o=false) (o':Obj) (hM:l<c.w0.heap.size→c.M l) (h0:¬ c.S0 l) :
    HS c ρ (fun b=>S b∧b≠l) h (w.putObj l o')∧∀ x y,R S w x ρ y→R (fun b=>S b∧b≠l) (w.putObj l o') x ρ y:=by
  have hmm:∀ (b:Nat) q,uB q=true→w.heap[b]? = some q→b≠l:=fun b q hq hb e'=>by
    rw [e',hl] at hb;cases hb;cases o <;> first | (cases hq;done) | exact hn _ _ _ rfl | (rw [zR9] at hm;cases hm)
  have a1:∀ (b:Nat) q,uB q=true→S b→w.heap[b]? = some q→S b∧b≠l:=fun b q hq h1 h2=>⟨h1,hmm b q hq h2⟩
  have a2:∀ (b:Nat) q,uB q=true→w.heap[b]? = some q→(w.putObj l o').heap[b]? = some q:=fun b q hq h2=>by rw [pO (hmm b q hq h2)];exact h2
  refine ⟨⟨s.dom,fun k p hp=>by rw [World.putObj_size];exact s.rng k p hp,fun k b hb=>CM a1 a2 (s.blk k b hb),fun k b p hb hg hp=>⟨(s.live k b p hb hg hp).1,fun h=>(s.live k b p hb hg hp).2 h.1⟩,s.inj,fun b hb=>by rw [World.putObj_size];exact s.stab b hb.1,s.ext.trans (HD hl hn) (fun b hb hlt=>by subst hb;exact hM hlt),fun b hb=>⟨s.st0 b hb,fun e=>h0 (e▸hb)⟩,fun b hb=>s.st1 b hb.1,s.mle,s.keep,s.glob.cells a1 a2⟩,fun x y hx=>N3 a1 a2 x ρ y hx⟩
abbrev JT:=Nat × Bool→(Nat→Prop)→(Nat→Prop)→World→Prop
structure zG5 (J:JT):Prop where
  st:∀ {g W N w w'},J g W N w→nQ (fun b=>¬ N b) w w'→J g W N w'
  sub:∀ {g W N w},J g W N w→∀ b,W b→N b
  lt:∀ {g W N w},J g W N w→∀ b,N b→b<w.heap.size
structure yA7 (J:JT) (A:Nat→Prop) (g:Nat × Bool) (c:oP) (ρ:Pl) (S:Nat→Prop) (h:Hp) (w:World) (W N:Nat→Prop):Prop where
  j:J g W N w
  live:∀ (k:Nat) x p,h[k]? = some x→x≠.gone→ρ k=some p→¬ N p.1
  st:∀ b,S b→¬ W b
  cell:∀ b,S b→c.lo≤b→N b→Q9 w b
  wm:∀ b,W b→c.M b
  accS:∀ b,S b→A b
  accM:∀ b,c.M b→A b
  nn:∀ b,N b→c.nb b∨c.S0 b∨c.M b
def JS (J:JT) (A:Nat→Prop) (g:Nat × Bool) (c:oP) (ρ:Pl) (S:Nat→Prop) (h:Hp) (w:World):Prop:=∃ W N,yA7 J A g c ρ S h w W N
def oP.re (c:oP) (w:World) (S N:Nat→Prop) (hn:∀ b,N b→b<w.heap.size) (hs:c.w0.heap.size≤w.heap.size):oP where
  w0:=w
  M:=fun b=>c.M b∧¬ N b
  new:=fun b hb=>⟨c.new b (bP hs hb),fun h=>by have:=hn b h;omega⟩
  S0:=S
  ρ0:=c.ρ0
  m:=c.m
  lo:=c.lo
  lole:=bP c.lole hs
  r:=c.r
  nb:=c.nb
section
variable {P:Program}{J:JT}{A:Nat→Prop}{g:Nat × Bool}{n:Nat × Nat}{c:oP}{ρ:Pl}{S W N:Nat→Prop}{env:eH}{h:Hp}{a:Act}{w:World}
theorem pZ.re (s:pZ n c ρ S env h a w) (j:yA7 J A g c ρ S h w W N) (hn:∀ b,N b→b<w.heap.size) (hs:c.w0.heap.size≤w.heap.size):pZ n (c.re w S N hn hs) ρ S env h a w:=
  ⟨s.size,s.defers,s.env,s.hs.re _ (fun k x p hx hg hp=>⟨(s.hs.live k x p hx hg hp).1,j.live k x p hx hg hp⟩) (nQ.refl _ _) (fun _ h=>h) (fun _ h=>.inl h) s.hs.mle s.hs.keep,s.cm⟩
theorem pZ.un {ρ':Pl}{S':Nat→Prop}{env':eH}{h':Hp}{a':Act}{w':World}(hJ:zG5 J) (s:pZ n c ρ S env h a w) (j:yA7 J A g c ρ S h w W N) (hn:∀ b,N b→b<w.heap.size) (hs:c.w0.heap.size≤w.heap.size) (s':pZ n (c.re w S N hn hs) ρ' S' env' h' a' w') :
    pZ n c ρ' S' env' h' a' w'∧yA7 J A g c ρ' S' h' w' W N:=by
  have hx:nQ (fun b=>c.M b∧¬ N b) w w':=s'.hs.ext;have hl:∀ (k:Nat) x p,h'[k]? = some x→x≠.gone→ρ' k=some p→c.M p.1∧¬ N p.1:=fun k x p a1 a2 a3=>(s'.hs.live k x p a1 a2 a3).1;have hst:∀ b,S' b→S b∨(c.M b∧¬ N b):=fun b hb=>s'.hs.st1 b hb
  refine ⟨⟨s'.size,s'.defers,s'.env,s'.hs.re c (fun k x p a1 a2 a3=>(hl k x p a1 a2 a3).1) (s.hs.ext.trans hx fun b hb _=>hb.1) (fun b hb=>s'.hs.st0 b (s.hs.st0 b hb)) (fun b hb=>(hst b hb).elim (s.hs.st1 b) fun h=>.inr h.1) s'.hs.mle s'.hs.keep,s'.cm⟩,?_⟩;refine ⟨hJ.st j.j (hx.mono fun b _ hb=>hb.2),fun k x p a1 a2 a3=>(hl k x p a1 a2 a3).2,fun b hb hw=>?_,fun b hb h1 h2=>?_,j.wm,fun b hb=>(hst b hb).elim (j.accS b) fun h=>j.accM b h.1,j.accM,j.nn⟩
  · rcases hst b hb with h1 | h1
    · exact j.st b h1 hw
    · exact h1.2 (hJ.sub j.j b hw)
  · rcases hst b hb with h3 | h3
    · obtain ⟨cc,e,h4⟩:=j.cell b h3 h1 h2;exact ⟨cc,e,by rw [hx.same b (hn b h2) fun h=>h.2 h2];exact h4⟩
    · exact absurd h2 h3.2
theorem JS.sub {L:List Nat}{h':Hp}(s:HS c ρ S h w) (hl:L.length=h'.length) (hh:uH (th L h.length) h 0 h') (j:JS J A g c ρ S h w):JS J A g c (fun k=>ρ (th L h.length k)) S h' w:=by
  obtain ⟨W,N,j⟩:=j;refine ⟨W,N,j.j,fun k x p hx hg hp=>?_,j.st,j.cell,j.wm,j.accS,j.accM,j.nn⟩
  have h1:=hh.get k x hx;rw [Nat.zero_add] at h1;exact j.live _ _ p (h1.resolve_left hg) (by cases x <;> simp [AB.map] at *) hp
end
def CU (P:Program) (l:Nat) (J:JT) (A:Nat→Prop) (items:Nat→List AV) (N:Nat):Prop:=
  ∀ k,k<N→∀ W Nn w S vs,J (k,false) W Nn w→(∀ b,S b→A b∧¬ W b∧Q9 w b)→RL S w (items k) (fun _=>none) vs →
    YieldAt Fence.wide 0 P l vs.toArray w fun e w'=>∃ (b:Bool) (W' N':Nat→Prop),e = .returned (.bool b)∧J (k+1,!b) W' N' w'∧nQ W w w'∧(∀ x,W' x→W x∨w.heap.size≤x)∧(∀ x,N' x→Nn x∨S x∨w.heap.size≤x)
def AY (P:Program) (J:JT) (A:Nat→Prop) (n:Nat × Nat) (code:Code) (g:Nat × Bool) (env:eH) (h:Hp) (Q:Nat × Bool→Exit→eH→Hp→Prop):Prop:=
  ∀ c ρ S a w QQ,pZ n c ρ S env h a w→JS J A g c ρ S h w→(∀ g' e env' h' ρ' S' a' w',Q g' e env' h'→pZ n c ρ' S' env' h' a' w'→JS J A g' c ρ' S' h' w'→QQ e a' w')→code.wpIn (rd c.r) 0 P QQ a w
def VY (P:Program) (J:JT) (A:Nat→Prop) (n:Nat × Nat) (ops:Array Oper) (rest:List Oper) (g:Nat × Bool) (env:eH) (h:Hp) (K:Nat × Bool→eH→Hp→Prop):Prop:=
  ∀ c ρ S a w Q,pZ n c ρ S env h a w→JS J A g c ρ S h w→(∀ e a w,Q e a w→e=Exit.normal)→(∀ g' env' h' ρ' S' a' w',K g' env' h'→pZ n c ρ' S' env' h' a' w'→JS J A g' c ρ' S' h' w'→Q .normal a' w')→wpListIn (rd c.r) 0 P ops Q rest a w
def YW (K:Nat × Bool→eH→Hp→Prop) (Q:Nat × Bool→Exit→eH→Hp→Prop):Nat × Bool→Exit→eH→Hp→Prop
  | g,.normal,v,h=>K g v h
  | g,e,v,h=>Q g e v h
def OY (id:Nat) (Q:Nat × Bool→Exit→eH→Hp→Prop):Nat × Bool→Exit→eH→Hp→Prop
  | g,.exit id',v,h=>if id'=id then Q g .normal v h else Q g (.exit id') v h
  | g,e,v,h=>Q g e v h
section
variable {P:Program}{J:JT}{A:Nat→Prop}{n:Nat × Nat}{g:Nat × Bool}{env:eH}{h:Hp}{Q:Nat × Bool→Exit→eH→Hp→Prop}
theorem qR {code:Code}(hJ:zG5 J) (hv:AW P n code env h (fun e v h=>Q g e v h)):AY P J A n code g env h Q:=by
  intro c ρ S a w QQ s ⟨W,N,j⟩ hQ;have hn:=hJ.lt j.j;refine hv (c.re w S N hn s.hs.ext.size) ρ S a w QQ (s.re j hn s.hs.ext.size) fun e env' h' ρ' S' a' w' hq s'=>?_
  obtain ⟨h1,h2⟩:=s.un hJ j hn s.hs.ext.size s';exact hQ g e env' h' ρ' S' a' w' hq h1 ⟨W,N,h2⟩
theorem yE {x y:Code}(hx:AY P J A n x g env h (YW (fun g v h=>AY P J A n y g v h Q) Q)):AY P J A n (.seq x y) g env h Q:=by
  intro c ρ S a w QQ s j hQ;refine wpIn_seq (hx c ρ S a w _ s j fun g' e env' h' ρ' S' a' w' k s' j'=>?_);cases e with
  | normal=>exact k c ρ' S' a' w' QQ s' j' hQ
  | _=>exact hQ g' _ env' h' ρ' S' a' w' k s' j'
theorem Z1 (hk:Q g .normal env h):AY P J A n .skip g env h Q:=fun _ _ _ _ _ _ s j hQ=>wpIn_skip (hQ _ _ _ _ _ _ _ _ hk s j)
theorem HR {id:Nat}(hk:Q g (.exit id) env h):AY P J A n (.exit id) g env h Q:=fun _ _ _ _ _ _ s j hQ=>wpIn_exit (hQ _ _ _ _ _ _ _ _ hk s j)
theorem zC8 (hk:Q g .ret env h):AY P J A n .ret g env h Q:=fun _ _ _ _ _ _ s j hQ=>wpIn_ret (hQ _ _ _ _ _ _ _ _ hk s j)
theorem B5 {id:Nat}{x:Code}(hx:AY P J A n x g env h (OY id Q)):AY P J A n (.block id x) g env h Q:=by
  intro c ρ S a w QQ s j hQ;refine wpIn_block (hx c ρ S a w _ s j fun g' e env' h' ρ' S' a' w' k s' j'=>?_);cases e with
  | exit id'=>
    by_cases hid:id'=id
    · simp only [OY,hid,if_true] at k;simp only [Exit.inBlock,hid,if_true];exact hQ g' _ env' h' ρ' S' a' w' k s' j'
    · simp only [OY,hid,if_false] at k;simp only [Exit.inBlock,hid,if_false];exact hQ g' _ env' h' ρ' S' a' w' k s' j'
  | _=>exact hQ g' _ env' h' ρ' S' a' w' k s' j'
theorem yG {x:Operand}{b:Bool}{p q:Code}(hx:ev env x=some (.b b)) (ht:b=true→AY P J A n p g env h Q) (hf:b=false→AY P J A n q g env h Q):AY P J A n (.cond x p q) g env h Q:=by
  intro c ρ S a w QQ s j hQ;have hb:=s.ev hx;simp only [R] at hb;exact wpIn_cond_split hb (fun h1=>ht h1 c ρ S a w QQ s j hQ) (fun h1=>hf h1 c ρ S a w QQ s j hQ)
theorem zZ8 {code:Code}{env':eH}{h':Hp}(hs:IE n.2 env h env' h') (hk:AY P J A n code g env' h' Q):AY P J A n code g env h Q:=by
  intro c ρ S a w QQ s j hQ;obtain ⟨L,h1,h2,h3,h4,h5⟩:=hs;exact hk c _ S a w QQ ⟨s.size,s.defers,fun t x hx=>V3 _ ρ _ _ (s.env t _ (h2.look t x hx)),s.hs.sub h1 h3 h4 (fun i hi=>h5 i (s.cm▸hi)),s.cm⟩ (JS.sub s.hs h1 h3 j) hQ
theorem HQ {body:Code}{X:Type}(E:X→eH) (H:X→Hp) (G:X→Nat × Bool) (μ:X→Nat) (x0:X) (hg:g=G x0) (h0:IE n.2 env h (E x0) (H x0))
    (round:∀ x,AY P J A n body (G x) (E x) (H x) (YW (fun g v h=>∃ x',μ x'<μ x∧g=G x'∧IE n.2 v h (E x') (H x')) Q)):AY P J A n (.loop body) g env h Q:=by
  subst hg;refine zZ8 h0 ?_;intro c ρ S a w QQ s0 j0 hQ b k cs hro hb hr;have key:∀ m x,μ x=m→∀ ρ S a w,pZ n c ρ S (E x) (H x) a w→JS J A (G x) c ρ S (H x) w→∃ e a' w',QQ e a' w'∧ArrivesIn (Machine.fenced P (rd c.r)) P (lone (b.atR a (.code body :: .inLoop body::k)) cs w) b k cs e a' w':=by
    intro m
    induction m using Nat.strongRecOn with
    | _ m ih=>
      intro x hx ρ S a w s j;obtain ⟨e,a₁,w₁,hq,harr⟩:=round x c ρ S a w (fun e a' w'=>∃ g' env' h' ρ' S',YW (fun g v h=>∃ x',μ x'<μ x∧g=G x'∧IE n.2 v h (E x') (H x')) Q g' e env' h'∧pZ n c ρ' S' env' h' a' w'∧JS J A g' c ρ' S' h' w') s j (fun g' e env' h' ρ' S' a' w' hq s' j'=>⟨g',env',h',ρ',S',hq,s',j'⟩) b (.inLoop body::k) cs hro hb hr;obtain ⟨g',env',h',ρ',S',hq,s',j'⟩:=hq;cases e with
      | normal=>
        obtain ⟨x',hlt,rfl,L,h1,h2,h3,h4,h5⟩:=hq;have s2:pZ n c (fun k=>ρ' (th L h'.length k)) S' (E x') (H x') a₁ w₁:=⟨s'.size,s'.defers,fun t x hx=>V3 _ ρ' _ _ (s'.env t _ (h2.look t x hx)),s'.hs.sub h1 h3 h4 (fun i hi=>h5 i (s'.cm▸hi)),s'.cm⟩;obtain ⟨e₂,a₂,w₂,hq₂,harr₂⟩:=ih (μ x') (hx▸hlt) x' rfl _ S' a₁ w₁ s2 (JS.sub s'.hs h1 h3 j');exact ⟨e₂,a₂,w₂,hq₂,.of_steps (StepsIn.trans harr (.one (fenced_calm hb hr rfl) stepR_inLoop)) harr₂⟩
      | exit id=>exact ⟨_,a₁,w₁,hQ _ _ env' h' ρ' S' a₁ w₁ hq s' j',.pass (x:=.inLoop body) rfl (fun _ _=>.inl (by simp)) harr⟩
      | goto l=>exact ⟨_,a₁,w₁,hQ _ _ env' h' ρ' S' a₁ w₁ hq s' j',.pass (x:=.inLoop body) rfl (fun _ _=>.inl (by simp)) harr⟩
      | ret=>exact ⟨_,a₁,w₁,hQ _ _ env' h' ρ' S' a₁ w₁ hq s' j',.pass (x:=.inLoop body) rfl (fun _ _=>.inl (by simp)) harr⟩
      | panic ch=>exact ⟨_,a₁,w₁,hQ _ _ env' h' ρ' S' a₁ w₁ hq s' j',.pass (x:=.inLoop body) rfl (fun _ _=>.inl (by simp)) harr⟩
      | outgrown=>exact ⟨_,a₁,w₁,hQ _ _ env' h' ρ' S' a₁ w₁ hq s' j',.pass (x:=.inLoop body) rfl (fun _ _=>.inl (by simp)) harr⟩
  obtain ⟨e,a',w',hq,harr⟩:=key _ x0 rfl ρ S a w s0 j0;exact ⟨e,a',w',hq,.of_steps (.one (fenced_calm hb hr rfl) stepR_loop) harr⟩
theorem FH {id:Nat}{l:List Oper}(hv:VY P J A n l.toArray l g env h (fun g v h=>Q g .normal v h)):AY P J A n (.region id l.toArray false) g env h Q:=by
  intro c ρ S a w QQ s j hQ;exact wpIn_mono (wpIn_region_lit (hv c ρ S a w (fun e a w=>e = .normal∧QQ .normal a w) s j (fun e a w h=>h.1) fun g' env' h' ρ' S' a' w' k s' j'=>⟨rfl,hQ g' .normal env' h' ρ' S' a' w' k s' j'⟩)) fun e a w he=>by obtain ⟨rfl,h3⟩:=he;exact h3
end
theorem KM {F:Fence}{m:Nat}{P:Program}{o:Oper}{a:Act}{w:World}{K:Act→World→Prop}{Q Q':Exit→Act→World→Prop}(hq:∀ e a w,Q e a w→e = .normal) (h:o.wpIn F m P a w K Q):o.wpIn F m P a w K Q':=by
  refine ⟨h.1,?_⟩;have h:=h.2;have hp:∀ {ch a w} {p:Prop},Q (.panic ch) a w→p:=fun hh=>by have:=hq _ _ _ hh;cases this
  have ho:∀ {p:Prop},LetsOut Q→p:=fun ⟨_,_,hh⟩=>by have:=hq _ _ _ hh;cases this
  generalize (o.semAt F.round a.eval).run P w=r at h ⊢;cases r with
  | ok x w'=>
    cases x <;> simp only [Oper.uponIn] at h ⊢ <;>
      first
        | exact h
        | exact ⟨h.1,h.2.mono (fun e w'' he=>by cases e <;> first | exact he | exact hp he | exact ho he)⟩
  | halt x w'=>cases x <;> simp only [Oper.uponIn] at h ⊢ <;> first | exact h | exact hp h
theorem xA {F:Fence}{m:Nat}{P:Program}{ops:Array Oper}{Q:Exit→Act→World→Prop}{l2:List Oper}:∀ {l1:List Oper}{a:Act}{w:World},wpListIn F m P ops (fun e a w=>e = .normal∧wpListIn F m P ops Q l2 a w) l1 a w→wpListIn F m P ops Q (l1++l2) a w
  | [],_,_,h=>h.2
  | o::l1,a,w,h=>by
    show wpListIn F m P ops Q (o::(l1++l2)) a w;unfold wpListIn at h ⊢;split at h
    · rename_i hw;rw [if_pos hw];exact KM (Q:=fun e a w=>e = .normal∧wpListIn F m P ops Q l2 a w) (fun e a w h=>h.1) (Oper.wpIn_mono (fun a w h=>xA h) h)
    · rename_i hw;rw [if_neg hw];exact ⟨h.1,xA h.2⟩
section
variable {P:Program}{J:JT}{A:Nat→Prop}{n:Nat × Nat}{g:Nat × Bool}{ops:Array Oper}{env:eH}{h:Hp}{K:Nat × Bool→eH→Hp→Prop}
theorem VW {l1 l2:List Oper}(hJ:zG5 J) (hnd:nH l1=true) (hv:VC P n ops l1 env h (fun v h=>VY P J A n ops l2 g v h K)):VY P J A n ops (l1++l2) g env h K:=by
  intro c ρ S a w Q s ⟨W,N,j⟩ hq hQ;have hn:=hJ.lt j.j;refine xA (vJ (fun e a w h=>h.1) hnd (hv (c.re w S N hn s.hs.ext.size) ρ S a w (fun e a w=>e = .normal∧wpListIn (rd c.r) 0 P ops Q l2 a w) (s.re j hn s.hs.ext.size) fun env' h' ρ' S' a' w' k s'=>⟨rfl,?_⟩));obtain ⟨h1,h2⟩:=s.un hJ j hn s.hs.ext.size s';exact k c ρ' S' a' w' Q h1 ⟨W,N,h2⟩ hq hQ
theorem VV (k:Nat){rest:List Oper}(hJ:zG5 J) (hv:VC P n ops (rest.take k) env h (fun v h=>VY P J A n ops (rest.drop k) g v h K)) (hnd:nH (rest.take k)=true:=by rfl):VY P J A n ops rest g env h K:=by
  have:=VW hJ hnd hv
  rwa [bR] at this
theorem zS0 {rest:List Oper}(hJ:zG5 J) (hv:VC P n ops rest env h (fun v h=>K g v h)) (hnd:nH rest=true:=by rfl):VY P J A n ops rest g env h K:=by
  have:=VW (l1:=rest) (l2:=[]) (A:=A) (g:=g) (K:=K) hJ hnd (hv.mono fun e h k=>(fun c ρ S a w Q s j hq hQ=>hQ g e h ρ S a w k s j))
  rwa [List.append_nil] at this
theorem IM {d:Option Nat}{x:Operand}{l k N:Nat}{us:List AV}{args:List Operand}{ats:Array TypeId}{ty:TypeId}{pos:String}{af:Array Edge}{items:Nat→List AV}{rest:List Oper}(hJ:zG5 J) (hy:CU P l J A items N) (hx:evu env x=some (.clo (.yield l) [] [])) (ha:sX env args=some us) (hi:AV.idfL us=true) (hk:k<N) (hit:items k=us) (hd:EE d n=true)
    (hb:∀ b:Bool,VY P J A n ops rest (k+1,!b) (mX d (.b b) env) h K):VY P J A n ops (⟨d,.call { callee:=.value x,args:=args.toArray,argTypes:=ats },ty,pos,af,none⟩::rest) (k,false) env h K:=by
  intro c ρ S a w Q s ⟨W,Nn,j⟩ hq hQ;refine wpListIn_plain rfl fun K' hK'=>?_
  have p:=s.pre;have hxv:=p.evu hx;simp only [R,RL] at hxv;obtain ⟨ys,zs,e1,h1,h2⟩:=hxv;have e2:ys = #[]:=by cases ys;simp_all
  have e3:zs = #[]:=by cases zs;simp_all
  subst e2 e3;have hargs:=uS p ha;have hS1:∀ b,(S b∧Q9 w b)→A b∧¬ W b∧Q9 w b:=fun b hb=>⟨j.accS b hb.1,j.st b hb.1,hb.2⟩
  have hargs1:RL (fun b=>S b∧Q9 w b) w (items k) (fun _=>none) (args.map a.eval):=by
    rw [hit];exact vH ρ _ _ _ hi (kY (fun b cc e q1 q2=>⟨q1,cc,e,q2⟩) (fun _ _ _ h=>h) _ _ _ hargs)
  obtain ⟨fn,tmps,assign,body,hrun,hround⟩:=hy k hk W Nn w _ _ j.j hS1 hargs1;refine ⟨fun _ _=>trivial,?_⟩
  rw [BC rfl];have hr2:(execOp a.eval ⟨d,.call { callee:=.value x,args:=args.toArray,argTypes:=ats },ty,pos,af,none⟩).run P w = .ok (.round l fn tmps assign body) w:=by
    have e4:(#[]++(args.toArray.map a.eval))=(args.map a.eval).toArray:=by
      apply Array.ext';simp
    simp only [execOp,resolve,e1,Deferred.ofValue,Sem.run_bind,Sem.run_pure,Result.andThen_ok,invoke];rw [e4];exact hrun
  rw [hr2];refine ⟨fun h=>(by cases h),?_⟩
  have hround:RoundIn (rd c.r) (0-1) P l fn tmps assign body w _:=hround;refine hround.mono ?_;rintro e w' ⟨b,W',N',rfl,j1,hx,hW',hN'⟩;have hWlt:∀ b,W b→b<w.heap.size:=fun b hb=>hJ.lt j.j b (hJ.sub j.j b hb);obtain ⟨hs',l'⟩:=s.hs.world hx j.st (fun k y p a1 a2 a3 hw=>j.live k y p a1 a2 a3 (hJ.sub j.j _ hw)) (fun b _ hb=>j.wm b hb);refine hK' _ _ (hb b c ρ S (a.put d (.bool b)) w' Q ⟨by rw [nG];exact s.size,by rw [kT];exact s.defers.later l',xY s.size hd (fun t u hu=>(s.env t u hu).later l') (lC _),hs',s.cm⟩ ⟨W',N',j1,fun k y p a1 a2 a3 hn=>?_,fun b hb hw=>?_,fun b hb h1 h2=>?_,fun b hb=>?_,j.accS,j.accM,fun b hb=>?_⟩ hq hQ)
  · rcases hN' _ hn with hn | hn | hn
    · exact j.live k y p a1 a2 a3 hn
    · exact (s.hs.live k y p a1 a2 a3).2 hn.1
    · have:=s.hs.rng k p a3;omega
  · rcases hW' _ hw with hw | hw
    · exact j.st b hb hw
    · have:=s.hs.stab b hb;omega
  · have same:=hx.same b (s.hs.stab b hb) (j.st b hb);rcases hN' _ h2 with h2 | h2 | h2
    · obtain ⟨cc,e,h4⟩:=j.cell b hb h1 h2;exact ⟨cc,e,by rw [same];exact h4⟩
    · obtain ⟨cc,e,h4⟩:=h2.2;exact ⟨cc,e,by rw [same];exact h4⟩
    · have:=s.hs.stab b hb;omega
  · rcases hW' _ hb with hb | hb
    · exact j.wm b hb
    · exact c.new b (bP s.hs.ext.size hb)
  · rcases hN' _ hb with hb | hb | hb
    · exact j.nn b hb
    · exact .inr (s.hs.st1 b hb.1)
    · exact .inr (.inr (c.new b (bP s.hs.ext.size hb)))
end
def zP9 (w:World) (ρ:Pl) (S:Nat→Prop) (hit:Hp) (A:Nat→Prop) (hA:∀ b,w.heap.size≤b→A b):oP where
  w0:=w
  M:=A
  new:=hA
  S0:=S
  ρ0:=ρ
  m:=hit.length
  lo:=w.heap.size
  lole:=bA _
  r:=none
def CV (P:Program) (f:FuncId) (fs cs:List AV) (hit:Hp) (items:Nat→List AV) (N:Nat):Prop:=
  (∃ fn, P.funcs[f]? = some fn ∧ (fn.name == "runtime.NumGoroutine") = false ∧ fn.body.isNone = false) ∧
  ∀ (J:JT) (A:Nat→Prop) (l:Nat),zG5 J→CU P l J A items N→∀ ρ S w vs W Nn (hA:∀ b,w.heap.size≤b→A b),HS (zP9 w ρ S hit A hA) ρ S hit w→RL S w (fs++[.clo (.yield l) [] []]++cs) ρ vs→J (0,false) W Nn w →
    (∀ (k:Nat) x p,hit[k]? = some x→x≠.gone→ρ k=some p→¬ Nn p.1)→(∀ b,S b→A b∧¬ W b)→(∀ b,W b→A b) →
    Calls P f vs.toArray w fun e w'=>∃ y g W' N',e = .returned y∧J g W' N' w'∧(g.2=false→g.1=N)
theorem K7 {P:Program}{fn:Func}{tmps:Array Value}{RR:Ending→World→Prop}{c:oP}{ρ:Pl}{h:Hp}(hlo:c.w0.heap.size≤c.lo) (h0:∀ b,c.S0 b→b<c.w0.heap.size):∀ (D:List Nat) (S:Nat→Prop) (w:World),HS c ρ S h w→D.Nodup→(∀ b,b∈D→S b∧w.heap[b]? = some (.deferred (some []))∧c.lo≤b) →
    (∀ S' w',HS c ρ S' h w'→(∀ x y,R S w x ρ y→R S' w' x ρ y)→nQ (fun b=>b∈D) w w'→∃ v,(results fn tmps).run P w' = .ok v w'∧RR (.returned v) w')→LeavesInM Fence.wide 0 P fn tmps RR (D.map zL1) .returning w
  | [],S,w,s,_,_,hk=>by
    have:=hk S w s (fun _ _ h=>h) (nQ.refl _ _);simpa only [List.map_nil,LeavesInM,LeavesIn] using this
  | m::D,S,w,s,hnd,hD,hk=>by
    rw [fL] at hnd;obtain ⟨h1,h2,h3⟩:=hD m (by simp)
    obtain ⟨g1,g2⟩:=s.shut1 h2 (by omega) h1 h0
    simp only [List.map_cons,LeavesInM];refine ⟨by simp,.inl ⟨m,_,rfl,run_takeDeferred h2,K7 hlo h0 D _ _ g1 hnd.2 (fun b hb=>?_) fun S' w' s' hr hx=>hk S' w' s' (fun x y hx=>hr x y (g2 x y hx)) ?_⟩⟩
    · have hne:b≠m:=fun e=>hnd.1 (e▸hb);obtain ⟨q1,q2,q3⟩:=hD b (by simp [hb])
      exact ⟨⟨q1,hne⟩,by rw [pO hne];exact q2,q3⟩
    · exact ((HD h2 (fun _ _ _ e=>by cases e)).mono fun b _ hb=>by simp [hb]).trans hx (fun b hb _=>by simp [hb])
theorem zS9 {P : Program} (T : oZ P) {f : FuncId} {fn : Func} {code : Code} {n N : Nat} {fs cs : List AV} {hit : Hp} {items : Nat → List AV} (hf : P.funcs[f]? = some fn) (hb : fn.body = some code) (hnm : (fn.name == "runtime.NumGoroutine") = false) (hn : fn.ntmps = n) (ha : Nat.ble (fs.length + 1 + cs.length) n = true)
    (haw:∀ J A l,zG5 J→CU P l J A items N→AY P J A (n,hit.length) code (0,false) (sH 0 (fs++[.clo (.yield l) [] []]++cs)) hit (fun g e v h=>(e = .ret∨e = .normal)∧(g.2=false→g.1=N)∧∃ xs,F8 T v h fn.results.toList=some xs)):CV P f fs cs hit items N:=by
  refine ⟨⟨fn,hf,hnm,by rw [hb];rfl⟩,?_⟩
  intro J A l hJ hy ρ S w vs W Nn hA hs hargs j0 hd1 hd2 hd3;have hlen:=fZ hargs;have hle:=aY ha;refine (callsIn_wide (n:=0)).1 (callsIn_of_wp_marks (F:=Fence.wide) hf hb trivial ?_ rfl);refine haw J A l hJ hy (zP9 w ρ S hit A hA) ρ S _ w _ ⟨?_,uE.nil rfl _ _,fun t x hx=>?_,hs,rfl⟩ ⟨W,Nn,j0,hd1,fun b hb=>(hd2 b hb).2,fun b hb hlo=>?_,hd3,fun b hb=>(hd2 b hb).1,fun b hb=>hb,fun _ _=>.inl trivial⟩ ?_
  · simp at hlen;simp [hn];omega
  · obtain ⟨_,h1⟩:=B6 hx;simp only [zF9] at h1;obtain ⟨y,h2,h3⟩:=rD hargs t x h1;have hlt:t<vs.length:=(aB.1 h2).1;have:(vs.toArray++Array.replicate (fn.ntmps-vs.toArray.size) undef).getD t undef=y:=by
      rw [dZ,N9 (by simpa using hlt)]
      simp [h2]
    rw [this];exact h3
  · have:=hs.stab b hb;have hlo:w.heap.size≤b:=hlo;omega
  · intro g e env' h' ρ' S' a' w' hq s ⟨W',N',j⟩;obtain ⟨he,hg,xs,h1⟩:=hq;obtain ⟨⟨D,hD1,hD2,hD3⟩,_⟩:=s.defers;have hl:LeavesInM Fence.wide 0 P fn a'.tmps (fun e w'=>∃ y g W' N',e=Ending.returned y∧J g W' N' w'∧(g.2=false→g.1=N)) a'.defers .returning w':=by
      rw [hD1];refine K7 (c:=zP9 w ρ S hit A hA) (bA _) (fun b hb=>hs.stab b hb) D S' w' s.hs hD2 hD3 fun S2 w2 s2 hr hx=>?_
      obtain ⟨ys,h7,h8⟩:=uL T s2.blk (fun t x hx=>hr _ _ (s.env t x hx)) h1;have hm:(fn.results.mapM (vS a'.tmps)).run P w2 = .ok ys.toArray w2:=by
        rw [Array.mapM_eq_mapM_toList];simp only [Sem.run_map,h7,Result.andThen_ok]
      refine ⟨_,by rw [AK];simp only [Sem.run_bind,hm,Result.andThen_ok,Sem.run_pure];rfl,_,g,W',N',rfl,hJ.st j.j (hx.mono fun b _ hb hn=>?_),hg⟩
      obtain ⟨q1,q2,q3⟩:=hD3 b hb;obtain ⟨cc,e,q4⟩:=j.cell b q1 q3 hn;rw [q2] at q4;cases q4;cases e
    rcases he with rfl | rfl
    · exact hl
    · exact hl
mutual
def AV.low (m:Nat):AV→Bool
  | .v _ | .any | .row .. | .mrow .. | .pr ..=>true
  | .ptr k _ | .ep k _ _ _ | .sl k _ _ _ | .mp k=>Nat.blt k m
  | .agg cs | .tup cs=>AV.lowL m cs
  | .clo _ cs ds=>AV.lowL m cs&&AV.lowL m ds
  | .cond _ x=>AV.low m x
  | .ifc _ x=>AV.low m x
def AV.lowL (m:Nat):List AV→Bool
  | []=>true
  | x::xs=>AV.low m x&&AV.lowL m xs
end
theorem HM {k m:Nat}(h:Nat.blt k m=true):k<m:=aY h
mutual
theorem MP {S:Nat→Prop}{w:World}{ρ ρ':Pl}{m:Nat}(hρ:∀ k,k<m→ρ' k=ρ k):∀ (x:AV) (y:Value),x.low m=true→R S w x ρ y→R S w x ρ' y
  | .v x,y,_,h=>by simpa only [R] using h
  | .any,_,_,_=>by simp [R]
  | .pr cs off,y,_,h=>by simpa only [R] using h
  | .row cs len sz,y,_,h=>by simpa only [R] using h
  | .mrow ks vs,y,_,h=>by simpa only [R] using h
  | .ptr k off,y,hi,h=>by
    simp only [R,AV.low] at *;rw [hρ k (HM hi)];exact h
  | .ep k i off sz,y,hi,h=>by
    simp only [R,AV.low] at *;rw [hρ k (HM hi)];exact h
  | .sl k off len sz,y,hi,h=>by
    simp only [R,AV.low] at *;rw [hρ k (HM hi)];exact h
  | .mp k,y,hi,h=>by
    simp only [R,AV.low] at *;rw [hρ k (HM hi)];exact h
  | .agg cs,y,hi,h=>by
    simp only [R,AV.low] at *;obtain ⟨ys,h1,h2⟩:=h;exact ⟨ys,h1,CL hρ cs _ hi h2⟩
  | .tup cs,y,hi,h=>by
    simp only [R,AV.low] at *;obtain ⟨ys,h1,h2⟩:=h;exact ⟨ys,h1,CL hρ cs _ hi h2⟩
  | .clo f cs ds,y,hi,h=>by
    simp only [R,AV.low,aN] at *;obtain ⟨ys,zs,h1,h2,h3⟩:=h;exact ⟨ys,zs,h1,CL hρ cs _ hi.1 h2,CL hρ ds _ hi.2 h3⟩
  | .cond b x,y,hi,h=>by
    simp only [R,AV.low] at *;exact fun hb=>MP hρ x y hi (h hb)
  | .ifc t x,y,hi,h=>by
    simp only [R,AV.low] at *;obtain ⟨z,h1,h2⟩:=h;exact ⟨z,h1,MP hρ x z hi h2⟩
theorem CL {S:Nat→Prop}{w:World}{ρ ρ':Pl}{m:Nat}(hρ:∀ k,k<m→ρ' k=ρ k):∀ (xs:List AV) (ys:List Value),AV.lowL m xs=true→RL S w xs ρ ys→RL S w xs ρ' ys
  | [],ys,_,h=>by simpa only [RL] using h
  | x::xs,ys,hi,h=>by
    simp only [RL,AV.lowL,aN] at *;obtain ⟨y,zs,h1,h2,h3⟩:=h;exact ⟨y,zs,h1,MP hρ x y hi.1 h2,CL hρ xs zs hi.2 h3⟩
end
def ZD (m:Nat):eH→Bool
  | []=>true
  | (_,x)::r=>x.low m&&ZD m r
theorem Q7 {m:Nat}:∀ {env:eH},ZD m env=true→∀ {t x},look env t=some x→x.low m=true
  | [],_,_,_,h=>by cases h
  | (k,u)::r,hl,t,x,h=>by
    simp only [ZD,aN] at hl;rw [iK] at h;split at h
    · cases h;exact hl.1
    · exact Q7 hl.2 h
def rL:List Nat→List AV→eH→eH
  | t::ts,x::xs,E=>rL ts xs ((t,x)::E)
  | _,_,E=>E
def BG:Exit→Option Code
  | .ret=>some .ret
  | .exit id=>some (.exit id)
  | .goto t=>some (.goto t)
  | _=>none
theorem LO {S:Nat→Prop}{w:World}{ρ:Pl}:∀ (ts:List Nat) (xs:List AV) (vs:List Value) (E:eH) (tm:Array Value),(∀ t,t∈ts→t<tm.size)→RL S w xs ρ vs→(∀ t x,look E t=some x→R S w x ρ (tm.getD t undef))→ts.length=xs.length →
    ((ts.zip vs).foldl (fun tm (p:Nat × Value)=>tm.setIfInBounds p.1 p.2) tm).size=tm.size∧∀ t x,look (rL ts xs E) t=some x→R S w x ρ (((ts.zip vs).foldl (fun tm (p:Nat × Value)=>tm.setIfInBounds p.1 p.2) tm).getD t undef)
  | [],_,_,E,tm,_,_,hE,_=>⟨rfl,by intro t x hx;simpa [rL] using hE t x (by simpa [rL] using hx)⟩
  | t0::ts,[],_,E,tm,_,_,hE,hl=>by simp at hl
  | t0::ts,x0::xs,vs,E,tm,hlt,hv,hE,hl=>by
    simp only [RL] at hv;obtain ⟨y,zs,rfl,h1,h2⟩:=hv;have h0:=hlt t0 (by simp)
    obtain ⟨h3,h4⟩:=LO ts xs zs ((t0,x0)::E) (tm.setIfInBounds t0 y) (fun t ht=>by simpa using hlt t (by simp [ht])) h2 (fun t x hx=>by
      rw [iK] at hx;split at hx
      · rename_i e;subst e;cases hx;simp [Array.getD,h0];exact h1
      · rename_i e;have:=hE t x hx
        rwa [show (tm.setIfInBounds t0 y).getD t undef=tm.getD t undef by
          simp only [dZ];rw [Array.getElem?_setIfInBounds_ne e]]) (by simpa using hl)
    exact ⟨by simpa using h3,fun t x hx=>by simpa [rL] using h4 t x (by simpa [rL] using hx)⟩
theorem OO {P:Program}{c:oP}{S:Nat→Prop}{l0:List Deferred}{w:World}(m:uE c S l0 w) (hS:∀ b,S b→b<w.heap.size) (hlo:c.lo≤w.heap.size) (fn:FuncId) (tmps:Array Value) (ps:Array Tmp) (assign body:Code) :
    ∃ (l bd:Nat) (mk:List Deferred) (w1:World) (T:Nat→Prop),(Instr.enterLoop fn tmps ps assign body c.r).run P w = .ok (l,mk) w1 ∧
      w1.heap[l]? = some (.loop { state:=.ready,pending:=none,fn:=fn,tmps:=tmps,params:=ps,assign:=assign,body:=body,defers:=bd })∧w.heap.size≤l∧l<w1.heap.size∧nQ (fun _=>False) w w1 ∧
      (∀ b,T b→w.heap.size≤b∧b≠l∧b<w1.heap.size) ∧
      (∀ S' w',(∀ b,S b→S' b)→(∀ b,T b→S' b)→(∀ b,S b∨T b→w'.heap[b]? = w1.heap[b]?)→uE c S' (mk++l0) w'):=by
  obtain ⟨⟨D,hD1,hD2,hD3⟩,hr⟩:=m;cases hc:c.r with
  | none=>
    have hx:nQ (fun _=>False) w ((w.alloc (.deferred (some []))).alloc (.loop { state:=.ready,pending:=none,fn:=fn,tmps:=tmps,params:=ps,assign:=assign,body:=body,defers:=w.heap.size })):=(pR w _ _).trans (pR _ _ (fun _=>False)) (fun _ h _=>h);refine ⟨w.heap.size+1,w.heap.size,[zL1 w.heap.size],_,fun b=>b=w.heap.size,run_enterLoop_outer _ _ _ _ _,?_,by omega,by simp,hx,fun b hb=>by subst hb;simp;omega,fun S' w' h1 h2 h3=>⟨⟨w.heap.size::D,by rw [hD1];rfl,?_,fun b hb=>?_⟩,fun q hq=>by rw [hc] at hq;cases hq⟩⟩
    · have:=World.alloc_heap_new (w.alloc (.deferred (some []))) (.loop { state:=.ready,pending:=none,fn:=fn,tmps:=tmps,params:=ps,assign:=assign,body:=body,defers:=w.heap.size })
      rwa [World.size_alloc] at this
    · rw [fL];exact ⟨fun hm=>by have:=hS _ (hD3 _ hm).1;omega,hD2⟩
    · rcases bO.1 hb with rfl | hb
      · refine ⟨h2 _ rfl,?_,hlo⟩;rw [h3 _ (.inr rfl)];exact (RowKit.Below.heap_alloc _ _ _ (by simp)).trans (World.alloc_heap_new w _)
      · obtain ⟨q1,q2,q3⟩:=hD3 b hb;exact ⟨h1 _ q1,by rw [h3 _ (.inl q1),hx.same b (hS b q1) (by simp)];exact q2,q3⟩
  | some q=>
    obtain ⟨hq1,r0,hq2⟩:=hr q hc;have hx:nQ (fun _=>False) w (w.alloc (.loop { state:=.ready,pending:=none,fn:=fn,tmps:=tmps,params:=ps,assign:=assign,body:=body,defers:=r0.defers })):=pR w _ _;have hrun:(Instr.enterLoop fn tmps ps assign body (some q)).run P w = .ok (w.heap.size,[]) (w.alloc (.loop { state:=.ready,pending:=none,fn:=fn,tmps:=tmps,params:=ps,assign:=assign,body:=body,defers:=r0.defers })):=by
      unfold Instr.enterLoop;simp only [Sem.run_bind,run_getLoop hq2,run_newObj_alloc,Result.andThen,Sem.run_pure]
    refine ⟨w.heap.size,r0.defers,[],_,fun _=>False,hrun,World.alloc_heap_new w _,bA _,by simp,hx,fun b hb=>hb.elim,fun S' w' h1 h2 h3=>⟨⟨D,hD1,hD2,fun b hb=>?_⟩,fun q' hq'=>?_⟩⟩
    · obtain ⟨q1,q2,q3⟩:=hD3 b hb;exact ⟨h1 _ q1,by rw [h3 _ (.inl q1),hx.same b (hS b q1) (by simp)];exact q2,q3⟩
    · obtain ⟨g1,rec,g2⟩:=hr q' hq';exact ⟨h1 _ g1,rec,by rw [h3 _ (.inl g1),hx.same q' (hS q' g1) (by simp)];exact g2⟩
def JR (cA:oP) (l:Nat) (rec0:Loop) (E:eH) (HA:Nat→Hp) (Q:Exit→eH→Hp→Prop):JT:=fun g W N w=>
  ∃ ρ S hh rec,HS cA ρ S hh w∧w.heap[l]? = some (.loop rec)∧¬ S l∧(∀ (k:Nat) x p,hh[k]? = some x→x≠.gone→ρ k=some p→p.1≠l)∧(∀ b,W b↔mF hh ρ b∨b=l)∧(∀ b,N b↔mF hh ρ b∨S b∨b=l∨¬ cA.M b) ∧
    (g.2=false→hh=HA g.1∧rec=rec0)∧(g.2=true→∃ e cd,BG e=some cd∧rec={ rec0 with state:=.done,pending:=some cd }∧Q e E hh)
section
variable {cA:oP}{l:Nat}{rec0:Loop}{E:eH}{HA:Nat→Hp}{Q:Exit→eH→Hp→Prop}
theorem yE0:zG5 (JR cA l rec0 E HA Q):=by
  refine ⟨fun {g W N w w'} j x=>?_,fun {g W N w} j b hb=>?_,fun {g W N w} j b hb=>?_⟩
  · obtain ⟨ρ,S,hh,rec,s,h1,h2,h3,h4,h5,h6⟩:=j;obtain ⟨s',_⟩:=s.world x (fun b hb h=>h ((h5 b).2 (.inr (.inl hb)))) (fun k y p a1 a2 a3 h=>h ((h5 _).2 (.inl ⟨k,y,p.2,a1,a2,a3⟩))) (fun b hb hn=>Classical.byContradiction fun hM=>hn ((h5 b).2 (.inr (.inr (.inr hM)))));exact ⟨ρ,S,hh,rec,s',by rw [x.same l (aX.1 h1).1 (fun h=>h ((h5 l).2 (.inr (.inr (.inl rfl)))))];exact h1,h2,h3,h4,h5,h6⟩
  · obtain ⟨ρ,S,hh,rec,s,h1,h2,h3,h4,h5,h6⟩:=j;exact (h5 b).2 (((h4 b).1 hb).elim .inl fun h=>.inr (.inr (.inl h)))
  · obtain ⟨ρ,S,hh,rec,s,h1,h2,h3,h4,h5,h6⟩:=j;rcases (h5 b).1 hb with ⟨k,x,o,_,_,hp⟩ | hb | rfl | hb
    · exact s.rng k _ hp
    · exact s.stab b hb
    · exact (aX.1 h1).1
    · apply Classical.byContradiction;intro hge;exact hb (cA.new b (by have:=s.ext.size;omega))
def QR (m0:Nat) (E:eH) (HA:Nat→Hp) (Q:Exit→eH→Hp→Prop) (k:Nat):Exit→eH→Hp→Prop
  | .normal,v,h=>IE m0 v h [] (HA (k+1))
  | e,v,h=>(∃ cd,BG e=some cd)∧∃ hx,IE m0 v h [] hx∧Q e E hx
theorem JQ {P:Program}{n1 m0:Nat}{items:Nat→List AV}{N:Nat}{ps:List Nat}(hm:cA.m=m0) (hMl:cA.M l) (hS0l:¬ cA.S0 l) (hS0:∀ b,cA.S0 b→b<cA.w0.heap.size∧¬ cA.M b) (hst:rec0.state = .ready) (hpe:rec0.pending=none) (hps:rec0.params=ps.toArray)
    (hsz:rec0.tmps.size=n1) (hpl:∀ t,t∈ps→t<n1) (hit:∀ k,k<N→(items k).length=ps.length∧AV.idfL (items k)=true)
    (hE:∀ t x,look E t=some x→R cA.S0 cA.w0 x cA.ρ0 (rec0.tmps.getD t undef)) (hlow:ZD m0 E=true)
    (hround:∀ k,k<N→AW P (n1,m0) rec0.assign (rL ps (items k) E) (HA k) (fun e v h=>e = .normal∧AW P (n1,m0) rec0.body v h (QR m0 E HA Q k))) :
    CU P l (JR cA l rec0 E HA Q) (fun b=>cA.S0 b∨cA.M b) items N:=by
  intro k hk W Nn w Sb vs j hSb hv;obtain ⟨ρ,S,hh,rec,s,hl,hSl,hll,hW,hN,hg,_⟩:=j;obtain ⟨rfl,rfl⟩:=hg rfl;dsimp only at s hll hW hN;have hlt:l<w.heap.size:=(aX.1 hl).1;have hvl:=fZ hv;obtain ⟨hil,hiidf⟩:=hit k hk
  -- what no longer changes,in a round
  have hS2lt:∀ b,(S b∨Sb b∨b=l)→b<w.heap.size:=fun b hb=>by
    rcases hb with hb | hb | rfl
    · exact s.stab b hb
    · obtain ⟨_,_,cc,e,h⟩:=hSb b hb;exact (aX.1 h).1
    · exact hlt
  have hlive:∀ (q:Nat) y p,(HA k)[q]? = some y→y≠.gone→ρ q=some p→mF (HA k) ρ p.1:=fun q y p a1 a2 a3=>⟨q,y,p.2,a1,a2,a3⟩
  have hS2live:∀ (q:Nat) y p,(HA k)[q]? = some y→y≠.gone→ρ q=some p→¬ (S p.1∨Sb p.1∨p.1=l):=fun q y p a1 a2 a3 hb=>by
    rcases hb with hb | hb | hb
    · exact (s.live q y p a1 a2 a3).2 hb
    · exact (hSb _ hb).2.1 ((hW _).2 (.inl (hlive q y p a1 a2 a3)))
    · exact hll q y p a1 a2 a3 hb
  have s2:HS cA ρ (fun b=>S b∨Sb b∨b=l) (HA k) w:=s.more (fun _ h=>.inl h) hS2lt hS2live (fun b hb=>by
    rcases hb with hb | hb | rfl
    · exact s.st1 b hb
    · exact (hSb b hb).1
    · exact .inr hMl)
  let cR:oP:={ w0:=w,M:=fun b=>mF (HA k) ρ b∨w.heap.size≤b,new:=fun b hb=>.inr hb,S0:=fun b=>S b∨Sb b∨b=l,ρ0:=cA.ρ0,m:=cA.m,lo:=w.heap.size,lole:=bA _,r:=some l }
  have sR:HS cR ρ (fun b=>S b∨Sb b∨b=l) (HA k) w:=s2.re cR (fun q y p a1 a2 a3=>.inl (hlive q y p a1 a2 a3)) (nQ.refl _ _) (fun _ h=>h) (fun _ h=>.inl h) s2.mle s2.keep;have hMnl:¬ (mF (HA k) ρ l∨w.heap.size≤l):=fun h=>by
    rcases h with ⟨q,y,o,a1,a2,a3⟩ | h
    · exact hll q y _ a1 a2 a3 rfl
    · omega
  -- the frame
  have hE2:∀ t x,look E t=some x→R (fun b=>S b∨Sb b∨b=l) w x ρ (rec.tmps.getD t undef):=fun t x hx=>by
    have h1:=MP (ρ':=ρ) (m:=m0) (fun q hq=>s.keep q (by omega)) x _ (Q7 hlow hx) (hE t x hx)
    exact nP (fun b hb=>.inl (s.st0 b hb)) (fun b hb=>s.ext.same b (hS0 b hb).1 (hS0 b hb).2) x ρ ρ _ (fun _ _ h=>h) (fun _ _ _ _ _ hr=>s.ext.room hr) h1
  have hv2:RL (fun b=>S b∨Sb b∨b=l) w (items k) ρ vs:=vH _ _ _ _ hiidf (mC (fun b hb=>.inr (.inl hb)) (fun _ _=>rfl) _ _ _ _ (fun _ _ h=>h) (fun _ _ _ _ _ h=>h) hv);obtain ⟨hf1,hf2⟩:=LO ps (items k) vs E rec.tmps (fun t ht=>by rw [hsz];exact hpl t ht) hv2 hE2 hil.symm
  have hfold:(rec.params.zip vs.toArray).foldl (fun tmps (x:Nat × Value)=>tmps.setIfInBounds x.1 x.2) rec.tmps=(ps.zip vs).foldl (fun tm (p:Nat × Value)=>tm.setIfInBounds p.1 p.2) rec.tmps:=by
    rw [hps,← Array.foldl_toList];congr 1;simp
  refine ⟨rec.fn,_,rec.assign,rec.body,run_yield hl (by rw [hps];simp [hvl,hil]),?_⟩
  rw [show (rec.params.zip vs.toArray).foldl (fun tmps (x:Tmp × Value)=>match x with | (t,a)=>tmps.setIfInBounds t a) rec.tmps=(ps.zip vs).foldl (fun tm (p:Nat × Value)=>tm.setIfInBounds p.1 p.2) rec.tmps from hfold]
  refine roundIn_of_wpIn (F:=Fence.wide) trivial ?_;refine hround k hk cR ρ _ ⟨_,[]⟩ w _ ⟨by rw [hf1];exact hsz,⟨⟨[],rfl,cM,fun _ h=>by cases h⟩,fun q hq=>?_⟩,hf2,sR,hm⟩ ?_
  · cases hq;exact ⟨.inr (.inr rfl),rec,hl⟩
  intro e env' h' ρ' S' a' w' hq s';obtain ⟨rfl,hbody⟩:=hq;have x1:nQ cR.M w w':=s'.hs.ext;have hl1:w'.heap[l]? = some (.loop rec):=by rw [x1.same l hlt hMnl];exact hl
  refine ⟨_,run_beginRound hl1 hst,?_⟩;generalize hb1:({ rec with state:=.busy }:Loop)=recb
  -- the record is busy
  have hS'l:S' l:=s'.hs.st0 l (.inr (.inr rfl))
  let cZ:oP:={ w0:=w,M:=fun b=>(mF (HA k) ρ b∨w.heap.size≤b)∨b=l,new:=fun b hb=>.inl (.inr hb),S0:=fun b=>S b∨Sb b,ρ0:=cA.ρ0,m:=cA.m,lo:=w.heap.size,lole:=bA _,r:=some l }
  have hZ0:¬ cZ.S0 l:=fun h=>by
    rcases h with h | h
    · exact hSl h
    · exact (hSb _ h).2.1 ((hW l).2 (.inr rfl))
  have hst1:∀ b,S' b→cZ.S0 b∨cZ.M b:=fun b hb=>by
    rcases s'.hs.st1 b hb with (h | h | h) | h
    · exact .inl (.inl h)
    · exact .inl (.inr h)
    · exact .inr (.inr h)
    · exact .inr (.inl h)
  have sZ:HS cZ ρ' S' h' w':=s'.hs.re cZ (fun q y p a1 a2 a3=>.inl (s'.hs.live q y p a1 a2 a3).1) (x1.mono fun b _ hb=>.inl hb) (fun b hb=>s'.hs.st0 b (by rcases hb with hb | hb;exact .inl hb;exact .inr (.inl hb))) hst1 s'.hs.mle s'.hs.keep
  obtain ⟨sP,hP⟩:=sZ.put hl1 (fun _ _ _ e=>by cases e) rfl (.loop recb) (fun _=>.inr rfl) hZ0
  have hsz2:w.heap.size≤(w'.putObj l (.loop recb)).heap.size:=by rw [World.putObj_size];exact x1.size
  let cB:oP:={ w0:=w'.putObj l (.loop recb),M:=fun b=>mF (HA k) ρ b∨w.heap.size≤b,new:=fun b hb=>.inr (bP hsz2 hb),S0:=S',ρ0:=cA.ρ0,m:=cA.m,lo:=w.heap.size,lole:=hsz2,r:=some l }
  have sM:HS cZ ρ' S' h' (w'.putObj l (.loop recb)):=sP.more (fun b hb=>hb.1) (fun b hb=>by rw [World.putObj_size];exact s'.hs.stab b hb) (fun q y p a1 a2 a3=>(s'.hs.live q y p a1 a2 a3).2) hst1
  have sB:HS cB ρ' S' h' (w'.putObj l (.loop recb)):=sM.re cB (fun q y p a1 a2 a3=>(s'.hs.live q y p a1 a2 a3).1) (nQ.refl _ _) (fun _ h=>h) (fun _ h=>.inl h) s'.hs.mle s'.hs.keep;have hl2:(w'.putObj l (.loop recb)).heap[l]? = some (.loop recb):=World.putObj_heap_same (aX.1 hl1).1;have hmarks:uE cB S' a'.defers (w'.putObj l (.loop recb)):=by
    obtain ⟨⟨D,d1,d2,d3⟩,_⟩:=s'.defers;refine ⟨⟨D,d1,d2,fun b hb=>?_⟩,fun q hq=>?_⟩
    · obtain ⟨q1,q2,q3⟩:=d3 b hb;exact ⟨q1,by rw [pO (fun e=>by rw [e,hl1] at q2;cases q2)];exact q2,q3⟩
    · cases hq;exact ⟨hS'l,recb,hl2⟩
  refine hbody cB ρ' S' a' _ _ ⟨s'.size,hmarks,fun t x hx=>yK0 (fun b hb=>hb.1) (hP _ _ (s'.env t x hx)),sB,hm⟩ ?_;intro e env3 h3 ρ3 S3 a3 w3 hq3 s3;have x2:nQ (fun b=>b=l) w' (w'.putObj l (.loop recb)):=HD hl1 (fun _ _ _ e=>by cases e)
  have x3:nQ cB.M (w'.putObj l (.loop recb)) w3:=s3.hs.ext;have hl3:w3.heap[l]? = some (.loop recb):=by rw [x3.same l (aX.1 hl2).1 hMnl];exact hl2
  have x13:nQ cZ.M w w3:=((x1.mono fun b _ hb=>.inl hb).trans (x2.mono fun b _ hb=>.inr hb) (fun _ h _=>h)).trans (x3.mono fun b _ hb=>.inl hb) (fun _ h _=>h)
  -- the round's end,whichever way
  have fin:∀ (jump:Option Code) (hx:Hp),IE m0 env3 h3 [] hx→((jump=none∧hx=HA (k+1))∨∃ e cd,BG e=some cd∧jump=some cd∧Q e E hx) →
      ∃ v w4,(Instr.endRound l jump).run P w3 = .ok v w4∧∃ (b:Bool) (W' N':Nat→Prop),Ending.returned v = .returned (.bool b)∧JR cA l rec E HA Q (k+1,!b) W' N' w4∧nQ W w w4∧(∀ x,W' x→W x∨w.heap.size≤x)∧(∀ x,N' x→Nn x∨Sb x∨w.heap.size≤x):=by
    intro jump hx hsub hj;obtain ⟨L,q1,_,q3,q4,q5⟩:=hsub;have s4:HS cB (fun k=>ρ3 (th L h3.length k)) S3 hx w3:=s3.hs.sub q1 q3 q4 (fun i hi=>q5 i (by have hi:i<cA.m:=hi;omega))
    have st3:∀ b,S3 b→cZ.S0 b∨cZ.M b:=fun b hb=>by
      rcases s3.hs.st1 b hb with h | h
      · exact hst1 b h
      · exact .inr (.inl h)
    have s5:HS cZ (fun k=>ρ3 (th L h3.length k)) S3 hx w3:=s4.re cZ (fun q y p a1 a2 a3=>.inl (s4.live q y p a1 a2 a3).1) x13 (fun b hb=>s3.hs.st0 b (s'.hs.st0 b (by rcases hb with hb | hb;exact .inl hb;exact .inr (.inl hb)))) st3 s4.mle s4.keep
    obtain ⟨s6,_⟩:=s5.put hl3 (fun _ _ _ e=>by cases e) rfl (.loop { recb with state:=if jump.isNone then .ready else .done,pending:=jump }) (fun _=>.inr rfl) hZ0
    have hZA:∀ b,cZ.M b→cA.M b:=fun b hb=>by
      rcases hb with (⟨q,y,o,a1,a2,a3⟩ | hb) | rfl
      · exact (s.live q y _ a1 a2 a3).1
      · exact cA.new b (bP s.ext.size hb)
      · exact hMl
    have s7:=s6.re cA (fun q y p a1 a2 a3=>hZA _ (s6.live q y p a1 a2 a3).1) (s.ext.trans s6.ext fun b hb _=>hZA b hb) (fun b hb=>⟨s3.hs.st0 b (s'.hs.st0 b (.inl (s.st0 b hb))),fun e=>hS0l (e▸hb)⟩) (fun b hb=>by
      rcases st3 b hb.1 with (h | h) | h
      · exact s.st1 b h
      · exact (hSb b h).1
      · exact .inr (hZA b h)) s6.mle s6.keep
    have hZW:∀ b,cZ.M b→W b∨w.heap.size≤b:=fun b hb=>by
      rcases hb with (hb | hb) | rfl
      · exact .inl ((hW b).2 (.inl hb))
      · exact .inr hb
      · exact .inl ((hW _).2 (.inr rfl))
    have hWN:∀ b,W b→Nn b:=fun b hb=>(hN b).2 (((hW b).1 hb).elim .inl fun h=>.inr (.inr (.inl h)));have hS3l:S3 l:=s3.hs.st0 l hS'l;refine ⟨_,_,run_endRound jump hl3,jump.isNone,fun b=>mF hx (fun k=>ρ3 (th L h3.length k)) b∨b=l,fun b=>mF hx (fun k=>ρ3 (th L h3.length k)) b∨(S3 b∧b≠l)∨b=l∨¬ cA.M b,rfl,?_,?_,fun b hb=>?_,fun b hb=>?_⟩
    · refine ⟨_,_,hx,_,s7,World.putObj_heap_same (aX.1 hl3).1,fun h=>h.2 rfl,fun q y p a1 a2 a3 e=>(s4.live q y p a1 a2 a3).2 (e▸hS3l),fun b=>Iff.rfl,fun b=>Iff.rfl,fun h=>?_,fun h=>?_⟩
      · rcases hj with ⟨rfl,rfl⟩ | ⟨e,cd,_,rfl,_⟩
        · refine ⟨rfl,?_⟩;rw [← hb1];cases rec;simp only at hst hpe;subst hst hpe;rfl
        · cases h
      · rcases hj with ⟨rfl,rfl⟩ | ⟨e,cd,he,rfl,hq⟩
        · cases h
        · exact ⟨e,cd,he,by rw [← hb1];rfl,hq⟩
    · exact s6.ext.mono fun b hb hm=>by
        rcases hZW b hm with h | h
        · exact h
        · have hb:b<w.heap.size:=hb;omega
    · rcases hb with ⟨q,y,o,a1,a2,a3⟩ | rfl
      · exact hZW _ (s6.live q y _ a1 a2 a3).1
      · exact .inl ((hW _).2 (.inr rfl))
    · rcases hb with ⟨q,y,o,a1,a2,a3⟩ | hb | rfl | hb
      · exact (hZW _ (s6.live q y _ a1 a2 a3).1).elim (fun h=>.inl (hWN _ h)) fun h=>.inr (.inr h)
      · rcases st3 b hb.1 with (h | h) | h
        · exact .inl ((hN b).2 (.inr (.inl h)))
        · exact .inr (.inl h)
        · exact (hZW _ h).elim (fun h=>.inl (hWN _ h)) fun h=>.inr (.inr h)
      · exact .inl ((hN _).2 (.inr (.inr (.inl rfl))))
      · exact .inl ((hN b).2 (.inr (.inr (.inr hb))))
  cases e with
  | normal=>exact fin none _ hq3 (.inl ⟨rfl,rfl⟩)
  | ret=>
    obtain ⟨_,hx,hs,hq⟩:=hq3;exact fin (some .ret) hx hs (.inr ⟨.ret,.ret,rfl,rfl,hq⟩)
  | exit id=>
    obtain ⟨_,hx,hs,hq⟩:=hq3;exact fin (some (.exit id)) hx hs (.inr ⟨.exit id,.exit id,rfl,rfl,hq⟩)
  | goto t=>
    obtain ⟨_,hx,hs,hq⟩:=hq3;exact fin (some (.goto t)) hx hs (.inr ⟨.goto t,.goto t,rfl,rfl,hq⟩)
  | panic ch=>
    obtain ⟨⟨cd,hcd⟩,_⟩:=hq3;cases hcd
  | outgrown=>
    obtain ⟨⟨cd,hcd⟩,_⟩:=hq3;cases hcd
end
theorem uH.live {θ:Nat→Nat}{h h':Hp}{ρ:Pl}(hs:uH θ h 0 h'){k:Nat}{x:AB}{p:Nat × Nat}(hx:h'[k]? = some x) (hg:x≠.gone) (hp:ρ (θ k)=some p):∃ y,h[θ k]? = some y∧y≠.gone:=by
  have:=hs.get k x hx;rw [Nat.zero_add] at this;exact ⟨_,this.resolve_left hg,by cases x <;> simp [AB.map] at *⟩
theorem WD {L:List Nat}{N k:Nat}(hk:k<L.length):th L N k∈L:=by
  unfold th;rw [aA hk];exact aH hk
theorem zL7 {P:Program}{r:Option Nat}{Q:Exit→Act→World→Prop}{a:Act}{w:World}{e:Exit}{cd:Code}(h:BG e=some cd) (hq:Q e a w):cd.wpIn (rd r) 0 P Q a w:=by
  cases e <;> simp [BG] at h <;> subst h
  · exact wpIn_exit hq
  · exact wpIn_goto hq
  · exact wpIn_ret hq
theorem MI {P:Program}{n:Nat × Nat}{env:eH}{h:Hp}{Q:Exit→eH→Hp→Prop}{g:Operand}{ps:List Nat}{assign body:Code}{f:FuncId}{fs cs fs' cs':List AV}{hit:Hp}{items:Nat→List AV}{N:Nat}
    (LI LA:List Nat) (E:eH) (HA:Nat→Hp) (m0:Nat) (hx:evu env g=some (.clo (.func f) fs cs)) (hI:CV P f fs' cs' hit items N)
    (hfs:AV.mapL (th LI h.length) fs'=fs) (hcs:AV.mapL (th LI h.length) cs'=cs) (hLI:LI.length=hit.length) (hHI:uH (th LI h.length) h 0 hit) (hIn:LI.Nodup)
    (hLA:LA.length=(HA 0).length) (hEA:PH (th LA h.length) env E) (hHA:uH (th LA h.length) h 0 (HA 0)) (hAn:LA.Nodup) (hAk:∀ i,i<n.2→LA[i]? = some i) (hdis:∀ x,x∈LI→x∉LA) (hn2:n.2≤m0) (hm0:m0≤(HA 0).length)
    (hlow:ZD m0 E=true) (hpl:∀ t,t∈ps→t<n.1) (hit':∀ k,k<N→(items k).length=ps.length∧AV.idfL (items k)=true)
    (hround:∀ k,k<N→AW P (n.1,m0) assign (rL ps (items k) E) (HA k) (fun e v h=>e = .normal∧AW P (n.1,m0) body v h (QR m0 E HA Q k)))
    (hafter:Q .normal E (HA N)):AW P n (.rangeFunc g ps.toArray assign body) env h Q:=by
  intro c ρ S a w QQ s hQ;have p:=s.pre;refine wpIn_rangeFunc fun fn _=>?_
  have hlo:c.lo≤w.heap.size:=bP c.lole s.hs.ext.size;obtain ⟨l,bd,mk,w1,T,henter,hl1,hlw,hll1,x01,hT,hmk⟩:=OO (P:=P) s.defers s.hs.stab hlo fn a.tmps ps.toArray assign body
  -- the function's value
  have hxv:=p.evu hx;simp only [R] at hxv;obtain ⟨ys,zs,e1,hy1,hz1⟩:=hxv
  let ρA:Pl:=fun k=>ρ (th LA h.length k)
  let ρI:Pl:=fun k=>ρ (th LI h.length k)
  have hMnew:∀ b,w1.heap.size≤b→mF h ρ b∨(w.heap.size≤b∧¬ T b):=fun b hb=>.inr ⟨bP x01.size hb,fun ht=>by have:=(hT b ht).2.2;omega⟩
  let cA:oP:={ w0:=w1,M:=fun b=>mF h ρ b∨(w.heap.size≤b∧¬ T b),new:=hMnew,S0:=fun b=>S b∨T b,ρ0:=ρA,m:=m0,lo:=c.lo,lole:=bP hlo x01.size,r:=some l }
  have hlnT:¬ T l:=fun ht=>(hT l ht).2.1 rfl;have hlnS:∀ b,S b→b≠l:=fun b hb e=>by have:=s.hs.stab b hb;omega
  -- the caller's objects,aZ the rounds keep them
  have hsA0:HS c ρA S (HA 0) w:=s.hs.sub hLA hHA hAn (fun i hi=>hAk i (s.cm▸hi));obtain ⟨hsA1,later1⟩:=hsA0.world x01 (fun _ _ h=>h) (fun _ _ _ _ _ _ h=>h) (fun _ _ h=>h.elim);have liveA:∀ (k:Nat) x q,(HA 0)[k]? = some x→x≠.gone→ρA k=some q→mF h ρ q.1:=fun k x q a1 a2 a3=>by
    obtain ⟨y,b1,b2⟩:=hHA.live (ρ:=ρ) a1 a2 a3;exact ⟨_,y,q.2,b1,b2,a3⟩
  have liveI:∀ (k:Nat) x q,hit[k]? = some x→x≠.gone→ρI k=some q→mF h ρ q.1:=fun k x q a1 a2 a3=>by
    obtain ⟨y,b1,b2⟩:=hHI.live (ρ:=ρ) a1 a2 a3;exact ⟨_,y,q.2,b1,b2,a3⟩
  have liveLt:∀ b,mF h ρ b→b<w.heap.size:=fun b ⟨k,x,o,_,_,hp⟩=>s.hs.rng k _ hp
  have liveS:∀ b,mF h ρ b→¬ S b:=fun b ⟨k,x,o,a1,a2,a3⟩=>(s.hs.live k x _ a1 a2 a3).2
  have hsA2:HS c ρA (fun b=>S b∨T b) (HA 0) w1:=hsA1.more (fun _ h=>.inl h) (fun b hb=>by
    rcases hb with hb | hb
    · exact hsA1.stab b hb
    · exact (hT b hb).2.2) (fun k x q a1 a2 a3 hb=>by
    have h1:=liveA k x q a1 a2 a3;rcases hb with hb | hb
    · exact liveS _ h1 hb
    · have:=(hT _ hb).1;have:=liveLt _ h1;omega) (fun b hb=>by
    rcases hb with hb | hb
    · exact s.hs.st1 b hb
    · exact .inr (c.new b (bP s.hs.ext.size (hT b hb).1)))
  have hsA:HS cA ρA (fun b=>S b∨T b) (HA 0) w1:=hsA2.re cA (fun k x q a1 a2 a3=>.inl (liveA k x q a1 a2 a3)) (nQ.refl _ _) (fun _ h=>h) (fun _ h=>.inl h) hm0 (fun _ _=>rfl)
  -- the record
  obtain ⟨rec0,hrec⟩:∃ rec0:Loop,rec0={ state:=.ready,pending:=none,fn:=fn,tmps:=a.tmps,params:=ps.toArray,assign:=assign,body:=body,defers:=bd }:=⟨_,rfl⟩;rw [← hrec] at hl1;have hSA:∀ b,(S b∨T b)→b<w1.heap.size∧¬ (mF h ρ b∨(w.heap.size≤b∧¬ T b)):=fun b hb=>by
    rcases hb with hb | hb
    · refine ⟨eG (s.hs.stab b hb) x01.size,fun hm=>?_⟩
      rcases hm with hm | hm
      · exact liveS b hm hb
      · have:=s.hs.stab b hb;omega
    · refine ⟨(hT b hb).2.2,fun hm=>?_⟩
      rcases hm with hm | hm
      · have:=liveLt b hm;have:=(hT b hb).1;omega
      · exact hm.2 hb
  have hMl:cA.M l:=.inr ⟨hlw,hlnT⟩;have hS0l:¬ cA.S0 l:=fun h=>by
    rcases h with h | h
    · exact hlnS l h rfl
    · exact hlnT h
  have henvE:∀ t x,look E t=some x→R (fun b=>S b∨T b) w1 x ρA (a.tmps.getD t undef):=fun t x hx=>by
    have h1:=V3 _ ρ _ _ (s.env t _ (hEA.look t x hx));exact yK0 (fun _ h=>.inl h) (h1.later later1)
  have hyield:CU P l (JR cA l rec0 E HA Q) (fun b=>cA.S0 b∨cA.M b) items N:=by
    refine JQ (cA:=cA) (n1:=n.1) (m0:=m0) (ps:=ps) rfl hMl hS0l hSA (by rw [hrec]) (by rw [hrec]) (by rw [hrec]) (by rw [hrec];exact s.size) hpl hit' (fun t x hx=>by rw [hrec];exact henvE t x hx) hlow (fun k hk=>by rw [hrec];exact hround k hk)
  have hJok:zG5 (JR cA l rec0 E HA Q):=yE0
  let W0:Nat→Prop:=fun b=>mF (HA 0) ρA b∨b=l
  let N0:Nat→Prop:=fun b=>mF (HA 0) ρA b∨(S b∨T b)∨b=l∨¬ cA.M b
  have hJ0:JR cA l rec0 E HA Q (0,false) W0 N0 w1:=⟨ρA,_,HA 0,rec0,hsA,hl1,hS0l,fun k x q a1 a2 a3 e=>by have:=liveLt _ (liveA k x q a1 a2 a3);omega,fun b=>Iff.rfl,fun b=>Iff.rfl,fun _=>⟨rfl,rfl⟩,fun h=>by cases h⟩
  -- the iterator's call
  have hAnew:∀ b,w1.heap.size≤b→cA.S0 b∨cA.M b:=fun b hb=>.inr (hMnew b hb)
  let c0:oP:={ w0:=w,M:=fun b=>mF h ρ b∨w.heap.size≤b,new:=fun b hb=>.inr hb,S0:=S,ρ0:=fun _=>none,m:=0,lo:=w.heap.size,lole:=bA _,r:=none }
  have hs0:HS c0 ρ S h w:=s.hs.re c0 (fun k x q a1 a2 a3=>.inl ⟨k,x,q.2,a1,a2,a3⟩) (nQ.refl _ _) (fun _ h=>h) (fun _ h=>.inl h) (bW _) (fun k hk=>absurd hk (dA _));have hsI0:HS c0 ρI S hit w:=hs0.sub hLI hHI hIn (K3);obtain ⟨hsI1,_⟩:=hsI0.world x01 (fun _ _ h=>h) (fun _ _ _ _ _ _ h=>h) (fun _ _ h=>h.elim);have hsI:HS (zP9 w1 ρI S hit (fun b=>cA.S0 b∨cA.M b) hAnew) ρI S hit w1:=hsI1.re _ (fun k x q a1 a2 a3=>.inr (.inl (liveI k x q a1 a2 a3))) (nQ.refl _ _) (fun _ h=>h) (fun _ h=>.inl h) (bA _) (fun _ _=>rfl);have hargs:RL S w1 (fs'++[.clo (.yield l) [] []]++cs') ρI (ys.toList++[Value.func (.yield l) #[] #[]]++zs.toList):=by
    have lI:iX ρI ρI S S w w1:=⟨fun _ _ h=>h,fun _ h=>h,fun b hb=>x01.same b (s.hs.stab b hb) (fun h=>h),fun _ _ _ _ _ hr=>x01.room hr⟩
    rw [← hfs] at hy1;rw [← hcs] at hz1;exact jN (jN ((pK _ ρ _ _ hy1).later lI) (by simp only [RL];exact ⟨_,_,rfl,by simp only [R,RL];exact ⟨#[],#[],rfl,rfl,rfl⟩,rfl⟩)) ((pK _ ρ _ _ hz1).later lI)
  have hcall:=hI.2 _ _ l hJok hyield ρI S w1 _ W0 N0 hAnew hsI hargs hJ0 (fun k x q a1 a2 a3 hn=>by
    have hlv:=liveI k x q a1 a2 a3;rcases hn with ⟨k',x',o',b1,b2,b3⟩ | hn | hn | hn
    · obtain ⟨y,d1,d2⟩:=hHI.live (ρ:=ρ) a1 a2 a3;obtain ⟨y',d3,d4⟩:=hHA.live (ρ:=ρ) b1 b2 b3;have he:=s.hs.inj _ _ _ _ _ _ d1 d3 d2 d4 a3 b3 rfl;have hkI:k<LI.length:=by rw [hLI];exact (aB.1 a1).1
      have hkA:k'<LA.length:=by rw [hLA];exact (aB.1 b1).1
      exact hdis _ (WD (N:=h.length) hkI) (he▸WD (N:=h.length) hkA)
    · rcases hn with hn | hn
      · exact liveS _ hlv hn
      · have:=(hT _ hn).1;have:=liveLt _ hlv;omega
    · have:=liveLt _ hlv;omega
    · exact hn (.inl hlv)) (fun b hb=>⟨.inl (.inl hb),fun hw=>by
    rcases hw with ⟨k',x',o',b1,b2,b3⟩ | hw
    · exact liveS b (liveA k' x' (b,o') b1 b2 b3) hb
    · exact hlnS b hb hw⟩) (fun b hw=>by
    rcases hw with ⟨k',x',o',b1,b2,b3⟩ | rfl
    · exact .inr (.inl (liveA k' x' (b,o') b1 b2 b3))
    · exact .inr hMl)
  have hrun:=zP (P:=P) (f:=f) (args:=(ys.toList++[Value.func (.yield l) #[] #[]]++zs.toList).toArray) (w:=w1) hI.1;refine ⟨l,mk,w1,{ target:=.fn (.func f) zs,args:=ys ++ #[Value.func (.yield l) #[] #[]] },w1,f,(ys.toList++[Value.func (.yield l) #[] #[]]++zs.toList).toArray,w1,henter,?_,fun _ _=>trivial,?_,(fun h=>(by cases h)),?_⟩
  · simp only [resolve];rw [e1];simp [Deferred.ofValue,Act.eval]
  · have e2:(ys ++ #[Value.func (.yield l) #[] #[]]++zs:Array Value)=(ys.toList++[Value.func (.yield l) #[] #[]]++zs.toList).toArray:=by
      apply Array.ext';simp
    simp only [invoke];rw [e2];exact hrun
  refine (JZ (r:=c.r) (n:=0-1) hcall).mono ?_;rintro e w5 ⟨y,g',W5,N5,rfl,⟨ρ5,S5,hh,rec5,s5,hl5,hSl5,hll5,hW5,hN5,hg1,hg2⟩,hgN⟩
  -- kL the loop
  have hbusy:rec5.state≠.busy:=by
    cases hb:g'.2 with
    | false=>rw [(hg1 hb).2,hrec];simp
    | true=>
      obtain ⟨e,cd,_,hr,_⟩:=hg2 hb;rw [hr];simp
  refine ⟨_,_,run_endLoop hl5 hbusy,?_⟩;obtain ⟨s6,hr6⟩:=s5.put hl5 (fun _ _ _ e=>by cases e) rfl (.loop { rec5 with state:=.exhausted }) (fun _=>hMl) hS0l
  have hAc:∀ b,cA.M b→c.M b:=fun b hb=>by
    rcases hb with ⟨k,x,o,a1,a2,a3⟩ | hb
    · exact (s.hs.live k x _ a1 a2 a3).1
    · exact c.new b (bP s.hs.ext.size hb.1)
  have s7:HS c ρ5 (fun b=>S5 b∧b≠l) hh (w5.putObj l (.loop { rec5 with state:=.exhausted })):=s6.re c (fun k x q a1 a2 a3=>hAc _ (s6.live k x q a1 a2 a3).1) (s.hs.ext.trans (((x01.mono (N:=cA.M) fun _ _ h=>h.elim)).trans s6.ext (fun _ h _=>h)) fun b hb _=>hAc b hb) (fun b hb=>⟨s5.st0 b (.inl (s.hs.st0 b hb)),hlnS b (s.hs.st0 b hb)⟩) (fun b hb=>by
    rcases s5.st1 b hb.1 with (h | h) | h
    · exact s.hs.st1 b h
    · exact .inr (c.new b (bP s.hs.ext.size (hT b h).1))
    · exact .inr (hAc b h)) (bP (by rw [s.cm];exact hn2) s5.mle) (fun k hk=>by
    have hk2:k<n.2:=s.cm▸hk;have h1:=s5.keep k (eG hk2 hn2);rw [h1];show ρ (th LA h.length k)=_;have:th LA h.length k=k:=by unfold th;rw [hAk k hk2]
    rw [this];exact s.hs.keep k hk)
  have hsame:∀ b,(S b∨T b)→(w5.putObj l (.loop { rec5 with state:=.exhausted })).heap[b]? = w1.heap[b]?:=fun b hb=>s6.ext.same b (hSA b hb).1 (hSA b hb).2;have s8:pZ n c ρ5 (fun b=>S5 b∧b≠l) E hh { a with defers:=mk++a.defers } (w5.putObj l (.loop { rec5 with state:=.exhausted })):=by
    refine ⟨s.size,hmk _ _ (fun b hb=>⟨s5.st0 b (.inl hb),hlnS b hb⟩) (fun b hb=>⟨s5.st0 b (.inr hb),(hT b hb).2.1⟩) hsame,fun t x hx=>?_,s7,s.cm⟩
    have h1:=MP (ρ':=ρ5) (m:=m0) (fun q hq=>s5.keep q hq) x _ (Q7 hlow hx) (henvE t x hx);exact nP (fun b hb=>⟨s5.st0 b hb,fun e=>hS0l (e▸hb)⟩) hsame x ρ5 ρ5 _ (fun _ _ h=>h) (fun _ _ _ _ _ hr=>s6.ext.room hr) h1
  generalize w5.putObj l (.loop { rec5 with state:=.exhausted })=w6 at s8 ⊢;cases hb:g'.2 with
  | false=>
    obtain ⟨rfl,hr5⟩:=hg1 hb;rw [hgN hb] at s8;have:rec5.pending=none:=by rw [hr5,hrec]
    rw [this];exact hQ .normal E (HA N) ρ5 _ _ _ hafter s8
  | true=>
    obtain ⟨e,cd,he,hr,hq⟩:=hg2 hb;have:rec5.pending=some cd:=by rw [hr]
    rw [this];exact zL7 he (hQ e E hh ρ5 _ _ _ hq s8)
def T3 (P:Program) (t:TypeId) (k:IntKind):Prop:=P.underlying t=some (.int k)
section
variable {P:Program}{env:eH}{h:Hp}{d:Option Nat}{ty:TypeId}{pos:String}{af:Array Edge}{g:Option (Nat × Bool)}
theorem jR {s t:TypeId}{x:Operand}{ks k kk:IntKind}{n:Int}(hs:T3 P s ks) (ht:T3 P t k) (hx:evu env x=some (.v (.int kk n))) (hn:k.wrap n=n) :
    bX P ⟨d,.convert s t x,ty,pos,af,g⟩ env h 0 (fun _=>.v (.int k n)) (fun _=>[]):=UO hs ht hx hn
theorem II {n:Int}(h0:0≤n) (h1:n<18446744073709551616):IntKind.u64.wrap n=n:=by
  simp [IntKind.wrap,IntKind.signed,IntKind.bits];omega
end
end Go.Ab
namespace Go.Ab
open Go Go.MapKept
section
variable {P:Program}{env:eH}{h:Hp}{d:Option Nat}{ty:TypeId}{pos:String}{af:Array Edge}{g:Option (Nat × Bool)}
variable {t kt et:TypeId}{good:Value→Prop}{x y:Operand}{k i:Nat}{kv:Value}{ks:List Value}{vs:List AV}{v:AV}
end
theorem FK.int {P:Program}{kt:TypeId}(hd:P.underlying kt=some (.int .i64)):FK P kt (IsKey (.int .i64)):=FK.plain hd
end Go.Ab
namespace Go.Ab
open Go
set_option maxHeartbeats 1000000
abbrev NB (l:List Int):List (List AV):=l.map fun n=>[AV.i n]
def jD (l:List Int):List Int:=l.mergeSort fun x y=>decide (x≤y)
theorem pF (l:List Int):(jD l).length=l.length:=List.length_mergeSort l
theorem tU:∀ l:List Int,(NB l).flatten=l.map AV.i
  | []=>rfl
  | a::l=>by
    show [AV.i a]++(NB l).flatten=_;rw [tU l];rfl
theorem yQ {S:Nat→Prop}{w:World}{ρ:Pl}:∀ {l:List Int}{ys:List Value},RL S w (l.map AV.i) ρ ys↔ys=l.map (Value.int .i64)
  | [],ys=>by simp [RL]
  | a::l,ys=>by
    simp only [List.map_cons,RL,R];constructor
    · rintro ⟨y,zs,rfl,rfl,h⟩;rw [yQ.1 h]
    · rintro rfl;exact ⟨_,_,rfl,rfl,yQ.2 rfl⟩
theorem O8 {w:World}{n b off:Nat}{d:List Int}{os:Array Obj}{c:Array Value}{e:TypeId}(hc:w.heap[b]? = some (.cells c e (0,0))) (hb:b<w.heap.size) :
    (Sort.grow (Sort.putRow (Value.int .i64) (Sort.ahead w n) b off d.toArray) os).heap[b]? = some (.cells (Sort.putCells (Value.int .i64) off d.toArray c) e (0,0)):=by
  rw [Sort.heap_grow_old _ _ (by rw [Sort.size_putRow];exact hb)]
  unfold Sort.putRow Sort.mapBlock;show (w.heap.modify b _)[b]? = _;rw [zF,if_pos rfl,hc];rfl
theorem AF {w:World}{n b off:Nat}{d:List Int}{os:Array Obj}{c:Array Value}{e:TypeId}(hc:w.heap[b]? = some (.cells c e (0,0))) (hb:b<w.heap.size) :
    nQ (fun x=>x=b) w (Sort.grow (Sort.putRow (Value.int .i64) (Sort.ahead w n) b off d.toArray) os):=by
  have other:∀ x,x<w.heap.size→x≠b→(Sort.grow (Sort.putRow (Value.int .i64) (Sort.ahead w n) b off d.toArray) os).heap[x]? = w.heap[x]?:=fun x hx hne=>by
    rw [Sort.heap_grow_old _ _ (by rw [Sort.size_putRow];exact hx)]
    unfold Sort.putRow Sort.mapBlock;show (w.heap.modify b _)[x]? = _;rw [zF,if_neg (Ne.symm hne)]
  refine ⟨rfl,rfl,rfl,by rw [Sort.size_grow,Sort.size_putRow];exact jQ _ _,fun x hx hne=>other x hx hne,fun x cc ee fz hcc=>?_⟩
  by_cases hx:x=b
  · subst hx;rw [hc] at hcc;cases hcc;exact ⟨_,_,O8 hc hb,by simp [Sort.putCells]⟩
  · exact ⟨cc,fz,by rw [other x (aX.1 hcc).1 hx];exact hcc,rfl⟩
theorem PC {P : Program} {f : FuncId} (hfn : ∃ fn, P.funcs[f]? = some fn ∧ (fn.name == "runtime.NumGoroutine") = false ∧ fn.body.isNone = false)
    (hs:∀ (blk off cap:Nat) (zs:List Int) (w:World),Sort.Holds (Value.int .i64) w blk off zs.toArray→blk<w.heap.size→zs.length<4611686018427387904 →
      Calls P f #[.slice (some ⟨blk,off,none⟩) zs.length cap] w fun e w'=>e = .returned (.tuple #[])∧∃ n os,w'=Sort.grow (Sort.putRow (Value.int .i64) (Sort.ahead w n) blk off (zs.mergeSort fun x y=>decide (x≤y)).toArray) os)
    (hn:∀ (p:Option Addr) (cap:Nat) (w:World),Calls P f #[.slice p 0 cap] w fun e w'=>e = .returned (.tuple #[])∧w'=w)
    (l:List Int) (hl:l.length≤17592186043904):aT P f [.sl 0 0 l.length 1] [.arr (NB l) 1] (.tup []) [.arr (NB (jD l)) 1]:=by
  refine ⟨hfn,fun ρ S w vs s hv=>?_⟩
  simp only [RL] at hv;obtain ⟨y,_,rfl,hy,rfl⟩:=hv;simp only [R] at hy;obtain ⟨a,cap,rfl,hcap,hy⟩:=hy;cases l with
  | nil=>
    refine (hn a cap w).mono fun e w' ⟨he,hw⟩=>?_
    subst he hw;rw [show jD []=[] from by simp [jD]]
    exact ⟨_,ρ,S,rfl,s,by simp [R,RL]⟩
  | cons i0 l0=>
    rcases hy with ⟨h0,_⟩ | ⟨b,o,hp,ha,hcl,_⟩
    · cases h0
    · obtain ⟨_,_,h3⟩:=s.blk 0 _ rfl;rcases h3 with ⟨h3,_⟩ | ⟨b',o',ys,h4,h5,h6⟩
      · cases h3
      · rw [hp] at h4;cases h4;rw [tU] at h6;have h6:=yQ.1 h6;subst h6;obtain ⟨c,ty,hc,hg⟩:=h5;have hb:=(aX.1 hc).1;rw [CX,Nat.add_zero] at ha;subst ha;have hH:Sort.Holds (Value.int .i64) w b o (i0::l0).toArray:=fun j hj=>by
          have hj:j<(i0::l0).length:=by simpa using hj
          have:=hg j (.int .i64 (i0::l0)[j]) (by rw [bZ,aA hj];rfl)
          refine ⟨?_,?_⟩
          · unfold World.cell?;simp only [hc];rw [if_neg (by simp),this]
            congr 2;rw [getElem!_pos _ j (by simpa using hj)]
            simp
          · unfold World.frozen?;simp only [hc];simp
        refine (hs b o cap (i0::l0) w hH hb (by omega)).mono fun e w' ⟨he,n,os,hw⟩=>?_
        subst he;have hlen:=pF (i0::l0);have hw:w'=Sort.grow (Sort.putRow (Value.int .i64) (Sort.ahead w n) b o (jD (i0::l0)).toArray) os:=hw;have hh:w'.heap[b]? = some (.cells (Sort.putCells (Value.int .i64) o (jD (i0::l0)).toArray c) ty (0,0)):=by rw [hw];exact O8 hc hb
        obtain ⟨s',_⟩:=s.upd (k:=0) (b0:=.arr (NB (i0::l0)) 1) (nb:=.arr (NB (jD (i0::l0))) 1) (w':=w') rfl (by simp) hp (by rw [hw];exact AF hc hb) (fun _=>by
          refine ⟨fun e he=>by obtain ⟨i,_,rfl⟩:=bE.1 he;rfl,MU,.inr ⟨b,o,(jD (i0::l0)).map (Value.int .i64),rfl,⟨_,ty,hh,fun j y hj=>?_⟩,by rw [tU];exact yQ.2 rfl⟩⟩
          rw [bZ] at hj;obtain ⟨z,hz,rfl⟩:=hC.1 hj;obtain ⟨hjl,hz⟩:=aB.1 hz;have hold:=hg j (.int .i64 ((i0::l0)[j]'(by omega))) (by rw [bZ,aA (by omega)];rfl)
          have hlt:=(aX.1 hold).1;unfold Sort.putCells;rw [IC,hold];show some (if o≤o+j∧o+j<o+(jD (i0::l0)).toArray.size then _ else _)=_
          rw [if_pos ⟨by omega,by simpa using hjl⟩]
          congr 2;rw [show o+j-o=j by omega,getElem!_pos _ j (by simpa using hjl)]
          simpa using hz)
        exact ⟨_,ρ,S,rfl,s',by simp [R,RL]⟩
theorem E5 {es:List (List AV)}{sz:Nat}(h:∀ e,e∈es→e.length=sz) (m:Nat):(es.take m).flatten=es.flatten.take (m*sz):=by
  induction es generalizing m with
  | nil=>simp
  | cons a l ih=>
    have ha:=h a aR;cases m with
    | zero=>simp
    | succ m=>
      rw [oO,eW,eW,ih (fun e he=>h e (aM _ he)),lN];rw [bV (l:=a) (by rw [ha,eV];omega),ha,eV,V4,VG]
theorem HX {S:Nat→Prop}{w:World}{ρ:Pl}{p:Option (Nat × Nat)}{es:List (List AV)}{sz:Nat}(m:Nat) (h:RB S w ρ p (.arr es sz)):RB S w ρ p (.arr (es.take m) sz):=by
  obtain ⟨h1,h2,h3⟩:=h;refine ⟨fun e he=>h1 e (fC he),h2,?_⟩;rcases h3 with h3 | ⟨b,o,ys,h4,⟨c,e,h5,h6⟩,h7⟩
  · exact .inl ⟨by rw [h3.1];simp,h3.2⟩
  · refine .inr ⟨b,o,ys.take (m*sz),h4,⟨c,e,h5,fun j y hj=>h6 j y ?_⟩,by rw [E5 h1];exact rI h7 _⟩
    rw [cE] at hj;split at hj
    · exact hj
    · cases hj
section
variable {P:Program}{env:eH}{h:Hp}{n:Nat × Nat}{ops:Array Oper}{rest:List Oper}{K:eH→Hp→Prop}{ty:TypeId}{pos:String}{af:Array Edge}
theorem VX (T:oZ P){t e k off len:Nat}{i:TI}{x:Operand}{es:List (List AV)}(hx:evu env x=some (.sl k off len 1)) (ht:T.elem t=some e) (he:T.ti e=some i) (hz:i.zero=[.int .i64 0]) (hkk:h[k]? = some (.arr es 1)) (hle:off+len≤es.length)
    (hk:VC P n ops rest env (h.set k (.arr (es.take off) 1)) K):VC P n ops (⟨none,.call { callee:=.builtin .clear,args:=#[x],argTypes:=#[t] },ty,pos,af,none⟩::rest) env h K:=by
  intro c ρ S a w Q s hQ;refine wpList_plain rfl fun K' hK'=>?_
  have p:=s.pre;have hxv:=p.evu hx;simp only [R] at hxv;obtain ⟨ad,cap,hev,_,hxv⟩:=hxv;obtain ⟨inf,z,t1,t2,t3,t4,t5,t6,t7⟩:=T.tiOk e i he;have hund:P.underlying t=some (.slice e):=T.elemOk _ _ ht;have hzv:∀ w,(zeroValue e).run P w = .ok z w:=fun w=>by simp [zeroValue,typeInfo,t1,t4]
  have hzc:z.cells = #[.int .i64 0]:=by
    rw [hz] at t5;exact Array.toList_inj.1 t5
  have ev1:∀ r w',(Builtin.clear_ #[t] ty #[a.eval x]).run P w = .ok r w'→(execOp a.eval ⟨none,.call { callee:=.builtin .clear,args:=#[x],argTypes:=#[t] },ty,pos,af,none⟩).run P w = .ok (.value r) w':=fun r w' hr=>by
    simp [execOp,resolve,invoke,builtin,hr]
  have fin:∀ {r:Value} {w':World},(Builtin.clear_ #[t] ty #[a.eval x]).run P w = .ok r w'→HS c ρ S (h.set k (.arr (es.take off) 1)) w'∧iX ρ ρ S S w w'→Oper.wp P ⟨none,.call { callee:=.builtin .clear,args:=#[x],argTypes:=#[t] },ty,pos,af,none⟩ a w K' Q:=fun {r w'} hr ⟨g1,g2⟩=>by
    unfold Oper.wp;rw [ev1 r w' hr];exact hK' _ _ (hk c ρ S _ _ Q ⟨by rw [nG];exact s.size,by rw [kT];exact s.defers.later g2,fun tt uu huu=>(s.env tt uu huu).later g2,g1,s.cm⟩ hQ)
  have stay:HS c ρ S (h.set k (.arr (es.take off) 1)) w∧iX ρ ρ S S w w:=⟨s.hs.alter hkk (HX off) (by simp),⟨fun _ _ h=>h,fun _ h=>h,fun _ _=>rfl,fun _ _ _ _ _ h=>h⟩⟩
  cases len with
  | zero=>
    refine fin (r:=.tuple #[]) ?_ stay;rw [hev];cases ad <;> simp [Builtin.clear_,run_underlying hund]
  | succ m=>
    rcases hxv with ⟨h0,_⟩ | ⟨b,o,hp,ha,hlc,hroom⟩
    · cases h0
    · have hB:=p.blk k _ hkk;obtain ⟨hes,hs0,hB⟩:=hB;rcases hB with hB | ⟨b',o',ys,h4,⟨cc,ct,h5,h6⟩,h7⟩
      · obtain ⟨hB,_⟩:=hB;subst hB;simp at hle
      rw [hp] at h4;cases h4;have hyl:=fZ h7;have hfl:=eR hes;have hlast:=h6 (ys.length-1) (ys[ys.length-1]'(by omega)) (aA _)
      have hsz:=(aX.1 hlast).1;have hzs:(Builtin.zeroCells z.cells (m+1)).toList=List.replicate (m+1) (.int .i64 0):=by
        rw [hzc];simp [Builtin.zeroCells];apply gY
        · simp
        · intro i h1 h2;simp [Nat.mod_one]
      have hst:=run_storeCells_at P b (o+off) ct (List.replicate (m+1) (Value.int .i64 0)) 0 cc w h5 (by rw [IA];omega) (by intro v hv;rw [iW hv];rfl)
      rw [Nat.mul_one] at ha;subst ha;refine fin (r:=.tuple #[]) (w':=w.setRow b (cc.toList.take (o+off+0)++List.replicate (m+1) (Value.int .i64 0)++cc.toList.drop (o+off+0+(List.replicate (m+1) (Value.int .i64 0)).length)).toArray) ?_ (s.hs.upd hkk (by simp) hp (rA h5 ?_) fun l=>?_)
      · rw [hev];simp only [Builtin.clear_];simp [run_underlying hund,hzv,hzs,hst]
      · simp;omega
      · refine ⟨fun e he=>hes e (fC he),MU,.inr ⟨b,o,ys.take off,rfl,⟨_,ct,setRow_heap w b cc _ ct _ h5,fun j y hj=>?_⟩,?_⟩⟩
        · rw [cE] at hj;split at hj
          · rename_i hjo;have:=h6 j y hj;have hjl:=(aX.1 this).1;rw [iZ,bT,aO (by simp;omega),cE,if_pos (by omega)]
            simpa using this
          · cases hj
        · rw [E5 hes,Nat.mul_one];exact rI (h7.later l) off
end
end Go.Ab
namespace Go.Ab
open Go
section
variable {P:Program}{env:eH}{h:Hp}{n:Nat × Nat}{ops:Array Oper}{rest:List Oper}{K:eH→Hp→Prop}{ty:TypeId}{pos:String}{af:Array Edge}
theorem tI {t t2 e len sz dd:Nat}{cs:List AV}{x y:Operand}(T:oZ P) (hx:evu env x=some (.row cs len sz)) (hy:evu env y=some .nils) (ht:T.elem t=some e) (hd:EE (some dd) n=true)
    (hk:∀ b:Bool,(0<len→b=false)→VC P n ops rest ((dd,.b b)::env) h K):VC P n ops (⟨some dd,.binOp .eql t x y t2,ty,pos,af,none⟩::rest) env h K:=by
  intro c ρ S a w Q s hQ;refine wpList_plain rfl fun K' hK'=>?_
  have p:=s.pre;have h3:=p.evu hx;simp only [R] at h3;obtain ⟨ad,cap,h4,hlc,hn,_⟩:=h3;have h5:=sD (p.evu hy);have run:(execOp a.eval ⟨some dd,.binOp .eql t x y t2,ty,pos,af,none⟩).run P w = .ok (.value (.bool ad.isNone)) w:=by
    have he:=Lib.run_eql_slice_nil w t e ad len cap 0 0 (T.elemOk _ _ ht);have hg:(eqGuard .eql t x y (.slice ad len cap) (.slice none 0 0)).run P w = .ok () w:=by cases ad <;> rfl
    simp [execOp,h4,h5,hg,he]
  have hv:=hk ad.isNone (fun h0=>by
    cases ad with
    | none=>have:=hn rfl;omega
    | some _=>rfl)
  unfold Oper.wp;rw [run];have hs:=s.post (d:=some dd) (m:=0) (x:=.b ad.isNone) (new:=[]) (y:=.bool ad.isNone) hd ⟨nQ.refl _ _,rfl,fun _ _=>rfl,fun _ h=>h,fun _ h=>.inl h,fun k p h1 h2=>by omega,fun k k' p p' h1 h2=>by omega,lC _,fun j b hb=>by simp at hb⟩
  rw [List.append_nil] at hs;exact hK' _ _ (hv c ρ S _ w Q hs hQ)
end
theorem HS.freezeC {c:oP}{ρ:Pl}{S:Nat→Prop}{h:Hp}{w:World}{k:Nat}{x:AB}(s:HS c ρ S h w) (hk:h[k]? = some x) (hx:x≠.gone):HS c ρ (fun b=>S b∨∃ o,ρ k=some (b,o)) (h.set k .gone) w:=by
  have get:∀ {j:Nat} {b:AB},(h.set k .gone)[j]? = some b→b≠.gone→j≠k∧h[j]? = some b:=fun {j b} hj hg=>by
    rw [iB] at hj;split at hj
    · split at hj
      · cases hj;exact absurd rfl hg
      · cases hj
    · rename_i e;exact ⟨fun e'=>e e'.symm,hj⟩
  have l:iX ρ ρ S (fun b=>S b∨∃ o,ρ k=some (b,o)) w w:=⟨fun _ _ h=>h,fun _ h=>.inl h,fun _ _=>rfl,fun _ _ _ _ _ h=>h⟩
  refine ⟨fun j hj=>s.dom j (by simpa using hj),s.rng,fun j b hb=>?_,fun j b p hb hg hp=>?_,fun j j' b b' p p' hb hb' hg hg' hp hp' e=>s.inj j j' b b' p p' (get hb hg).2 (get hb' hg').2 hg hg' hp hp' e,fun b hb=>?_,s.ext,fun b hb=>.inl (s.st0 b hb),fun b hb=>?_,by simpa using s.mle,s.keep,s.glob.st (fun b hb=>.inl hb)⟩
  · by_cases hg:b = .gone
    · subst hg;trivial
    · exact RB.later l (fun _ _ _=>rfl) (s.blk j b (get hb hg).2)
  · obtain ⟨h1,h2⟩:=s.live j b p (get hb hg).2 hg hp;refine ⟨h1,fun hs=>?_⟩
    rcases hs with hs | ⟨o,ho⟩
    · exact h2 hs
    · exact (get hb hg).1 (s.inj j k b _ p _ (get hb hg).2 hk hg hx hp ho rfl)
  · rcases hb with hb | ⟨o,ho⟩
    · exact s.stab b hb
    · exact s.rng k _ ho
  · rcases hb with hb | ⟨o,ho⟩
    · exact s.st1 b hb
    · exact .inr (s.live k _ _ hk hx ho).1
theorem LN {S:Nat→Prop}{w:World}{ρ:Pl}{k off:Nat}{cs:List AV}(hi:AV.idfL cs=true) (hb:RB S w ρ (ρ k) (.cells cs)){y:Value}(hy:R S w (.ptr k off) ρ y):R (fun c=>S c∨∃ o,ρ k=some (c,o)) w (.pr cs off) ρ y:=by
  simp only [RB] at hb;obtain ⟨b,o,ys,h1,h2,h3⟩:=hb;simp only [R] at hy ⊢;obtain ⟨b',o',h4,rfl⟩:=hy;rw [h1] at h4;cases h4;exact ⟨b,o,ys,rfl,.inr ⟨o,h1⟩,h2.lies,zF6 (fun _ h=>.inl h) (vH ρ _ _ _ hi h3)⟩
theorem PF {P:Program}{f:FuncId}{args cs:List AV}{fn:Fn}(hi:AV.idfL cs=true) (h:aT P f args [] (.clo fn [] [.ptr 0 0]) [.cells cs]):aT P f args [] (.clo fn [] [.pr cs 0]) []:=by
  refine ⟨h.1,fun ρ S w vs hs ha=>(h.2 ρ S w vs hs ha).mono ?_⟩;rintro e w' ⟨y,ρ',S',rfl,h2,h3⟩;simp only [R,RL] at h3;obtain ⟨ys,zs,rfl,h4,y2,z2,e2,h5,e3⟩:=h3;refine ⟨_,_,_,rfl,(h2.freezeC (k:=0) rfl (by simp)).none rfl,?_⟩
  unfold R;refine ⟨ys,zs,rfl,?_,?_⟩
  · simp only [RL];exact h4
  · rw [e2,e3];simp only [RL];refine ⟨y2,[],rfl,MQ ρ' _ _ _ rfl (LN hi (h2.blk 0 _ rfl) ?_),rfl⟩;simp only [R];exact h5
abbrev ints (l:List Int):List (List AV):=l.map fun n=>[AV.i n]
abbrev BZ (l:List Bool):List (List AV):=l.map fun n=>[AV.b n]
abbrev nats (l:List Nat):List Int:=l.map fun n:Nat=>(n:Int)
theorem ints_len (l:List Int):∀ e,e∈ints l→e.length=1:=by intro e he;obtain ⟨n,_,rfl⟩:=bE.1 he;rfl
theorem ints_idf (l:List Int):∀ e,e∈ints l→AV.idfL e=true:=by intro e he;obtain ⟨i,_,rfl⟩:=bE.1 he;rfl
theorem FF (l:List Bool):∀ e,e∈BZ l→AV.idfL e=true:=by intro e he;obtain ⟨i,_,rfl⟩:=bE.1 he;rfl
theorem RE (l:List Int):AV.rfL (ints l).flatten=true:=by
  induction l with
  | nil=>rfl
  | cons c l ih=>exact ih
theorem BH (θ:Nat→Nat) (l:List Int):(ints l).map (AV.mapL θ)=ints l:=by
  rw [sK];rfl
theorem K9 (l:List Int):(ints l).flatten.all AV.one=true:=
  bF.2 fun x hx=>by obtain ⟨i,_,rfl⟩:=bE.1 ((tU l)▸hx);rfl
theorem ints_idfF (l:List Int):AV.idfL (ints l).flatten=true:=by
  induction l with
  | nil=>rfl
  | cons c l ih=>exact ih
theorem ints_gI {l:List Int}{j:Int}{i:Nat}(d:Int) (h:i<l.length) (e:j=i):(ints l)[j.toNat]? = some [AV.i (l.getD i d)]:=by
  subst e;rw [bH,bZ,aA h,aC,aA h];rfl
theorem L0 {l:List Int}{j:Int}{i:Nat}(d:Int) (h:i<l.length) (e:j=i):(ints l)[0+j.toNat]? = some [AV.i (l.getD i d)]:=by
  rw [Nat.zero_add];exact ints_gI d h e
theorem zC6 {l:List Bool}{j:Int}{i:Nat}(h:i<l.length) (e:j=i):(BZ l)[0+j.toNat]? = some [AV.b (l.getD i false)]:=by
  subst e;rw [Nat.zero_add,bH,bZ,aA h,aC,aA h];rfl
theorem Y0 {l:List Int}{j x:Int}{i:Nat}(e:j=i):(ints l).set (0+j.toNat) [AV.i x]=ints (l.set i x):=by
  subst e;rw [Nat.zero_add,bH,← sJ]
theorem zC5 {l:List Bool}{j:Int}{x:Bool}{i:Nat}(e:j=i):(BZ l).set (0+j.toNat) [AV.b x]=BZ (l.set i x):=by
  subst e;rw [Nat.zero_add,bH,← sJ]
theorem GK:∀ i:Nat,i<1→([0]:List Nat)[i]? = some i:=by decide
theorem Z7 (h:Hp):∀ l:List Int,mP h (ints l).flatten (ints l).flatten
  | []=>.nil
  | _::l=>.cons (.v _) (Z7 h l)
theorem O4 {h:Hp}{k n:Nat}{l:List Int}(hk:h[k]? = some (.arr (ints l) 1)) (hn:n=l.length):oN h (.sl k 0 n 1) (.rowE (ints l) 1):=by
  subst hn;have:=oN.sl (h:=h) (k:=k) (off:=0) (len:=l.length) hk (by simp) (by rw [nJ,bV (by simp)];exact Z7 h l)
  rwa [show l.length=(ints l).length by simp] at this ⊢
theorem mI {l:List (List AV)}{n:Nat}{x:List AV}(h:n=l.length):List.take n (List.drop 0 l)++[x]=l++[x]:=by
  rw [nJ,h,dI]
theorem D7 (l:List Int) (x:Int):ints l++[[AV.i x]]=ints (l++[x]):=by simp
theorem EH (l:List Nat) (x:Nat):ints (nats l)++[[AV.i (x:Int)]]=ints (nats (l++[x])):=by simp
theorem ints_length (l:List Int):(ints l).length=l.length:=aF _
theorem HL (l:List Bool):(BZ l).length=l.length:=aF _
end Go.Ab
namespace Go.Ab
open Go
set_option maxHeartbeats 1000000
theorem L2 (w:World):Sort.grow w #[]=w:=by simp [Sort.grow]
theorem ZX {c:oP}{ρ:Pl}{S:Nat→Prop}{l:List Int}{w:World}{b o:Nat}(s:HS c ρ S [.arr (NB l) 1] w) (hp:ρ 0=some (b,o)) (hne:l≠[]):Sort.Holds (Value.int .i64) w b o l.toArray∧b<w.heap.size:=by
  obtain ⟨_,_,h3⟩:=s.blk 0 _ rfl;rcases h3 with h3 | ⟨b',o',ys,h4,h5,h6⟩
  · exact absurd (mQ.1 h3.1) hne
  · rw [hp] at h4;cases h4;rw [tU] at h6;have h6:=yQ.1 h6;subst h6;obtain ⟨c,ty,hc,hg⟩:=h5;refine ⟨fun j hj=>?_,(aX.1 hc).1⟩;have hj:j<l.length:=by simpa using hj
    have:=hg j (.int .i64 l[j]) (by rw [bZ,aA hj];rfl)
    refine ⟨?_,?_⟩
    · unfold World.cell?;simp only [hc];rw [if_neg (by simp),this]
      congr 2;rw [getElem!_pos _ j (by simpa using hj)]
      simp
    · unfold World.frozen?;simp only [hc];simp
theorem zV5 {c:oP}{ρ:Pl}{S:Nat→Prop}{l d:List Int}{w w':World}{b o n:Nat}{os:Array Obj}(s:HS c ρ S [.arr (NB l) 1] w) (hp:ρ 0=some (b,o)) (hne:l≠[]) (hl:d.length=l.length)
    (hw:w'=Sort.grow (Sort.putRow (Value.int .i64) (Sort.ahead w n) b o d.toArray) os):HS c ρ S [.arr (NB d) 1] w':=by
  obtain ⟨_,_,h3⟩:=s.blk 0 _ rfl;rcases h3 with h3 | ⟨b',o',ys,h4,h5,h6⟩
  · exact absurd (mQ.1 h3.1) hne
  · rw [hp] at h4;cases h4;rw [tU] at h6;have h6:=yQ.1 h6;subst h6;obtain ⟨c,ty,hc,hg⟩:=h5;have hb:=(aX.1 hc).1;have hh:w'.heap[b]? = some (.cells (Sort.putCells (Value.int .i64) o d.toArray c) ty (0,0)):=by rw [hw];exact O8 hc hb
    obtain ⟨s',_⟩:=s.upd (k:=0) (b0:=.arr (NB l) 1) (nb:=.arr (NB d) 1) (w':=w') rfl (by simp) hp (by rw [hw];exact AF hc hb) (fun _=>by
      refine ⟨fun e he=>by obtain ⟨i,_,rfl⟩:=bE.1 he;rfl,MU,.inr ⟨b,o,d.map (Value.int .i64),rfl,⟨_,ty,hh,fun j y hj=>?_⟩,by rw [tU];exact yQ.2 rfl⟩⟩
      rw [bZ] at hj;obtain ⟨z,hz,rfl⟩:=hC.1 hj;obtain ⟨hjl,hz⟩:=aB.1 hz;have hold:=hg j (.int .i64 (l[j]'(by omega))) (by rw [bZ,aA (by omega)];rfl)
      unfold Sort.putCells;rw [IC,hold];show some (if o≤o+j∧o+j<o+d.toArray.size then _ else _)=_
      rw [if_pos ⟨by omega,by simpa using hjl⟩]
      congr 2;rw [show o+j-o=j by omega,getElem!_pos _ j (by simpa using hjl)]
      simpa using hz)
    exact s'
theorem HV {P : Program} {f : FuncId} (hfn : ∃ fn, P.funcs[f]? = some fn ∧ (fn.name == "runtime.NumGoroutine") = false ∧ fn.body.isNone = false)
    (hs:∀ (blk off cap i j:Nat) (zs:List Int) (w:World),Sort.Holds (Value.int .i64) w blk off zs.toArray→zs.length≤cap→cap≤9223372036854775807→i≤j→j≤zs.length →
      Calls P f #[.slice (some ⟨blk,off,none⟩) zs.length cap,.int .i64 i,.int .i64 j] w fun e w'=>e = .returned (.slice (some ⟨blk,off,none⟩) (zs.length-(j-i)) cap)∧∃ q,w'=Sort.putRow (Value.int .i64) (Sort.ahead w q) blk off (zs.take i++zs.drop j++List.replicate (j-i) 0).toArray)
    (l:List Int) (i j:Nat) (hij:i≤j) (hj:j≤l.length) (hne:l≠[]) :
    aT P f [.sl 0 0 l.length 1,.i (i:Int),.i (j:Int)] [.arr (NB l) 1] (.sl 0 0 (l.length-(j-i)) 1) [.arr (NB (l.take i++l.drop j)) 1]:=by
  refine ⟨hfn,fun ρ S w vs s hv=>?_⟩
  simp only [RL] at hv;obtain ⟨y,_,rfl,hy,y2,_,rfl,hy2,y3,_,rfl,hy3,rfl⟩:=hv;simp only [R] at hy hy2 hy3;subst hy2 hy3;obtain ⟨a,cap,rfl,hcap,hy⟩:=hy;have hl0:0<l.length:=eF.2 hne;rcases hy with ⟨h0,_⟩ | ⟨b,o,hp,ha,hcl,hrm⟩
  · omega
  · obtain ⟨hH,hb⟩:=ZX s hp hne;rw [CX,Nat.add_zero] at ha;subst ha;have hmax:maxLen≤9223372036854775807:=by decide
    refine (hs b o cap i j l w hH hcl (by omega) hij hj).mono fun e w' ⟨he,n,hw⟩=>?_
    subst he;have s':=zV5 (n:=n) (os:=#[]) (w':=w') (d:=l.take i++l.drop j++List.replicate (j-i) 0) s hp hne (by simp only [aJ,bL,eD,IA];omega) (by rw [L2];exact hw)
    have e2:NB (l.take i++l.drop j)=(NB (l.take i++l.drop j++List.replicate (j-i) 0)).take (l.take i++l.drop j).length:=by
      rw [← lS,List.take_append_of_le_length (bA _),dI]
    refine ⟨_,ρ,S,rfl,?_,?_⟩
    · have:=s'.alter (k:=0) (b1:=.arr (NB (l.take i++l.drop j)) 1) rfl (fun h=>by rw [e2];exact HX _ h) (by simp)
      exact this
    · have hE:=s'.ext;have hx:room w' b (o+(0+cap)*1):=by
        have hext:nQ (fun _=>True) w w':=?_;exact hext.room hrm;rw [hw];have:=s.blk 0 _ rfl;obtain ⟨_,_,h3⟩:=this;rcases h3 with h3 | ⟨b',o',ys,h4,h5,h6⟩
        · exact absurd (mQ.1 h3.1) hne
        · rw [hp] at h4;cases h4;obtain ⟨c,ty,hc,_⟩:=h5;have:=AF (n:=n) (off:=o) (d:=l.take i++l.drop j++List.replicate (j-i) 0) (os:=#[]) hc hb;rw [L2] at this;exact this.mono fun _ _ _=>trivial
      simp only [R];exact ⟨_,cap,rfl,hcap,.inr ⟨b,o,hp,by simp,by omega,hx⟩⟩
end Go.Ab
namespace Go.Ab
open Go
end Go.Ab
namespace Go.Ab
open Go
set_option maxHeartbeats 1000000
section
variable {cA:oP}{l:Nat}{rec0:Loop}{E:eH}{HA:Nat→Hp}{GO:Nat→Nat × Bool}{J:JT}{A:Nat→Prop}{Q:Nat × Bool→Exit→eH→Hp→Prop}
theorem yA7.later {g:Nat × Bool}{c c':oP}{ρ ρ':Pl}{S S' W N N':Nat→Prop}{h h':Hp}{w w':World}(hJ:zG5 J) (j:yA7 J A g c ρ S h w W N) (x:nQ (fun b=>¬ N' b) w w') (hN:∀ b,N b→N' b)
    (hl:∀ (k:Nat) x p,h'[k]? = some x→x≠.gone→ρ' k=some p→¬ N p.1) (hst:∀ b,S' b→¬ W b) (hc:∀ b,S' b→c'.lo≤b→N b→Q9 w b) (hwm:∀ b,W b→c'.M b) (haS:∀ b,S' b→A b) (haM:∀ b,c'.M b→A b) (hnn:∀ b,N b→c'.nb b∨c'.S0 b∨c'.M b):yA7 J A g c' ρ' S' h' w' W N:=by
  refine ⟨hJ.st j.j (x.mono fun b _ hb h=>hb (hN b h)),hl,hst,fun b hb h1 h2=>?_,hwm,haS,haM,hnn⟩
  obtain ⟨cc,e,h4⟩:=hc b hb h1 h2;exact ⟨cc,e,by rw [x.same b (hJ.lt j.j b h2) (fun h=>h (hN b h2))];exact h4⟩
end
def M5 (l:List Oper) (pres:List (List Nat)) (k:Nat):Bool:=
  tS l.toArray pres&&Nat.ble k l.length&&(List.range l.length).all fun i=>match Nat.blt i k with
    | true=>match l[i]? with
      | some o=>match o.guard with
        | some (j,_)=>Nat.blt j k
        | none=>true
      | none=>true
    | false=>(List.range i).all fun j=>(pres.getD i []).any (Nat.beq j)
section
variable {P:Program}{r:Option Nat}{Q Q1:Exit→Act→World→Prop}{l:List Oper}{pres:List (List Nat)}{k:Nat}
theorem I2 (h:M5 l pres k=true):tS l.toArray pres=true∧k≤l.length∧(∀ i,i<k→∀ o j b,l[i]? = some o→o.guard=some (j,b)→j<k)∧∀ i,k≤i→i<l.length→∀ j,j<i→j∈pres.getD i []:=by
  unfold M5 at h;simp only [aN] at h;obtain ⟨⟨h1,h2⟩,h3⟩:=h;have h2:=aY h2;rw [bF] at h3;refine ⟨h1,h2,fun i hi o j b ho hg=>?_,fun i hi hl j hj=>?_⟩
  · have:=h3 i (dD.2 (by omega))
    rw [show Nat.blt i k=true from Nat.ble_eq_true_of_le hi] at this
    simp only [ho,hg] at this;exact aY this
  · have:=h3 i (dD.2 hl);have hb:Nat.blt i k=false:=by
      rw [← dR];intro hb;have:=aY hb;omega
    rw [hb] at this;simp only [bF] at this;have:=this j (dD.2 hj);rw [gD] at this;obtain ⟨x,hx,hxe⟩:=this;rw [aU hxe];exact hx
theorem AO (hok:tS l.toArray pres=true){listed:Array Bool}(hcl:∀ (i:Nat) o,l.toArray[i]? = some o→listed.getD i false=true→∀ e,e∈o.after→Region.binds .any e=true→listed.getD e.on false=true) :
    ∀ (i:Nat) o,l.toArray[i]? = some o→(∀ e,e∈o.after→Region.binds .any e=true→listed.getD e.on false=true)→∀ j,j∈pres.getD i []→listed.getD j false=true:=by
  intro i
  induction i using Nat.strongRecOn with
  | _ i ih=>
    intro o ho hall j hj;have hlt:i<l.toArray.size:=(aX.1 ho).1;have h:=bF.1 hok i (by simpa using hlt)
    rw [ho] at h;simp only [aN] at h;have h2:=h.2;cases hp:pres[i]? with
    | none=>rw [aC,hp] at hj;simp at hj
    | some pre=>
      rw [aC,hp] at hj;rw [hp] at h2;simp only [bF,aN,decide_eq_true_eq] at h2;obtain ⟨h3,h4⟩:=h2 j hj;rw [gD] at h4;obtain ⟨e,he,h5⟩:=h4;rw [aN,uF] at h5;obtain ⟨hb,h6⟩:=h5;have he':e∈o.after:=by simpa using he
      have hel:=hall e he' hb;rcases h6 with h6 | h6
      · rw [← aU h6];exact hel
      · rw [gD] at h6;obtain ⟨x,hx,hxe⟩:=h6;rw [aU hxe];have hei:=lT hok ho e he' hb;exact ih e.on hei _ (dH (by omega)) (fun e2 he2 hb2=>hcl e.on _ (dH (by omega)) hel e2 he2 hb2) x hx
theorem zI1 (hc:M5 l pres k=true):∀ (m k' fuel:Nat) (listed:Array Bool) (a:Act) (w:World),k'+m=l.length→k≤k'→m≤fuel→listed.size=l.length→(∀ j,j<l.length→listed.getD j false=decide (j<k')) →
    wpListIn (rd r) 0 P l.toArray Q (l.drop k') a w→wpAnyIn (rd r) 0 P .any l.toArray Q fuel listed a w:=by
  obtain ⟨hok,hkl,_,hpre⟩:=I2 hc;intro m
  induction m with
  | zero=>
    intro k' fuel listed a w hk hkk hf hsz hl h;rw [dJ (by omega)] at h
    have hre:Region.ready .any l.toArray listed=[]:=by
      rw [lO];intro i hi;obtain ⟨h1,o,ho,_⟩:=mem_ready.1 hi;have hil:i<l.length:=by have:=(aX.1 ho).1;simpa using this
      have e:listed.getD i true=listed.getD i false:=by simp [Array.getD,hsz,hil]
      rw [e,hl i hil] at h1;have:¬ i<k':=by simpa using h1
      omega
    cases fuel with
    | zero=>exact ⟨hre,h⟩
    | succ f=>exact ⟨fun _=>h,fun i hi=>by rw [hre] at hi;cases hi⟩
  | succ m ih=>
    intro k' fuel listed a w hk hkk hf hsz hl h;obtain ⟨f,rfl⟩:∃ f,fuel=f+1:=⟨fuel-1,by omega⟩
    have hlt:k'<l.length:=by omega
    have ho:l.toArray[k']? = some l[k']:=by simp [aA hlt]
    have hin:k'∈Region.ready .any l.toArray listed:=mem_ready.2 ⟨by
      have e:listed.getD k' true=listed.getD k' false:=by simp [Array.getD,hsz,hlt]
      rw [e,hl k' hlt];simp,l[k'],ho,fun e he hb=>by
      have:=lT hok ho e he hb
      rw [hl e.on (by omega)];simpa using this⟩
    refine ⟨(fun hr=>by rw [hr] at hin;cases hin),fun i hi=>?_⟩
    obtain ⟨h1,o,hoi,hall⟩:=mem_ready.1 hi;have hil:i<l.length:=by have:=(aX.1 hoi).1;simpa using this
    have hcl:∀ (i:Nat) o,l.toArray[i]? = some o→listed.getD i false=true→∀ e,e∈o.after→Region.binds .any e=true→listed.getD e.on false=true:=fun i o ho hi e he hb=>by
      have hil:i<l.length:=by have:=(aX.1 ho).1;simpa using this
      have:=lT hok ho e he hb;rw [hl i hil] at hi;have:i<k':=by simpa using hi
      rw [hl e.on (by omega)];simp;omega
    have hik:i=k':=by
      have e:listed.getD i true=listed.getD i false:=by simp [Array.getD,hsz,hil]
      rw [e,hl i hil] at h1;have h2:¬ i<k':=by simpa using h1
      rcases iM k' i with h3 | h3
      · have:=AO hok hcl i o hoi hall k' (hpre i (by omega) hil k' h3)
        rw [hl k' hlt] at this;simp at this
      · omega
    subst hik;rw [bB hlt] at h;unfold wpListIn at h;unfold wpOpIn;rw [ho];have nx:∀ a w,wpListIn (rd r) 0 P l.toArray Q (l.drop (i+1)) a w→wpAnyIn (rd r) 0 P .any l.toArray Q f (listed.setIfInBounds i true) a w:=fun a w h'=>
      ih (i+1) f _ a w (by omega) (by omega) (by omega) (by simpa using hsz) (fun j hj=>by
        by_cases hij:i=j
        · subst hij;simp [Array.getD,hsz,hlt]
        · rw [getD_set_ne false hij,hl j hj]
          simp;omega) h'
    simp only;split at h
    · rename_i hw;rw [if_pos hw];exact Oper.wpIn_mono nx h
    · rename_i hw;rw [if_neg hw];exact ⟨h.1,nx _ _ h.2⟩
theorem HT (hc:M5 l pres k=true) (hnd:nH (l.take k)=true) (hq1:∀ e a w,Q1 e a w→e = .normal) (hrest:∀ a w,Q1 .normal a w→wpListIn (rd r) 0 P l.toArray Q (l.drop k) a w) :
    ∀ (fuel' fuel:Nat) (listed listedf:Array Bool) (U:List Nat) (a:Act) (w:World),listed.size=l.length→listedf.size=k→(∀ j,j<k→listed.getD j false=listedf.getD j false)→(∀ j,k≤j→listed.getD j false=false) →
      (∀ (i:Nat) o,l.toArray[i]? = some o→listed.getD i false=true→∀ e,e∈o.after→Region.binds .any e=true→listed.getD e.on false=true) →
      (∀ j,j<k→listed.getD j false=false→j∈U)→U.length≤fuel'→fuel'+(l.length-k)≤fuel →
      wpAny P .any (l.take k).toArray Q1 fuel' listedf a w→wpAnyIn (rd r) 0 P .any l.toArray Q fuel listed a w:=by
  obtain ⟨hok,hkl,hgd,hpre⟩:=I2 hc;have hlk:(l.take k).toArray.size=k:=by simp;omega
  have done:∀ (fuel:Nat) (listed:Array Bool) (a:Act) (w:World),listed.size=l.length→(∀ j,k≤j→listed.getD j false=false)→(∀ j,j<k→listed.getD j false=true)→l.length-k≤fuel→Q1 .normal a w→wpAnyIn (rd r) 0 P .any l.toArray Q fuel listed a w:=fun fuel listed a w hsz ht hf hfu hq=>
    zI1 hc (l.length-k) k fuel listed a w (by omega) (bA _) hfu hsz (fun j hj=>by
      by_cases h:j<k
      · rw [hf j h];simp [h]
      · rw [ht j (by omega)];simp [h]) (hrest a w hq)
  intro fuel'
  induction fuel' with
  | zero=>
    intro fuel listed listedf U a w hsz hszf hlf ht hcl hU hUl hfu h;have hU0:U=[]:=cK (by omega)
    subst hU0
    exact done fuel listed a w hsz ht (fun j hj=>by
      cases hb:listed.getD j false with
      | true=>rfl
      | false=>exact absurd (hU j hj hb) (by simp)) (by omega) h.2
  | succ fuel' ih=>
    intro fuel listed listedf U a w hsz hszf hlf ht hcl hU hUl hfu h;by_cases hfl:∀ j,j<k→listed.getD j false=true
    · refine done fuel listed a w hsz ht hfl (by omega) (h.1 ?_)
      rw [lO];intro i hi;obtain ⟨h1,o,ho,_⟩:=mem_ready.1 hi;have hil:i<k:=by have:=(aX.1 ho).1;omega
      have e:listedf.getD i true=listedf.getD i false:=by simp [Array.getD,hszf,hil]
      rw [e,← hlf i hil,hfl i hil] at h1;cases h1
    · obtain ⟨j0,hj0,hjf⟩:∃ j,j<k∧listed.getD j false=false:=by
        apply Classical.byContradiction;intro hn;apply hfl;intro j hj;cases hb:listed.getD j false with
        | true=>rfl
        | false=>exact absurd ⟨j,hj,hb⟩ hn
      obtain ⟨f,rfl⟩:∃ f,fuel=f+1:=⟨fuel-1,by omega⟩
      have hex:Region.ready .any l.toArray listed≠[]:=by
        have gM:∃ j,j<k∧listed.getD j false=false∧∀ i,i<j→listed.getD i false=true:=by
          have:∀ b j,j≤b→j<k→listed.getD j false=false→∃ j,j<k∧listed.getD j false=false∧∀ i,i<j→listed.getD i false=true:=by
            intro b
            induction b with
            | zero=>exact fun j hj h5 h6=>⟨j,h5,h6,fun k hk=>by omega⟩
            | succ b ihb=>
              intro j hj h5 h6;by_cases hk:∃ k,k<j∧listed.getD k false=false
              · obtain ⟨k,hk1,hk2⟩:=hk;exact ihb k (by omega) (by omega) hk2
              · refine ⟨j,h5,h6,fun k hk'=>?_⟩
                cases hb:listed.getD k false with
                | true=>rfl
                | false=>exact absurd ⟨k,hk',hb⟩ hk
          exact this j0 j0 (bA _) hj0 hjf
        obtain ⟨j,h5,h6,h7⟩:=gM;intro he;have hlt:j<l.toArray.size:=by simp;omega
        have:j∈Region.ready .any l.toArray listed:=mem_ready.2 ⟨by
          have e:listed.getD j true=listed.getD j false:=by simp only [Array.getD,hsz,show j<l.length by omega,dif_pos]
          rw [e,h6],_,dH hlt,fun e he hb=>h7 _ (lT hok (dH hlt) e he hb)⟩
        rw [he] at this;cases this
      refine ⟨fun h5=>absurd h5 hex,fun i hi=>?_⟩
      obtain ⟨h1,o,hoi,hall⟩:=mem_ready.1 hi;have hil:i<l.length:=by have:=(aX.1 hoi).1;simpa using this
      have hik:i<k:=by
        apply Classical.byContradiction;intro hge;have:=AO hok hcl i o hoi hall j0 (hpre i (by omega) hil j0 (by omega))
        rw [hjf] at this;cases this
      have ei:listed.getD i true=listed.getD i false:=by simp [Array.getD,hsz,hil]
      have eif:listedf.getD i true=listedf.getD i false:=by simp [Array.getD,hszf,hik]
      have hil0:listed.getD i false=false:=by rw [← ei];exact h1
      have hof:(l.take k).toArray[i]? = some o:=by
        have:l[i]? = some o:=by simpa using hoi
        simp [cE,hik,this]
      have hif:i∈Region.ready .any (l.take k).toArray listedf:=mem_ready.2 ⟨by rw [eif,← hlf i hik];exact hil0,o,hof,fun e he hb=>by
        have hlt:=lT hok hoi e he hb
        rw [← hlf e.on (by omega)];exact hall e he hb⟩
      have hop:=h.2 i hif;unfold wpOp at hop;unfold wpOpIn;rw [hof] at hop;rw [hoi];simp only at hop ⊢;have hoi':l[i]? = some o:=by simpa using hoi
      have hwant:Region.wanted o (yielded (l.take k).toArray a.tmps)=Region.wanted o (yielded l.toArray a.tmps):=by
        unfold Region.wanted;cases hg:o.guard with
        | none=>rfl
        | some g=>
          obtain ⟨j,b⟩:=g;have hj:=hgd i hik o j b hoi' hg;simp only;unfold yielded;have:(l.take k).toArray[j]? = l.toArray[j]?:=by simp [cE,hj]
          rw [this]
      have nx:∀ a w,wpAny P .any (l.take k).toArray Q1 fuel' (listedf.setIfInBounds i true) a w→wpAnyIn (rd r) 0 P .any l.toArray Q f (listed.setIfInBounds i true) a w:=fun a' w' h'=>by
        refine ih f _ _ (U.erase i) a' w' (by simpa using hsz) (by simpa using hszf) (fun j hj=>?_) (fun j hj=>?_) (fun i2 o2 ho2 hi2 e he hb=>?_) (fun j hj hjl=>?_) ?_ (by omega) h'
        · by_cases hij:i=j
          · subst hij;simp [Array.getD,hsz,hszf,hil,hik]
          · rw [getD_set_ne false hij,getD_set_ne false hij];exact hlf j hj
        · rw [getD_set_ne false (by omega)];exact ht j hj
        · by_cases hij:i=i2
          · subst hij;rw [hoi] at ho2;cases ho2;exact getD_set_true (hall e he hb)
          · rw [getD_set_ne false hij] at hi2;exact getD_set_true (hcl i2 o2 ho2 hi2 e he hb)
        · by_cases hij:i=j
          · subst hij;simp [Array.getD,hsz,hil] at hjl
          · rw [getD_set_ne false hij] at hjl;exact (rY (Ne.symm hij)).2 (hU j hj hjl)
        · have:=oK (hU i hik hil0);have hpos:0<U.length:=List.length_pos_of_mem (hU i hik hil0);omega
      have hnd1:Q4 o=true:=Q3 hnd (i:=i) (by simp [cE,hik,hoi'])
      split at hop
      · rename_i hw;rw [if_pos (by rw [← hwant];exact hw)]
        rcases hop with hop | ⟨_,a',w',hop⟩
        · exact KM (Q:=Q1) hq1 (Oper.wpIn_mono nx (YQ hnd1 hop))
        · have:=hq1 _ _ _ hop;cases this
      · rename_i hw;rw [if_neg (by rw [← hwant];exact hw)]
        exact ⟨fun _ _=>trivial,nx _ _ hop⟩
end
section
variable {P:Program}{env:eH}{h:Hp}{d:Option Nat}{ty:TypeId}{pos:String}{af:Array Edge}{g:Option (Nat × Bool)}
theorem uR (T:oZ P){t e len:Nat}{i:TI}{l:List (Nat × Operand)}{aZ:List (Nat × List AV)}{es:List (List AV)}(ht:T.elem t=some e) (he:T.ti e=some i) (hs:0<i.size) (hn:len*i.size≤16777216) (hl:xU env l=some aZ) (hz:EX (List.replicate len (i.zero.map .v)) aZ=some es) (hes:es.length=len) :
    bX P ⟨d,.buildSlice t len l.toArray,ty,pos,af,g⟩ env h 1 (fun p=>.sl p 0 len i.size) (fun _=>[.lit es i.size]):=by
  obtain ⟨inf,z,a1,a2,a3,a4,a5,a6,a7⟩:=T.tiOk e i he;have hrep:∀ e,e∈List.replicate len (i.zero.map AV.v)→e.length=i.size:=fun e he=>by rw [iW he];simp [a6]
  obtain ⟨f1,f2,f3⟩:=I1 hrep hz;refine BK fun ρ S a w p=>?_
  have hcells:RL S w (List.replicate len (i.zero.map AV.v)).flatten ρ (madeCells z.cells (len*i.size)).toList:=by
    have h1:(List.replicate len (i.zero.map AV.v)).flatten=((List.replicate len i.zero).flatten).map AV.v:=by
      rw [zR3,VH]
    have h2:(madeCells z.cells (len*i.size)).toList=(List.replicate len i.zero).flatten:=by
      apply jW;intro j;by_cases hj:j<len*i.size
      · have hlen:(List.replicate len i.zero).flatten.length=len*i.size:=by
          rw [eR (sz:=i.size) (fun e he=>by rw [iW he];exact a6)];simp
        obtain ⟨y,hy⟩:∃ y,(List.replicate len i.zero).flatten[j]? = some y:=⟨_,aA (by rw [hlen];exact hj)⟩
        rw [hy];obtain ⟨_,c2⟩:=lL i.zero len j y hy
        have:=vA (z:=z.cells) (n:=len*i.size) (j:=j) (y:=y) hj (by
          have hzs:z.cells.size=i.zero.length:=by rw [← a5];simp
          rw [hzs,a5];exact c2)
        simpa using this
      · rw [cW (by simp [size_madeCells];omega),cW]
        rw [eR (sz:=i.size) (fun e he=>by rw [iW he];exact a6)]
        simp;omega
    rw [h1,h2];exact MR _
  obtain ⟨us,u1,u2⟩:=BO (D4 p hl) hcells f1;have ul:=fZ u2;have hus:us.size=es.length*i.size:=by
    rw [eR f2] at ul;simpa using ul
  have hlm:len≤maxLen:=by
    have:len*1≤len*i.size:=PL _ hs;have hm:(16777216:Nat)≤maxLen:=by decide
    omega
  refine ⟨us,e,.slice (some ⟨w.heap.size,0,none⟩) len len,false,?_,fun pos hpos w' hw' lt=>⟨?_,?_⟩⟩
  · have hn':¬ (len*i.size > 2 ^ 24):=by omega
    have hparts:(l.toArray.map fun (i,x)=>(i,a.eval x)).toList=l.map fun (i,x)=>(i,a.eval x):=by simp
    have hmade:∀ zz:Array Value,(len*i.size=0∨zz=z.cells)→((Array.range (len*i.size)).map fun x=>zz[x % zz.size]!)=madeCells z.cells (len*i.size):=fun zz hzz=>by
      rcases hzz with h0 | h0
      · simp [h0,madeCells]
      · rw [h0];rfl
    by_cases h0:len*i.size=0
    · have hm:=hmade #[] (.inl h0);simp only [execOp,Instr.buildSlice,Sem.run_bind,run_underlying (T.elemOk _ _ ht),Result.andThen_ok,Go.sizeOf,typeInfo,run_program,a1,Sem.run_pure,a2,hn',if_false];rw [if_pos h0];simp only [Sem.run_bind,Sem.run_pure,Result.andThen_ok];rw [hm,hparts,u1];simp [newRow]
    · have hm:=hmade z.cells (.inr rfl);simp only [execOp,Instr.buildSlice,Sem.run_bind,run_underlying (T.elemOk _ _ ht),Result.andThen_ok,Go.sizeOf,typeInfo,run_program,a1,Sem.run_pure,a2,hn',if_false];rw [if_neg h0];simp only [Sem.run_bind,zeroValue,typeInfo,run_program,a1,a4,Sem.run_pure,Result.andThen_ok];rw [hm,hparts,u1];simp [newRow]
  · simp only [R];refine ⟨_,len,rfl,hlm,.inr ⟨w.heap.size,0,by simp [Pl.with],by simp,bA _,us,e,_,hw',?_⟩⟩
    rw [hus,hes];simp
  · simp only [RB];exact ⟨f2,hs,_,us.toList,rfl,⟨us,e,hw',hus,fun j y hy=>by rw [Nat.zero_add];simpa using hy⟩,u2.later lt⟩
end
end Go.Ab
namespace Go.Ab
open Go Go.MapKept
section
variable {P:Program}{env:eH}{h:Hp}
variable {d:Option Nat}{ty:TypeId}{pos:String}{af:Array Edge}{g:Option (Nat × Bool)}
variable {n:Nat × Nat}{ops:Array Oper}{rest:List Oper}{K:eH→Hp→Prop}
variable {t kt et:TypeId}{good:Value→Prop}{x y z:Operand}{k i:Nat}{kv:Value}{ks:List Value}{vs:List AV}{v:AV}
theorem B9.erase {l:Array MapEntry}{ck i:Nat}(h:B9 l ck):B9 (l.eraseIdxIfInBounds i) ck:=by
  have e:(l.eraseIdxIfInBounds i).toList=l.toList.eraseIdx i:=by
    unfold Array.eraseIdxIfInBounds;split
    · simp
    · rename_i hh;rw [List.eraseIdx_of_length_le (by simpa using hh)]
  refine ⟨?_,fun q hq=>h.2 q (by rw [e] at hq;exact List.mem_of_mem_eraseIdx hq)⟩
  rw [e];have:(l.toList.eraseIdx i).map (·.born)=(l.toList.map (·.born)).eraseIdx i:=by
    apply jW;intro j;simp only [bZ,List.getElem?_eraseIdx];split <;> simp
  rw [this];exact h.1.eraseIdx i
end
end Go.Ab
namespace Go.Ab
open Go
abbrev AV.s (l:List UInt8):AV:=.v (.string ⟨l.toArray⟩)
def zC4 (l:List UInt8):List (List AV):=l.map fun b=>[.v (.int .u8 b.toNat)]
@[simp] theorem bytesA_length (l:List UInt8):(zC4 l).length=l.length:=by simp [zC4]
def zR2 (P:Program) (t:TypeId):Prop:=P.underlying t=some .string
section
variable {P:Program}{env:eH}{h:Hp}
variable {d:Option Nat}{ty:TypeId}{pos:String}{af:Array Edge}{g:Option (Nat × Bool)}
variable {t t2:TypeId}{x y:Operand}{a b:List UInt8}
theorem UN (ht:zR2 P t){k:IntKind}{j:Int}(hx:evu env x=some (.s a)) (hy:evu env y=some (.v (.int k j))) (h0:0≤j){c:UInt8}(hc:a[j.toNat]? = some c):bX P ⟨d,.index t x y,ty,pos,af,g⟩ env h 0 (fun _=>.v (.int .u8 c.toNat)) (fun _=>[]):=by
  refine jG fun ρ S ac w p=>⟨.int .u8 c.toNat,?_,by simp [R]⟩
  have h1:=sD (p.evu hx);have h2:=sD (p.evu hy);have ht':P.underlying t=some .string:=ht;have hlt:j.toNat<a.length:=(aB.1 hc).1;have hs:j.toNat<(⟨a.toArray⟩:ByteArray).size:=by show _<a.toArray.size;simpa using hlt
  have e:(⟨a.toArray⟩:ByteArray)[j.toNat]'hs=c:=by
    have:=(aB.1 hc).2;rw [← this];rfl
  have hr:(Instr.index t (.string ⟨a.toArray⟩) (.int k j)).run P w = .ok (.int .u8 c.toNat) w:=by
    rw [run_index_string (P:=P) w t ⟨a.toArray⟩ k j ht',dif_pos ⟨h0,by omega⟩,e]
  simp [execOp,h1,h2,hr]
end
section
variable {P:Program}{env:eH}{h:Hp}
variable {d:Option Nat}{ty:TypeId}{pos:String}{af:Array Edge}{g:Option (Nat × Bool)}
def yC4 (l:List UInt8):List Value:=l.map fun b=>Value.int .u8 b.toNat
@[simp] theorem strV_length (l:List UInt8):(yC4 l).length=l.length:=by simp [yC4]
section
variable {n:Nat × Nat}{ops:Array Oper}{rest:List Oper}{K:eH→Hp→Prop}
end
end
section
variable {P:Program}
theorem HS.made {c:oP}{ρ:Pl}{S:Nat→Prop}{h:Hp}{w w':World}{x:AV}{b:AB}{y:Value}{q:Option (Nat × Nat)}(s:HS c ρ S h w) (hext:nQ (fun _=>False) w w')
    (hq:∀ p,q=some p→w.heap.size≤p.1∧p.1<w'.heap.size)
    (hv:∀ ρ':Pl,ρ' h.length=q→(∀ k,k≠h.length→ρ' k=ρ k)→iX ρ ρ' S S w w'→R S w' x ρ' y∧RB S w' ρ' q b) :
    ∃ ρ',HS c ρ' S (h++[b]) w'∧R S w' x ρ' y∧iX ρ ρ' S S w w':=by
  let ρ':Pl:=fun k=>if k=h.length then q else ρ k
  have hd:=s.dom h.length (bA _);have e1:ρ' h.length=q:=if_pos rfl;have e2:∀ k,k≠h.length→ρ' k=ρ k:=fun k hk=>if_neg hk
  have l:iX ρ ρ' S S w w':=⟨fun k p hp=>by rw [e2 k (fun e=>by rw [e,hd] at hp;cases hp)];exact hp,fun _ h=>h,fun b hb=>hext.same b (s.stab b hb) (fun h=>h),fun _ _ _ _ _ hr=>hext.room hr⟩
  obtain ⟨v1,v2⟩:=hv ρ' e1 e2 l;refine ⟨ρ',s.post (m:=1) (new:=[b]) (x:=x) (y:=y) ⟨hext,rfl,fun k hk=>e2 k (by omega),fun _ h=>h,fun _ h=>.inl h,fun k p hk1 hk2 hp=>?_,fun k k' p p' a1 a2 a3 a4 _ _ _=>by omega,v1,fun j b' hb=>?_⟩,v1,l⟩
  · have:k=h.length:=by omega
    subst this;rw [e1] at hp;obtain ⟨g1,g2⟩:=hq p hp;exact ⟨g1,g2,fun hS=>by have:=s.stab _ hS;omega⟩
  · cases j with
    | zero=>
      simp only [eT,Option.some.injEq] at hb;subst hb;rw [Nat.add_zero,e1];exact v2
    | succ j=>simp at hb
theorem HS.kept {c:oP}{ρ:Pl}{S:Nat→Prop}{h:Hp}{w w':World}(s:HS c ρ S h w) (hext:nQ (fun _=>False) w w'):HS c ρ S h w':=by
  have:=s.post (m:=0) (new:=[]) (x:=.any) (y:=.nilIface) (ρ':=ρ) (S':=S) (w':=w') ⟨hext,rfl,fun _ _=>rfl,fun _ h=>h,fun _ h=>.inl h,fun k p a1 a2 _=>by omega,fun k k' p p' a1 a2=>by omega,by simp [R],fun j b hb=>by simp at hb⟩
  simpa using this
theorem BJ {env:eH}{h:Hp}{d:Option Nat}{ty:TypeId}{pos:String}{af:Array Edge}{g:Option (Nat × Bool)}{t t2 te:TypeId}{x y:Operand}{u z:AV}(ht:P.underlying t=some (.pointer te)) (hx:evu env x=some u) (hz:u.plus 0=some z) (hy:evu env y=some (.v (.pointer none))) :
    bX P ⟨d,.binOp .eql t x y t2,ty,pos,af,g⟩ env h 0 (fun _=>.b false) (fun _=>[]):=by
  refine jG fun ρ S a w p=>⟨.bool false,?_,by simp [R]⟩
  obtain ⟨b,o,h1,_⟩:=AR (p.evu hx) hz;have h2:=sD (p.evu hy);have ht':P.underlying t=some (.pointer (P.pointee t)):=by simp [Program.pointee,ht]
  have hq:eqGuard .eql t x y (.pointer (some ⟨b,o,none⟩)) (.pointer none)=pure ():=by rfl
  have hr:(binOp .eql t (.pointer (some ⟨b,o,none⟩)) (.pointer none)).run P w = .ok (.bool false) w:=by rw [run_eql_pointer_nil (P:=P) w t (some ⟨b,o,none⟩) ht'];rfl
  simp [execOp,h1,h2,hq,hr]
theorem OJ {env:eH}{h:Hp}{d:Option Nat}{ty:TypeId}{pos:String}{af:Array Edge}{g:Option (Nat × Bool)}{t t2 te:TypeId}{x y:Operand}(ht:P.underlying t=some (.pointer te)) (hx:evu env x=some (.v (.pointer none))) (hy:evu env y=some (.v (.pointer none))) :
    bX P ⟨d,.binOp .eql t x y t2,ty,pos,af,g⟩ env h 0 (fun _=>.b true) (fun _=>[]):=by
  refine jG fun ρ S a w p=>⟨.bool true,?_,by simp [R]⟩
  have h1:=sD (p.evu hx);have h2:=sD (p.evu hy);have ht':P.underlying t=some (.pointer (P.pointee t)):=by simp [Program.pointee,ht]
  have hq:eqGuard .eql t x y (.pointer none) (.pointer none)=pure ():=by rfl
  have hr:(binOp .eql t (.pointer none) (.pointer none)).run P w = .ok (.bool true) w:=by rw [run_eql_pointer_nil (P:=P) w t none ht'];rfl
  simp [execOp,h1,h2,hq,hr]
end
def zS6 (H:Hp) (pos:Nat):List AB→Hp
  | []=>H
  | b::_=>H.set pos b
theorem oC (A B:Hp) (b c:AB):(A++(c::B)).set A.length b=A++(b::B):=by
  rw [lJ _ _ (bA _),fN];rfl
def jU (P:Program) (o:Oper) (env:eH) (h:Hp) (pos k:Nat) (nb:AB) (x:AV) (new:List AB):Prop:=
  ∀ c ρ S a w H,HS c ρ S H w→FJ ρ S env h a w→(∀ (j:Nat) b,h[j]? = some b→b≠.gone→H[j]? = some b)→(new=[]∨(ρ pos=none∧H[pos]? = some .gone∧c.m≤pos))→∀ (K:Act→World→Prop) Q,
    (∀ y ρ' S' w',HS c ρ' S' (zS6 (H.set k nb) pos new) w'→iX ρ ρ' S S' w w'→R S' w' x ρ' y→(∀ j,(new≠[]→j≠pos)→ρ' j=ρ j)→K (a.put o.dst y) w')→o.wp P a w K Q
theorem jU.more {P:Program}{o:Oper}{env env':eH}{h:Hp}{pos k:Nat}{nb:AB}{x:AV}{new:List AB}(hs:jU P o env h pos k nb x new) (he:∀ t u,look env t=some u→look env' t=some u):jU P o env' h pos k nb x new:=
  fun c ρ S a w H g p=>hs c ρ S a w H g ⟨fun t u hu=>p.env t u (he t u hu),p.rng,p.blk,p.live,p.stab,p.glob⟩
theorem V0.a {P:Program}{op:Op}{ty:TypeId}{ps:String}{af:Array Edge}{env:eH}{h:Hp}{pos k:Nat}{nb:AB}(hs:V0 P ⟨none,op,ty,ps,af,none⟩ env h k nb):jU P ⟨none,op,ty,ps,af,none⟩ env h pos k nb (.v undef) []:=
  fun c ρ S a w H g p hb _ K Q hK=>hs c ρ S a w H g p hb K Q fun _ w' hh l=>hK undef ρ S w' hh l (lC _) (fun _ _=>rfl)
theorem uV.astep {P:Program}{n:Nat × Nat}{c:oP}{env:eH}{h h':Hp}{all:List nC}{L L':Nat→Bool}{ρ ρ':Pl}{S S':Nat→Prop}{a:Act}{w w':World}{i:Nat}{f:nC}{y:Value}(s:uV P n c env h all L ρ S a w)
    (hf:all[i]? = some f) (hL:∀ j,L' j=(L j||Nat.beq j i)) (hd:EE f.d n=true) (hnd:(jS all).Nodup) (henv:∀ t x,look env t=some x→t∉jS all)
    (hh:HS c ρ' S' (h'++kI L' 0 all) w') (hl:h'.length=h.length) (l:iX ρ ρ' S S' w w') (hv:R S' w' f.x ρ' y) (hρ:∀ j,(f.new≠[]→j≠h.length+nI (all.take i))→ρ' j=ρ j) (hn1:f.new.length≤1) :
    uV P n c env h' all L' ρ' S' (a.put f.d y) w':=by
  have hil:i<all.length:=(aB.1 hf).1;have dst_ne:∀ {j:Nat} {g:nC} {t:Nat},all[j]? = some g→j≠i→g.d=some t→f.d≠some t:=fun {j g t} hg hne hgt hft=>by
    have key:∀ {l:List nC} {i j:Nat} {f g:nC},(jS l).Nodup→l[i]? = some f→l[j]? = some g→i<j→f.d=some t→g.d=some t→False:=by
      intro l
      induction l with
      | nil=>intro i j f g _ h1;simp at h1
      | cons e l ih=>
        intro i j f g hnd h1 h2 hij hf hg;have tail:(jS l).Nodup:=by
          unfold jS at hnd ⊢;rw [H0] at hnd;split at hnd
          · exact hnd
          · exact (fL.1 hnd).2
        cases j with
        | zero=>omega
        | succ j=>
          simp only [kO] at h2;cases i with
          | zero=>
            simp only [eT,Option.some.injEq] at h1;subst h1;unfold jS at hnd;rw [H0,hf] at hnd;exact (fL.1 hnd).1 (kH.2 ⟨g,aS h2,hg⟩)
          | succ i=>exact ih tail (by simpa using h1) h2 (by omega) hf hg
    rcases jO hne with h1 | h1
    · exact key hnd hg hf h1 hgt hft
    · exact key hnd hf hg h1 hft hgt
  have other:∀ {t:Nat},f.d≠some t→(a.put f.d y).tmps.getD t undef=a.tmps.getD t undef:=fun {t} ht=>by
    cases hfd:f.d with
    | none=>rfl
    | some d=>exact tW (fun e=>ht (by rw [hfd,e]))
  refine ⟨by rw [nG];exact s.size,by rw [kT];exact s.defers.later l,s.cm,fun t x hx=>?_,fun j g t hg hj ht=>?_,hh,fun j g hg hj k hk=>?_⟩
  · rw [other (fun e=>henv t x hx (kH.2 ⟨f,aS hf,e⟩))];exact (s.env0 t x hx).later l
  · by_cases hji:j=i
    · subst hji;rw [hf] at hg;cases hg;rw [ht] at hd ⊢;have hlt:t<a.tmps.size:=by rw [s.size];exact aY hd
      rw [vC hlt];exact hv
    · rw [other (dst_ne hg hji ht)];have hjL:L j=true:=by
        rw [hL] at hj;rcases iY.1 hj with hj | hj
        · exact hj
        · exact absurd (aU hj) hji
      exact (s.done j g t hg hjL ht).later l
  · have hjL:L j=false:=by rw [hL] at hj;exact (iL.1 hj).1
    have hji:j≠i:=fun e=>by rw [hL,e,fT,wW] at hj;cases hj
    have:=s.undone j g hg hjL k hk;rw [hl];rw [hρ _ (fun hne e=>?_)];exact this;have lens_take:∀ (l:List nC) (a b:Nat) (f:nC),a<b→l[a]? = some f→nI (l.take a)+f.new.length≤nI (l.take b):=by
      intro l
      induction l with
      | nil=>intro a b f _ h;simp at h
      | cons e l ih=>
        intro a b f hab h;cases b with
        | zero=>omega
        | succ b=>
          cases a with
          | zero=>simp at h;subst h;simp [nI]
          | succ a=>simp only [oO,nI];have:=ih a b f (by omega) (by simpa using h);omega
    rcases jO hji with h1 | h1
    · have:=lens_take all j i g h1 hg;omega
    · have:=lens_take all i j f h1 hf;have h2:0<f.new.length:=eF.2 hne;omega
def yG7 (P:Program) (n:Nat × Nat) (ops:Array Oper) (pres:List (List Nat)) (ss:List (Nat × Nat)) (ds:List Nat) (env:eH) (h:Hp) (effs:List nC) (don:List AB) (K:eH→Hp→Prop):Prop:=
  ∃ more mb,(effs++more).length=pres.length∧(don++mb).length=ss.length∧jS (effs++more)=ds ∧
    (∀ i f pre,effs.length≤i→(effs++more)[i]? = some f→pres[i]? = some pre →
      ((∀ x,x∈ss→x.1≠i)∧FL P ops i (yT env ((effs++more).take i) pre) (seeH pres i pre ss (don++mb) h++kI (fun j=>pre.any (Nat.beq j)) 0 ((effs++more).take i)) f) ∨
      (∃ (m k:Nat) (b:AB) (o:Oper),ss[m]? = some (i,k)∧(don++mb)[m]? = some b∧o.dst=f.d∧f.new.length≤1∧ops[i]? = some o∧(o.guard=none∨∃ g want t,o.guard=some (g,want)∧(ops[g]?).bind (·.dst)=some t∧look (yT env ((effs++more).take i) pre) t=some (.b want))∧k<h.length∧jU P o (yT env ((effs++more).take i) pre) (seeH pres i pre ss (don++mb) h++kI (fun j=>pre.any (Nat.beq j)) 0 ((effs++more).take i)) (h.length+nI ((effs++more).take i)) k b f.x f.new)) ∧
    VC P n ops (ops.toList.drop pres.length) (yT env (effs++more) (List.range pres.length)) (eZ (fun _=>true) ss (don++mb) h++kI (fun _=>true) 0 (effs++more)) K
theorem zD1 {P:Program}{n:Nat × Nat}{env:eH}{h:Hp}{Q:Exit→eH→Hp→Prop}{id:Nat}{l:List Oper}(pres:List (List Nat)) (ds:List Nat) (ss:List (Nat × Nat)) (hm:P.follows .mixedOrders=true) (hok:tS l.toArray pres=true) (hss:QU pres ss=true) (hssl:(ss.all fun x=>Nat.blt x.1 pres.length)=true) (hnd:ds.Nodup) (hds:(ds.all fun d=>Nat.blt d n.1)=true) (hsz:Nat.ble pres.length l.length=true)
    (hv:yG7 P n l.toArray pres ss ds (eS ds env) h [] [] (fun v h=>Q .normal v h)) (hndf:nH l=true:=by rfl):AW P n (.region id l.toArray true) env h Q:=by
  intro c ρ S a w QX s hX;refine oR hm hndf ?_;have hQ:∀ (env':eH) (h':Hp) ρ' S' a' w',Q .normal env' h'→pZ n c ρ' S' env' h' a' w'→(fun e a w=>e=Exit.normal∧QX Exit.normal a w) Exit.normal a' w':=fun env' h' ρ' S' a' w' k s'=>⟨rfl,hX .normal env' h' ρ' S' a' w' k s'⟩
  generalize (fun e a w=>e=Exit.normal∧QX Exit.normal a w)=QQ at hQ ⊢;obtain ⟨all,bs,h1,hbl,h2,h3,h4⟩:=hv;simp only [List.nil_append,List.length_nil,bW,true_implies] at h1 hbl h2 h3 h4;have hAT:∀ L:Nat→Bool,(∀ j,j<pres.length→L j=true)→eZ L ss bs h=eZ (fun _=>true) ss bs h:=fun L hL=>oH ss bs h fun x hx=>hL x.1 (by have:=bF.1 hssl x hx;exact aY this)
  have hple:pres.length≤l.toArray.size:=by simpa using aY hsz
  have henv:∀ t x,look (eS ds env) t=some x→look env t=some x∧t∉jS all:=fun t x hx=>by rw [h2];exact kS hx
  -- the first operations,in whatever order
  have key:∀ (fuel:Nat) (listed:Array Bool) (U:List Nat) (ρ:Pl) (S:Nat→Prop) (a:Act) (w:World),listed.size=l.toArray.size→(∀ j,j<l.toArray.size→listed.getD j false=false→j∈U)→U.length≤fuel→(∀ j,pres.length≤j→listed.getD j false=false) →
      (∀ (i:Nat) o,l.toArray[i]? = some o→listed.getD i false=true→∀ e,e∈o.after→Region.binds .any e=true→listed.getD e.on false=true) →
      uV P n c (eS ds env) (eZ (fun j=>listed.getD j false) ss bs h) all (fun j=>listed.getD j false) ρ S a w→wpAny P .any l.toArray QQ fuel listed a w:=by
    intro fuel
    induction fuel with
    | zero=>
      intro listed U ρ S a w hls hU hUl htail hcl st;have hU0:U=[]:=cK (by omega)
      subst hU0;have hall:∀ j,j<l.toArray.size→listed.getD j false=true:=fun j hj=>by
        cases hb:listed.getD j false with
        | true=>rfl
        | false=>exact absurd (hU j hj hb) (by simp)
      have hpm:pres.length=l.toArray.size:=by
        rcases iM pres.length l.toArray.size with h5 | h5
        · have:=htail pres.length (bA _);rw [hall _ h5] at this;cases this
        · omega
      refine qU (k:=pres.length) (r:=0) hok _ _ a w (by omega) (bA _) (bA _) hls (fun j hj=>?_) (h4 c ρ S a w QQ ?_ fun env' h' ρ' S' a' w' k s'=>hQ env' h' ρ' S' a' w' k s')
      · rw [hall j hj];simp;omega
      · refine ⟨st.size,st.defers,fun t x hx=>?_,?_,st.cm⟩
        · rcases nF hx with hx | ⟨j,f,h5,h6,h7,rfl⟩
          · exact st.env0 t x hx
          · exact st.done j f t h6 (hall j (by have:=(aB.1 h6).1;omega)) h7
        · have:=st.hs
          rwa [mL (L:=fun j=>listed.getD j false) (L':=fun _=>true) all 0 (fun j _ hj=>hall j (by omega)),hAT _ (fun j hj=>hall j (by omega))] at this
    | succ fuel ih=>
      intro listed U ρ S a w hls hU hUl htail hcl st;by_cases hfl:∀ j,j<pres.length→listed.getD j false=true
      · -- all of the first ones have come up
        refine qU (k:=pres.length) (r:=l.toArray.size-pres.length) hok _ _ a w (by omega) (bA _) ?_ hls (fun j hj=>?_) (h4 c ρ S a w QQ ?_ fun env' h' ρ' S' a' w' k s'=>hQ env' h' ρ' S' a' w' k s')
        · have hsub:∀ j,j∈List.range' pres.length (l.toArray.size-pres.length)→j∈U:=fun j hj=>by
            rw [zG3] at hj;exact hU j (by omega) (htail j hj.1)
          have:=(zG2 (s:=pres.length) (n:=l.toArray.size-pres.length)).length_le_of_subset hsub;rw [VI] at this;omega
        · by_cases hj':j<pres.length
          · rw [hfl j hj'];simp [hj']
          · rw [htail j (by omega)];simp;omega
        · refine ⟨st.size,st.defers,fun t x hx=>?_,?_,st.cm⟩
          · rcases nF hx with hx | ⟨j,f,h5,h6,h7,rfl⟩
            · exact st.env0 t x hx
            · exact st.done j f t h6 (hfl j (by have:=(aB.1 h6).1;omega)) h7
          · have:=st.hs
            rwa [mL (L:=fun j=>listed.getD j false) (L':=fun _=>true) all 0 (fun j _ hj=>hfl j (by omega)),hAT _ hfl] at this
      · obtain ⟨j0,hj0,hjf⟩:∃ j,j<pres.length∧listed.getD j false=false:=by
          apply Classical.byContradiction;intro hc;apply hfl;intro j hj;cases hb:listed.getD j false with
          | true=>rfl
          | false=>exact absurd ⟨j,hj,hb⟩ hc
        -- something is ready
        have hex:Region.ready .any l.toArray listed≠[]:=by
          have gM:∃ j,j<pres.length∧listed.getD j false=false∧∀ k,k<j→listed.getD k false=true:=by
            have:∀ b j,j≤b→j<pres.length→listed.getD j false=false→∃ j,j<pres.length∧listed.getD j false=false∧∀ k,k<j→listed.getD k false=true:=by
              intro b
              induction b with
              | zero=>exact fun j hj h5 h6=>⟨j,h5,h6,fun k hk=>by omega⟩
              | succ b ihb=>
                intro j hj h5 h6;by_cases hk:∃ k,k<j∧listed.getD k false=false
                · obtain ⟨k,hk1,hk2⟩:=hk;exact ihb k (by omega) (by omega) hk2
                · refine ⟨j,h5,h6,fun k hk'=>?_⟩
                  cases hb:listed.getD k false with
                  | true=>rfl
                  | false=>exact absurd ⟨k,hk',hb⟩ hk
            exact this j0 j0 (bA _) hj0 hjf
          obtain ⟨j,h5,h6,h7⟩:=gM;intro he;have hlt:j<l.toArray.size:=by omega
          have:j∈Region.ready .any l.toArray listed:=mem_ready.2 ⟨by
            have e:listed.getD j true=listed.getD j false:=by simp only [Array.getD,hls,hlt,dif_pos]
            rw [e,h6],_,dH hlt,fun e he hb=>h7 _ (lT hok (dH hlt) e he hb)⟩
          rw [he] at this;cases this
        refine ⟨fun h5=>absurd h5 hex,fun i hi=>?_⟩
        obtain ⟨g1,o,ho,hall⟩:=mem_ready.1 hi;have hil:i<l.toArray.size:=(aX.1 ho).1;have g1':listed.getD i false=false:=by
          have e:listed.getD i true=listed.getD i false:=by simp only [Array.getD,hls,hil,dif_pos]
          rw [← e];exact g1
        have him:i<pres.length:=by
          rcases iM i pres.length with h5 | h5
          · exact h5
          · obtain ⟨e,he,hb,hon⟩:=uN hok ho h5 j0 (by omega)
            have:=hall e he hb;rw [hon,hjf] at this;cases this
        have hfi:all[i]? = some all[i]:=aA (by omega)
        obtain ⟨pre,hpre⟩:∃ pre,pres[i]? = some pre:=⟨_,aA him⟩
        -- its predecessors have come up
        have up:∀ (b k:Nat) (p:List Nat),k≤b→pres[k]? = some p→(k=i∨listed.getD k false=true)→∀ j,j∈p→listed.getD j false=true:=by
          intro b
          induction b with
          | zero=>
            intro k p hk hp _ j hj;obtain ⟨ok,hok1⟩:∃ o,l.toArray[k]? = some o:=⟨_,dH (by have:=(aB.1 hp).1;omega)⟩
            have:=(pI hok hok1 hp j hj).1;omega
          | succ b ihb=>
            intro k p hk hp hki j hj;obtain ⟨ok,hok1⟩:∃ o,l.toArray[k]? = some o:=⟨_,dH (by have:=(aB.1 hp).1;omega)⟩
            obtain ⟨_,e,he,hb,hor⟩:=pI hok hok1 hp j hj;have hle:listed.getD e.on false=true:=by
              rcases hki with rfl | hki
              · rw [ho] at hok1;cases hok1;exact hall e he hb
              · exact hcl k ok hok1 hki e he hb
            rcases hor with hor | hor
            · rw [← hor];exact hle
            · have hon:=lT hok hok1 e he hb;cases hpe:pres[e.on]? with
              | none=>rw [aC,hpe] at hor;simp at hor
              | some p'=>
                rw [aC,hpe] at hor;exact ihb e.on p' (by omega) hpe (.inr hle) j hor
        have hprel:∀ j,j∈pre→listed.getD j false=true:=up i i pre (bA _) hpre (.inl rfl);have hH0:(eZ (fun j=>listed.getD j false) ss bs h).length=h.length:=nW _ _ _ _;have hhv:(seeH pres i pre ss bs h).length=h.length:=vQ _ _ _ _ _;have hbel:∀ (k:Nat) b,(seeH pres i pre ss bs h)[k]? = some b→b≠.gone→(eZ (fun j=>listed.getD j false) ss bs h)[k]? = some b:=by
          refine P5 ss bs h h hbl rfl (fun _ _ hb _=>hb) (fun x _ hp=>hprel _ (oI.1 hp)) (fun x hx _ hbf=>?_);cases hlx:listed.getD x.1 false with
          | false=>rfl
          | true=>
            rcases iY.1 hbf with h5 | h5
            · rw [aU h5,g1'] at hlx;cases hlx
            · cases hpx:pres[x.1]? with
              | none=>rw [aC,hpx] at h5;simp at h5
              | some px=>
                rw [aC,hpx] at h5;have:=up x.1 x.1 px (bA _) hpx (.inr hlx) i (oI.1 h5);rw [g1'] at this;cases this
        have hbel2:∀ (k:Nat) b,(seeH pres i pre ss bs h++kI (fun j=>pre.any (Nat.beq j)) 0 (all.take i))[k]? = some b→b≠.gone→(eZ (fun j=>listed.getD j false) ss bs h++kI (fun j=>listed.getD j false) 0 all)[k]? = some b:=fun k b hb hgb=>by
          by_cases hk:k<h.length
          · rw [aO (by omega)] at hb ⊢;exact hbel k b hb hgb
          · rw [aG (by omega)] at hb ⊢
            rw [hhv] at hb;rw [hH0];have h5:=J9 (L':=fun j=>listed.getD j false) _ _ _ _ (fun j hj=>hprel j (oI.1 hj)) hb hgb;have h6:kI (fun j=>listed.getD j false) 0 all=kI (fun j=>listed.getD j false) 0 (all.take i)++kI (fun j=>listed.getD j false) (0+(all.take i).length) (all.drop i):=by
              rw [← qZ,bR]
            rw [h6,aO (aB.1 h5).1];exact h5
        have hpreP:FJ ρ S (yT (eS ds env) (all.take i) pre) (seeH pres i pre ss bs h++kI (fun j=>pre.any (Nat.beq j)) 0 (all.take i)) a w:=by
          refine ⟨fun t x hx=>?_,st.hs.rng,fun k b hb=>?_,fun k b p hb hgb hp=>(st.hs.live k b p (hbel2 k b hb hgb) hgb hp).2,st.hs.stab,st.hs.glob⟩
          · rcases nF hx with hx | ⟨j,f,h5,h6,h7,rfl⟩
            · exact st.env0 t x hx
            · rw [cE] at h6;split at h6
              · exact st.done j f t h6 (hprel j h5) h7
              · cases h6
          · by_cases hgb:b = .gone
            · subst hgb;trivial
            · exact st.hs.blk k b (hbel2 k b hb hgb)
        have hposl:(seeH pres i pre ss bs h++kI (fun j=>pre.any (Nat.beq j)) 0 (all.take i)).length=(eZ (fun j=>listed.getD j false) ss bs h).length+nI (all.take i):=by rw [aJ,nS,hhv,hH0]
        have hokd:EE all[i].d n=true:=by
          cases hdi:all[i].d with
          | none=>rfl
          | some d=>
            have:d∈ds:=by rw [← h2];exact kH.2 ⟨all[i],aH _,hdi⟩
            exact bF.1 hds d this
        -- on,kL it
        have hget:∀ j,(listed.setIfInBounds i true).getD j false=(listed.getD j false||Nat.beq j i):=fun j=>by
          by_cases hij:i=j
          · subst hij;rw [fT,wW];simp only [Array.getD,W8,hls,hil,dif_pos];simp
          · rw [getD_set_ne false hij,show Nat.beq j i=false from by rw [← dR];intro hb;have:=aU hb;omega,kW]
        have onS:∀ ρ' S' a' w',uV P n c (eS ds env) (eZ (fun j=>(listed.setIfInBounds i true).getD j false) ss bs h) all (fun j=>(listed.setIfInBounds i true).getD j false) ρ' S' a' w'→wpAny P .any l.toArray QQ fuel (listed.setIfInBounds i true) a' w':=fun ρ' S' a' w' st'=>by
          have hiU:i∈U:=hU i hil g1';refine ih (listed.setIfInBounds i true) (U.erase i) ρ' S' _ w' (by simpa using hls) (fun j hj hjl=>?_) (by rw [oK hiU];omega) (fun j hj=>?_) (fun k ok hok1 hkl e he hb=>?_) st'
          · rw [hget] at hjl;obtain ⟨h5,h6⟩:=iL.1 hjl;have hne:j≠i:=fun e=>by rw [e,fT] at h6;cases h6
            exact (rY hne).2 (hU j hj h5)
          · rw [hget,htail j hj,show Nat.beq j i=false from by rw [← dR];intro hb;have:=aU hb;omega];rfl
          · rw [hget] at hkl ⊢;rcases iY.1 hkl with h5 | h5
            · rw [hcl k ok hok1 h5 e he hb];rfl
            · have:=aU h5;subst this;rw [ho] at hok1;cases hok1;rw [hall e he hb];rfl
        have yv:∀ {g t:Nat} {b:Bool},(l.toArray[g]?).bind (·.dst)=some t→look (yT (eS ds env) (all.take i) pre) t=some (.b b)→yielded l.toArray a.tmps g=some b:=fun {g t b} h5 h6=>by
          have h7:=sD (hpreP.env t _ h6);unfold yielded;rw [h5];have:a.tmps[t]? = some (.bool b):=by
            rw [dZ] at h7;cases h8:a.tmps[t]? with
            | none=>rw [h8] at h7;simp [undef] at h7
            | some v=>rw [h8] at h7;simp at h7;rw [h7]
          simp [this]
        have yvu:∀ {g t:Nat},(l.toArray[g]?).bind (·.dst)=some t→look (yT (eS ds env) (all.take i) pre) t=some (.v undef)→yielded l.toArray a.tmps g=none:=fun {g t} h5 h6=>by
          have h7:=sD (hpreP.env t _ h6);unfold yielded;rw [h5];rw [dZ] at h7;cases h8:a.tmps[t]? with
          | none=>simp [h8]
          | some v=>rw [h8] at h7;simp at h7;simp [h8,h7,undef]
        unfold wpOp;rw [ho];simp only;rcases h3 i all[i] pre hfi hpre with ⟨hns,o',ho',hd',hg⟩ | ⟨m,k,b,o',hm1,hm2,hdd,hn1,ho',hgu,hkl,hst⟩
        · rw [ho] at ho';cases ho';have hsame:eZ (fun j=>(listed.setIfInBounds i true).getD j false) ss bs h=eZ (fun j=>listed.getD j false) ss bs h:=oH ss bs h fun x hx=>by
            rw [hget,show Nat.beq x.1 i=false from by rw [← dR];intro hb;exact hns x hx (aU hb),kW]
          have on:∀ y ρ' S' w',W6 ρ ρ' S S' w w' ((eZ (fun j=>listed.getD j false) ss bs h).length+nI (all.take i)) all[i].new.length all[i].x all[i].new y→wpAny P .any l.toArray QQ fuel (listed.setIfInBounds i true) (a.put all[i].d y) w':=fun y ρ' S' w' p=>by
            have:=st.step (L':=fun j=>(listed.setIfInBounds i true).getD j false) hfi g1' hget p hokd (by rw [h2];exact hnd) (fun t x hx=>(henv t x hx).2) (by rw [hH0];exact s.hs.mle)
            rw [← hsame] at this;exact onS _ _ _ _ this
          rcases hg with ⟨x,new,hgu,hfs,hx,hn⟩ | ⟨g,want,t,hgu,h5,h6,hx,hn⟩
          · have hw:Region.wanted o (yielded l.toArray a.tmps)=true:=by
              rcases hgu with hgu | ⟨g,want,t,hgu,h5,h6⟩
              · exact nR hgu
              · simp [Region.wanted,hgu,yv h5 h6]
            rw [if_pos hw];left;have:=hfs ρ S a w hpreP (seeH pres i pre ss bs h++kI (fun j=>pre.any (Nat.beq j)) 0 (all.take i)).length (fun j hj=>by rw [hposl];exact st.undone i _ hfi g1' j hj)
            refine this (wpAny P .any l.toArray QQ fuel (listed.setIfInBounds i true)) QQ fun y ρ' S' w' p=>?_
            rw [hx,hn,hposl] at p;have:=on y ρ' S' w' p;rw [← hd'] at this;exact this
          · have hw:Region.wanted o (yielded l.toArray a.tmps)=false:=by
              rcases h6 with h6 | h6
              · simp [Region.wanted,hgu,yv h5 h6]
              · simp [Region.wanted,hgu,yvu h5 h6]
            rw [if_neg (by rw [hw];exact uK)]
            have:=on undef ρ S w ⟨nQ.refl _ _,rfl,fun _ _=>rfl,fun _ h=>h,fun _ h=>.inl h,fun k p hk1 hk2=>by rw [hn,List.length_nil] at hk2;omega,fun k k' p p' hk1 hk2=>by rw [hn,List.length_nil] at hk2;omega,by rw [hx];exact lC _,fun j b hb=>by rw [hn] at hb;simp at hb⟩
            rw [← hd'] at this;exact this
        · rw [ho] at ho';cases ho';have hw:Region.wanted o (yielded l.toArray a.tmps)=true:=by
            rcases hgu with hgu | ⟨g,want,t,hgu,h5,h6⟩
            · exact nR hgu
            · simp [Region.wanted,hgu,yv h5 h6]
          rw [if_pos hw];left;have hap:(eZ (fun j=>listed.getD j false) ss bs h).set k b=eZ (fun j=>(listed.setIfInBounds i true).getD j false) ss bs h:=by
            rw [I5 (L:=fun j=>listed.getD j false) (L':=fun j=>(listed.setIfInBounds i true).getD j false) ss bs h m hss hm1 hm2 g1' hget (fun x hx hlx j hj=>?_)];cases hpx:pres[x.1]? with
            | none=>rw [aC,hpx] at hj;simp at hj
            | some px=>
              rw [aC,hpx] at hj;exact up x.1 x.1 px (bA _) hpx (.inr hlx) j hj
          have hil2:i<all.length:=(aB.1 hfi).1;have hsplit:all=all.take i++all[i]::all.drop (i+1):=by
            have:=bR i all;rw [bB hil2] at this;exact this.symm
          have hti:(all.take i).length=i:=by rw [bL];omega
          have sL:∀ M:Nat→Bool,kI M 0 all=kI M 0 (all.take i)++((match M i with | true=>all[i].new | false=>List.replicate all[i].new.length .gone)++kI M (i+1) (all.drop (i+1))):=fun M=>by
            conv=>lhs;rw [hsplit]
            rw [qZ,hti,Nat.zero_add];rfl
          have e1:kI (fun j=>(listed.setIfInBounds i true).getD j false) 0 (all.take i)=kI (fun j=>listed.getD j false) 0 (all.take i):=mL _ _ fun j _ hj=>by
            rw [hti] at hj;show (listed.setIfInBounds i true).getD j false=_;rw [hget,show Nat.beq j i=false from by rw [← dR];intro hb;have:=aU hb;omega,kW]
          have e2:kI (fun j=>(listed.setIfInBounds i true).getD j false) (i+1) (all.drop (i+1))=kI (fun j=>listed.getD j false) (i+1) (all.drop (i+1)):=mL _ _ fun j hj _=>by
            show (listed.setIfInBounds i true).getD j false=_;rw [hget,show Nat.beq j i=false from by rw [← dR];intro hb;have:=aU hb;omega,kW]
          have hLi:(listed.setIfInBounds i true).getD i false=true:=by rw [hget,fT,wW]
          have hlen:=nS (fun j=>listed.getD j false) 0 (all.take i);have hA:eZ (fun j=>listed.getD j false) ss bs h++kI (fun j=>listed.getD j false) 0 all=(eZ (fun j=>listed.getD j false) ss bs h++kI (fun j=>listed.getD j false) 0 (all.take i))++(List.replicate all[i].new.length .gone++kI (fun j=>listed.getD j false) (i+1) (all.drop (i+1))):=by rw [sL (fun j=>listed.getD j false)];simp only [g1',bT]
          have hB:eZ (fun j=>(listed.setIfInBounds i true).getD j false) ss bs h++kI (fun j=>(listed.setIfInBounds i true).getD j false) 0 all=(eZ (fun j=>(listed.setIfInBounds i true).getD j false) ss bs h++kI (fun j=>listed.getD j false) 0 (all.take i))++(all[i].new++kI (fun j=>listed.getD j false) (i+1) (all.drop (i+1))):=by rw [sL (fun j=>(listed.setIfInBounds i true).getD j false)];simp only [hLi,e1,e2,bT]
          have hsetk:(eZ (fun j=>listed.getD j false) ss bs h++kI (fun j=>listed.getD j false) 0 all).set k b=(eZ (fun j=>(listed.setIfInBounds i true).getD j false) ss bs h++kI (fun j=>listed.getD j false) 0 (all.take i))++(List.replicate all[i].new.length .gone++kI (fun j=>listed.getD j false) (i+1) (all.drop (i+1))):=by
            rw [hA,bT,MV _ _ (by rw [hH0];exact hkl),hap,bT]
          have hfill:zS6 ((eZ (fun j=>listed.getD j false) ss bs h++kI (fun j=>listed.getD j false) 0 all).set k b) (h.length+nI (all.take i)) all[i].new=eZ (fun j=>(listed.setIfInBounds i true).getD j false) ss bs h++kI (fun j=>(listed.setIfInBounds i true).getD j false) 0 all:=by
            rw [hsetk,hB];have hpl:(eZ (fun j=>(listed.setIfInBounds i true).getD j false) ss bs h++kI (fun j=>listed.getD j false) 0 (all.take i)).length=h.length+nI (all.take i):=by rw [aJ,nW,hlen]
            match hnw:all[i].new,hn1 with
            | [],_=>rfl
            | [q],_=>
              show List.set _ _ _=_;rw [← hpl];exact oC _ _ _ _
            | _::_::_,h9=>exact absurd h9 (by simp)
          refine hst c ρ S a w _ st.hs hpreP hbel2 ?_ (wpAny P .any l.toArray QQ fuel (listed.setIfInBounds i true)) QQ fun y ρ' S' w' hh l' hv hρ=>?_
          · by_cases hnw:all[i].new=[]
            · exact .inl hnw
            · have hpos:0<all[i].new.length:=eF.2 hnw;refine .inr ⟨by have:=st.undone i _ hfi g1' 0 hpos;rwa [Nat.add_zero,hH0] at this,?_,by have:=s.hs.mle;omega⟩
              rw [hA,aG (by rw [aJ,hlen,hH0];omega),aJ,hlen,hH0,fN,aO (by simpa using hpos)]
              simp [pA,hpos]
          · rw [hfill] at hh;have:=st.astep (h':=eZ (fun j=>(listed.setIfInBounds i true).getD j false) ss bs h) (L':=fun j=>(listed.setIfInBounds i true).getD j false) hfi hget hokd (by rw [h2];exact hnd) (fun t x hx=>(henv t x hx).2) hh (by rw [nW,nW]) l' hv (fun j hj=>?_) hn1
            · rw [hdd];exact onS _ _ _ _ this
            · exact hρ j (by rw [hH0] at hj;exact hj)
  have hsize:l.toArray.size=l.length:=by simp
  have hrep:∀ j,(Array.replicate l.toArray.size false).getD j false=false:=fun j=>by
    simp only [Array.getD];split <;> simp
  refine key l.toArray.size _ (List.range l.toArray.size) ρ S a _ (by simp) (fun j hj _=>by simpa using hj) (by simp) (fun j _=>hrep j) (fun i o _ hi=>by rw [hrep] at hi;cases hi) ?_
  have hseg:∀ (r:List nC) (i:Nat),kI (fun _=>false) i r=List.replicate (nI r) .gone:=by
    intro r
    induction r with
    | nil=>intro i;rfl
    | cons f r ih=>intro i;simp only [kI,ih,nI,yS]
  have hL:(fun j=>(Array.replicate l.toArray.size false).getD j false)=fun _=>false:=funext hrep
  rw [hL,show eZ (fun _=>false) ss bs h=h from ?_]
  rotate_left
  · have:∀ (ss:List (Nat × Nat)) (bs:List AB) (h:Hp),eZ (fun _=>false) ss bs h=h:=by
      intro ss
      induction ss with
      | nil=>intros;rfl
      | cons x r ihr=>
        intro bs h;cases bs with
        | nil=>rfl
        | cons b bs=>simp only [eZ];exact ihr bs h
    exact this ss bs h
  have l0:iX ρ ρ S S w { w with drawn:=w.drawn+1 }:=⟨fun _ _ h=>h,fun _ h=>h,fun _ _=>rfl,fun _ _ _ _ _ h=>h⟩
  refine ⟨s.size,s.defers.later l0,s.cm,fun t x hx=>(s.env t x (kS hx).1).later l0,fun i f t _ hi=>(by cases hi),?_,fun i f _ _ j _=>s.hs.dom _ (by omega)⟩
  rw [hseg];have ext:nQ c.M c.w0 { w with drawn:=w.drawn+1 }:=s.hs.ext.drew;have at_:∀ {k:Nat} {b:AB},(h++List.replicate (nI all) .gone)[k]? = some b→b≠.gone→h[k]? = some b:=fun {k b} hb hg=>by
    by_cases hk:k<h.length
    · rwa [aO hk] at hb
    · rw [aG (by omega),pA] at hb
      split at hb
      · cases hb;exact absurd rfl hg
      · cases hb
  refine ⟨fun k hk=>s.hs.dom k (by simp at hk;omega),s.hs.rng,fun k b hb=>?_,fun k b p hb hg hp=>s.hs.live k b p (at_ hb hg) hg hp,fun k k' b b' p p' hb hb' hg hg' hp hp' e=>s.hs.inj k k' b b' p p' (at_ hb hg) (at_ hb' hg') hg hg' hp hp' e,s.hs.stab,ext,s.hs.st0,s.hs.st1,by simp;exact bP s.hs.mle (jQ _ _),s.hs.keep,s.hs.glob.later l0⟩
  by_cases hg:b = .gone
  · subst hg;trivial
  · exact RB.later l0 (fun _ _ _=>rfl) (s.hs.blk k b (at_ hb hg))
def VL (P:Program) (n:Nat × Nat) (ops:List Oper) (pres:List (List Nat)) (ds:List Nat) (bads:List (List Nat)) (ss:List (Nat × Nat)) (env:eH) (h:Hp) (i:Nat) (cur:eH) (objs:List (Nat × Hp)) (don:List AB) (K:eH→Hp→Prop):Prop:=
  jZ ops pres ds bads ss n.1=true→(∀ t,t∈ds→look env t=none)→∀ effs,N8 ops ss env i cur objs don effs→yG7 P n ops.toArray pres ss ds env h effs don K
section
variable {P:Program}{n:Nat × Nat}{ops:List Oper}{pres:List (List Nat)}{ds:List Nat}{bads:List (List Nat)}{ss:List (Nat × Nat)}{env:eH}{h:Hp}{K:eH→Hp→Prop}{pre bad:List Nat}
theorem zD2 {Q:Exit→eH→Hp→Prop}{id:Nat}{l:List Oper}(pres:List (List Nat)) (ds:List Nat) (bads:List (List Nat)) (ss:List (Nat × Nat)) (hm:P.follows .mixedOrders=true) (hok:jZ l pres ds bads ss n.1=true)
    (hv:VL P n l pres ds bads ss (eS ds env) h 0 (eS ds env) [] [] (fun v h=>Q .normal v h)) (hndf:nH l=true:=by rfl):AW P n (.region id l.toArray true) env h Q:=by
  have hok':=hok;simp only [jZ,mA,aN,decide_eq_true_eq] at hok';obtain ⟨⟨⟨⟨⟨⟨⟨h1,h2⟩,h3⟩,h4⟩,h5⟩,h6⟩,h7⟩,h8⟩:=hok';refine zD1 pres ds ss hm h1 h7 h8 h2 h3 h4 (hv hok (fun t ht=>?_) [] ⟨⟨rfl,rfl,rfl,fun j f hf=>by simp at hf⟩,fun x _=>bW _⟩) hndf
  cases hl:look (eS ds env) t with
  | none=>rfl
  | some x=>exact absurd ht (kS hl).2
variable {op:Op}{ty:TypeId}{pos:String}{af:Array Edge}{d:Option Nat}{i:Nat}{cur:eH}{objs:List (Nat × Hp)}{don:List AB}
theorem LU {effs:List nC}{f:nC}(hok:jZ ops pres ds bads ss n.1=true) (g:N8 ops ss env i cur objs don effs) (hp:pres[i]? = some pre) (hi:i<ops.length) (hns:(ss.all fun x=>!Nat.beq x.1 i)=true)
    (hg:FL P ops.toArray i (yT env effs pre) (seeH pres i pre ss don h++mS pre objs) f) (hk:yG7 P n ops.toArray pres ss ds env h (effs++[f]) don K):yG7 P n ops.toArray pres ss ds env h effs don K:=by
  obtain ⟨more,mb,h1,h0,h2,h3,h4⟩:=hk;have e:effs++[f]++more=effs++(f::more):=by simp
  rw [e] at h1 h2 h3 h4;have hie:effs.length=i:=g.g.len;refine ⟨f::more,mb,h1,h0,h2,fun j q p hj hgj hpj=>?_,h4⟩
  by_cases hji:j=i
  · subst hji;rw [hp] at hpj;cases hpj;rw [aG (by omega),hie,fN] at hgj
    simp at hgj;subst hgj;left;refine ⟨fun x hx hxe=>?_,?_⟩
    · have:=bF.1 hns x hx;rw [hxe,fT] at this;cases this
    · rw [lN,bV (by omega),hie,fN,g.seeH hok hi hp mb]
      simp only [mD,List.append_nil];rw [mO,← g.g.objs];exact hg
  · exact h3 j q p (by simp;omega) hgj hpj
theorem eN {dd:Nat}{u:AV}(ho:ops[i]? = some ⟨some dd,op,ty,pos,af,none⟩) (hp:pres[i]? = some pre) (hb:bads[i]? = some bad) (hns:(ss.all fun x=>!Nat.beq x.1 i)=true) (hs:bX P ⟨some dd,op,ty,pos,af,none⟩ (eS bad cur) (seeH pres i pre ss don h++mS pre objs) 0 (fun _=>u) (fun _=>[]))
    (hk:VL P n ops pres ds bads ss env h (i+1) ((dd,u)::cur) objs don K):VL P n ops pres ds bads ss env h i cur objs don K:=by
  intro hok hen effs g;refine LU (f:=⟨some dd,u,[]⟩) hok g hp (aB.1 ho).1 hns ⟨_,by simpa using ho,rfl,.inl ⟨fun _=>u,fun _=>[],.inl rfl,hs.more (g.g.see (HK hok) hp hb),rfl,rfl⟩⟩ (hk hok hen _ (g.next (g.g.snoc (f:=⟨some dd,u,[]⟩) ho rfl rfl) hns))
theorem M3 {dd:Nat}{u:Nat→AV}{b:Nat→List AB}{m:Nat}(ho:ops[i]? = some ⟨some dd,op,ty,pos,af,none⟩) (hp:pres[i]? = some pre) (hb:bads[i]? = some bad) (hns:(ss.all fun x=>!Nat.beq x.1 i)=true) (hs:bX P ⟨some dd,op,ty,pos,af,none⟩ (eS bad cur) (seeH pres i pre ss don h++mS pre objs) (m+1) u b) (hm:(b (seeH pres i pre ss don h++mS pre objs).length).length=m+1)
    (hk:VL P n ops pres ds bads ss env h (i+1) ((dd,u (seeH pres i pre ss don h++mS pre objs).length)::cur) (objs++[(i,b (seeH pres i pre ss don h++mS pre objs).length)]) don K):VL P n ops pres ds bads ss env h i cur objs don K:=by
  intro hok hen effs g;refine LU (f:=⟨some dd,u (seeH pres i pre ss don h++mS pre objs).length,b (seeH pres i pre ss don h++mS pre objs).length⟩) hok g hp (aB.1 ho).1 hns ⟨_,by simpa using ho,rfl,.inl ⟨u,b,.inl rfl,by simp only [hm];exact hs.more (g.g.see (HK hok) hp hb),rfl,rfl⟩⟩ ?_
  refine hk hok hen _ (g.next (g.g.snoc' (f:=⟨some dd,u (seeH pres i pre ss don h++mS pre objs).length,b (seeH pres i pre ss don h++mS pre objs).length⟩) ho rfl ?_) hns)
  intro e2;rw [show b (seeH pres i pre ss don h++mS pre objs).length=[] from e2] at hm
  cases hm
theorem HF {k:Nat}{nb:AB}{t:TypeId}{x y:Operand}{j:TI}{u v:AV}{xs:List AV}(ho:ops[i]? = some ⟨none,.store t x y,ty,pos,af,none⟩) (hp:pres[i]? = some pre) (hb:bads[i]? = some bad) (hm:ss[don.length]? = some (i,k)) (hkl:k<h.length)
    (T:oZ P) (hx:evu (eS bad cur) x=some u) (hy:evu (eS bad cur) y=some v) (ht:T.ti t=some j) (hv:v.cellsOf=some xs) (hl:xs.length=j.size) (h1:xs.all AV.one=true) (h0:0<j.size) (hu:IP (seeH pres i pre ss don h++mS pre objs) u xs=some (k,nb))
    (hk:VL P n ops pres ds bads ss env h (i+1) cur objs (don++[nb]) K):VL P n ops pres ds bads ss env h i cur objs don K:=by
  intro hok hen effs g;have hs:=JA (P:=P) (pos:=pos) (ty:=ty) (af:=af) T hx hy ht hv hl h1 h0 hu;have hi:=(aB.1 ho).1;have hgs:I9 ops env (i+1) cur objs (effs++[⟨none,.v undef,[]⟩]):=g.g.snoc (f:=⟨none,.v undef,[]⟩) ho rfl rfl;have hkk:=hk hok hen (effs++[⟨none,.v undef,[]⟩]) ⟨hgs,fun x hx=>?_⟩
  · obtain ⟨more,mb,g1,g0,g2,g3,g4⟩:=hkk;have e:effs++[⟨none,.v undef,[]⟩]++more=effs++((⟨none,.v undef,[]⟩:nC)::more):=by simp
    have e':don++[nb]++mb=don++(nb::mb):=by simp
    rw [e] at g1 g2;rw [e'] at g0;simp only [e,e'] at g3 g4;have hie:effs.length=i:=g.g.len;refine ⟨_,_,g1,g0,g2,fun j' q p hj hgj hpj=>?_,g4⟩
    by_cases hji:j'=i
    · subst hji;rw [hp] at hpj;cases hpj;rw [aG (by omega),hie,fN] at hgj
      simp at hgj;subst hgj;right;refine ⟨don.length,k,nb,_,hm,?_,rfl,bW _,by simpa using ho,.inl rfl,hkl,?_⟩
      · rw [aG (bA _),fN];rfl
      · rw [lN,bV (by omega),hie,fN,g.seeH hok hi hp _]
        simp only [mD,List.append_nil];rw [mO,← g.g.objs];exact (V0.more hs (g.g.see (HK hok) hp hb)).a
    · exact g3 j' q p (by simp;omega) hgj hpj
  · have hok':=hok;simp only [jZ,aN] at hok';have hls:don.length<ss.length:=(aB.1 hm).1;have e1:ss.drop don.length=(i,k)::ss.drop (don.length+1):=by
      rw [bB hls];have:=aA hls;rw [hm] at this;rw [Option.some.inj this]
    have hx':x∈ss.drop (don.length+1):=by simpa using hx
    have h5:=g.later x (by rw [e1];exact aM _ hx')
    have key:∀ (ss:List (Nat × Nat)) (m:Nat),QU pres ss=true→ss[m]? = some (i,k)→∀ x,x∈ss.drop (m+1)→x.1≠i:=by
      intro ss
      induction ss with
      | nil=>intro m _ h;simp at h
      | cons y r ih=>
        intro m hok h x hx;obtain ⟨s,k'⟩:=y;simp only [QU,aN,bF] at hok;cases m with
        | zero=>
          simp only [eT,Option.some.injEq,Prod.mk.injEq] at h;intro e;have:=(hok.1 x (by simpa using hx)).1
          rw [e,h.1,fT] at this;cases this
        | succ m=>exact ih m hok.2 (by simpa using h) x (by simpa using hx)
    have:=key ss don.length hok'.1.2 hm x hx';omega
theorem yI3 {k dd:Nat}{nb:AB}{u:AV}(ho:ops[i]? = some ⟨some dd,op,ty,pos,af,none⟩) (hp:pres[i]? = some pre) (hb:bads[i]? = some bad) (hm:ss[don.length]? = some (i,k)) (hkl:k<h.length)
    (hs:jU P ⟨some dd,op,ty,pos,af,none⟩ (eS bad cur) (seeH pres i pre ss don h++mS pre objs) (seeH pres i pre ss don h++mS pre objs).length k nb u [])
    (hk:VL P n ops pres ds bads ss env h (i+1) ((dd,u)::cur) objs (don++[nb]) K):VL P n ops pres ds bads ss env h i cur objs don K:=by
  intro hok hen effs g;have hi:=(aB.1 ho).1;have hgs:I9 ops env (i+1) ((dd,u)::cur) objs (effs++[⟨some dd,u,[]⟩]):=g.g.snoc (f:=⟨some dd,u,[]⟩) ho rfl rfl;have hkk:=hk hok hen (effs++[⟨some dd,u,[]⟩]) ⟨hgs,fun x hx=>?_⟩
  · obtain ⟨more,mb,g1,g0,g2,g3,g4⟩:=hkk;have e:effs++[⟨some dd,u,[]⟩]++more=effs++((⟨some dd,u,[]⟩:nC)::more):=by simp
    have e':don++[nb]++mb=don++(nb::mb):=by simp
    rw [e] at g1 g2;rw [e'] at g0;simp only [e,e'] at g3 g4;have hie:effs.length=i:=g.g.len;refine ⟨_,_,g1,g0,g2,fun j' q p hj hgj hpj=>?_,g4⟩
    by_cases hji:j'=i
    · subst hji;rw [hp] at hpj;cases hpj;rw [aG (by omega),hie,fN] at hgj
      simp at hgj;subst hgj;right;refine ⟨don.length,k,nb,_,hm,?_,rfl,bW _,by simpa using ho,.inl rfl,hkl,?_⟩
      · rw [aG (bA _),fN];rfl
      · rw [lN,bV (by omega),hie,fN,g.seeH hok hi hp _]
        simp only [mD,List.append_nil];rw [mO,← g.g.objs];have hpl:(seeH pres j' pre ss don h++mS pre objs).length=h.length+nI effs:=by rw [g.g.objs,← mO,aJ,nS];congr 1;exact vQ _ _ _ _ _
        rw [hpl] at hs;exact jU.more hs (g.g.see (HK hok) hp hb)
    · exact g3 j' q p (by simp;omega) hgj hpj
  · have hok':=hok;simp only [jZ,aN] at hok';have hls:don.length<ss.length:=(aB.1 hm).1;have e1:ss.drop don.length=(i,k)::ss.drop (don.length+1):=by
      rw [bB hls];have:=aA hls;rw [hm] at this;rw [Option.some.inj this]
    have hx':x∈ss.drop (don.length+1):=by simpa using hx
    have h5:=g.later x (by rw [e1];exact aM _ hx')
    have key:∀ (ss:List (Nat × Nat)) (m:Nat),QU pres ss=true→ss[m]? = some (i,k)→∀ x,x∈ss.drop (m+1)→x.1≠i:=by
      intro ss
      induction ss with
      | nil=>intro m _ h;simp at h
      | cons y r ih=>
        intro m hok h x hx;obtain ⟨s,k'⟩:=y;simp only [QU,aN,bF] at hok;cases m with
        | zero=>
          simp only [eT,Option.some.injEq,Prod.mk.injEq] at h;intro e;have:=(hok.1 x (by simpa using hx)).1
          rw [e,h.1,fT] at this;cases this
        | succ m=>exact ih m hok.2 (by simpa using h) x (by simpa using hx)
    have:=key ss don.length hok'.1.2 hm x hx';omega
theorem tZ {k dd:Nat}{nb:AB}{u:AV}{b1:AB}(ho:ops[i]? = some ⟨some dd,op,ty,pos,af,none⟩) (hp:pres[i]? = some pre) (hb:bads[i]? = some bad) (hm:ss[don.length]? = some (i,k)) (hkl:k<h.length)
    (hs:jU P ⟨some dd,op,ty,pos,af,none⟩ (eS bad cur) (seeH pres i pre ss don h++mS pre objs) (seeH pres i pre ss don h++mS pre objs).length k nb u [b1])
    (hk:VL P n ops pres ds bads ss env h (i+1) ((dd,u)::cur) (objs++[(i,[b1])]) (don++[nb]) K):VL P n ops pres ds bads ss env h i cur objs don K:=by
  intro hok hen effs g;have hi:=(aB.1 ho).1;have hgs:I9 ops env (i+1) ((dd,u)::cur) (objs++[(i,[b1])]) (effs++[⟨some dd,u,[b1]⟩]):=g.g.snoc' (f:=⟨some dd,u,[b1]⟩) ho rfl (by simp)
  have hkk:=hk hok hen (effs++[⟨some dd,u,[b1]⟩]) ⟨hgs,fun x hx=>?_⟩
  · obtain ⟨more,mb,g1,g0,g2,g3,g4⟩:=hkk;have e:effs++[⟨some dd,u,[b1]⟩]++more=effs++((⟨some dd,u,[b1]⟩:nC)::more):=by simp
    have e':don++[nb]++mb=don++(nb::mb):=by simp
    rw [e] at g1 g2;rw [e'] at g0;simp only [e,e'] at g3 g4;have hie:effs.length=i:=g.g.len;refine ⟨_,_,g1,g0,g2,fun j' q p hj hgj hpj=>?_,g4⟩
    by_cases hji:j'=i
    · subst hji;rw [hp] at hpj;cases hpj;rw [aG (by omega),hie,fN] at hgj
      simp at hgj;subst hgj;right;refine ⟨don.length,k,nb,_,hm,?_,rfl,bA _,by simpa using ho,.inl rfl,hkl,?_⟩
      · rw [aG (bA _),fN];rfl
      · rw [lN,bV (by omega),hie,fN,g.seeH hok hi hp _]
        simp only [mD,List.append_nil];rw [mO,← g.g.objs];have hpl:(seeH pres j' pre ss don h++mS pre objs).length=h.length+nI effs:=by rw [g.g.objs,← mO,aJ,nS];congr 1;exact vQ _ _ _ _ _
        rw [hpl] at hs;exact jU.more hs (g.g.see (HK hok) hp hb)
    · exact g3 j' q p (by simp;omega) hgj hpj
  · have hok':=hok;simp only [jZ,aN] at hok';have hls:don.length<ss.length:=(aB.1 hm).1;have e1:ss.drop don.length=(i,k)::ss.drop (don.length+1):=by
      rw [bB hls];have:=aA hls;rw [hm] at this;rw [Option.some.inj this]
    have hx':x∈ss.drop (don.length+1):=by simpa using hx
    have h5:=g.later x (by rw [e1];exact aM _ hx')
    have key:∀ (ss:List (Nat × Nat)) (m:Nat),QU pres ss=true→ss[m]? = some (i,k)→∀ x,x∈ss.drop (m+1)→x.1≠i:=by
      intro ss
      induction ss with
      | nil=>intro m _ h;simp at h
      | cons y r ih=>
        intro m hok h x hx;obtain ⟨s,k'⟩:=y;simp only [QU,aN,bF] at hok;cases m with
        | zero=>
          simp only [eT,Option.some.injEq,Prod.mk.injEq] at h;intro e;have:=(hok.1 x (by simpa using hx)).1
          rw [e,h.1,fT] at this;cases this
        | succ m=>exact ih m hok.2 (by simpa using h) x (by simpa using hx)
    have:=key ss don.length hok'.1.2 hm x hx';omega
theorem yA (hi:pres.length=i) (hdl:don.length=ss.length){rest:List Oper}{h':Hp}(hr:ops.drop i=rest) (hh:eZ (fun _=>true) ss don h++nA objs=h')
    (hk:VC P n ops.toArray rest cur h' K):VL P n ops pres ds bads ss env h i cur objs don K:=by
  intro hok hen effs gs;have g:=gs.g;have hok':=HK hok;simp only [mA,aN,decide_eq_true_eq] at hok';obtain ⟨⟨⟨⟨⟨h1,h2⟩,h3⟩,h4⟩,h5⟩,h6⟩:=hok';have hds:jS effs=ds:=by
    rw [← h5];have hle:i≤ops.length:=by rw [← hi];exact aY h4
    unfold jS;have:effs.map (·.d)=(ops.take pres.length).map (·.dst):=by
      apply jW;intro j;simp only [bZ,cE,hi];by_cases hj:j<i
      · rw [if_pos hj];have hje:j<effs.length:=by rw [g.len];exact hj
        obtain ⟨o,ho,hod⟩:=g.dst j effs[j] (aA hje);rw [aA hje,ho];simp [hod]
      · rw [if_neg hj,cW (by rw [g.len];omega)];rfl
    have e1:effs.filterMap (·.d)=(effs.map (·.d)).filterMap id:=by rw [qB];rfl
    have e2:(ops.take pres.length).filterMap (·.dst)=((ops.take pres.length).map (·.dst)).filterMap id:=by rw [qB];rfl
    rw [e1,e2,this]
  refine ⟨[],[],by rw [List.append_nil,g.len,hi],by rw [List.append_nil];exact hdl,by rw [List.append_nil];exact hds,fun j f pre hj hf _=>?_,?_⟩
  · have:=(aB.1 hf).1;simp at this;omega
  rw [List.append_nil,List.append_nil];have el:effs.length=pres.length:=by rw [g.len,hi]
  rw [← el,C4,C7 0 effs.length (by omega),nJ,← M1,J8,← Y3,el,hi]
  rw [D5 effs 0,← g.objs,← yH,hh];rw [show ops.toArray.toList.drop i=rest from by simpa using hr]
  refine hk.moreE fun t x hx=>?_
  rw [g.cur] at hx;exact R2 (by have:jS effs=effs.filterMap (·.d):=rfl;rw [← this,hds];exact h2) hx
end
theorem HS.moved {c:oP}{ρ:Pl}{S:Nat→Prop}{H:Hp}{w w':World}{k pp:Nat}{q:Option (Nat × Nat)}{nb:AB}(g:HS c ρ S H w) (hpk:pp≠k) (hH:H[pp]? = some .gone) (hρ:ρ pp=Option.none) (hm:c.m≤pp) (hext:nQ c.M w w')
    (hoth:∀ j b,H[j]? = some b→j≠k→b≠.gone→∀ b1 o1,ρ j=some (b1,o1)→w'.heap[b1]? = w.heap[b1]?) (hst:∀ b1,S b1→w'.heap[b1]? = w.heap[b1]?)
    (hq:∀ b1 o1,q=some (b1,o1)→c.M b1∧¬ S b1∧b1<w'.heap.size∧∀ j b,H[j]? = some b→j≠k→b≠.gone→∀ b2 o2,ρ j=some (b2,o2)→b2≠b1)
    (hv:iX ρ (fun j=>if j=pp then q else ρ j) S S w w'→RB S w' (fun j=>if j=pp then q else ρ j) q nb) :
    HS c (fun j=>if j=pp then q else ρ j) S ((H.set k .gone).set pp nb) w'∧iX ρ (fun j=>if j=pp then q else ρ j) S S w w':=by
  have hplt:pp<H.length:=(aB.1 hH).1
  have l:iX ρ (fun j=>if j=pp then q else ρ j) S S w w':=⟨fun j u hu=>by
    show (if j=pp then q else ρ j)=_
    rw [if_neg (fun e=>by rw [e,hρ] at hu;cases hu)];exact hu,fun _ h=>h,hst,fun _ _ _ _ _ hr=>hext.room hr⟩
  have v2:=hv l;have hget:∀ {j:Nat} {b:AB},((H.set k .gone).set pp nb)[j]? = some b→b≠.gone→(j≠pp∧j≠k∧H[j]? = some b)∨(j=pp∧b=nb):=fun {j b} hj hg=>by
    by_cases hjp:j=pp
    · subst hjp;rw [CY (by simpa using hplt)] at hj
      cases hj;exact .inr ⟨rfl,rfl⟩
    · rw [kN (Ne.symm hjp)] at hj;by_cases hjk:j=k
      · subst hjk;rw [iB] at hj;simp only [if_true] at hj;split at hj
        · cases hj;exact absurd rfl hg
        · cases hj
      · rw [kN (Ne.symm hjk)] at hj;exact .inl ⟨hjp,hjk,hj⟩
  refine ⟨⟨fun j hj=>?_,fun j u hu=>?_,fun j b hj=>?_,fun j b u hj hg hu=>?_,fun j j' b b' u u' hj hj' hg hg' hu hu' e=>?_,fun b1 hb1=>eG (g.stab b1 hb1) hext.size,g.ext.trans hext (fun _ h _=>h),g.st0,g.st1,by simpa using g.mle,fun j hj=>by
      show (if j=pp then q else ρ j)=_
      rw [if_neg (by omega)];exact g.keep j hj,g.glob.later l⟩,l⟩
  · simp at hj;show (if j=pp then q else ρ j)=_
    rw [if_neg (by omega)];exact g.dom j (by omega)
  · by_cases hj:j=pp
    · simp only [hj,if_true] at hu;exact (hq u.1 u.2 hu).2.2.1
    · simp only [hj,if_false] at hu;exact eG (g.rng j u hu) hext.size
  · by_cases hbg:b = .gone
    · subst hbg;trivial
    · rcases hget hj hbg with ⟨h2,h3,h4⟩ | ⟨h2,h3⟩
      · show RB S w' _ (if j=pp then q else ρ j) _
        rw [if_neg h2];exact RB.later l (fun b1 o1 hp1=>hoth j _ h4 h3 hbg b1 o1 hp1) (g.blk j _ h4)
      · subst h2;show RB S w' _ (if j=j then q else ρ j) _
        rw [if_pos rfl,h3];exact v2
  · rcases hget hj hg with ⟨h2,h3,h4⟩ | ⟨h2,h3⟩
    · rw [if_neg h2] at hu;exact g.live j b u h4 hg hu
    · rw [if_pos h2] at hu;exact ⟨(hq u.1 u.2 hu).1,(hq u.1 u.2 hu).2.1⟩
  · rcases hget hj hg with ⟨h2,h3,h4⟩ | ⟨h2,h3⟩ <;> rcases hget hj' hg' with ⟨h2',h3',h4'⟩ | ⟨h2',h3'⟩
    · rw [if_neg h2] at hu;rw [if_neg h2'] at hu';exact g.inj j j' b b' u u' h4 h4' hg hg' hu hu' e
    · rw [if_neg h2] at hu;rw [if_pos h2'] at hu';exact absurd e ((hq u'.1 u'.2 hu').2.2.2 j b h4 h3 hg u.1 u.2 hu)
    · rw [if_neg h2'] at hu';rw [if_pos h2] at hu;exact absurd e.symm ((hq u.1 u.2 hu).2.2.2 j' b' h4' h3' hg' u'.1 u'.2 hu')
    · omega
section
variable {P:Program}{env:eH}{h:Hp}
variable {ty:TypeId}{pos:String}{af:Array Edge}
theorem rC (T:oZ P){t e k off len sz pp dd:Nat}{i:TI}{x y:Operand}{v:AV}{es news:List (List AV)}(hx:evu env x=some (.sl k off len sz)) (hy:evu env y=some v) (ht:T.elem t=some e) (he:T.ti e=some i) (hs:i.size=sz)
    (hkk:h[k]? = some (.arr es sz)) (hle:off+len≤es.length) (hn:kP h v news sz) (h1:news.flatten.all AV.one=true) (hb:(len+news.length)*i.bytes≤140737488355328) (h63:len+news.length≤9223372036854775807) :
    jU P ⟨some dd,.call { callee:=.builtin .append,args:=#[x,y],argTypes:=#[t,t] },ty,pos,af,none⟩ env h pp k .gone (.sl pp 0 (len+news.length) sz) [.arr ((es.drop off).take len++news) sz]:=by
  intro c ρ S a w H g p hbel hpp K' Q hK';have hKK:=hbel k _ hkk (by simp)
  obtain ⟨hr0,hH0,hm0⟩:ρ pp=none∧H[pp]? = some .gone∧c.m≤pp:=by
    rcases hpp with h0 | h0
    · cases h0
    · exact h0
  have hpk:pp≠k:=fun e=>by rw [e,hKK] at hH0;cases hH0
  have hxv:=p.evu hx;obtain ⟨a2,c2,zs,y1,y2,y3,y4,y5,y6,y7⟩:=tH p.blk (p.evu hy) hn;obtain ⟨inf,z,t1,t2,t3,t4,t5,t6,t7⟩:=T.tiOk e i he;have hone:=X8 y6 h1;have hxe:kP h (.sl k off len sz) ((es.drop off).take len) sz:=.sl hkk hle;obtain ⟨a1,c1,ys,x1,x2,x3,x4,x5,x6,x7⟩:=tH p.blk hxv hxe;have hlen:((es.drop off).take len).length=len:=by rw [bL,eD];omega
  rw [hlen] at x1 x2 x5 x7;have hB:=p.blk k _ hkk;simp only [RB] at hB;obtain ⟨hes,hs0,hB⟩:=hB;have hnl:∀ q,q∈news→q.length=sz:=by
    cases hn with
    | sl hk2 _=>
      have:=p.blk _ _ hk2;simp only [RB] at this;exact fun q hq=>this.1 q (fD (fC hq))
    | row h=>exact h
    | nil=>exact fun q hq=>by cases hq
  have hall:∀ q,q∈(es.drop off).take len++news→q.length=sz:=fun q hq=>by
    rcases bG.1 hq with hq | hq
    · exact hes q (fD (fC hq))
    · exact hnl q hq
  have ev1:∀ r w',(Builtin.append_ #[t,t] ty #[a.eval x,a.eval y]).run P w = .ok r w'→(execOp a.eval ⟨some dd,.call { callee:=.builtin .append,args:=#[x,y],argTypes:=#[t,t] },ty,pos,af,none⟩).run P w = .ok (.value r) w':=fun r w' hr=>by
    simp [execOp,resolve,invoke,builtin,hr]
  have fin:∀ {r:Value} {w':World} {q:Option (Nat × Nat)},(Builtin.append_ #[t,t] ty #[a.eval x,a.eval y]).run P w = .ok r w'→nQ c.M w w'→(∀ j b,H[j]? = some b→j≠k→b≠.gone→∀ b1 o1,ρ j=some (b1,o1)→w'.heap[b1]? = w.heap[b1]?)→(∀ b1,S b1→w'.heap[b1]? = w.heap[b1]?) →
      (∀ b1 o1,q=some (b1,o1)→c.M b1∧¬ S b1∧b1<w'.heap.size∧∀ j b,H[j]? = some b→j≠k→b≠.gone→∀ b2 o2,ρ j=some (b2,o2)→b2≠b1) →
      (iX ρ (fun j=>if j=pp then q else ρ j) S S w w'→R S w' (.sl pp 0 (len+news.length) sz) (fun j=>if j=pp then q else ρ j) r∧RB S w' (fun j=>if j=pp then q else ρ j) q (.arr ((es.drop off).take len++news) sz)) →
      Oper.wp P ⟨some dd,.call { callee:=.builtin .append,args:=#[x,y],argTypes:=#[t,t] },ty,pos,af,none⟩ a w K' Q:=fun {r w' q} hr hext hoth hst hq hval=>by
    unfold Oper.wp;rw [ev1 r w' hr];obtain ⟨g1,g2⟩:=g.moved hpk hH0 hr0 hm0 hext hoth hst hq (fun l=>(hval l).2);exact hK' _ _ _ _ g1 g2 (hval g2).1 (fun j hj=>if_neg (hj (by simp)))
  have hoth0:∀ (w':World) (b0:Nat),(∀ x,x≠b0→w'.heap[x]? = w.heap[x]?)→(∃ o,ρ k=some (b0,o))→(∀ j b,H[j]? = some b→j≠k→b≠.gone→∀ b1 o1,ρ j=some (b1,o1)→w'.heap[b1]? = w.heap[b1]?)∧(∀ b1,S b1→w'.heap[b1]? = w.heap[b1]?):=fun w' b0 hw ⟨o,ho⟩=>
    ⟨fun j b hj hjk hg b1 o1 h1=>hw b1 (fun e=>hjk (g.inj j k b _ _ _ hj hKK hg (by simp) h1 ho e)),fun b1 hb1=>hw b1 (fun e=>(g.live k _ _ hKK (by simp) ho).2 (e▸hb1))⟩
  have hxy:a.eval x = .slice a1 len c1∧a.eval y = .slice a2 news.length c2:=⟨x1,y1⟩;by_cases hroom:len+news.length≤c1
  · by_cases hm:news.length=0
    · -- nothing is appended
      have hnews:news=[]:=cK hm;subst hnews;have hr:=yW (P:=P) (w:=w) (t:=t) (ty:=ty) (a2:=a2) (c2:=c2) (T.elemOk _ _ ht) t1 (a:=a1) x2;simp only [R] at hxv;obtain ⟨a1',c1',e1,e2,e3⟩:=hxv;rw [x1] at e1;cases e1;refine fin (q:=(ρ k).map fun q=>(q.1,q.2+off*sz)) (by rw [hxy.1,hxy.2];exact hr) (nQ.refl _ _) (fun _ _ _ _ _ _ _ _=>rfl) (fun _ _=>rfl) (fun b1 o1 hq=>?_) (fun l=>⟨?_,?_⟩)
      · obtain ⟨⟨b2,o2⟩,h2,h3⟩:=hC.1 hq;cases h3;obtain ⟨m1,m2⟩:=g.live k _ _ hKK (by simp) h2
        exact ⟨m1,m2,g.rng k _ h2,fun j b hj hjk hg b3 o3 h3 e=>hjk (g.inj j k b _ _ _ hj hKK hg (by simp) h3 h2 e)⟩
      · simp only [R];refine ⟨a1,c1,rfl,e2,?_⟩;rcases e3 with e3 | ⟨b,o,f1,f2,f3,f4⟩
        · exact .inl e3
        · exact .inr ⟨b,o+off*sz,by simp [f1],by simpa using f2,f3,by
            have:o+off*sz+(0+c1)*sz=o+(off+c1)*sz:=by rw [Nat.zero_add,eV,eC]
            rw [this];exact f4⟩
      · simp only [RB,List.append_nil];refine ⟨fun q hq=>hall q (by simpa using hq),hs0,?_⟩
        rcases hB with hB | ⟨b,o,ws,f1,⟨cc,ee,f2,f3⟩,f4⟩
        · left;obtain ⟨hB,hu⟩:=hB;subst hB;exact ⟨by simp,fun b o e=>by obtain ⟨q,g1,g2⟩:=hC.1 e;cases g2;exact hu _ _ g1⟩
        · right;refine ⟨b,o+off*sz,(ws.drop (off*sz)).take (len*sz),by simp [f1],⟨cc,ee,f2,fun j u hj=>?_⟩,?_⟩
          · rw [cE] at hj;split at hj
            · rw [eU] at hj;rw [eC];exact f3 _ _ hj
            · cases hj
          · have:=rI (yR (f4.later l) (off*sz)) (len*sz)
            rwa [sV _ hes,sU _ (fun e he=>hes e (fD he))] at this
    · -- there is room
      simp only [R] at hxv;obtain ⟨a1',c1',e1,e2,e3⟩:=hxv;rw [x1] at e1;cases e1;rcases e3 with ⟨e3,e4⟩ | ⟨b,o,f1,f2,f3,⟨cc,ee,fz,f4,f5⟩⟩
      · omega
      obtain rfl:fz=(0,0):=by
        rcases hB with ⟨_,hu⟩ | ⟨b3,o3,ws3,g1,⟨cc3,ee3,g2,_⟩,_⟩
        · obtain ⟨cc3,ee3,g2⟩:=hu _ _ f1;rw [f4] at g2;cases g2;rfl
        · rw [f1] at g1;cases g1;rw [f4] at g2;cases g2;rfl
      have hmul:(off+len)*sz+news.length*sz≤(off+c1)*sz:=by rw [← eV];exact fK _ (by omega)
      have hfit:o+off*sz+len*inf.size+zs.length≤cc.size:=by
        rw [t2,hs,y5];have:(off+len)*sz=off*sz+len*sz:=eV _ _ _;omega
      have hr:=F7 (P:=P) (w:=w) (t:=t) (ty:=ty) (a2:=a2) (c2:=c2) (T.elemOk _ _ ht) t1 (b:=b) (o:=o+off*sz) (len:=len) (cap:=c1) (m:=news.length) (by rw [t2,hs];exact y5) y7 hone f4 hroom hfit
      rw [t2,hs] at hr hfit;have hyl:ys.length=len*sz:=x5;have hx8:len=0∨∃ b o,a1=some ⟨b,o,none⟩∧lies w b o ys:=x7;have hcs:((cc.toList.take (o+off*sz+len*sz)++zs++cc.toList.drop (o+off*sz+len*sz+zs.length)).toArray).size=cc.size:=by
        simp only [oA,aJ,bL,eD,iI];omega
      have hnew:=setRow_heap w b cc (cc.toList.take (o+off*sz+len*sz)++zs++cc.toList.drop (o+off*sz+len*sz+zs.length)).toArray ee (0,0) f4;obtain ⟨m1,m2⟩:=g.live k _ _ hKK (by simp) f1
      obtain ⟨o1,o2⟩:=hoth0 _ b (fun x hx=>setRow_other w b x (cc.toList.take (o+off*sz+len*sz)++zs++cc.toList.drop (o+off*sz+len*sz+zs.length)).toArray hx) ⟨o,f1⟩;refine fin (q:=some (b,o+off*sz)) (by rw [hxy.1,hxy.2,f2];exact hr) ((rA f4 hcs).mono fun x _ hx=>by rw [hx];exact m1) o1 o2 (fun b1 o1 hq=>?_) (fun l=>⟨?_,?_⟩)
      · cases hq;exact ⟨m1,m2,(aX.1 hnew).1,fun j b hj hjk hg b3 o3 h3 e=>hjk (g.inj j k b _ _ _ hj hKK hg (by simp) h3 f1 e)⟩
      · simp only [R];refine ⟨_,c1,rfl,e2,.inr ⟨b,o+off*sz,by simp,by simp,hroom,_,ee,_,hnew,?_⟩⟩
        rw [hcs,Nat.zero_add];have:(off+c1)*sz=off*sz+c1*sz:=eV _ _ _;omega
      · simp only [RB];refine ⟨hall,hs0,.inr ⟨b,o+off*sz,ys++zs,rfl,⟨_,ee,hnew,fun j u hj=>?_⟩,?_⟩⟩
        · rw [iZ];by_cases hj1:j<ys.length
          · rw [aO hj1] at hj;rcases hx8 with h0 | ⟨b',o',g1,⟨c',e',fz,g2,g3⟩⟩
            · subst h0;simp at hyl;omega
            rw [f2] at g1;cases g1;rw [f4] at g2;cases g2;rw [bT,aO (by simp;omega),cE,if_pos (by omega)]
            simpa using g3 j u hj
          · rw [aG (by omega)] at hj
            have hj2:=(aB.1 hj).1;rw [aO (by simp;omega),aG (by simp;omega),← hj]
            congr 1;simp only [bL,iI];omega
        · rw [iH];exact jN (x6.later l) (y6.later l)
  · -- a new row
    have hr:=tR (P:=P) (w:=w) (t:=t) (ty:=ty) (c2:=c2) (a:=a1) (len:=len) (cap:=c1) (m:=news.length) (T.elemOk _ _ ht) t1 t4 (by rw [t2,hs];exact x5) x7 (by rw [t2,hs];exact y5) y7 (by omega) (by rw [t3];exact hb) h63
    have hgc:=grownCap_ge w (len+news.length) c1 e;have hgm:=grownCap_le_maxLen w (len+news.length) c1 e (by simp only [maxLen];omega)
    have hzs:z.cells.size=sz:=by rw [← hs,← t6,← t5];simp
    obtain ⟨g1,g2⟩:=A4 hzs x5 y5 hgc;have hnew:(w.drew.alloc (.cells (ys.toArray++zs.toArray++Builtin.zeroCells z.cells (grownCap w (len+news.length) c1 e-(len+news.length))) e)).heap[w.heap.size]? = some (.cells _ e (0,0)):=heap_alloc_new w.drew _;have hold:∀ b1,b1<w.heap.size→(w.drew.alloc (.cells (ys.toArray++zs.toArray++Builtin.zeroCells z.cells (grownCap w (len+news.length) c1 e-(len+news.length))) e)).heap[b1]? = w.heap[b1]?:=fun b1 hb1=>RowKit.Below.heap_alloc w.drew _ b1 hb1
    refine fin (q:=some (w.heap.size,0)) (by rw [hxy.1,hxy.2];exact hr) ((nQ.drew1 w).trans (pR w.drew _ c.M) (fun _ h _=>h)) (fun j b hj hjk hg b1 o1 h2=>hold b1 (g.rng j _ h2)) (fun b1 hb1=>hold b1 (g.stab b1 hb1)) (fun b1 o1 hq=>?_) (fun l=>⟨?_,?_⟩)
    · cases hq;refine ⟨c.new _ g.ext.size,fun hS=>?_,by simp,fun j b hj hjk hg b2 o2 h2 e=>?_⟩
      · have:=g.stab _ hS;omega
      · have:=g.rng j _ h2;simp at this;omega
    · simp only [R];exact ⟨_,_,rfl,hgm,.inr ⟨w.heap.size,0,by simp,by simp,hgc,_,e,_,hnew,by rw [Nat.zero_add,Nat.zero_add];exact g1⟩⟩
    · simp only [RB];refine ⟨hall,hs0,.inr ⟨w.heap.size,0,ys++zs,rfl,⟨_,e,hnew,fun j u hj=>by rw [Nat.zero_add];exact g2 j u hj⟩,?_⟩⟩
      rw [iH];exact jN (x6.later l) (y6.later l)
theorem rB {n:Nat × Nat}{Q:Exit→eH→Hp→Prop}{id:Nat}{l:List Oper}(k:Nat) (pres:List (List Nat)) (ds:List Nat) (bads:List (List Nat)) (ss:List (Nat × Nat)) (hm:P.follows .mixedOrders=true) (hn:n.1=k) (hok:jZ l pres ds bads ss k=true)
    (hv:VL P n l pres ds bads ss (eS ds env) h 0 (eS ds env) [] [] (fun v h=>Q .normal v h)) (hndf:nH l=true:=by rfl):AW P n (.region id l.toArray true) env h Q:=zD2 pres ds bads ss hm (by rw [hn];exact hok) hv hndf
end
end Go.Ab
namespace Go.Ab
open Go Go.MapKept
def SG (P:Program) (f:FuncId) (args:List AV) (hin:Hp) (Φ:AV→Hp→Prop):Prop:=
  (∃ fn, P.funcs[f]? = some fn ∧ (fn.name == "runtime.NumGoroutine") = false ∧ fn.body.isNone = false) ∧
  ∀ ρ S w vs,HS (oE w ρ S hin) ρ S hin w→RL S w args ρ vs →
    Calls P f vs.toArray w fun e w'=>∃ res hout,Φ res hout∧∃ y ρ' S',e = .returned y∧HS (oE w ρ S hin) ρ' S' hout w'∧R S' w' res ρ' y
theorem SG.mono {P:Program}{f:FuncId}{args:List AV}{hin:Hp}{Φ Ψ:AV→Hp→Prop}(h:SG P f args hin Φ) (hi:∀ r o,Φ r o→Ψ r o):SG P f args hin Ψ:=
  ⟨h.1,fun ρ S w vs hs ha=>(h.2 ρ S w vs hs ha).mono fun _ _ ⟨r,o,h1,h2⟩=>⟨r,o,hi r o h1,h2⟩⟩
section
variable {P:Program}{n:Nat × Nat}{ops:Array Oper}{rest:List Oper}{env:eH}{h:Hp}{K:eH→Hp→Prop}
variable {d:Option Nat}{ty:TypeId}{pos:String}{af:Array Edge}
theorem yB2 {x:Operand}{f:FuncId}{fs cs us xs:List AV}{args:List Operand}{ats:Array TypeId}{Ψ:AV→Prop}(hx:evu env x=some (.clo (.func f) fs cs)) (ha:sX env args=some us)
    (hc:SG P f xs [] (fun r o=>o=[]∧Ψ r)) (hv:mP h (fs++us++cs) xs) (hrf:∀ r,Ψ r→r.rf=true) (hd:EE d n=true)
    (hk:∀ r,Ψ r→VC P n ops rest (mX d r env) h K):VC P n ops (⟨d,.call { callee:=.value x,args:=args.toArray,argTypes:=ats },ty,pos,af,none⟩::rest) env h K:=by
  intro c ρ S a w Q s hQ;refine wpList_plain rfl fun K' hK'=>?_
  have p:=s.pre;have hxv:=p.evu hx;simp only [R] at hxv;obtain ⟨ys,zs,e1,h1,h2⟩:=hxv;have hall:RL S w (fs++us++cs) ρ (ys.toList++args.map a.eval++zs.toList):=jN (jN h1 (uS p ha)) h2;obtain ⟨hf,hc⟩:=hc;have hS1w:∀ b,(S b∨mF h ρ b)→b<w.heap.size:=fun b hb=>by
    rcases hb with hb | ⟨k,x,o,_,_,hb⟩
    · exact p.stab b hb
    · exact p.rng k _ hb
  have hargs:RL (fun b=>S b∨mF h ρ b) w xs (fun _=>none) (ys.toList++args.map a.eval++zs.toList):=mJ p.blk hv hall;have hs0:HS (oE w (fun _=>none) (fun b=>S b∨mF h ρ b) []) (fun _=>none) (fun b=>S b∨mF h ρ b) [] w:=⟨fun _ _=>rfl,(fun _ _ h=>by cases h),(fun k b hb=>by simp at hb),(fun k b p hb=>by simp at hb),(fun k _ b _ _ _ hb=>by simp at hb),hS1w,nQ.refl _ _,fun _ h=>h,fun _ h=>.inl h,bA _,(fun _ h=>by simp [oE] at h),p.glob.st fun b hb=>.inl hb⟩
  have hcall:=hc (fun _=>none) _ w _ hs0 hargs;unfold Oper.wp;have hrun:(execOp a.eval ⟨d,.call { callee:=.value x,args:=args.toArray,argTypes:=ats },ty,pos,af,none⟩).run P w = .ok (.enter f (ys.toList++args.map a.eval++zs.toList).toArray) w:=by
    have e2:(ys++(args.toArray.map a.eval)++zs)=(ys.toList++args.map a.eval++zs.toList).toArray:=by
      apply Array.ext';simp
    simp only [execOp,resolve,e1,Deferred.ofValue,Sem.run_bind,Sem.run_pure,Result.andThen_ok,invoke];rw [e2];exact zP hf
  rw [hrun];simp only [Oper.upon];refine hcall.mono ?_;rintro e w' ⟨res,hout,⟨rfl,hΨ⟩,y,ρ',S',rfl,hs,hy⟩;simp only;have hM:∀ b,(oE w (fun _=>none) (fun b=>S b∨mF h ρ b) []).M b→w.heap.size≤b:=fun b hb=>by
    rcases hb with hb | ⟨k,x,o,hb,_⟩
    · exact hb
    · simp at hb
  have hext:nQ (fun _=>False) w w':=hs.ext.mono fun b hb hm=>by have:=hM b hm;simp [oE] at hb;omega
  have hρ:ρ'=fun _=>none:=funext fun k=>hs.dom k (bW _);subst hρ;have hpost:W6 ρ ρ S S w w' h.length 0 res [] y:=by
    refine ⟨hext,rfl,fun _ _=>rfl,fun _ hb=>hb,fun _ hb=>.inl hb,fun k p h1 h2 _=>by omega,fun k k' p p' h1 h2 _ _ _=>by omega,?_,fun j b hb=>by simp at hb⟩
    exact nP (fun _ h=>h) (fun _ _=>rfl) res (fun _=>none) ρ y (fun _ _ h=>nomatch h) (fun _ _ _ _ h=>nomatch h) (zF5 _ _ _ (hrf _ hΨ) hy)
  have hsim:=s.post (d:=d) hd hpost;rw [List.append_nil] at hsim;exact hK' _ _ (hk _ hΨ c ρ S _ w' Q hsim hQ)
end
theorem zG8 {P:Program}{o:Oper}{a:Act}{w:World}{K:Act→World→Prop}{Q1 Q:Exit→Act→World→Prop}(hq:∀ e a w,Q1 e a w→e = .normal) (h:o.wp P a w K Q1):o.wp P a w K Q:=by
  unfold Oper.wp at *;generalize (execOp a.eval o).run P w=r at *;cases r with
  | ok n w'=>
    cases n with
    | enter f args=>
      simp only [Oper.upon] at *;refine h.mono fun e w''=>?_
      cases e with
      | returned v=>exact id
      | panicked c=>exact fun hh=>by have:=hq _ _ _ hh;cases this
      | outgrown=>exact fun ⟨_,_,hh⟩=>by have:=hq _ _ _ hh;cases this
    | _=>first | exact h | exact h.elim
  | halt x w'=>cases x <;> simp only [Oper.upon] at * <;> first | exact h | (have:=hq _ _ _ h;cases this)
section
variable {P:Program}{n:Nat × Nat}{ops:Array Oper}{env:eH}{h:Hp}{K:eH→Hp→Prop}{listed:Array Bool}{r:Nat}
theorem zE2 (hr:Region.ready .any ops listed=[]) (hk:K env h):V8 P n ops listed r env h K:=
  fun _ _ _ _ _ _ s _ hQ=>wpAny_done hr (hQ _ _ _ _ _ _ hk s) r
theorem zE0 {rd:List Nat}(hr:Region.ready .any ops listed=rd) (hne:rd≠[]) (hk:∀ i,i∈rd→∃ o,ops[i]? = some o∧VC P n ops [o] env h (fun v h'=>V8 P n ops (listed.setIfInBounds i true) r v h' K)):V8 P n ops listed (r+1) env h K:=by
  intro c ρ S a w QQ s hq hQ;refine wpAny_all hr hne fun i hi=>?_
  obtain ⟨o,ho,hv⟩:=hk i hi;have h1:=hv c ρ S a w (fun e a' w'=>e = .normal∧wpAny P .any ops QQ r (listed.setIfInBounds i true) a' w') s (fun env' h' ρ' S' a' w' hK hs=>⟨rfl,hK c ρ' S' a' w' QQ hs hq hQ⟩);unfold wpOp;rw [ho];unfold wpList at h1;dsimp only at h1 ⊢;split at h1
  · rename_i hw;rw [if_pos hw];rcases h1 with h1 | ⟨_,a',w',h1⟩
    · exact .inl (zG8 (fun e a w h=>h.1) (Oper.wp_mono (fun a w h=>h.2) h1))
    · exact nomatch h1.1
  · rename_i hw;rw [if_neg hw];exact h1.2
def yB:Nat→List Oper→List (Nat × List Nat)
  | _,[]=>[]
  | i,o::l=>(i,(o.after.toList.filter fun e=>Region.binds .any e).map (·.on))::yB (i+1) l
def zS3 (b0:List Bool):List Nat→Bool
  | []=>true
  | d::ds=>match b0.getD d false with
    | true=>zS3 b0 ds
    | false=>false
def JY (b0:List Bool):List (Nat × List Nat)→List Bool→List Nat
  | (i,d)::ds,b::bs=>match b with
    | true=>JY b0 ds bs
    | false=>match zS3 b0 d with
      | true=>i::JY b0 ds bs
      | false=>JY b0 ds bs
  | _,_=>[]
theorem QV (b0:List Bool):∀ ds:List Nat,zS3 b0 ds=ds.all fun d=>b0.getD d false
  | []=>rfl
  | d::ds=>by
    unfold zS3;rw [zK,QV b0 ds];cases b0.getD d false <;> rfl
theorem XM (b0:List Bool) (i:Nat) (d:List Nat) (ds:List (Nat × List Nat)) (b:Bool) (bs:List Bool):JY b0 ((i,d)::ds) (b::bs)=if b=true then JY b0 ds bs else if zS3 b0 d=true then i::JY b0 ds bs else JY b0 ds bs:=by
  cases b <;> cases h:zS3 b0 d <;> simp [JY,h]
theorem XL (l0:List Oper) (b0:List Bool):∀ (l:List Oper) (bs:List Bool) (i:Nat),l.length=bs.length→(∀ j,l[j]? = l0[i+j]?)→(∀ j,j<bs.length→bs[j]? = b0[i+j]?) →
    JY b0 (yB i l) bs=(List.range' i l.length).filter fun i=>!b0.toArray.getD i true&&((l0.toArray[i]?).map (·.after.all fun e=>!Region.binds .any e||b0.toArray.getD e.on false)).getD false
  | [],[],i,_,_,_=>rfl
  | o::l,b::bs,i,hl,h1,h2=>by
    have ih:=XL l0 b0 l bs (i+1) (by simpa using hl) (fun j=>by rw [eC,sI 1 j];simpa using h1 (j+1)) (fun j hj=>by rw [eC,sI 1 j];simpa using h2 (j+1) (by simpa using hj))
    have e1:b0.toArray.getD i true=b:=by
      have:=h2 0 (by simp)
      simp only [eT,Nat.add_zero] at this;rw [dZ,iZ,← this];rfl
    have e2:((l0.toArray[i]?).map (·.after.all fun e=>!Region.binds .any e||b0.toArray.getD e.on false)).getD false=zS3 b0 ((o.after.toList.filter fun e=>Region.binds .any e).map (·.on)):=by
      have:=h1 0;simp only [eT,Nat.add_zero] at this;rw [iZ,← this,QV,List.all_map];simp only [F3,lM];rw [← Array.all_toList]
      induction o.after.toList with
      | nil=>rfl
      | cons e r ih=>
        rw [zK,zR6,ih];cases Region.binds .any e
        · simp
        · simp [dZ,aC]
    rw [List.length_cons,List.range'_succ,zR6,e1,e2,← ih];generalize hok:zS3 b0 ((o.after.toList.filter fun e=>Region.binds .any e).map (·.on))=q;have e3:=XM b0 i ((o.after.toList.filter fun e=>Region.binds .any e).map (·.on)) (yB (i+1) l) b bs;rw [show yB i (o::l)=(i,(o.after.toList.filter fun e=>Region.binds .any e).map (·.on))::yB (i+1) l from rfl,e3,hok]
    generalize JY b0 (yB (i+1) l) bs=u;cases b <;> cases q <;> rfl
  | [],_::_,_,hl,_,_=>by simp at hl
  | _::_,[],_,hl,_,_=>by simp at hl
theorem DR {l:List Oper}{b:List Bool}(hl:l.length=b.length):Region.ready .any l.toArray b.toArray=JY b (yB 0 l) b:=by
  rw [XL l b l b 0 hl (fun j=>by rw [Nat.zero_add]) (fun j _=>by rw [Nat.zero_add])]
  unfold Region.ready;rw [C4];rfl
def zI (P:Program) (n:Nat × Nat) (l:List Oper) (ds:List (Nat × List Nat)) (b:List Bool) (r:Nat) (env:eH) (h:Hp) (K:eH→Hp→Prop):Prop:=yB 0 l=ds→l.length=b.length→V8 P n l.toArray b.toArray r env h K
section
variable {l:List Oper}{ds:List (Nat × List Nat)}{b:List Bool}
theorem E8 (hr:JY b ds b=[]) (hk:K env h):zI P n l ds b r env h K:=fun hd hl=>by
  subst hd;exact zE2 ((DR hl).trans hr) hk
theorem E7 {rd:List Nat}(hr:JY b ds b=rd) (hne:rd≠[]) (hk:∀ i,i∈rd→∃ o,l[i]? = some o∧VC P n l.toArray [o] env h (fun v h'=>zI P n l ds (b.set i true) r v h' K)):zI P n l ds b (r+1) env h K:=fun hd hl=>
  zE0 ((DR hl).trans (by rw [hd];exact hr)) hne fun i hi=>by
    obtain ⟨o,ho,hv⟩:=hk i hi;refine ⟨o,by simpa using ho,hv.mono fun v g hg=>?_⟩
    have:=hg hd (by rw [fM];exact hl)
    rwa [← List.setIfInBounds_toArray] at this
theorem zE6 {i:Nat}{o:Oper}(hr:JY b ds b=[i]) (ho:l[i]? = some o) (hk:VC P n l.toArray [o] env h (fun v h'=>zI P n l ds (b.set i true) r v h' K)):zI P n l ds b (r+1) env h K:=
  E7 hr (by simp) fun k hk2=>by simp only [bO,or_false,CP] at hk2;subst hk2;exact ⟨o,ho,hk⟩
theorem zE5 {i j:Nat}{o o2:Oper}(hr:JY b ds b=[i,j]) (ho:l[i]? = some o) (ho2:l[j]? = some o2) (hk:VC P n l.toArray [o] env h (fun v h'=>zI P n l ds (b.set i true) r v h' K)) (hk2:VC P n l.toArray [o2] env h (fun v h'=>zI P n l ds (b.set j true) r v h' K)):zI P n l ds b (r+1) env h K:=
  E7 hr (by simp) fun k hm=>by
    simp only [bO,CP,or_false] at hm;rcases hm with rfl | rfl
    · exact ⟨o,ho,hk⟩
    · exact ⟨o2,ho2,hk2⟩
theorem zE4 {i j k3:Nat}{o o2 o3:Oper}(hr:JY b ds b=[i,j,k3]) (ho:l[i]? = some o) (ho2:l[j]? = some o2) (ho3:l[k3]? = some o3) (hk:VC P n l.toArray [o] env h (fun v h'=>zI P n l ds (b.set i true) r v h' K)) (hk2:VC P n l.toArray [o2] env h (fun v h'=>zI P n l ds (b.set j true) r v h' K)) (hk3:VC P n l.toArray [o3] env h (fun v h'=>zI P n l ds (b.set k3 true) r v h' K)):zI P n l ds b (r+1) env h K:=
  E7 hr (by simp) fun k hm=>by
    simp only [bO,CP,or_false] at hm;rcases hm with rfl | rfl | rfl
    · exact ⟨o,ho,hk⟩
    · exact ⟨o2,ho2,hk2⟩
    · exact ⟨o3,ho3,hk3⟩
theorem zE3 {i j k3 k4:Nat}{o o2 o3 o4:Oper}(hr:JY b ds b=[i,j,k3,k4]) (ho:l[i]? = some o) (ho2:l[j]? = some o2) (ho3:l[k3]? = some o3) (ho4:l[k4]? = some o4) (hk:VC P n l.toArray [o] env h (fun v h'=>zI P n l ds (b.set i true) r v h' K)) (hk2:VC P n l.toArray [o2] env h (fun v h'=>zI P n l ds (b.set j true) r v h' K)) (hk3:VC P n l.toArray [o3] env h (fun v h'=>zI P n l ds (b.set k3 true) r v h' K)) (hk4:VC P n l.toArray [o4] env h (fun v h'=>zI P n l ds (b.set k4 true) r v h' K)):zI P n l ds b (r+1) env h K:=
  E7 hr (by simp) fun k hm=>by
    simp only [bO,CP,or_false] at hm;rcases hm with rfl | rfl | rfl | rfl
    · exact ⟨o,ho,hk⟩
    · exact ⟨o2,ho2,hk2⟩
    · exact ⟨o3,ho3,hk3⟩
    · exact ⟨o4,ho4,hk4⟩
theorem SB (ds:List (Nat × List Nat)) (hd:yB 0 l=ds) (b:List Bool){listed:Array Bool}(hb:listed=b.toArray) (hl:l.length=b.length) (hk:zI P n l ds b r env h K):V8 P n l.toArray listed r env h K:=by
  subst hb;exact hk hd hl
end
theorem zD4 {code:Code}{Q:Exit→eH→Hp→Prop}(E:eH) (H:Hp) (hc:AW P n code env h (fun e v g=>e = .normal∧IE n.2 v g E H)) (hk:∀ v g,IE n.2 v g E H→Q .normal v g):AW P n code env h Q:=
  hc.mono fun e v g ⟨he,hs⟩=>by subst he;exact hk v g hs
end
theorem HS.view {c:oP}{ρ:Pl}{S:Nat→Prop}{h:Hp}{w:World}(s:HS c ρ S h w) (hm:c.m=0):HS c (fun _=>Option.none) (fun b=>S b∨mF h ρ b) [] w:=by
  refine ⟨fun _ _=>rfl,(fun _ _ h=>nomatch h),(fun k b hb=>by simp at hb),(fun k b p hb=>by simp at hb),(fun k _ b _ _ _ hb=>by simp at hb),fun b hb=>?_,s.ext,fun b hb=>.inl (s.st0 b hb),fun b hb=>?_,by rw [hm];exact bW _,(fun k hk=>by rw [hm] at hk;exact absurd hk (dA _)),s.glob.st fun b hb=>.inl hb⟩
  · rcases hb with hb | ⟨k,x,o,_,_,hb⟩
    · exact s.stab b hb
    · exact s.rng k _ hb
  · rcases hb with hb | ⟨k,x,o,h1,h2,h3⟩
    · exact s.st1 b hb
    · exact .inr (s.live k x _ h1 h2 h3).1
theorem I6 {P:Program}{f:FuncId}{args:List AV}{res res':AV}{hout:Hp}(h:aT P f args [] res hout) (hv:oN hout res res'):aT P f args [] res' []:=by
  refine ⟨h.1,fun ρ S w vs hs ha=>(h.2 ρ S w vs hs ha).mono ?_⟩;rintro e w' ⟨y,ρ',S',rfl,h2,h3⟩;exact ⟨y,_,_,rfl,h2.view rfl,Z5 h2.blk hv h3⟩
section
variable {P:Program}{env:eH}{h:Hp}
variable {d:Option Nat}{ty:TypeId}{pos:String}{af:Array Edge}{g:Option (Nat × Bool)}
variable {t kt et:TypeId}{good:Value→Prop}{x y:Operand}{i:Nat}{kv:Value}{ks:List Value}{vs:List AV}{v:AV}
end
section
variable {P:Program}{env:eH}{h:Hp}
variable {d:Option Nat}{ty:TypeId}{pos:String}{af:Array Edge}{g:Option (Nat × Bool)}
variable {t kt et:TypeId}{good:Value→Prop}{x y:Operand}{k:Nat}{kv:Value}{ks:List Value}{vs:List AV}
end
section
variable {P:Program}{env:eH}{h:Hp}
theorem rV {n:Nat × Nat}{Q:Exit→eH→Hp→Prop}{id:Nat}{l:List Oper}(k nt:Nat) (presl pres:List (List Nat)) (ds:List Nat) (bads:List (List Nat)) (hm:P.follows .mixedOrders=true) (hn:n.1=nt) (hc:M5 l presl k=true) (hok:mA (l.take k) pres ds bads nt=true)
    (hv:DW P n (l.take k) pres ds bads (eS ds env) h 0 (eS ds env) [] (fun v h=>VC P n l.toArray (l.drop k) v h (fun v h=>Q .normal v h))) (hnd:nH (l.take k)=true:=by rfl) (hnd2:nH (l.drop k)=true:=by rfl):AW P n (.region id l.toArray true) env h Q:=by
  intro c ρ S a w QQ s hQ;have hkl:=(I2 hc).2.1;have hany:=S6 pres ds bads (by rw [hn];exact hok) hv c ρ S a w (fun e a w=>e = .normal∧wpListIn (rd c.r) 0 P l.toArray (fun e a w=>e = .normal∧QQ .normal a w) (l.drop k) a w) s fun env' h' ρ' S' a' w' kv s'=>
    ⟨rfl,vJ (fun e a w h=>h.1) hnd2 (kv c ρ' S' a' w' _ s' fun env2 h2 ρ2 S2 a2 w2 k2 s2=>⟨rfl,hQ .normal env2 h2 ρ2 S2 a2 w2 k2 s2⟩)⟩
  have hrep:∀ m j,(Array.replicate m false).getD j false=false:=fun m j=>by
    simp only [Array.getD];split <;> simp
  refine wpIn_mono (wpIn_region_any (Q:=fun e a w=>e = .normal∧QQ .normal a w) hm (HT hc hnd (fun e a w h=>h.1) (fun a w h=>h.2) (l.take k).toArray.size l.toArray.size _ (Array.replicate (l.take k).toArray.size false) (List.range k) a _ (by simp) (by simp;omega) (fun j hj=>by rw [hrep,hrep]) (fun j hj=>hrep _ _) (fun i o ho hi=>by rw [hrep] at hi;cases hi) (fun j hj _=>dD.2 hj) (by simp;omega) (by simp;omega) hany)) fun e a w he=>by obtain ⟨rfl,h3⟩:=he;exact h3
end
end Go.Ab
namespace Go.Proofs.YtmmkhmilpeodnaaGreat
open Go Go.Ab Go.Shelf Go.Proofs
shelf_lay Lays.n189 Nm 189 at Tryz as laysSort
theorem NK (l:List Int) (hl:l.length≤17592186043904):aT Tryz.prog 57 [.sl 0 0 l.length 1] [.arr (ints l) 1] (.tup []) [.arr (ints (jD l)) 1]:=
  PC ⟨_,Tryz.func57,by kernel_rfl,by kernel_rfl⟩ (fun blk off cap zs w h1 h2 h3=>Any.slices_Sort_int laysSort blk off cap zs w h1 h2 h3) (fun p cap w=>Any.slices_Sort_int_none laysSort p cap w) l hl
end Go.Proofs.YtmmkhmilpeodnaaGreat
namespace Go.Proofs.YtmmkhmilpeodnaaGreat
open Go Go.Ab
attribute [local irreducible] VC AW bX aT AY VY CV
set_option maxHeartbeats 4000000
theorem HJ (l:List Int) (hl:l.length≤17592186043904):aT Tryz.prog 68 [.rowE (ints l) 1] [] (.sl 0 0 l.length 1) [.arr (ints l) 1]:=by
  have hll:(ints l).length=l.length:=by simp
  refine bK T Tryz.func68 rfl rfl rfl rfl ?_
  repeat' (first|refine wS ?_|refine wK ?_|refine wT ?_|refine wU ?_|(refine rg 0 (aV ?_))|(refine rg 1 (mV ?_);refine tI T rfl rfl rfl rfl fun b hb=>?_;cases b)|refine nZ ?_)
  · (repeat' (first|refine wR ?_|(refine rg 3 (bN (by exact bD T rfl rfl (by decide) (by decide) rfl rfl rfl) rfl ?_);refine mW rfl (fY T rfl rfl rfl rfl rfl rfl (by decide) (.row (ints_len l)) (K9 l) (by simp;omega) (by simp;omega) rfl ?_);refine aV ?_)|(refine nZ ?_)));exact ⟨.inl rfl,[1],_,rfl,(by show AV.sl 1 0 (0+(ints l).length) 1=AV.sl 1 0 l.length 1;simp),rfl,⟨.inr (aD rfl rfl (ints_idf _)),trivial⟩,by decide,K3⟩
  · have hl0:l=[]:=fE.1 (Classical.byContradiction fun h=>by have:=hb (by omega);cases this)
    subst hl0
    (repeat' (first|refine wR ?_|(refine rg 2 (vV (eL rfl) (sF 2 1 rfl (by decide) ?_)))|refine nZ ?_));exact ⟨.inl rfl,[0],_,rfl,rfl,rfl,⟨.inr (aD rfl rfl (ints_idf _)),trivial⟩,by decide,K3⟩
abbrev zH2 (l:List Int):AV:=.clo (.func 122) [] [.pr [.rowE (ints l) 1] 0]
theorem zL (l:List Int):aT Tryz.prog 79 [.rowE (ints l) 1] [] (zH2 l) []:=by
  refine PF rfl ?_;refine bK T Tryz.func79 rfl rfl rfl rfl ?_
  (repeat' (first|refine wS ?_|refine wR ?_|(refine rg 0 (bN (cC rfl rfl) rfl (aV ?_)))|(refine rg 1 (vV (by exact jK rfl rfl) ?_);refine aV ?_)|refine nZ ?_));exact ⟨.inl rfl,[0],_,rfl,rfl,rfl,⟨.inr rfl,trivial⟩,by decide,K3⟩
def zU0 (l:List Int) (k:Nat):List AV:=match l[k]? with
  | some x=>[.i x]
  | none=>[]
theorem FP {l:List Int}{k:Nat}(h:k<l.length):zU0 l k=[.i l[k]]:=by unfold zU0;rw [aA h]
theorem SO (l:List Int) (hl:l.length≤17592186043904):CV Tryz.prog 122 [] [.pr [.rowE (ints l) 1] 0] [] (zU0 l) l.length:=by
  have hll:(ints l).length=l.length:=by simp
  refine zS9 T Tryz.func122 rfl rfl rfl rfl ?_;intro J A y hJ hy
  (repeat' (first|(first|(refine yE ?_)|(refine B5 ?_))|(((refine qR hJ (dX (id:=0) ?_)));(all_goals (refine lV T ?_;(refine qV T ?_);refine mV ?_)))|refine nZ ?_));refine HQ (X:={k:Nat // k≤l.length}) (fun k=>[(0,.clo (.yield y) [] []),(5,.rowE (ints l) 1),(6,.i (ints l).length),(7,.i (k.1:Int))]) (fun _=>[]) (fun k=>(k.1,false)) (fun k=>l.length-k.1) ⟨0,bW _⟩ rfl (fA []) ?_
  rintro ⟨k,hkl⟩;dsimp only;by_cases hk:k<l.length
  · have hit:=FP hk;have q1:(ints l)[(k:Int).toNat]? = some [AV.i l[k]]:=by rw [bH,bZ,aA hk];rfl
    generalize l[k]=x at *
    (repeat' (first|(first|(refine yE ?_)|(refine B5 ?_)|(refine Z1 ?_)|(refine zC8 ?_))|((refine yG rfl (fun hb=>?_) (fun hb=>?_)<;>(((try simp only [nm] at hb);try ((exfalso;omega);done)))))|(((refine qR hJ (dX (id:=1) ?_)));(all_goals (refine vV (aI rfl rfl) ?_)))|(((refine qR hJ (dX (id:=2) ?_)));(all_goals (refine vV (ix T rfl (by omega) (ints_len _) q1) ?_;refine lV T ?_;refine aV ?_)))|(((refine FH (id:=3) ?_));((refine VV 2 hJ ?_));(dsimp only [List.take,List.drop]);(all_goals (refine yG2 ?_;refine gG ?_;refine IM hJ hy rfl rfl rfl hk hit rfl ?_));(all_goals (intro yes));(all_goals (refine zS0 hJ ?_;refine vV (cY rfl) ?_;refine W9 (by ((dsimp only [List.nil_append,List.cons_append,List.append_nil,List.length_cons,List.length_nil,List.set_cons_zero,List.set_cons_succ,List.map_cons,List.map_nil,kR,mX,nA,sH,NH,H3,AC,Z9,Z8,AA,H2,H5,H1,H4,Nat.zero_add,Nat.add_zero,Nat.reduceAdd,Bool.not_true,Bool.not_false];done))) ?_)))|(((refine qR hJ (dX (id:=4) ?_)));(all_goals (refine vV (bY rfl rfl (by omega) (by omega)) ?_;refine mV ?_)))|refine nZ ?_));all_goals first | (exfalso;omega) | skip
    · exact ⟨.inl rfl,fun h=>(by first | (subst hb;cases h) | (cases h;done)),[],rfl⟩
    · obtain rfl:=hb;exact ⟨⟨k+1,hk⟩,by dsimp only;omega,rfl,fA []⟩
  · (repeat' (first|(first|(refine yE ?_)|(refine HR ?_))|((refine yG rfl (fun hb=>?_) (fun hb=>?_) <;> (((try simp only [nm] at hb);try ((exfalso;omega);done)))))|(((refine qR hJ (dX (id:=1) ?_)));(all_goals (refine vV (aI rfl rfl) ?_)))|(refine W9 (by ((dsimp only [List.nil_append,List.cons_append,List.append_nil,List.length_cons,List.length_nil,List.set_cons_zero,List.set_cons_succ,List.map_cons,List.map_nil,kR,mX,nA,sH,NH,H3,AC,Z9,Z8,AA,H2,H5,H1,H4,Nat.zero_add,Nat.add_zero,Nat.reduceAdd,Bool.not_true,Bool.not_false];done))) ?_)));all_goals first | (exfalso;omega) | skip
    exact ⟨.inr rfl,fun _=>by show k=_;omega,[],rfl⟩
abbrev yJ7 (l:List Int):Hp:=[.cells [.sl 1 0 l.length 1],.arr (ints l) 1]
theorem yH8:∀ i:Nat,i<1→([0,3]:List Nat)[i]? = some i:=by decide
theorem MM (l:List Int) (hl:l.length≤17592186043904):aT Tryz.prog 160 [.nils,zH2 l] [] (.sl 0 0 l.length 1) [.arr (ints l) 1]:=by
  have hit:=SO l hl;refine bK T Tryz.func160 rfl rfl rfl rfl ?_
  (repeat' (first|refine wS ?_|refine wB ?_|(refine rg 0 (bN (cC rfl rfl) rfl (aV ?_)))|(refine rg 1 (mV ?_))|refine nZ ?_));refine uU 0 0 1 rfl rfl (by decide) ?_
  refine MI [] [0,1] [(2,.ptr 0 0)] (fun k=>yJ7 (l.take k)) 1 rfl hit rfl rfl rfl trivial cM rfl ⟨rfl,trivial⟩ ⟨.inr rfl,.inr rfl,trivial⟩ (by decide) (K3) (by simp) (bW _) (aY rfl) rfl (by decide) (fun k hk=>by rw [FP hk];exact ⟨rfl,rfl⟩) ?_ ?_
  · intro k hk;rw [FP hk];have hks:=aP hk;have hkl:(l.take k).length≤l.length:=List.length_take_le' _ _;generalize l.take k=K at hks hkl ⊢;generalize l[k]=x at *;refine dX (id:=2) ?_;refine vV (by exact eL rfl) ?_
    refine gG ?_;refine ⟨rfl,?_⟩
    repeat' (first|refine wB ?_|(refine rg 3 (lW T rfl (mW rfl (bN (by exact bD T rfl rfl (by decide) (by decide) rfl rfl rfl) rfl ?_)));refine fY T rfl rfl rfl rfl rfl rfl (by simp) (kP.whole rfl rfl) rfl (by simp;omega) (by simp;omega) rfl ?_;refine aL T rfl rfl rfl rfl rfl rfl (by decide) rfl ?_)|refine nZ ?_)
    show IE _ _ _ _ (yJ7 (l.take (k+1)));rw [hks];exact ⟨[0,3],rfl,trivial,⟨.inr (by simp;rfl),.inr (aD rfl (by simp;exact bV (by simp)) (ints_idf _)),trivial⟩,by decide,yH8⟩
  · have e:l.take l.length=l:=dI;rw [e]
    (repeat' (first|refine wS ?_|refine wR ?_|(refine rg 4 (lW T rfl (aV ?_)))|refine nZ ?_));exact ⟨.inl rfl,[1],_,rfl,rfl,rfl,⟨.inr (aD rfl rfl (ints_idf _)),trivial⟩,by decide,K3⟩
theorem UW (l:List Int) (hl:l.length≤17592186043904):aT Tryz.prog 121 [zH2 l] [] (.sl 0 0 l.length 1) [.arr (ints l) 1]:=by
  have h1:=MM l hl;have hrf:=RE l;refine bK T Tryz.func121 rfl rfl rfl rfl ?_
  (repeat' (first|refine wS ?_|refine wR ?_|(refine rg 0 (aV ?_))|(refine rg 1 (mW rfl (bN (by exact fX rfl rfl h1 (.inr ⟨rfl,rfl,by simp⟩)) rfl ?_));refine aV ?_)|refine nZ ?_));exact ⟨.inl rfl,[0],_,rfl,rfl,rfl,⟨.inr (aD rfl (BH _ _) (ints_idf _)),trivial⟩,by decide,K3⟩
theorem J5 (l:List Int) (hl:l.length≤17592186043904):aT Tryz.prog 78 [zH2 l] [] (.rowE (ints (jD l)) 1) []:=by
  refine oJ (by simp [pF]:l.length=(ints (jD l)).length) (ints_idfF _) ?_
  have h1:=UW l hl;have h2:=NK l hl;have hrf:=RE l;generalize jD l=B at *;refine bK T Tryz.func78 rfl rfl rfl rfl ?_
  (repeat' (first|refine wS ?_|refine wR ?_|(refine rg 0 (aV ?_))|(refine rg 1 (mW rfl (bN (by exact fX rfl rfl h1 (.inr ⟨rfl,rfl,by simp⟩)) rfl ?_));refine aV ?_)|(refine rg 2 (mW rfl (fP [0] rfl rfl h2 rfl rfl (by decide) ⟨.inr (aD rfl (BH _ _) (ints_idf _)),trivial⟩ (by simp) rfl ?_)))|(refine rg 3 (mW rfl (aV ?_)))|refine nZ ?_));exact ⟨.inl rfl,[0],_,rfl,rfl,rfl,⟨.inr (aD rfl (BH _ _) (ints_idf _)),trivial⟩,by decide,K3⟩
end Go.Proofs.YtmmkhmilpeodnaaGreat
namespace Go.Pm
structure Rt (p:List Nat):Prop where
  nd:p.Nodup
  lt:∀ x,x∈p→x<p.length
abbrev lF (p:List Nat) (i:Nat):Nat:=p.getD i 0
theorem qI {p:List Nat}{i:Nat}(h:i<p.length):lF p i=p[i]:=by
  rw [lF,aC,aA h];rfl
theorem Rt.ltAt {p:List Nat}(r:Rt p){i:Nat}(h:i<p.length):lF p i<p.length:=by
  rw [qI h];exact r.lt _ (aH h)
theorem Rt.inj {p:List Nat}(r:Rt p){i j:Nat}(hi:i<p.length) (hj:j<p.length) (e:lF p i=lF p j):i=j:=by
  rw [qI hi,qI hj] at e;have h:=lG.1 r.nd;rcases Nat.lt_trichotomy i j with h1 | h1 | h1
  · exact absurd e (h i j hi hj h1)
  · exact h1
  · exact absurd e.symm (h j i hj hi h1)
theorem Rt.mem {p:List Nat}(r:Rt p){x:Nat}(h:x<p.length):x∈p:=by
  apply Classical.byContradiction;intro hx;have h1:(x::p).Nodup:=fL.2 ⟨hx,r.nd⟩
  have:=h1.length_le_of_subset (l₂:=List.range p.length) (fun y hy=>by
    rw [dD];rcases bO.1 hy with rfl | hy
    · exact h
    · exact r.lt y hy)
  simp at this;omega
theorem zY4 {p q:List Nat}(hl:p.length=q.length) (h:∀ i,i<p.length→lF p i=lF q i):p=q:=by
  refine gY hl fun i h1 h2=>?_
  have:=h i h1
  rwa [qI h1,qI h2] at this
theorem zZ9 {f:Nat→Nat}{l:List Nat}{i:Nat}(h:i<l.length):lF (l.map f) i=f (lF l i):=by
  rw [qI (by simpa using h),qI h];simp
theorem zD6 {l:List Nat}{i j v:Nat}(h:i<l.length):lF (l.set i v) j=if i=j then v else lF l j:=by
  rw [lF,aC,iB];by_cases e:i=j
  · rw [if_pos e,if_pos e,if_pos h];rfl
  · rw [if_neg e,if_neg e,lF,aC]
def comp (p q:List Nat):List Nat:=q.map (lF p)
theorem qG (p q:List Nat):(comp p q).length=q.length:=aF _
theorem Z0 {p q:List Nat}{i:Nat}(h:i<q.length):lF (comp p q) i=lF p (lF q i):=zZ9 h
def IW (p:List Nat) (a b:Nat):List Nat:=(p.set a (lF p b)).set b (lF p a)
theorem X3 (p:List Nat) (a b:Nat):(IW p a b).length=p.length:=by simp [IW]
theorem WH {p:List Nat}{a b i:Nat}(ha:a<p.length) (hb:b<p.length):lF (IW p a b) i=if b=i then lF p a else if a=i then lF p b else lF p i:=by
  unfold IW;rw [zD6 (by simpa using hb),zD6 ha]
theorem WG {p q:List Nat}{a b:Nat}(ha:a<q.length) (hb:b<q.length):comp p (IW q a b)=IW (comp p q) a b:=by
  refine zY4 (by simp [qG,X3]) fun i hi=>?_
  rw [qG,X3] at hi;rw [Z0 (by rw [X3];exact hi),WH ha hb,WH (by rw [qG];exact ha) (by rw [qG];exact hb),Z0 ha,Z0 hb,Z0 hi]
  split
  · rfl
  · split <;> rfl
inductive Sw (x:List Nat):Bool→List Nat→Prop
  | refl:Sw x false x
  | swap {b:Bool} {y:List Nat} {i j:Nat}:Sw x b y→i<x.length→j<x.length→i≠j→Sw x (!b) (IW y i j)
theorem Sw.len {x y:List Nat}{b:Bool}(h:Sw x b y):y.length=x.length:=by
  induction h with
  | refl=>rfl
  | swap _ _ _ _ ih=>rw [X3];exact ih
theorem Sw.comp {p x y:List Nat}{b:Bool}(h:Sw x b y):Sw (comp p x) b (comp p y):=by
  induction h with
  | refl=>exact .refl
  | swap h' h1 h2 h3 ih=>
    rw [WG (by rw [h'.len];exact h1) (by rw [h'.len];exact h2)]
    exact .swap ih (by rw [qG];exact h1) (by rw [qG];exact h2) h3
abbrev bt (s:List Bool) (i:Nat):Bool:=s.getD i false
theorem zZ5 {s:List Bool}{i j:Nat}{v:Bool}(h:i<s.length):bt (s.set i v) j=if i=j then v else bt s j:=by
  rw [bt,aC,iB];by_cases e:i=j
  · rw [if_pos e,if_pos e,if_pos h];rfl
  · rw [if_neg e,if_neg e,bt,aC]
def zP8 (p:List Nat):Nat→List Bool→List Nat→Nat→List Bool × List Nat
  | 0,sn,c,_=>(sn,c)
  | f+1,sn,c,k=>if bt sn k then (sn,c) else zP8 p f (sn.set k true) (c++[k]) (lF p k)
def UU (p:List Nat):Nat→List Bool × List (List Nat)
  | 0=>(List.replicate p.length false,[])
  | i+1=>((zP8 p p.length (UU p i).1 [] i).1,if 1<(zP8 p p.length (UU p i).1 [] i).2.length then (UU p i).2++[(zP8 p p.length (UU p i).1 [] i).2] else (UU p i).2)
def yI7 (p:List Nat):List (List Nat):=(UU p p.length).2
structure CI (p:List Nat) (sn0:List Bool) (i:Nat) (sn:List Bool) (c:List Nat) (k:Nat):Prop where
  len:sn.length=p.length
  nd:c.Nodup
  lt:∀ x,x∈c→x<p.length
  sn:∀ x,x<p.length→(bt sn x=true↔bt sn0 x=true∨x∈c)
  new:∀ x,x∈c→bt sn0 x=false
  z:c=[]→k=i
  hd:c≠[]→lF c 0=i
  nx:c≠[]→k=lF p (lF c (c.length-1))
  st:∀ j,j+1<c.length→lF c (j+1)=lF p (lF c j)
  k:k<p.length
theorem Z2 {c:List Nat}{k j:Nat}:lF (c++[k]) j=if j<c.length then lF c j else if j=c.length then k else 0:=by
  rw [lF,aC];by_cases h:j<c.length
  · rw [if_pos h,aO h,lF,aC]
  · rw [if_neg h,aG (by omega)]
    by_cases h2:j=c.length
    · rw [if_pos h2,h2];simp
    · rw [if_neg h2];rw [cW (by simp;omega)];rfl
theorem CI.step {p:List Nat}(r:Rt p){sn0 sn:List Bool}{i k:Nat}{c:List Nat}(h:CI p sn0 i sn c k) (hb:bt sn k=false):CI p sn0 i (sn.set k true) (c++[k]) (lF p k):=by
  have hk:=h.k;have hkc:¬ (bt sn0 k=true∨k∈c):=fun q=>by rw [(h.sn k hk).2 q] at hb;cases hb
  refine ⟨by simp [h.len],?_,fun x hx=>?_,fun x hx=>?_,fun x hx=>?_,fun e=>by simp at e,fun _=>?_,fun _=>?_,fun j hj=>?_,r.ltAt hk⟩
  · rw [cP];exact ⟨h.nd,by simp,fun a ha b hb e=>by simp at hb;subst hb;subst e;exact hkc (.inr ha)⟩
  · rcases bG.1 hx with hx | hx
    · exact h.lt x hx
    · simp at hx;subst hx;exact hk
  · rw [zZ5 (by rw [h.len];exact hk)]
    by_cases e:k=x
    · subst e;simp
    · rw [if_neg e,h.sn x hx];simp [Ne.symm e]
  · rcases bG.1 hx with hx | hx
    · exact h.new x hx
    · simp at hx;subst hx;rw [← dR];exact fun q=>hkc (.inl q)
  · rw [Z2];cases c with
    | nil=>simp;exact h.z rfl
    | cons a c=>simp;exact h.hd (by simp)
  · simp [Z2]
  · simp at hj;rw [Z2,Z2,if_pos hj];by_cases e:j+1<c.length
    · rw [if_pos e];exact h.st j e
    · rw [if_neg e,if_pos (by omega)]
      have:=h.nx (by intro q;subst q;simp at hj)
      rw [this,show c.length-1=j by omega]
structure yL1 (p:List Nat) (c:List Nat):Prop where
  ne:c≠[]
  nd:c.Nodup
  lt:∀ x,x∈c→x<p.length
  st:∀ j,j<c.length→lF p (lF c j)=lF c ((j+1) % c.length)
theorem CI.fin {p:List Nat}(r:Rt p){sn0 sn:List Bool}{i k:Nat}{c:List Nat}(h:CI p sn0 i sn c k) (hcl:∀ x,x<p.length→bt sn0 (lF p x)=true→bt sn0 x=true) (hb:bt sn k=true) (hc:c≠[]):yL1 p c:=by
  have hc0:0<c.length:=eF.2 hc;have hlast:lF c (c.length-1)∈c:=by rw [qI (by omega)];exact aH _
  have hki:k=lF c 0:=by
    have hnx:=h.nx hc;rcases (h.sn k h.k).1 hb with h1 | h1
    · rw [hnx] at h1;have:=hcl _ (h.lt _ hlast) h1;rw [h.new _ hlast] at this;cases this
    · obtain ⟨j,hj,e⟩:=kM.1 h1;rw [← qI hj] at e;cases j with
      | zero=>exact e.symm
      | succ j=>
        have h2:=h.st j hj;rw [e,hnx] at h2;have hjm:lF c j∈c:=by rw [qI (by omega)];exact aH _
        have h3:=r.inj (h.lt _ hlast) (h.lt _ hjm) h2;rw [qI (by omega),qI (by omega)] at h3
        have hp:=lG.1 h.nd;exact absurd h3.symm (hp j (c.length-1) (by omega) (by omega) (by omega))
  refine ⟨hc,h.nd,h.lt,fun j hj=>?_⟩
  by_cases e:j+1<c.length
  · rw [Nat.mod_eq_of_lt e,h.st j e]
  · have:j=c.length-1:=by omega
    rw [show j+1=c.length by omega,Nat.mod_self,← hki,h.nx hc,this]
theorem BE {c:List Nat}(h:c.Nodup){i j:Nat}(hi:i<c.length) (hj:j<c.length) (e:lF c i=lF c j):i=j:=by
  rw [qI hi,qI hj] at e;have h:=lG.1 h;rcases Nat.lt_trichotomy i j with h1 | h1 | h1
  · exact absurd e (h i j hi hj h1)
  · exact h1
  · exact absurd e.symm (h j i hj hi h1)
def yI0:Nat→Nat
  | 0=>1
  | n+1=>yI0 n*(n+1)
abbrev Up (l:List Nat):Prop:=l.Pairwise (· < ·)
theorem Rt.perm {p:List Nat}(r:Rt p):p.Perm (List.range p.length):=
  (List.perm_ext_iff_of_nodup r.nd CQ).2 fun x=>by rw [dD];exact ⟨r.lt x,r.mem⟩
theorem zJ1 {p:List Nat}{n:Nat}(h:p.Perm (List.range n)):p.length=n∧Rt p:=by
  have hl:p.length=n:=by rw [h.length_eq,zG4]
  exact ⟨hl,h.nodup_iff.2 CQ,fun x hx=>by rw [hl];exact dD.1 (h.mem_iff.1 hx)⟩
end Go.Pm
namespace Go.Pm
open Go.Ab
def permB (p:List Int):Bool:=decide (jD p=nats (List.range p.length))
theorem le_tr:∀ (a b c:Int),decide (a≤b)=true→decide (b≤c)=true→decide (a≤c)=true:=fun a b c h1 h2=>by simp at *;omega
theorem zW7:∀ (a b:Int),(decide (a≤b)||decide (b≤a))=true:=fun a b=>by simp;omega
theorem sorted_perm (p:List Int):(jD p).Perm p:=List.mergeSort_perm _ _
theorem sorted_up (p:List Int):(jD p).Pairwise (fun a b=>a≤b):=
  (CO le_tr zW7 p).imp (fun h=>by simpa using h)
theorem KS (q:List Nat):(nats q).length=q.length:=aF _
theorem TY {q r:List Nat}(h:q.Perm r):(nats q).Perm (nats r):=h.map _
theorem sorted_eq {p q:List Int}(h:p.Perm q) (hq:q.Pairwise (fun a b=>a≤b)):jD p=q:=
  List.Perm.eq_of_pairwise (le:=fun a b=>a≤b) (fun a b _ _ h1 h2=>by omega) (sorted_up p) hq ((sorted_perm p).trans h)
theorem range_le (n:Nat):(nats (List.range n)).Pairwise (fun a b=>a≤b):=
  List.Pairwise.map _ (fun a b h=>by omega) (qA (n:=n))
theorem NU {q:List Nat}(r:Rt q):permB (nats q)=true:=by
  unfold permB;rw [decide_eq_true_eq,KS];exact sorted_eq (TY r.perm) (range_le _)
theorem OE (q:List Nat):(nats q).map Int.toNat=q:=by
  rw [sK]
  conv=>rhs;rw [← rZ q]
  rfl
theorem YF {p:List Int}(h:permB p=true):∃ q,Rt q∧p=nats q:=by
  unfold permB at h;rw [decide_eq_true_eq] at h;have hp:p.Perm (nats (List.range p.length)):=by rw [← h];exact (sorted_perm p).symm
  have e:p=nats (p.map Int.toNat):=by
    show p=(p.map Int.toNat).map _;rw [sK]
    conv=>lhs;rw [← rZ p]
    refine iG fun x hx=>?_
    obtain ⟨k,_,rfl⟩:=bE.1 (hp.mem_iff.1 hx);rfl
  have hq:(p.map Int.toNat).Perm (List.range p.length):=by
    have:=hp.map Int.toNat
    rwa [OE] at this
  exact ⟨_,(zJ1 hq).2,e⟩
end Go.Pm
namespace Go.Proofs.YtmmkhmilpeodnaaGreat
open Go Go.Ab
abbrev ints (l:List Int):List (List AV):=l.map fun n=>[AV.i n]
theorem ints_len (l:List Int):∀ e,e∈ints l→e.length=1:=by intro e he;obtain ⟨n,_,rfl⟩:=bE.1 he;rfl
theorem mN {l:List Int}{k:Nat}(h:k<l.length):(ints l)[k]? = some [AV.i l[k]]:=by simp [h]
abbrev BX:=Int × Int × Int
abbrev LT:=Int × Int × Bool
abbrev KD:=ByteArray × Int
abbrev eB (l:List BX):List (List AV):=l.map fun b=>[AV.i b.1,AV.i b.2.1,AV.i b.2.2]
abbrev iS (l:List LT):List (List AV):=l.map fun b=>[AV.i b.1,AV.i b.2.1,AV.b b.2.2]
abbrev fQ (l:List KD):List (List AV):=l.map fun b=>[AV.v (.string b.1),AV.i b.2]
theorem jM (l:List BX):∀ e,e∈eB l→e.length=3:=by intro e he;obtain ⟨n,_,rfl⟩:=bE.1 he;rfl
theorem oU (l:List LT):∀ e,e∈iS l→e.length=3:=by intro e he;obtain ⟨n,_,rfl⟩:=bE.1 he;rfl
theorem nK (l:List KD):∀ e,e∈fQ l→e.length=2:=by intro e he;obtain ⟨n,_,rfl⟩:=bE.1 he;rfl
theorem wJ {l:List BX}{k:Nat}(h:k<l.length):(eB l)[k]? = some [AV.i l[k].1,AV.i l[k].2.1,AV.i l[k].2.2]:=by simp [h]
theorem vZ {l:List LT}{k:Nat}(h:k<l.length):(iS l)[k]? = some [AV.i l[k].1,AV.i l[k].2.1,AV.b l[k].2.2]:=by simp [h]
theorem tE {l:List KD}{k:Nat}(h:k<l.length):(fQ l)[k]? = some [AV.v (.string l[k].1),AV.i l[k].2]:=by simp [h]
abbrev C9 (m st er sl:Int):AV:=.agg [.i m,.i st,.i er,.i sl]
abbrev WR (k a b n:Int) (ids:List Int):AV:=.agg [.i k,.i a,.i b,.i n,.rowE (ints ids) 1]
theorem mB {a b:Bool}(h:a=b):AV.b a=AV.b b:=by rw [h]
def fF (n f t:Int):Bool:=decide (f≤n)&&decide (n≤t)
def xM:List Int→Int→Int→Int
  | [],_,_=>-1
  | x::r,v,k=>if v=x then k else xM r v (k+1)
theorem LD:∀ (l:List Int) (v k:Int),0≤k→(0≤xM l v k↔v∈l)
  | [],v,k,_=>by simp [xM]
  | x::r,v,k,hk=>by
    simp only [xM];split
    · rename_i e;subst e;simp [hk]
    · rename_i e;rw [LD r v (k+1) (by omega)]
      simp [e]
theorem UH {l:List Int}{v:Int}{k:Nat}(h:k<l.length):xM (l.drop k) v k=if v=l[k] then (k:Int) else xM (l.drop (k+1)) v ((k+1:Nat):Int):=by
  rw [bB h];simp [xM]
structure yF7 (ks:List KD) (ls:List LT) (ps:List Int) (bs:List BX):Prop where
  n1:1≤ps.length
  n8:ps.length≤8
  len:ps.length=bs.length
  k10:ks.length≤10
  l10:ls.length≤10
  k:∀ (i:Nat) (h:i<ks.length),0≤ks[i].2∧ks[i].2≤1048576
  l:∀ (i:Nat) (h:i<ls.length),0≤ls[i].1∧ls[i].1<ks.length
  p:∀ (i:Nat) (h:i<ps.length),0≤ps[i]∧ps[i]<ps.length
  b:∀ (i:Nat) (h:i<bs.length),-1≤bs[i].1∧bs[i].1<ls.length∧0≤bs[i].2.1∧bs[i].2.1≤20000∧(bs[i].1 = -1→bs[i].2.1=0)∧0≤bs[i].2.2∧bs[i].2.2≤1073741824
def nX (m st er sl:Int):Prop:=0≤m∧m≤1048576∧0≤st∧st≤1048576∧0≤er∧er≤1048576∧0≤sl∧sl≤1048576
def nE (ks:List KD) (ls:List LT) (lot:Int):Int:=if lot<0 then 0 else (ks.getD (ls.getD lot.toNat (0,0,false)).1.toNat (⟨#[]⟩,0)).2
theorem zH5 {ks:List KD}{ls:List LT}{ps:List Int}{bs:List BX}(f:yF7 ks ls ps bs){lot:Int}(h:lot<ls.length):0≤nE ks ls lot∧nE ks ls lot≤1048576:=by
  unfold nE;split
  · omega
  · have hl:lot.toNat<ls.length:=by omega
    have h1:=f.l lot.toNat hl;have hk:ls[lot.toNat].1.toNat<ks.length:=by omega
    have h2:=f.k _ hk;simp only [List.getD,aA hl,lM,aA hk];exact h2
def zT1 (st id k:Int) (ids:List Int):Int:=if k=0 then (if (ids.length:Int)-(if id∈ids then 1 else 0) > st then 0 else if id∈ids then 0 else 1) else 0
def VE (st er sl id ct w k n:Int) (ids:List Int):Bool:=
  if k=0 then decide ((ids.length:Int)-(if id∈ids then 1 else 0)≤st)
  else if k=1 then fF w (n-er) (n+er)
  else if k=2 then decide (n-sl≤ct)
  else if k=3 then decide (n=ct)
  else if k=5 then decide (n=id)
  else true
def VA (sl ct k n done:Int):Bool:=if k=2 then fF done 0 ct&&fF done (n-sl) (n+sl) else if k=4 then decide (done=0)||decide (done=1) else decide (done=0)
def zX (l:List Int) (n:Int) (i:Nat):Prop:=0≤l.getD i 0∧l.getD i 0≤n-1∧(0<i→l.getD (i-1) 0<l.getD i 0)
open Classical in
noncomputable def CE (l:List Int) (n:Int):Bool:=decide (∀ i,i<l.length→zX l n i)
end Go.Proofs.YtmmkhmilpeodnaaGreat
namespace Go.Proofs.YtmmkhmilpeodnaaGreat
open Go Go.Ab
attribute [local irreducible] VC AW bX aT
set_option maxHeartbeats 4000000
theorem lH (n f t:Int):aT Tryz.prog 69 [.i n,.i f,.i t] [] (.b (fF n f t)) []:=by
  refine bK T Tryz.func69 rfl rfl rfl rfl ?_
  (repeat' (first|refine wS ?_|refine wR ?_|(refine rg 0 (aV ?_))|(refine rg 1 (dK rfl (vV (gH rfl rfl) (mV ?_)));refine bC rfl rfl ?_ ?_<;>(intro hb;rw [hb];(try simp only [nm] at hb);try (exfalso;omega));(all_goals first|(refine gT (mW rfl (gT (mW rfl (gT (vV (lA rfl rfl) ?_))))))|(iterate 3 refine gF ?_));(all_goals (refine pW rfl (aV ?_))))|refine nZ ?_));all_goals
    refine cH (.inl rfl) rfl (mB ?_);simp [fF];try omega
theorem xK (l:List Int) (v:Int) (hl:l.length≤9223372036854775807):aT Tryz.prog 46 [.rowE (ints l) 1,.i v] [] (.i (xM l v 0)) []:=by
  have hlen:(ints l).length=l.length:=by simp
  refine bK T Tryz.func46 rfl rfl rfl rfl ?_
  (repeat' (first|refine wS ?_|refine wB ?_|(refine rg 0 (aV ?_))|(refine rg 1 (mW rfl (qW T rfl (mV ?_))))|refine nZ ?_));refine cO (X:={k:Nat // k≤l.length∧xM l v 0=xM (l.drop k) v k}) (fun k=>[(0,.rowE (ints l) 1),(1,.i v),(7,.i (ints l).length),(8,.i k.1)]) (fun _=>[]) (fun k=>l.length-k.1) ⟨0,by simp,rfl⟩ (fA []) ?_
  rintro ⟨k,hk,hf⟩;dsimp only;by_cases hlt:k<l.length
  · have hd:=UH (v:=v) hlt
    repeat' (first|refine wS ?_|refine wB ?_|refine wK ?_|refine wR ?_|(refine wC rfl ?_ ?_<;>(intro hb;(try simp only [nm] at hb);try (exfalso;omega)))|(refine rg 2 (vV (aI rfl rfl) ?_))|(refine rg 3 (mW rfl (aV ?_)))|(refine rg 4 (dK rfl (mW rfl (vV (ix T rfl (by omega) (ints_len l) (mN (k:=k) (by omega))) (lW T rfl (vV (eQ rfl rfl) ?_))))))|(refine rg 5 (mW rfl (aV ?_)))|(refine rg 6 (vV (bY rfl rfl (by omega) (by omega)) (mV ?_)))|refine nZ ?_)
    · refine cH (.inl rfl) rfl ?_;rw [hf,hd,if_pos hb];rfl
    · refine ⟨⟨k+1,by omega,?_⟩,by dsimp only;omega,fA []⟩
      rw [hf,hd,if_neg hb]
  · (repeat' (first|refine wS ?_|refine wR ?_|refine wE ?_|(refine wC rfl (fun hb=>?_) (fun hb=>?_) <;> (((try simp only [nm] at hb);try (exfalso;omega))))|(refine rg 2 (vV (aI rfl rfl) ?_))|(refine rg 7 (aV ?_))|(refine nZ ?_)));refine cH (.inl rfl) rfl ?_
    rw [hf,dJ (by omega)];rfl
theorem BT (l:List Int) (v:Int) (hl:l.length≤9223372036854775807):aT Tryz.prog 71 [.rowE (ints l) 1,.i v] [] (.b (decide (v∈l))) []:=by
  refine bK T Tryz.func71 rfl rfl rfl rfl ?_
  (repeat' (first|refine wS ?_|refine wR ?_|(refine rg 0 (aV ?_))|(refine rg 1 (dK rfl (vV (kC (xK l v hl)) (vV (gH rfl rfl) (aV ?_)))))|refine nZ ?_));refine cH (.inl rfl) rfl (mB ?_)
  rw [jP];simp only [decide_eq_true_eq];exact LD l v 0 (by omega)
theorem zU2 {ks:List KD}{ls:List LT}{ps:List Int}{bs:List BX}(f:yF7 ks ls ps bs){lot:Int}(h:lot<ls.length):aT Tryz.prog 72 [.rowE (fQ ks) 2,.rowE (iS ls) 3,.i lot] [] (.i (nE ks ls lot)) []:=by
  by_cases h0:lot<0
  · refine bK T Tryz.func72 rfl rfl rfl rfl ?_
    (repeat' (first|refine wS ?_|refine wR ?_|(refine wC rfl ?_ ?_<;>(intro hb;(try simp only [nm] at hb);try (exfalso;omega)))|(refine rg 0 (aV ?_))|(refine rg 1 (mW rfl (vV (aI rfl rfl) ?_)))|(refine rg 2 (aV ?_))|refine nZ ?_));refine cH (.inl rfl) rfl ?_
    unfold nE;rw [if_pos h0];rfl
  · have hl:lot.toNat<ls.length:=by omega
    have h1:=f.l lot.toNat hl;have hk:ls[lot.toNat].1.toNat<ks.length:=by omega
    have hkl:(fQ ks).length=ks.length:=by simp
    have hll:(iS ls).length=ls.length:=by simp
    have e:nE ks ls lot=ks[ls[lot.toNat].1.toNat].2:=by
      unfold nE;rw [if_neg h0];simp only [List.getD,aA hl,lM,aA hk]
    refine bK T Tryz.func72 rfl rfl rfl rfl ?_
    (repeat' (first|refine wS ?_|refine wK ?_|refine wR ?_|(refine wC rfl ?_ ?_<;>(intro hb;(try simp only [nm] at hb);try (exfalso;omega)))|(refine rg 0 (aV ?_))|(refine rg 1 (mW rfl (vV (aI rfl rfl) ?_)))|(refine rg 3 (dK rfl (mW rfl (vV (ix T rfl (by omega) (oU ls) (vZ hl)) (gB T rfl (vV (ix T rfl (by omega) (nK ks) (tE hk)) (gB T rfl (aV ?_))))))))|refine nZ ?_));refine cH (.inl rfl) rfl ?_
    rw [e];rfl
theorem K9 (l:List Int):(ints l).flatten.all AV.one=true:=by
  rw [bF];intro x hx;obtain ⟨e,he,hx⟩:=List.mem_flatten.1 hx;obtain ⟨p,_,rfl⟩:=bE.1 he;simp at hx;subst hx;rfl
theorem ints_idf (l:List Int):∀ e,e∈ints l→AV.idfL e=true:=by
  intro e he;obtain ⟨i,_,rfl⟩:=bE.1 he;rfl
theorem FE (l:List BX):∀ e,e∈eB l→AV.idfL e=true:=by
  intro e he;obtain ⟨i,_,rfl⟩:=bE.1 he;rfl
section
variable {ks:List KD}{ls:List LT}{ps:List Int}{bs:List BX}{m st er sl k a b n id lot ct ta done:Int}{ids:List Int}{M:Int}
end
end Go.Proofs.YtmmkhmilpeodnaaGreat
