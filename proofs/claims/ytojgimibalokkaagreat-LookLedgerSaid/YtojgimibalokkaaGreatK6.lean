/-
  Texts of the logic and of the layer,in one module (part 6).
-/
import Derived.Test.YtojgimibalokkaaGreatK5
import Derived.Shelf.Spec.SlicesGrow
import Derived.Ground.Names8Prog
set_option linter.unusedVariables false
set_option linter.unusedSimpArgs false
set_option linter.unnecessarySimpa false
namespace Go.Ld
open Go.Ab Go.Proofs.YtojgimibalokkaaGreat
def zI (g:G):Int:=match gX g with
  | some k=>(k:Int)
  | none=>-1
theorem KH {g:G}(h:g.1.length<2∨g.2=[]):zI g = -1:=by unfold zI gX;rw [if_pos h]
theorem ZN {g:G}{k:Nat}(h:¬ (g.1.length<2∨g.2=[])) (hk:k<g.1.length) (h1:∀ j,j<k→yJ g j=false) (h2:yJ g k=true):zI g=k:=by
  unfold zI gX;rw [if_neg h,List.find?_range_eq_some.2 ⟨h2,by simpa using hk,fun j hj=>by simp [h1 j hj]⟩]
theorem UG {g:G}(h:¬ (g.1.length<2∨g.2=[])) (h1:∀ j,j<g.1.length→yJ g j=false):zI g = -1:=by
  unfold zI gX;rw [if_neg h,List.find?_range_eq_none.2 (fun j hj=>by simp [h1 j hj])]
def EA (f:W) (i:Nat) (w:W):Bool:=!decide (gP w i=gP f i∧gC w i=gC f i)
theorem LV {bs:List Int}{f:W}{l:List W}{i:Nat}:yJ (bs,f::l) i = !(f::l).any (EA f i):=by
  show (f::l).all (fun w=>decide (gP w i=gP f i∧gC w i=gC f i))=_;rw [List.not_any_eq_all_not];congr 1;funext w;simp [EA]
end Go.Ld
namespace Go.Proofs.YtojgimibalokkaaGreat
open Go Go.Ab Go.Ld
attribute [local irreducible] VC AW cF aP vU
set_option maxHeartbeats 4000000
theorem yD0:vU Tryz.prog 100 2:=by unfold vU;kernel_rfl
theorem NE (w f:W){i:Nat}(h1:i<w.1.length) (h2:i<w.2.2.length) (h3:i<f.1.length) (h4:i<f.2.2.length) (hs:K0 w) (hf:K0 f) :
    aP Tryz.prog 111 [CG w,.pr [.i i] 0,.pr (wA f) 0] [] (.b (EA f i w)) []:=by
  obtain ⟨p,m,c⟩:=w;obtain ⟨p',m',c'⟩:=f;dsimp only at h1 h2 h3 h4;unfold K0 at hs hf;dsimp only at hs hf;have hlp:(ints p).length=p.length:=dH _;have hlp':(ints p').length=p'.length:=dH _;have hlc:(fI c).length=c.length:=iE _;have hlc':(fI c').length=c'.length:=iE _;have q1:=nK (l:=p) (j:=(i:Int)) (i:=i) 0 h1 rfl;have q2:=nK (l:=p') (j:=(i:Int)) (i:=i) 0 h3 rfl;have q3:=uS (l:=c) (j:=(i:Int)) (i:=i) h2 rfl;have q4:=uS (l:=c') (j:=(i:Int)) (i:=i) h4 rfl;have hd:EA (p',m',c') i (p,m,c) = !decide (p.getD i 0=p'.getD i 0∧c.getD i (0,0)=c'.getD i (0,0)):=rfl;rw [hd];generalize p.getD i 0=x at *;generalize p'.getD i 0=y at *;generalize hr:c.getD i (0,0)=r at *;generalize hr':c'.getD i (0,0)=r' at *;obtain ⟨a,b⟩:=r;obtain ⟨a',b'⟩:=r';dsimp only at q3 q4;by_cases h:x=y
  · rw [show (!decide (x=y∧(a,b)=(a',b'))) = !decide (a=a'∧b=b') by simp [h]]
    refine bL T Tryz.func111 rfl rfl rfl rfl ?_
    (repeat' (first|refine wS ?_|refine wR ?_|(refine rg 0 (bS (bZ rfl rfl) rfl (aV ?_)))|(refine bO (id:=1) 29 yN4 (rM 5 24) yN5 cK rfl (by decide +kernel) (dP T rfl (dO T rfl (dO T rfl (dV rfl (ix T rfl (by omega) (ints_len p) q1) (dO T rfl (dP T rfl (dO T rfl (dO T rfl (dV rfl (ix T rfl (by omega) (ints_len p') q2) ?_)))))))));refine dO T rfl (dV rfl (I3 rfl rfl h) (dN rfl (tP T rfl (tO T rfl (tO T rfl (dT rfl (ix T rfl (by omega) (lB c) q3) (tO T rfl (tP T rfl (tL T ?_)))))))));refine tO T rfl (dT rfl (ix T rfl (by omega) (lB c') q4) (tO T rfl (dT rfl (zL8 yD0 rfl rfl) (dV rfl (oU rfl rfl) (dE ?_)))));refine aV ?_)|refine nZ ?_));all_goals first | (exfalso;omega) | exact rQ
  · rw [show (!decide (x=y∧(a,b)=(a',b')))=true by simp [h]]
    refine bL T Tryz.func111 rfl rfl rfl rfl ?_
    (repeat' (first|refine wS ?_|refine wR ?_|(refine rg 0 (bS (bZ rfl rfl) rfl (aV ?_)))|(refine bO (id:=1) 29 yN4 (rM 5 24) yN5 cK rfl (by decide +kernel) (dP T rfl (dO T rfl (dO T rfl (dV rfl (ix T rfl (by omega) (ints_len p) q1) (dO T rfl (dP T rfl (dO T rfl (dO T rfl (dV rfl (ix T rfl (by omega) (ints_len p') q2) ?_)))))))));refine dO T rfl (dV rfl (T8 rfl rfl h) (dN rfl (tG rfl (tG rfl (tG rfl (tG rfl (tG rfl (tG rfl (dG ?_)))))))));refine tG rfl (tG rfl (tG rfl (tG rfl (dV rfl (mF rfl rfl) (dE ?_)))));refine aV ?_)|refine nZ ?_));all_goals first | (exfalso;omega) | exact rQ
structure yB1 (g:G):Prop where
  b:g.1.length≤1000
  w:g.2.length≤1000000
  p:∀ w,w∈g.2→w.1.length=g.1.length
  c:∀ w,w∈g.2→w.2.2.length=g.1.length
theorem yB1.sm {g:G}(h:yB1 g){w:W}(hw:w∈g.2):K0 w:=⟨by have:=h.p w hw;have:=h.b;omega,by have:=h.c w hw;have:=h.b;omega⟩
theorem UF (g:G) (hs:yB1 g):aP Tryz.prog 78 [UQ g] [] (.i (zI g)) []:=by
  have hsz:=hs;obtain ⟨bs,ws⟩:=g;obtain ⟨hb,hw,hp,hc⟩:=hs;dsimp only at hb hw hp hc;have hlb:(ints bs).length=bs.length:=dH _;have hlw:(wsA ws).length=ws.length:=eZ _;by_cases h0:bs.length<2
  · rw [KH (.inl h0)];refine bL T Tryz.func78 rfl rfl rfl rfl ?_
    (repeat' (first|refine wS ?_|refine wR ?_|refine wT ?_|(refine rg 0 (bS (bZ rfl rfl) rfl (aV ?_)))|(refine rg 1 (fR T rfl (qW T rfl (vV (aK rfl rfl) (mV ?_))));refine aY rfl rfl ?_ ?_<;>(intro hb;rw [hb];(try simp only [nm] at hb);try (exfalso;omega));(all_goals ((iterate 4 refine gF ?_);refine pV ?_)))|(refine rg 2 (aV ?_))|refine nZ ?_));all_goals first | (exfalso;omega) | exact rQ
  · cases ws with
    | nil=>
      rw [KH (.inr rfl)];refine bL T Tryz.func78 rfl rfl rfl rfl ?_
      (repeat' (first|refine wS ?_|refine wR ?_|refine wT ?_|(refine rg 0 (bS (bZ rfl rfl) rfl (aV ?_)))|(refine rg 1 (fR T rfl (qW T rfl (vV (aK rfl rfl) (mV ?_))));refine aY rfl rfl ?_ ?_<;>(intro hb;rw [hb];(try simp only [nm] at hb);try (exfalso;omega));(all_goals (refine yP T rfl (yO T rfl (gT (qW T rfl (yV (bW rfl rfl) (pV ?_))))))))|(refine rg 2 (aV ?_))|refine nZ ?_));all_goals first | (exfalso;omega) | exact rQ
    | cons f l=>
      have hn:¬ (bs.length<2∨f::l=[]):=by rintro (h | h);exact h0 h;cases h
      have hg0:(wsA (f::l))[(0:Int).toNat]? = some (wA f):=rfl;have hl1:(wsA (f::l)).length=l.length+1:=by simp
      refine bL T Tryz.func78 rfl rfl rfl rfl ?_
      (repeat' (first|refine wS ?_|refine wB ?_|refine wK ?_|refine wU ?_|(refine rg 0 (bS (bZ rfl rfl) rfl (aV ?_)))|(refine rg 1 (fR T rfl (qW T rfl (vV (aK rfl rfl) (mV ?_))));refine aY rfl rfl ?_ ?_<;>(intro hb;rw [hb];(try simp only [nm] at hb);try (exfalso;omega));(all_goals (refine yP T rfl (yO T rfl (gT (qW T rfl (yV (bW rfl rfl) (pV ?_))))))))|(refine rg 3 (fR T rfl (qW T rfl (mV ?_))))|refine nZ ?_));all_goals try (exfalso;omega)
      all_goals refine cX (X:={k:Nat // k≤bs.length∧∀ j,j<k→yJ (bs,f::l) j=false}) (fun k=>[(1,.ptr 0 0),(17,.i (ints bs).length),(18,.i k.1)]) (fun _=>[.cells [.rowE (ints bs) 1,.rowE (wsA (f::l)) 3]]) (fun k=>bs.length-k.1) ⟨0,cC _,fun j hj=>absurd hj (cW _)⟩ (fU [0]) ?_
      all_goals rintro ⟨k,hk,hj⟩
      all_goals dsimp only
      all_goals by_cases hlt:k<bs.length
      · have hlf:k<f.1.length:=by rw [hp f aR];exact hlt
        have hlf2:k<f.2.2.length:=by rw [hc f aR];exact hlt
        have hcc:=zX3 (caps:=[.pr [.i k] 0,.pr (wA f) 0]) (p:=EA f k) (l:=f::l) hw rfl (fun x hx=>NE x f (by rw [hp x hx];exact hlt) (by rw [hc x hx];exact hlt) hlf hlf2 (hsz.sm hx) (hsz.sm aR))
        have hsa:=LV (bs:=bs) (f:=f) (l:=l) (i:=k);cases hany:(f::l).any (EA f k) with
        | false=>
          rw [hany] at hcc hsa;have hci:=ZN hn hlt hj hsa;rw [hci]
          (repeat' (first|refine wS ?_|refine wB ?_|refine wK ?_|refine wR ?_|refine wT ?_|(refine wC rfl ?_ ?_<;>(intro hb;(try simp only [nm] at hb);try (exfalso;omega)))|(refine rg 4 (vV (aK rfl rfl) ?_))|(refine rg 5 (mW rfl (bS (bM T rfl) rfl (aU T rfl rfl rfl rfl rfl rfl (by decide) rfl ?_))))|(refine rg 6 (fR T rfl (vV (ix T rfl (by omega) (nH _) hg0) (lW T rfl (bS (bM T rfl) rfl (aU T rfl rfl rfl rfl rfl rfl (by decide) rfl ?_))))))|(refine rg 7 (fR T rfl (vV (by exact gI rfl rfl) ?_));refine vV (by exact eC rfl rfl hcc (.cons (.row _ _ _) (.cons (.clo .nil (.cons (.ptr rfl (.cons (.v _) .nil)) (.cons (.ptr rfl (.cons (.row _ _ _) (.cons (.v _) (.cons (.row _ _ _) .nil)))) .nil))) .nil)) rfl rfl) ?_;refine vV (cT rfl) ?_)|(refine rg 8 (lW T rfl (aV ?_)))|refine nZ ?_));all_goals first | (exfalso;omega) | exact rQ
        | true=>
          rw [hany] at hcc hsa
          (repeat' (first|refine wS ?_|refine wB ?_|refine wK ?_|refine wU ?_|(refine wC rfl ?_ ?_<;>(intro hb;(try simp only [nm] at hb);try (exfalso;omega)))|(refine rg 4 (vV (aK rfl rfl) ?_))|(refine rg 5 (mW rfl (bS (bM T rfl) rfl (aU T rfl rfl rfl rfl rfl rfl (by decide) rfl ?_))))|(refine rg 6 (fR T rfl (vV (ix T rfl (by omega) (nH _) hg0) (lW T rfl (bS (bM T rfl) rfl (aU T rfl rfl rfl rfl rfl rfl (by decide) rfl ?_))))))|(refine rg 7 (fR T rfl (vV (by exact gI rfl rfl) ?_));refine vV (by exact eC rfl rfl hcc (.cons (.row _ _ _) (.cons (.clo .nil (.cons (.ptr rfl (.cons (.v _) .nil)) (.cons (.ptr rfl (.cons (.row _ _ _) (.cons (.v _) (.cons (.row _ _ _) .nil)))) .nil))) .nil)) rfl rfl) ?_;refine vV (cT rfl) ?_)|(refine rg 9 (vV (bP rfl rfl (by omega) (by omega)) (mV ?_)))|refine nZ ?_));all_goals first | (exfalso;omega) | skip
          all_goals exact ⟨⟨k+1,by omega,fun j hjk=>(iR j k).elim (hj j) (fun h=>by obtain rfl:j=k:=(by omega);exact hsa)⟩,by dsimp only;omega,fU [0]⟩
      · rw [UG hn (fun j hjl=>hj j (by dsimp only at hjl;omega))]
        (repeat' (first|refine wS ?_|refine wR ?_|refine wE ?_|(refine wC rfl ?_ ?_<;>(intro hb;(try simp only [nm] at hb);try (exfalso;omega)))|(refine rg 4 (vV (aK rfl rfl) ?_))|(refine rg 10 (aV ?_))|refine nZ ?_));all_goals first | (exfalso;omega) | exact rQ
end Go.Proofs.YtojgimibalokkaaGreat
namespace Go.Ld
open Go.Ab Go.Proofs.YtojgimibalokkaaGreat
theorem I6 {α:Type}(l:List α) (k:Nat):l.take k++l.drop (k+1)=l.eraseIdx k:=(List.eraseIdx_eq_take_drop_succ l k).symm
end Go.Ld
namespace Go.Proofs.YtojgimibalokkaaGreat
open Go Go.Ab Go.Ld
attribute [local irreducible] VC AW cF aP vU kG
set_option maxHeartbeats 4000000
theorem zF5 (g:G){k:Nat}(hs:yB1 g) (hk:k<g.1.length) (h2:2≤g.1.length) (hne:g.2≠[]) (hsm:g.2.length≤100000) :
    aP Tryz.prog 79 [UQ g,.i k] [] (.tup [UQ (mY g k),UQ (jY g k)]) []:=by
  have hsz:=hs;obtain ⟨bs,ws⟩:=g;obtain ⟨hb,hw,hp,hc⟩:=hs;dsimp only at hb hw hp hc hk h2 hsm;cases ws with
  | nil=>exact absurd rfl hne
  | cons f l=>
  have hlb:(ints bs).length=bs.length:=dH _;have hf1:=hp f aR;have hf2:=hc f aR;have hlp:(ints f.1).length=f.1.length:=dH _;have hlc:(fI f.2.2).length=f.2.2.length:=iE _;have hg0:(wsA (f::l))[(0:Int).toNat]? = some (wA f):=rfl;have hl1:(wsA (f::l)).length=l.length+1:=by simp
  have q1:=nK (l:=bs) (j:=(k:Int)) (i:=k) 0 hk rfl;have q2:=nK (l:=f.1) (j:=(k:Int)) (i:=k) 0 (by omega) rfl
  have q3:=uS (l:=f.2.2) (j:=(k:Int)) (i:=k) (by omega) rfl
  have cl:=J4 bs (by omega)
  have dl:=ZE bs k (k+1) (by omega) (by omega) (by intro h;rw [h] at hk;simp at hk)
  rw [I6,show bs.length-(k+1-k)=bs.length-1 by omega,show ((k+1:Nat):Int)=(k:Int)+1 by omega] at dl
  have hel:(bs.eraseIdx k).length=bs.length-1:=by rw [fJ,if_pos hk]
  obtain ⟨L,hL⟩:∃ L,f::l=L:=⟨_,rfl⟩;have hp':∀ w,w∈L→w.1.length=bs.length:=by rw [← hL];exact hp
  have hc':∀ w,w∈L→w.2.2.length=bs.length:=by rw [← hL];exact hc
  have hsm':L.length≤100000:=by rw [← hL];exact hsm
  have hsz':∀ w,w∈L→K0 w:=by rw [← hL];exact fun w h=>hsz.sm h
  obtain ⟨R,hR⟩:∃ R,R=L.map (zN7 k):=⟨_,rfl⟩;have hor:jY (bs,f::l) k=(bs.eraseIdx k,fN R):=by rw [hR,← hL];rfl
  rw [hor]
  have ho:=DD R (by rw [hR,aX];exact hsm') (fun w hw'=>by
    rw [hR] at hw';obtain ⟨v,hv,rfl⟩:=bB.1 hw';have h1:=hp' v hv;have h2:=hc' v hv;unfold K0 zN7;dsimp only;rw [fJ,fJ]
    constructor <;> split <;> omega)
  refine xK (res:=.tup [.agg [.sl 0 0 1 1,.sl 3 0 1 3],.agg [.rowE (ints (bs.eraseIdx k)) 1,.rowE (wsA (fN R)) 3]]) (hout:=[.arr (ints [bs.getD k 0]) 1,.arr (ints [f.1.getD k 0]) 1,.arr (fI [f.2.2.getD k (0,0)]) 2,.arr [[.sl 1 0 1 1,.i 0,.sl 2 0 1 2]] 3]) ?_ (.tup (.cons (.agg (.cons (zU rfl rfl) (.cons (.sl rfl (by decide) (.cons (zU rfl rfl) (.cons (.v _) (.cons (E0 rfl rfl) .nil)))) .nil))) (.cons (.agg (.cons (.row _ _ _) (.cons (.row _ _ _) .nil))) .nil)))
  generalize bs.getD k 0=x1 at *;generalize f.1.getD k 0=x2 at *;generalize hr:f.2.2.getD k (0,0)=r at *;obtain ⟨a1,a2⟩:=r;dsimp only at q3;refine bL T Tryz.func79 rfl rfl rfl rfl ?_
  (repeat' (first|refine wS ?_|(refine rg 0 (bS (bZ rfl rfl) rfl (bS (bM T rfl) rfl (bS (bM T rfl) rfl ?_))))|(refine rg 1 (fR T rfl (vV (ix T rfl (by omega) (nH _) hg0) (lW T rfl (bS (bM T rfl) rfl (aU T rfl rfl rfl rfl rfl rfl (by decide) rfl ?_))))))|(refine bO (id:=2) 78 [[],[0],[],[0,1,2],rN 4,rN 5,[],[6],[],[6,7,8],rM 6 4,rM 6 5,[],[12],[],[12,13,14],rM 12 4,rM 12 5,rM 6 12,rM 6 13,rN 20] (rM 13 21) [[],[],[13,14],[],[],[],rM 13 6,rM 13 6,rM 13 8,rM 13 6,rM 13 6,rM 13 6,rM 13 12,rM 13 12,rM 13 14,rM 13 12,rM 13 12,rM 13 12,rM 13 6,rM 13 6,[]] cK rfl (by decide +kernel) (dP T rfl (dO T rfl (dN rfl (dV rfl (ix T rfl (by omega) (ints_len bs) q1) (dO T rfl (uL rfl rfl rfl (by exact bF T rfl rfl (by decide) (by decide) rfl rfl rfl) rfl ?_))))));refine dP T rfl (dO T rfl (dN rfl (dV rfl (ix T rfl (by omega) (ints_len f.1) q2) (dO T rfl (uL rfl rfl rfl (by exact bF T rfl rfl (by decide) (by decide) rfl rfl rfl) rfl ?_)))));refine dP T rfl (dO T rfl (dN rfl (dV rfl (ix T rfl (by omega) (lB f.2.2) q3) (dO T rfl (uL rfl rfl rfl (by exact bF T rfl rfl (by decide) (by decide) rfl rfl rfl) rfl ?_)))));refine dV rfl (by exact gG T rfl rfl rfl rfl) ?_;refine uL rfl rfl rfl (by exact bF T rfl rfl (by decide) (by decide) rfl rfl rfl) rfl ?_;refine dV rfl (by exact gG T rfl rfl rfl rfl) ?_;refine dE ?_;refine aU T rfl rfl rfl rfl rfl rfl (by decide) rfl ?_)|(refine rg 3 (fR T rfl (bS (by exact hO rfl rfl cl (.inr ⟨rfl,rfl,by simp⟩)) rfl ?_));refine dR rfl (vV (bP rfl rfl (by omega) (by omega)) (fO [8] rfl rfl (dl) rfl rfl (by decide) ⟨.inr (aE rfl (dA _ (cJ _)) (cJ _)),trivial⟩ (by simp) rfl ?_));refine fW T rfl (aU T rfl rfl rfl rfl rfl rfl (by decide) rfl ?_))|refine nZ ?_));refine gM [(1,.i k),(2,.ptr 0 0),(4,.ptr 1 0),(5,.ptr 2 0)] [.cells [.rowE (ints bs) 1,.rowE (wsA (f::l)) 3],.cells [.sl 3 0 1 1,.sl 6 0 1 3],.cells [.sl 7 0 (bs.length-1) 1,.nils],.arr (ints [x1]) 1,.arr (ints [x2]) 1,.arr (fI [(a1,a2)]) 2,.arr [[.sl 4 0 1 1,.i 0,.sl 5 0 1 2]] 3,.arr (ints (bs.eraseIdx k)) 1]
    ⟨[0,1,2,4,5,6,7,8],rfl,(by repeat first|exact trivial|refine ⟨rfl,?_⟩),⟨.inr rfl,.inr rfl,.inr rfl,.inr rfl,.inr rfl,.inr rfl,.inr rfl,.inr (aE rfl (dA _ (cJ _)) (cJ _)),trivial⟩,by decide,kP _⟩ ?_
  refine nT 2 0 rfl rfl rfl (by rw [dH,hel]) (iG (cJ _)) ?_
  refine xI 2 1 3 rfl rfl (by decide) ?_
  rw [hL]
  (repeat' (first|refine wB ?_|(refine rg 4 (fR T rfl (qW T rfl (mV ?_))))|refine nZ ?_));refine cX (X:={i:Nat // i≤L.length}) (fun i=>[(1,.i k),(4,.ptr 0 0),(5,.ptr 1 0),(43,.rowE (wsA L) 3),(44,.i (wsA L).length),(45,.i i.1)]) (fun i=>[.cells [.sl 2 0 1 1,.sl 5 0 1 3],.cells [.rowE (ints (bs.eraseIdx k)) 1,.sl 6 0 i.1 3],.arr (ints [x1]) 1,.arr (ints [x2]) 1,.arr (fI [(a1,a2)]) 2,.arr [[.sl 3 0 1 1,.i 0,.sl 4 0 1 2]] 3,.arr (wsA (R.take i.1)) 3]) (fun i=>L.length-i.1) ⟨0,cC _⟩
    ⟨[1,2,3,4,5,6,8],rfl,(by repeat first|exact trivial|refine ⟨rfl,?_⟩),⟨.inr rfl,.inr rfl,.inr rfl,.inr rfl,.inr rfl,.inr rfl,.inr rfl,trivial⟩,by decide,kP _⟩ ?_
  rintro ⟨i,hi⟩;dsimp only;have hLl:(wsA L).length=L.length:=eZ _;have hRl:R.length=L.length:=by rw [hR,aX]
  by_cases hlt:i<L.length
  · have hg:=tJ hlt;have hv1:=hp' L[i] (aI hlt);have hv2:=hc' L[i] (aI hlt);have hRs:R.take (i+1)=R.take i++[zN7 k L[i]]:=by rw [aM (by omega)];simp [hR]
    have hwm:=hsz' _ (aI hlt);generalize L[i]=v at *;have hcw:=U0 v hwm;obtain ⟨p,m,c⟩:=v;dsimp only at hv1 hv2 hcw hRs;have e1:=BE (ZE p k (k+1) (by omega) (by omega) (by intro h;rw [h] at hv1;simp at hv1;omega))
    have e2:=BE (zZ3 c k (k+1) (by omega) (by omega) (by intro h;rw [h] at hv2;simp at hv2;omega))
    rw [I6,show p.length-(k+1-k)=p.length-1 by omega,show ((k+1:Nat):Int)=(k:Int)+1 by omega] at e1
    rw [I6,show c.length-(k+1-k)=c.length-1 by omega,show ((k+1:Nat):Int)=(k:Int)+1 by omega] at e2
    (repeat' (first|refine wS ?_|refine wB ?_|refine wK ?_|(refine wC rfl ?_ ?_<;>(intro hb;(try simp only [nm] at hb);try (exfalso;omega)))|(refine rg 5 (vV (aK rfl rfl) ?_))|(refine rg 6 (vV (ix T rfl (by omega) (nH _) hg) (lW T rfl (bS (bM T rfl) rfl (aU T rfl rfl rfl rfl rfl rfl (by decide) rfl ?_)))))|(refine rg 7 (lW T rfl (bS (by exact hO rfl rfl hcw (.inr ⟨rfl,rfl,by simp⟩)) rfl ?_));refine aU T rfl rfl rfl rfl rfl rfl (by decide) rfl ?_)|refine nZ ?_));all_goals try (exfalso;omega)
    refine gM [(1,.i k),(4,.ptr 0 0),(5,.ptr 1 0),(8,.ptr 7 0),(43,.rowE (wsA L) 3),(44,.i (wsA L).length),(45,.i i)] [.cells [.sl 2 0 1 1,.sl 5 0 1 3],.cells [.rowE (ints (bs.eraseIdx k)) 1,.sl 6 0 i 3],.arr (ints [x1]) 1,.arr (ints [x2]) 1,.arr (fI [(a1,a2)]) 2,.arr [[.sl 3 0 1 1,.i 0,.sl 4 0 1 2]] 3,.arr (wsA (R.take i)) 3,.cells [.sl 8 0 p.length 1,.i m,.sl 9 0 c.length 2],.arr (ints p) 1,.arr (fI c) 2]
      ⟨[0,1,2,3,4,5,6,7,8,9],rfl,(by repeat first|exact trivial|refine ⟨rfl,?_⟩),⟨.inr rfl,.inr rfl,.inr rfl,.inr rfl,.inr rfl,.inr rfl,.inr (aE rfl rfl (bQ _)),.inr rfl,.inr (aE rfl (dA _ (cJ _)) (cJ _)),.inr (aE rfl (dA _ (fD _)) (fD _)),trivial⟩,by decide,kP _⟩ ?_
    repeat' (first|(refine vO (id:=8) 78 [[],[0],[],[],[3],rN 5,[],[6],[],[],[9],rN 11,rN 8,rN 13] (rM 51 13) [[],[],[51,52],[51,52,53],[51,52,53],[],rM 51 6,rM 51 6,rM 51 8,rM 51 9,rM 51 9,[],rM 59 4,[]] [(5,8),(11,9),(13,7)] cK rfl (by decide +kernel) (fS rfl rfl rfl rfl (by exact cY T rfl rfl rfl) ?_);refine fS rfl rfl rfl rfl (by exact bD T rfl rfl rfl rfl) ?_;refine fS rfl rfl rfl rfl (by exact cP rfl) ?_;refine fS rfl rfl rfl rfl (by exact cP rfl) ?_;refine fS rfl rfl rfl rfl (by exact bP rfl rfl (by omega) (by omega)) ?_;refine zE rfl rfl rfl rfl (aS rfl) (by exact KR [8] rfl rfl (e1) (fun _=>rfl) rfl (by decide) (fun _=>⟨.inr (aE rfl rfl (cJ _)),trivial⟩) (by simp) rfl (fun _ _=>rfl) rfl rfl) ?_;refine fS rfl rfl rfl rfl (by exact cY T rfl rfl rfl) ?_;refine fS rfl rfl rfl rfl (by exact bD T rfl rfl rfl rfl) ?_;refine fS rfl rfl rfl rfl (by exact cP rfl) ?_;refine fS rfl rfl rfl rfl (by exact cP rfl) ?_;refine fS rfl rfl rfl rfl (by exact bP rfl rfl (by omega) (by omega)) ?_;refine zE rfl rfl rfl rfl (aS rfl) (by exact KR [9] rfl rfl (e2) (fun _=>rfl) rfl (by decide) (fun _=>⟨.inr (aE rfl rfl (fD _)),trivial⟩) (by simp) rfl (fun _ _=>rfl) rfl rfl) ?_;refine fS rfl rfl rfl rfl (by exact cY T rfl rfl rfl) ?_;refine FX rfl rfl rfl rfl (aS rfl) T rfl rfl rfl rfl rfl rfl (by decide) rfl ?_;refine I9 rfl rfl rfl (by exact rfl) ?_;refine fW T rfl (aU T rfl rfl rfl rfl rfl rfl (by decide) rfl ?_))|refine nZ ?_)
    show AW _ _ _ _ _ _;have l1:(p.eraseIdx k).length=p.length-1:=by rw [fJ,if_pos (by omega)]
    have l2:(c.eraseIdx k).length=c.length-1:=by rw [fJ,if_pos (by omega)]
    refine gM [(1,.i k),(4,.ptr 0 0),(5,.ptr 1 0),(8,.ptr 7 0),(43,.rowE (wsA L) 3),(44,.i (wsA L).length),(45,.i i)] [.cells [.sl 2 0 1 1,.sl 5 0 1 3],.cells [.rowE (ints (bs.eraseIdx k)) 1,.sl 6 0 i 3],.arr (ints [x1]) 1,.arr (ints [x2]) 1,.arr (fI [(a1,a2)]) 2,.arr [[.sl 3 0 1 1,.i 0,.sl 4 0 1 2]] 3,.arr (wsA (R.take i)) 3,.cells [.sl 8 0 (p.length-1) 1,.i m,.sl 9 0 (c.length-1) 2],.arr (ints (p.eraseIdx k)) 1,.arr (fI (c.eraseIdx k)) 2]
      ⟨[0,1,2,3,4,5,6,7,8,9],rfl,(by repeat first|exact trivial|refine ⟨rfl,?_⟩),⟨.inr rfl,.inr rfl,.inr rfl,.inr rfl,.inr rfl,.inr rfl,.inr (aE rfl rfl (bQ _)),.inr rfl,.inr (aE rfl (dA _ (cJ _)) (cJ _)),.inr (aE rfl (dA _ (fD _)) (fD _)),trivial⟩,by decide,kP _⟩ ?_
    refine nT 7 0 rfl rfl rfl (by rw [dH,l1]) (iG (cJ _)) ?_
    refine nT 7 2 rfl rfl rfl (by rw [iE,l2]) (iG (fD _)) ?_
    have hW:wsA (R.take (i+1))=wsA (R.take i)++[[.rowE (ints (p.eraseIdx k)) 1,.i m,.rowE (fI (c.eraseIdx k)) 2]]:=by rw [hRs,wsA,dJ];rfl
    have hTl:(wsA (R.take i)).length=i:=by rw [eZ,bE];omega
    generalize wsA (R.take i)=Q at *
    (repeat' (first|(refine rg 9 (fR T rfl (lW T rfl (bS (by exact bF T rfl rfl (by decide) (by decide) rfl rfl rfl) rfl ?_)));refine gD T rfl rfl rfl rfl rfl rfl (by omega) (kZ.whole rfl rfl) rfl (by simp;omega) (by simp;omega) rfl ?_;refine fW T rfl (aU T rfl rfl rfl rfl rfl rfl (by decide) rfl ?_))|(refine rg 10 (vV (bP rfl rfl (by omega) (by omega)) (mV ?_)))|refine nZ ?_));all_goals try (exfalso;omega)
    exact ⟨⟨i+1,hlt⟩,by dsimp only;omega,⟨[0,1,2,3,4,5,11],rfl,(by repeat first|exact trivial|refine ⟨rfl,?_⟩),⟨.inr rfl,.inr rfl,.inr rfl,.inr rfl,.inr rfl,.inr rfl,.inr (aE rfl (by dsimp only;rw [hW];exact mN hTl.symm) (bQ _)),trivial⟩,by decide,kP _⟩⟩
  · obtain rfl:i=L.length:=by omega
    rw [show R.take L.length=R by rw [← hRl,cQ]]
    show AW _ _ _ _ _ _;refine nT 1 1 rfl rfl rfl (by rw [eZ,hRl]) (iG (bQ _)) ?_
    generalize fN R=R' at *
    (repeat' (first|refine wS ?_|refine wR ?_|refine wE ?_|(refine wC rfl ?_ ?_<;>(intro hb;(try simp only [nm] at hb);try (exfalso;omega)))|(refine rg 5 (vV (aK rfl rfl) ?_))|(refine rg 11 (fR T rfl (vV (kC (ho)) (fW T rfl (aU T rfl rfl rfl rfl rfl rfl (by decide) rfl ?_)))))|(refine oD (id:=12) 78 [[],[],[0]] [76,77] [[],[76],[77]] [(2,0)] cK rfl (by decide +kernel) (dB rfl rfl rfl rfl (by exact bD T rfl rfl rfl rfl) ?_);refine dB rfl rfl rfl rfl (by exact bD T rfl rfl rfl rfl) ?_;refine xC rfl rfl rfl rfl (aS rfl) T rfl rfl rfl rfl rfl rfl (by decide) rfl ?_;refine rP rfl rfl rfl (by exact rfl) ?_;refine aU T rfl rfl rfl rfl rfl rfl (by decide) rfl ?_)|refine nZ ?_));all_goals first | (exfalso;omega) | exact ⟨.inl rfl,[2,3,4,5],_,rfl,rfl,rfl,⟨.inr rfl,.inr rfl,.inr rfl,.inr rfl,trivial⟩,by decide,kP _⟩
end Go.Proofs.YtojgimibalokkaaGreat
namespace Go.Ld
open Go.Ab Go.Proofs.YtojgimibalokkaaGreat
theorem zB {L:List G}{j:Int}{i:Nat}{x:G}(h:L[i]? = some x) (e:j=i):(kB L)[0+j.toNat]? = some (gA x):=by
  subst e;simp [h]
theorem I0 {L:List G}{j:Int}{i:Nat}{x:G}(e:j=i):(kB L).set (0+j.toNat) (gA x)=kB (L.set i x):=by
  subst e;simp [kB,rH]
abbrev KT (l:List G):Prop:=l.Pairwise (fun a b=>cG a b≤0)
def S9 (l:List G):Prop:=∀ a b,a∈l→b∈l→cG a b=0→a=b
theorem zZ8 {a:G}:cG a a=0:=pU.rfl' _
theorem NF (a b:G):cG a b = - cG b a:=pU.neg _ _
theorem QH {a b d:G}(h1:cG a b≤0) (h2:cG b d≤0):cG a d≤0:=pU.le_tr (a:=a.1.headD 0) (b:=b.1.headD 0) (d:=d.1.headD 0) h1 h2
theorem JC (w:G):∀ {l:List G},KT l→KT (BT cG w l)
  | [],_=>kA _ _
  | x::l,hl=>by
    have hl':=fA.1 hl;unfold BT;split
    · rename_i hw;refine fA.2 ⟨fun y hy=>?_,hl⟩
      rcases bT.1 hy with rfl | hy
      · exact hw
      · exact QH hw (hl'.1 y hy)
    · rename_i hw;refine fA.2 ⟨fun y hy=>?_,JC w hl'.2⟩
      rcases bT.1 ((A9 cG w l).mem_iff.1 hy) with rfl | hy
      · have:=NF x y;omega
      · exact hl'.1 y hy
theorem rT:∀ l:List G,KT (eH cG l)
  | []=>.nil
  | x::l=>JC x (rT l)
theorem HR {l m:List G}(hd:S9 l) (hp:m.Perm l) (h:KT m):eH cG l=m:=by
  refine (List.Perm.eq_of_pairwise (le:=fun a b=>cG a b≤0) (fun a b ha hb h1 h2=>hd a b (hp.mem_iff.1 ha) ((dZ cG l).mem_iff.1 hb) (by have:=NF a b;omega)) h (rT l) (hp.trans (dZ cG l).symm)).symm
theorem S9.sub {l m:List G}(h:S9 l) (hs:∀ x,x∈m→x∈l):S9 m:=fun a b ha hb e=>h a b (hs a ha) (hs b hb) e
theorem S9.perm {l m:List G}(h:S9 l) (hp:m.Perm l):S9 m:=h.sub fun x hx=>hp.mem_iff.1 hx
theorem ND {a b:G}(h:cG a b<0):cG a b≤0:=by omega
theorem zE1 {S1 S2:List G}{x:G}(h:KT (S1++S2)) (h1:∀ y,y∈S1→cG y x≤0) (h2:∀ y,y∈S2→cG x y≤0):KT (S1++x::S2):=by
  obtain ⟨a,b,c⟩:=eW.1 h;refine eW.2 ⟨a,fA.2 ⟨h2,b⟩,fun p hp q hq=>?_⟩
  rcases bT.1 hq with rfl | hq
  · exact h1 p hp
  · exact c p hp q hq
theorem VE {A:List G}{y:G}(h:KT (A++[y])):∀ z,z∈A++[y]→cG z y≤0:=by
  intro z hz;obtain ⟨a,b,c⟩:=eW.1 h;rcases bG.1 hz with hz | hz
  · exact c z hz y (by simp)
  · rw [bH.1 hz,zZ8];exact fK _
theorem yH7 {a b:G}(h:¬ cG a b<0):cG b a≤0:=by have:=NF a b;omega
def R8 (l:List G) (a b:Nat):List G:=l.take a++(eH cG ((l.drop a).take (b-a))++l.drop b)
theorem W3 {l:List G}:(eH cG l).length=l.length:=(dZ cG l).length_eq
theorem RP {l:List G}{a:Nat}(h:a≤l.length):R8 l a a=l:=by unfold R8;simp [eH]
theorem VS {l:List G}{a:Nat}(h:a<l.length):R8 l a (a+1)=l:=by
  unfold R8;rw [show a+1-a=1 by omega,bC h]
  simp only [oM,lM,eH,BT];rw [List.singleton_append,← bC h,bX]
structure LC (l:List G) (a i:Nat) (x:G) (q:List G × List G):Prop where
  eq:q.1++q.2=eH cG ((l.drop a).take (i-a))
  gt:∀ y,y∈q.2→cG x y<0
def pK (l:List G) (a i:Nat) (x:G) (q:List G × List G):List G:=(l.take a++q.1)++x::(q.2++l.drop (i+1))
theorem MN {l:List G}{a i:Nat}{x:G}(h1:a<i) (h2:i<l.length) (hx:l[i]? = some x):LC l a i x (eH cG ((l.drop a).take (i-a)),[])∧R8 l a i=pK l a i x (eH cG ((l.drop a).take (i-a)),[]):=by
  refine ⟨⟨by simp,fun y hy=>by cases hy⟩,?_⟩
  unfold R8 pK;have:l.drop i=x::l.drop (i+1):=by
    rw [aA h2] at hx;rw [bC h2];cases hx;rfl
  simp [this]
theorem JB {l:List G}{a i:Nat}{x:G}{q:List G × List G}(h:LC l a i x q) (h1:a<i) (h2:i<l.length):q.1.length+q.2.length=i-a:=by
  have:=congrArg List.length h.eq;simp only [aF,W3,bE,dK] at this;omega
theorem TH {l:List G}{a i:Nat}{x:G}{q:List G × List G}(h:LC l a i x q) (h1:a<i) (h2:i<l.length):(pK l a i x q).length=l.length:=by
  have:=JB h h1 h2;unfold pK;simp only [aF,List.length_cons,bE,dK];omega
theorem PJ {l:List G}(hdl:S9 l){a i:Nat}{x:G}{q:List G × List G}(h:LC l a i x q) (h1:a<i) (h2:i<l.length) (hx:l[i]? = some x) (hs:∀ y,y∈q.1→cG y x≤0):pK l a i x q=R8 l a (i+1):=by
  unfold pK R8;have e:(l.drop a).take (i+1-a)=(l.drop a).take (i-a)++[x]:=by
    rw [show i+1-a=(i-a)+1 by omega,zC6]
    rw [eE,show a+(i-a)=i by omega,hx];rfl
  rw [e];have hp:(q.1++x::q.2).Perm ((l.drop a).take (i-a)++[x]):=by
    refine List.perm_middle.trans ?_;rw [h.eq];exact ((dZ cG _).cons x).trans (K5 _ _).symm
  have hu:KT (q.1++x::q.2):=zE1 (by rw [h.eq];exact rT _) hs (fun y hy=>ND (h.gt y hy))
  rw [HR (hdl.sub fun y hy=>by rw [← e] at hy;exact eX (eK hy)) hp hu]
  simp
theorem YA {l:List G}{a i:Nat}{x y:G}{S:List G}{q:List G × List G}(h:LC l a i x q) (e:q.1=S++[y]) (hc:¬ cG x y<0):∀ z,z∈q.1→cG z x≤0:=by
  have hu:KT (q.1++q.2):=by rw [h.eq];exact rT _
  have hu1:KT q.1:=(eW.1 hu).1;rw [e] at hu1;intro z hz;rw [e] at hz;exact QH (VE hu1 z hz) (yH7 hc)
theorem TG {l:List G}{a i:Nat}{x y:G}{S:List G}{q:List G × List G}(h:LC l a i x q) (e:q.1=S++[y]) (hc:cG x y<0):LC l a i x (S,y::q.2):=by
  refine ⟨?_,fun z hz=>?_⟩
  · rw [← h.eq,e];simp
  · rcases bT.1 hz with rfl | hz
    · exact hc
    · exact h.gt z hz
end Go.Ld
namespace Go.Proofs.YtojgimibalokkaaGreat
open Go Go.Ab Go.Ld
attribute [local irreducible] VC AW cF aP
set_option maxHeartbeats 4000000
abbrev MZ:AV:=.clo (.func 81) [] []
def yB2 (g:G):Prop:=0<g.1.length∧g.1.length≤1000000
theorem zE6 (a b:G) (ha:yB2 a) (hb:yB2 b):aP Tryz.prog 81 [UQ a,UQ b] [] (.i (cG a b)) []:=by
  obtain ⟨p,ws⟩:=a;obtain ⟨q,vs⟩:=b;cases p with
  | nil=>exact absurd ha.1 (by simp)
  | cons x p=>
    cases q with
    | nil=>exact absurd hb.1 (by simp)
    | cons y q=>
      have hc:=EE x y;have h1:(ints (x::p)).length=p.length+1:=by simp
      have h2:(ints (y::q)).length=q.length+1:=by simp
      have g1:(ints (x::p))[(0:Int).toNat]? = some [AV.i x]:=rfl;have g2:(ints (y::q))[(0:Int).toNat]? = some [AV.i y]:=rfl;refine bL T Tryz.func81 rfl rfl rfl rfl ?_
      (repeat' (first|refine wS ?_|refine wR ?_|(refine rg 0 (bS (bZ rfl rfl) rfl (bS (bZ rfl rfl) rfl (aV ?_))))|(refine bO (id:=1) 14 [[],[0],[0,1],[0,1,2],[],[4],[4,5],[4,5,6],rN 8] (rM 5 9) [[],[],[],[],rM 5 4,rM 5 4,rM 5 4,rM 5 4,[]] cK rfl (by decide +kernel) (dP T rfl (dO T rfl (dV rfl (ix T rfl (by omega) (ints_len _) g1) (dO T rfl (dP T rfl (dO T rfl (dV rfl (ix T rfl (by omega) (ints_len _) g2) (dO T rfl (dV rfl (kC (hc)) ?_)))))))));refine dE ?_;refine aV ?_)|refine nZ ?_));all_goals first | (exfalso;omega) | exact rQ
theorem TE (l:List G) (a b:Nat) (hab:a≤b) (hb:b≤l.length) (hdl:S9 l) (hl:l.length≤100000) (hw:∀ w,w∈l→yB2 w) :
    aP Tryz.prog 126 [.sl 0 0 l.length 2,.i a,.i b,MZ] [.arr (kB l) 2] (.tup []) [.arr (kB (R8 l a b)) 2]:=by
  rcases iR a b with hlt | hge
  · refine bL T Tryz.func126 rfl rfl rfl rfl ?_
    (repeat' (first|refine wS ?_|refine wB ?_|(refine iA 0 rfl rfl rfl (by omega) (by omega) ?_)|refine nZ ?_));refine cX (X:={i:Nat // a+1≤i∧i≤b}) (fun i=>[(0,.sl 0 0 l.length 2),(1,.i a),(2,.i b),(3,MZ),(8,.i i.1)]) (fun i=>[.arr (kB (R8 l a i.1)) 2]) (fun i=>b-i.1) ⟨a+1,by omega,by omega⟩ ⟨[0],rfl,by (repeat (first | exact trivial | refine ⟨rfl,?_⟩)),⟨.inr (aE rfl (by dsimp only;rw [VS (by omega)]) (eO _)),trivial⟩,by decide,lY⟩ ?_
    rintro ⟨i,h1,h2⟩;dsimp only;by_cases hi:i<b
    · (repeat' (first|refine wS ?_|refine wB ?_|refine wK ?_|(refine wC rfl (fun hb=>?_) (fun hb=>?_) <;> (((try simp only [nm] at hb);try (exfalso;omega))))|(refine rg 1 (dR rfl (vV (aK rfl rfl) ?_)))|(refine rg 3 (mW rfl (aV ?_)))|(refine nZ ?_)));all_goals try (exfalso;omega)
      have hil:i<l.length:=by omega
      obtain ⟨x,hx⟩:∃ x,l[i]? = some x:=⟨_,aA hil⟩;obtain ⟨s1,s2⟩:=MN (a:=a) (by omega) hil hx
      refine cX (X:={q:List G × List G // LC l a i x q}) (fun q=>[(0,.sl 0 0 l.length 2),(1,.i a),(2,.i b),(3,MZ),(8,.i i),(9,.i ((a+q.1.1.length:Nat):Int))]) (fun q=>[.arr (kB (pK l a i x q.1)) 2]) (fun q=>q.1.1.length) ⟨_,s1⟩ ⟨[0],rfl,⟨rfl,rfl,rfl,rfl,rfl,by dsimp only;rw [W3,bE,dK,show a+min (i-a) (l.length-a)=i by omega];rfl,trivial⟩,⟨.inr (aE rfl (by dsimp only;rw [s2]) (eO _)),trivial⟩,by decide,lY⟩ ?_
      rintro ⟨⟨S1,S2⟩,hq⟩;dsimp only;have hln:=JB hq (by omega) hil
      dsimp only at hln;have hwx:yB2 x:=hw x (aH hx);have hal:(l.take a).length=a:=by rw [bE];omega
      rcases List.eq_nil_or_concat S1 with rfl | ⟨S,y,rfl⟩
      · have ee:=PJ hdl hq (by omega) hil hx (fun y hy=>by cases hy)
        have hJ:((a+([]:List G).length:Nat):Int)=a:=by simp
        generalize ((a+([]:List G).length:Nat):Int)=J at *;generalize pK l a i x ([],S2)=L at *
        (repeat' (first|refine wS ?_|refine wE ?_|refine wU ?_|(refine bO (id:=4) 53 yL8 (rM 18 17) yL9 cK rfl (by decide +kernel) (dN rfl (dN rfl (dV rfl (I5 rfl rfl (by omega)) (dN rfl (tG rfl (tG rfl (tG rfl (tG rfl (dG ?_)))))))));refine tG rfl (tG rfl (tG rfl (tG rfl (tG rfl (tG rfl (tG rfl (dV rfl (oU rfl rfl) (dE ?_)))))))))|(refine iA 2 rfl rfl rfl (by omega) (by omega) ?_)|refine nZ ?_));all_goals first | (exfalso;omega) | exact ⟨⟨i+1,by omega,by omega⟩,by dsimp only;omega,⟨[0],rfl,by (repeat (first | exact trivial | refine ⟨rfl,?_⟩)),⟨.inr (aE rfl (by dsimp only;rw [ee]) (eO _)),trivial⟩,by decide,lY⟩⟩
      · rw [List.concat_eq_append] at *;have hy:y∈l:=by
          have h3:y∈eH cG ((l.drop a).take (i-a)):=by rw [← hq.eq];simp
          exact eX (eK ((dZ _ _).mem_iff.1 h3))
        have hc:=zE6 x y hwx (hw y hy);have hL:pK l a i x (S++[y],S2)=(l.take a++S)++y::x::(S2++l.drop (i+1)):=by unfold pK;simp
        have hJ:((a+(S++[y]).length:Nat):Int)=((a+S.length+1:Nat):Int):=by simp;omega
        have hAl:a+S.length=(l.take a++S).length:=by rw [aF,hal]
        have hlen:=TH hq (by omega) hil
        by_cases h0:cG x y<0
        · have ee:=TG hq rfl h0;have q1:=zB (L:=pK l a i x (S++[y],S2)) (j:=((a+(S++[y]).length:Nat):Int)) (i:=a+S.length+1) (x:=x) (by rw [hL,show (l.take a++S)++y::x::(S2++l.drop (i+1))=((l.take a++S)++[y])++x::(S2++l.drop (i+1)) by simp];exact nU _ _ _ (by simp;omega)) hJ
          have q2:=zB (L:=pK l a i x (S++[y],S2)) (j:=((a+(S++[y]).length:Nat):Int)-1) (i:=a+S.length) (x:=y) (by rw [hL];exact nU _ _ _ hAl) (by omega)
          have t1:=I0 (L:=pK l a i x (S++[y],S2)) (j:=((a+(S++[y]).length:Nat):Int)) (i:=a+S.length+1) (x:=y) hJ;have e1:(pK l a i x (S++[y],S2)).set (a+S.length+1) y=(l.take a++S)++y::y::(S2++l.drop (i+1)):=by
            rw [hL,show (l.take a++S)++y::x::(S2++l.drop (i+1))=((l.take a++S)++[y])++x::(S2++l.drop (i+1)) by simp,oB _ _ _ _ (by simp;omega)];simp
          rw [e1] at t1;have q3:=zB (L:=(l.take a++S)++y::y::(S2++l.drop (i+1))) (j:=((a+(S++[y]).length:Nat):Int)-1) (i:=a+S.length) (x:=y) (nU _ _ _ hAl) (by omega)
          have t2:=I0 (L:=(l.take a++S)++y::y::(S2++l.drop (i+1))) (j:=((a+(S++[y]).length:Nat):Int)-1) (i:=a+S.length) (x:=x) (by omega)
          rw [oB _ _ _ _ hAl,show (l.take a++S)++x::y::(S2++l.drop (i+1))=pK l a i x (S,y::S2) by unfold pK;simp,← t1] at t2
          rw [← t1] at q3;have hJ2:((a+(S++[y]).length:Nat):Int)-1=((a+S.length:Nat):Int):=by omega
          have hJ3:((a+(S++[y]).length:Nat):Int)<l.length:=by omega
          have hJ4:(a:Int)<((a+(S++[y]).length:Nat):Int):=by omega
          clear hJ hL;generalize ((a+(S++[y]).length:Nat):Int)=J at *;generalize cG x y=z at *;generalize pK l a i x (S++[y],S2)=L at *
          (repeat' (first|refine wS ?_|refine wB ?_|refine wK ?_|(refine wC rfl ?_ ?_<;>(intro hb;(try simp only [nm] at hb);try (exfalso;omega)))|(refine bO (id:=4) 53 yL8 (rM 18 17) yL9 cK rfl (by decide +kernel) (dN rfl (dN rfl (dV rfl (dX rfl rfl) (dM ?_))));refine J0 rfl rfl rfl rfl ?_ ?_<;>(intro hb;rw [hb];(try simp only [nm] at hb);try (exfalso;omega))<;>(refine tM ?_);(all_goals (refine tN rfl (tN rfl (dT rfl (by exact aQ T rfl rfl rfl rfl rfl (by omega) (by omega)) ?_));refine dT rfl (by exact bD T rfl rfl (bV rfl q1) rfl) ?_;refine tN rfl (tN rfl (dT rfl (cH rfl rfl (by omega) (by omega)) (dT rfl (by exact aQ T rfl rfl rfl rfl rfl (by omega) (by omega)) ?_)));refine dT rfl (by exact bD T rfl rfl (bV rfl q2) rfl) ?_;refine dT rfl (kC (hc)) (dT rfl (aK rfl rfl) (dV rfl (mF rfl rfl) (dE ?_))))))|(refine oD (id:=6) 53 yM0 (rM 37 15) yM1 [(15,0)] cK rfl (by decide +kernel) (dB rfl rfl rfl rfl (by exact cP rfl) ?_);refine dB rfl rfl rfl rfl (by exact cP rfl) ?_;refine dB rfl rfl rfl rfl (by exact cP rfl) ?_;refine dB rfl rfl rfl rfl (by exact cP rfl) ?_;refine dB rfl rfl rfl rfl (by exact cH rfl rfl (by omega) (by omega)) ?_;refine dB rfl rfl rfl rfl (by exact cP rfl) ?_;refine dB rfl rfl rfl rfl (by exact cP rfl) ?_;refine dB rfl rfl rfl rfl (by exact cH rfl rfl (by omega) (by omega)) ?_;refine dB rfl rfl rfl rfl (by exact aQ T rfl rfl rfl rfl rfl (by omega) (by omega)) ?_;refine dB rfl rfl rfl rfl (by exact bD T rfl rfl (bV rfl q2) rfl) ?_;refine dB rfl rfl rfl rfl (by exact cP rfl) ?_;refine dB rfl rfl rfl rfl (by exact cP rfl) ?_;refine dB rfl rfl rfl rfl (by exact aQ T rfl rfl rfl rfl rfl (by omega) (by omega)) ?_;refine dB rfl rfl rfl rfl (by exact bD T rfl rfl (bV rfl q1) rfl) ?_;refine dB rfl rfl rfl rfl (by exact aQ T rfl rfl rfl rfl rfl (by omega) (by omega)) ?_;refine xC rfl rfl rfl rfl (aS rfl) T rfl rfl rfl rfl rfl rfl (by decide) (wG rfl q1 rfl) ?_;refine rP rfl rfl rfl (by exact rfl) ?_;refine vV (by exact aQ T rfl rfl rfl rfl rfl (by omega) (by omega)) ?_;refine aU T rfl rfl rfl rfl rfl rfl (by decide) (lQ rfl q3 rfl) ?_)|(refine rg 5 (mW rfl (vV (cH rfl rfl (by omega) (by omega)) (aV ?_))))|refine nZ ?_));all_goals first | (exfalso;omega) | exact ⟨⟨_,ee⟩,by dsimp only;simp,⟨[0],rfl,⟨rfl,rfl,rfl,rfl,rfl,by dsimp only;rw [← hJ2];try rfl,trivial⟩,⟨.inr (aE rfl (by dsimp only;rw [← t2];try rfl) (eO _)),trivial⟩,by decide,lY⟩⟩
        · have ee:=PJ hdl hq (by omega) hil hx (YA hq rfl h0)
          have q1:=zB (L:=pK l a i x (S++[y],S2)) (j:=((a+(S++[y]).length:Nat):Int)) (i:=a+S.length+1) (x:=x) (by rw [hL,show (l.take a++S)++y::x::(S2++l.drop (i+1))=((l.take a++S)++[y])++x::(S2++l.drop (i+1)) by simp];exact nU _ _ _ (by simp;omega)) hJ
          have q2:=zB (L:=pK l a i x (S++[y],S2)) (j:=((a+(S++[y]).length:Nat):Int)-1) (i:=a+S.length) (x:=y) (by rw [hL];exact nU _ _ _ hAl) (by omega)
          have hJ3:((a+(S++[y]).length:Nat):Int)<l.length:=by omega
          have hJ4:(a:Int)<((a+(S++[y]).length:Nat):Int):=by omega
          clear hJ hL;generalize ((a+(S++[y]).length:Nat):Int)=J at *;generalize cG x y=z at *;generalize pK l a i x (S++[y],S2)=L at *
          (repeat' (first|refine wS ?_|refine wE ?_|(refine wC rfl ?_ ?_<;>(intro hb;(try simp only [nm] at hb);try (exfalso;omega)))|(refine bO (id:=4) 53 yL8 (rM 18 17) yL9 cK rfl (by decide +kernel) (dN rfl (dN rfl (dV rfl (dX rfl rfl) (dM ?_))));refine J0 rfl rfl rfl rfl ?_ ?_<;>(intro hb;rw [hb];(try simp only [nm] at hb);try (exfalso;omega))<;>(refine tM ?_);(all_goals (refine tN rfl (tN rfl (dT rfl (by exact aQ T rfl rfl rfl rfl rfl (by omega) (by omega)) ?_));refine dT rfl (by exact bD T rfl rfl (bV rfl q1) rfl) ?_;refine tN rfl (tN rfl (dT rfl (cH rfl rfl (by omega) (by omega)) (dT rfl (by exact aQ T rfl rfl rfl rfl rfl (by omega) (by omega)) ?_)));refine dT rfl (by exact bD T rfl rfl (bV rfl q2) rfl) ?_;refine dT rfl (kC (hc)) (dT rfl (aK rfl rfl) (dV rfl (mF rfl rfl) (dE ?_))))))|(refine iA 2 rfl rfl rfl (by omega) (by omega) ?_)|refine nZ ?_));all_goals first | (exfalso;omega) | exact ⟨⟨i+1,by omega,by omega⟩,by dsimp only;omega,⟨[0],rfl,by (repeat (first | exact trivial | refine ⟨rfl,?_⟩)),⟨.inr (aE rfl (by dsimp only;rw [ee]) (eO _)),trivial⟩,by decide,lY⟩⟩
    · obtain rfl:i=b:=by omega
      (repeat' (first|refine wS ?_|refine wE ?_|(refine wC rfl ?_ ?_<;>(intro hb;(try simp only [nm] at hb);try (exfalso;omega)))|(refine rg 1 (dR rfl (vV (aK rfl rfl) ?_)))|refine nZ ?_));all_goals first | (exfalso;omega) | exact ⟨.inl rfl,[0],_,rfl,rfl,rfl,⟨.inr (aE rfl rfl (eO _)),trivial⟩,by decide,lY⟩ | exact ⟨.inr rfl,[0],_,rfl,rfl,rfl,⟨.inr (aE rfl rfl (eO _)),trivial⟩,by decide,lY⟩
  · obtain rfl:a=b:=by omega
    rw [RP hb];refine bL T Tryz.func126 rfl rfl rfl rfl ?_
    (repeat' (first|refine wS ?_|refine wB ?_|(refine iA 0 rfl rfl rfl (by omega) (by omega) ?_)|refine nZ ?_));refine cX (X:=Unit) (fun _=>[(0,.sl 0 0 l.length 2),(1,.i a),(2,.i a),(3,MZ),(8,.i ((a:Int)+1))]) (fun _=>[.arr (kB l) 2]) (fun _=>0) () ⟨[0],rfl,by (repeat (first | exact trivial | refine ⟨rfl,?_⟩)),⟨.inr (aE rfl rfl (eO _)),trivial⟩,by decide,lY⟩ ?_
    intro _;dsimp only
    (repeat' (first|refine wS ?_|refine wE ?_|(refine wC rfl ?_ ?_<;>(intro hb;(try simp only [nm] at hb);try (exfalso;omega)))|(refine rg 1 (dR rfl (vV (aK rfl rfl) ?_)))|refine nZ ?_));all_goals first | (exfalso;omega) | exact ⟨.inl rfl,[0],_,rfl,rfl,rfl,⟨.inr (aE rfl rfl (eO _)),trivial⟩,by decide,lY⟩ | exact ⟨.inr rfl,[0],_,rfl,rfl,rfl,⟨.inr (aE rfl rfl (eO _)),trivial⟩,by decide,lY⟩
end Go.Proofs.YtojgimibalokkaaGreat
namespace Go.Ld
open Go.Ab Go.Proofs.YtojgimibalokkaaGreat
def zJ7 (n:Nat):Int:=[0,1,2,2,3,3,3,3,4,4,4,4,4].getD n 0
end Go.Ld
namespace Go.Proofs.YtojgimibalokkaaGreat
open Go Go.Ab Go.Ld
attribute [local irreducible] VC AW cF aP O7 zP8
set_option maxHeartbeats 4000000
theorem yH1:O7 Tryz.prog 189 .u64:=by unfold O7;kernel_rfl
theorem yJ4:O7 Tryz.prog 5 .u8:=by unfold O7;kernel_rfl
theorem yH2:zP8 Tryz.prog 9:=by unfold zP8;kernel_rfl
theorem zJ8 (n:Nat) (h:n≤12):aP Tryz.prog 135 [.v (.int .u64 n)] [] (.i (zJ7 n)) []:=by
  rcases (by omega:n=0∨n=1∨n=2∨n=3∨n=4∨n=5∨n=6∨n=7∨n=8∨n=9∨n=10∨n=11∨n=12) with rfl | rfl | rfl | rfl | rfl | rfl | rfl | rfl | rfl | rfl | rfl | rfl | rfl
  all_goals
    refine bL T Tryz.func135 rfl rfl rfl rfl ?_
    (repeat' (first|refine wS ?_|refine wK ?_|refine wR ?_|refine wU ?_|(refine rg 0 (aV ?_))|(refine rg 1 (mW rfl (vV (fM rfl rfl) ?_)))|(refine rg 4 (mW rfl (vV (fM rfl rfl) ?_)))|(refine rg 7 (mW rfl (vV (fM rfl rfl) ?_)))|(refine rg 10 (dR rfl (vV (jA yH1 yJ4 rfl rfl) (vV (by exact TT yH2 rfl rfl (by decide) rfl) ?_)));refine vV (jA yJ4 yB rfl rfl) (vV (MS rfl rfl) (aV ?_)))|refine nZ ?_));all_goals first | (exfalso;omega) | exact rQ
theorem zW4 (n:Nat) (h:n≤12):aP Tryz.prog 115 [.v (.int .u64 n)] [] (.i (zJ7 n)) []:=by
  have hc:=zJ8 n h;refine bL T Tryz.func115 rfl rfl rfl rfl ?_
  (repeat' (first|refine wS ?_|refine wK ?_|refine wR ?_|refine wU ?_|(refine rg 0 (aV ?_))|(refine rg 2 (mW rfl (vV (kC (hc)) (aV ?_))))|refine nZ ?_));all_goals first | (exfalso;omega) | exact rQ
theorem yD2 (l:List G) (hdl:S9 l) (hl:l.length≤12) (hw:∀ g,g∈l→yB2 g) (lim:Int):aP Tryz.prog 114 [.sl 0 0 l.length 2,.i 0,.i l.length,.i lim,MZ] [.arr (kB l) 2] (.tup []) [.arr (kB (eH cG l)) 2]:=by
  have hc:=TE l 0 l.length (cC _) (aT _) hdl (by omega) hw
  rw [show R8 l 0 l.length=eH cG l by unfold R8;simp] at hc
  refine bL T Tryz.func114 rfl rfl rfl rfl ?_
  (repeat' (first|refine wS ?_|refine wB ?_|(refine rg 0 (aV ?_))|(refine rg 1 (aV ?_))|refine nZ ?_));refine cX (X:=Unit) (fun _=>[(0,.sl 0 0 l.length 2),(1,.i 0),(2,.i l.length),(3,.i lim),(4,MZ)]) (fun _=>[.arr (kB l) 2]) (fun _=>0) () ⟨[0],rfl,by (repeat (first | exact trivial | refine ⟨rfl,?_⟩)),⟨.inr (aE rfl rfl (eO _)),trivial⟩,by decide,lY⟩ ?_
  intro _;dsimp only
  (repeat' (first|refine wS ?_|refine wB ?_|refine wR ?_|(refine wC rfl ?_ ?_<;>(intro hb;(try simp only [nm] at hb);try (exfalso;omega)))|(refine rg 2 (dR rfl (vV (cH rfl rfl (by omega) (by omega)) (aV ?_))))|(refine rg 3 (mW rfl (vV (jP rfl rfl) ?_)))|(refine rg 4 (dR rfl (dR rfl (fO [0] rfl rfl (hc) rfl rfl (by decide) ⟨.inr (aE rfl rfl (eO _)),trivial⟩ (by simp) rfl ?_))))|refine nZ ?_));all_goals first | (exfalso;omega) | exact ⟨.inl rfl,[0],_,rfl,rfl,rfl,⟨.inr (aE rfl (dA _ (eO _)) (eO _)),trivial⟩,by decide,lY⟩
theorem zF7 (l:List G) (hdl:S9 l) (hl:l.length≤12) (hw:∀ g,g∈l→yB2 g):aP Tryz.prog 80 [.sl 0 0 l.length 2,MZ] [.arr (kB l) 2] (.tup []) [.arr (kB (eH cG l)) 2]:=by
  have h1:=zW4 l.length hl;have h2:=yD2 l hdl hl hw (zJ7 l.length);have hw1:IntKind.u64.wrap (l.length:Int)=(l.length:Int):=GZ (by omega) (by omega)
  generalize zJ7 l.length=q at *;refine bL T Tryz.func80 rfl rfl rfl rfl ?_
  (repeat' (first|refine wS ?_|(refine rg 0 (mW rfl (qW T rfl (aV ?_))))|(refine rg 1 (dR rfl (mW rfl (vV (jA yB qS rfl hw1) (vV (by exact eL rfl rfl h1 rfl rfl rfl) ?_))));refine mW rfl (fO [0] rfl rfl (h2) rfl rfl (by decide) ⟨.inr (aE rfl rfl (eO _)),trivial⟩ (by simp) rfl ?_))|refine nZ ?_));all_goals first | (exfalso;omega) | exact ⟨.inl rfl,[0],_,rfl,rfl,rfl,⟨.inr (aE rfl (dA _ (eO _)) (eO _)),trivial⟩,by decide,lY⟩ | exact ⟨.inr rfl,[0],_,rfl,rfl,rfl,⟨.inr (aE rfl (dA _ (eO _)) (eO _)),trivial⟩,by decide,lY⟩
end Go.Proofs.YtojgimibalokkaaGreat
namespace Go.Ld
open Go.Ab Go.Proofs.YtojgimibalokkaaGreat
def uY (g:G):List G:=mL g.1.length g
theorem MB {g:G}{k:Nat}(h:gX g=some k):uY g=mY g k::uY (jY g k):=by
  obtain ⟨h1,_,h3,_⟩:=jE h;have e:(jY g k).1.length=g.1.length-1:=by show (g.1.eraseIdx k).length=_;rw [fJ,if_pos h3]
  unfold uY;rw [e];obtain ⟨m,hm⟩:∃ m,g.1.length=m+1:=⟨g.1.length-1,by omega⟩
  rw [hm,UK,mL,h]
theorem Y3 {g:G}(h:gX g=none):uY g=[g]:=by
  unfold uY;cases hl:g.1.length with
  | zero=>rfl
  | succ m=>rw [mL,h]
theorem KG (g:G) (k:Nat):gX (mY g k)=none:=by unfold gX;rw [if_pos (.inl (by show 1<2;omega))]
theorem SH (g:G) (k:Nat):uY (mY g k)=[mY g k]:=Y3 (KG g k)
structure nX (n:Nat) (o:List G):Prop where
  ok:∀ g,g∈o→uB n g
  nd:(o.flatMap (·.1)).Nodup
  ln:(o.flatMap (·.1)).length≤12
  ws:∀ g,g∈o→g.2.length≤2000
theorem nD {o:List G}{g:G}{b:Int}(h:g∈o) (hb:b∈g.1):b∈o.flatMap (·.1):=fZ.2 ⟨g,h,hb⟩
theorem H3:∀ {o:List G},(o.flatMap (·.1)).Nodup→∀ {a b:G}{x:Int},a∈o→b∈o→x∈a.1→x∈b.1→a=b
  | [],_,a,b,x,ha,_,_,_=>by cases ha
  | g::o,h,a,b,x,ha,hb,hxa,hxb=>by
    rw [bJ] at h;obtain ⟨h1,h2,h3⟩:=cO.1 h;rcases bT.1 ha with e1 | ha' <;> rcases bT.1 hb with e2 | hb'
    · rw [e1,e2]
    · exact absurd rfl (h3 x (e1▸hxa) x (nD hb' hxb))
    · exact absurd rfl (h3 x (e2▸hxb) x (nD ha' hxa))
    · exact H3 h2 ha' hb' hxa hxb
theorem nX.dist {n:Nat}{o:List G}(h:nX n o):S9 o:=by
  intro a b ha hb e;have e':a.1.headD 0=b.1.headD 0:=(pU.eq _ _).1 e;have hm:∀ g:G,g.1≠[]→g.1.headD 0∈g.1:=fun g hg=>by
    cases hq:g.1 with
    | nil=>exact absurd hq hg
    | cons x l=>simp
  exact H3 h.nd ha hb (hm a (h.ok a ha).ne) (e'▸hm b (h.ok b hb).ne)
theorem nX.len {n:Nat}{o:List G}(h:nX n o):o.length≤(o.flatMap (·.1)).length:=by
  have:∀ o:List G,(∀ g,g∈o→g.1≠[])→o.length≤(o.flatMap (·.1)).length:=by
    intro o
    induction o with
    | nil=>intro _;simp
    | cons g o ih=>
      intro hg;rw [bJ,aF,List.length_cons];have:=ih fun g h=>hg g (aL _ h);have:0<g.1.length:=eV.2 (hg g aR);omega
  exact this o fun g hg=>(h.ok g hg).ne
theorem nX.hd {n:Nat}{o:List G}(h:nX n o):∀ g,g∈o→yB2 g:=fun g hg=>⟨eV.2 (h.ok g hg).ne,by have:=(h.ok g hg).ln;omega⟩
theorem nX.perm {n:Nat}{o p:List G}(h:nX n o) (hp:p.Perm o):nX n p where
  ok g hg:=h.ok g (hp.mem_iff.1 hg)
  nd:=(hp.flatMap_right _).nodup_iff.2 h.nd
  ln:=by rw [(hp.flatMap_right _).length_eq];exact h.ln
  ws g hg:=h.ws g (hp.mem_iff.1 hg)
theorem uB.sz {n:Nat}{g:G}(h:uB n g) (hw:g.2.length≤2000):yB1 g:=⟨by have:=h.ln;omega,by omega,fun w hw=>(h.ws w hw).pl,fun w hw=>(h.ws w hw).cl⟩
theorem pG {α:Type}{o:List α}{i:Nat}{x y:α}(h:o[i]? = some x):∃ A B,o=A++x::B∧o.set i y=A++y::B:=by
  obtain ⟨hi,e⟩:=aB.1 h;refine ⟨o.take i,o.drop (i+1),?_,?_⟩
  · rw [← e,← bC hi,bX]
  · rw [List.set_eq_take_append_cons_drop,if_pos hi]
def DG (o:List G) (i k:Nat) (g:G):List G:=eH cG (o.set i (jY g k)++[mY g k])
theorem IQ {o:List G}{i k:Nat}{g:G}(h:o[i]? = some g) (hk:k<g.1.length):((o.set i (jY g k)++[mY g k]).flatMap (·.1)).Perm (o.flatMap (·.1)):=by
  obtain ⟨A,B,e1,e2⟩:=pG (y:=jY g k) h;rw [e2,e1];simp only [fT,bJ,zQ1,List.append_nil,bU];refine List.Perm.append_left _ ?_;have h1:(g.1.getD k 0::g.1.eraseIdx k).Perm g.1:=jQ g.1 k 0 hk;have h2:((jY g k).1++(B.flatMap (·.1)++(mY g k).1)).Perm ((mY g k).1++((jY g k).1++B.flatMap (·.1))):=by
    rw [← bU];exact xY
  refine h2.trans ?_;rw [← bU];exact List.Perm.append_right _ h1
theorem OZ {n:Nat}{o:List G}{i k:Nat}{g:G}(ok:nX n o) (h:o[i]? = some g) (hc:gX g=some k):nX n (o.set i (jY g k)++[mY g k]):=by
  have hg:=aH h;have hk:=(jE hc).2.2.1;have hb:=IQ h hk;have hm:∀ x,x∈o.set i (jY g k)++[mY g k]→x∈o∨x=jY g k∨x=mY g k:=fun x hx=>by
    rcases bG.1 hx with hx | hx
    · rcases fQ hx with hx | hx
      · exact .inl hx
      · exact .inr (.inl hx)
    · exact .inr (.inr (bH.1 hx))
  refine ⟨fun x hx=>?_,hb.nodup_iff.2 ok.nd,by rw [hb.length_eq];exact ok.ln,fun x hx=>?_⟩
  · rcases hm x hx with hx | rfl | rfl
    · exact ok.ok x hx
    · exact (ok.ok g hg).rest hc
    · exact (ok.ok g hg).one hc
  · rcases hm x hx with hx | rfl | rfl
    · exact ok.ws x hx
    · have:=tR (g.2.map fun w=>(w.1.eraseIdx k,w.2.1,w.2.2.eraseIdx k));rw [aX] at this;exact bY this (ok.ws g hg)
    · show 1≤2000;omega
theorem SO {o:List G}{i k:Nat}{g:G}(h:o[i]? = some g) (hc:gX g=some k):((o.set i (jY g k)++[mY g k]).flatMap uY).Perm (o.flatMap uY):=by
  obtain ⟨A,B,e1,e2⟩:=pG (y:=jY g k) h;rw [e2,e1];simp only [fT,bJ,zQ1,List.append_nil,bU,MB hc,SH];refine List.Perm.append_left _ ?_;rw [← bU];exact xY
def zQ2 (o:List G):Nat:=(o.map fun g=>g.1.length-1).sum
theorem UW {o p:List G}(h:p.Perm o):zQ2 p=zQ2 o:=(h.map _).sum_nat
theorem XI {o:List G}{i k:Nat}{g:G}(h:o[i]? = some g) (hc:gX g=some k):zQ2 (o.set i (jY g k)++[mY g k])+1=zQ2 o:=by
  obtain ⟨A,B,e1,e2⟩:=pG (y:=jY g k) h;obtain ⟨h1,_,h3,_⟩:=jE hc;have e:(jY g k).1.length=g.1.length-1:=by show (g.1.eraseIdx k).length=_;rw [fJ,if_pos h3]
  rw [e2,e1];unfold zQ2;simp only [dJ,List.map_cons,List.map_nil,List.sum_append,yJ2,List.sum_nil,e];have:(mY g k).1.length=1:=rfl;omega
structure oY (n:Nat) (L o:List G) (i:Nat):Prop where
  ok:nX n o
  up:KT o
  fl:(o.flatMap uY).Perm (L.flatMap uY)
  hi:i≤o.length
  no:∀ (j:Nat) (g:G),j<i→o[j]? = some g→gX g=none
theorem oY.start {n:Nat}{L:List G}(ok:nX n L) (up:KT L):oY n L L 0:=⟨ok,up,.refl _,cC _,fun j g h=>absurd h (cW _)⟩
theorem oY.keep {n:Nat}{L o:List G}{i:Nat}{g:G}(p:oY n L o i) (h:o[i]? = some g) (hc:gX g=none):oY n L o (i+1) where
  ok:=p.ok
  up:=p.up
  fl:=p.fl
  hi:=(aB.1 h).1
  no j x hj hx:=by
    rcases iR j i with h' | h'
    · exact p.no j x h' hx
    · obtain rfl:j=i:=by omega
      rw [h] at hx;cases hx;exact hc
theorem oY.next {n:Nat}{L o:List G}{i k:Nat}{g:G}(p:oY n L o i) (h:o[i]? = some g) (hc:gX g=some k):oY n L (DG o i k g) 0 where
  ok:=(OZ p.ok h hc).perm (dZ _ _)
  up:=rT _
  fl:=((dZ cG _).flatMap_right _).trans ((SO h hc).trans p.fl)
  hi:=cC _
  no j g h:=absurd h (cW _)
theorem oY.fin {n:Nat}{L o:List G}{i:Nat}(p:oY n L o i) (hi:o.length≤i):sI L=o:=by
  have e:o.flatMap uY=o:=by
    have:∀ g,g∈o→uY g=[g]:=fun g hg=>by
      obtain ⟨j,hj,e⟩:=iU.1 hg;exact Y3 (p.no j g (by omega) (by rw [aA hj,e]))
    clear p hi
    induction o with
    | nil=>rfl
    | cons g o ih=>rw [bJ,this g aR,ih fun g h=>this g (aL _ h)];rfl
  have hp:=p.fl;rw [e] at hp;show eH cG (L.flatMap uY)=o;exact HR (p.ok.dist.perm hp.symm) hp p.up
theorem VM {l:List G}{k:Nat}(h:k<l.length):nN (l.take (k+1))=nN (l.take k)+iX l[k]:=by
  unfold nN;rw [aM h,dJ,List.sum_append];simp
theorem ER:∀ {l:List G},(∀ g,g∈l→0≤iX g∧iX g≤4000000)→0≤nN l∧nN l≤4000000*l.length
  | [],_=>by simp [nN]
  | g::l,h=>by
    have h1:=h g aR;have h2:=ER (l:=l) fun g hg=>h g (aL _ hg);have e:nN (g::l)=iX g+nN l:=by simp [nN]
    rw [e,List.length_cons];omega
abbrev kN (c:Cx) (gs:List G):List AV:=[.i c.m,.i c.st,.i c.er,.i c.sl,.rowE (fF c.ks) 2,.rowE (iF c.ls) 3,.rowE (dY c.bs) 3,.rowE (kB gs) 2]
theorem TA (c:Cx) (r:Int) (l:List W):gE (fun w=>decide (w.2.1+r > c.m)) l=l.filter fun w=>decide (w.2.1+r≤c.m):=by
  unfold gE;congr 1;funext w;show (!decide (w.2.1+r > c.m))=decide (w.2.1+r≤c.m);by_cases h:w.2.1+r≤c.m
  · rw [decide_eq_true h,decide_eq_false (by omega)];rfl
  · rw [decide_eq_false h,decide_eq_true (by omega)];rfl
theorem SJ {c:Cx}{all:List G}{k:Nat}(h:k<all.length):(paid c all).take (k+1)=(paid c all).take k++[(all[k].1,gE (fun w=>decide (w.2.1+(nN all-iX all[k]) > c.m)) all[k].2)]:=by
  rw [TA];unfold paid;rw [← jO,← jO,aM h,dJ];rfl
theorem WW (c:Cx) (all:List G):(paid c all).length=all.length:=by unfold paid;rw [aX]
theorem L8 (c:Cx) (all:List G):(paid c all).flatMap (·.1)=all.flatMap (·.1):=by
  unfold paid;rw [BL]
theorem uB.sub {n:Nat}{g:G}(h:uB n g){ws:List W}(hs:∀ w,w∈ws→w∈g.2):uB n (g.1,ws):=⟨h.ne,h.up,h.rg,h.ln,fun w hw=>h.ws w (hs w hw),fun w v hw hv=>h.same w v (hs w hw) (hs v hv)⟩
theorem nX.paid {n:Nat}{all:List G}(h:nX n all) (c:Cx):nX n (paid c all) where
  ok g hg:=by
    obtain ⟨x,hx,rfl⟩:=bB.1 hg;exact (h.ok x hx).sub fun w hw=>(nL.1 hw).1
  nd:=by rw [L8];exact h.nd
  ln:=by rw [L8];exact h.ln
  ws g hg:=by
    obtain ⟨x,hx,rfl⟩:=bB.1 hg;exact bY (nF _ _) (h.ws x hx)
theorem NX {c:Cx}{all:List G}(h:KT all):KT (paid c all):=by
  unfold paid;refine zC7.2 (h.imp fun h=>h)
theorem DN {n:Nat}{g:G}(h:uB n g) (hne:g.2≠[]):0≤iX g∧iX g≤4000000:=by
  obtain ⟨w,hw,e⟩:=DM hne;have:=h.ws w hw;rw [← e];exact ⟨this.m0,this.m1⟩
end Go.Ld
namespace Go.Proofs.YtojgimibalokkaaGreat
open Go Go.Ab Go.Ld
attribute [local irreducible] VC AW cF aP
set_option maxHeartbeats 4000000
theorem zE7 (c:Cx) (gs:List G) (w:W) (r:Int) (h1:0≤w.2.1∧w.2.1≤4000000) (h2:-100000000≤r∧r≤100000000):aP Tryz.prog 77 [CG w,.pr [.i r] 0,.pr [.pr (kN c gs) 0] 0] [] (.b (decide (w.2.1+r > c.m))) []:=by
  refine bL T Tryz.func77 rfl rfl rfl rfl ?_
  (repeat' (first|refine wS ?_|refine wR ?_|(refine rg 0 (bS (bZ rfl rfl) rfl (aV ?_)))|(refine bO (id:=1) 15 [[],[0],[],[0,1,2],[],[4],[4,5],[4,5,6],rM 4 4,rN 9] (rM 5 10) [[],[],[5,6],[],rM 5 4,rM 5 4,rM 5 4,rM 5 4,rM 5 4,[]] cK rfl (by decide +kernel) (dP T rfl (dO T rfl (dO T rfl (dV rfl (bP rfl rfl (by omega) (by omega)) (dO T rfl (dV rfl (by exact eU rfl rfl) ?_))))));refine dP T rfl (dP T rfl (dO T rfl (dV rfl (dX rfl rfl) (dE ?_))));refine aV ?_)|refine nZ ?_));all_goals first | (exfalso;omega) | exact rQ
end Go.Proofs.YtojgimibalokkaaGreat
namespace Go.Ab
open Go
theorem NN {P : Program} {f : FuncId} {n : Nat} (hfn : ∃ fn, P.funcs[f]? = some fn ∧ (fn.name == "runtime.NumGoroutine") = false ∧ fn.body.isNone = false)
    (hs:∀ w:World,Calls P f #[.slice none 0 0,.int .i64 n] w fun e w'=>∃ (g:Nat) (cs:Array Value) (t:TypeId),e = .returned (.slice (some ⟨w.heap.size,0,none⟩) 0 g)∧g≤maxLen∧g≤cs.size∧w'=w.drew.alloc (.cells cs t)) :
    aP P f [.nils,.i n] [] (.sl 0 0 0 1) [.arr [] 1]:=by
  refine ⟨hfn,fun ρ S w vs s ha=>?_⟩
  simp only [RL,R] at ha;obtain ⟨y,_,rfl,rfl,y2,_,rfl,rfl,rfl⟩:=ha;refine (hs w).mono fun e w' ⟨g,cs,t,he,hg,hgc,hw⟩=>?_
  subst hw;have hnew:(w.drew.alloc (.cells cs t)).heap[w.heap.size]? = some (.cells cs t (0,0)):=(MapKept.heap_alloc w.drew _).1;obtain ⟨ρ',g1,g2,_⟩:=s.made (x:=.sl 0 0 0 1) (b:=.arr [] 1) (y:=.slice (some ⟨w.heap.size,0,none⟩) 0 g) (q:=some (w.heap.size,0)) ((nJ.drew1 w).trans (oC w.drew (.cells cs t) (fun _=>False)) (fun _ h=>h.elim)) (fun p hp=>by cases hp; exact ⟨aT _,by rw [World.size_alloc]; exact Nat.lt_succ_self _⟩)
    (fun ρ' e1 e2 l'=>⟨by simp only [R];exact ⟨_,_,rfl,hg,.inr ⟨_,_,e1,rfl,cC _,⟨cs,t,(0,0),hnew,by omega⟩⟩⟩,⟨(fun e he=>nomatch he),zS3,.inl ⟨rfl,fun b o hbo=>by cases hbo;exact ⟨cs,t,hnew⟩⟩⟩⟩)
  exact ⟨_,ρ',S,he,g1,g2⟩
end Go.Ab
namespace Go.Proofs.YtojgimibalokkaaGreat
open Go Go.Ab Go.Ld Go.Shelf Go.Proofs
attribute [local irreducible] VC AW cF aP
set_option maxHeartbeats 4000000
shelf_lay_g Lays8.n4 Nm8 4 at Tryz 96 as laysGrow
theorem zY0 (n:Nat) (h0:0<n) (h1:n≤1000000):aP Tryz.prog 96 [.nils,.i n] [] (.sl 0 0 0 1) [.arr [] 1]:=by
  obtain ⟨inf,z,t1,t2,t3,t4,t5,t6,t7⟩:=T.tiOk 3 _ rfl;have hz:z.cells.size=1:=by have:=congrArg List.length t5;simpa using this
  refine NN ⟨_,Tryz.func96,by kernel_rfl,by kernel_rfl⟩ (fun w=>?_)
  refine (Any8.slices_Grow_grow laysGrow inf z t1 t4 (by rw [t2];decide) none 0 0 n [] w (aT _) (by omega) (by rw [t3];simp;omega) (by omega) (by simp) (fun _=>rfl) (fun a h=>by cases h)).mono ?_
  rintro e w' ⟨rfl,rfl⟩;have hge:=grownCap_ge w (0+n) 0 3;refine ⟨_,_,_,rfl,grownCap_le_maxLen w _ _ _ (by unfold maxLen;omega),?_,rfl⟩
  simp only [Array.size_append,Builtin.zeroCells,Array.size_map,Array.size_range,hz,oA,List.length_nil];omega
theorem ZH (p q:List Int) (hp:0<p.length∧p.length≤1000) (hq:0<q.length∧q.length≤1000):aP Tryz.prog 55 [.rowE [[.rowE (ints p) 1],[.rowE (ints q) 1]] 1] [] (.rowE (ints (p++q)) 1) []:=by
  have hgr:=zY0 (p.length+q.length) (by omega) (by omega)
  rw [show ((p.length+q.length:Nat):Int)=(p.length:Int)+q.length by omega] at hgr
  have hlp:(ints p).length=p.length:=dH _;have hlq:(ints q).length=q.length:=dH _;have hpq:ints (p++q)=ints p++ints q:=dJ;have hle:∀ e,e∈[[AV.rowE (ints p) 1],[AV.rowE (ints q) 1]]→e.length=1:=by intro e he;simp at he;rcases he with rfl | rfl <;> rfl
  have g0:[[AV.rowE (ints p) 1],[AV.rowE (ints q) 1]][((0:Nat):Int).toNat]? = some [AV.rowE (ints p) 1]:=rfl;have g1:[[AV.rowE (ints p) 1],[AV.rowE (ints q) 1]][((1:Nat):Int).toNat]? = some [AV.rowE (ints q) 1]:=rfl;refine jS (by rw [dH]:(p++q).length=(ints (p++q)).length) (iG (cJ _)) ?_
  rw [hpq,aF];have o1:=sQ p;have o2:=sQ q;have n1:=ints_len p;have n2:=ints_len q;have i1:=cJ p;have i2:=cJ q;generalize ints p=P' at *;generalize ints q=Q' at *;obtain ⟨sz,s0,s1,s2⟩:∃ sz:Nat→Int,sz 0=0∧sz 1=P'.length∧sz 2=P'.length+Q'.length:=⟨fun k=>if k=0 then 0 else if k=1 then (P'.length:Int) else P'.length+Q'.length,by simp,by simp,by simp⟩
  obtain ⟨cc,c0,c1,c2⟩:∃ cc:Nat→List (List AV),cc 0=[]∧cc 1=P'∧cc 2=P'++Q':=⟨fun k=>if k=0 then [] else if k=1 then P' else P'++Q',by simp,by simp,by simp⟩
  refine bL T Tryz.func55 rfl rfl rfl rfl ?_
  (repeat' (first|refine wS ?_|refine wB ?_|(refine rg 0 (aV ?_))|(refine rg 1 (aV ?_))|(refine rg 2 (mW rfl (qW T rfl (mV ?_))))|refine nZ ?_));refine cX (X:={k:Nat // k≤2}) (fun k=>[(0,.rowE [[.rowE P' 1],[.rowE Q' 1]] 1),(3,.i (sz k.1)),(9,.rowE [[.rowE P' 1],[.rowE Q' 1]] 1),(10,.i 2),(11,.i k.1)]) (fun _=>[]) (fun k=>2-k.1) ⟨0,by omega⟩ ⟨[],rfl,⟨rfl,by rw [s0];rfl,rfl,rfl,rfl,trivial⟩,trivial,bK,kP _⟩ ?_
  rintro ⟨k,hk⟩;dsimp only;rcases (by omega:k=0∨k=1∨k=2) with rfl | rfl | rfl
  · (repeat' (first|refine wS ?_|refine wB ?_|refine wK ?_|refine rA rfl ?_|(refine wC rfl (fun hb=>?_) (fun hb=>?_) <;> (((try simp only [nm] at hb);try (exfalso;omega))))|(refine rg 3 (vV (aK rfl rfl) ?_))|(refine rg 4 (vV (ix T rfl (by omega) hle g0) (lW T rfl (aV ?_))))|(refine rg 5 (dR rfl (qW T rfl (vV (bP rfl rfl (by omega) (by omega)) (aV ?_)))))|(refine rg 6 (mW rfl (vV (aK rfl rfl) ?_)))|(refine rg 8 (vV (bP rfl rfl (by omega) (by omega)) (mV ?_)))|(refine nZ ?_)));all_goals first | (exfalso;omega) | exact ⟨⟨1,by omega⟩,by dsimp only;omega,[],rfl,⟨rfl,by dsimp only;rw [show sz 1=sz 0+P'.length by omega];rfl,rfl,rfl,rfl,trivial⟩,trivial,bK,kP _⟩
  · (repeat' (first|refine wS ?_|refine wB ?_|refine wK ?_|refine rA rfl ?_|(refine wC rfl (fun hb=>?_) (fun hb=>?_) <;> (((try simp only [nm] at hb);try (exfalso;omega))))|(refine rg 3 (vV (aK rfl rfl) ?_))|(refine rg 4 (vV (ix T rfl (by omega) hle g1) (lW T rfl (aV ?_))))|(refine rg 5 (dR rfl (qW T rfl (vV (bP rfl rfl (by omega) (by omega)) (aV ?_)))))|(refine rg 6 (mW rfl (vV (aK rfl rfl) ?_)))|(refine rg 8 (vV (bP rfl rfl (by omega) (by omega)) (mV ?_)))|(refine nZ ?_)));all_goals first | (exfalso;omega) | exact ⟨⟨2,by omega⟩,by dsimp only;omega,[],rfl,⟨rfl,by dsimp only;rw [show sz 2=sz 1+Q'.length by omega];rfl,rfl,rfl,rfl,trivial⟩,trivial,bK,kP _⟩
  · rw [← hlp,← hlq,← s2] at hgr
    (repeat' (first|refine wS ?_|refine wB ?_|refine wE ?_|refine wU ?_|(refine rg 3 (vV (aK rfl rfl) ?_))|(refine rg 9 (mW rfl (bS (by exact hO rfl rfl hgr (.inr ⟨rfl,rfl,by simp⟩)) rfl ?_));refine aV ?_)|(refine rg 10 (mW rfl (qW T rfl (mV ?_))))|refine nZ ?_));all_goals try (exfalso;omega)
    refine cX (X:={k:Nat // k≤2}) (fun k=>[(6,.sl 0 0 (cc k.1).length 1),(25,.rowE [[.rowE P' 1],[.rowE Q' 1]] 1),(26,.i 2),(27,.i k.1)]) (fun k=>[.arr (cc k.1) 1]) (fun k=>2-k.1) ⟨0,by omega⟩ ⟨[0],rfl,⟨by dsimp only;rw [c0];rfl,rfl,rfl,rfl,trivial⟩,⟨.inr (aE rfl (by dsimp only;rw [c0];rfl) (by rw [c0];intro e he;cases he)),trivial⟩,by decide,kP _⟩ ?_
    clear hk;rintro ⟨k,hk⟩;dsimp only;rcases (by omega:k=0∨k=1∨k=2) with rfl | rfl | rfl
    · rw [c0]
      (repeat' (first|refine wS ?_|refine wB ?_|refine wK ?_|refine wT ?_|(refine rg 11 (vV (aK rfl rfl) ?_))|(refine rg 12 (vV (ix T rfl (by omega) hle g0) (lW T rfl (aV ?_))))|(refine rg 13 (dR rfl (gD T rfl rfl rfl rfl rfl rfl (by simp) (.row n1) o1 (by simp;omega) (by simp;omega) rfl ?_));refine aV ?_)|(refine rg 14 (vV (bP rfl rfl (by omega) (by omega)) (mV ?_)))|refine nZ ?_));all_goals first | (exfalso;omega) | skip
      exact ⟨⟨1,by omega⟩,by dsimp only;omega,⟨[1],rfl,⟨by dsimp only;rw [c1];show some (AV.sl 1 0 (0+P'.length) 1)=some (AV.sl 1 0 P'.length 1);rw [Nat.zero_add],rfl,rfl,rfl,trivial⟩,⟨.inr (aE rfl (by dsimp only;rw [c1];rfl) (by rw [c1];exact i1)),trivial⟩,by decide,kP _⟩⟩
    · rw [c1]
      (repeat' (first|refine wS ?_|refine wB ?_|refine wK ?_|refine wT ?_|(refine rg 11 (vV (aK rfl rfl) ?_))|(refine rg 12 (vV (ix T rfl (by omega) hle g1) (lW T rfl (aV ?_))))|(refine rg 13 (dR rfl (gD T rfl rfl rfl rfl rfl rfl (by omega) (.row n2) o2 (by (simp;omega)) (by omega) rfl ?_));refine aV ?_)|(refine rg 14 (vV (bP rfl rfl (by omega) (by omega)) (mV ?_)))|refine nZ ?_));all_goals first | (exfalso;omega) | skip
      exact ⟨⟨2,by omega⟩,by dsimp only;omega,⟨[1],rfl,⟨by dsimp only;rw [c2,aF];rfl,rfl,rfl,rfl,trivial⟩,⟨.inr (aE rfl (by dsimp only;rw [c2,lN,cQ]) (by rw [c2];intro e he;rcases bG.1 he with he | he;exact i1 e he;exact i2 e he)),trivial⟩,by decide,kP _⟩⟩
    · rw [c2,aF]
      (repeat' (first|refine wS ?_|refine wR ?_|refine wE ?_|refine wU ?_|(refine rg 11 (vV (aK rfl rfl) ?_))|(refine rg 15 (mW rfl (aV ?_)))|refine nZ ?_));all_goals first | (exfalso;omega) | exact ⟨.inl rfl,[0],_,rfl,by rw [hlp,hlq];rfl,rfl,⟨.inr (aE rfl rfl (by intro e he;rcases bG.1 he with he | he;exact i1 e he;exact i2 e he)),trivial⟩,by decide,kP _⟩
theorem KE (l:List G) (hl:l.length≤1000000):aP Tryz.prog 24 [.rowE (kB l) 2] [] (.sl 0 0 l.length 2) [.arr (kB l) 2]:=by
  have hll:(kB l).length=l.length:=kE l;refine bL T Tryz.func24 rfl rfl rfl rfl ?_
  repeat' (first|refine wS ?_|refine wK ?_|refine wT ?_|refine wU ?_|(refine rg 0 (aV ?_))|(refine rg 1 (mV ?_);refine sA T rfl rfl rfl rfl fun b hb=>?_;cases b)|refine nZ ?_)
  · (repeat' (first|refine wR ?_|(refine rg 3 (bS (by exact bF T rfl rfl (by decide) (by decide) rfl rfl rfl) rfl ?_);refine mW rfl (gD T rfl rfl rfl rfl rfl rfl (by decide) (.row (qJ l)) (YK l) (by simp;omega) (by simp;omega) rfl ?_);refine aV ?_)|(refine nZ ?_)));exact ⟨.inl rfl,[1],_,rfl,(by show AV.sl 1 0 (0+(kB l).length) 2=AV.sl 1 0 l.length 2;simp),rfl,⟨.inr (aE rfl rfl (eO _)),trivial⟩,by decide,K8⟩
  · have hl0:l=[]:=fP.1 (Classical.byContradiction fun h=>by have:=hb (by omega);cases this)
    subst hl0
    (repeat' (first|refine wR ?_|(refine rg 2 (vV (dS rfl) (rY 2 2 rfl (by decide) ?_)))|refine nZ ?_));exact ⟨.inl rfl,[0],_,rfl,rfl,rfl,⟨.inr (aE rfl rfl (eO _)),trivial⟩,by decide,K8⟩
theorem zN3 (g:G) (b:Int) (h:g.1.length≤1000000):aP Tryz.prog 59 [UQ g,.pr [.i b] 0] [] (.b (decide (b∈g.1))) []:=by
  have hc:=xE g.1 b (by omega)
  refine bL T Tryz.func59 rfl rfl rfl rfl ?_
  (repeat' (first|refine wS ?_|refine wR ?_|(refine rg 0 (bS (bZ rfl rfl) rfl (aV ?_)))|(refine rg 1 (fR T rfl (lW T rfl (vV (kC (hc)) (aV ?_)))))|refine nZ ?_));all_goals first | (exfalso;omega) | exact rQ
theorem sV (l:List G) (b:Int) (hl:l.length≤1000000) (hg:∀ g,g∈l→g.1.length≤1000000):aP Tryz.prog 26 [.rowE (kB l) 2,.i b] [] (.i (nS l b)) []:=by
  have hc:=zR2 (caps:=[.pr [.i b] 0]) (p:=fun g=>decide (b∈g.1)) hl rfl (fun x hx=>zN3 x b (hg x hx));have e:oS (fun g:G=>decide (b∈g.1)) l 0=nS l b:=by
    rw [DO];unfold nS;cases l.findIdx? fun g=>decide (b∈g.1) with
    | none=>rfl
    | some i=>simp
  rw [e] at hc;generalize nS l b=v at *;refine bL T Tryz.func26 rfl rfl rfl rfl ?_
  (repeat' (first|refine wS ?_|refine wR ?_|(refine rg 0 (bS (bZ rfl rfl) rfl (aV ?_)))|(refine rg 1 (mW rfl (vV (by exact gI rfl rfl) ?_));refine vV (by exact eC rfl rfl hc (.cons (.row _ _ _) (.cons (.clo .nil (.cons (.ptr rfl (.cons (.v _) .nil)) .nil)) .nil)) rfl rfl) ?_;refine aV ?_)|refine nZ ?_));all_goals first | (exfalso;omega) | exact rQ
end Go.Proofs.YtojgimibalokkaaGreat
namespace Go.Ld
open Go.Ab Go.Proofs.YtojgimibalokkaaGreat
theorem JU {α β:Type}{f:α→List β}{n:Nat}:∀ (l:List α) (hf:∀ x,x∈l→(f x).length=n) (i j:Nat) (hi:i<l.length) (hj:j<n),(l.flatMap f)[n*i+j]? = (f l[i])[j]?
  | [],hf,i,j,hi,hj=>by simp at hi
  | x::l,hf,0,j,hi,hj=>by
    rw [bJ,Nat.mul_zero,Nat.zero_add,aG (by rw [hf x aR];exact hj)];rfl
  | x::l,hf,i+1,j,hi,hj=>by
    have h1:=hf x aR;rw [bJ,aD (by rw [h1,zC5];omega),h1,show n*(i+1)+j-n=n*i+j by rw [zC5];omega]
    exact JU l (fun x hx=>hf x (aL _ hx)) i j (by simpa using hi) hj
theorem JQ {α β:Type}{f:α→List β}{n:Nat}:∀ (l:List α) (hf:∀ x,x∈l→(f x).length=n),(l.flatMap f).length=n*l.length
  | [],hf=>by simp
  | x::l,hf=>by
    rw [bJ,aF,hf x aR,JQ l (fun x hx=>hf x (aL _ hx)),List.length_cons,zC5];omega
theorem DA (a b:G) (l:List Int):(oZ a b l).length=b.2.length*a.2.length:=JQ _ fun x _=>aX _
theorem SI {a b:G}{l:List Int}{i j:Nat}(hi:i<a.2.length) (hj:j<b.2.length):(oZ a b l)[b.2.length*i+j]? = some (D1 a b a.2[i] b.2[j] l):=by
  unfold oZ;rw [JU _ (fun x _=>aX _) i j hi hj];simp [hj]
theorem B0:∀ (l:List Int) (v:Int) (k:Nat),v∈l→wW l v k=((k+l.idxOf v:Nat):Int)
  | [],v,k,h=>by cases h
  | x::l,v,k,h=>by
    unfold wW;by_cases e:v=x
    · rw [if_pos e,e,List.idxOf_cons_self];rfl
    · have e':(x::l).idxOf v=l.idxOf v+1:=by rw [List.idxOf_cons,beq_eq_false_iff_ne.2 (fun h=>e h.symm)];rfl
      rw [if_neg e,show ((k:Int)+1)=((k+1:Nat):Int) by omega,B0 l v (k+1) (by rcases bT.1 h with h | h;exact absurd h e;exact h),e']
      omega
theorem PM:∀ (l:List Int) (v k:Int),v∉l→wW l v k = -1
  | [],v,k,h=>rfl
  | x::l,v,k,h=>by
    unfold wW;rw [if_neg (fun e:v=x=>h (by rw [e];exact aR)),PM l v (k+1) (fun q=>h (aL _ q))]
def X8 (a b:G) (l:List Int) (k:Nat):List AV:=match (oZ a b l)[k]? with
  | some w=>[.agg (wA w)]
  | none=>[]
theorem WO {a b:G}{l:List Int}{i j:Nat}(hi:i<a.2.length) (hj:j<b.2.length):X8 a b l (b.2.length*i+j)=[.agg (wA (D1 a b a.2[i] b.2[j] l))]:=by
  unfold X8;rw [SI hi hj]
theorem HK {α β:Type}{f:α→β}{l:List α}{m:Nat}(h:m<l.length):(l.map f).take (m+1)=(l.map f).take m++[f l[m]]:=by
  rw [aM (by simpa using h)];simp
end Go.Ld
namespace Go.Proofs.YtojgimibalokkaaGreat
open Go Go.Ab Go.Ld
attribute [local irreducible] VC AW cF aP AY VY BO kG
set_option maxHeartbeats 4000000
abbrev zV0 (a b:G) (l:List Int):AV:=.clo (.func 97) [] [.pr (gA a) 0,.pr (gA b) 0,.pr [.rowE (ints l) 1] 0]
theorem zH6 (a b:G) (l:List Int):aP Tryz.prog 56 [UQ a,UQ b,.rowE (ints l) 1] [] (zV0 a b l) []:=by
  refine xK (res:=.clo (.func 97) [] [.ptr 0 0,.ptr 1 0,.ptr 2 0]) (hout:=[.cells (gA a),.cells (gA b),.cells [.rowE (ints l) 1]]) ?_ (.clo .nil (.cons (.ptr rfl (.cons (.row _ _ _) (.cons (.row _ _ _) .nil))) (.cons (.ptr rfl (.cons (.row _ _ _) (.cons (.row _ _ _) .nil))) (.cons (.ptr rfl (.cons (.row _ _ _) .nil)) .nil))));refine bL T Tryz.func56 rfl rfl rfl rfl ?_
  (repeat' (first|refine wS ?_|refine wR ?_|(refine rg 0 (bS (bZ rfl rfl) rfl (bS (bZ rfl rfl) rfl (bS (bZ rfl rfl) rfl (aV ?_)))))|(refine rg 1 (vV (by exact gI rfl rfl) ?_);refine aV ?_)|refine nZ ?_));all_goals exact ⟨.inl rfl,[0,1,2],_,rfl,rfl,rfl,⟨.inr rfl,.inr rfl,.inr rfl,trivial⟩,by decide,kP _⟩
theorem WV (a b:G) (l:List Int) (sa:yB1 a) (sb:yB1 b) (hl:l.length≤1000) (hm:∀ k,k∈l→k∈a.1∨k∈b.1) (h1:∀ w,w∈a.2→0≤w.2.1∧w.2.1≤4000000) (h2:∀ w,w∈b.2→0≤w.2.1∧w.2.1≤4000000) :
    BO Tryz.prog 97 [] [.pr (gA a) 0,.pr (gA b) 0,.pr [.rowE (ints l) 1] 0] [] (X8 a b l) (oZ a b l).length:=by
  have hnn:=DA a b l;have hla:(wsA a.2).length=a.2.length:=eZ _;have hlb:(wsA b.2).length=b.2.length:=eZ _;have hll:(ints l).length=l.length:=dH _;have hwa:=sa.w;have hwb:=sb.w;refine zS1 T Tryz.func97 rfl rfl rfl rfl ?_;intro J A y hJ hy
  (repeat' (first|(first|(refine xG ?_)|(refine zL ?_))|(((refine qE hJ (eS (id:=0) ?_)));(all_goals (refine AC T ?_;(refine qV T ?_);refine mV ?_)))|refine nZ ?_));refine GH (X:={i:Nat // i≤a.2.length}) (fun i=>[(0,.clo (.yield y) [] []),(1,.pr (gA a) 0),(2,.pr (gA b) 0),(3,.pr [.rowE (ints l) 1] 0),(15,.rowE (wsA a.2) 3),(16,.i (wsA a.2).length),(17,.i i.1)]) (fun _=>[]) (fun i=>(b.2.length*i.1,false)) (fun i=>a.2.length-i.1) ⟨0,cC _⟩ rfl (fU []) ?_
  rintro ⟨i,hi⟩;dsimp only;by_cases hlt:i<a.2.length
  · have ga:=tJ hlt;have hx:=sa.p _ (aI hlt);have hx2:=sa.c _ (aI hlt);have hx3:=h1 _ (aI hlt);have hpi:=fun (j:Nat) (hj:j<b.2.length)=>WO (a:=a) (b:=b) (l:=l) hlt hj;generalize a.2[i]=x at *
    (repeat' (first|(first|(refine xG ?_)|(refine zL ?_)|(refine U2 ?_))|((refine xH rfl (fun hb=>?_) (fun hb=>?_)<;>(((try simp only [nm] at hb);try ((exfalso;omega);done)))))|(((refine qE hJ (eS (id:=1) ?_)));(all_goals (refine vV (aK rfl rfl) ?_)))|(((refine qE hJ (eS (id:=2) ?_)));(all_goals (refine vV (ix T rfl (by omega) (nH _) ga) ?_;refine lV T ?_;refine bS (bM T rfl) rfl ?_;refine aU T rfl rfl rfl rfl rfl rfl (by decide) rfl ?_)))|(((refine qE hJ (eS (id:=3) ?_)));(all_goals (refine AC T ?_;(refine qV T ?_);refine mV ?_)))|refine nZ ?_));all_goals try (exfalso;omega)
    refine GH (X:={j:Nat // j≤b.2.length}) (fun j=>[(0,.clo (.yield y) [] []),(1,.pr (gA a) 0),(2,.pr (gA b) 0),(3,.pr [.rowE (ints l) 1] 0),(6,.ptr 0 0),(15,.rowE (wsA a.2) 3),(16,.i (wsA a.2).length),(17,.i i),(22,.rowE (wsA b.2) 3),(23,.i (wsA b.2).length),(24,.i j.1)]) (fun _=>[.cells (wA x)]) (fun j=>(b.2.length*i+j.1,false)) (fun j=>b.2.length-j.1) ⟨0,cC _⟩ rfl ⟨[0],rfl,(by repeat first|exact trivial|refine ⟨rfl,?_⟩),⟨.inr rfl,trivial⟩,by decide,kP _⟩ ?_
    rintro ⟨j,hj⟩;dsimp only;by_cases hjl:j<b.2.length
    · have gb:=tJ hjl;have hy1:=sb.p _ (aI hjl);have hy2:=sb.c _ (aI hjl);have hy3:=h2 _ (aI hjl);have hit:=hpi j hjl;have hk:b.2.length*i+j<(oZ a b l).length:=by
        rw [hnn];have:=Nat.mul_le_mul_left b.2.length (show i+1≤a.2.length by omega)
        rw [zC5] at this;omega
      generalize b.2[j]=z at *
      (repeat' (first|(first|(refine xG ?_)|(refine zL ?_)|(refine U2 ?_))|((refine xH rfl (fun hb=>?_) (fun hb=>?_)<;>(((try simp only [nm] at hb);try ((exfalso;omega);done)))))|(((refine qE hJ (eS (id:=4) ?_)));(all_goals (refine vV (aK rfl rfl) ?_)))|(((refine qE hJ (eS (id:=5) ?_)));(all_goals (refine vV (ix T rfl (by omega) (nH _) gb) ?_;refine lV T ?_;refine bS (bM T rfl) rfl ?_;refine aU T rfl rfl rfl rfl rfl rfl (by decide) rfl ?_)))|(((refine qE hJ (eS (id:=6) ?_)));(all_goals (refine AC T ?_;refine AC T ?_;refine vV (bP rfl rfl (by omega) (by omega)) ?_;refine vV (by exact gG T rfl rfl rfl rfl) ?_;refine bS (bM T rfl) rfl ?_;refine aU T rfl rfl rfl rfl rfl rfl (by decide) rfl ?_)))|(((refine qE hJ (eS (id:=7) ?_)));(all_goals (refine lV T ?_;(refine qV T ?_);refine mV ?_)))|refine nZ ?_));all_goals try (exfalso;omega)
      refine qE hJ ?_;refine xI 2 0 1 rfl rfl (by decide) ?_
      refine xI 2 2 2 rfl rfl (by decide) ?_
      let fp:Int→Int:=fun k=>if k∈a.1 then gP x (a.1.idxOf k) else gP z (b.1.idxOf k)
      let fc:Int→SP:=fun k=>if k∈a.1 then gC x (a.1.idxOf k) else gC z (b.1.idxOf k)
      have hw:D1 a b x z l=(l.map fp,x.2.1+z.2.1,l.map fc):=rfl;rw [hw] at hit;have hplen:(l.map fp).length=l.length:=aX _;have hclen:(l.map fc).length=l.length:=aX _;have hpt:∀ m (h:m<l.length),(l.map fp).take (m+1)=(l.map fp).take m++[fp l[m]]:=fun m h=>HK h
      have hct:∀ m (h:m<l.length),(l.map fc).take (m+1)=(l.map fc).take m++[fc l[m]]:=fun m h=>HK h
      have hfa:∀ k,k∈a.1→fp k=x.1.getD (a.1.idxOf k) 0∧fc k=x.2.2.getD (a.1.idxOf k) (0,0):=fun k h=>⟨if_pos h,if_pos h⟩
      have hfb:∀ k,k∉a.1→fp k=z.1.getD (b.1.idxOf k) 0∧fc k=z.2.2.getD (b.1.idxOf k) (0,0):=fun k h=>⟨if_neg h,if_neg h⟩
      clear_value fp fc
      clear hw;generalize l.map fp=PP at *;generalize l.map fc=CC at *;refine cX (X:={m:Nat // m≤l.length}) (fun m=>[(0,.clo (.yield y) [] []),(1,.pr (gA a) 0),(2,.pr (gA b) 0),(3,.pr [.rowE (ints l) 1] 0),(6,.ptr 0 0),(8,.ptr 1 0),(9,.ptr 2 0),(15,.rowE (wsA a.2) 3),(16,.i (wsA a.2).length),(17,.i i),(22,.rowE (wsA b.2) 3),(23,.i (wsA b.2).length),(24,.i j),(34,.rowE (ints l) 1),(35,.i (ints l).length),(36,.i m.1)])
        (fun m=>[.cells (wA x),.cells (wA z),.cells [.sl 3 0 m.1 1,.i (x.2.1+z.2.1),.sl 4 0 m.1 2],.arr (ints (PP.take m.1)) 1,.arr (fI (CC.take m.1)) 2]) (fun m=>l.length-m.1) ⟨0,cC _⟩ ⟨[0,1,2,3,4],rfl,(by repeat first|exact trivial|refine ⟨rfl,?_⟩),⟨.inr rfl,.inr rfl,.inr rfl,.inr rfl,.inr rfl,trivial⟩,by decide,kP _⟩ ?_
      rintro ⟨m,hm'⟩;dsimp only;have hTp:(ints (PP.take m)).length=m:=by rw [dH,bE];omega
      have hTc:(fI (CC.take m)).length=m:=by rw [iE,bE];omega
      by_cases hml:m<l.length
      · have hgl:=PG hml;have hkm:=hm l[m] (aI hml);have hp1:=hpt m hml;have hc1:=hct m hml;generalize l[m]=k at *;by_cases hka:k∈a.1
        · obtain ⟨e1,e2⟩:=hfa k hka;have hix:=pR a.1 k (by have:=sa.b;omega)
          have hxi:wW a.1 k 0=((a.1.idxOf k:Nat):Int):=by have:=B0 a.1 k 0 hka;simpa using this
          rw [hxi] at hix;have hio:=gR hka;generalize a.1.idxOf k=ia at *;have qp:=nK (l:=x.1) (j:=(ia:Int)) (i:=ia) 0 (by omega) rfl
          have qc:=uS (l:=x.2.2) (j:=(ia:Int)) (i:=ia) (by omega) rfl
          have hlp:(ints x.1).length=x.1.length:=dH _;have hlc:(fI x.2.2).length=x.2.2.length:=iE _;rw [← e1] at qp;rw [← e2] at qc;have hPs:ints (PP.take (m+1))=ints (PP.take m)++[[AV.i (fp k)]]:=by rw [hp1,M9]
          have hCs:fI (CC.take (m+1))=fI (CC.take m)++[[AV.i (fc k).1,AV.i (fc k).2]]:=by rw [hc1,fI,dJ];rfl
          generalize ints (PP.take m)=P0 at *;generalize fI (CC.take m)=C0 at *;generalize fp k=vp at *;generalize fc k=vc at *
          (repeat' (first|refine wS ?_|refine wB ?_|refine wK ?_|refine wU ?_|(refine wC rfl ?_ ?_<;>(intro hb;(try simp only [nm] at hb);try (exfalso;omega)))|(refine rg 8 (vV (aK rfl rfl) ?_))|(refine rg 9 (vV (ix T rfl (by omega) (ints_len _) hgl) (lW T rfl (aV ?_))))|(refine sX (id:=10) 6 79 [[],[],[1],[],[1,2,3],[],rN 6,rN 7] [[],[],[1],[],[1,2,3],[]] [40,41,42,43,44,12] [[],[40],[40],[40,41,42],[40],rM 40 5] cK rfl (by decide +kernel) (by decide +kernel) ?_;(dsimp only [List.take,List.drop]);refine dO T rfl (dP T rfl (dO T rfl (dN rfl (dV rfl (kC (hix)) (uL rfl rfl rfl (by exact bM T rfl) rfl ?_)))));refine FY rfl rfl (by ((dsimp only [List.nil_append,List.cons_append,List.append_nil,List.length_cons,List.length_nil,List.set_cons_zero,List.set_cons_succ,List.map_cons,List.map_nil,jZ,mJ,mO,qN,LO,E3,V7,V5,V4,V6,E2,E5,E1,E4,Nat.zero_add,Nat.add_zero,Nat.reduceAdd,Bool.not_true,Bool.not_false];done))) ?_;refine iD ?_;refine aU T rfl rfl rfl rfl rfl rfl (by decide) rfl (aV ?_))|(refine rg 11 (mW rfl (vV (aK rfl rfl) ?_)))|(refine vO (id:=13) 79 yN6 (rM 52 19) yN7 [(8,3),(17,4),(19,2)] cK rfl (by decide +kernel) (fS rfl rfl rfl rfl (by exact cY T rfl rfl rfl) ?_);refine fS rfl rfl rfl rfl (by exact bD T rfl rfl rfl rfl) ?_;refine fS rfl rfl rfl rfl (by exact cY T rfl rfl rfl) ?_;refine fS rfl rfl rfl rfl (by exact bD T rfl rfl rfl rfl) ?_;refine fS rfl rfl rfl rfl (by exact cP rfl) ?_;refine fS rfl rfl rfl rfl (by exact ix T rfl (by omega) (ints_len _) qp) ?_;refine fS rfl rfl rfl rfl (by exact bD T rfl rfl rfl rfl) ?_;refine Q6 rfl rfl rfl rfl (by exact bF T rfl rfl (by decide) (by decide) rfl rfl rfl) rfl ?_;refine zE rfl rfl rfl rfl (aS rfl) (by exact rX T rfl rfl rfl rfl rfl rfl (by omega) (kZ.whole rfl rfl) rfl (by simp;omega) (by simp;omega)) ?_;refine fS rfl rfl rfl rfl (by exact cY T rfl rfl rfl) ?_;refine fS rfl rfl rfl rfl (by exact bD T rfl rfl rfl rfl) ?_;refine fS rfl rfl rfl rfl (by exact cY T rfl rfl rfl) ?_;refine fS rfl rfl rfl rfl (by exact bD T rfl rfl rfl rfl) ?_;refine fS rfl rfl rfl rfl (by exact cP rfl) ?_;refine fS rfl rfl rfl rfl (by exact ix T rfl (by omega) (lB _) qc) ?_;refine fS rfl rfl rfl rfl (by exact bD T rfl rfl rfl rfl) ?_;refine Q6 rfl rfl rfl rfl (by exact bF T rfl rfl (by decide) (by decide) rfl rfl rfl) rfl ?_;refine zE rfl rfl rfl rfl (aS rfl) (by exact rX T rfl rfl rfl rfl rfl rfl (by omega) (kZ.whole rfl rfl) rfl (by simp;omega) (by simp;omega)) ?_;refine fS rfl rfl rfl rfl (by exact cY T rfl rfl rfl) ?_;refine FX rfl rfl rfl rfl (aS rfl) T rfl rfl rfl rfl rfl rfl (by decide) rfl ?_;refine I9 rfl rfl rfl (by exact rfl) ?_;refine fW T rfl (aU T rfl rfl rfl rfl rfl rfl (by decide) rfl ?_))|(refine rg 14 (vV (bP rfl rfl (by omega) (by omega)) (mV ?_)))|refine nZ ?_));all_goals try (exfalso;omega)
          exact ⟨⟨m+1,hml⟩,by dsimp only;omega,⟨[0,1,2,7,9],rfl,(by repeat first|exact trivial|refine ⟨rfl,?_⟩),⟨.inr rfl,.inr rfl,.inr rfl,.inr (aE rfl (by dsimp only;rw [hPs];exact mN hTp.symm) (cJ _)),.inr (aE rfl (by dsimp only;rw [hCs];exact mN hTc.symm) (fD _)),trivial⟩,by decide,kP _⟩⟩
        · obtain ⟨e1,e2⟩:=hfb k hka;have hkb:k∈b.1:=hkm.resolve_left hka;have hix:=pR a.1 k (by have:=sa.b;omega)
          have hiy:=pR b.1 k (by have:=sb.b;omega)
          have hyi:wW b.1 k 0=((b.1.idxOf k:Nat):Int):=by have:=B0 b.1 k 0 hkb;simpa using this
          rw [PM _ _ _ hka] at hix;rw [hyi] at hiy;have hio:=gR hkb;generalize b.1.idxOf k=ia at *;have qp:=nK (l:=z.1) (j:=(ia:Int)) (i:=ia) 0 (by omega) rfl
          have qc:=uS (l:=z.2.2) (j:=(ia:Int)) (i:=ia) (by omega) rfl
          have hlp:(ints z.1).length=z.1.length:=dH _;have hlc:(fI z.2.2).length=z.2.2.length:=iE _;rw [← e1] at qp;rw [← e2] at qc;have hPs:ints (PP.take (m+1))=ints (PP.take m)++[[AV.i (fp k)]]:=by rw [hp1,M9]
          have hCs:fI (CC.take (m+1))=fI (CC.take m)++[[AV.i (fc k).1,AV.i (fc k).2]]:=by rw [hc1,fI,dJ];rfl
          generalize ints (PP.take m)=P0 at *;generalize fI (CC.take m)=C0 at *;generalize fp k=vp at *;generalize fc k=vc at *
          (repeat' (first|refine wS ?_|refine wB ?_|refine wK ?_|refine wT ?_|(refine wC rfl ?_ ?_<;>(intro hb;(try simp only [nm] at hb);try (exfalso;omega)))|(refine rg 8 (vV (aK rfl rfl) ?_))|(refine rg 9 (vV (ix T rfl (by omega) (ints_len _) hgl) (lW T rfl (aV ?_))))|(refine sX (id:=10) 6 79 [[],[],[1],[],[1,2,3],[],rN 6,rN 7] [[],[],[1],[],[1,2,3],[]] [40,41,42,43,44,12] [[],[40],[40],[40,41,42],[40],rM 40 5] cK rfl (by decide +kernel) (by decide +kernel) ?_;(dsimp only [List.take,List.drop]);refine dO T rfl (dP T rfl (dO T rfl (dN rfl (dV rfl (kC (hix)) (uL rfl rfl rfl (by exact bM T rfl) rfl ?_)))));refine FY rfl rfl (by ((dsimp only [List.nil_append,List.cons_append,List.append_nil,List.length_cons,List.length_nil,List.set_cons_zero,List.set_cons_succ,List.map_cons,List.map_nil,jZ,mJ,mO,qN,LO,E3,V7,V5,V4,V6,E2,E5,E1,E4,Nat.zero_add,Nat.add_zero,Nat.reduceAdd,Bool.not_true,Bool.not_false];done))) ?_;refine iD ?_;refine aU T rfl rfl rfl rfl rfl rfl (by decide) rfl (aV ?_))|(refine rg 11 (mW rfl (vV (aK rfl rfl) ?_)))|(refine oD (id:=12) 79 [[],[],[1],[],[1,2,3],rN 5] (rM 47 5) [[],[47],[47],[47,48,49],[47],[]] [(5,5)] cK rfl (by decide +kernel) (dB rfl rfl rfl rfl (by exact bD T rfl rfl rfl rfl) ?_);refine dB rfl rfl rfl rfl (by exact cY T rfl rfl rfl) ?_;refine dB rfl rfl rfl rfl (by exact bD T rfl rfl rfl rfl) ?_;refine dB rfl rfl rfl rfl (by exact cP rfl) ?_;refine dB rfl rfl rfl rfl (by exact kC (hiy)) ?_;refine xC rfl rfl rfl rfl (aS rfl) T rfl rfl rfl rfl rfl rfl (by decide) rfl ?_;refine rP rfl rfl rfl (by exact rfl) ?_;refine aV ?_)|(refine vO (id:=13) 79 yN6 (rM 52 19) yN7 [(8,3),(17,4),(19,2)] cK rfl (by decide +kernel) (fS rfl rfl rfl rfl (by exact cY T rfl rfl rfl) ?_);refine fS rfl rfl rfl rfl (by exact bD T rfl rfl rfl rfl) ?_;refine fS rfl rfl rfl rfl (by exact cY T rfl rfl rfl) ?_;refine fS rfl rfl rfl rfl (by exact bD T rfl rfl rfl rfl) ?_;refine fS rfl rfl rfl rfl (by exact cP rfl) ?_;refine fS rfl rfl rfl rfl (by exact ix T rfl (by omega) (ints_len _) qp) ?_;refine fS rfl rfl rfl rfl (by exact bD T rfl rfl rfl rfl) ?_;refine Q6 rfl rfl rfl rfl (by exact bF T rfl rfl (by decide) (by decide) rfl rfl rfl) rfl ?_;refine zE rfl rfl rfl rfl (aS rfl) (by exact rX T rfl rfl rfl rfl rfl rfl (by omega) (kZ.whole rfl rfl) rfl (by simp;omega) (by simp;omega)) ?_;refine fS rfl rfl rfl rfl (by exact cY T rfl rfl rfl) ?_;refine fS rfl rfl rfl rfl (by exact bD T rfl rfl rfl rfl) ?_;refine fS rfl rfl rfl rfl (by exact cY T rfl rfl rfl) ?_;refine fS rfl rfl rfl rfl (by exact bD T rfl rfl rfl rfl) ?_;refine fS rfl rfl rfl rfl (by exact cP rfl) ?_;refine fS rfl rfl rfl rfl (by exact ix T rfl (by omega) (lB _) qc) ?_;refine fS rfl rfl rfl rfl (by exact bD T rfl rfl rfl rfl) ?_;refine Q6 rfl rfl rfl rfl (by exact bF T rfl rfl (by decide) (by decide) rfl rfl rfl) rfl ?_;refine zE rfl rfl rfl rfl (aS rfl) (by exact rX T rfl rfl rfl rfl rfl rfl (by omega) (kZ.whole rfl rfl) rfl (by simp;omega) (by simp;omega)) ?_;refine fS rfl rfl rfl rfl (by exact cY T rfl rfl rfl) ?_;refine FX rfl rfl rfl rfl (aS rfl) T rfl rfl rfl rfl rfl rfl (by decide) rfl ?_;refine I9 rfl rfl rfl (by exact rfl) ?_;refine fW T rfl (aU T rfl rfl rfl rfl rfl rfl (by decide) rfl ?_))|(refine rg 14 (vV (bP rfl rfl (by omega) (by omega)) (mV ?_)))|refine nZ ?_));all_goals try (exfalso;omega)
          exact ⟨⟨m+1,hml⟩,by dsimp only;omega,⟨[0,1,2,7,9],rfl,(by repeat first|exact trivial|refine ⟨rfl,?_⟩),⟨.inr rfl,.inr rfl,.inr rfl,.inr (aE rfl (by dsimp only;rw [hPs];exact mN hTp.symm) (cJ _)),.inr (aE rfl (by dsimp only;rw [hCs];exact mN hTc.symm) (fD _)),trivial⟩,by decide,kP _⟩⟩
      · obtain rfl:m=l.length:=by omega
        rw [show PP.take l.length=PP by rw [← hplen,cQ],show CC.take l.length=CC by rw [← hclen,cQ]]
        refine nT 2 0 rfl rfl rfl (by rw [dH,hplen]) (iG (cJ _)) ?_
        refine nT 2 2 rfl rfl rfl (by rw [iE,hclen]) (iG (fD _)) ?_
        (repeat' (first|refine wS ?_|refine wE ?_|(refine wC rfl ?_ ?_<;>(intro hb;(try simp only [nm] at hb);try (exfalso;omega)))|(refine rg 8 (vV (aK rfl rfl) ?_))|refine nZ ?_));all_goals try (exfalso;omega)
        show AY _ _ _ _ _ _ _ _ _
        (repeat' (first|(first|(refine xG ?_)|(refine U2 ?_)|(refine ZU ?_))|((refine xH rfl (fun hb=>?_) (fun hb=>?_)<;>(((try simp only [nm] at hb);try ((exfalso;omega);done)))))|(((refine EH (id:=15) ?_));((refine UY 2 hJ ?_));(dsimp only [List.take,List.drop]);(all_goals (refine mV ?_;refine lV T ?_;refine iD ?_;refine HE hJ hy rfl rfl rfl hk hit rfl ?_));(all_goals (intro yes));(all_goals (refine zQ4 hJ ?_;refine vV (cT rfl) ?_;refine T1 (by ((dsimp only [List.nil_append,List.cons_append,List.append_nil,List.length_cons,List.length_nil,List.set_cons_zero,List.set_cons_succ,List.map_cons,List.map_nil,jZ,mJ,mO,qN,LO,E3,V7,V5,V4,V6,E2,E5,E1,E4,Nat.zero_add,Nat.add_zero,Nat.reduceAdd,Bool.not_true,Bool.not_false];done))) ?_)))|(((refine qE hJ (eS (id:=16) ?_)));(all_goals (refine vV (bP rfl rfl (by omega) (by omega)) ?_;refine mV ?_)))|refine nZ ?_));all_goals first | (exfalso;omega) | skip
        · exact ⟨.inl rfl,fun h=>(by first | (subst hb;cases h) | (cases h;done)),[],rfl⟩
        · obtain rfl:=hb;exact ⟨⟨j+1,hjl⟩,by dsimp only;omega,rfl,⟨[0],rfl,(by repeat first|exact trivial|refine ⟨rfl,?_⟩),⟨.inr rfl,trivial⟩,by decide,kP _⟩⟩
    · obtain rfl:j=b.2.length:=by omega
      (repeat' (first|(first|(refine xG ?_)|(refine GI ?_))|((refine xH rfl (fun hb=>?_) (fun hb=>?_)<;>(((try simp only [nm] at hb);try ((exfalso;omega);done)))))|(((refine qE hJ (eS (id:=4) ?_)));(all_goals (refine vV (aK rfl rfl) ?_)))|(((refine qE hJ (eS (id:=17) ?_)));(all_goals (refine vV (bP rfl rfl (by omega) (by omega)) ?_;refine mV ?_)))|refine nZ ?_));all_goals first | (exfalso;omega) | skip
      exact ⟨⟨i+1,hlt⟩,by dsimp only;omega,rfl,fU []⟩
  · obtain rfl:i=a.2.length:=by omega
    (repeat' (first|(first|(refine xG ?_)|(refine GI ?_))|((refine xH rfl (fun hb=>?_) (fun hb=>?_)<;>(((try simp only [nm] at hb);try ((exfalso;omega);done)))))|(((refine qE hJ (eS (id:=1) ?_)));(all_goals (refine vV (aK rfl rfl) ?_)))|refine nZ ?_));all_goals first | (exfalso;omega) | skip
    exact ⟨.inr rfl,fun _=>by rw [hnn],[],rfl⟩
end Go.Proofs.YtojgimibalokkaaGreat
namespace Go.Ab
open Go
theorem rJ {P:Program}{env:eG}{h:Hp}{d:Option Nat}{ty:TypeId}{pos:String}{af:Array Edge}{g:Option (Nat × Bool)}(T:oG P){t e sz:Nat}{es:List (List AV)}{c:List AV}{i:TI}{x y:Operand}{kk:IntKind}{j:Int}(hx:evu env x=some (.rowE es sz)) (hy:evu env y=some (.v (.int kk j))) (ha:T.elem t=some e) (he:T.ti e=some i) (hs:i.size=sz) (h0:0≤j) (hl:∀ e,e∈es→e.length=sz) (hc:es[j.toNat]? = some c) :
    zC4 P ⟨d,.indexAddr t x y,ty,pos,af,g⟩ env h (.pr c 0):=by
  intro ρ S a w p;have h1:j<es.length:=by have:=(aB.1 hc).1;omega
  have h2:=p.evu hx;simp only [R] at h2;obtain ⟨ad,cap,h3,_,_,_,_,h4⟩:=h2;rcases h4 with h4 | ⟨b,o,ys,h5,h6,h7,h8⟩
  · omega
  have h9:=uO (p.evu hy);subst h5;refine ⟨.pointer (some ⟨b,o+j.toNat*sz,none⟩),fun w'=>by simp [execOp,h3,h9,Instr.indexAt,asIntOf,run_underlying (T.elemOk _ _ ha),h0,h1,T.sizeOf he,Addr.add_lit,hs],OQ hl hc ?_⟩
  simp only [R];exact ⟨b,o,ys,rfl,h6,h7,h8⟩
end Go.Ab
namespace Go.Ld
open Go.Ab Go.Proofs.YtojgimibalokkaaGreat
theorem jG {l:List G}{b:Int}(h:∃ g,g∈l∧b∈g.1):∃ (i:Nat) (g:G),nS l b=(i:Int)∧l[i]? = some g∧b∈g.1:=by
  obtain ⟨g,hg,hb⟩:=h;unfold nS;cases hf:l.findIdx? fun g=>decide (b∈g.1) with
  | none=>have:=List.findIdx?_eq_none_iff.1 hf g hg;simp at this;exact absurd hb this
  | some i=>
    obtain ⟨h1,h2,_⟩:=List.findIdx?_eq_some_iff_getElem.1 hf;exact ⟨i,l[i],rfl,aA h1,by simpa using h2⟩
theorem N9 {l:List G}{b:Int}(h:¬ ∃ g,g∈l∧b∈g.1):nS l b = -1:=by
  unfold nS;rw [List.findIdx?_eq_none_iff.2 (fun g hg=>by simp;exact fun hb=>h ⟨g,hg,hb⟩)]
theorem W4 (l:List Int):jJ l=eH cI l:=
  E6 pU (Go.Pm.sorted_perm l) ((Go.Pm.sorted_up l).imp fun {a b} h=>by unfold cI;split <;> (try split) <;> omega)
theorem SF {a b:G}{l:List Int}{k:Nat}{w:W}(h:(oZ a b l)[k]? = some w):X8 a b l k=[.agg (wA w)]:=by unfold X8;rw [h]
end Go.Ld
namespace Go.Proofs.YtojgimibalokkaaGreat
open Go Go.Ab Go.Ld
attribute [local irreducible] VC AW cF aP AY VY BO kG
set_option maxHeartbeats 4000000
theorem yH9:∀ i:Nat,i<1→([0,4]:List Nat)[i]? = some i:=by decide
theorem zK4 {n:Nat}(l:List G) (a b:Int) (ok:nX n l) (ha:∃ g,g∈l∧a∈g.1) (hb:∃ g,g∈l∧b∈g.1) (hs:nS l a=nS l b):aP Tryz.prog 25 [.sl 0 0 l.length 2,.i a,.i b] [.arr (kB l) 2] (.tup [.sl 0 0 l.length 2,.i 0]) [.arr (kB l) 2]:=by
  have hl12:l.length≤12:=bY ok.len ok.ln;have hgl:∀ g,g∈l→g.1.length≤1000000:=fun g hg=>by have:=(ok.ok g hg).ln;omega
  have f1:=sV l a (by omega) hgl
  have f2:=sV l b (by omega) hgl
  obtain ⟨i,x,e1,hx,hax⟩:=jG ha;obtain ⟨k,y,e2,hy,hby⟩:=jG hb;rw [e1] at f1;rw [e2] at f2;have hil:=(aB.1 hx).1;have hkl:=(aB.1 hy).1;have hll:(kB l).length=l.length:=kE _;have qx:(kB l)[(i:Int).toNat]? = some (gA x):=by rw [bR,bN,hx];rfl
  have qy:(kB l)[(k:Int).toNat]? = some (gA y):=by rw [bR,bN,hy];rfl
  have ax:pM l (i:Int).toNat=x:=by unfold pM;rw [bR,aC,hx];rfl
  have ay:pM l (k:Int).toNat=y:=by unfold pM;rw [bR,aC,hy];rfl
  have hik:i=k:=by omega
  subst hik;have hvw:oK [.arr (kB l) 2] (.sl 0 0 l.length 2) (.rowE (kB l) 2):=qG rfl hll.symm (sH (fun _=>rfl) _);refine bL T Tryz.func25 rfl rfl rfl rfl ?_
  (repeat' (first|refine wS ?_|refine wR ?_|refine wT ?_|(refine rg 0 (lO ?_))|(refine rg 1 (dR rfl (vV (by exact eC rfl rfl f1 (.cons hvw (.cons (.v _) .nil)) rfl rfl) ?_));refine dR rfl (vV (by exact eC rfl rfl f2 (.cons hvw (.cons (.v _) .nil)) rfl rfl) ?_);refine lO ?_)|(refine rg 2 (dR rfl (vV (jL rfl rfl rfl) ?_)))|(refine rg 3 (mW rfl (lO ?_)))|refine nZ ?_));all_goals first | (exfalso;omega) | exact ⟨.inl rfl,[0],_,rfl,rfl,rfl,⟨.inr (aE rfl rfl (eO _)),trivial⟩,by decide,FJ⟩
theorem zK6 {n:Nat}(l:List G) (a b:Int) (ok:nX n l) (ha:∃ g,g∈l∧a∈g.1) (hb:∃ g,g∈l∧b∈g.1) (hj:join l a b=none):aP Tryz.prog 25 [.rowE (kB l) 2,.i a,.i b] [] (.tup [.nils,.i 6]) []:=by
  have hl12:l.length≤12:=bY ok.len ok.ln;have hgl:∀ g,g∈l→g.1.length≤1000000:=fun g hg=>by have:=(ok.ok g hg).ln;omega
  have f1:=sV l a (by omega) hgl
  have f2:=sV l b (by omega) hgl
  obtain ⟨i,x,e1,hx,hax⟩:=jG ha;obtain ⟨k,y,e2,hy,hby⟩:=jG hb;rw [e1] at f1;rw [e2] at f2;have hil:=(aB.1 hx).1;have hkl:=(aB.1 hy).1;have hll:(kB l).length=l.length:=kE _;have qx:(kB l)[(i:Int).toNat]? = some (gA x):=by rw [bR,bN,hx];rfl
  have qy:(kB l)[(k:Int).toNat]? = some (gA y):=by rw [bR,bN,hy];rfl
  have ax:pM l (i:Int).toNat=x:=by unfold pM;rw [bR,aC,hx];rfl
  have ay:pM l (k:Int).toNat=y:=by unfold pM;rw [bR,aC,hy];rfl
  unfold join at hj;dsimp only at hj;rw [e1,e2,ax,ay] at hj;clear ha hb;have hik:i≠k:=fun q=>by subst q;rw [if_pos rfl] at hj;cases hj
  rw [if_neg (by omega)] at hj
  have hf:6<x.1.length+y.1.length∨1000<x.2.length*y.2.length:=by
    by_cases hf:6<x.1.length+y.1.length∨1000<x.2.length*y.2.length
    · exact hf
    · rw [if_neg hf] at hj;cases hj
  clear hj;have xo:=ok.ok x (aH hx);have yo:=ok.ok y (aH hy);have xw:=ok.ws x (aH hx);have yw:=ok.ws y (aH hy);have xl:=xo.ln;have yl:=yo.ln;have xp:=eV.2 xo.ne;have yp:=eV.2 yo.ne;have sx:=xo.sz xw;have sy:=yo.sz yw;have l1:(ints x.1).length=x.1.length:=dH _;have l2:(ints y.1).length=y.1.length:=dH _;have l3:(wsA x.2).length=x.2.length:=eZ _;have l4:(wsA y.2).length=y.2.length:=eZ _;have hmx:x.2.length*y.2.length≤2000*2000:=Nat.mul_le_mul xw yw;have hml:((x.2.length:Int)*y.2.length)=((x.2.length*y.2.length:Nat):Int):=by push_cast;rfl
  obtain ⟨bx,wx⟩:=x;obtain ⟨by_,wy⟩:=y;have hmI:(((wsA wx).length:Nat):Int)*((wsA wy).length:Nat)=((wx.length*wy.length:Nat):Int):=by rw [eZ,eZ];push_cast;rfl
  dsimp only at *;refine bL T Tryz.func25 rfl rfl rfl rfl ?_
  (repeat' (first|refine wS ?_|refine wK ?_|refine wU ?_|(refine rg 0 (lO ?_))|(refine rg 1 (dR rfl (vV (kC (f1)) (dR rfl (vV (kC (f2)) (lO ?_))))))|(refine rg 2 (dR rfl (vV (fB rfl rfl (by omega)) ?_)))|refine nZ ?_));refine zA0 [(0,.rowE (kB l) 2),(8,.i i),(9,.i k),(10,.ptr 0 0),(11,.ptr 1 0)] [.cells [.rowE (ints bx) 1,.rowE (wsA wx) 3],.cells [.rowE (ints by_) 1,.rowE (wsA wy) 3]] ?_ ?_
  · refine KQ (id:=4) cK ?_;refine xU 0 rfl rfl (by decide +kernel) (by decide +kernel) (by decide +kernel) (by exact tK rfl) rfl ?_
    refine xU 1 rfl rfl (by decide +kernel) (by decide +kernel) (by decide +kernel) (by exact tK rfl) rfl ?_
    refine xU 2 rfl rfl (by decide +kernel) (by decide +kernel) (by decide +kernel) (by exact rJ T rfl rfl rfl rfl rfl (by omega) (qJ _) qx) rfl ?_
    refine xU 4 rfl rfl (by decide +kernel) (by decide +kernel) (by decide +kernel) (by exact tK rfl) rfl ?_
    refine xU 5 rfl rfl (by decide +kernel) (by decide +kernel) (by decide +kernel) (by exact tK rfl) rfl ?_
    refine xU 6 rfl rfl (by decide +kernel) (by decide +kernel) (by decide +kernel) (by exact rJ T rfl rfl rfl rfl rfl (by omega) (qJ _) qy) rfl ?_
    refine QM [(0,[]),(1,[]),(2,[0,1]),(3,[2]),(4,[]),(5,[]),(6,[4,5]),(7,[6]),(8,[]),(9,[]),(10,[8,3,0,1,2,3,8,9]),(11,[9,7,10,0,1,2,3,4,5,6,7,8,9,10])] (by decide +kernel) [true,true,true,false,true,true,true,false,false,false,false,false] rfl rfl ?_
    (repeat' (first|(refine zB1 rfl rfl ?_;(first|(refine lV T ?_)|(refine bS (bM T rfl) rfl ?_)|(refine aU T rfl rfl rfl rfl rfl rfl (by decide) rfl ?_));refine iD ?_;dsimp only [List.set_cons_zero,List.set_cons_succ])|(refine zB0 rfl rfl rfl ?_ ?_<;>((first|(refine lV T ?_)|(refine bS (bM T rfl) rfl ?_)|(refine aU T rfl rfl rfl rfl rfl rfl (by decide) rfl ?_));refine iD ?_;dsimp only [List.set_cons_zero,List.set_cons_succ]))|(refine zA9 rfl rfl rfl rfl ?_ ?_ ?_<;>((first|(refine lV T ?_)|(refine bS (bM T rfl) rfl ?_));refine iD ?_;dsimp only [List.set_cons_zero,List.set_cons_succ]))|(refine zA8 rfl rfl rfl rfl rfl ?_ ?_ ?_ ?_<;>((first|(refine lV T ?_)|(refine bS (bM T rfl) rfl ?_));refine iD ?_;dsimp only [List.set_cons_zero,List.set_cons_succ]))));all_goals first | exact C1 rfl ⟨rfl,[0,1],rfl,(by repeat first|exact trivial|refine ⟨rfl,?_⟩),⟨.inr rfl,.inr rfl,trivial⟩,by decide,kP _⟩ | exact C1 rfl ⟨rfl,[1,0],rfl,(by repeat first|exact trivial|refine ⟨rfl,?_⟩),⟨.inr rfl,.inr rfl,trivial⟩,by decide,kP _⟩
  intro v g hsub;refine NJ hsub ?_
  (repeat' (first|refine wS ?_|refine wR ?_|refine wT ?_|(refine wC rfl ?_ ?_<;>(intro hb;(try simp only [nm] at hb);try (exfalso;omega)))|(refine rg 5 (fR T rfl (qW T rfl (fR T rfl (qW T rfl (vV (bP rfl rfl (by omega) (by omega)) (vV (dX rfl rfl) (mV ?_)))))));refine aY rfl rfl ?_ ?_<;>(intro hb;rw [hb];(try simp only [nm] at hb);try (exfalso;omega));(all_goals first|(refine gT (fW T rfl (gT (lW T rfl (gT (qW T rfl (gT (fW T rfl (gT (lV T ?_)))))))));refine gT (qW T rfl (gT (vV (wX rfl rfl (by omega) (by omega)) (gT (vV (dX rfl rfl) ?_))))))|(iterate 8 refine gF ?_));(all_goals (refine pV ?_)))|(refine rg 6 (lO ?_))|refine nZ ?_));all_goals first | (exfalso;omega) | exact rQ
theorem zK5 {n:Nat}(l:List G) (a b:Int) (ok:nX n l) (ha:∃ g,g∈l∧a∈g.1) (hb:∃ g,g∈l∧b∈g.1){all:List G}(hj:join l a b=some all) (hne:nS l a≠nS l b):aP Tryz.prog 25 [.rowE (kB l) 2,.i a,.i b] [] (.tup [.sl 0 0 all.length 2,.i 0]) [.arr (kB all) 2]:=by
  have hl12:l.length≤12:=bY ok.len ok.ln;have hgl:∀ g,g∈l→g.1.length≤1000000:=fun g hg=>by have:=(ok.ok g hg).ln;omega
  have f1:=sV l a (by omega) hgl
  have f2:=sV l b (by omega) hgl
  obtain ⟨i,x,e1,hx,hax⟩:=jG ha;obtain ⟨k,y,e2,hy,hby⟩:=jG hb;rw [e1] at f1;rw [e2] at f2;have hil:=(aB.1 hx).1;have hkl:=(aB.1 hy).1;have hll:(kB l).length=l.length:=kE _;have qx:(kB l)[(i:Int).toNat]? = some (gA x):=by rw [bR,bN,hx];rfl
  have qy:(kB l)[(k:Int).toNat]? = some (gA y):=by rw [bR,bN,hy];rfl
  have ax:pM l (i:Int).toNat=x:=by unfold pM;rw [bR,aC,hx];rfl
  have ay:pM l (k:Int).toNat=y:=by unfold pM;rw [bR,aC,hy];rfl
  unfold join at hj;dsimp only at hj;rw [e1,e2,ax,ay] at hj;clear ha hb;have hik:i≠k:=fun q=>by subst q;exact hne (e1.trans e2.symm)
  rw [if_neg (by omega)] at hj
  have hf:¬ (6<x.1.length+y.1.length∨1000<x.2.length*y.2.length):=fun hf=>by rw [if_pos hf] at hj;cases hj
  rw [if_neg hf] at hj
  replace hj:=(Option.some.inj hj).symm
  have xo:=ok.ok x (aH hx);have yo:=ok.ok y (aH hy);have xw:=ok.ws x (aH hx);have yw:=ok.ws y (aH hy);have xl:=xo.ln;have yl:=yo.ln;have xp:=eV.2 xo.ne;have yp:=eV.2 yo.ne;have sx:=xo.sz xw;have sy:=yo.sz yw;have l1:(ints x.1).length=x.1.length:=dH _;have l2:(ints y.1).length=y.1.length:=dH _;have l3:(wsA x.2).length=x.2.length:=eZ _;have l4:(wsA y.2).length=y.2.length:=eZ _;have hmx:x.2.length*y.2.length≤2000*2000:=Nat.mul_le_mul xw yw;have hml:((x.2.length:Int)*y.2.length)=((x.2.length*y.2.length:Nat):Int):=by push_cast;rfl
  obtain ⟨bx,wx⟩:=x;obtain ⟨by_,wy⟩:=y;have hmI:(((wsA wx).length:Nat):Int)*((wsA wy).length:Nat)=((wx.length*wy.length:Nat):Int):=by rw [eZ,eZ];push_cast;rfl
  have hjG:nB (bx,wx) (by_,wy)=(eH cI (bx++by_),oZ (bx,wx) (by_,wy) (eH cI (bx++by_))):=rfl;rw [hjG,← W4] at hj;have hbl:(jJ (bx++by_)).length=bx.length+by_.length:=by rw [wI,aF]
  have hmm:∀ q,q∈jJ (bx++by_)→q∈bx∨q∈by_:=fun q hq=>bG.1 ((Go.Pm.sorted_perm _).mem_iff.1 hq);have h1:=ZH bx by_ ⟨by dsimp only at *;omega,by dsimp only at *;omega⟩ ⟨by dsimp only at *;omega,by dsimp only at *;omega⟩
  have h2:=G1 (bx++by_);have h3:=V9 (bx++by_) (by rw [aF];dsimp only at *;omega)
  have hPl:=DA (bx,wx) (by_,wy) (jJ (bx++by_));generalize jJ (bx++by_)=bod at *;have h4:=zH6 (bx,wx) (by_,wy) bod;have hit:=WV (bx,wx) (by_,wy) bod sx sy (by dsimp only at *;omega) hmm (fun w hw=>⟨(xo.ws w hw).m0,(xo.ws w hw).m1⟩) (fun w hw=>⟨(yo.ws w hw).m0,(yo.ws w hw).m1⟩)
  have hpg:∀ (q:Nat) (w:W),(oZ (bx,wx) (by_,wy) bod)[q]? = some w→X8 (bx,wx) (by_,wy) bod q=[.agg (wA w)]:=fun q w h=>SF h
  generalize X8 (bx,wx) (by_,wy) bod=IT at *;generalize oZ (bx,wx) (by_,wy) bod=P at *;have hP:P.length≤1000:=by rw [hPl,Nat.mul_comm];dsimp only at *;omega
  clear hPl hmm h2;have h2:=G1 (bx++by_);dsimp only at *;have hcl:=KE l (by omega)
  have hS:min (i:Int) (k:Int)=((min i k:Nat):Int):=by omega
  have hM:max (i:Int) (k:Int)=((max i k:Nat):Int):=by omega
  rw [hS,hM,bR,bR] at hj;have ts:=I0 (L:=l) (j:=min (i:Int) (k:Int)) (i:=min i k) (x:=(bod,P)) hS;have qm:=zB (L:=l) (j:=min (i:Int) (k:Int)) (i:=min i k) (x:=l[min i k]'(by omega)) (aA _) hS
  have hdl:=zZ4 (l.set (min i k) (bod,P)) (max i k) (max i k+1) (by omega) (by rw [gW];omega) (by intro h;have:=congrArg List.length h;rw [gW,List.length_nil] at this;omega)
  rw [I6,gW,show l.length-(max i k+1-max i k)=l.length-1 by omega,show ((max i k+1:Nat):Int)=max (i:Int) (k:Int)+1 by omega,← hM] at hdl
  have hel:((l.set (min i k) (bod,P)).eraseIdx (max i k)).length=l.length-1:=by rw [fJ,gW,if_pos (by omega)]
  generalize l[min i k]'(by omega)=gm at *
  subst hj;rw [hel];refine bL T Tryz.func25 rfl rfl rfl rfl ?_
  (repeat' (first|refine wS ?_|refine wK ?_|refine wU ?_|(refine rg 0 (lO ?_))|(refine rg 1 (dR rfl (vV (kC (f1)) (dR rfl (vV (kC (f2)) (lO ?_))))))|(refine rg 2 (dR rfl (vV (fB rfl rfl (by omega)) ?_)))|refine nZ ?_));refine zA0 [(0,.rowE (kB l) 2),(8,.i i),(9,.i k),(10,.ptr 0 0),(11,.ptr 1 0)] [.cells [.rowE (ints bx) 1,.rowE (wsA wx) 3],.cells [.rowE (ints by_) 1,.rowE (wsA wy) 3]] ?_ ?_
  · refine KQ (id:=4) cK ?_;refine xU 0 rfl rfl (by decide +kernel) (by decide +kernel) (by decide +kernel) (by exact tK rfl) rfl ?_
    refine xU 1 rfl rfl (by decide +kernel) (by decide +kernel) (by decide +kernel) (by exact tK rfl) rfl ?_
    refine xU 2 rfl rfl (by decide +kernel) (by decide +kernel) (by decide +kernel) (by exact rJ T rfl rfl rfl rfl rfl (by omega) (qJ _) qx) rfl ?_
    refine xU 4 rfl rfl (by decide +kernel) (by decide +kernel) (by decide +kernel) (by exact tK rfl) rfl ?_
    refine xU 5 rfl rfl (by decide +kernel) (by decide +kernel) (by decide +kernel) (by exact tK rfl) rfl ?_
    refine xU 6 rfl rfl (by decide +kernel) (by decide +kernel) (by decide +kernel) (by exact rJ T rfl rfl rfl rfl rfl (by omega) (qJ _) qy) rfl ?_
    refine QM [(0,[]),(1,[]),(2,[0,1]),(3,[2]),(4,[]),(5,[]),(6,[4,5]),(7,[6]),(8,[]),(9,[]),(10,[8,3,0,1,2,3,8,9]),(11,[9,7,10,0,1,2,3,4,5,6,7,8,9,10])] (by decide +kernel) [true,true,true,false,true,true,true,false,false,false,false,false] rfl rfl ?_
    (repeat' (first|(refine zB1 rfl rfl ?_;(first|(refine lV T ?_)|(refine bS (bM T rfl) rfl ?_)|(refine aU T rfl rfl rfl rfl rfl rfl (by decide) rfl ?_));refine iD ?_;dsimp only [List.set_cons_zero,List.set_cons_succ])|(refine zB0 rfl rfl rfl ?_ ?_<;>((first|(refine lV T ?_)|(refine bS (bM T rfl) rfl ?_)|(refine aU T rfl rfl rfl rfl rfl rfl (by decide) rfl ?_));refine iD ?_;dsimp only [List.set_cons_zero,List.set_cons_succ]))|(refine zA9 rfl rfl rfl rfl ?_ ?_ ?_<;>((first|(refine lV T ?_)|(refine bS (bM T rfl) rfl ?_));refine iD ?_;dsimp only [List.set_cons_zero,List.set_cons_succ]))|(refine zA8 rfl rfl rfl rfl rfl ?_ ?_ ?_ ?_<;>((first|(refine lV T ?_)|(refine bS (bM T rfl) rfl ?_));refine iD ?_;dsimp only [List.set_cons_zero,List.set_cons_succ]))));all_goals first | exact C1 rfl ⟨rfl,[0,1],rfl,(by repeat first|exact trivial|refine ⟨rfl,?_⟩),⟨.inr rfl,.inr rfl,trivial⟩,by decide,kP _⟩ | exact C1 rfl ⟨rfl,[1,0],rfl,(by repeat first|exact trivial|refine ⟨rfl,?_⟩),⟨.inr rfl,.inr rfl,trivial⟩,by decide,kP _⟩
  intro v g hsub;refine NJ hsub ?_
  (repeat' (first|refine wS ?_|refine wB ?_|refine wK ?_|(refine wC rfl ?_ ?_<;>(intro hb;(try simp only [nm] at hb);try (exfalso;omega)))|(refine rg 5 (fR T rfl (qW T rfl (fR T rfl (qW T rfl (vV (bP rfl rfl (by omega) (by omega)) (vV (dX rfl rfl) (mV ?_)))))));refine aY rfl rfl ?_ ?_<;>(intro hb;rw [hb];(try simp only [nm] at hb);try (exfalso;omega));(all_goals (refine yP T rfl (yO T rfl (gT (qW T rfl (yP T rfl (yO T rfl (gT (qW T rfl (yV (wX rfl rfl (by omega) (by omega)) (yV (dX rfl rfl) ?_)))))))));refine pV ?_)))|(refine rg 7 (fR T rfl (fR T rfl (bS (by exact bF T rfl rfl (by decide) (by decide) rfl rfl rfl) rfl ?_)));refine wF 55 rfl rfl rfl rfl ?_;refine vV (kC (h1)) (vV (kC (h2)) (vV (kC (h3)) (vV (by exact gG T rfl rfl rfl rfl) ?_)));refine bS (bM T rfl) rfl (aU T rfl rfl rfl rfl rfl rfl (by decide) rfl ?_))|(refine rg 8 (lW T rfl (lW T rfl (fR T rfl (vV (kC (h4)) ?_)))))|refine nZ ?_));all_goals try (exfalso;omega)
  refine xI 3 1 3 rfl rfl (by decide) ?_
  refine KN [] [3,4] [(0,.rowE (kB l) 2),(8,.i i),(9,.i k),(12,.ptr 0 0)] (fun m=>[.cells [.rowE (ints bod) 1,.sl 1 0 m 3],.arr (wsA (P.take m)) 3]) 1 rfl hit rfl rfl rfl trivial bK rfl (by repeat first|exact trivial|refine ⟨rfl,?_⟩) ⟨.inr rfl,.inr rfl,trivial⟩ (by decide) (kP _) (by simp) (cC _) (aS rfl) rfl (by decide) (fun m hm=>by rw [hpg m P[m] (aA hm)];exact ⟨rfl,rfl⟩) ?_ ?_
  · intro m hm;rw [hpg m P[m] (aA hm)];have hks:=aM hm;have hkl':(wsA (P.take m)).length=m:=by rw [eZ,bE];omega
    have hW:wsA (P.take (m+1))=wsA (P.take m)++[wA P[m]]:=by rw [hks,wsA,dJ];rfl
    generalize P[m]=w at *;obtain ⟨wp,wm,wc⟩:=w;generalize wsA (P.take m)=Q at *;refine eS (id:=9) ?_;refine bS (by exact bM T rfl) rfl ?_
    refine aU T rfl rfl rfl rfl rfl rfl (by decide) rfl ?_
    refine iD ?_;refine ⟨rfl,?_⟩
    repeat' (first|refine wB ?_|(refine rg 10 (fR T rfl (lW T rfl (bS (by exact bF T rfl rfl (by decide) (by decide) rfl rfl rfl) rfl ?_)));refine gD T rfl rfl rfl rfl rfl rfl (by omega) (kZ.whole rfl rfl) rfl (by simp;omega) (by simp;omega) rfl ?_;refine fW T rfl (aU T rfl rfl rfl rfl rfl rfl (by decide) rfl ?_))|refine nZ ?_)
    show GW _ _ _ _ [.cells [.rowE (ints bod) 1,.sl 1 0 (m+1) 3],.arr (wsA (P.take (m+1))) 3];rw [hW];exact ⟨[0,4],rfl,trivial,⟨.inr (by simp;rfl),.inr (aE rfl (by first | exact mN hkl'.symm | simp) (by rw [← hW];exact bQ _)),trivial⟩,by decide,yH9⟩
  · rw [cQ];refine nT 0 1 rfl rfl rfl (eZ _).symm (iG (bQ _)) ?_;show AW _ _ _ _ _ _
    (repeat' (first|refine wS ?_|(refine rg 11 (mW rfl (bS (by exact hO rfl rfl hcl (.inr ⟨rfl,rfl,by simp⟩)) rfl ?_));refine aV ?_)|refine nZ ?_));refine gM [(8,.i i),(9,.i k),(12,.ptr 0 0),(14,.sl 1 0 l.length 2)] [.cells [.rowE (ints bod) 1,.rowE (wsA P) 3],.arr (kB l) 2] ⟨[0,2],rfl,(by repeat first|exact trivial|refine ⟨rfl,?_⟩),⟨.inr rfl,.inr (aE rfl (dA _ (eO _)) (eO _)),trivial⟩,by decide,kP _⟩ ?_
    (repeat' (first|refine wS ?_|(refine rg 12 (dR rfl (mW rfl (vV (MR rfl rfl) (lW T rfl (vV (by exact aQ T rfl rfl rfl rfl rfl (by omega) (by omega)) ?_)))));refine aU T rfl rfl rfl rfl rfl rfl (by decide) (lQ rfl qm rfl) ?_)|refine nZ ?_));refine gM [(8,.i i),(9,.i k),(14,.sl 0 0 l.length 2)] [.arr (kB (l.set (min i k) (bod,P))) 2] ⟨[1],rfl,(by repeat first|exact trivial|refine ⟨rfl,?_⟩),⟨.inr (aE rfl ts (eO _)),trivial⟩,by decide,kP _⟩ ?_
    (repeat' (first|refine wR ?_|(refine rg 13 (dR rfl (mW rfl (vV (uJ rfl rfl) (dR rfl (vV (uJ rfl rfl) (vV (bP rfl rfl (by omega) (by omega)) (fO [0] rfl rfl (hdl) rfl rfl (by decide) ⟨.inr (aE rfl rfl (eO _)),trivial⟩ (by simp) rfl ?_)))))));refine lO ?_)|refine nZ ?_));all_goals exact ⟨.inl rfl,[0],_,rfl,rfl,rfl,⟨.inr (aE rfl (dA _ (eO _)) (eO _)),trivial⟩,by decide,kP _⟩
end Go.Proofs.YtojgimibalokkaaGreat
namespace Go.Ld
open Go.Ab Go.Proofs.YtojgimibalokkaaGreat
structure qP (c:Cx):Prop where
  f:Fit c.ks c.ls (nats (List.range c.bs.length)) c.bs
  s:mH c.m c.st c.er c.sl
theorem qP.unit {c:Cx}(h:qP c) (lot:Int):0≤mT c.ks c.ls lot:=by
  unfold mT;split
  · exact fK _
  · rw [aC];cases hq:c.ks[(c.ls.getD lot.toNat (0,0,false)).1.toNat]? with
    | none=>exact fK _
    | some x=>
      obtain ⟨h1,h2⟩:=aB.1 hq;have:=(h.f.k _ h1).1;rw [h2] at this;exact this
end Go.Ld
namespace Go.Proofs.YtojgimibalokkaaGreat
open Go Go.Ab Go.Ld
attribute [local irreducible] VC AW cF aP kG
set_option maxHeartbeats 4000000
theorem QY (t u w e:Int) (hu:0≤u):aP Tryz.prog 62 [.i t,.i u,.i w,.i e] [] (.tup [mX (UX t u w e).1.1 (UX t u w e).1.2,.b (UX t u w e).2]) []:=by
  unfold UX;by_cases h:FS t u w e
  · rw [if_pos (show DX t u w e=true from decide_eq_true h)]
    by_cases h1:w+e-t<0∨u=0∧0<w-e-t
    · rw [if_pos h1];exact HC t u w e h h1
    · rw [if_neg h1];by_cases h2:u=0
      · rw [if_pos h2];exact HD t u w e h (by omega) h2 (by omega)
      · rw [if_neg h2];exact LL t u w e h (by omega) (by omega)
  · have h':¬ DX t u w e=true:=fun q=>h (by simpa [DX,FS] using q)
    rw [if_neg h'];exact LK t u w e h
theorem zK7 (r q:SP):aP Tryz.prog 64 [mX r.1 r.2,mX q.1 q.2] [] (.tup [mX (J1 (max r.1 q.1) (min r.2 q.2)).1.1 (J1 (max r.1 q.1) (min r.2 q.2)).1.2,.b (J1 (max r.1 q.1) (min r.2 q.2)).2]) []:=zK8 r.1 r.2 q.1 q.2
theorem WP (r:SP) (n s:Int) (hf:0≤r.1∧r.1≤20001∧0≤r.2∧r.2≤20001):aP Tryz.prog 65 [mX r.1 r.2,.i n,.i s] [] (.tup [mX (yS r n s).1.1 (yS r n s).1.2,.b (yS r n s).2]) []:=by
  unfold yS;by_cases h:0≤n∧n≤1099511627776∧0≤s∧s≤1099511627776
  · rw [if_pos h];exact SG r.1 r.2 n s hf h
  · rw [if_neg h];exact MA r.1 r.2 n s h
abbrev yF2 (s:Ev):AV:=yH s.k s.a s.b s.n s.ids
theorem ZT (c:Cx) (gs:List G){n q:Nat}(w:W){i:Nat}(s:Ev) (hc:qP c) (hw:EK n q w) (hn:n=c.bs.length) (hi:i<q) (hq:q≤1000) (hids:s.ids.length≤9223372036854775807) (hsn:0≤s.n∧s.n≤1099511627776) :
    aP Tryz.prog 28 [.pr (kN c gs) 0,CG w,.i i,yF2 s] [] (.tup [.agg [.sl 0 0 w.1.length 1,.i (jK c w i s).1.2.1,.sl 1 0 w.2.2.length 2],.b (jK c w i s).2]) [.arr (ints w.1) 1,.arr (fI (jK c w i s).1.2.2) 2]:=by
  have hpl:=hw.pl;have hcl:=hw.cl;have hcw:=U0 w ⟨by omega,by omega⟩
  obtain ⟨g1,g2,g3,g4,g5⟩:=hw.at hi;have hm0:=hw.m0;have hm1:=hw.m1;have hids':(ints s.ids).length=s.ids.length:=dH _;obtain ⟨st1,st2,st3,st4,st5,st6,st7,st8⟩:=hc.s;have hbo:(jK c w i s).1.2.2=(jK c w i s).1.2.2:=rfl;unfold jK gP gC at *;obtain ⟨p,m,cs⟩:=w;obtain ⟨sk,sa,sb,sn,ids⟩:=s;dsimp only at *;have hlp:(ints p).length=p.length:=dH _;have hlc:(fI cs).length=cs.length:=iE _;have qp:=H8 (l:=p) (j:=(i:Int)) (i:=i) 0 (by omega) rfl
  have qc:=G5 (l:=cs) (j:=(i:Int)) (i:=i) (by omega) rfl
  have ct:∀ r:SP,_:=fun r=>V8 (l:=cs) (j:=(i:Int)) (i:=i) (r:=r) rfl;have ctn:∀ x y:Int,(fI cs).set (0+(i:Int).toNat) [AV.i x,AV.i y]=fI (cs.set i (x,y)):=fun x y=>ct (x,y);clear ct hbo;generalize hx:p.getD i 0=x at *;generalize hr:cs.getD i (0,0)=r at *;obtain ⟨r1,r2⟩:=r;dsimp only at *;have hbx:c.bs[x.toNat]? = some (c.bs.getD x.toNat (0,0,0)):=by
    rw [aC,aA (by omega)];rfl
  refine bL T Tryz.func28 rfl rfl rfl rfl ?_
  (repeat' (first|refine wS ?_|refine wB ?_|(refine rg 0 (bS (bZ rfl rfl) rfl (bS (bZ rfl rfl) rfl (bS (bM T rfl) rfl (aV ?_)))))|(refine rg 1 (lW T rfl (bS (by exact hO rfl rfl hcw (.inr ⟨rfl,rfl,by simp⟩)) rfl ?_));refine aU T rfl rfl rfl rfl rfl rfl (by decide) rfl ?_)|(refine rg 2 (aV ?_))|(refine rg 3 (AC T ?_))|refine nZ ?_));refine gM [(0,.pr (kN c gs) 0),(2,.i i),(5,.ptr 0 0),(7,.ptr 1 0),(8,.ptr 2 0),(10,.b true),(18,.i sk)] [.cells [.sl 3 0 p.length 1,.i m,.sl 4 0 cs.length 2],.cells [.i sk,.i sa,.i sb,.i sn,.rowE (ints ids) 1],.cells [.nils,.i 0,.nils],.arr (ints p) 1,.arr (fI cs) 2]
    ⟨[0,1,2,3,4],rfl,(by repeat first|exact trivial|refine ⟨rfl,?_⟩),⟨.inr rfl,.inr rfl,.inr rfl,.inr (aE rfl (dA _ (cJ _)) (cJ _)),.inr (aE rfl (dA _ (fD _)) (fD _)),trivial⟩,by decide,kP _⟩ ?_
  by_cases k0:sk=0
  · rw [if_pos k0];have hct:=xE ids x hids;by_cases hin:x∈ids
    · rw [if_pos hin];rw [decide_eq_true hin] at hct;dsimp only
      (repeat' (first|refine wS ?_|refine wR ?_|refine wT ?_|(refine rg 4 (vV (jL rfl rfl (by omega)) (aV ?_)))|(refine rg 5 (fW T rfl (vV (bD T rfl rfl rfl rfl) (qW T rfl (aV ?_)))))|(refine sX (id:=6) 7 153 [[],[0],[],[2],[],[2,3,4],rM 2 4,rN 7] [[],[0],[],[2],[],[2,3,4],rM 2 4] (rM 24 7) yN8 cK rfl (by decide +kernel) (by decide +kernel) ?_;(dsimp only [List.take,List.drop]);refine dP T rfl (dO T rfl (dP T rfl (dO T rfl (dN rfl (dV rfl (by exact aQ T rfl rfl rfl rfl rfl (by omega) (by omega)) ?_)))));refine dV rfl (by exact bD T rfl rfl (bV rfl qp) rfl) ?_;refine dE ?_;refine iD ?_;refine vV (kC (hct)) ?_)|(refine rg 7 (mW rfl (vV (cH rfl rfl (by omega) (by omega)) (aV ?_))))|(refine rg 9 (dR rfl (nV ?_));refine fW T rfl (fW T rfl (vV (bD T rfl rfl rfl rfl) (vV (jP rfl rfl) (aV ?_)))))|(refine rg 23 (vV (bD T rfl rfl rfl rfl) (mW rfl (aU T rfl rfl rfl rfl rfl rfl (by decide) rfl (aV ?_)))))|refine nZ ?_));all_goals first | (exfalso;omega) | exact ⟨.inl rfl,[3,4],_,rfl,by rw [← hids'];rfl,rfl,⟨.inr (aE rfl rfl (cJ _)),.inr (aE rfl rfl (fD _)),trivial⟩,by decide,kP _⟩
    · rw [if_neg hin];rw [decide_eq_false hin] at hct;dsimp only
      (repeat' (first|refine wS ?_|refine wR ?_|refine wT ?_|refine wU ?_|(refine rg 4 (vV (jL rfl rfl (by omega)) (aV ?_)))|(refine rg 5 (fW T rfl (vV (bD T rfl rfl rfl rfl) (qW T rfl (aV ?_)))))|(refine sX (id:=6) 7 153 [[],[0],[],[2],[],[2,3,4],rM 2 4,rN 7] [[],[0],[],[2],[],[2,3,4],rM 2 4] (rM 24 7) yN8 cK rfl (by decide +kernel) (by decide +kernel) ?_;(dsimp only [List.take,List.drop]);refine dP T rfl (dO T rfl (dP T rfl (dO T rfl (dN rfl (dV rfl (by exact aQ T rfl rfl rfl rfl rfl (by omega) (by omega)) ?_)))));refine dV rfl (by exact bD T rfl rfl (bV rfl qp) rfl) ?_;refine dE ?_;refine iD ?_;refine vV (kC (hct)) ?_)|(refine rg 8 (fW T rfl (vV (bD T rfl rfl rfl rfl) (vV (bP rfl rfl (by omega) (by omega)) (fW T rfl (aU T rfl rfl rfl rfl rfl rfl (by decide) rfl ?_))))))|(refine rg 9 (dR rfl (nV ?_));refine fW T rfl (fW T rfl (vV (bD T rfl rfl rfl rfl) (vV (jP rfl rfl) (aV ?_)))))|(refine rg 23 (vV (bD T rfl rfl rfl rfl) (mW rfl (aU T rfl rfl rfl rfl rfl rfl (by decide) rfl (aV ?_)))))|refine nZ ?_));all_goals first | (exfalso;omega) | exact ⟨.inl rfl,[3,4],_,rfl,by rw [← hids'];rfl,rfl,⟨.inr (aE rfl rfl (cJ _)),.inr (aE rfl rfl (fD _)),trivial⟩,by decide,kP _⟩
  by_cases k1:sk=1
  · rw [if_neg k0,if_pos k1];have hbl:=hc.f.b x.toNat (by omega)
    have hgx:c.bs[x.toNat]'(by omega)=c.bs.getD x.toNat (0,0,0):=by rw [aC,aA (by omega)];rfl
    rw [hgx] at hbl;have hbxl:(dY c.bs).length=c.bs.length:=aX _;have qb:(dY c.bs)[x.toNat]? = some [.i (c.bs.getD x.toNat (0,0,0)).1,.i (c.bs.getD x.toNat (0,0,0)).2.1,.i (c.bs.getD x.toNat (0,0,0)).2.2]:=by rw [bN,hbx];rfl
    generalize c.bs.getD x.toNat (0,0,0)=bx at *;obtain ⟨lot,cnt,ta⟩:=bx;dsimp only at *;have hun:=zT7 hc.f (lot:=lot) (by omega)
    have hu0:=hc.unit lot;generalize mT c.ks c.ls lot=u at *;have hwg:=QY ta u sn c.er hu0;unfold uC sC;dsimp only;generalize UX ta u sn c.er=z at *;obtain ⟨⟨z1,z2⟩,zb⟩:=z;dsimp only at *;cases zb with
    | true=>
      rw [if_pos rfl];have hin:=zK7 (r1,r2) (z1,z2);dsimp only at *;generalize J1 (max r1 z1) (min r2 z2)=y at *;obtain ⟨⟨y1,y2⟩,yb⟩:=y;dsimp only at *
      (repeat' (first|refine wS ?_|refine wR ?_|refine wT ?_|refine wU ?_|(refine rg 4 (vV (fB rfl rfl (by omega)) (aV ?_)))|(refine rg 10 (vV (jL rfl rfl (by omega)) (aV ?_)))|(refine bO (id:=11) 153 yN9 [47,48,49,50,51,52,53,54,55,56,57,12] yO0 cK rfl (by decide +kernel) (dN rfl (dV rfl (by exact eU rfl rfl) ?_));refine dP T rfl (dO T rfl (dP T rfl (dO T rfl (dN rfl (dV rfl (by exact aQ T rfl rfl rfl rfl rfl (by omega) (by omega)) ?_)))));refine dV rfl (by exact bD T rfl rfl (bV rfl qp) rfl) ?_;refine dV rfl (ix T rfl (by omega) (lE _) qb) (dO T rfl (uL rfl rfl rfl (by exact bM T rfl) rfl ?_));refine dE ?_;refine aU T rfl rfl rfl rfl rfl rfl (by decide) rfl ?_)|(refine sY (id:=12) 23 25 153 (by (dsimp only [yD];done)) (by decide +kernel) yO1 [59,60,61,62,63,64,65,66,67,68,69,70,71,72,73,74,75,76,77,78,79,58,80,81,13] yO2 cK rfl (by decide +kernel) (dP T rfl (dO T rfl (dN rfl (dV rfl (by exact eU rfl rfl) ?_))));refine dP T rfl (dO T rfl (dN rfl (dV rfl (by exact eU rfl rfl) ?_)));refine dP T rfl (dO T rfl (dP T rfl (dO T rfl (dV rfl (kC (hun)) (dP T rfl (dO T rfl (dN rfl (dV rfl (by exact eU rfl rfl) ?_))))))));refine dP T rfl (dP T rfl (dO T rfl (dV rfl (kC (hwg)) (dN rfl (dV rfl (by exact dU rfl rfl) ?_)))));refine dV rfl (by exact dU rfl rfl) ?_;refine uL rfl rfl rfl (by exact bM T rfl) rfl ?_;refine dE ?_;refine aU T rfl rfl rfl rfl rfl rfl (by decide) rfl (aV ?_))|(refine rg 13 (mV ?_))|(refine sY (id:=14) 9 10 153 (by (dsimp only [yD];done)) (by decide +kernel) [[],[0],[],[0,1,2],rN 4,[],rN 6,rN 7,rN 8,rN 8] [84,85,86,87,88,89,90,83,91,92] [[],[],[84,85],[],[],rM 84 5,[],[],[],[91]] cK rfl (by decide +kernel) (dP T rfl (dO T rfl (dN rfl (dV rfl (by exact aQ T rfl rfl rfl rfl rfl (by omega) (by omega)) ?_))));refine dV rfl (by exact bD T rfl rfl (bV rfl qc) rfl) ?_;refine dO T rfl (dV rfl (kC (hin)) (dN rfl (dV rfl (by exact dU rfl rfl) ?_)));refine dV rfl (by exact dU rfl rfl) ?_;refine dE ?_;refine aU T rfl rfl rfl rfl rfl rfl (by decide) rfl (aV ?_))|(refine rg 15 (fW T rfl (vV (bD T rfl rfl rfl rfl) (mW rfl (vV (bD T rfl rfl rfl rfl) (mW rfl (vV (by exact aQ T rfl rfl rfl rfl rfl (by omega) (by omega)) ?_))))));refine aU T rfl rfl rfl rfl rfl rfl (by decide) (lQ rfl qc rfl) (aV ?_))|(refine rg 23 (vV (bD T rfl rfl rfl rfl) (mW rfl (aU T rfl rfl rfl rfl rfl rfl (by decide) rfl (aV ?_)))))|refine nZ ?_));all_goals first | (exfalso;omega) | exact ⟨.inl rfl,[3,4],_,rfl,rfl,rfl,⟨.inr (aE rfl rfl (cJ _)),.inr (aE rfl (ctn y1 y2) (fD _)),trivial⟩,by decide,kP _⟩
    | false=>
      rw [if_neg (by simp)]
      (repeat' (first|refine wS ?_|refine wK ?_|refine wR ?_|refine wT ?_|refine wU ?_|(refine rg 4 (vV (fB rfl rfl (by omega)) (aV ?_)))|(refine rg 10 (vV (jL rfl rfl (by omega)) (aV ?_)))|(refine bO (id:=11) 153 yN9 [47,48,49,50,51,52,53,54,55,56,57,12] yO0 cK rfl (by decide +kernel) (dN rfl (dV rfl (by exact eU rfl rfl) ?_));refine dP T rfl (dO T rfl (dP T rfl (dO T rfl (dN rfl (dV rfl (by exact aQ T rfl rfl rfl rfl rfl (by omega) (by omega)) ?_)))));refine dV rfl (by exact bD T rfl rfl (bV rfl qp) rfl) ?_;refine dV rfl (ix T rfl (by omega) (lE _) qb) (dO T rfl (uL rfl rfl rfl (by exact bM T rfl) rfl ?_));refine dE ?_;refine aU T rfl rfl rfl rfl rfl rfl (by decide) rfl ?_)|(refine sY (id:=12) 23 25 153 (by (dsimp only [yD];done)) (by decide +kernel) yO1 [59,60,61,62,63,64,65,66,67,68,69,70,71,72,73,74,75,76,77,78,79,58,80,81,13] yO2 cK rfl (by decide +kernel) (dP T rfl (dO T rfl (dN rfl (dV rfl (by exact eU rfl rfl) ?_))));refine dP T rfl (dO T rfl (dN rfl (dV rfl (by exact eU rfl rfl) ?_)));refine dP T rfl (dO T rfl (dP T rfl (dO T rfl (dV rfl (kC (hun)) (dP T rfl (dO T rfl (dN rfl (dV rfl (by exact eU rfl rfl) ?_))))))));refine dP T rfl (dP T rfl (dO T rfl (dV rfl (kC (hwg)) (dN rfl (dV rfl (by exact dU rfl rfl) ?_)))));refine dV rfl (by exact dU rfl rfl) ?_;refine uL rfl rfl rfl (by exact bM T rfl) rfl ?_;refine dE ?_;refine aU T rfl rfl rfl rfl rfl rfl (by decide) rfl (aV ?_))|(refine rg 13 (mV ?_))|(refine rg 15 (fW T rfl (vV (bD T rfl rfl rfl rfl) (mW rfl (vV (bD T rfl rfl rfl rfl) (mW rfl (vV (by exact aQ T rfl rfl rfl rfl rfl (by omega) (by omega)) ?_))))));refine aU T rfl rfl rfl rfl rfl rfl (by decide) (lQ rfl qc rfl) (aV ?_))|(refine rg 23 (vV (bD T rfl rfl rfl rfl) (mW rfl (aU T rfl rfl rfl rfl rfl rfl (by decide) rfl (aV ?_)))))|refine nZ ?_));all_goals first | (exfalso;omega) | exact ⟨.inl rfl,[3,4],_,rfl,rfl,rfl,⟨.inr (aE rfl rfl (cJ _)),.inr (aE rfl (ctn z1 z2) (fD _)),trivial⟩,by decide,kP _⟩
  by_cases k2:sk=2
  · have hpk:=WP (r1,r2) sn c.sl ⟨by omega,by omega,by omega,by omega⟩
    rw [if_neg k0,if_neg k1,if_pos k2];unfold sC;dsimp only at *;generalize yS (r1,r2) sn c.sl=z at *;obtain ⟨⟨z1,z2⟩,zb⟩:=z;dsimp only at *
    (repeat' (first|refine wS ?_|refine wR ?_|refine wT ?_|refine wU ?_|(refine rg 4 (vV (fB rfl rfl (by omega)) (aV ?_)))|(refine rg 10 (vV (fB rfl rfl (by omega)) (aV ?_)))|(refine rg 16 (vV (jL rfl rfl (by omega)) (aV ?_)))|(refine sY (id:=17) 18 20 153 (by (dsimp only [yD];done)) (by decide +kernel) [[],[0],[],[],[3],[],[3,4,5],rM 3 4,[],[8],[],[10],[10,11],[10,11,12],rM 10 4,rM 3 12,rM 3 13,rM 3 14,rM 3 14,rN 18] [102,103,104,105,106,107,108,109,110,111,112,113,114,115,116,117,101,118,119,120] [[],[],[102,103],[102,103,104],[102,103,104],rM 102 5,[102,103,104],[102,103,104],rM 102 8,rM 102 8,rM 102 10,rM 102 10,rM 102 10,rM 102 10,rM 102 10,[102,103,104],[102,103,104],[102,103,104],[102,103,104,118],[119]] cK rfl (by decide +kernel) (dP T rfl (dO T rfl (dN rfl (dP T rfl (dO T rfl (dN rfl (dV rfl (by exact aQ T rfl rfl rfl rfl rfl (by omega) (by omega)) ?_)))))));refine dV rfl (by exact bD T rfl rfl (bV rfl qc) rfl) ?_;refine dP T rfl (dO T rfl (dN rfl (dV rfl (by exact eU rfl rfl) ?_)));refine dP T rfl (dP T rfl (dO T rfl (dV rfl (kC (hpk)) (dN rfl (dV rfl (by exact dU rfl rfl) ?_)))));refine dV rfl (by exact dU rfl rfl) ?_;refine dV rfl (by exact aQ T rfl rfl rfl rfl rfl (by omega) (by omega)) ?_;refine dE ?_;refine aU T rfl rfl rfl rfl rfl rfl (by decide) (lQ rfl qc rfl) (aV ?_))|(refine rg 23 (vV (bD T rfl rfl rfl rfl) (mW rfl (aU T rfl rfl rfl rfl rfl rfl (by decide) rfl (aV ?_)))))|refine nZ ?_));all_goals first | (exfalso;omega) | exact ⟨.inl rfl,[3,4],_,rfl,rfl,rfl,⟨.inr (aE rfl rfl (cJ _)),.inr (aE rfl (ctn z1 z2) (fD _)),trivial⟩,by decide,kP _⟩
  by_cases k3:sk=3
  · rw [if_neg k0,if_neg k1,if_neg k2,if_pos k3];have hhs:=zG5 r1 r2 sn;unfold sC;dsimp only;generalize vH r1 r2 sn=hb' at *
    (repeat' (first|refine wS ?_|refine wR ?_|refine wT ?_|refine wU ?_|(refine rg 4 (vV (fB rfl rfl (by omega)) (aV ?_)))|(refine rg 10 (vV (fB rfl rfl (by omega)) (aV ?_)))|(refine rg 16 (vV (fB rfl rfl (by omega)) (aV ?_)))|(refine rg 18 (vV (jL rfl rfl (by omega)) (aV ?_)))|(refine bO (id:=19) 153 [[],[0],[],[0,1,2],rN 4,[],[5],rN 7] (rM 123 8) [[],[],[123,124],[],[],rM 123 5,rM 123 5,[]] cK rfl (by decide +kernel) (dP T rfl (dO T rfl (dN rfl (dV rfl (by exact aQ T rfl rfl rfl rfl rfl (by omega) (by omega)) ?_))));refine dV rfl (by exact bD T rfl rfl (bV rfl qc) rfl) ?_;refine dP T rfl (dO T rfl (dV rfl (kC (hhs)) (dE ?_)));refine aV ?_)|(refine rg 20 (fW T rfl (vV (bD T rfl rfl rfl rfl) (mW rfl (fW T rfl (vV (bD T rfl rfl rfl rfl) (fW T rfl (vV (bD T rfl rfl rfl rfl) (vV (bP rfl rfl (by omega) (by omega)) (vV (by exact gG T rfl rfl rfl rfl) ?_)))))))));refine vV (by exact aQ T rfl rfl rfl rfl rfl (by omega) (by omega)) ?_;refine aU T rfl rfl rfl rfl rfl rfl (by decide) (lQ rfl qc rfl) ?_)|(refine rg 23 (vV (bD T rfl rfl rfl rfl) (mW rfl (aU T rfl rfl rfl rfl rfl rfl (by decide) rfl (aV ?_)))))|refine nZ ?_));all_goals first | (exfalso;omega) | exact ⟨.inl rfl,[3,4],_,rfl,rfl,rfl,⟨.inr (aE rfl rfl (cJ _)),.inr (aE rfl (ctn sn (sn+1)) (fD _)),trivial⟩,by decide,kP _⟩
  by_cases k5:sk=5
  · rw [if_neg k0,if_neg k1,if_neg k2,if_neg k3,if_pos k5];dsimp only
    (repeat' (first|refine wS ?_|refine wR ?_|refine wT ?_|refine wU ?_|(refine rg 4 (vV (fB rfl rfl (by omega)) (aV ?_)))|(refine rg 10 (vV (fB rfl rfl (by omega)) (aV ?_)))|(refine rg 16 (vV (fB rfl rfl (by omega)) (aV ?_)))|(refine rg 18 (vV (fB rfl rfl (by omega)) (aV ?_)))|(refine rg 21 (vV (jL rfl rfl (by omega)) (aV ?_)))|(refine bO (id:=22) 153 [[],[0],[],[0,1,2],rN 4,[],[5],rN 7] (rM 143 8) [[],[],[143,144],[],[],rM 143 5,rM 143 5,[]] cK rfl (by decide +kernel) (dP T rfl (dO T rfl (dN rfl (dV rfl (by exact aQ T rfl rfl rfl rfl rfl (by omega) (by omega)) ?_))));refine dV rfl (by exact bD T rfl rfl (bV rfl qp) rfl) ?_;refine dP T rfl (dO T rfl (dV rfl (bW rfl rfl) (dE ?_)));refine aV ?_)|(refine rg 23 (vV (bD T rfl rfl rfl rfl) (mW rfl (aU T rfl rfl rfl rfl rfl rfl (by decide) rfl (aV ?_)))))|refine nZ ?_));all_goals first | (exfalso;omega) | exact ⟨.inl rfl,[3,4],_,rfl,rfl,rfl,⟨.inr (aE rfl rfl (cJ _)),.inr (aE rfl rfl (fD _)),trivial⟩,by decide,kP _⟩
  · rw [if_neg k0,if_neg k1,if_neg k2,if_neg k3,if_neg k5]
    (repeat' (first|refine wS ?_|refine wK ?_|refine wR ?_|refine wU ?_|(refine rg 4 (vV (fB rfl rfl (by omega)) (aV ?_)))|(refine rg 10 (vV (fB rfl rfl (by omega)) (aV ?_)))|(refine rg 16 (vV (fB rfl rfl (by omega)) (aV ?_)))|(refine rg 18 (vV (fB rfl rfl (by omega)) (aV ?_)))|(refine rg 21 (vV (fB rfl rfl (by omega)) (aV ?_)))|(refine rg 23 (lW T rfl (mW rfl (aU T rfl rfl rfl rfl rfl rfl (by decide) rfl (aV ?_)))))|refine nZ ?_));all_goals first | (exfalso;omega) | exact ⟨.inl rfl,[3,4],_,rfl,rfl,rfl,⟨.inr (aE rfl rfl (cJ _)),.inr (aE rfl rfl (fD _)),trivial⟩,by decide,kP _⟩
end Go.Proofs.YtojgimibalokkaaGreat
namespace Go.Ld
open Go.Ab Go.Proofs.YtojgimibalokkaaGreat
theorem GF (c:Cx) (w:W) (i:Nat) (s:Ev):(jK c w i s).1.1=w.1∧(jK c w i s).1.2.2.length=w.2.2.length:=by
  unfold jK sC;dsimp only
  repeat' split
  all_goals exact ⟨rfl,by first | rfl | exact gW⟩
end Go.Ld
namespace Go.Proofs.YtojgimibalokkaaGreat
open Go Go.Ab Go.Ld
end Go.Proofs.YtojgimibalokkaaGreat
namespace Go.Ld
open Go.Ab Go.Proofs.YtojgimibalokkaaGreat
theorem yE8:∀ i:Nat,i<3→([0,1,2]:List Nat)[i]? = some i:=by decide
theorem YF {r:Int}{L:List AV}(h:AV.idfL L=true):AV.idfL [AV.pr [.i r] 0,.pr [.pr L 0] 0]=true:=by simp [AV.idfL,AV.idf,h]
theorem sD {h:Hp}{i:Nat}{θ:Nat→Nat}{cs:List AV}(hk:h[i]? = some (.cells cs)) (hi:AV.idfL cs=true):h[i]? = some ((AB.cells cs).map θ):=by
  rw [hk];show _=some (AB.cells (AV.mapL θ cs));rw [mD θ cs hi]
theorem EO {h:Hp}(x:W):oK h (.agg (wA x)) (.agg (wA x)):=.agg (.cons (.row _ _ _) (.cons (.v _) (.cons (.row _ _ _) .nil)))
end Go.Ld
namespace Go.Proofs.YtojgimibalokkaaGreat
open Go Go.Ab Go.Ld
attribute [local irreducible] VC AW cF aP
set_option maxHeartbeats 4000000
theorem UA {F:FuncId}{r:Int}{L:List AV}{q:W→Bool}(l:List W) (hl:l.length≤1000000) (hL:AV.idfL L=true) (hp:AV.plnL L=true) (hF:∀ x,x∈l→aP Tryz.prog F [.agg (wA x),.pr [.i r] 0,.pr [.pr L 0] 0] [] (.b (q x)) []) :
    aP Tryz.prog 76 [.sl 0 0 l.length 3,.clo (.func F) [] [.pr [.i r] 0,.ptr 1 0]] [.arr (wsA l) 3,.cells [.ptr 2 0],.cells L] (.sl 0 0 (gE q l).length 3) [.arr (wsA (gE q l)) 3,.cells [.ptr 2 0],.cells L]:=by
  have hll:(wsA l).length=l.length:=eZ l;have hi:AV.idfL [AV.pr [.i r] 0,.pr [.pr L 0] 0]=true:=YF hL;have hix:=XX hl hi hF;have hvc:∀ {X:AB} {Y:Hp},mG (X :: .cells [.ptr 2 0] :: .cells L::Y) [AV.pr [.i r] 0,.ptr 1 0] [.pr [.i r] 0,.pr [.pr L 0] 0]:=fun {X Y}=>.cons (.pr _ _) (.cons (.ptr rfl (.cons (.ptr rfl (lP _ hp)) .nil)) .nil);have hvw:oK [.arr (wsA l) 3,.cells [.ptr 2 0],.cells L] (.sl 0 0 l.length 3) (.rowE (wsA l) 3):=qG rfl hll.symm (sH (fun _=>rfl) _);refine bL T Tryz.func76 rfl rfl rfl rfl ?_;rcases N3 q l 0 with ⟨h1,h2⟩ | ⟨j,hj,h1,h2,h3⟩
  · rw [h1] at hix;have hk:gE q l=l:=oN.2 fun x hx=>by rw [h2 x hx];rfl
    rw [hk]
    (repeat' (first|refine wS ?_|refine wR ?_|refine wT ?_|(refine rg 0 (aV ?_))|(refine rg 1 (dR rfl (vV (by exact eC rfl rfl hix (.cons hvw (.cons (.clo .nil hvc) .nil)) rfl rfl) ?_));refine aV ?_)|(refine rg 2 (mW rfl (vV (bW rfl rfl) ?_)))|(refine rg 3 (mW rfl (aV ?_)))|refine nZ ?_));all_goals first | (exfalso;omega) | exact ⟨.inl rfl,[0,1,2],_,rfl,rfl,rfl,⟨.inr (aE rfl rfl (bQ _)),.inr rfl,.inr (sD rfl hL),trivial⟩,by decide,yE8⟩
  · rw [h1,Nat.zero_add] at hix;have hk0:gE q (l.take (j+1))=l.take j:=by
      rw [wQ hj,if_pos h2];exact oN.2 fun x hx=>by rw [h3 x hx];rfl
    have hkl:(gE q (l.take (j+1))).length=j:=by rw [hk0];simp;omega
    have hka:gE q (l.take (j+1))++l.drop (gE q (l.take (j+1))).length=l:=by rw [hkl,hk0,bX]
    have hkf:gE q l=gE q (l.take l.length):=by rw [cQ]
    rw [hkf]
    (repeat' (first|refine wS ?_|refine wB ?_|refine wK ?_|refine wU ?_|(refine rg 0 (aV ?_))|(refine rg 1 (dR rfl (vV (by exact eC rfl rfl hix (.cons hvw (.cons (.clo .nil hvc) .nil)) rfl rfl) ?_));refine aV ?_)|(refine rg 2 (mW rfl (vV (bW rfl rfl) ?_)))|(refine iA 4 rfl rfl rfl (by omega) (by omega) ?_)|refine nZ ?_));all_goals try (exfalso;omega)
    refine cX (X:={m:Nat // m≤l.length}) (fun m=>[(0,.sl 0 0 l.length 3),(1,.clo (.func F) [] [.pr [.i r] 0,.ptr 1 0]),(5,.i (gE q (l.take m.1)).length),(6,.i m.1)]) (fun m=>[.arr (wsA (gE q (l.take m.1)++l.drop (gE q (l.take m.1)).length)) 3,.cells [.ptr 2 0],.cells L]) (fun m=>l.length-m.1) ⟨j+1,hj⟩ ⟨[0,1,2],rfl,⟨rfl,rfl,by dsimp only;rw [hkl];rfl,rfl,trivial⟩,⟨.inr (aE rfl (by dsimp only;rw [hka]) (bQ _)),.inr rfl,.inr (sD rfl hL),trivial⟩,by decide,yE8⟩ ?_
    rintro ⟨m,hm⟩;dsimp only;have hle:=IZ q l m;by_cases hlt:m<l.length
    · have hs:=wQ (q:=q) hlt;have hget:=NL (G:=gE q (l.take m)) (l:=l) (m:=m) (i:=0+(m:Int).toNat) hle hlt (by omega)
      have hg2:=NL (G:=gE q (l.take m)) (l:=l) (m:=(gE q (l.take m)).length) (i:=0+(((gE q (l.take m)).length:Nat):Int).toNat) (aT _) (by omega) (by omega)
      rw [oT hlt] at hget;have hset:=zU2 (G:=gE q (l.take m)) (l:=l) (x:=l[m]) (j:=(((gE q (l.take m)).length:Nat):Int)) (by omega) rfl
      have hc:=hF l[m] (aI hlt);have hal:=SZ (G:=gE q (l.take m)) (l:=l) (by omega)
      generalize l[m]=x at *;generalize l.getD (gE q (l.take m)).length w0=y at *;generalize hG:gE q (l.take m)=G at *;generalize hA:wsA (G++l.drop G.length)=A at *;cases e:q x
      · rw [e] at hc hs;rw [if_neg (by simp)] at hs
        (repeat' (first|refine wS ?_|refine wB ?_|refine wK ?_|refine wT ?_|(refine wC rfl ?_ ?_<;>(intro hb;(try simp only [nm] at hb);try (exfalso;omega)))|(refine rg 5 (dR rfl (qW T rfl (vV (aK rfl rfl) ?_))))|(refine rg 7 (dR rfl (vV (by exact aQ T rfl rfl rfl rfl rfl (by omega) (by omega)) ?_));refine vV (by exact bD T rfl rfl (bV rfl hget) rfl) ?_;refine bS (bM T rfl) rfl (aU T rfl rfl rfl rfl rfl rfl (by decide) rfl ?_))|(refine rg 8 (mW rfl (vV (bD T rfl rfl rfl rfl) (vV (by exact eC rfl rfl hc (.cons (EO x) hvc) rfl rfl) ?_)));refine vV (cT rfl) ?_)|(refine rg 9 (dR rfl (vV (bD T rfl rfl rfl rfl) (vV (by exact aQ T rfl rfl rfl rfl rfl (by omega) (by omega)) ?_)));refine aU T rfl rfl rfl rfl rfl rfl (by decide) (lQ rfl hg2 rfl) ?_)|(refine iA 10 rfl rfl rfl (by omega) (by omega) ?_)|(refine iA 6 rfl rfl rfl (by omega) (by omega) ?_)|refine nZ ?_));all_goals try (exfalso;omega)
        all_goals exact ⟨⟨m+1,hlt⟩,by dsimp only;omega,[0,1,2],rfl,⟨rfl,rfl,by rw [hs];simp only [aF];rfl,rfl,trivial⟩,⟨.inr (aE rfl (by rw [hs];exact hset) (bQ _)),.inr rfl,.inr (sD rfl hL),trivial⟩,by decide,yE8⟩
      · rw [e] at hc hs;rw [if_pos rfl] at hs
        (repeat' (first|refine wS ?_|refine wB ?_|refine wK ?_|refine wU ?_|(refine wC rfl ?_ ?_<;>(intro hb;(try simp only [nm] at hb);try (exfalso;omega)))|(refine rg 5 (dR rfl (qW T rfl (vV (aK rfl rfl) ?_))))|(refine rg 7 (dR rfl (vV (by exact aQ T rfl rfl rfl rfl rfl (by omega) (by omega)) ?_));refine vV (by exact bD T rfl rfl (bV rfl hget) rfl) ?_;refine bS (bM T rfl) rfl (aU T rfl rfl rfl rfl rfl rfl (by decide) rfl ?_))|(refine rg 8 (mW rfl (vV (bD T rfl rfl rfl rfl) (vV (by exact eC rfl rfl hc (.cons (EO x) hvc) rfl rfl) ?_)));refine vV (cT rfl) ?_)|(refine iA 6 rfl rfl rfl (by omega) (by omega) ?_)|refine nZ ?_));all_goals try (exfalso;omega)
        all_goals exact ⟨⟨m+1,hlt⟩,by dsimp only;omega,[0,1,2],rfl,⟨rfl,rfl,by rw [hs];rfl,rfl,trivial⟩,⟨.inr (aE rfl (by rw [hs];exact hA.symm) (bQ _)),.inr rfl,.inr (sD rfl hL),trivial⟩,by decide,yE8⟩
    · obtain rfl:m=l.length:=by omega
      have hal:=SZ (G:=gE q (l.take l.length)) (l:=l) (by omega)
      have htk:=VK (G:=gE q (l.take l.length)) (l:=l);generalize gE q (l.take l.length)=G at *
      (repeat' (first|refine wS ?_|refine wR ?_|refine wE ?_|(refine wC rfl ?_ ?_<;>(intro hb;(try simp only [nm] at hb);try (exfalso;omega)))|(refine rg 5 (dR rfl (qW T rfl (vV (aK rfl rfl) ?_))))|(refine rg 11 (dR rfl (vV (by exact kO T rfl rfl rfl rfl rfl rfl (by omega) (by omega) (by omega)) ?_));refine L0 T rfl rfl rfl ⟨rfl,rfl,by decide⟩ rfl (by rw [hal];omega) ?_)|(refine rg 12 (dR rfl (vV (by exact kO T rfl rfl rfl rfl rfl rfl (by omega) (by omega) (by omega)) ?_));refine aV ?_)|refine nZ ?_));all_goals try (exfalso;omega)
      all_goals exact ⟨.inl rfl,[0,1,2],_,rfl,(by show AV.sl 0 0 ((G.length:Int)-0).toNat 3=AV.sl 0 0 G.length 3;rw [show ((G.length:Int)-0).toNat=G.length by omega]),rfl,⟨.inr (aE rfl htk (bQ _)),.inr rfl,.inr (sD rfl hL),trivial⟩,by decide,yE8⟩
end Go.Proofs.YtojgimibalokkaaGreat
namespace Go.Ab
open Go
theorem NO {P:Program}{f:FuncId}{args:List AV}{hin hout:Hp}{es:List (List AV)}{len sz k:Nat}(hk:k=hout.length) (hn:len=es.length) (hi:AV.idfL es.flatten=true) (h:aP P f args hin (.sl k 0 len sz) (hout++[.arr es sz])):aP P f args hin (.rowE es sz) (hout++[.gone]):=by
  refine ⟨h.1,fun ρ S w vs hs ha=>(h.2 ρ S w vs hs ha).mono ?_⟩;rintro e w' ⟨y,ρ',S',rfl,h2,h3⟩;rw [hn] at h3;have hb:(hout++[AB.arr es sz])[k]? = some (.arr es sz):=by subst hk;simp
  have e:(hout++[AB.arr es sz]).set k .gone=hout++[.gone]:=by subst hk;simp
  exact ⟨y,_,_,rfl,e▸h2.freeze (k:=k) hb,wY hi (h2.blk k _ hb) h3⟩
theorem H7 (L:List Nat):∀ i:Nat,i<1→(0::L)[i]? = some i:=fun i hi=>by cases i with | zero=>rfl | succ i=>omega
end Go.Ab
namespace Go.Proofs.YtojgimibalokkaaGreat
open Go Go.Ab Go.Ld
attribute [local irreducible] VC AW cF aP
set_option maxHeartbeats 4000000
theorem zE5 (c:Cx) (gs all:List G){n:Nat}(ok:nX n all) (up:KT all) (hne:∀ g,g∈all→g.2≠[]) :
    aP Tryz.prog 31 [.ptr 0 0,.rowE (kB all) 2] [.cells (kN c gs)] (.rowE (kB (uD c all)) 2) [.cells (kN c gs),.gone]:=by
  have h12:all.length≤12:=bY ok.len ok.ln;have hal:(kB all).length=all.length:=kE _;have hlb:∀ g,g∈all→0≤iX g∧iX g≤4000000:=fun g hg=>DN (ok.ok g hg) (hne g hg);have hsb:=ER hlb;refine NO (k:=1) (hout:=[.cells (kN c gs)]) rfl (by rw [kE]:(uD c all).length=(kB (uD c all)).length) (iG (eO _)) ?_
  refine bL T Tryz.func31 rfl rfl rfl rfl ?_
  repeat' (first|refine wS ?_|(refine rg 0 (bS (bZ rfl rfl) rfl (aV ?_)))|(refine rg 1 (aV ?_))|refine nZ ?_)
  (repeat' (first|refine wB ?_|(refine rg 2 (mW rfl (qW T rfl (mV ?_))))|refine nZ ?_));refine cX (X:={k:Nat // k≤all.length}) (fun k=>[(1,.rowE (kB all) 2),(2,.ptr 1 0),(5,.i (nN (all.take k.1))),(16,.rowE (kB all) 2),(17,.i (kB all).length),(18,.i k.1)]) (fun _=>[.cells (kN c gs),.cells [.ptr 0 0]]) (fun k=>all.length-k.1) ⟨0,cC _⟩ ⟨[0,1],rfl,(by repeat first|exact trivial|refine ⟨rfl,?_⟩),⟨.inr rfl,.inr rfl,trivial⟩,by decide,H7 _⟩ ?_
  rintro ⟨k,hk⟩;dsimp only;by_cases hlt:k<all.length
  · have hg:=FM hlt;have hs:=VM hlt;have hb:=ER (l:=all.take k) fun g hg=>hlb g (eK hg);have hkl:(all.take k).length≤12:=by rw [bE];omega
    have hl1:=hlb _ (aI hlt);have hc:=PF all[k] (hne _ (aI hlt)) (by have:=ok.ws _ (aI hlt);omega)
    generalize all[k]=g at *;generalize nN (all.take k)=S at *;generalize iX g=v at *
    (repeat' (first|refine wS ?_|refine wB ?_|refine wK ?_|(refine wC rfl ?_ ?_<;>(intro hb;(try simp only [nm] at hb);try (exfalso;omega)))|(refine rg 3 (vV (aK rfl rfl) ?_))|(refine rg 4 (vV (ix T rfl (by omega) (qJ _) hg) (lW T rfl (bS (bM T rfl) rfl (aU T rfl rfl rfl rfl rfl rfl (by decide) rfl ?_)))))|(refine rg 5 (mW rfl (lW T rfl (vV (kC (hc)) (vV (bP rfl rfl (by omega) (by omega)) (aV ?_))))))|(refine rg 6 (vV (bP rfl rfl (by omega) (by omega)) (mV ?_)))|refine nZ ?_));all_goals first | (exfalso;omega) | exact ⟨⟨k+1,hlt⟩,by dsimp only;omega,[0,1],rfl,⟨rfl,rfl,by dsimp only;rw [hs];rfl,rfl,rfl,rfl,trivial⟩,⟨.inr rfl,.inr rfl,trivial⟩,by decide,H7 _⟩
  obtain rfl:k=all.length:=by omega
  rw [cQ]
  (repeat' (first|refine wS ?_|refine wB ?_|refine wE ?_|(refine wC rfl ?_ ?_<;>(intro hb;(try simp only [nm] at hb);try (exfalso;omega)))|(refine rg 3 (vV (aK rfl rfl) ?_))|(refine rg 7 (vV (dS rfl) (rY 8 2 rfl (by decide) ?_)))|(refine rg 8 (mW rfl (qW T rfl (mV ?_))))|refine nZ ?_));all_goals try (exfalso;omega)
  refine cX (X:={k:Nat // k≤all.length}) (fun k=>[(2,.ptr 1 0),(5,.i (nN all)),(8,.sl 2 0 k.1 2),(27,.rowE (kB all) 2),(28,.i (kB all).length),(29,.i k.1)]) (fun k=>[.cells (kN c gs),.cells [.ptr 0 0],.arr (kB ((paid c all).take k.1)) 2]) (fun k=>all.length-k.1) ⟨0,cC _⟩ ⟨[0,1,2],rfl,(by repeat first|exact trivial|refine ⟨rfl,?_⟩),⟨.inr rfl,.inr rfl,.inr rfl,trivial⟩,by decide,H7 _⟩ ?_
  clear hk hlt;rintro ⟨k,hk⟩;dsimp only;have hpl:=WW c all;by_cases hlt:k<all.length
  · have hg:=FM hlt;have hp:=SJ (c:=c) hlt;have hl1:=hlb _ (aI hlt);have hgo:=ok.ok _ (aI hlt);have hgw:=ok.ws _ (aI hlt);have hc:=PF all[k] (hne _ (aI hlt)) (by omega)
    have htl:((paid c all).take k).length=k:=by rw [bE];omega
    generalize (paid c all).take k=Q at *;generalize all[k]=g at *;obtain ⟨bs,ws⟩:=g;dsimp only at hgw hp;generalize hv:iX (bs,ws)=v at *;generalize nN all=S at *;have hcl:=KA ws (by omega)
    have hd:=UA (r:=S-v) (L:=kN c gs) (q:=fun w=>decide (w.2.1+(S-v) > c.m)) ws (by omega) rfl rfl (fun x hx=>zE7 c gs x (S-v) ⟨(hgo.ws x hx).m0,(hgo.ws x hx).m1⟩ (by omega))
    generalize gE (fun w=>decide (w.2.1+(S-v) > c.m)) ws=ws' at *;have hQl:(kB Q).length=k:=by rw [kE,htl]
    have hQ:kB (Q++[(bs,ws')])=kB Q++[[.rowE (ints bs) 1,.rowE (wsA ws') 3]]:=by rw [kB,dJ];rfl
    rw [← hp] at hQ;generalize kB Q=Q' at *
    (repeat' (first|refine wS ?_|refine wB ?_|refine wK ?_|(refine wC rfl ?_ ?_<;>(intro hb;(try simp only [nm] at hb);try (exfalso;omega)))|(refine rg 9 (vV (aK rfl rfl) ?_))|(refine rg 10 (vV (ix T rfl (by omega) (qJ _) hg) (lW T rfl (bS (bM T rfl) rfl (aU T rfl rfl rfl rfl rfl rfl (by decide) rfl ?_)))))|(refine rg 11 (mW rfl (lW T rfl (vV (kC (hc)) (vV (cH rfl rfl (by omega) (by omega)) (bS (bM T rfl) rfl (aU T rfl rfl rfl rfl rfl rfl (by decide) rfl ?_)))))))|refine nZ ?_));all_goals try (exfalso;omega)
    refine eI 11 rfl rfl rfl ?_
    repeat' (first|(refine rg 12 (fR T rfl (bS (by exact hO rfl rfl hcl (.inr ⟨rfl,rfl,by simp⟩)) rfl ?_));refine vV (by exact gI rfl rfl) ?_;refine fO [5,1,0] rfl rfl (hd) rfl rfl (by decide) ⟨.inr (aE rfl (dA _ (bQ _)) (bQ _)),.inr rfl,.inr rfl,trivial⟩ (by simp) rfl ?_;refine wF (es:=wsA ws') 41 rfl (congrArg (fun x=>some (AB.arr x 3)) (dA _ (bQ _))) (eZ _).symm (iG (bQ _)) ?_;refine fW T rfl (aU T rfl rfl rfl rfl rfl rfl (by decide) rfl ?_))|(refine rg 13 (mW rfl (lW T rfl (bS (by exact bF T rfl rfl (by decide) (by decide) rfl rfl rfl) rfl ?_)));refine gD T rfl rfl rfl rfl rfl rfl (by omega) (kZ.whole rfl rfl) rfl (by simp;omega) (by simp;omega) rfl ?_;refine aV ?_)|(refine rg 14 (vV (bP rfl rfl (by omega) (by omega)) (mV ?_)))|refine nZ ?_)
    show ∃ x',_;exact ⟨⟨k+1,hlt⟩,by dsimp only;omega,⟨[0,1,7],rfl,(by repeat first|exact trivial|refine ⟨rfl,?_⟩),⟨.inr rfl,.inr rfl,.inr (aE rfl (by dsimp only;rw [hQ];exact mN hQl.symm) (eO _)),trivial⟩,by decide,H7 _⟩⟩
  obtain rfl:k=all.length:=by omega
  rw [← hpl,cQ,hpl];have pok:=ok.paid c;have pst:=oY.start pok (NX up (c:=c));rw [← hpl];generalize hL:paid c all=L at *;rw [show uD c all=sI L by rw [← hL];rfl]
  (repeat' (first|refine wS ?_|refine wB ?_|refine wE ?_|(refine wC rfl ?_ ?_<;>(intro hb;(try simp only [nm] at hb);try (exfalso;omega)))|(refine rg 9 (vV (aK rfl rfl) ?_))|(refine rg 15 (aV ?_))|refine nZ ?_));all_goals try (exfalso;omega)
  refine cX (X:={q:List G × Nat // oY n L q.1 q.2}) (fun q=>[(8,.sl 1 0 q.1.1.length 2),(12,.i q.1.2)]) (fun q=>[.cells (kN c gs),.arr (kB q.1.1) 2]) (fun q=>100*zQ2 q.1.1+(q.1.1.length-q.1.2)) ⟨(L,0),pst⟩ ⟨[0,2],rfl,(by repeat first|exact trivial|refine ⟨rfl,?_⟩),⟨.inr rfl,.inr (aE rfl rfl (eO _)),trivial⟩,by decide,H7 _⟩ ?_
  clear hsb hlb hne h12 hal pok up ok;rintro ⟨⟨o,i⟩,hq⟩;dsimp only at hq ⊢;have hol:(kB o).length=o.length:=kE _;have ho12:o.length≤12:=bY hq.ok.len hq.ok.ln;have hio:=hq.hi;by_cases hlt:i<o.length
  · have hgi:o[i]? = some o[i]:=aA hlt;have hgm:=aI hlt;generalize o[i]=g at *;have hgo:=hq.ok.ok g hgm;have hgw:=hq.ok.ws g hgm;have hsz:=hgo.sz hgw;have q1:=zB (L:=o) (j:=(i:Int)) (i:=i) hgi rfl;have hcc:=UF g hsz;cases hcr:gX g with
    | none=>
      have hk:=hq.keep hgi hcr;rw [show zI g = -1 by unfold zI;rw [hcr]] at hcc
      (repeat' (first|refine wS ?_|refine wB ?_|refine wK ?_|refine wU ?_|(refine wC rfl ?_ ?_<;>(intro hb;(try simp only [nm] at hb);try (exfalso;omega)))|(refine rg 16 (dR rfl (qW T rfl (vV (aK rfl rfl) ?_))))|(refine rg 18 (dR rfl (vV (by exact aQ T rfl rfl rfl rfl rfl (by omega) (by omega)) ?_));refine vV (by exact bD T rfl rfl (bV rfl q1) rfl) ?_;refine vV (kC (hcc)) (aV ?_))|(refine rg 19 (mW rfl (vV (fM rfl rfl) ?_)))|(refine iA 17 rfl rfl rfl (by omega) (by omega) ?_)|refine nZ ?_));all_goals try (exfalso;omega)
      exact ⟨⟨(o,i+1),hk⟩,by dsimp only;omega,⟨[0,1],rfl,(by repeat first|exact trivial|refine ⟨rfl,?_⟩),⟨.inr rfl,.inr (aE rfl rfl (eO _)),trivial⟩,by decide,H7 _⟩⟩
    | some k=>
      have hk:=hq.next hgi hcr
      obtain ⟨f1,f2,f3,_⟩:=jE hcr;have hwg:=XI hgi hcr;have hno:=OZ hq.ok hgi hcr;have hsp:=zF5 g hsz f3 f1 f2 (by omega)
      have hll:(o.set i (jY g k)++[mY g k]).length=o.length+1:=by simp
      have hso:=zF7 (o.set i (jY g k)++[mY g k]) hno.dist (by have:=hno.len;have:=hno.ln;omega) hno.hd
      have hw2:zQ2 (DG o i k g)=zQ2 (o.set i (jY g k)++[mY g k]):=UW (dZ _ _);have hl2:(DG o i k g).length=o.length+1:=by rw [DG,(dZ _ _).length_eq,hll]
      rw [show zI g=(k:Int) by unfold zI;rw [hcr]] at hcc
      have t1:=I0 (L:=o) (j:=(i:Int)) (i:=i) (x:=jY g k) rfl;have e1:kB (o.set i (jY g k)++[mY g k])=(kB o).set (0+(i:Int).toNat) (gA (jY g k))++[gA (mY g k)]:=by rw [t1,kB,dJ];rfl
      have e2:((kB o).set (0+(i:Int).toNat) (gA (jY g k))).length=o.length:=by rw [gW,hol]
      change aP _ _ _ _ _ [.arr (kB (DG o i k g)) 2] at hso;rw [hll] at hso;generalize DG o i k g=o' at *;generalize hN:o.set i (jY g k)++[mY g k]=N at *;generalize jY g k=r at *;generalize mY g k=u at *;obtain ⟨rb,rw_⟩:=r;obtain ⟨ub,uw⟩:=u
      (repeat' (first|refine wS ?_|refine wB ?_|refine wK ?_|refine wT ?_|(refine wC rfl ?_ ?_<;>(intro hb;(try simp only [nm] at hb);try (exfalso;omega)))|(refine rg 16 (dR rfl (qW T rfl (vV (aK rfl rfl) ?_))))|(refine rg 18 (dR rfl (vV (by exact aQ T rfl rfl rfl rfl rfl (by omega) (by omega)) ?_));refine vV (by exact bD T rfl rfl (bV rfl q1) rfl) ?_;refine vV (kC (hcc)) (aV ?_))|(refine rg 19 (mW rfl (vV (fM rfl rfl) ?_)))|(refine rg 20 (dR rfl (vV (by exact aQ T rfl rfl rfl rfl rfl (by omega) (by omega)) ?_));refine vV (by exact bD T rfl rfl (bV rfl q1) rfl) ?_;refine mW rfl (vV (kC (hsp)) (mW rfl (xW rfl (xW rfl (bS (bM T rfl) rfl (bS (bM T rfl) rfl (aU T rfl rfl rfl rfl rfl rfl (by decide) rfl (aU T rfl rfl rfl rfl rfl rfl (by decide) rfl ?_)))))))))|(refine rg 21 (dR rfl (vV (bD T rfl rfl rfl rfl) (vV (by exact aQ T rfl rfl rfl rfl rfl (by omega) (by omega)) ?_)));refine aU T rfl rfl rfl rfl rfl rfl (by decide) (lQ rfl q1 rfl) ?_)|(refine rg 22 (mW rfl (vV (bD T rfl rfl rfl rfl) (bS (by exact bF T rfl rfl (by decide) (by decide) rfl rfl rfl) rfl ?_)));refine gD T rfl rfl rfl rfl rfl rfl (by simp) (kZ.whole rfl rfl) rfl (by simp;omega) (by simp;omega) rfl ?_;refine aV ?_)|refine nZ ?_));all_goals try (exfalso;omega)
      refine gM [(8,.sl 1 0 (o.length+1) 2),(12,.i i)] [.cells (kN c gs),.arr (kB N) 2] ⟨[0,5],rfl,(by repeat first|exact trivial|refine ⟨rfl,?_⟩),⟨.inr rfl,.inr (aE rfl (by rw [e1];exact mN e2.symm) (eO _)),trivial⟩,by decide,H7 _⟩ ?_
      (repeat' (first|(refine rg 23 (mW rfl (fO [1] rfl rfl (hso) rfl rfl (by decide) ⟨.inr (aE rfl rfl (eO _)),trivial⟩ (by simp) rfl ?_)))|(refine rg 24 (aV ?_))|(refine iA 17 rfl rfl rfl (by omega) (by omega) ?_)|refine nZ ?_));all_goals try (exfalso;omega)
      exact ⟨⟨(o',0),hk⟩,by dsimp only;omega,⟨[0,1],rfl,⟨by dsimp only;rw [hl2];rfl,rfl,trivial⟩,⟨.inr rfl,.inr (aE rfl (dA _ (eO _)) (eO _)),trivial⟩,by decide,H7 _⟩⟩
  · have hfin:=hq.fin (by omega)
    rw [hfin]
    (repeat' (first|refine wS ?_|refine wR ?_|refine wE ?_|(refine wC rfl ?_ ?_<;>(intro hb;(try simp only [nm] at hb);try (exfalso;omega)))|(refine rg 16 (dR rfl (qW T rfl (vV (aK rfl rfl) ?_))))|(refine rg 25 (mW rfl (aV ?_)))|refine nZ ?_));all_goals first | (exfalso;omega) | exact ⟨.inl rfl,[0,1],_,rfl,rfl,rfl,⟨.inr rfl,.inr (aE rfl rfl (eO _)),trivial⟩,by decide,H7 _⟩
end Go.Proofs.YtojgimibalokkaaGreat
namespace Go.Ld
open Go.Ab Go.Proofs.YtojgimibalokkaaGreat
structure nY (c:Cx) (M:Int) (gs:List G):Prop where
  out:nX c.bs.length gs
  up:KT gs
  ne:∀ g,g∈gs→g.2≠[]
  ml:∀ g,g∈gs→∀ w,w∈g.2→w.2.1≤M
  cov:(gs.flatMap (·.1)).Perm (nats (List.range c.bs.length))
  idn:(gs.flatMap fun g=>(iI g).1).Perm (nats (List.range c.bs.length))
  wl:∀ g,g∈gs→g.2.length≤1000
structure kQ (c:Cx) (gs:List G):Prop where
  mid:nY c c.m gs
  cer:∀ g,g∈gs→gX g=none
  asc:∀ g,g∈gs→g.2.Pairwise fun a b=>oR a b<0
theorem A0 (n:Nat):(nats (List.range n)).Nodup:=List.Pairwise.map (R:=fun a b=>a≠b) _ (fun a b h e=>h (Int.ofNat.inj e)) zQ0
theorem vA {n:Nat}{b:Int}:b∈nats (List.range n)↔0≤b∧b<n:=by
  constructor
  · intro h;obtain ⟨i,hi,rfl⟩:=bB.1 h;have:=eJ.1 hi;exact ⟨by omega,by omega⟩
  · intro h;exact bB.2 ⟨b.toNat,eJ.2 (by omega),by omega⟩
theorem nY.find {c:Cx}{M:Int}{gs:List G}(h:nY c M gs){b:Int}(hb:0≤b∧b<c.bs.length):∃ g,g∈gs∧b∈g.1:=by
  have:=h.cov.mem_iff.2 (vA.2 hb);obtain ⟨g,hg,hbg⟩:=fZ.1 this;exact ⟨g,hg,hbg⟩
theorem DB {α:Type}{A B l:List Int}{x y:List α}{d:α}(hA:A.Nodup) (hB:B.Nodup) (dj:∀ b,b∈A→b∉B) (hl:l.Perm (A++B)) (hx:x.length=A.length) (hy:y.length=B.length) :
    (l.map fun k=>if k∈A then x.getD (A.idxOf k) d else y.getD (B.idxOf k) d).Perm (x++y):=by
  refine (hl.map _).trans ?_;rw [dJ];have e1:A.map (fun k=>if k∈A then x.getD (A.idxOf k) d else y.getD (B.idxOf k) d)=x:=by
    refine kX (by simp [hx]) fun i h1 h2=>?_
    rw [mR,if_pos (aI _),hA.idxOf_getElem,aC,aA h2];rfl
  have e2:B.map (fun k=>if k∈A then x.getD (A.idxOf k) d else y.getD (B.idxOf k) d)=y:=by
    refine kX (by simp [hy]) fun i h1 h2=>?_
    have hb:B[i]'(by simpa using h1)∈B:=aI _
    rw [mR,if_neg (fun q=>dj _ q hb),hB.idxOf_getElem,aC,aA h2];rfl
  rw [e1,e2]
structure uQ (n:Nat) (x y:G):Prop where
  gx:uB n x
  gy:uB n y
  nx:x.2≠[]
  ny:y.2≠[]
  dj:∀ b,b∈x.1→b∉y.1
  di:∀ b,b∈(iI x).1→b∉(iI y).1
  ln:x.1.length+y.1.length≤6
theorem A6 {x y:G}{w:W}(h:w∈(nB x y).2):∃ u v,u∈x.2∧v∈y.2∧w=D1 x y u v (nB x y).1:=by
  obtain ⟨u,hu,h⟩:=fZ.1 h;obtain ⟨v,hv,h⟩:=bB.1 h;exact ⟨u,v,hu,hv,h.symm⟩
theorem mM (x y:G):(nB x y).1.Perm (x.1++y.1):=dZ _ _
theorem uQ.pair {n:Nat}{x y:G}(h:uQ n x y){u v:W}(hu:u∈x.2) (hv:v∈y.2):(D1 x y u v (nB x y).1).1.Perm (u.1++v.1)∧(D1 x y u v (nB x y).1).2.2.Perm (u.2.2++v.2.2):=
  ⟨DB h.gx.nd h.gy.nd h.dj (mM x y) (h.gx.ws u hu).pl (h.gy.ws v hv).pl,DB h.gx.nd h.gy.nd h.dj (mM x y) (h.gx.ws u hu).cl (h.gy.ws v hv).cl⟩
theorem uQ.same {n:Nat}{x y:G}(h:uQ n x y){w:W}(hw:w∈(nB x y).2):w.1.Perm ((iI x).1++(iI y).1):=by
  obtain ⟨u,v,hu,hv,rfl⟩:=A6 hw;exact (h.pair hu hv).1.trans ((h.gx.same _ _ hu (jB h.nx)).append (h.gy.same _ _ hv (jB h.ny)))
theorem uQ.ok {n:Nat}{x y:G}(h:uQ n x y){M:Int}(h1:∀ w,w∈x.2→w.2.1≤M) (h2:∀ w,w∈y.2→w.2.1≤M) (hM:M≤2000000):uB n (nB x y) where
  ne e:=by
    have:=(mM x y).length_eq;rw [e] at this;have:=eV.2 h.gx.ne;simp at *;omega
  up:=by
    have h1:=lG pU (x.1++y.1);have hnd:(nB x y).1.Nodup:=(mM x y).nodup_iff.2 (cO.2 ⟨h.gx.nd,h.gy.nd,fun a ha b hb e=>h.dj a ha (e▸hb)⟩);refine (h1.and hnd).imp fun {a b} h=>?_
    have:=h.1;have:=h.2;unfold cI at *;by_cases e:a<b
    · exact e
    · rw [if_neg e] at *;by_cases e':b<a
      · rw [if_pos e'] at *;omega
      · omega
  rg b hb:=by
    rcases bG.1 ((mM x y).mem_iff.1 hb) with hb | hb
    · exact h.gx.rg b hb
    · exact h.gy.rg b hb
  ln:=by rw [(mM x y).length_eq,aF];exact h.ln
  ws w hw:=by
    have hs:=h.same hw;obtain ⟨u,v,hu,hv,rfl⟩:=A6 hw;obtain ⟨p1,p2⟩:=h.pair hu hv;have ou:=h.gx.ws u hu;have ov:=h.gy.ws v hv;refine ⟨aX _,aX _,fun b hb=>?_,hs.nodup_iff.2 (cO.2 ⟨(h.gx.ws _ (jB h.nx)).nd,(h.gy.ws _ (jB h.ny)).nd,fun a ha b hb e=>h.di a ha (e▸hb)⟩),?_,?_,fun r hr=>?_⟩
    · rcases bG.1 (p1.mem_iff.1 hb) with hb | hb
      · exact ou.pr b hb
      · exact ov.pr b hb
    · have:=ou.m0;have:=ov.m0;show 0≤u.2.1+v.2.1;omega
    · have:=h1 u hu;have:=h2 v hv;show u.2.1+v.2.1≤4000000;omega
    · rcases bG.1 (p2.mem_iff.1 hr) with hr | hr
      · exact ou.sp r hr
      · exact ov.sp r hr
  same w v hw hv:=(h.same hw).trans (h.same hv).symm
theorem XW {x y:G}(hx:x.2≠[]) (hy:y.2≠[]):(nB x y).2≠[]:=by
  show oZ x y _≠[];unfold oZ;cases hu:x.2 with
  | nil=>exact absurd hu hx
  | cons u l=>
    cases hv:y.2 with
    | nil=>exact absurd hv hy
    | cons v m=>simp
theorem TC (x y:G):(nB x y).2.length=x.2.length*y.2.length:=by
  show (oZ x y _).length=_;unfold oZ;generalize eH cI (x.1++y.1)=l
  induction x.2 with
  | nil=>simp
  | cons u m ih=>rw [bJ,aF,ih,aX,List.length_cons,Nat.succ_mul,rG]
theorem pH {α:Type}{l:List α}{i k:Nat}{u v:α}(J:α) (hik:i<k) (hi:l[i]? = some u) (hk:l[k]? = some v):∃ P Q R,l=P++u::(Q++v::R)∧(l.set i J).eraseIdx k=P++J::(Q++R):=by
  obtain ⟨hl,e2⟩:=aB.1 hk;have hil:i<l.length:=by omega
  have e1:l[i]=u:=(aB.1 hi).2;have d1:l.drop i=u::l.drop (i+1):=by rw [bC hil,e1]
  have d2:l.drop k=v::l.drop (k+1):=by rw [bC hl,e2]
  have d3:l.drop (i+1)=(l.drop (i+1)).take (k-(i+1))++v::l.drop (k+1):=by
    have:l.drop (i+1)=(l.drop (i+1)).take (k-(i+1))++(l.drop (i+1)).drop (k-(i+1)):=(bX _ _).symm;rw [LB,show i+1+(k-(i+1))=k by omega,d2] at this
    exact this
  have e:l=l.take i++u::((l.drop (i+1)).take (k-(i+1))++v::l.drop (k+1)):=by
    rw [← d3,← d1,bX]
  refine ⟨_,_,_,e,?_⟩;have ht:(l.take i).length=i:=by rw [bE];omega
  have hq:((l.drop (i+1)).take (k-(i+1))).length=k-(i+1):=by rw [bE,dK];omega
  generalize l.take i=P at *;generalize (l.drop (i+1)).take (k-(i+1))=Q at *;generalize l.drop (k+1)=R at *;clear d1 d2 d3;subst e;rw [kS _ _ (by omega),show i-P.length=0 by omega,List.set_cons_zero,List.eraseIdx_append_of_length_le (by omega),show k-P.length=(k-(i+1))+1 by omega,List.eraseIdx_cons_succ,List.eraseIdx_append_of_length_le (by omega),hq,fC,List.eraseIdx_cons_zero]
end Go.Ld
