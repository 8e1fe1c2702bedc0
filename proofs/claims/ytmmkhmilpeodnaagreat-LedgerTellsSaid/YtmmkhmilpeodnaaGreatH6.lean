/-
  Texts of the logic and of the layer,in one module (part 6).
-/
import Derived.Test.YtmmkhmilpeodnaaGreatH5
import Derived.Shelf.Spec.SlicesGrow
import Derived.Ground.Names8Prog
set_option linter.unusedVariables false
set_option linter.unusedSimpArgs false
set_option linter.unnecessarySimpa false
namespace Go.Ld
open Go.Ab Go.Proofs.YtmmkhmilpeodnaaGreat
theorem A0 {L:List G}{j:Int}{i:Nat}{x:G}(h:L[i]? = some x) (e:j=i):(kD L)[0+j.toNat]? = some (gA x):=by
  subst e;simp [h]
theorem L1 {L:List G}{j:Int}{i:Nat}{x:G}(e:j=i):(kD L).set (0+j.toNat) (gA x)=kD (L.set i x):=by
  subst e;simp [kD,sJ]
abbrev MO (l:List G):Prop:=l.Pairwise (fun a b=>cG a b≤0)
def W7 (l:List G):Prop:=∀ a b,a∈l→b∈l→cG a b=0→a=b
theorem zZ4 {a:G}:cG a a=0:=qH.rfl' _
theorem OX (a b:G):cG a b = - cG b a:=qH.neg _ _
theorem RU {a b d:G}(h1:cG a b≤0) (h2:cG b d≤0):cG a d≤0:=qH.le_tr (a:=a.1.headD 0) (b:=b.1.headD 0) (d:=d.1.headD 0) h1 h2
theorem LC (w:G):∀ {l:List G},MO l→MO (CW cG w l)
  | [],_=>jF _ _
  | x::l,hl=>by
    have hl':=fG.1 hl;unfold CW;split
    · rename_i hw;refine fG.2 ⟨fun y hy=>?_,hl⟩
      rcases bO.1 hy with rfl | hy
      · exact hw
      · exact RU hw (hl'.1 y hy)
    · rename_i hw;refine fG.2 ⟨fun y hy=>?_,LC w hl'.2⟩
      rcases bO.1 ((D9 cG w l).mem_iff.1 hy) with rfl | hy
      · have:=OX x y;omega
      · exact hl'.1 y hy
theorem tB:∀ l:List G,MO (eK cG l)
  | []=>.nil
  | x::l=>LC x (tB l)
theorem JE {l m:List G}(hd:W7 l) (hp:m.Perm l) (h:MO m):eK cG l=m:=by
  refine (List.Perm.eq_of_pairwise (le:=fun a b=>cG a b≤0) (fun a b ha hb h1 h2=>hd a b (hp.mem_iff.1 ha) ((dS cG l).mem_iff.1 hb) (by have:=OX a b;omega)) h (tB l) (hp.trans (dS cG l).symm)).symm
theorem W7.sub {l m:List G}(h:W7 l) (hs:∀ x,x∈m→x∈l):W7 m:=fun a b ha hb e=>h a b (hs a ha) (hs b hb) e
theorem W7.perm {l m:List G}(h:W7 l) (hp:m.Perm l):W7 m:=h.sub fun x hx=>hp.mem_iff.1 hx
theorem OV {a b:G}(h:cG a b<0):cG a b≤0:=by omega
theorem zH3 {S1 S2:List G}{x:G}(h:MO (S1++S2)) (h1:∀ y,y∈S1→cG y x≤0) (h2:∀ y,y∈S2→cG x y≤0):MO (S1++x::S2):=by
  obtain ⟨a,b,c⟩:=fB.1 h;refine fB.2 ⟨a,fG.2 ⟨h2,b⟩,fun p hp q hq=>?_⟩
  rcases bO.1 hq with rfl | hq
  · exact h1 p hp
  · exact c p hp q hq
theorem VZ {A:List G}{y:G}(h:MO (A++[y])):∀ z,z∈A++[y]→cG z y≤0:=by
  intro z hz;obtain ⟨a,b,c⟩:=fB.1 h;rcases bG.1 hz with hz | hz
  · exact c z hz y (by simp)
  · rw [aQ.1 hz,zZ4];exact dC _
theorem yH6 {a b:G}(h:¬ cG a b<0):cG b a≤0:=by have:=OX a b;omega
def V9 (l:List G) (a b:Nat):List G:=l.take a++(eK cG ((l.drop a).take (b-a))++l.drop b)
theorem AG {l:List G}:(eK cG l).length=l.length:=(dS cG l).length_eq
theorem SZ {l:List G}{a:Nat}(h:a≤l.length):V9 l a a=l:=by unfold V9;simp [eK]
theorem WQ {l:List G}{a:Nat}(h:a<l.length):V9 l a (a+1)=l:=by
  unfold V9;rw [show a+1-a=1 by omega,bB h]
  simp only [oO,mD,eK,CW];rw [List.singleton_append,← bB h,bR]
structure MX (l:List G) (a i:Nat) (x:G) (q:List G × List G):Prop where
  eq:q.1++q.2=eK cG ((l.drop a).take (i-a))
  gt:∀ y,y∈q.2→cG x y<0
def pQ (l:List G) (a i:Nat) (x:G) (q:List G × List G):List G:=(l.take a++q.1)++x::(q.2++l.drop (i+1))
theorem OH {l:List G}{a i:Nat}{x:G}(h1:a<i) (h2:i<l.length) (hx:l[i]? = some x):MX l a i x (eK cG ((l.drop a).take (i-a)),[])∧V9 l a i=pQ l a i x (eK cG ((l.drop a).take (i-a)),[]):=by
  refine ⟨⟨by simp,fun y hy=>by cases hy⟩,?_⟩
  unfold V9 pQ;have:l.drop i=x::l.drop (i+1):=by
    rw [aA h2] at hx;rw [bB h2];cases hx;rfl
  simp [this]
theorem LB {l:List G}{a i:Nat}{x:G}{q:List G × List G}(h:MX l a i x q) (h1:a<i) (h2:i<l.length):q.1.length+q.2.length=i-a:=by
  have:=congrArg List.length h.eq;simp only [aJ,AG,bL,eD] at this;omega
theorem UG {l:List G}{a i:Nat}{x:G}{q:List G × List G}(h:MX l a i x q) (h1:a<i) (h2:i<l.length):(pQ l a i x q).length=l.length:=by
  have:=LB h h1 h2;unfold pQ;simp only [aJ,List.length_cons,bL,eD];omega
theorem RF {l:List G}(hdl:W7 l){a i:Nat}{x:G}{q:List G × List G}(h:MX l a i x q) (h1:a<i) (h2:i<l.length) (hx:l[i]? = some x) (hs:∀ y,y∈q.1→cG y x≤0):pQ l a i x q=V9 l a (i+1):=by
  unfold pQ V9;have e:(l.drop a).take (i+1-a)=(l.drop a).take (i-a)++[x]:=by
    rw [show i+1-a=(i-a)+1 by omega,zG1]
    rw [eU,show a+(i-a)=i by omega,hx];rfl
  rw [e];have hp:(q.1++x::q.2).Perm ((l.drop a).take (i-a)++[x]):=by
    refine List.perm_middle.trans ?_;rw [h.eq];exact ((dS cG _).cons x).trans (N7 _ _).symm
  have hu:MO (q.1++x::q.2):=zH3 (by rw [h.eq];exact tB _) hs (fun y hy=>OV (h.gt y hy))
  rw [JE (hdl.sub fun y hy=>by rw [← e] at hy;exact fD (fC hy)) hp hu]
  simp
theorem ZP {l:List G}{a i:Nat}{x y:G}{S:List G}{q:List G × List G}(h:MX l a i x q) (e:q.1=S++[y]) (hc:¬ cG x y<0):∀ z,z∈q.1→cG z x≤0:=by
  have hu:MO (q.1++q.2):=by rw [h.eq];exact tB _
  have hu1:MO q.1:=(fB.1 hu).1;rw [e] at hu1;intro z hz;rw [e] at hz;exact RU (VZ hu1 z hz) (yH6 hc)
theorem UF {l:List G}{a i:Nat}{x y:G}{S:List G}{q:List G × List G}(h:MX l a i x q) (e:q.1=S++[y]) (hc:cG x y<0):MX l a i x (S,y::q.2):=by
  refine ⟨?_,fun z hz=>?_⟩
  · rw [← h.eq,e];simp
  · rcases bO.1 hz with rfl | hz
    · exact hc
    · exact h.gt z hz
end Go.Ld
namespace Go.Proofs.YtmmkhmilpeodnaaGreat
open Go Go.Ab Go.Ld
attribute [local irreducible] VC AW bX aT
set_option maxHeartbeats 4000000
abbrev OR:AV:=.clo (.func 109) [] []
def yB0 (g:G):Prop:=0<g.1.length∧g.1.length≤1000000
theorem zH8 (a b:G) (ha:yB0 a) (hb:yB0 b):aT Tryz.prog 109 [VP a,VP b] [] (.i (cG a b)) []:=by
  obtain ⟨p,ws⟩:=a;obtain ⟨q,vs⟩:=b;cases p with
  | nil=>exact absurd ha.1 (by simp)
  | cons x p=>
    cases q with
    | nil=>exact absurd hb.1 (by simp)
    | cons y q=>
      have hc:=FC x y;have h1:(ints (x::p)).length=p.length+1:=by simp
      have h2:(ints (y::q)).length=q.length+1:=by simp
      have g1:(ints (x::p))[(0:Int).toNat]? = some [AV.i x]:=rfl;have g2:(ints (y::q))[(0:Int).toNat]? = some [AV.i y]:=rfl;refine bK T Tryz.func109 rfl rfl rfl rfl ?_
      (repeat' (first|refine wS ?_|refine wR ?_|(refine rg 0 (bN (cC rfl rfl) rfl (bN (cC rfl rfl) rfl (aV ?_))))|(refine bQ (id:=1) 14 [[],[0],[0,1],[0,1,2],[],[4],[4,5],[4,5,6],rN 8] (rM 5 9) [[],[],[],[],rM 5 4,rM 5 4,rM 5 4,rM 5 4,[]] cF rfl (by decide +kernel) (dP T rfl (dO T rfl (dV rfl (ix T rfl (by omega) (ints_len _) g1) (dO T rfl (dP T rfl (dO T rfl (dV rfl (ix T rfl (by omega) (ints_len _) g2) (dO T rfl (dV rfl (kC (hc)) ?_)))))))));refine dE ?_;refine aV ?_)|refine nZ ?_));all_goals first | (exfalso;omega) | exact rQ
theorem UD (l:List G) (a b:Nat) (hab:a≤b) (hb:b≤l.length) (hdl:W7 l) (hl:l.length≤100000) (hw:∀ w,w∈l→yB0 w) :
    aT Tryz.prog 163 [.sl 0 0 l.length 2,.i a,.i b,OR] [.arr (kD l) 2] (.tup []) [.arr (kD (V9 l a b)) 2]:=by
  rcases iM a b with hlt | hge
  · refine bK T Tryz.func163 rfl rfl rfl rfl ?_
    (repeat' (first|refine wS ?_|refine wB ?_|(refine iA 0 rfl rfl rfl (by omega) (by omega) ?_)|refine nZ ?_));refine cO (X:={i:Nat // a+1≤i∧i≤b}) (fun i=>[(0,.sl 0 0 l.length 2),(1,.i a),(2,.i b),(3,OR),(8,.i i.1)]) (fun i=>[.arr (kD (V9 l a i.1)) 2]) (fun i=>b-i.1) ⟨a+1,by omega,by omega⟩ ⟨[0],rfl,by (repeat (first | exact trivial | refine ⟨rfl,?_⟩)),⟨.inr (aD rfl (by dsimp only;rw [WQ (by omega)]) (eP _)),trivial⟩,by decide,mH⟩ ?_
    rintro ⟨i,h1,h2⟩;dsimp only;by_cases hi:i<b
    · (repeat' (first|refine wS ?_|refine wB ?_|refine wK ?_|(refine wC rfl (fun hb=>?_) (fun hb=>?_) <;> (((try simp only [nm] at hb);try (exfalso;omega))))|(refine rg 1 (dK rfl (vV (aI rfl rfl) ?_)))|(refine rg 3 (mW rfl (aV ?_)))|(refine nZ ?_)));all_goals try (exfalso;omega)
      have hil:i<l.length:=by omega
      obtain ⟨x,hx⟩:∃ x,l[i]? = some x:=⟨_,aA hil⟩;obtain ⟨s1,s2⟩:=OH (a:=a) (by omega) hil hx
      refine cO (X:={q:List G × List G // MX l a i x q}) (fun q=>[(0,.sl 0 0 l.length 2),(1,.i a),(2,.i b),(3,OR),(8,.i i),(9,.i ((a+q.1.1.length:Nat):Int))]) (fun q=>[.arr (kD (pQ l a i x q.1)) 2]) (fun q=>q.1.1.length) ⟨_,s1⟩ ⟨[0],rfl,⟨rfl,rfl,rfl,rfl,rfl,by dsimp only;rw [AG,bL,eD,show a+min (i-a) (l.length-a)=i by omega];rfl,trivial⟩,⟨.inr (aD rfl (by dsimp only;rw [s2]) (eP _)),trivial⟩,by decide,mH⟩ ?_
      rintro ⟨⟨S1,S2⟩,hq⟩;dsimp only;have hln:=LB hq (by omega) hil
      dsimp only at hln;have hwx:yB0 x:=hw x (aS hx);have hal:(l.take a).length=a:=by rw [bL];omega
      rcases List.eq_nil_or_concat S1 with rfl | ⟨S,y,rfl⟩
      · have ee:=RF hdl hq (by omega) hil hx (fun y hy=>by cases hy)
        have hJ:((a+([]:List G).length:Nat):Int)=a:=by simp
        generalize ((a+([]:List G).length:Nat):Int)=J at *;generalize pQ l a i x ([],S2)=L at *
        (repeat' (first|refine wS ?_|refine wE ?_|refine wU ?_|(refine bQ (id:=4) 53 yM6 (rM 18 17) yM7 cF rfl (by decide +kernel) (dN rfl (dN rfl (dV rfl (GW rfl rfl (by omega)) (dN rfl (tG rfl (tG rfl (tG rfl (tG rfl (dG ?_)))))))));refine tG rfl (tG rfl (tG rfl (tG rfl (tG rfl (tG rfl (tG rfl (dV rfl (gQ rfl rfl) (dE ?_)))))))))|(refine iA 2 rfl rfl rfl (by omega) (by omega) ?_)|refine nZ ?_));all_goals first | (exfalso;omega) | exact ⟨⟨i+1,by omega,by omega⟩,by dsimp only;omega,⟨[0],rfl,by (repeat (first | exact trivial | refine ⟨rfl,?_⟩)),⟨.inr (aD rfl (by dsimp only;rw [ee]) (eP _)),trivial⟩,by decide,mH⟩⟩
      · rw [List.concat_eq_append] at *;have hy:y∈l:=by
          have h3:y∈eK cG ((l.drop a).take (i-a)):=by rw [← hq.eq];simp
          exact fD (fC ((dS _ _).mem_iff.1 h3))
        have hc:=zH8 x y hwx (hw y hy);have hL:pQ l a i x (S++[y],S2)=(l.take a++S)++y::x::(S2++l.drop (i+1)):=by unfold pQ;simp
        have hJ:((a+(S++[y]).length:Nat):Int)=((a+S.length+1:Nat):Int):=by simp;omega
        have hAl:a+S.length=(l.take a++S).length:=by rw [aJ,hal]
        have hlen:=UG hq (by omega) hil
        by_cases h0:cG x y<0
        · have ee:=UF hq rfl h0;have q1:=A0 (L:=pQ l a i x (S++[y],S2)) (j:=((a+(S++[y]).length:Nat):Int)) (i:=a+S.length+1) (x:=x) (by rw [hL,show (l.take a++S)++y::x::(S2++l.drop (i+1))=((l.take a++S)++[y])++x::(S2++l.drop (i+1)) by simp];exact nU _ _ _ (by simp;omega)) hJ
          have q2:=A0 (L:=pQ l a i x (S++[y],S2)) (j:=((a+(S++[y]).length:Nat):Int)-1) (i:=a+S.length) (x:=y) (by rw [hL];exact nU _ _ _ hAl) (by omega)
          have t1:=L1 (L:=pQ l a i x (S++[y],S2)) (j:=((a+(S++[y]).length:Nat):Int)) (i:=a+S.length+1) (x:=y) hJ;have e1:(pQ l a i x (S++[y],S2)).set (a+S.length+1) y=(l.take a++S)++y::y::(S2++l.drop (i+1)):=by
            rw [hL,show (l.take a++S)++y::x::(S2++l.drop (i+1))=((l.take a++S)++[y])++x::(S2++l.drop (i+1)) by simp,oC _ _ _ _ (by simp;omega)];simp
          rw [e1] at t1;have q3:=A0 (L:=(l.take a++S)++y::y::(S2++l.drop (i+1))) (j:=((a+(S++[y]).length:Nat):Int)-1) (i:=a+S.length) (x:=y) (nU _ _ _ hAl) (by omega)
          have t2:=L1 (L:=(l.take a++S)++y::y::(S2++l.drop (i+1))) (j:=((a+(S++[y]).length:Nat):Int)-1) (i:=a+S.length) (x:=x) (by omega)
          rw [oC _ _ _ _ hAl,show (l.take a++S)++x::y::(S2++l.drop (i+1))=pQ l a i x (S,y::S2) by unfold pQ;simp,← t1] at t2
          rw [← t1] at q3;have hJ2:((a+(S++[y]).length:Nat):Int)-1=((a+S.length:Nat):Int):=by omega
          have hJ3:((a+(S++[y]).length:Nat):Int)<l.length:=by omega
          have hJ4:(a:Int)<((a+(S++[y]).length:Nat):Int):=by omega
          clear hJ hL;generalize ((a+(S++[y]).length:Nat):Int)=J at *;generalize cG x y=z at *;generalize pQ l a i x (S++[y],S2)=L at *
          (repeat' (first|refine wS ?_|refine wB ?_|refine wK ?_|(refine wC rfl ?_ ?_<;>(intro hb;(try simp only [nm] at hb);try (exfalso;omega)))|(refine bQ (id:=4) 53 yM6 (rM 18 17) yM7 cF rfl (by decide +kernel) (dN rfl (dN rfl (dV rfl (eE rfl rfl) (dM ?_))));refine uA rfl rfl rfl rfl ?_ ?_<;>(intro hb;rw [hb];(try simp only [nm] at hb);try (exfalso;omega))<;>(refine tM ?_);(all_goals (refine tN rfl (tN rfl (dT rfl (by exact aK T rfl rfl rfl rfl rfl (by omega) (by omega)) ?_));refine dT rfl (by exact aE T rfl rfl (bM rfl q1) rfl) ?_;refine tN rfl (tN rfl (dT rfl (cX rfl rfl (by omega) (by omega)) (dT rfl (by exact aK T rfl rfl rfl rfl rfl (by omega) (by omega)) ?_)));refine dT rfl (by exact aE T rfl rfl (bM rfl q2) rfl) ?_;refine dT rfl (kC (hc)) (dT rfl (aI rfl rfl) (dV rfl (iE rfl rfl) (dE ?_))))))|(refine oG (id:=6) 53 yM8 (rM 37 15) yM9 [(15,0)] cF rfl (by decide +kernel) (dB rfl rfl rfl rfl (by exact bU rfl) ?_);refine dB rfl rfl rfl rfl (by exact bU rfl) ?_;refine dB rfl rfl rfl rfl (by exact bU rfl) ?_;refine dB rfl rfl rfl rfl (by exact bU rfl) ?_;refine dB rfl rfl rfl rfl (by exact cX rfl rfl (by omega) (by omega)) ?_;refine dB rfl rfl rfl rfl (by exact bU rfl) ?_;refine dB rfl rfl rfl rfl (by exact bU rfl) ?_;refine dB rfl rfl rfl rfl (by exact cX rfl rfl (by omega) (by omega)) ?_;refine dB rfl rfl rfl rfl (by exact aK T rfl rfl rfl rfl rfl (by omega) (by omega)) ?_;refine dB rfl rfl rfl rfl (by exact aE T rfl rfl (bM rfl q2) rfl) ?_;refine dB rfl rfl rfl rfl (by exact bU rfl) ?_;refine dB rfl rfl rfl rfl (by exact bU rfl) ?_;refine dB rfl rfl rfl rfl (by exact aK T rfl rfl rfl rfl rfl (by omega) (by omega)) ?_;refine dB rfl rfl rfl rfl (by exact aE T rfl rfl (bM rfl q1) rfl) ?_;refine dB rfl rfl rfl rfl (by exact aK T rfl rfl rfl rfl rfl (by omega) (by omega)) ?_;refine xZ rfl rfl rfl rfl (aY rfl) T rfl rfl rfl rfl rfl rfl (by decide) (xB rfl q1 rfl) ?_;refine sY rfl rfl rfl (by exact rfl) ?_;refine vV (by exact aK T rfl rfl rfl rfl rfl (by omega) (by omega)) ?_;refine aL T rfl rfl rfl rfl rfl rfl (by decide) (iJ rfl q3 rfl) ?_)|(refine rg 5 (mW rfl (vV (cX rfl rfl (by omega) (by omega)) (aV ?_))))|refine nZ ?_));all_goals first | (exfalso;omega) | exact ⟨⟨_,ee⟩,by dsimp only;simp,⟨[0],rfl,⟨rfl,rfl,rfl,rfl,rfl,by dsimp only;rw [← hJ2];try rfl,trivial⟩,⟨.inr (aD rfl (by dsimp only;rw [← t2];try rfl) (eP _)),trivial⟩,by decide,mH⟩⟩
        · have ee:=RF hdl hq (by omega) hil hx (ZP hq rfl h0)
          have q1:=A0 (L:=pQ l a i x (S++[y],S2)) (j:=((a+(S++[y]).length:Nat):Int)) (i:=a+S.length+1) (x:=x) (by rw [hL,show (l.take a++S)++y::x::(S2++l.drop (i+1))=((l.take a++S)++[y])++x::(S2++l.drop (i+1)) by simp];exact nU _ _ _ (by simp;omega)) hJ
          have q2:=A0 (L:=pQ l a i x (S++[y],S2)) (j:=((a+(S++[y]).length:Nat):Int)-1) (i:=a+S.length) (x:=y) (by rw [hL];exact nU _ _ _ hAl) (by omega)
          have hJ3:((a+(S++[y]).length:Nat):Int)<l.length:=by omega
          have hJ4:(a:Int)<((a+(S++[y]).length:Nat):Int):=by omega
          clear hJ hL;generalize ((a+(S++[y]).length:Nat):Int)=J at *;generalize cG x y=z at *;generalize pQ l a i x (S++[y],S2)=L at *
          (repeat' (first|refine wS ?_|refine wE ?_|(refine wC rfl ?_ ?_<;>(intro hb;(try simp only [nm] at hb);try (exfalso;omega)))|(refine bQ (id:=4) 53 yM6 (rM 18 17) yM7 cF rfl (by decide +kernel) (dN rfl (dN rfl (dV rfl (eE rfl rfl) (dM ?_))));refine uA rfl rfl rfl rfl ?_ ?_<;>(intro hb;rw [hb];(try simp only [nm] at hb);try (exfalso;omega))<;>(refine tM ?_);(all_goals (refine tN rfl (tN rfl (dT rfl (by exact aK T rfl rfl rfl rfl rfl (by omega) (by omega)) ?_));refine dT rfl (by exact aE T rfl rfl (bM rfl q1) rfl) ?_;refine tN rfl (tN rfl (dT rfl (cX rfl rfl (by omega) (by omega)) (dT rfl (by exact aK T rfl rfl rfl rfl rfl (by omega) (by omega)) ?_)));refine dT rfl (by exact aE T rfl rfl (bM rfl q2) rfl) ?_;refine dT rfl (kC (hc)) (dT rfl (aI rfl rfl) (dV rfl (iE rfl rfl) (dE ?_))))))|(refine iA 2 rfl rfl rfl (by omega) (by omega) ?_)|refine nZ ?_));all_goals first | (exfalso;omega) | exact ⟨⟨i+1,by omega,by omega⟩,by dsimp only;omega,⟨[0],rfl,by (repeat (first | exact trivial | refine ⟨rfl,?_⟩)),⟨.inr (aD rfl (by dsimp only;rw [ee]) (eP _)),trivial⟩,by decide,mH⟩⟩
    · obtain rfl:i=b:=by omega
      (repeat' (first|refine wS ?_|refine wE ?_|(refine wC rfl ?_ ?_<;>(intro hb;(try simp only [nm] at hb);try (exfalso;omega)))|(refine rg 1 (dK rfl (vV (aI rfl rfl) ?_)))|refine nZ ?_));all_goals first | (exfalso;omega) | exact ⟨.inl rfl,[0],_,rfl,rfl,rfl,⟨.inr (aD rfl rfl (eP _)),trivial⟩,by decide,mH⟩ | exact ⟨.inr rfl,[0],_,rfl,rfl,rfl,⟨.inr (aD rfl rfl (eP _)),trivial⟩,by decide,mH⟩
  · obtain rfl:a=b:=by omega
    rw [SZ hb];refine bK T Tryz.func163 rfl rfl rfl rfl ?_
    (repeat' (first|refine wS ?_|refine wB ?_|(refine iA 0 rfl rfl rfl (by omega) (by omega) ?_)|refine nZ ?_));refine cO (X:=Unit) (fun _=>[(0,.sl 0 0 l.length 2),(1,.i a),(2,.i a),(3,OR),(8,.i ((a:Int)+1))]) (fun _=>[.arr (kD l) 2]) (fun _=>0) () ⟨[0],rfl,by (repeat (first | exact trivial | refine ⟨rfl,?_⟩)),⟨.inr (aD rfl rfl (eP _)),trivial⟩,by decide,mH⟩ ?_
    intro _;dsimp only
    (repeat' (first|refine wS ?_|refine wE ?_|(refine wC rfl ?_ ?_<;>(intro hb;(try simp only [nm] at hb);try (exfalso;omega)))|(refine rg 1 (dK rfl (vV (aI rfl rfl) ?_)))|refine nZ ?_));all_goals first | (exfalso;omega) | exact ⟨.inl rfl,[0],_,rfl,rfl,rfl,⟨.inr (aD rfl rfl (eP _)),trivial⟩,by decide,mH⟩ | exact ⟨.inr rfl,[0],_,rfl,rfl,rfl,⟨.inr (aD rfl rfl (eP _)),trivial⟩,by decide,mH⟩
end Go.Proofs.YtmmkhmilpeodnaaGreat
namespace Go.Ld
open Go.Ab Go.Proofs.YtmmkhmilpeodnaaGreat
def zL3 (n:Nat):Int:=[0,1,2,2,3,3,3,3,4,4,4,4,4].getD n 0
end Go.Ld
namespace Go.Proofs.YtmmkhmilpeodnaaGreat
open Go Go.Ab Go.Ld
attribute [local irreducible] VC AW bX aT T3 zR2
set_option maxHeartbeats 4000000
theorem yG9:T3 Tryz.prog 193 .u64:=by unfold T3;kernel_rfl
theorem yJ3:T3 Tryz.prog 5 .u8:=by unfold T3;kernel_rfl
theorem yH0:zR2 Tryz.prog 9:=by unfold zR2;kernel_rfl
theorem zL4 (n:Nat) (h:n≤12):aT Tryz.prog 157 [.v (.int .u64 n)] [] (.i (zL3 n)) []:=by
  rcases (by omega:n=0∨n=1∨n=2∨n=3∨n=4∨n=5∨n=6∨n=7∨n=8∨n=9∨n=10∨n=11∨n=12) with rfl | rfl | rfl | rfl | rfl | rfl | rfl | rfl | rfl | rfl | rfl | rfl | rfl
  all_goals
    refine bK T Tryz.func157 rfl rfl rfl rfl ?_
    (repeat' (first|refine wS ?_|refine wK ?_|refine wR ?_|refine wU ?_|(refine rg 0 (aV ?_))|(refine rg 1 (mW rfl (vV (gH rfl rfl) ?_)))|(refine rg 4 (mW rfl (vV (gH rfl rfl) ?_)))|(refine rg 7 (mW rfl (vV (gH rfl rfl) ?_)))|(refine rg 10 (dK rfl (vV (jR yG9 yJ3 rfl rfl) (vV (by exact UN yH0 rfl rfl (by decide) rfl) ?_)));refine vV (jR yJ3 zH rfl rfl) (vV (zA3 rfl rfl) (aV ?_)))|refine nZ ?_));all_goals first | (exfalso;omega) | exact rQ
theorem zW6 (n:Nat) (h:n≤12):aT Tryz.prog 116 [.v (.int .u64 n)] [] (.i (zL3 n)) []:=by
  have hc:=zL4 n h;refine bK T Tryz.func116 rfl rfl rfl rfl ?_
  (repeat' (first|refine wS ?_|refine wK ?_|refine wR ?_|refine wU ?_|(refine rg 0 (aV ?_))|(refine rg 2 (mW rfl (vV (kC (hc)) (aV ?_))))|refine nZ ?_));all_goals first | (exfalso;omega) | exact rQ
theorem yC9 (l:List G) (hdl:W7 l) (hl:l.length≤12) (hw:∀ g,g∈l→yB0 g) (lim:Int):aT Tryz.prog 144 [.sl 0 0 l.length 2,.i 0,.i l.length,.i lim,OR] [.arr (kD l) 2] (.tup []) [.arr (kD (eK cG l)) 2]:=by
  have hc:=UD l 0 l.length (bW _) (bA _) hdl (by omega) hw
  rw [show V9 l 0 l.length=eK cG l by unfold V9;simp] at hc
  refine bK T Tryz.func144 rfl rfl rfl rfl ?_
  (repeat' (first|refine wS ?_|refine wB ?_|(refine rg 0 (aV ?_))|(refine rg 1 (aV ?_))|refine nZ ?_));refine cO (X:=Unit) (fun _=>[(0,.sl 0 0 l.length 2),(1,.i 0),(2,.i l.length),(3,.i lim),(4,OR)]) (fun _=>[.arr (kD l) 2]) (fun _=>0) () ⟨[0],rfl,by (repeat (first | exact trivial | refine ⟨rfl,?_⟩)),⟨.inr (aD rfl rfl (eP _)),trivial⟩,by decide,mH⟩ ?_
  intro _;dsimp only
  (repeat' (first|refine wS ?_|refine wB ?_|refine wR ?_|(refine wC rfl ?_ ?_<;>(intro hb;(try simp only [nm] at hb);try (exfalso;omega)))|(refine rg 2 (dK rfl (vV (cX rfl rfl (by omega) (by omega)) (aV ?_))))|(refine rg 3 (mW rfl (vV (lA rfl rfl) ?_)))|(refine rg 4 (dK rfl (dK rfl (fP [0] rfl rfl (hc) rfl rfl (by decide) ⟨.inr (aD rfl rfl (eP _)),trivial⟩ (by simp) rfl ?_))))|refine nZ ?_));all_goals first | (exfalso;omega) | exact ⟨.inl rfl,[0],_,rfl,rfl,rfl,⟨.inr (aD rfl (cJ _ (eP _)) (eP _)),trivial⟩,by decide,mH⟩
theorem zI6 (l:List G) (hdl:W7 l) (hl:l.length≤12) (hw:∀ g,g∈l→yB0 g):aT Tryz.prog 108 [.sl 0 0 l.length 2,OR] [.arr (kD l) 2] (.tup []) [.arr (kD (eK cG l)) 2]:=by
  have h1:=zW6 l.length hl;have h2:=yC9 l hdl hl hw (zL3 l.length);have hw1:IntKind.u64.wrap (l.length:Int)=(l.length:Int):=II (by omega) (by omega)
  generalize zL3 l.length=q at *;refine bK T Tryz.func108 rfl rfl rfl rfl ?_
  (repeat' (first|refine wS ?_|(refine rg 0 (mW rfl (qW T rfl (aV ?_))))|(refine rg 1 (dK rfl (mW rfl (vV (jR zH rJ rfl hw1) (vV (by exact eA rfl rfl h1 rfl rfl rfl) ?_))));refine mW rfl (fP [0] rfl rfl (h2) rfl rfl (by decide) ⟨.inr (aD rfl rfl (eP _)),trivial⟩ (by simp) rfl ?_))|refine nZ ?_));all_goals first | (exfalso;omega) | exact ⟨.inl rfl,[0],_,rfl,rfl,rfl,⟨.inr (aD rfl (cJ _ (eP _)) (eP _)),trivial⟩,by decide,mH⟩ | exact ⟨.inr rfl,[0],_,rfl,rfl,rfl,⟨.inr (aD rfl (cJ _ (eP _)) (eP _)),trivial⟩,by decide,mH⟩
end Go.Proofs.YtmmkhmilpeodnaaGreat
namespace Go.Ld
open Go.Ab Go.Proofs.YtmmkhmilpeodnaaGreat
def vU (g:G):List G:=lY g.1.length g
theorem NV {g:G}{k:Nat}(h:iN g=some k):vU g=nL g k::vU (jY g k):=by
  obtain ⟨h1,_,h3,_⟩:=kG h;have e:(jY g k).1.length=g.1.length-1:=by show (g.1.eraseIdx k).length=_;rw [gJ,if_pos h3]
  unfold vU;rw [e];obtain ⟨m,hm⟩:∃ m,g.1.length=m+1:=⟨g.1.length-1,by omega⟩
  rw [hm,VG,lY,h]
theorem AX {g:G}(h:iN g=none):vU g=[g]:=by
  unfold vU;cases hl:g.1.length with
  | zero=>rfl
  | succ m=>rw [lY,h]
theorem MD (g:G) (k:Nat):iN (nL g k)=none:=by unfold iN;rw [if_pos (.inl (by show 1<2;omega))]
theorem TN (g:G) (k:Nat):vU (nL g k)=[nL g k]:=AX (MD g k)
structure nY (n:Nat) (o:List G):Prop where
  ok:∀ g,g∈o→wY n g
  nd:(o.flatMap (·.1)).Nodup
  ln:(o.flatMap (·.1)).length≤12
  ws:∀ g,g∈o→g.2.length≤2000
theorem oX {o:List G}{g:G}{b:Int}(h:g∈o) (hb:b∈g.1):b∈o.flatMap (·.1):=fI.2 ⟨g,h,hb⟩
theorem X9:∀ {o:List G},(o.flatMap (·.1)).Nodup→∀ {a b:G}{x:Int},a∈o→b∈o→x∈a.1→x∈b.1→a=b
  | [],_,a,b,x,ha,_,_,_=>by cases ha
  | g::o,h,a,b,x,ha,hb,hxa,hxb=>by
    rw [bJ] at h;obtain ⟨h1,h2,h3⟩:=cP.1 h;rcases bO.1 ha with e1 | ha' <;> rcases bO.1 hb with e2 | hb'
    · rw [e1,e2]
    · exact absurd rfl (h3 x (e1▸hxa) x (oX hb' hxb))
    · exact absurd rfl (h3 x (e2▸hxb) x (oX ha' hxa))
    · exact X9 h2 ha' hb' hxa hxb
theorem nY.dist {n:Nat}{o:List G}(h:nY n o):W7 o:=by
  intro a b ha hb e;have e':a.1.headD 0=b.1.headD 0:=(qH.eq _ _).1 e;have hm:∀ g:G,g.1≠[]→g.1.headD 0∈g.1:=fun g hg=>by
    cases hq:g.1 with
    | nil=>exact absurd hq hg
    | cons x l=>simp
  exact X9 h.nd ha hb (hm a (h.ok a ha).ne) (e'▸hm b (h.ok b hb).ne)
theorem nY.len {n:Nat}{o:List G}(h:nY n o):o.length≤(o.flatMap (·.1)).length:=by
  have:∀ o:List G,(∀ g,g∈o→g.1≠[])→o.length≤(o.flatMap (·.1)).length:=by
    intro o
    induction o with
    | nil=>intro _;simp
    | cons g o ih=>
      intro hg;rw [bJ,aJ,List.length_cons];have:=ih fun g h=>hg g (aM _ h);have:0<g.1.length:=eF.2 (hg g aR);omega
  exact this o fun g hg=>(h.ok g hg).ne
theorem nY.hd {n:Nat}{o:List G}(h:nY n o):∀ g,g∈o→yB0 g:=fun g hg=>⟨eF.2 (h.ok g hg).ne,by have:=(h.ok g hg).ln;omega⟩
theorem nY.perm {n:Nat}{o p:List G}(h:nY n o) (hp:p.Perm o):nY n p where
  ok g hg:=h.ok g (hp.mem_iff.1 hg)
  nd:=(hp.flatMap_right _).nodup_iff.2 h.nd
  ln:=by rw [(hp.flatMap_right _).length_eq];exact h.ln
  ws g hg:=h.ws g (hp.mem_iff.1 hg)
theorem wY.sz {n:Nat}{g:G}(h:wY n g) (hw:g.2.length≤2000):yA9 g:=⟨by have:=h.ln;omega,by omega,fun w hw=>(h.ws w hw).pl,fun w hw=>(h.ws w hw).cl⟩
theorem pN {α:Type}{o:List α}{i:Nat}{x y:α}(h:o[i]? = some x):∃ A B,o=A++x::B∧o.set i y=A++y::B:=by
  obtain ⟨hi,e⟩:=aB.1 h;refine ⟨o.take i,o.drop (i+1),?_,?_⟩
  · rw [← e,← bB hi,bR]
  · rw [List.set_eq_take_append_cons_drop,if_pos hi]
def EF (o:List G) (i k:Nat) (g:G):List G:=eK cG (o.set i (jY g k)++[nL g k])
theorem KQ {o:List G}{i k:Nat}{g:G}(h:o[i]? = some g) (hk:k<g.1.length):((o.set i (jY g k)++[nL g k]).flatMap (·.1)).Perm (o.flatMap (·.1)):=by
  obtain ⟨A,B,e1,e2⟩:=pN (y:=jY g k) h;rw [e2,e1];simp only [fS,bJ,CR,List.append_nil,bT];refine List.Perm.append_left _ ?_;have h1:(g.1.getD k 0::g.1.eraseIdx k).Perm g.1:=kE g.1 k 0 hk;have h2:((jY g k).1++(B.flatMap (·.1)++(nL g k).1)).Perm ((nL g k).1++((jY g k).1++B.flatMap (·.1))):=by
    rw [← bT];exact zE
  refine h2.trans ?_;rw [← bT];exact List.Perm.append_right _ h1
theorem QW {n:Nat}{o:List G}{i k:Nat}{g:G}(ok:nY n o) (h:o[i]? = some g) (hc:iN g=some k):nY n (o.set i (jY g k)++[nL g k]):=by
  have hg:=aS h;have hk:=(kG hc).2.2.1;have hb:=KQ h hk;have hm:∀ x,x∈o.set i (jY g k)++[nL g k]→x∈o∨x=jY g k∨x=nL g k:=fun x hx=>by
    rcases bG.1 hx with hx | hx
    · rcases gE hx with hx | hx
      · exact .inl hx
      · exact .inr (.inl hx)
    · exact .inr (.inr (aQ.1 hx))
  refine ⟨fun x hx=>?_,hb.nodup_iff.2 ok.nd,by rw [hb.length_eq];exact ok.ln,fun x hx=>?_⟩
  · rcases hm x hx with hx | rfl | rfl
    · exact ok.ok x hx
    · exact (ok.ok g hg).rest hc
    · exact (ok.ok g hg).one hc
  · rcases hm x hx with hx | rfl | rfl
    · exact ok.ws x hx
    · have:=rO (g.2.map fun w=>(w.1.eraseIdx k,w.2.1,w.2.2.eraseIdx k));rw [aF] at this;exact bP this (ok.ws g hg)
    · show 1≤2000;omega
theorem TU {o:List G}{i k:Nat}{g:G}(h:o[i]? = some g) (hc:iN g=some k):((o.set i (jY g k)++[nL g k]).flatMap vU).Perm (o.flatMap vU):=by
  obtain ⟨A,B,e1,e2⟩:=pN (y:=jY g k) h;rw [e2,e1];simp only [fS,bJ,CR,List.append_nil,bT,NV hc,TN];refine List.Perm.append_left _ ?_;rw [← bT];exact zE
def zR8 (o:List G):Nat:=(o.map fun g=>g.1.length-1).sum
theorem VT {o p:List G}(h:p.Perm o):zR8 p=zR8 o:=(h.map _).sum_nat
theorem YV {o:List G}{i k:Nat}{g:G}(h:o[i]? = some g) (hc:iN g=some k):zR8 (o.set i (jY g k)++[nL g k])+1=zR8 o:=by
  obtain ⟨A,B,e1,e2⟩:=pN (y:=jY g k) h;obtain ⟨h1,_,h3,_⟩:=kG hc;have e:(jY g k).1.length=g.1.length-1:=by show (g.1.eraseIdx k).length=_;rw [gJ,if_pos h3]
  rw [e2,e1];unfold zR8;simp only [dW,List.map_cons,List.map_nil,yA6,yJ0,List.sum_nil,e];have:(nL g k).1.length=1:=rfl;omega
structure pD (n:Nat) (L o:List G) (i:Nat):Prop where
  ok:nY n o
  up:MO o
  fl:(o.flatMap vU).Perm (L.flatMap vU)
  hi:i≤o.length
  no:∀ (j:Nat) (g:G),j<i→o[j]? = some g→iN g=none
theorem pD.start {n:Nat}{L:List G}(ok:nY n L) (up:MO L):pD n L L 0:=⟨ok,up,.refl _,bW _,fun j g h=>absurd h (dA _)⟩
theorem pD.keep {n:Nat}{L o:List G}{i:Nat}{g:G}(p:pD n L o i) (h:o[i]? = some g) (hc:iN g=none):pD n L o (i+1) where
  ok:=p.ok
  up:=p.up
  fl:=p.fl
  hi:=(aB.1 h).1
  no j x hj hx:=by
    rcases iM j i with h' | h'
    · exact p.no j x h' hx
    · obtain rfl:j=i:=by omega
      rw [h] at hx;cases hx;exact hc
theorem pD.next {n:Nat}{L o:List G}{i k:Nat}{g:G}(p:pD n L o i) (h:o[i]? = some g) (hc:iN g=some k):pD n L (EF o i k g) 0 where
  ok:=(QW p.ok h hc).perm (dS _ _)
  up:=tB _
  fl:=((dS cG _).flatMap_right _).trans ((TU h hc).trans p.fl)
  hi:=bW _
  no j g h:=absurd h (dA _)
theorem pD.fin {n:Nat}{L o:List G}{i:Nat}(p:pD n L o i) (hi:o.length≤i):qP L=o:=by
  have e:o.flatMap vU=o:=by
    have:∀ g,g∈o→vU g=[g]:=fun g hg=>by
      obtain ⟨j,hj,e⟩:=kM.1 hg;exact AX (p.no j g (by omega) (by rw [aA hj,e]))
    clear p hi
    induction o with
    | nil=>rfl
    | cons g o ih=>rw [bJ,this g aR,ih fun g h=>this g (aM _ h)];rfl
  have hp:=p.fl;rw [e] at hp;show eK cG (L.flatMap vU)=o;exact JE (p.ok.dist.perm hp.symm) hp p.up
theorem WK {l:List G}{k:Nat}(h:k<l.length):kA (l.take (k+1))=kA (l.take k)+gM l[k]:=by
  unfold kA;rw [aP h,dW,yA6];simp
theorem FR:∀ {l:List G},(∀ g,g∈l→0≤gM g∧gM g≤4000000)→0≤kA l∧kA l≤4000000*l.length
  | [],_=>by simp [kA]
  | g::l,h=>by
    have h1:=h g aR;have h2:=FR (l:=l) fun g hg=>h g (aM _ hg);have e:kA (g::l)=gM g+kA l:=by simp [kA]
    rw [e,List.length_cons];omega
abbrev gZ (c:Cx) (gs:List G):List AV:=[.i c.m,.i c.st,.i c.er,.i c.sl,.rowE (fQ c.ks) 2,.rowE (iS c.ls) 3,.rowE (eB c.bs) 3,.rowE (kD gs) 2]
theorem UB (c:Cx) (r:Int) (l:List W):gL (fun w=>decide (w.2.1+r > c.m)) l=l.filter fun w=>decide (w.2.1+r≤c.m):=by
  unfold gL;congr 1;funext w;show (!decide (w.2.1+r > c.m))=decide (w.2.1+r≤c.m);by_cases h:w.2.1+r≤c.m
  · rw [decide_eq_true h,decide_eq_false (by omega)];rfl
  · rw [decide_eq_false h,decide_eq_true (by omega)];rfl
theorem TP {c:Cx}{all:List G}{k:Nat}(h:k<all.length):(paid c all).take (k+1)=(paid c all).take k++[(all[k].1,gL (fun w=>decide (w.2.1+(kA all-gM all[k]) > c.m)) all[k].2)]:=by
  rw [UB];unfold paid;rw [← lS,← lS,aP h,dW];rfl
theorem YL (c:Cx) (all:List G):(paid c all).length=all.length:=by unfold paid;rw [aF]
theorem Q0 (c:Cx) (all:List G):(paid c all).flatMap (·.1)=all.flatMap (·.1):=by
  unfold paid;rw [CS]
theorem wY.sub {n:Nat}{g:G}(h:wY n g){ws:List W}(hs:∀ w,w∈ws→w∈g.2):wY n (g.1,ws):=⟨h.ne,h.up,h.rg,h.ln,fun w hw=>h.ws w (hs w hw),fun w v hw hv=>h.same w v (hs w hw) (hs v hv)⟩
theorem nY.paid {n:Nat}{all:List G}(h:nY n all) (c:Cx):nY n (paid c all) where
  ok g hg:=by
    obtain ⟨x,hx,rfl⟩:=bE.1 hg;exact (h.ok x hx).sub fun w hw=>(iQ.1 hw).1
  nd:=by rw [Q0];exact h.nd
  ln:=by rw [Q0];exact h.ln
  ws g hg:=by
    obtain ⟨x,hx,rfl⟩:=bE.1 hg;exact bP (qM _ _) (h.ws x hx)
theorem PO {c:Cx}{all:List G}(h:MO all):MO (paid c all):=by
  unfold paid;refine V5.2 (h.imp fun h=>h)
theorem EM {n:Nat}{g:G}(h:wY n g) (hne:g.2≠[]):0≤gM g∧gM g≤4000000:=by
  obtain ⟨w,hw,e⟩:=tD hne;have:=h.ws w hw;rw [← e];exact ⟨this.m0,this.m1⟩
end Go.Ld
namespace Go.Proofs.YtmmkhmilpeodnaaGreat
open Go Go.Ab Go.Ld
attribute [local irreducible] VC AW bX aT
set_option maxHeartbeats 4000000
theorem zH9 (c:Cx) (gs:List G) (w:W) (r:Int) (h1:0≤w.2.1∧w.2.1≤4000000) (h2:-100000000≤r∧r≤100000000):aT Tryz.prog 105 [MZ w,.pr [.i r] 0,.pr [.pr (gZ c gs) 0] 0] [] (.b (decide (w.2.1+r > c.m))) []:=by
  refine bK T Tryz.func105 rfl rfl rfl rfl ?_
  (repeat' (first|refine wS ?_|refine wR ?_|(refine rg 0 (bN (cC rfl rfl) rfl (aV ?_)))|(refine bQ (id:=1) 15 [[],[0],[],[0,1,2],[],[4],[4,5],[4,5,6],rM 4 4,rN 9] (rM 5 10) [[],[],[5,6],[],rM 5 4,rM 5 4,rM 5 4,rM 5 4,rM 5 4,[]] cF rfl (by decide +kernel) (dP T rfl (dO T rfl (dO T rfl (dV rfl (bY rfl rfl (by omega) (by omega)) (dO T rfl (dV rfl (by exact cN rfl rfl) ?_))))));refine dP T rfl (dP T rfl (dO T rfl (dV rfl (eE rfl rfl) (dE ?_))));refine aV ?_)|refine nZ ?_));all_goals first | (exfalso;omega) | exact rQ
end Go.Proofs.YtmmkhmilpeodnaaGreat
namespace Go.Ab
open Go
theorem PD {P : Program} {f : FuncId} {n : Nat} (hfn : ∃ fn, P.funcs[f]? = some fn ∧ (fn.name == "runtime.NumGoroutine") = false ∧ fn.body.isNone = false)
    (hs:∀ w:World,Calls P f #[.slice none 0 0,.int .i64 n] w fun e w'=>∃ (g:Nat) (cs:Array Value) (t:TypeId),e = .returned (.slice (some ⟨w.heap.size,0,none⟩) 0 g)∧g≤maxLen∧g≤cs.size∧w'=w.drew.alloc (.cells cs t)) :
    aT P f [.nils,.i n] [] (.sl 0 0 0 1) [.arr [] 1]:=by
  refine ⟨hfn,fun ρ S w vs s ha=>?_⟩
  simp only [RL,R] at ha;obtain ⟨y,_,rfl,rfl,y2,_,rfl,rfl,rfl⟩:=ha;refine (hs w).mono fun e w' ⟨g,cs,t,he,hg,hgc,hw⟩=>?_
  subst hw;have hnew:(w.drew.alloc (.cells cs t)).heap[w.heap.size]? = some (.cells cs t (0,0)):=(MapKept.heap_alloc w.drew _).1;obtain ⟨ρ',g1,g2,_⟩:=s.made (x:=.sl 0 0 0 1) (b:=.arr [] 1) (y:=.slice (some ⟨w.heap.size,0,none⟩) 0 g) (q:=some (w.heap.size,0)) ((nQ.drew1 w).trans (pR w.drew (.cells cs t) (fun _=>False)) (fun _ h=>h.elim)) (fun p hp=>by cases hp; exact ⟨bA _,by rw [World.size_alloc]; exact Nat.lt_succ_self _⟩)
    (fun ρ' e1 e2 l'=>⟨by simp only [R];exact ⟨_,_,rfl,hg,.inr ⟨_,_,e1,rfl,bW _,⟨cs,t,(0,0),hnew,by omega⟩⟩⟩,⟨(fun e he=>nomatch he),MU,.inl ⟨rfl,fun b o hbo=>by cases hbo;exact ⟨cs,t,hnew⟩⟩⟩⟩)
  exact ⟨_,ρ',S,he,g1,g2⟩
end Go.Ab
namespace Go.Proofs.YtmmkhmilpeodnaaGreat
open Go Go.Ab Go.Ld Go.Shelf Go.Proofs
attribute [local irreducible] VC AW bX aT
set_option maxHeartbeats 4000000
shelf_lay_g Lays8.n4 Nm8 4 at Tryz 126 as laysGrow
theorem zX9 (n:Nat) (h0:0<n) (h1:n≤1000000):aT Tryz.prog 126 [.nils,.i n] [] (.sl 0 0 0 1) [.arr [] 1]:=by
  obtain ⟨inf,z,t1,t2,t3,t4,t5,t6,t7⟩:=T.tiOk 3 _ rfl;have hz:z.cells.size=1:=by have:=congrArg List.length t5;simpa using this
  refine PD ⟨_,Tryz.func126,by kernel_rfl,by kernel_rfl⟩ (fun w=>?_)
  refine (Any8.slices_Grow_grow laysGrow inf z t1 t4 (by rw [t2];decide) none 0 0 n [] w (bA _) (by omega) (by rw [t3];simp;omega) (by omega) (by simp) (fun _=>rfl) (fun a h=>by cases h)).mono ?_
  rintro e w' ⟨rfl,rfl⟩;have hge:=grownCap_ge w (0+n) 0 3;refine ⟨_,_,_,rfl,grownCap_le_maxLen w _ _ _ (by unfold maxLen;omega),?_,rfl⟩
  simp only [Array.size_append,Builtin.zeroCells,Array.size_map,Array.size_range,hz,oA,List.length_nil];omega
theorem zB7 (p q:List Int) (hp:0<p.length∧p.length≤1000) (hq:0<q.length∧q.length≤1000):aT Tryz.prog 86 [.rowE [[.rowE (ints p) 1],[.rowE (ints q) 1]] 1] [] (.rowE (ints (p++q)) 1) []:=by
  have hgr:=zX9 (p.length+q.length) (by omega) (by omega)
  rw [show ((p.length+q.length:Nat):Int)=(p.length:Int)+q.length by omega] at hgr
  have hlp:(ints p).length=p.length:=ints_length _;have hlq:(ints q).length=q.length:=ints_length _;have hpq:ints (p++q)=ints p++ints q:=dW;have hle:∀ e,e∈[[AV.rowE (ints p) 1],[AV.rowE (ints q) 1]]→e.length=1:=by intro e he;simp at he;rcases he with rfl | rfl <;> rfl
  have g0:[[AV.rowE (ints p) 1],[AV.rowE (ints q) 1]][((0:Nat):Int).toNat]? = some [AV.rowE (ints p) 1]:=rfl;have g1:[[AV.rowE (ints p) 1],[AV.rowE (ints q) 1]][((1:Nat):Int).toNat]? = some [AV.rowE (ints q) 1]:=rfl;refine oJ (by rw [ints_length]:(p++q).length=(ints (p++q)).length) (fO (ints_idf _)) ?_
  rw [hpq,aJ];have o1:=K9 p;have o2:=K9 q;have n1:=ints_len p;have n2:=ints_len q;have i1:=ints_idf p;have i2:=ints_idf q;generalize ints p=P' at *;generalize ints q=Q' at *;obtain ⟨sz,s0,s1,s2⟩:∃ sz:Nat→Int,sz 0=0∧sz 1=P'.length∧sz 2=P'.length+Q'.length:=⟨fun k=>if k=0 then 0 else if k=1 then (P'.length:Int) else P'.length+Q'.length,by simp,by simp,by simp⟩
  obtain ⟨cc,c0,c1,c2⟩:∃ cc:Nat→List (List AV),cc 0=[]∧cc 1=P'∧cc 2=P'++Q':=⟨fun k=>if k=0 then [] else if k=1 then P' else P'++Q',by simp,by simp,by simp⟩
  refine bK T Tryz.func86 rfl rfl rfl rfl ?_
  (repeat' (first|refine wS ?_|refine wB ?_|(refine rg 0 (aV ?_))|(refine rg 1 (aV ?_))|(refine rg 2 (mW rfl (qW T rfl (mV ?_))))|refine nZ ?_));refine cO (X:={k:Nat // k≤2}) (fun k=>[(0,.rowE [[.rowE P' 1],[.rowE Q' 1]] 1),(3,.i (sz k.1)),(9,.rowE [[.rowE P' 1],[.rowE Q' 1]] 1),(10,.i 2),(11,.i k.1)]) (fun _=>[]) (fun k=>2-k.1) ⟨0,by omega⟩ ⟨[],rfl,⟨rfl,by rw [s0];rfl,rfl,rfl,rfl,trivial⟩,trivial,cM,jJ _⟩ ?_
  rintro ⟨k,hk⟩;dsimp only;rcases (by omega:k=0∨k=1∨k=2) with rfl | rfl | rfl
  · (repeat' (first|refine wS ?_|refine wB ?_|refine wK ?_|refine rX rfl ?_|(refine wC rfl (fun hb=>?_) (fun hb=>?_) <;> (((try simp only [nm] at hb);try (exfalso;omega))))|(refine rg 3 (vV (aI rfl rfl) ?_))|(refine rg 4 (vV (ix T rfl (by omega) hle g0) (lW T rfl (aV ?_))))|(refine rg 5 (dK rfl (qW T rfl (vV (bY rfl rfl (by omega) (by omega)) (aV ?_)))))|(refine rg 6 (mW rfl (vV (aI rfl rfl) ?_)))|(refine rg 8 (vV (bY rfl rfl (by omega) (by omega)) (mV ?_)))|(refine nZ ?_)));all_goals first | (exfalso;omega) | exact ⟨⟨1,by omega⟩,by dsimp only;omega,[],rfl,⟨rfl,by dsimp only;rw [show sz 1=sz 0+P'.length by omega];rfl,rfl,rfl,rfl,trivial⟩,trivial,cM,jJ _⟩
  · (repeat' (first|refine wS ?_|refine wB ?_|refine wK ?_|refine rX rfl ?_|(refine wC rfl (fun hb=>?_) (fun hb=>?_) <;> (((try simp only [nm] at hb);try (exfalso;omega))))|(refine rg 3 (vV (aI rfl rfl) ?_))|(refine rg 4 (vV (ix T rfl (by omega) hle g1) (lW T rfl (aV ?_))))|(refine rg 5 (dK rfl (qW T rfl (vV (bY rfl rfl (by omega) (by omega)) (aV ?_)))))|(refine rg 6 (mW rfl (vV (aI rfl rfl) ?_)))|(refine rg 8 (vV (bY rfl rfl (by omega) (by omega)) (mV ?_)))|(refine nZ ?_)));all_goals first | (exfalso;omega) | exact ⟨⟨2,by omega⟩,by dsimp only;omega,[],rfl,⟨rfl,by dsimp only;rw [show sz 2=sz 1+Q'.length by omega];rfl,rfl,rfl,rfl,trivial⟩,trivial,cM,jJ _⟩
  · rw [← hlp,← hlq,← s2] at hgr
    (repeat' (first|refine wS ?_|refine wB ?_|refine wE ?_|refine wU ?_|(refine rg 3 (vV (aI rfl rfl) ?_))|(refine rg 9 (mW rfl (bN (by exact fX rfl rfl hgr (.inr ⟨rfl,rfl,by simp⟩)) rfl ?_));refine aV ?_)|(refine rg 10 (mW rfl (qW T rfl (mV ?_))))|refine nZ ?_));all_goals try (exfalso;omega)
    refine cO (X:={k:Nat // k≤2}) (fun k=>[(6,.sl 0 0 (cc k.1).length 1),(25,.rowE [[.rowE P' 1],[.rowE Q' 1]] 1),(26,.i 2),(27,.i k.1)]) (fun k=>[.arr (cc k.1) 1]) (fun k=>2-k.1) ⟨0,by omega⟩ ⟨[0],rfl,⟨by dsimp only;rw [c0];rfl,rfl,rfl,rfl,trivial⟩,⟨.inr (aD rfl (by dsimp only;rw [c0];rfl) (by rw [c0];intro e he;cases he)),trivial⟩,by decide,jJ _⟩ ?_
    clear hk;rintro ⟨k,hk⟩;dsimp only;rcases (by omega:k=0∨k=1∨k=2) with rfl | rfl | rfl
    · rw [c0]
      (repeat' (first|refine wS ?_|refine wB ?_|refine wK ?_|refine wT ?_|(refine rg 11 (vV (aI rfl rfl) ?_))|(refine rg 12 (vV (ix T rfl (by omega) hle g0) (lW T rfl (aV ?_))))|(refine rg 13 (dK rfl (fY T rfl rfl rfl rfl rfl rfl (by simp) (.row n1) o1 (by simp;omega) (by simp;omega) rfl ?_));refine aV ?_)|(refine rg 14 (vV (bY rfl rfl (by omega) (by omega)) (mV ?_)))|refine nZ ?_));all_goals first | (exfalso;omega) | skip
      exact ⟨⟨1,by omega⟩,by dsimp only;omega,⟨[1],rfl,⟨by dsimp only;rw [c1];show some (AV.sl 1 0 (0+P'.length) 1)=some (AV.sl 1 0 P'.length 1);rw [Nat.zero_add],rfl,rfl,rfl,trivial⟩,⟨.inr (aD rfl (by dsimp only;rw [c1];rfl) (by rw [c1];exact i1)),trivial⟩,by decide,jJ _⟩⟩
    · rw [c1]
      (repeat' (first|refine wS ?_|refine wB ?_|refine wK ?_|refine wT ?_|(refine rg 11 (vV (aI rfl rfl) ?_))|(refine rg 12 (vV (ix T rfl (by omega) hle g1) (lW T rfl (aV ?_))))|(refine rg 13 (dK rfl (fY T rfl rfl rfl rfl rfl rfl (by omega) (.row n2) o2 (by (simp;omega)) (by omega) rfl ?_));refine aV ?_)|(refine rg 14 (vV (bY rfl rfl (by omega) (by omega)) (mV ?_)))|refine nZ ?_));all_goals first | (exfalso;omega) | skip
      exact ⟨⟨2,by omega⟩,by dsimp only;omega,⟨[1],rfl,⟨by dsimp only;rw [c2,aJ];rfl,rfl,rfl,rfl,trivial⟩,⟨.inr (aD rfl (by dsimp only;rw [c2,nJ,dI]) (by rw [c2];intro e he;rcases bG.1 he with he | he;exact i1 e he;exact i2 e he)),trivial⟩,by decide,jJ _⟩⟩
    · rw [c2,aJ]
      (repeat' (first|refine wS ?_|refine wR ?_|refine wE ?_|refine wU ?_|(refine rg 11 (vV (aI rfl rfl) ?_))|(refine rg 15 (mW rfl (aV ?_)))|refine nZ ?_));all_goals first | (exfalso;omega) | exact ⟨.inl rfl,[0],_,rfl,by rw [hlp,hlq];rfl,rfl,⟨.inr (aD rfl rfl (by intro e he;rcases bG.1 he with he | he;exact i1 e he;exact i2 e he)),trivial⟩,by decide,jJ _⟩
theorem MB (l:List G) (hl:l.length≤1000000):aT Tryz.prog 43 [.rowE (kD l) 2] [] (.sl 0 0 l.length 2) [.arr (kD l) 2]:=by
  have hll:(kD l).length=l.length:=kB l;refine bK T Tryz.func43 rfl rfl rfl rfl ?_
  repeat' (first|refine wS ?_|refine wK ?_|refine wT ?_|refine wU ?_|(refine rg 0 (aV ?_))|(refine rg 1 (mV ?_);refine tI T rfl rfl rfl rfl fun b hb=>?_;cases b)|refine nZ ?_)
  · (repeat' (first|refine wR ?_|(refine rg 3 (bN (by exact bD T rfl rfl (by decide) (by decide) rfl rfl rfl) rfl ?_);refine mW rfl (fY T rfl rfl rfl rfl rfl rfl (by decide) (.row (qE l)) (zA0 l) (by simp;omega) (by simp;omega) rfl ?_);refine aV ?_)|(refine nZ ?_)));exact ⟨.inl rfl,[1],_,rfl,(by show AV.sl 1 0 (0+(kD l).length) 2=AV.sl 1 0 l.length 2;simp),rfl,⟨.inr (aD rfl rfl (eP _)),trivial⟩,by decide,K3⟩
  · have hl0:l=[]:=fE.1 (Classical.byContradiction fun h=>by have:=hb (by omega);cases this)
    subst hl0
    (repeat' (first|refine wR ?_|(refine rg 2 (vV (eL rfl) (sF 2 2 rfl (by decide) ?_)))|refine nZ ?_));exact ⟨.inl rfl,[0],_,rfl,rfl,rfl,⟨.inr (aD rfl rfl (eP _)),trivial⟩,by decide,K3⟩
theorem zO7 (g:G) (b:Int) (h:g.1.length≤1000000):aT Tryz.prog 90 [VP g,.pr [.i b] 0] [] (.b (decide (b∈g.1))) []:=by
  have hc:=BT g.1 b (by omega)
  refine bK T Tryz.func90 rfl rfl rfl rfl ?_
  (repeat' (first|refine wS ?_|refine wR ?_|(refine rg 0 (bN (cC rfl rfl) rfl (aV ?_)))|(refine rg 1 (gB T rfl (lW T rfl (vV (kC (hc)) (aV ?_)))))|refine nZ ?_));all_goals first | (exfalso;omega) | exact rQ
theorem xS (l:List G) (b:Int) (hl:l.length≤1000000) (hg:∀ g,g∈l→g.1.length≤1000000):aT Tryz.prog 45 [.rowE (kD l) 2,.i b] [] (.i (oY l b)) []:=by
  have hc:=zS4 (caps:=[.pr [.i b] 0]) (p:=fun g=>decide (b∈g.1)) hl rfl (fun x hx=>zO7 x b (hg x hx));have e:oV (fun g:G=>decide (b∈g.1)) l 0=oY l b:=by
    rw [EQ];unfold oY;cases l.findIdx? fun g=>decide (b∈g.1) with
    | none=>rfl
    | some i=>simp
  rw [e] at hc;generalize oY l b=v at *;refine bK T Tryz.func45 rfl rfl rfl rfl ?_
  (repeat' (first|refine wS ?_|refine wR ?_|(refine rg 0 (bN (cC rfl rfl) rfl (aV ?_)))|(refine rg 1 (mW rfl (vV (by exact jK rfl rfl) ?_));refine vV (by exact eJ rfl rfl hc (.cons (.row _ _ _) (.cons (.clo .nil (.cons (.ptr rfl (.cons (.v _) .nil)) .nil)) .nil)) rfl rfl) ?_;refine aV ?_)|refine nZ ?_));all_goals first | (exfalso;omega) | exact rQ
end Go.Proofs.YtmmkhmilpeodnaaGreat
namespace Go.Ld
open Go.Ab Go.Proofs.YtmmkhmilpeodnaaGreat
theorem LQ {α β:Type}{f:α→List β}{n:Nat}:∀ (l:List α) (hf:∀ x,x∈l→(f x).length=n) (i j:Nat) (hi:i<l.length) (hj:j<n),(l.flatMap f)[n*i+j]? = (f l[i])[j]?
  | [],hf,i,j,hi,hj=>by simp at hi
  | x::l,hf,0,j,hi,hj=>by
    rw [bJ,Nat.mul_zero,Nat.zero_add,aO (by rw [hf x aR];exact hj)];rfl
  | x::l,hf,i+1,j,hi,hj=>by
    have h1:=hf x aR;rw [bJ,aG (by rw [h1,zG0];omega),h1,show n*(i+1)+j-n=n*i+j by rw [zG0];omega]
    exact LQ l (fun x hx=>hf x (aM _ hx)) i j (by simpa using hi) hj
theorem LP {α β:Type}{f:α→List β}{n:Nat}:∀ (l:List α) (hf:∀ x,x∈l→(f x).length=n),(l.flatMap f).length=n*l.length
  | [],hf=>by simp
  | x::l,hf=>by
    rw [bJ,aJ,hf x aR,LP l (fun x hx=>hf x (aM _ hx)),List.length_cons,zG0];omega
theorem DZ (a b:G) (l:List Int):(pH a b l).length=b.2.length*a.2.length:=LP _ fun x _=>aF _
theorem TO {a b:G}{l:List Int}{i j:Nat}(hi:i<a.2.length) (hj:j<b.2.length):(pH a b l)[b.2.length*i+j]? = some (F9 a b a.2[i] b.2[j] l):=by
  unfold pH;rw [LQ _ (fun x _=>aF _) i j hi hj];simp [hj]
theorem E0:∀ (l:List Int) (v:Int) (k:Nat),v∈l→xM l v k=((k+l.idxOf v:Nat):Int)
  | [],v,k,h=>by cases h
  | x::l,v,k,h=>by
    unfold xM;by_cases e:v=x
    · rw [if_pos e,e,List.idxOf_cons_self];rfl
    · have e':(x::l).idxOf v=l.idxOf v+1:=by rw [List.idxOf_cons,beq_eq_false_iff_ne.2 (fun h=>e h.symm)];rfl
      rw [if_neg e,show ((k:Int)+1)=((k+1:Nat):Int) by omega,E0 l v (k+1) (by rcases bO.1 h with h | h;exact absurd h e;exact h),e']
      omega
theorem RI:∀ (l:List Int) (v k:Int),v∉l→xM l v k = -1
  | [],v,k,h=>rfl
  | x::l,v,k,h=>by
    unfold xM;rw [if_neg (fun e:v=x=>h (by rw [e];exact aR)),RI l v (k+1) (fun q=>h (aM _ q))]
def AS (a b:G) (l:List Int) (k:Nat):List AV:=match (pH a b l)[k]? with
  | some w=>[.agg (wA w)]
  | none=>[]
theorem YB {a b:G}{l:List Int}{i j:Nat}(hi:i<a.2.length) (hj:j<b.2.length):AS a b l (b.2.length*i+j)=[.agg (wA (F9 a b a.2[i] b.2[j] l))]:=by
  unfold AS;rw [TO hi hj]
theorem IV {α β:Type}{f:α→β}{l:List α}{m:Nat}(h:m<l.length):(l.map f).take (m+1)=(l.map f).take m++[f l[m]]:=by
  rw [aP (by simpa using h)];simp
end Go.Ld
namespace Go.Proofs.YtmmkhmilpeodnaaGreat
open Go Go.Ab Go.Ld
attribute [local irreducible] VC AW bX aT AY VY CV jU
set_option maxHeartbeats 4000000
abbrev zV6 (a b:G) (l:List Int):AV:=.clo (.func 127) [] [.pr (gA a) 0,.pr (gA b) 0,.pr [.rowE (ints l) 1] 0]
theorem zK3 (a b:G) (l:List Int):aT Tryz.prog 87 [VP a,VP b,.rowE (ints l) 1] [] (zV6 a b l) []:=by
  refine I6 (res:=.clo (.func 127) [] [.ptr 0 0,.ptr 1 0,.ptr 2 0]) (hout:=[.cells (gA a),.cells (gA b),.cells [.rowE (ints l) 1]]) ?_ (.clo .nil (.cons (.ptr rfl (.cons (.row _ _ _) (.cons (.row _ _ _) .nil))) (.cons (.ptr rfl (.cons (.row _ _ _) (.cons (.row _ _ _) .nil))) (.cons (.ptr rfl (.cons (.row _ _ _) .nil)) .nil))));refine bK T Tryz.func87 rfl rfl rfl rfl ?_
  (repeat' (first|refine wS ?_|refine wR ?_|(refine rg 0 (bN (cC rfl rfl) rfl (bN (cC rfl rfl) rfl (bN (cC rfl rfl) rfl (aV ?_)))))|(refine rg 1 (vV (by exact jK rfl rfl) ?_);refine aV ?_)|refine nZ ?_));all_goals exact ⟨.inl rfl,[0,1,2],_,rfl,rfl,rfl,⟨.inr rfl,.inr rfl,.inr rfl,trivial⟩,by decide,jJ _⟩
theorem YJ (a b:G) (l:List Int) (sa:yA9 a) (sb:yA9 b) (hl:l.length≤1000) (hm:∀ k,k∈l→k∈a.1∨k∈b.1) (h1:∀ w,w∈a.2→0≤w.2.1∧w.2.1≤4000000) (h2:∀ w,w∈b.2→0≤w.2.1∧w.2.1≤4000000) :
    CV Tryz.prog 127 [] [.pr (gA a) 0,.pr (gA b) 0,.pr [.rowE (ints l) 1] 0] [] (AS a b l) (pH a b l).length:=by
  have hnn:=DZ a b l;have hla:(fH a.2).length=a.2.length:=fJ _;have hlb:(fH b.2).length=b.2.length:=fJ _;have hll:(ints l).length=l.length:=ints_length _;have hwa:=sa.w;have hwb:=sb.w;refine zS9 T Tryz.func127 rfl rfl rfl rfl ?_;intro J A y hJ hy
  (repeat' (first|(first|(refine yE ?_)|(refine B5 ?_))|(((refine qR hJ (dX (id:=0) ?_)));(all_goals (refine LR T ?_;(refine qV T ?_);refine mV ?_)))|refine nZ ?_));refine HQ (X:={i:Nat // i≤a.2.length}) (fun i=>[(0,.clo (.yield y) [] []),(1,.pr (gA a) 0),(2,.pr (gA b) 0),(3,.pr [.rowE (ints l) 1] 0),(15,.rowE (fH a.2) 3),(16,.i (fH a.2).length),(17,.i i.1)]) (fun _=>[]) (fun i=>(b.2.length*i.1,false)) (fun i=>a.2.length-i.1) ⟨0,bW _⟩ rfl (fA []) ?_
  rintro ⟨i,hi⟩;dsimp only;by_cases hlt:i<a.2.length
  · have ga:=nN hlt;have hx:=sa.p _ (aH hlt);have hx2:=sa.c _ (aH hlt);have hx3:=h1 _ (aH hlt);have hpi:=fun (j:Nat) (hj:j<b.2.length)=>YB (a:=a) (b:=b) (l:=l) hlt hj;generalize a.2[i]=x at *
    (repeat' (first|(first|(refine yE ?_)|(refine B5 ?_)|(refine Z1 ?_))|((refine yG rfl (fun hb=>?_) (fun hb=>?_)<;>(((try simp only [nm] at hb);try ((exfalso;omega);done)))))|(((refine qR hJ (dX (id:=1) ?_)));(all_goals (refine vV (aI rfl rfl) ?_)))|(((refine qR hJ (dX (id:=2) ?_)));(all_goals (refine vV (ix T rfl (by omega) (jX _) ga) ?_;refine lV T ?_;refine bN (bI T rfl) rfl ?_;refine aL T rfl rfl rfl rfl rfl rfl (by decide) rfl ?_)))|(((refine qR hJ (dX (id:=3) ?_)));(all_goals (refine LR T ?_;(refine qV T ?_);refine mV ?_)))|refine nZ ?_));all_goals try (exfalso;omega)
    refine HQ (X:={j:Nat // j≤b.2.length}) (fun j=>[(0,.clo (.yield y) [] []),(1,.pr (gA a) 0),(2,.pr (gA b) 0),(3,.pr [.rowE (ints l) 1] 0),(6,.ptr 0 0),(15,.rowE (fH a.2) 3),(16,.i (fH a.2).length),(17,.i i),(22,.rowE (fH b.2) 3),(23,.i (fH b.2).length),(24,.i j.1)]) (fun _=>[.cells (wA x)]) (fun j=>(b.2.length*i+j.1,false)) (fun j=>b.2.length-j.1) ⟨0,bW _⟩ rfl ⟨[0],rfl,(by repeat first|exact trivial|refine ⟨rfl,?_⟩),⟨.inr rfl,trivial⟩,by decide,jJ _⟩ ?_
    rintro ⟨j,hj⟩;dsimp only;by_cases hjl:j<b.2.length
    · have gb:=nN hjl;have hy1:=sb.p _ (aH hjl);have hy2:=sb.c _ (aH hjl);have hy3:=h2 _ (aH hjl);have hit:=hpi j hjl;have hk:b.2.length*i+j<(pH a b l).length:=by
        rw [hnn];have:=PL b.2.length (show i+1≤a.2.length by omega)
        rw [zG0] at this;omega
      generalize b.2[j]=z at *
      (repeat' (first|(first|(refine yE ?_)|(refine B5 ?_)|(refine Z1 ?_))|((refine yG rfl (fun hb=>?_) (fun hb=>?_)<;>(((try simp only [nm] at hb);try ((exfalso;omega);done)))))|(((refine qR hJ (dX (id:=4) ?_)));(all_goals (refine vV (aI rfl rfl) ?_)))|(((refine qR hJ (dX (id:=5) ?_)));(all_goals (refine vV (ix T rfl (by omega) (jX _) gb) ?_;refine lV T ?_;refine bN (bI T rfl) rfl ?_;refine aL T rfl rfl rfl rfl rfl rfl (by decide) rfl ?_)))|(((refine qR hJ (dX (id:=6) ?_)));(all_goals (refine LR T ?_;refine LR T ?_;refine vV (bY rfl rfl (by omega) (by omega)) ?_;refine vV (by exact dY T rfl rfl rfl rfl) ?_;refine bN (bI T rfl) rfl ?_;refine aL T rfl rfl rfl rfl rfl rfl (by decide) rfl ?_)))|(((refine qR hJ (dX (id:=7) ?_)));(all_goals (refine lV T ?_;(refine qV T ?_);refine mV ?_)))|refine nZ ?_));all_goals try (exfalso;omega)
      refine qR hJ ?_;refine uU 2 0 1 rfl rfl (by decide) ?_
      refine uU 2 2 2 rfl rfl (by decide) ?_
      let fp:Int→Int:=fun k=>if k∈a.1 then gP x (a.1.idxOf k) else gP z (b.1.idxOf k)
      let fc:Int→SP:=fun k=>if k∈a.1 then gC x (a.1.idxOf k) else gC z (b.1.idxOf k)
      have hw:F9 a b x z l=(l.map fp,x.2.1+z.2.1,l.map fc):=rfl;rw [hw] at hit;have hplen:(l.map fp).length=l.length:=aF _;have hclen:(l.map fc).length=l.length:=aF _;have hpt:∀ m (h:m<l.length),(l.map fp).take (m+1)=(l.map fp).take m++[fp l[m]]:=fun m h=>IV h
      have hct:∀ m (h:m<l.length),(l.map fc).take (m+1)=(l.map fc).take m++[fc l[m]]:=fun m h=>IV h
      have hfa:∀ k,k∈a.1→fp k=x.1.getD (a.1.idxOf k) 0∧fc k=x.2.2.getD (a.1.idxOf k) (0,0):=fun k h=>⟨if_pos h,if_pos h⟩
      have hfb:∀ k,k∉a.1→fp k=z.1.getD (b.1.idxOf k) 0∧fc k=z.2.2.getD (b.1.idxOf k) (0,0):=fun k h=>⟨if_neg h,if_neg h⟩
      clear_value fp fc
      clear hw;generalize l.map fp=PP at *;generalize l.map fc=CC at *;refine cO (X:={m:Nat // m≤l.length}) (fun m=>[(0,.clo (.yield y) [] []),(1,.pr (gA a) 0),(2,.pr (gA b) 0),(3,.pr [.rowE (ints l) 1] 0),(6,.ptr 0 0),(8,.ptr 1 0),(9,.ptr 2 0),(15,.rowE (fH a.2) 3),(16,.i (fH a.2).length),(17,.i i),(22,.rowE (fH b.2) 3),(23,.i (fH b.2).length),(24,.i j),(34,.rowE (ints l) 1),(35,.i (ints l).length),(36,.i m.1)])
        (fun m=>[.cells (wA x),.cells (wA z),.cells [.sl 3 0 m.1 1,.i (x.2.1+z.2.1),.sl 4 0 m.1 2],.arr (ints (PP.take m.1)) 1,.arr (cT (CC.take m.1)) 2]) (fun m=>l.length-m.1) ⟨0,bW _⟩ ⟨[0,1,2,3,4],rfl,(by repeat first|exact trivial|refine ⟨rfl,?_⟩),⟨.inr rfl,.inr rfl,.inr rfl,.inr rfl,.inr rfl,trivial⟩,by decide,jJ _⟩ ?_
      rintro ⟨m,hm'⟩;dsimp only;have hTp:(ints (PP.take m)).length=m:=by rw [ints_length,bL];omega
      have hTc:(cT (CC.take m)).length=m:=by rw [gI,bL];omega
      by_cases hml:m<l.length
      · have hgl:=RD hml;have hkm:=hm l[m] (aH hml);have hp1:=hpt m hml;have hc1:=hct m hml;generalize l[m]=k at *;by_cases hka:k∈a.1
        · obtain ⟨e1,e2⟩:=hfa k hka;have hix:=xK a.1 k (by have:=sa.b;omega)
          have hxi:xM a.1 k 0=((a.1.idxOf k:Nat):Int):=by have:=E0 a.1 k 0 hka;simpa using this
          rw [hxi] at hix;have hio:=iD hka;generalize a.1.idxOf k=ia at *;have qp:=ints_gI (l:=x.1) (j:=(ia:Int)) (i:=ia) 0 (by omega) rfl
          have qc:=lU (l:=x.2.2) (j:=(ia:Int)) (i:=ia) (by omega) rfl
          have hlp:(ints x.1).length=x.1.length:=ints_length _;have hlc:(cT x.2.2).length=x.2.2.length:=gI _;rw [← e1] at qp;rw [← e2] at qc;have hPs:ints (PP.take (m+1))=ints (PP.take m)++[[AV.i (fp k)]]:=by rw [hp1,D7]
          have hCs:cT (CC.take (m+1))=cT (CC.take m)++[[AV.i (fc k).1,AV.i (fc k).2]]:=by rw [hc1,cT,dW];rfl
          generalize ints (PP.take m)=P0 at *;generalize cT (CC.take m)=C0 at *;generalize fp k=vp at *;generalize fc k=vc at *
          (repeat' (first|refine wS ?_|refine wB ?_|refine wK ?_|refine wU ?_|(refine wC rfl ?_ ?_<;>(intro hb;(try simp only [nm] at hb);try (exfalso;omega)))|(refine rg 8 (vV (aI rfl rfl) ?_))|(refine rg 9 (vV (ix T rfl (by omega) (ints_len _) hgl) (lW T rfl (aV ?_))))|(refine rV (id:=10) 6 79 [[],[],[1],[],[1,2,3],[],rN 6,rN 7] [[],[],[1],[],[1,2,3],[]] [40,41,42,43,44,12] [[],[40],[40],[40,41,42],[40],rM 40 5] cF rfl (by decide +kernel) (by decide +kernel) ?_;(dsimp only [List.take,List.drop]);refine dO T rfl (dP T rfl (dO T rfl (dN rfl (dV rfl (kC (hix)) (pX rfl rfl rfl (by exact bI T rfl) rfl ?_)))));refine HG rfl rfl (by ((dsimp only [List.nil_append,List.cons_append,List.append_nil,List.length_cons,List.length_nil,List.set_cons_zero,List.set_cons_succ,List.map_cons,List.map_nil,kR,mX,nA,sH,NH,H3,AC,Z9,Z8,AA,H2,H5,H1,H4,Nat.zero_add,Nat.add_zero,Nat.reduceAdd,Bool.not_true,Bool.not_false];done))) ?_;refine gG ?_;refine aL T rfl rfl rfl rfl rfl rfl (by decide) rfl (aV ?_))|(refine rg 11 (mW rfl (vV (aI rfl rfl) ?_)))|(refine rB (id:=13) 79 yO4 (rM 52 19) yO5 [(8,3),(17,4),(19,2)] cF rfl (by decide +kernel) (eN rfl rfl rfl rfl (by exact cD T rfl rfl rfl) ?_);refine eN rfl rfl rfl rfl (by exact aE T rfl rfl rfl rfl) ?_;refine eN rfl rfl rfl rfl (by exact cD T rfl rfl rfl) ?_;refine eN rfl rfl rfl rfl (by exact aE T rfl rfl rfl rfl) ?_;refine eN rfl rfl rfl rfl (by exact bU rfl) ?_;refine eN rfl rfl rfl rfl (by exact ix T rfl (by omega) (ints_len _) qp) ?_;refine eN rfl rfl rfl rfl (by exact aE T rfl rfl rfl rfl) ?_;refine M3 rfl rfl rfl rfl (by exact bD T rfl rfl (by decide) (by decide) rfl rfl rfl) rfl ?_;refine tZ rfl rfl rfl rfl (aY rfl) (by exact rC T rfl rfl rfl rfl rfl rfl (by omega) (kP.whole rfl rfl) rfl (by simp;omega) (by simp;omega)) ?_;refine eN rfl rfl rfl rfl (by exact cD T rfl rfl rfl) ?_;refine eN rfl rfl rfl rfl (by exact aE T rfl rfl rfl rfl) ?_;refine eN rfl rfl rfl rfl (by exact cD T rfl rfl rfl) ?_;refine eN rfl rfl rfl rfl (by exact aE T rfl rfl rfl rfl) ?_;refine eN rfl rfl rfl rfl (by exact bU rfl) ?_;refine eN rfl rfl rfl rfl (by exact ix T rfl (by omega) (jV _) qc) ?_;refine eN rfl rfl rfl rfl (by exact aE T rfl rfl rfl rfl) ?_;refine M3 rfl rfl rfl rfl (by exact bD T rfl rfl (by decide) (by decide) rfl rfl rfl) rfl ?_;refine tZ rfl rfl rfl rfl (aY rfl) (by exact rC T rfl rfl rfl rfl rfl rfl (by omega) (kP.whole rfl rfl) rfl (by simp;omega) (by simp;omega)) ?_;refine eN rfl rfl rfl rfl (by exact cD T rfl rfl rfl) ?_;refine HF rfl rfl rfl rfl (aY rfl) T rfl rfl rfl rfl rfl rfl (by decide) rfl ?_;refine yA rfl rfl rfl (by exact rfl) ?_;refine fW T rfl (aL T rfl rfl rfl rfl rfl rfl (by decide) rfl ?_))|(refine rg 14 (vV (bY rfl rfl (by omega) (by omega)) (mV ?_)))|refine nZ ?_));all_goals try (exfalso;omega)
          exact ⟨⟨m+1,hml⟩,by dsimp only;omega,⟨[0,1,2,7,9],rfl,(by repeat first|exact trivial|refine ⟨rfl,?_⟩),⟨.inr rfl,.inr rfl,.inr rfl,.inr (aD rfl (by dsimp only;rw [hPs];exact mI hTp.symm) (ints_idf _)),.inr (aD rfl (by dsimp only;rw [hCs];exact mI hTc.symm) (cQ _)),trivial⟩,by decide,jJ _⟩⟩
        · obtain ⟨e1,e2⟩:=hfb k hka;have hkb:k∈b.1:=hkm.resolve_left hka;have hix:=xK a.1 k (by have:=sa.b;omega)
          have hiy:=xK b.1 k (by have:=sb.b;omega)
          have hyi:xM b.1 k 0=((b.1.idxOf k:Nat):Int):=by have:=E0 b.1 k 0 hkb;simpa using this
          rw [RI _ _ _ hka] at hix;rw [hyi] at hiy;have hio:=iD hkb;generalize b.1.idxOf k=ia at *;have qp:=ints_gI (l:=z.1) (j:=(ia:Int)) (i:=ia) 0 (by omega) rfl
          have qc:=lU (l:=z.2.2) (j:=(ia:Int)) (i:=ia) (by omega) rfl
          have hlp:(ints z.1).length=z.1.length:=ints_length _;have hlc:(cT z.2.2).length=z.2.2.length:=gI _;rw [← e1] at qp;rw [← e2] at qc;have hPs:ints (PP.take (m+1))=ints (PP.take m)++[[AV.i (fp k)]]:=by rw [hp1,D7]
          have hCs:cT (CC.take (m+1))=cT (CC.take m)++[[AV.i (fc k).1,AV.i (fc k).2]]:=by rw [hc1,cT,dW];rfl
          generalize ints (PP.take m)=P0 at *;generalize cT (CC.take m)=C0 at *;generalize fp k=vp at *;generalize fc k=vc at *
          (repeat' (first|refine wS ?_|refine wB ?_|refine wK ?_|refine wT ?_|(refine wC rfl ?_ ?_<;>(intro hb;(try simp only [nm] at hb);try (exfalso;omega)))|(refine rg 8 (vV (aI rfl rfl) ?_))|(refine rg 9 (vV (ix T rfl (by omega) (ints_len _) hgl) (lW T rfl (aV ?_))))|(refine rV (id:=10) 6 79 [[],[],[1],[],[1,2,3],[],rN 6,rN 7] [[],[],[1],[],[1,2,3],[]] [40,41,42,43,44,12] [[],[40],[40],[40,41,42],[40],rM 40 5] cF rfl (by decide +kernel) (by decide +kernel) ?_;(dsimp only [List.take,List.drop]);refine dO T rfl (dP T rfl (dO T rfl (dN rfl (dV rfl (kC (hix)) (pX rfl rfl rfl (by exact bI T rfl) rfl ?_)))));refine HG rfl rfl (by ((dsimp only [List.nil_append,List.cons_append,List.append_nil,List.length_cons,List.length_nil,List.set_cons_zero,List.set_cons_succ,List.map_cons,List.map_nil,kR,mX,nA,sH,NH,H3,AC,Z9,Z8,AA,H2,H5,H1,H4,Nat.zero_add,Nat.add_zero,Nat.reduceAdd,Bool.not_true,Bool.not_false];done))) ?_;refine gG ?_;refine aL T rfl rfl rfl rfl rfl rfl (by decide) rfl (aV ?_))|(refine rg 11 (mW rfl (vV (aI rfl rfl) ?_)))|(refine oG (id:=12) 79 [[],[],[1],[],[1,2,3],rN 5] (rM 47 5) [[],[47],[47],[47,48,49],[47],[]] [(5,5)] cF rfl (by decide +kernel) (dB rfl rfl rfl rfl (by exact aE T rfl rfl rfl rfl) ?_);refine dB rfl rfl rfl rfl (by exact cD T rfl rfl rfl) ?_;refine dB rfl rfl rfl rfl (by exact aE T rfl rfl rfl rfl) ?_;refine dB rfl rfl rfl rfl (by exact bU rfl) ?_;refine dB rfl rfl rfl rfl (by exact kC (hiy)) ?_;refine xZ rfl rfl rfl rfl (aY rfl) T rfl rfl rfl rfl rfl rfl (by decide) rfl ?_;refine sY rfl rfl rfl (by exact rfl) ?_;refine aV ?_)|(refine rB (id:=13) 79 yO4 (rM 52 19) yO5 [(8,3),(17,4),(19,2)] cF rfl (by decide +kernel) (eN rfl rfl rfl rfl (by exact cD T rfl rfl rfl) ?_);refine eN rfl rfl rfl rfl (by exact aE T rfl rfl rfl rfl) ?_;refine eN rfl rfl rfl rfl (by exact cD T rfl rfl rfl) ?_;refine eN rfl rfl rfl rfl (by exact aE T rfl rfl rfl rfl) ?_;refine eN rfl rfl rfl rfl (by exact bU rfl) ?_;refine eN rfl rfl rfl rfl (by exact ix T rfl (by omega) (ints_len _) qp) ?_;refine eN rfl rfl rfl rfl (by exact aE T rfl rfl rfl rfl) ?_;refine M3 rfl rfl rfl rfl (by exact bD T rfl rfl (by decide) (by decide) rfl rfl rfl) rfl ?_;refine tZ rfl rfl rfl rfl (aY rfl) (by exact rC T rfl rfl rfl rfl rfl rfl (by omega) (kP.whole rfl rfl) rfl (by simp;omega) (by simp;omega)) ?_;refine eN rfl rfl rfl rfl (by exact cD T rfl rfl rfl) ?_;refine eN rfl rfl rfl rfl (by exact aE T rfl rfl rfl rfl) ?_;refine eN rfl rfl rfl rfl (by exact cD T rfl rfl rfl) ?_;refine eN rfl rfl rfl rfl (by exact aE T rfl rfl rfl rfl) ?_;refine eN rfl rfl rfl rfl (by exact bU rfl) ?_;refine eN rfl rfl rfl rfl (by exact ix T rfl (by omega) (jV _) qc) ?_;refine eN rfl rfl rfl rfl (by exact aE T rfl rfl rfl rfl) ?_;refine M3 rfl rfl rfl rfl (by exact bD T rfl rfl (by decide) (by decide) rfl rfl rfl) rfl ?_;refine tZ rfl rfl rfl rfl (aY rfl) (by exact rC T rfl rfl rfl rfl rfl rfl (by omega) (kP.whole rfl rfl) rfl (by simp;omega) (by simp;omega)) ?_;refine eN rfl rfl rfl rfl (by exact cD T rfl rfl rfl) ?_;refine HF rfl rfl rfl rfl (aY rfl) T rfl rfl rfl rfl rfl rfl (by decide) rfl ?_;refine yA rfl rfl rfl (by exact rfl) ?_;refine fW T rfl (aL T rfl rfl rfl rfl rfl rfl (by decide) rfl ?_))|(refine rg 14 (vV (bY rfl rfl (by omega) (by omega)) (mV ?_)))|refine nZ ?_));all_goals try (exfalso;omega)
          exact ⟨⟨m+1,hml⟩,by dsimp only;omega,⟨[0,1,2,7,9],rfl,(by repeat first|exact trivial|refine ⟨rfl,?_⟩),⟨.inr rfl,.inr rfl,.inr rfl,.inr (aD rfl (by dsimp only;rw [hPs];exact mI hTp.symm) (ints_idf _)),.inr (aD rfl (by dsimp only;rw [hCs];exact mI hTc.symm) (cQ _)),trivial⟩,by decide,jJ _⟩⟩
      · obtain rfl:m=l.length:=by omega
        rw [show PP.take l.length=PP by rw [← hplen,dI],show CC.take l.length=CC by rw [← hclen,dI]]
        refine iP 2 0 rfl rfl rfl (by rw [ints_length,hplen]) (fO (ints_idf _)) ?_
        refine iP 2 2 rfl rfl rfl (by rw [gI,hclen]) (fO (cQ _)) ?_
        (repeat' (first|refine wS ?_|refine wE ?_|(refine wC rfl ?_ ?_<;>(intro hb;(try simp only [nm] at hb);try (exfalso;omega)))|(refine rg 8 (vV (aI rfl rfl) ?_))|refine nZ ?_));all_goals try (exfalso;omega)
        show AY _ _ _ _ _ _ _ _ _
        (repeat' (first|(first|(refine yE ?_)|(refine Z1 ?_)|(refine zC8 ?_))|((refine yG rfl (fun hb=>?_) (fun hb=>?_)<;>(((try simp only [nm] at hb);try ((exfalso;omega);done)))))|(((refine FH (id:=15) ?_));((refine VV 2 hJ ?_));(dsimp only [List.take,List.drop]);(all_goals (refine mV ?_;refine lV T ?_;refine gG ?_;refine IM hJ hy rfl rfl rfl hk hit rfl ?_));(all_goals (intro yes));(all_goals (refine zS0 hJ ?_;refine vV (cY rfl) ?_;refine W9 (by ((dsimp only [List.nil_append,List.cons_append,List.append_nil,List.length_cons,List.length_nil,List.set_cons_zero,List.set_cons_succ,List.map_cons,List.map_nil,kR,mX,nA,sH,NH,H3,AC,Z9,Z8,AA,H2,H5,H1,H4,Nat.zero_add,Nat.add_zero,Nat.reduceAdd,Bool.not_true,Bool.not_false];done))) ?_)))|(((refine qR hJ (dX (id:=16) ?_)));(all_goals (refine vV (bY rfl rfl (by omega) (by omega)) ?_;refine mV ?_)))|refine nZ ?_));all_goals first | (exfalso;omega) | skip
        · exact ⟨.inl rfl,fun h=>(by first | (subst hb;cases h) | (cases h;done)),[],rfl⟩
        · obtain rfl:=hb;exact ⟨⟨j+1,hjl⟩,by dsimp only;omega,rfl,⟨[0],rfl,(by repeat first|exact trivial|refine ⟨rfl,?_⟩),⟨.inr rfl,trivial⟩,by decide,jJ _⟩⟩
    · obtain rfl:j=b.2.length:=by omega
      (repeat' (first|(first|(refine yE ?_)|(refine HR ?_))|((refine yG rfl (fun hb=>?_) (fun hb=>?_)<;>(((try simp only [nm] at hb);try ((exfalso;omega);done)))))|(((refine qR hJ (dX (id:=4) ?_)));(all_goals (refine vV (aI rfl rfl) ?_)))|(((refine qR hJ (dX (id:=17) ?_)));(all_goals (refine vV (bY rfl rfl (by omega) (by omega)) ?_;refine mV ?_)))|refine nZ ?_));all_goals first | (exfalso;omega) | skip
      exact ⟨⟨i+1,hlt⟩,by dsimp only;omega,rfl,fA []⟩
  · obtain rfl:i=a.2.length:=by omega
    (repeat' (first|(first|(refine yE ?_)|(refine HR ?_))|((refine yG rfl (fun hb=>?_) (fun hb=>?_)<;>(((try simp only [nm] at hb);try ((exfalso;omega);done)))))|(((refine qR hJ (dX (id:=1) ?_)));(all_goals (refine vV (aI rfl rfl) ?_)))|refine nZ ?_));all_goals first | (exfalso;omega) | skip
    exact ⟨.inr rfl,fun _=>by rw [hnn],[],rfl⟩
end Go.Proofs.YtmmkhmilpeodnaaGreat
namespace Go.Ab
open Go
theorem sO {P:Program}{env:eH}{h:Hp}{d:Option Nat}{ty:TypeId}{pos:String}{af:Array Edge}{g:Option (Nat × Bool)}(T:oZ P){t e sz:Nat}{es:List (List AV)}{c:List AV}{i:TI}{x y:Operand}{kk:IntKind}{j:Int}(hx:evu env x=some (.rowE es sz)) (hy:evu env y=some (.v (.int kk j))) (ha:T.elem t=some e) (he:T.ti e=some i) (hs:i.size=sz) (h0:0≤j) (hl:∀ e,e∈es→e.length=sz) (hc:es[j.toNat]? = some c) :
    zF8 P ⟨d,.indexAddr t x y,ty,pos,af,g⟩ env h (.pr c 0):=by
  intro ρ S a w p;have h1:j<es.length:=by have:=(aB.1 hc).1;omega
  have h2:=p.evu hx;simp only [R] at h2;obtain ⟨ad,cap,h3,_,_,_,_,h4⟩:=h2;rcases h4 with h4 | ⟨b,o,ys,h5,h6,h7,h8⟩
  · omega
  have h9:=sD (p.evu hy);subst h5;refine ⟨.pointer (some ⟨b,o+j.toNat*sz,none⟩),fun w'=>by simp [execOp,h3,h9,Instr.indexAt,asIntOf,run_underlying (T.elemOk _ _ ha),h0,h1,T.sizeOf he,Addr.add_lit,hs],QO hl hc ?_⟩
  simp only [R];exact ⟨b,o,ys,rfl,h6,h7,h8⟩
end Go.Ab
namespace Go.Ld
open Go.Ab Go.Proofs.YtmmkhmilpeodnaaGreat
theorem jA {l:List G}{b:Int}(h:∃ g,g∈l∧b∈g.1):∃ (i:Nat) (g:G),oY l b=(i:Int)∧l[i]? = some g∧b∈g.1:=by
  obtain ⟨g,hg,hb⟩:=h;unfold oY;cases hf:l.findIdx? fun g=>decide (b∈g.1) with
  | none=>have:=List.findIdx?_eq_none_iff.1 hf g hg;simp at this;exact absurd hb this
  | some i=>
    obtain ⟨h1,h2,_⟩:=List.findIdx?_eq_some_iff_getElem.1 hf;exact ⟨i,l[i],rfl,aA h1,by simpa using h2⟩
theorem qY (l:List Int):jD l=eK cI l:=
  H7 qH (Go.Pm.sorted_perm l) ((Go.Pm.sorted_up l).imp fun {a b} h=>by unfold cI;split <;> (try split) <;> omega)
theorem TL {a b:G}{l:List Int}{k:Nat}{w:W}(h:(pH a b l)[k]? = some w):AS a b l k=[.agg (wA w)]:=by unfold AS;rw [h]
end Go.Ld
namespace Go.Proofs.YtmmkhmilpeodnaaGreat
open Go Go.Ab Go.Ld
attribute [local irreducible] VC AW bX aT AY VY CV jU
set_option maxHeartbeats 4000000
theorem yH7:∀ i:Nat,i<1→([0,4]:List Nat)[i]? = some i:=by decide
theorem zL8 {n:Nat}(l:List G) (a b:Int) (ok:nY n l) (ha:∃ g,g∈l∧a∈g.1) (hb:∃ g,g∈l∧b∈g.1) (hs:oY l a=oY l b):aT Tryz.prog 44 [.sl 0 0 l.length 2,.i a,.i b] [.arr (kD l) 2] (.tup [.sl 0 0 l.length 2,.i 0]) [.arr (kD l) 2]:=by
  have hl12:l.length≤12:=bP ok.len ok.ln;have hgl:∀ g,g∈l→g.1.length≤1000000:=fun g hg=>by have:=(ok.ok g hg).ln;omega
  have f1:=xS l a (by omega) hgl
  have f2:=xS l b (by omega) hgl
  obtain ⟨i,x,e1,hx,hax⟩:=jA ha;obtain ⟨k,y,e2,hy,hby⟩:=jA hb;rw [e1] at f1;rw [e2] at f2;have hil:=(aB.1 hx).1;have hkl:=(aB.1 hy).1;have hll:(kD l).length=l.length:=kB _;have qx:(kD l)[(i:Int).toNat]? = some (gA x):=by rw [bH,bZ,hx];rfl
  have qy:(kD l)[(k:Int).toNat]? = some (gA y):=by rw [bH,bZ,hy];rfl
  have ax:lF l (i:Int).toNat=x:=by unfold lF;rw [bH,aC,hx];rfl
  have ay:lF l (k:Int).toNat=y:=by unfold lF;rw [bH,aC,hy];rfl
  have hik:i=k:=by omega
  subst hik;have hvw:oN [.arr (kD l) 2] (.sl 0 0 l.length 2) (.rowE (kD l) 2):=vK rfl hll.symm (vT (fun _=>rfl) _);refine bK T Tryz.func44 rfl rfl rfl rfl ?_
  (repeat' (first|refine wS ?_|refine wR ?_|refine wT ?_|(refine rg 0 (oM ?_))|(refine rg 1 (dK rfl (vV (by exact eJ rfl rfl f1 (.cons hvw (.cons (.v _) .nil)) rfl rfl) ?_));refine dK rfl (vV (by exact eJ rfl rfl f2 (.cons hvw (.cons (.v _) .nil)) rfl rfl) ?_);refine oM ?_)|(refine rg 2 (dK rfl (vV (gX rfl rfl rfl) ?_)))|(refine rg 3 (mW rfl (oM ?_)))|refine nZ ?_));all_goals first | (exfalso;omega) | exact ⟨.inl rfl,[0],_,rfl,rfl,rfl,⟨.inr (aD rfl rfl (eP _)),trivial⟩,by decide,GK⟩
theorem zM0 {n:Nat}(l:List G) (a b:Int) (ok:nY n l) (ha:∃ g,g∈l∧a∈g.1) (hb:∃ g,g∈l∧b∈g.1) (hj:join l a b=none):aT Tryz.prog 44 [.rowE (kD l) 2,.i a,.i b] [] (.tup [.nils,.i 6]) []:=by
  have hl12:l.length≤12:=bP ok.len ok.ln;have hgl:∀ g,g∈l→g.1.length≤1000000:=fun g hg=>by have:=(ok.ok g hg).ln;omega
  have f1:=xS l a (by omega) hgl
  have f2:=xS l b (by omega) hgl
  obtain ⟨i,x,e1,hx,hax⟩:=jA ha;obtain ⟨k,y,e2,hy,hby⟩:=jA hb;rw [e1] at f1;rw [e2] at f2;have hil:=(aB.1 hx).1;have hkl:=(aB.1 hy).1;have hll:(kD l).length=l.length:=kB _;have qx:(kD l)[(i:Int).toNat]? = some (gA x):=by rw [bH,bZ,hx];rfl
  have qy:(kD l)[(k:Int).toNat]? = some (gA y):=by rw [bH,bZ,hy];rfl
  have ax:lF l (i:Int).toNat=x:=by unfold lF;rw [bH,aC,hx];rfl
  have ay:lF l (k:Int).toNat=y:=by unfold lF;rw [bH,aC,hy];rfl
  unfold join at hj;dsimp only at hj;rw [e1,e2,ax,ay] at hj;clear ha hb;have hik:i≠k:=fun q=>by subst q;rw [if_pos rfl] at hj;cases hj
  rw [if_neg (by omega)] at hj
  have hf:6<x.1.length+y.1.length∨1000<x.2.length*y.2.length:=by
    by_cases hf:6<x.1.length+y.1.length∨1000<x.2.length*y.2.length
    · exact hf
    · rw [if_neg hf] at hj;cases hj
  clear hj;have xo:=ok.ok x (aS hx);have yo:=ok.ok y (aS hy);have xw:=ok.ws x (aS hx);have yw:=ok.ws y (aS hy);have xl:=xo.ln;have yl:=yo.ln;have xp:=eF.2 xo.ne;have yp:=eF.2 yo.ne;have sx:=xo.sz xw;have sy:=yo.sz yw;have l1:(ints x.1).length=x.1.length:=ints_length _;have l2:(ints y.1).length=y.1.length:=ints_length _;have l3:(fH x.2).length=x.2.length:=fJ _;have l4:(fH y.2).length=y.2.length:=fJ _;have hmx:x.2.length*y.2.length≤2000*2000:=N4 xw yw;have hml:((x.2.length:Int)*y.2.length)=((x.2.length*y.2.length:Nat):Int):=by push_cast;rfl
  obtain ⟨bx,wx⟩:=x;obtain ⟨by_,wy⟩:=y;have hmI:(((fH wx).length:Nat):Int)*((fH wy).length:Nat)=((wx.length*wy.length:Nat):Int):=by rw [fJ,fJ];push_cast;rfl
  dsimp only at *;refine bK T Tryz.func44 rfl rfl rfl rfl ?_
  (repeat' (first|refine wS ?_|refine wK ?_|refine wU ?_|(refine rg 0 (oM ?_))|(refine rg 1 (dK rfl (vV (kC (f1)) (dK rfl (vV (kC (f2)) (oM ?_))))))|(refine rg 2 (dK rfl (vV (dQ rfl rfl (by omega)) ?_)))|refine nZ ?_));refine zD4 [(0,.rowE (kD l) 2),(8,.i i),(9,.i k),(10,.ptr 0 0),(11,.ptr 1 0)] [.cells [.rowE (ints bx) 1,.rowE (fH wx) 3],.cells [.rowE (ints by_) 1,.rowE (fH wy) 3]] ?_ ?_
  · refine ML (id:=4) cF ?_;refine zB 0 rfl rfl (by decide +kernel) (by decide +kernel) (by decide +kernel) (by exact uM rfl) rfl ?_
    refine zB 1 rfl rfl (by decide +kernel) (by decide +kernel) (by decide +kernel) (by exact uM rfl) rfl ?_
    refine zB 2 rfl rfl (by decide +kernel) (by decide +kernel) (by decide +kernel) (by exact sO T rfl rfl rfl rfl rfl (by omega) (qE _) qx) rfl ?_
    refine zB 4 rfl rfl (by decide +kernel) (by decide +kernel) (by decide +kernel) (by exact uM rfl) rfl ?_
    refine zB 5 rfl rfl (by decide +kernel) (by decide +kernel) (by decide +kernel) (by exact uM rfl) rfl ?_
    refine zB 6 rfl rfl (by decide +kernel) (by decide +kernel) (by decide +kernel) (by exact sO T rfl rfl rfl rfl rfl (by omega) (qE _) qy) rfl ?_
    refine SB [(0,[]),(1,[]),(2,[0,1]),(3,[2]),(4,[]),(5,[]),(6,[4,5]),(7,[6]),(8,[]),(9,[]),(10,[8,3,0,1,2,3,8,9]),(11,[9,7,10,0,1,2,3,4,5,6,7,8,9,10])] (by decide +kernel) [true,true,true,false,true,true,true,false,false,false,false,false] rfl rfl ?_
    (repeat' (first|(refine zE6 rfl rfl ?_;(first|(refine lV T ?_)|(refine bN (bI T rfl) rfl ?_)|(refine aL T rfl rfl rfl rfl rfl rfl (by decide) rfl ?_));refine gG ?_;dsimp only [List.set_cons_zero,List.set_cons_succ])|(refine zE5 rfl rfl rfl ?_ ?_<;>((first|(refine lV T ?_)|(refine bN (bI T rfl) rfl ?_)|(refine aL T rfl rfl rfl rfl rfl rfl (by decide) rfl ?_));refine gG ?_;dsimp only [List.set_cons_zero,List.set_cons_succ]))|(refine zE4 rfl rfl rfl rfl ?_ ?_ ?_<;>((first|(refine lV T ?_)|(refine bN (bI T rfl) rfl ?_));refine gG ?_;dsimp only [List.set_cons_zero,List.set_cons_succ]))|(refine zE3 rfl rfl rfl rfl rfl ?_ ?_ ?_ ?_<;>((first|(refine lV T ?_)|(refine bN (bI T rfl) rfl ?_));refine gG ?_;dsimp only [List.set_cons_zero,List.set_cons_succ]))));all_goals first | exact E8 rfl ⟨rfl,[0,1],rfl,(by repeat first|exact trivial|refine ⟨rfl,?_⟩),⟨.inr rfl,.inr rfl,trivial⟩,by decide,jJ _⟩ | exact E8 rfl ⟨rfl,[1,0],rfl,(by repeat first|exact trivial|refine ⟨rfl,?_⟩),⟨.inr rfl,.inr rfl,trivial⟩,by decide,jJ _⟩
  intro v g hsub;refine PA hsub ?_
  (repeat' (first|refine wS ?_|refine wR ?_|refine wT ?_|(refine wC rfl ?_ ?_<;>(intro hb;(try simp only [nm] at hb);try (exfalso;omega)))|(refine rg 5 (gB T rfl (qW T rfl (gB T rfl (qW T rfl (vV (bY rfl rfl (by omega) (by omega)) (vV (eE rfl rfl) (mV ?_)))))));refine bC rfl rfl ?_ ?_<;>(intro hb;rw [hb];(try simp only [nm] at hb);try (exfalso;omega));(all_goals first|(refine gT (fW T rfl (gT (lW T rfl (gT (qW T rfl (gT (fW T rfl (gT (lV T ?_)))))))));refine gT (qW T rfl (gT (vV (E2 rfl rfl (by omega) (by omega)) (gT (vV (eE rfl rfl) ?_))))))|(iterate 8 refine gF ?_));(all_goals (refine pV ?_)))|(refine rg 6 (oM ?_))|refine nZ ?_));all_goals first | (exfalso;omega) | exact rQ
theorem zL9 {n:Nat}(l:List G) (a b:Int) (ok:nY n l) (ha:∃ g,g∈l∧a∈g.1) (hb:∃ g,g∈l∧b∈g.1){all:List G}(hj:join l a b=some all) (hne:oY l a≠oY l b):aT Tryz.prog 44 [.rowE (kD l) 2,.i a,.i b] [] (.tup [.sl 0 0 all.length 2,.i 0]) [.arr (kD all) 2]:=by
  have hl12:l.length≤12:=bP ok.len ok.ln;have hgl:∀ g,g∈l→g.1.length≤1000000:=fun g hg=>by have:=(ok.ok g hg).ln;omega
  have f1:=xS l a (by omega) hgl
  have f2:=xS l b (by omega) hgl
  obtain ⟨i,x,e1,hx,hax⟩:=jA ha;obtain ⟨k,y,e2,hy,hby⟩:=jA hb;rw [e1] at f1;rw [e2] at f2;have hil:=(aB.1 hx).1;have hkl:=(aB.1 hy).1;have hll:(kD l).length=l.length:=kB _;have qx:(kD l)[(i:Int).toNat]? = some (gA x):=by rw [bH,bZ,hx];rfl
  have qy:(kD l)[(k:Int).toNat]? = some (gA y):=by rw [bH,bZ,hy];rfl
  have ax:lF l (i:Int).toNat=x:=by unfold lF;rw [bH,aC,hx];rfl
  have ay:lF l (k:Int).toNat=y:=by unfold lF;rw [bH,aC,hy];rfl
  unfold join at hj;dsimp only at hj;rw [e1,e2,ax,ay] at hj;clear ha hb;have hik:i≠k:=fun q=>by subst q;exact hne (e1.trans e2.symm)
  rw [if_neg (by omega)] at hj
  have hf:¬ (6<x.1.length+y.1.length∨1000<x.2.length*y.2.length):=fun hf=>by rw [if_pos hf] at hj;cases hj
  rw [if_neg hf] at hj
  replace hj:=(Option.some.inj hj).symm
  have xo:=ok.ok x (aS hx);have yo:=ok.ok y (aS hy);have xw:=ok.ws x (aS hx);have yw:=ok.ws y (aS hy);have xl:=xo.ln;have yl:=yo.ln;have xp:=eF.2 xo.ne;have yp:=eF.2 yo.ne;have sx:=xo.sz xw;have sy:=yo.sz yw;have l1:(ints x.1).length=x.1.length:=ints_length _;have l2:(ints y.1).length=y.1.length:=ints_length _;have l3:(fH x.2).length=x.2.length:=fJ _;have l4:(fH y.2).length=y.2.length:=fJ _;have hmx:x.2.length*y.2.length≤2000*2000:=N4 xw yw;have hml:((x.2.length:Int)*y.2.length)=((x.2.length*y.2.length:Nat):Int):=by push_cast;rfl
  obtain ⟨bx,wx⟩:=x;obtain ⟨by_,wy⟩:=y;have hmI:(((fH wx).length:Nat):Int)*((fH wy).length:Nat)=((wx.length*wy.length:Nat):Int):=by rw [fJ,fJ];push_cast;rfl
  have hjG:mU (bx,wx) (by_,wy)=(eK cI (bx++by_),pH (bx,wx) (by_,wy) (eK cI (bx++by_))):=rfl;rw [hjG,← qY] at hj;have hbl:(jD (bx++by_)).length=bx.length+by_.length:=by rw [pF,aJ]
  have hmm:∀ q,q∈jD (bx++by_)→q∈bx∨q∈by_:=fun q hq=>bG.1 ((Go.Pm.sorted_perm _).mem_iff.1 hq);have h1:=zB7 bx by_ ⟨by dsimp only at *;omega,by dsimp only at *;omega⟩ ⟨by dsimp only at *;omega,by dsimp only at *;omega⟩
  have h2:=zL (bx++by_);have h3:=J5 (bx++by_) (by rw [aJ];dsimp only at *;omega)
  have hPl:=DZ (bx,wx) (by_,wy) (jD (bx++by_));generalize jD (bx++by_)=bod at *;have h4:=zK3 (bx,wx) (by_,wy) bod;have hit:=YJ (bx,wx) (by_,wy) bod sx sy (by dsimp only at *;omega) hmm (fun w hw=>⟨(xo.ws w hw).m0,(xo.ws w hw).m1⟩) (fun w hw=>⟨(yo.ws w hw).m0,(yo.ws w hw).m1⟩)
  have hpg:∀ (q:Nat) (w:W),(pH (bx,wx) (by_,wy) bod)[q]? = some w→AS (bx,wx) (by_,wy) bod q=[.agg (wA w)]:=fun q w h=>TL h
  generalize AS (bx,wx) (by_,wy) bod=IT at *;generalize pH (bx,wx) (by_,wy) bod=P at *;have hP:P.length≤1000:=by rw [hPl,yK9];dsimp only at *;omega
  clear hPl hmm h2;have h2:=zL (bx++by_);dsimp only at *;have hcl:=MB l (by omega)
  have hS:min (i:Int) (k:Int)=((min i k:Nat):Int):=by omega
  have hM:max (i:Int) (k:Int)=((max i k:Nat):Int):=by omega
  rw [hS,hM,bH,bH] at hj;have ts:=L1 (L:=l) (j:=min (i:Int) (k:Int)) (i:=min i k) (x:=(bod,P)) hS;have qm:=A0 (L:=l) (j:=min (i:Int) (k:Int)) (i:=min i k) (x:=l[min i k]'(by omega)) (aA _) hS
  have hdl:=zZ1 (l.set (min i k) (bod,P)) (max i k) (max i k+1) (by omega) (by rw [fM];omega) (by intro h;have:=congrArg List.length h;rw [fM,List.length_nil] at this;omega)
  rw [L9,fM,show l.length-(max i k+1-max i k)=l.length-1 by omega,show ((max i k+1:Nat):Int)=max (i:Int) (k:Int)+1 by omega,← hM] at hdl
  have hel:((l.set (min i k) (bod,P)).eraseIdx (max i k)).length=l.length-1:=by rw [gJ,fM,if_pos (by omega)]
  generalize l[min i k]'(by omega)=gm at *
  subst hj;rw [hel];refine bK T Tryz.func44 rfl rfl rfl rfl ?_
  (repeat' (first|refine wS ?_|refine wK ?_|refine wU ?_|(refine rg 0 (oM ?_))|(refine rg 1 (dK rfl (vV (kC (f1)) (dK rfl (vV (kC (f2)) (oM ?_))))))|(refine rg 2 (dK rfl (vV (dQ rfl rfl (by omega)) ?_)))|refine nZ ?_));refine zD4 [(0,.rowE (kD l) 2),(8,.i i),(9,.i k),(10,.ptr 0 0),(11,.ptr 1 0)] [.cells [.rowE (ints bx) 1,.rowE (fH wx) 3],.cells [.rowE (ints by_) 1,.rowE (fH wy) 3]] ?_ ?_
  · refine ML (id:=4) cF ?_;refine zB 0 rfl rfl (by decide +kernel) (by decide +kernel) (by decide +kernel) (by exact uM rfl) rfl ?_
    refine zB 1 rfl rfl (by decide +kernel) (by decide +kernel) (by decide +kernel) (by exact uM rfl) rfl ?_
    refine zB 2 rfl rfl (by decide +kernel) (by decide +kernel) (by decide +kernel) (by exact sO T rfl rfl rfl rfl rfl (by omega) (qE _) qx) rfl ?_
    refine zB 4 rfl rfl (by decide +kernel) (by decide +kernel) (by decide +kernel) (by exact uM rfl) rfl ?_
    refine zB 5 rfl rfl (by decide +kernel) (by decide +kernel) (by decide +kernel) (by exact uM rfl) rfl ?_
    refine zB 6 rfl rfl (by decide +kernel) (by decide +kernel) (by decide +kernel) (by exact sO T rfl rfl rfl rfl rfl (by omega) (qE _) qy) rfl ?_
    refine SB [(0,[]),(1,[]),(2,[0,1]),(3,[2]),(4,[]),(5,[]),(6,[4,5]),(7,[6]),(8,[]),(9,[]),(10,[8,3,0,1,2,3,8,9]),(11,[9,7,10,0,1,2,3,4,5,6,7,8,9,10])] (by decide +kernel) [true,true,true,false,true,true,true,false,false,false,false,false] rfl rfl ?_
    (repeat' (first|(refine zE6 rfl rfl ?_;(first|(refine lV T ?_)|(refine bN (bI T rfl) rfl ?_)|(refine aL T rfl rfl rfl rfl rfl rfl (by decide) rfl ?_));refine gG ?_;dsimp only [List.set_cons_zero,List.set_cons_succ])|(refine zE5 rfl rfl rfl ?_ ?_<;>((first|(refine lV T ?_)|(refine bN (bI T rfl) rfl ?_)|(refine aL T rfl rfl rfl rfl rfl rfl (by decide) rfl ?_));refine gG ?_;dsimp only [List.set_cons_zero,List.set_cons_succ]))|(refine zE4 rfl rfl rfl rfl ?_ ?_ ?_<;>((first|(refine lV T ?_)|(refine bN (bI T rfl) rfl ?_));refine gG ?_;dsimp only [List.set_cons_zero,List.set_cons_succ]))|(refine zE3 rfl rfl rfl rfl rfl ?_ ?_ ?_ ?_<;>((first|(refine lV T ?_)|(refine bN (bI T rfl) rfl ?_));refine gG ?_;dsimp only [List.set_cons_zero,List.set_cons_succ]))));all_goals first | exact E8 rfl ⟨rfl,[0,1],rfl,(by repeat first|exact trivial|refine ⟨rfl,?_⟩),⟨.inr rfl,.inr rfl,trivial⟩,by decide,jJ _⟩ | exact E8 rfl ⟨rfl,[1,0],rfl,(by repeat first|exact trivial|refine ⟨rfl,?_⟩),⟨.inr rfl,.inr rfl,trivial⟩,by decide,jJ _⟩
  intro v g hsub;refine PA hsub ?_
  (repeat' (first|refine wS ?_|refine wB ?_|refine wK ?_|(refine wC rfl ?_ ?_<;>(intro hb;(try simp only [nm] at hb);try (exfalso;omega)))|(refine rg 5 (gB T rfl (qW T rfl (gB T rfl (qW T rfl (vV (bY rfl rfl (by omega) (by omega)) (vV (eE rfl rfl) (mV ?_)))))));refine bC rfl rfl ?_ ?_<;>(intro hb;rw [hb];(try simp only [nm] at hb);try (exfalso;omega));(all_goals (refine yP T rfl (yO T rfl (gT (qW T rfl (yP T rfl (yO T rfl (gT (qW T rfl (yV (E2 rfl rfl (by omega) (by omega)) (yV (eE rfl rfl) ?_)))))))));refine pV ?_)))|(refine rg 7 (gB T rfl (gB T rfl (bN (by exact bD T rfl rfl (by decide) (by decide) rfl rfl rfl) rfl ?_)));refine mE 55 rfl rfl rfl rfl ?_;refine vV (kC (h1)) (vV (kC (h2)) (vV (kC (h3)) (vV (by exact dY T rfl rfl rfl rfl) ?_)));refine bN (bI T rfl) rfl (aL T rfl rfl rfl rfl rfl rfl (by decide) rfl ?_))|(refine rg 8 (lW T rfl (lW T rfl (gB T rfl (vV (kC (h4)) ?_)))))|refine nZ ?_));all_goals try (exfalso;omega)
  refine uU 3 1 3 rfl rfl (by decide) ?_
  refine MI [] [3,4] [(0,.rowE (kD l) 2),(8,.i i),(9,.i k),(12,.ptr 0 0)] (fun m=>[.cells [.rowE (ints bod) 1,.sl 1 0 m 3],.arr (fH (P.take m)) 3]) 1 rfl hit rfl rfl rfl trivial cM rfl (by repeat first|exact trivial|refine ⟨rfl,?_⟩) ⟨.inr rfl,.inr rfl,trivial⟩ (by decide) (jJ _) (by simp) (bW _) (aY rfl) rfl (by decide) (fun m hm=>by rw [hpg m P[m] (aA hm)];exact ⟨rfl,rfl⟩) ?_ ?_
  · intro m hm;rw [hpg m P[m] (aA hm)];have hks:=aP hm;have hkl':(fH (P.take m)).length=m:=by rw [fJ,bL];omega
    have hW:fH (P.take (m+1))=fH (P.take m)++[wA P[m]]:=by rw [hks,fH,dW];rfl
    generalize P[m]=w at *;obtain ⟨wp,wm,wc⟩:=w;generalize fH (P.take m)=Q at *;refine dX (id:=9) ?_;refine bN (by exact bI T rfl) rfl ?_
    refine aL T rfl rfl rfl rfl rfl rfl (by decide) rfl ?_
    refine gG ?_;refine ⟨rfl,?_⟩
    repeat' (first|refine wB ?_|(refine rg 10 (gB T rfl (lW T rfl (bN (by exact bD T rfl rfl (by decide) (by decide) rfl rfl rfl) rfl ?_)));refine fY T rfl rfl rfl rfl rfl rfl (by omega) (kP.whole rfl rfl) rfl (by simp;omega) (by simp;omega) rfl ?_;refine fW T rfl (aL T rfl rfl rfl rfl rfl rfl (by decide) rfl ?_))|refine nZ ?_)
    show IE _ _ _ _ [.cells [.rowE (ints bod) 1,.sl 1 0 (m+1) 3],.arr (fH (P.take (m+1))) 3];rw [hW];exact ⟨[0,4],rfl,trivial,⟨.inr (by simp;rfl),.inr (aD rfl (by first | exact mI hkl'.symm | simp) (by rw [← hW];exact bS _)),trivial⟩,by decide,yH7⟩
  · rw [dI];refine iP 0 1 rfl rfl rfl (fJ _).symm (fO (bS _)) ?_;show AW _ _ _ _ _ _
    (repeat' (first|refine wS ?_|(refine rg 11 (mW rfl (bN (by exact fX rfl rfl hcl (.inr ⟨rfl,rfl,by simp⟩)) rfl ?_));refine aV ?_)|refine nZ ?_));refine eI [(8,.i i),(9,.i k),(12,.ptr 0 0),(14,.sl 1 0 l.length 2)] [.cells [.rowE (ints bod) 1,.rowE (fH P) 3],.arr (kD l) 2] ⟨[0,2],rfl,(by repeat first|exact trivial|refine ⟨rfl,?_⟩),⟨.inr rfl,.inr (aD rfl (cJ _ (eP _)) (eP _)),trivial⟩,by decide,jJ _⟩ ?_
    (repeat' (first|refine wS ?_|(refine rg 12 (dK rfl (mW rfl (vV (A7 rfl rfl) (lW T rfl (vV (by exact aK T rfl rfl rfl rfl rfl (by omega) (by omega)) ?_)))));refine aL T rfl rfl rfl rfl rfl rfl (by decide) (iJ rfl qm rfl) ?_)|refine nZ ?_));refine eI [(8,.i i),(9,.i k),(14,.sl 0 0 l.length 2)] [.arr (kD (l.set (min i k) (bod,P))) 2] ⟨[1],rfl,(by repeat first|exact trivial|refine ⟨rfl,?_⟩),⟨.inr (aD rfl ts (eP _)),trivial⟩,by decide,jJ _⟩ ?_
    (repeat' (first|refine wR ?_|(refine rg 13 (dK rfl (mW rfl (vV (sG rfl rfl) (dK rfl (vV (sG rfl rfl) (vV (bY rfl rfl (by omega) (by omega)) (fP [0] rfl rfl (hdl) rfl rfl (by decide) ⟨.inr (aD rfl rfl (eP _)),trivial⟩ (by simp) rfl ?_)))))));refine oM ?_)|refine nZ ?_));all_goals exact ⟨.inl rfl,[0],_,rfl,rfl,rfl,⟨.inr (aD rfl (cJ _ (eP _)) (eP _)),trivial⟩,by decide,jJ _⟩
end Go.Proofs.YtmmkhmilpeodnaaGreat
namespace Go.Ld
open Go.Ab Go.Proofs.YtmmkhmilpeodnaaGreat
structure qN (c:Cx):Prop where
  f:yF7 c.ks c.ls (nats (List.range c.bs.length)) c.bs
  s:nX c.m c.st c.er c.sl
theorem qN.unit {c:Cx}(h:qN c) (lot:Int):0≤nE c.ks c.ls lot:=by
  unfold nE;split
  · exact dC _
  · rw [aC];cases hq:c.ks[(c.ls.getD lot.toNat (0,0,false)).1.toNat]? with
    | none=>exact dC _
    | some x=>
      obtain ⟨h1,h2⟩:=aB.1 hq;have:=(h.f.k _ h1).1;rw [h2] at this;exact this
end Go.Ld
namespace Go.Proofs.YtmmkhmilpeodnaaGreat
open Go Go.Ab Go.Ld
attribute [local irreducible] VC AW bX aT jU
set_option maxHeartbeats 4000000
theorem SK (t u w e:Int) (hu:0≤u):aT Tryz.prog 92 [.i t,.i u,.i w,.i e] [] (.tup [jC (DE t u w e).1.1 (DE t u w e).1.2,.b (DE t u w e).2]) []:=by
  unfold DE;by_cases h:xR t u w e
  · rw [if_pos (show G5 t u w e=true from decide_eq_true h)]
    by_cases h1:w+e-t<0∨u=0∧0<w-e-t
    · rw [if_pos h1];exact IK t u w e h h1
    · rw [if_neg h1];by_cases h2:u=0
      · rw [if_pos h2];exact IL t u w e h (by omega) h2 (by omega)
      · rw [if_neg h2];exact NE t u w e h (by omega) (by omega)
  · have h':¬ G5 t u w e=true:=fun q=>h (by simpa [G5,xR] using q)
    rw [if_neg h'];exact ND t u w e h
theorem zM1 (r q:SP):aT Tryz.prog 93 [jC r.1 r.2,jC q.1 q.2] [] (.tup [jC (yC (max r.1 q.1) (min r.2 q.2)).1.1 (yC (max r.1 q.1) (min r.2 q.2)).1.2,.b (yC (max r.1 q.1) (min r.2 q.2)).2]) []:=zM2 r.1 r.2 q.1 q.2
theorem YC (r:SP) (n s:Int) (hf:0≤r.1∧r.1≤20001∧0≤r.2∧r.2≤20001):aT Tryz.prog 94 [jC r.1 r.2,.i n,.i s] [] (.tup [jC (yX r n s).1.1 (yX r n s).1.2,.b (yX r n s).2]) []:=by
  unfold yX;by_cases h:0≤n∧n≤1099511627776∧0≤s∧s≤1099511627776
  · rw [if_pos h];exact TM r.1 r.2 n s hf h
  · rw [if_neg h];exact NT r.1 r.2 n s h
abbrev yG4 (s:Ev):AV:=WR s.k s.a s.b s.n s.ids
theorem zC7 (c:Cx) (gs:List G){n q:Nat}(w:W){i:Nat}(s:Ev) (hc:qN c) (hw:CJ n q w) (hn:n=c.bs.length) (hi:i<q) (hq:q≤1000) (hids:s.ids.length≤9223372036854775807) (hsn:0≤s.n∧s.n≤1099511627776) :
    aT Tryz.prog 47 [.pr (gZ c gs) 0,MZ w,.i i,yG4 s] [] (.tup [.agg [.sl 0 0 w.1.length 1,.i (iO c w i s).1.2.1,.sl 1 0 w.2.2.length 2],.b (iO c w i s).2]) [.arr (ints w.1) 1,.arr (cT (iO c w i s).1.2.2) 2]:=by
  have hpl:=hw.pl;have hcl:=hw.cl;have hcw:=HI w ⟨by omega,by omega⟩
  obtain ⟨g1,g2,g3,g4,g5⟩:=hw.at hi;have hm0:=hw.m0;have hm1:=hw.m1;have hids':(ints s.ids).length=s.ids.length:=ints_length _;obtain ⟨st1,st2,st3,st4,st5,st6,st7,st8⟩:=hc.s;have hbo:(iO c w i s).1.2.2=(iO c w i s).1.2.2:=rfl;unfold iO gP gC at *;obtain ⟨p,m,cs⟩:=w;obtain ⟨sk,sa,sb,sn,ids⟩:=s;dsimp only at *;have hlp:(ints p).length=p.length:=ints_length _;have hlc:(cT cs).length=cs.length:=gI _;have qp:=L0 (l:=p) (j:=(i:Int)) (i:=i) 0 (by omega) rfl
  have qc:=zM (l:=cs) (j:=(i:Int)) (i:=i) (by omega) rfl
  have ct:∀ r:SP,_:=fun r=>vO (l:=cs) (j:=(i:Int)) (i:=i) (r:=r) rfl;have ctn:∀ x y:Int,(cT cs).set (0+(i:Int).toNat) [AV.i x,AV.i y]=cT (cs.set i (x,y)):=fun x y=>ct (x,y);clear ct hbo;generalize hx:p.getD i 0=x at *;generalize hr:cs.getD i (0,0)=r at *;obtain ⟨r1,r2⟩:=r;dsimp only at *;have hbx:c.bs[x.toNat]? = some (c.bs.getD x.toNat (0,0,0)):=by
    rw [aC,aA (by omega)];rfl
  refine bK T Tryz.func47 rfl rfl rfl rfl ?_
  (repeat' (first|refine wS ?_|refine wB ?_|(refine rg 0 (bN (cC rfl rfl) rfl (bN (cC rfl rfl) rfl (bN (bI T rfl) rfl (aV ?_)))))|(refine rg 1 (lW T rfl (bN (by exact fX rfl rfl hcw (.inr ⟨rfl,rfl,by simp⟩)) rfl ?_));refine aL T rfl rfl rfl rfl rfl rfl (by decide) rfl ?_)|(refine rg 2 (aV ?_))|(refine rg 3 (LR T ?_))|refine nZ ?_));refine eI [(0,.pr (gZ c gs) 0),(2,.i i),(5,.ptr 0 0),(7,.ptr 1 0),(8,.ptr 2 0),(10,.b true),(18,.i sk)] [.cells [.sl 3 0 p.length 1,.i m,.sl 4 0 cs.length 2],.cells [.i sk,.i sa,.i sb,.i sn,.rowE (ints ids) 1],.cells [.nils,.i 0,.nils],.arr (ints p) 1,.arr (cT cs) 2]
    ⟨[0,1,2,3,4],rfl,(by repeat first|exact trivial|refine ⟨rfl,?_⟩),⟨.inr rfl,.inr rfl,.inr rfl,.inr (aD rfl (cJ _ (ints_idf _)) (ints_idf _)),.inr (aD rfl (cJ _ (cQ _)) (cQ _)),trivial⟩,by decide,jJ _⟩ ?_
  by_cases k0:sk=0
  · rw [if_pos k0];have hct:=BT ids x hids;by_cases hin:x∈ids
    · rw [if_pos hin];rw [decide_eq_true hin] at hct;dsimp only
      (repeat' (first|refine wS ?_|refine wR ?_|refine wT ?_|(refine rg 4 (vV (gX rfl rfl (by omega)) (aV ?_)))|(refine rg 5 (fW T rfl (vV (aE T rfl rfl rfl rfl) (qW T rfl (aV ?_)))))|(refine rV (id:=6) 7 153 [[],[0],[],[2],[],[2,3,4],rM 2 4,rN 7] [[],[0],[],[2],[],[2,3,4],rM 2 4] (rM 24 7) yO6 cF rfl (by decide +kernel) (by decide +kernel) ?_;(dsimp only [List.take,List.drop]);refine dP T rfl (dO T rfl (dP T rfl (dO T rfl (dN rfl (dV rfl (by exact aK T rfl rfl rfl rfl rfl (by omega) (by omega)) ?_)))));refine dV rfl (by exact aE T rfl rfl (bM rfl qp) rfl) ?_;refine dE ?_;refine gG ?_;refine vV (kC (hct)) ?_)|(refine rg 7 (mW rfl (vV (cX rfl rfl (by omega) (by omega)) (aV ?_))))|(refine rg 9 (dK rfl (nV ?_));refine fW T rfl (fW T rfl (vV (aE T rfl rfl rfl rfl) (vV (lA rfl rfl) (aV ?_)))))|(refine rg 23 (vV (aE T rfl rfl rfl rfl) (mW rfl (aL T rfl rfl rfl rfl rfl rfl (by decide) rfl (aV ?_)))))|refine nZ ?_));all_goals first | (exfalso;omega) | exact ⟨.inl rfl,[3,4],_,rfl,by rw [← hids'];rfl,rfl,⟨.inr (aD rfl rfl (ints_idf _)),.inr (aD rfl rfl (cQ _)),trivial⟩,by decide,jJ _⟩
    · rw [if_neg hin];rw [decide_eq_false hin] at hct;dsimp only
      (repeat' (first|refine wS ?_|refine wR ?_|refine wT ?_|refine wU ?_|(refine rg 4 (vV (gX rfl rfl (by omega)) (aV ?_)))|(refine rg 5 (fW T rfl (vV (aE T rfl rfl rfl rfl) (qW T rfl (aV ?_)))))|(refine rV (id:=6) 7 153 [[],[0],[],[2],[],[2,3,4],rM 2 4,rN 7] [[],[0],[],[2],[],[2,3,4],rM 2 4] (rM 24 7) yO6 cF rfl (by decide +kernel) (by decide +kernel) ?_;(dsimp only [List.take,List.drop]);refine dP T rfl (dO T rfl (dP T rfl (dO T rfl (dN rfl (dV rfl (by exact aK T rfl rfl rfl rfl rfl (by omega) (by omega)) ?_)))));refine dV rfl (by exact aE T rfl rfl (bM rfl qp) rfl) ?_;refine dE ?_;refine gG ?_;refine vV (kC (hct)) ?_)|(refine rg 8 (fW T rfl (vV (aE T rfl rfl rfl rfl) (vV (bY rfl rfl (by omega) (by omega)) (fW T rfl (aL T rfl rfl rfl rfl rfl rfl (by decide) rfl ?_))))))|(refine rg 9 (dK rfl (nV ?_));refine fW T rfl (fW T rfl (vV (aE T rfl rfl rfl rfl) (vV (lA rfl rfl) (aV ?_)))))|(refine rg 23 (vV (aE T rfl rfl rfl rfl) (mW rfl (aL T rfl rfl rfl rfl rfl rfl (by decide) rfl (aV ?_)))))|refine nZ ?_));all_goals first | (exfalso;omega) | exact ⟨.inl rfl,[3,4],_,rfl,by rw [← hids'];rfl,rfl,⟨.inr (aD rfl rfl (ints_idf _)),.inr (aD rfl rfl (cQ _)),trivial⟩,by decide,jJ _⟩
  by_cases k1:sk=1
  · rw [if_neg k0,if_pos k1];have hbl:=hc.f.b x.toNat (by omega)
    have hgx:c.bs[x.toNat]'(by omega)=c.bs.getD x.toNat (0,0,0):=by rw [aC,aA (by omega)];rfl
    rw [hgx] at hbl;have hbxl:(eB c.bs).length=c.bs.length:=aF _;have qb:(eB c.bs)[x.toNat]? = some [.i (c.bs.getD x.toNat (0,0,0)).1,.i (c.bs.getD x.toNat (0,0,0)).2.1,.i (c.bs.getD x.toNat (0,0,0)).2.2]:=by rw [bZ,hbx];rfl
    generalize c.bs.getD x.toNat (0,0,0)=bx at *;obtain ⟨lot,cnt,ta⟩:=bx;dsimp only at *;have hun:=zU2 hc.f (lot:=lot) (by omega)
    have hu0:=hc.unit lot;generalize nE c.ks c.ls lot=u at *;have hwg:=SK ta u sn c.er hu0;unfold qX sC;dsimp only;generalize DE ta u sn c.er=z at *;obtain ⟨⟨z1,z2⟩,zb⟩:=z;dsimp only at *;cases zb with
    | true=>
      rw [if_pos rfl];have hin:=zM1 (r1,r2) (z1,z2);dsimp only at *;generalize yC (max r1 z1) (min r2 z2)=y at *;obtain ⟨⟨y1,y2⟩,yb⟩:=y;dsimp only at *
      (repeat' (first|refine wS ?_|refine wR ?_|refine wT ?_|refine wU ?_|(refine rg 4 (vV (dQ rfl rfl (by omega)) (aV ?_)))|(refine rg 10 (vV (gX rfl rfl (by omega)) (aV ?_)))|(refine bQ (id:=11) 153 yO7 [47,48,49,50,51,52,53,54,55,56,57,12] yO8 cF rfl (by decide +kernel) (dN rfl (dV rfl (by exact cN rfl rfl) ?_));refine dP T rfl (dO T rfl (dP T rfl (dO T rfl (dN rfl (dV rfl (by exact aK T rfl rfl rfl rfl rfl (by omega) (by omega)) ?_)))));refine dV rfl (by exact aE T rfl rfl (bM rfl qp) rfl) ?_;refine dV rfl (ix T rfl (by omega) (jM _) qb) (dO T rfl (pX rfl rfl rfl (by exact bI T rfl) rfl ?_));refine dE ?_;refine aL T rfl rfl rfl rfl rfl rfl (by decide) rfl ?_)|(refine rW (id:=12) 23 25 153 (by (dsimp only [yI];done)) (by decide +kernel) yO9 [59,60,61,62,63,64,65,66,67,68,69,70,71,72,73,74,75,76,77,78,79,58,80,81,13] yP0 cF rfl (by decide +kernel) (dP T rfl (dO T rfl (dN rfl (dV rfl (by exact cN rfl rfl) ?_))));refine dP T rfl (dO T rfl (dN rfl (dV rfl (by exact cN rfl rfl) ?_)));refine dP T rfl (dO T rfl (dP T rfl (dO T rfl (dV rfl (kC (hun)) (dP T rfl (dO T rfl (dN rfl (dV rfl (by exact cN rfl rfl) ?_))))))));refine dP T rfl (dP T rfl (dO T rfl (dV rfl (kC (hwg)) (dN rfl (dV rfl (by exact fU rfl rfl) ?_)))));refine dV rfl (by exact fU rfl rfl) ?_;refine pX rfl rfl rfl (by exact bI T rfl) rfl ?_;refine dE ?_;refine aL T rfl rfl rfl rfl rfl rfl (by decide) rfl (aV ?_))|(refine rg 13 (mV ?_))|(refine rW (id:=14) 9 10 153 (by (dsimp only [yI];done)) (by decide +kernel) [[],[0],[],[0,1,2],rN 4,[],rN 6,rN 7,rN 8,rN 8] [84,85,86,87,88,89,90,83,91,92] [[],[],[84,85],[],[],rM 84 5,[],[],[],[91]] cF rfl (by decide +kernel) (dP T rfl (dO T rfl (dN rfl (dV rfl (by exact aK T rfl rfl rfl rfl rfl (by omega) (by omega)) ?_))));refine dV rfl (by exact aE T rfl rfl (bM rfl qc) rfl) ?_;refine dO T rfl (dV rfl (kC (hin)) (dN rfl (dV rfl (by exact fU rfl rfl) ?_)));refine dV rfl (by exact fU rfl rfl) ?_;refine dE ?_;refine aL T rfl rfl rfl rfl rfl rfl (by decide) rfl (aV ?_))|(refine rg 15 (fW T rfl (vV (aE T rfl rfl rfl rfl) (mW rfl (vV (aE T rfl rfl rfl rfl) (mW rfl (vV (by exact aK T rfl rfl rfl rfl rfl (by omega) (by omega)) ?_))))));refine aL T rfl rfl rfl rfl rfl rfl (by decide) (iJ rfl qc rfl) (aV ?_))|(refine rg 23 (vV (aE T rfl rfl rfl rfl) (mW rfl (aL T rfl rfl rfl rfl rfl rfl (by decide) rfl (aV ?_)))))|refine nZ ?_));all_goals first | (exfalso;omega) | exact ⟨.inl rfl,[3,4],_,rfl,rfl,rfl,⟨.inr (aD rfl rfl (ints_idf _)),.inr (aD rfl (ctn y1 y2) (cQ _)),trivial⟩,by decide,jJ _⟩
    | false=>
      rw [if_neg (by simp)]
      (repeat' (first|refine wS ?_|refine wK ?_|refine wR ?_|refine wT ?_|refine wU ?_|(refine rg 4 (vV (dQ rfl rfl (by omega)) (aV ?_)))|(refine rg 10 (vV (gX rfl rfl (by omega)) (aV ?_)))|(refine bQ (id:=11) 153 yO7 [47,48,49,50,51,52,53,54,55,56,57,12] yO8 cF rfl (by decide +kernel) (dN rfl (dV rfl (by exact cN rfl rfl) ?_));refine dP T rfl (dO T rfl (dP T rfl (dO T rfl (dN rfl (dV rfl (by exact aK T rfl rfl rfl rfl rfl (by omega) (by omega)) ?_)))));refine dV rfl (by exact aE T rfl rfl (bM rfl qp) rfl) ?_;refine dV rfl (ix T rfl (by omega) (jM _) qb) (dO T rfl (pX rfl rfl rfl (by exact bI T rfl) rfl ?_));refine dE ?_;refine aL T rfl rfl rfl rfl rfl rfl (by decide) rfl ?_)|(refine rW (id:=12) 23 25 153 (by (dsimp only [yI];done)) (by decide +kernel) yO9 [59,60,61,62,63,64,65,66,67,68,69,70,71,72,73,74,75,76,77,78,79,58,80,81,13] yP0 cF rfl (by decide +kernel) (dP T rfl (dO T rfl (dN rfl (dV rfl (by exact cN rfl rfl) ?_))));refine dP T rfl (dO T rfl (dN rfl (dV rfl (by exact cN rfl rfl) ?_)));refine dP T rfl (dO T rfl (dP T rfl (dO T rfl (dV rfl (kC (hun)) (dP T rfl (dO T rfl (dN rfl (dV rfl (by exact cN rfl rfl) ?_))))))));refine dP T rfl (dP T rfl (dO T rfl (dV rfl (kC (hwg)) (dN rfl (dV rfl (by exact fU rfl rfl) ?_)))));refine dV rfl (by exact fU rfl rfl) ?_;refine pX rfl rfl rfl (by exact bI T rfl) rfl ?_;refine dE ?_;refine aL T rfl rfl rfl rfl rfl rfl (by decide) rfl (aV ?_))|(refine rg 13 (mV ?_))|(refine rg 15 (fW T rfl (vV (aE T rfl rfl rfl rfl) (mW rfl (vV (aE T rfl rfl rfl rfl) (mW rfl (vV (by exact aK T rfl rfl rfl rfl rfl (by omega) (by omega)) ?_))))));refine aL T rfl rfl rfl rfl rfl rfl (by decide) (iJ rfl qc rfl) (aV ?_))|(refine rg 23 (vV (aE T rfl rfl rfl rfl) (mW rfl (aL T rfl rfl rfl rfl rfl rfl (by decide) rfl (aV ?_)))))|refine nZ ?_));all_goals first | (exfalso;omega) | exact ⟨.inl rfl,[3,4],_,rfl,rfl,rfl,⟨.inr (aD rfl rfl (ints_idf _)),.inr (aD rfl (ctn z1 z2) (cQ _)),trivial⟩,by decide,jJ _⟩
  by_cases k2:sk=2
  · have hpk:=YC (r1,r2) sn c.sl ⟨by omega,by omega,by omega,by omega⟩
    rw [if_neg k0,if_neg k1,if_pos k2];unfold sC;dsimp only at *;generalize yX (r1,r2) sn c.sl=z at *;obtain ⟨⟨z1,z2⟩,zb⟩:=z;dsimp only at *
    (repeat' (first|refine wS ?_|refine wR ?_|refine wT ?_|refine wU ?_|(refine rg 4 (vV (dQ rfl rfl (by omega)) (aV ?_)))|(refine rg 10 (vV (dQ rfl rfl (by omega)) (aV ?_)))|(refine rg 16 (vV (gX rfl rfl (by omega)) (aV ?_)))|(refine rW (id:=17) 18 20 153 (by (dsimp only [yI];done)) (by decide +kernel) [[],[0],[],[],[3],[],[3,4,5],rM 3 4,[],[8],[],[10],[10,11],[10,11,12],rM 10 4,rM 3 12,rM 3 13,rM 3 14,rM 3 14,rN 18] [102,103,104,105,106,107,108,109,110,111,112,113,114,115,116,117,101,118,119,120] [[],[],[102,103],[102,103,104],[102,103,104],rM 102 5,[102,103,104],[102,103,104],rM 102 8,rM 102 8,rM 102 10,rM 102 10,rM 102 10,rM 102 10,rM 102 10,[102,103,104],[102,103,104],[102,103,104],[102,103,104,118],[119]] cF rfl (by decide +kernel) (dP T rfl (dO T rfl (dN rfl (dP T rfl (dO T rfl (dN rfl (dV rfl (by exact aK T rfl rfl rfl rfl rfl (by omega) (by omega)) ?_)))))));refine dV rfl (by exact aE T rfl rfl (bM rfl qc) rfl) ?_;refine dP T rfl (dO T rfl (dN rfl (dV rfl (by exact cN rfl rfl) ?_)));refine dP T rfl (dP T rfl (dO T rfl (dV rfl (kC (hpk)) (dN rfl (dV rfl (by exact fU rfl rfl) ?_)))));refine dV rfl (by exact fU rfl rfl) ?_;refine dV rfl (by exact aK T rfl rfl rfl rfl rfl (by omega) (by omega)) ?_;refine dE ?_;refine aL T rfl rfl rfl rfl rfl rfl (by decide) (iJ rfl qc rfl) (aV ?_))|(refine rg 23 (vV (aE T rfl rfl rfl rfl) (mW rfl (aL T rfl rfl rfl rfl rfl rfl (by decide) rfl (aV ?_)))))|refine nZ ?_));all_goals first | (exfalso;omega) | exact ⟨.inl rfl,[3,4],_,rfl,rfl,rfl,⟨.inr (aD rfl rfl (ints_idf _)),.inr (aD rfl (ctn z1 z2) (cQ _)),trivial⟩,by decide,jJ _⟩
  by_cases k3:sk=3
  · rw [if_neg k0,if_neg k1,if_neg k2,if_pos k3];have hhs:=QK r1 r2 sn;unfold sC;dsimp only;generalize pT r1 r2 sn=hb' at *
    (repeat' (first|refine wS ?_|refine wR ?_|refine wT ?_|refine wU ?_|(refine rg 4 (vV (dQ rfl rfl (by omega)) (aV ?_)))|(refine rg 10 (vV (dQ rfl rfl (by omega)) (aV ?_)))|(refine rg 16 (vV (dQ rfl rfl (by omega)) (aV ?_)))|(refine rg 18 (vV (gX rfl rfl (by omega)) (aV ?_)))|(refine bQ (id:=19) 153 [[],[0],[],[0,1,2],rN 4,[],[5],rN 7] (rM 123 8) [[],[],[123,124],[],[],rM 123 5,rM 123 5,[]] cF rfl (by decide +kernel) (dP T rfl (dO T rfl (dN rfl (dV rfl (by exact aK T rfl rfl rfl rfl rfl (by omega) (by omega)) ?_))));refine dV rfl (by exact aE T rfl rfl (bM rfl qc) rfl) ?_;refine dP T rfl (dO T rfl (dV rfl (kC (hhs)) (dE ?_)));refine aV ?_)|(refine rg 20 (fW T rfl (vV (aE T rfl rfl rfl rfl) (mW rfl (fW T rfl (vV (aE T rfl rfl rfl rfl) (fW T rfl (vV (aE T rfl rfl rfl rfl) (vV (bY rfl rfl (by omega) (by omega)) (vV (by exact dY T rfl rfl rfl rfl) ?_)))))))));refine vV (by exact aK T rfl rfl rfl rfl rfl (by omega) (by omega)) ?_;refine aL T rfl rfl rfl rfl rfl rfl (by decide) (iJ rfl qc rfl) ?_)|(refine rg 23 (vV (aE T rfl rfl rfl rfl) (mW rfl (aL T rfl rfl rfl rfl rfl rfl (by decide) rfl (aV ?_)))))|refine nZ ?_));all_goals first | (exfalso;omega) | exact ⟨.inl rfl,[3,4],_,rfl,rfl,rfl,⟨.inr (aD rfl rfl (ints_idf _)),.inr (aD rfl (ctn sn (sn+1)) (cQ _)),trivial⟩,by decide,jJ _⟩
  by_cases k5:sk=5
  · rw [if_neg k0,if_neg k1,if_neg k2,if_neg k3,if_pos k5];dsimp only
    (repeat' (first|refine wS ?_|refine wR ?_|refine wT ?_|refine wU ?_|(refine rg 4 (vV (dQ rfl rfl (by omega)) (aV ?_)))|(refine rg 10 (vV (dQ rfl rfl (by omega)) (aV ?_)))|(refine rg 16 (vV (dQ rfl rfl (by omega)) (aV ?_)))|(refine rg 18 (vV (dQ rfl rfl (by omega)) (aV ?_)))|(refine rg 21 (vV (gX rfl rfl (by omega)) (aV ?_)))|(refine bQ (id:=22) 153 [[],[0],[],[0,1,2],rN 4,[],[5],rN 7] (rM 143 8) [[],[],[143,144],[],[],rM 143 5,rM 143 5,[]] cF rfl (by decide +kernel) (dP T rfl (dO T rfl (dN rfl (dV rfl (by exact aK T rfl rfl rfl rfl rfl (by omega) (by omega)) ?_))));refine dV rfl (by exact aE T rfl rfl (bM rfl qp) rfl) ?_;refine dP T rfl (dO T rfl (dV rfl (eQ rfl rfl) (dE ?_)));refine aV ?_)|(refine rg 23 (vV (aE T rfl rfl rfl rfl) (mW rfl (aL T rfl rfl rfl rfl rfl rfl (by decide) rfl (aV ?_)))))|refine nZ ?_));all_goals first | (exfalso;omega) | exact ⟨.inl rfl,[3,4],_,rfl,rfl,rfl,⟨.inr (aD rfl rfl (ints_idf _)),.inr (aD rfl rfl (cQ _)),trivial⟩,by decide,jJ _⟩
  · rw [if_neg k0,if_neg k1,if_neg k2,if_neg k3,if_neg k5]
    (repeat' (first|refine wS ?_|refine wK ?_|refine wR ?_|refine wU ?_|(refine rg 4 (vV (dQ rfl rfl (by omega)) (aV ?_)))|(refine rg 10 (vV (dQ rfl rfl (by omega)) (aV ?_)))|(refine rg 16 (vV (dQ rfl rfl (by omega)) (aV ?_)))|(refine rg 18 (vV (dQ rfl rfl (by omega)) (aV ?_)))|(refine rg 21 (vV (dQ rfl rfl (by omega)) (aV ?_)))|(refine rg 23 (lW T rfl (mW rfl (aL T rfl rfl rfl rfl rfl rfl (by decide) rfl (aV ?_)))))|refine nZ ?_));all_goals first | (exfalso;omega) | exact ⟨.inl rfl,[3,4],_,rfl,rfl,rfl,⟨.inr (aD rfl rfl (ints_idf _)),.inr (aD rfl rfl (cQ _)),trivial⟩,by decide,jJ _⟩
end Go.Proofs.YtmmkhmilpeodnaaGreat
namespace Go.Ld
open Go.Ab Go.Proofs.YtmmkhmilpeodnaaGreat
theorem HO (c:Cx) (w:W) (i:Nat) (s:Ev):(iO c w i s).1.1=w.1∧(iO c w i s).1.2.2.length=w.2.2.length:=by
  unfold iO sC;dsimp only
  repeat' split
  all_goals exact ⟨rfl,by first | rfl | exact fM⟩
end Go.Ld
namespace Go.Proofs.YtmmkhmilpeodnaaGreat
open Go Go.Ab Go.Ld
end Go.Proofs.YtmmkhmilpeodnaaGreat
namespace Go.Ld
open Go.Ab Go.Proofs.YtmmkhmilpeodnaaGreat
theorem yD9:∀ i:Nat,i<3→([0,1,2]:List Nat)[i]? = some i:=by decide
theorem ZU {r:Int}{L:List AV}(h:AV.idfL L=true):AV.idfL [AV.pr [.i r] 0,.pr [.pr L 0] 0]=true:=by simp [AV.idfL,AV.idf,h]
theorem tJ {h:Hp}{i:Nat}{θ:Nat→Nat}{cs:List AV}(hk:h[i]? = some (.cells cs)) (hi:AV.idfL cs=true):h[i]? = some ((AB.cells cs).map θ):=by
  rw [hk];show _=some (AB.cells (AV.mapL θ cs));rw [oT θ cs hi]
theorem FO {h:Hp}(x:W):oN h (.agg (wA x)) (.agg (wA x)):=.agg (.cons (.row _ _ _) (.cons (.v _) (.cons (.row _ _ _) .nil)))
end Go.Ld
namespace Go.Proofs.YtmmkhmilpeodnaaGreat
open Go Go.Ab Go.Ld
attribute [local irreducible] VC AW bX aT
set_option maxHeartbeats 4000000
theorem UT {F:FuncId}{r:Int}{L:List AV}{q:W→Bool}(l:List W) (hl:l.length≤1000000) (hL:AV.idfL L=true) (hp:AV.plnL L=true) (hF:∀ x,x∈l→aT Tryz.prog F [.agg (wA x),.pr [.i r] 0,.pr [.pr L 0] 0] [] (.b (q x)) []) :
    aT Tryz.prog 104 [.sl 0 0 l.length 3,.clo (.func F) [] [.pr [.i r] 0,.ptr 1 0]] [.arr (fH l) 3,.cells [.ptr 2 0],.cells L] (.sl 0 0 (gL q l).length 3) [.arr (fH (gL q l)) 3,.cells [.ptr 2 0],.cells L]:=by
  have hll:(fH l).length=l.length:=fJ l;have hi:AV.idfL [AV.pr [.i r] 0,.pr [.pr L 0] 0]=true:=ZU hL;have hix:=ZM hl hi hF;have hvc:∀ {X:AB} {Y:Hp},mP (X :: .cells [.ptr 2 0] :: .cells L::Y) [AV.pr [.i r] 0,.ptr 1 0] [.pr [.i r] 0,.pr [.pr L 0] 0]:=fun {X Y}=>.cons (.pr _ _) (.cons (.ptr rfl (.cons (.ptr rfl (eO _ hp)) .nil)) .nil);have hvw:oN [.arr (fH l) 3,.cells [.ptr 2 0],.cells L] (.sl 0 0 l.length 3) (.rowE (fH l) 3):=vK rfl hll.symm (vT (fun _=>rfl) _);refine bK T Tryz.func104 rfl rfl rfl rfl ?_;rcases R0 q l 0 with ⟨h1,h2⟩ | ⟨j,hj,h1,h2,h3⟩
  · rw [h1] at hix;have hk:gL q l=l:=G9.2 fun x hx=>by rw [h2 x hx];rfl
    rw [hk]
    (repeat' (first|refine wS ?_|refine wR ?_|refine wT ?_|(refine rg 0 (aV ?_))|(refine rg 1 (dK rfl (vV (by exact eJ rfl rfl hix (.cons hvw (.cons (.clo .nil hvc) .nil)) rfl rfl) ?_));refine aV ?_)|(refine rg 2 (mW rfl (vV (eQ rfl rfl) ?_)))|(refine rg 3 (mW rfl (aV ?_)))|refine nZ ?_));all_goals first | (exfalso;omega) | exact ⟨.inl rfl,[0,1,2],_,rfl,rfl,rfl,⟨.inr (aD rfl rfl (bS _)),.inr rfl,.inr (tJ rfl hL),trivial⟩,by decide,yD9⟩
  · rw [h1,Nat.zero_add] at hix;have hk0:gL q (l.take (j+1))=l.take j:=by
      rw [xJ hj,if_pos h2];exact G9.2 fun x hx=>by rw [h3 x hx];rfl
    have hkl:(gL q (l.take (j+1))).length=j:=by rw [hk0];simp;omega
    have hka:gL q (l.take (j+1))++l.drop (gL q (l.take (j+1))).length=l:=by rw [hkl,hk0,bR]
    have hkf:gL q l=gL q (l.take l.length):=by rw [dI]
    rw [hkf]
    (repeat' (first|refine wS ?_|refine wB ?_|refine wK ?_|refine wU ?_|(refine rg 0 (aV ?_))|(refine rg 1 (dK rfl (vV (by exact eJ rfl rfl hix (.cons hvw (.cons (.clo .nil hvc) .nil)) rfl rfl) ?_));refine aV ?_)|(refine rg 2 (mW rfl (vV (eQ rfl rfl) ?_)))|(refine iA 4 rfl rfl rfl (by omega) (by omega) ?_)|refine nZ ?_));all_goals try (exfalso;omega)
    refine cO (X:={m:Nat // m≤l.length}) (fun m=>[(0,.sl 0 0 l.length 3),(1,.clo (.func F) [] [.pr [.i r] 0,.ptr 1 0]),(5,.i (gL q (l.take m.1)).length),(6,.i m.1)]) (fun m=>[.arr (fH (gL q (l.take m.1)++l.drop (gL q (l.take m.1)).length)) 3,.cells [.ptr 2 0],.cells L]) (fun m=>l.length-m.1) ⟨j+1,hj⟩ ⟨[0,1,2],rfl,⟨rfl,rfl,by dsimp only;rw [hkl];rfl,rfl,trivial⟩,⟨.inr (aD rfl (by dsimp only;rw [hka]) (bS _)),.inr rfl,.inr (tJ rfl hL),trivial⟩,by decide,yD9⟩ ?_
    rintro ⟨m,hm⟩;dsimp only;have hle:=KY q l m;by_cases hlt:m<l.length
    · have hs:=xJ (q:=q) hlt;have hget:=PB (G:=gL q (l.take m)) (l:=l) (m:=m) (i:=0+(m:Int).toNat) hle hlt (by omega)
      have hg2:=PB (G:=gL q (l.take m)) (l:=l) (m:=(gL q (l.take m)).length) (i:=0+(((gL q (l.take m)).length:Nat):Int).toNat) (bA _) (by omega) (by omega)
      rw [oW hlt] at hget;have hset:=zU7 (G:=gL q (l.take m)) (l:=l) (x:=l[m]) (j:=(((gL q (l.take m)).length:Nat):Int)) (by omega) rfl
      have hc:=hF l[m] (aH hlt);have hal:=UA (G:=gL q (l.take m)) (l:=l) (by omega)
      generalize l[m]=x at *;generalize l.getD (gL q (l.take m)).length w0=y at *;generalize hG:gL q (l.take m)=G at *;generalize hA:fH (G++l.drop G.length)=A at *;cases e:q x
      · rw [e] at hc hs;rw [if_neg (by simp)] at hs
        (repeat' (first|refine wS ?_|refine wB ?_|refine wK ?_|refine wT ?_|(refine wC rfl ?_ ?_<;>(intro hb;(try simp only [nm] at hb);try (exfalso;omega)))|(refine rg 5 (dK rfl (qW T rfl (vV (aI rfl rfl) ?_))))|(refine rg 7 (dK rfl (vV (by exact aK T rfl rfl rfl rfl rfl (by omega) (by omega)) ?_));refine vV (by exact aE T rfl rfl (bM rfl hget) rfl) ?_;refine bN (bI T rfl) rfl (aL T rfl rfl rfl rfl rfl rfl (by decide) rfl ?_))|(refine rg 8 (mW rfl (vV (aE T rfl rfl rfl rfl) (vV (by exact eJ rfl rfl hc (.cons (FO x) hvc) rfl rfl) ?_)));refine vV (cY rfl) ?_)|(refine rg 9 (dK rfl (vV (aE T rfl rfl rfl rfl) (vV (by exact aK T rfl rfl rfl rfl rfl (by omega) (by omega)) ?_)));refine aL T rfl rfl rfl rfl rfl rfl (by decide) (iJ rfl hg2 rfl) ?_)|(refine iA 10 rfl rfl rfl (by omega) (by omega) ?_)|(refine iA 6 rfl rfl rfl (by omega) (by omega) ?_)|refine nZ ?_));all_goals try (exfalso;omega)
        all_goals exact ⟨⟨m+1,hlt⟩,by dsimp only;omega,[0,1,2],rfl,⟨rfl,rfl,by rw [hs];simp only [aJ];rfl,rfl,trivial⟩,⟨.inr (aD rfl (by rw [hs];exact hset) (bS _)),.inr rfl,.inr (tJ rfl hL),trivial⟩,by decide,yD9⟩
      · rw [e] at hc hs;rw [if_pos rfl] at hs
        (repeat' (first|refine wS ?_|refine wB ?_|refine wK ?_|refine wU ?_|(refine wC rfl ?_ ?_<;>(intro hb;(try simp only [nm] at hb);try (exfalso;omega)))|(refine rg 5 (dK rfl (qW T rfl (vV (aI rfl rfl) ?_))))|(refine rg 7 (dK rfl (vV (by exact aK T rfl rfl rfl rfl rfl (by omega) (by omega)) ?_));refine vV (by exact aE T rfl rfl (bM rfl hget) rfl) ?_;refine bN (bI T rfl) rfl (aL T rfl rfl rfl rfl rfl rfl (by decide) rfl ?_))|(refine rg 8 (mW rfl (vV (aE T rfl rfl rfl rfl) (vV (by exact eJ rfl rfl hc (.cons (FO x) hvc) rfl rfl) ?_)));refine vV (cY rfl) ?_)|(refine iA 6 rfl rfl rfl (by omega) (by omega) ?_)|refine nZ ?_));all_goals try (exfalso;omega)
        all_goals exact ⟨⟨m+1,hlt⟩,by dsimp only;omega,[0,1,2],rfl,⟨rfl,rfl,by rw [hs];rfl,rfl,trivial⟩,⟨.inr (aD rfl (by rw [hs];exact hA.symm) (bS _)),.inr rfl,.inr (tJ rfl hL),trivial⟩,by decide,yD9⟩
    · obtain rfl:m=l.length:=by omega
      have hal:=UA (G:=gL q (l.take l.length)) (l:=l) (by omega)
      have htk:=WF (G:=gL q (l.take l.length)) (l:=l);generalize gL q (l.take l.length)=G at *
      (repeat' (first|refine wS ?_|refine wR ?_|refine wE ?_|(refine wC rfl ?_ ?_<;>(intro hb;(try simp only [nm] at hb);try (exfalso;omega)))|(refine rg 5 (dK rfl (qW T rfl (vV (aI rfl rfl) ?_))))|(refine rg 11 (dK rfl (vV (by exact lE T rfl rfl rfl rfl rfl rfl (by omega) (by omega) (by omega)) ?_));refine O5 T rfl rfl rfl ⟨rfl,rfl,by decide⟩ rfl (by rw [hal];omega) ?_)|(refine rg 12 (dK rfl (vV (by exact lE T rfl rfl rfl rfl rfl rfl (by omega) (by omega) (by omega)) ?_));refine aV ?_)|refine nZ ?_));all_goals try (exfalso;omega)
      all_goals exact ⟨.inl rfl,[0,1,2],_,rfl,(by show AV.sl 0 0 ((G.length:Int)-0).toNat 3=AV.sl 0 0 G.length 3;rw [show ((G.length:Int)-0).toNat=G.length by omega]),rfl,⟨.inr (aD rfl htk (bS _)),.inr rfl,.inr (tJ rfl hL),trivial⟩,by decide,yD9⟩
end Go.Proofs.YtmmkhmilpeodnaaGreat
namespace Go.Ab
open Go
theorem PE {P:Program}{f:FuncId}{args:List AV}{hin hout:Hp}{es:List (List AV)}{len sz k:Nat}(hk:k=hout.length) (hn:len=es.length) (hi:AV.idfL es.flatten=true) (h:aT P f args hin (.sl k 0 len sz) (hout++[.arr es sz])):aT P f args hin (.rowE es sz) (hout++[.gone]):=by
  refine ⟨h.1,fun ρ S w vs hs ha=>(h.2 ρ S w vs hs ha).mono ?_⟩;rintro e w' ⟨y,ρ',S',rfl,h2,h3⟩;rw [hn] at h3;have hb:(hout++[AB.arr es sz])[k]? = some (.arr es sz):=by subst hk;simp
  have e:(hout++[AB.arr es sz]).set k .gone=hout++[.gone]:=by subst hk;simp
  exact ⟨y,_,_,rfl,e▸h2.freeze (k:=k) hb,L6 hi (h2.blk k _ hb) h3⟩
theorem qQ (L:List Nat):∀ i:Nat,i<1→(0::L)[i]? = some i:=fun i hi=>by cases i with | zero=>rfl | succ i=>omega
end Go.Ab
namespace Go.Proofs.YtmmkhmilpeodnaaGreat
open Go Go.Ab Go.Ld
attribute [local irreducible] VC AW bX aT
set_option maxHeartbeats 4000000
theorem zH7 (c:Cx) (gs all:List G){n:Nat}(ok:nY n all) (up:MO all) (hne:∀ g,g∈all→g.2≠[]) :
    aT Tryz.prog 50 [.ptr 0 0,.rowE (kD all) 2] [.cells (gZ c gs)] (.rowE (kD (uW c all)) 2) [.cells (gZ c gs),.gone]:=by
  have h12:all.length≤12:=bP ok.len ok.ln;have hal:(kD all).length=all.length:=kB _;have hlb:∀ g,g∈all→0≤gM g∧gM g≤4000000:=fun g hg=>EM (ok.ok g hg) (hne g hg);have hsb:=FR hlb;refine PE (k:=1) (hout:=[.cells (gZ c gs)]) rfl (by rw [kB]:(uW c all).length=(kD (uW c all)).length) (fO (eP _)) ?_
  refine bK T Tryz.func50 rfl rfl rfl rfl ?_
  repeat' (first|refine wS ?_|(refine rg 0 (bN (cC rfl rfl) rfl (aV ?_)))|(refine rg 1 (aV ?_))|refine nZ ?_)
  (repeat' (first|refine wB ?_|(refine rg 2 (mW rfl (qW T rfl (mV ?_))))|refine nZ ?_));refine cO (X:={k:Nat // k≤all.length}) (fun k=>[(1,.rowE (kD all) 2),(2,.ptr 1 0),(5,.i (kA (all.take k.1))),(16,.rowE (kD all) 2),(17,.i (kD all).length),(18,.i k.1)]) (fun _=>[.cells (gZ c gs),.cells [.ptr 0 0]]) (fun k=>all.length-k.1) ⟨0,bW _⟩ ⟨[0,1],rfl,(by repeat first|exact trivial|refine ⟨rfl,?_⟩),⟨.inr rfl,.inr rfl,trivial⟩,by decide,qQ _⟩ ?_
  rintro ⟨k,hk⟩;dsimp only;by_cases hlt:k<all.length
  · have hg:=Y4 hlt;have hs:=WK hlt;have hb:=FR (l:=all.take k) fun g hg=>hlb g (fC hg);have hkl:(all.take k).length≤12:=by rw [bL];omega
    have hl1:=hlb _ (aH hlt);have hc:=RC all[k] (hne _ (aH hlt)) (by have:=ok.ws _ (aH hlt);omega)
    generalize all[k]=g at *;generalize kA (all.take k)=S at *;generalize gM g=v at *
    (repeat' (first|refine wS ?_|refine wB ?_|refine wK ?_|(refine wC rfl ?_ ?_<;>(intro hb;(try simp only [nm] at hb);try (exfalso;omega)))|(refine rg 3 (vV (aI rfl rfl) ?_))|(refine rg 4 (vV (ix T rfl (by omega) (qE _) hg) (lW T rfl (bN (bI T rfl) rfl (aL T rfl rfl rfl rfl rfl rfl (by decide) rfl ?_)))))|(refine rg 5 (mW rfl (lW T rfl (vV (kC (hc)) (vV (bY rfl rfl (by omega) (by omega)) (aV ?_))))))|(refine rg 6 (vV (bY rfl rfl (by omega) (by omega)) (mV ?_)))|refine nZ ?_));all_goals first | (exfalso;omega) | exact ⟨⟨k+1,hlt⟩,by dsimp only;omega,[0,1],rfl,⟨rfl,rfl,by dsimp only;rw [hs];rfl,rfl,rfl,rfl,trivial⟩,⟨.inr rfl,.inr rfl,trivial⟩,by decide,qQ _⟩
  obtain rfl:k=all.length:=by omega
  rw [dI]
  (repeat' (first|refine wS ?_|refine wB ?_|refine wE ?_|(refine wC rfl ?_ ?_<;>(intro hb;(try simp only [nm] at hb);try (exfalso;omega)))|(refine rg 3 (vV (aI rfl rfl) ?_))|(refine rg 7 (vV (eL rfl) (sF 8 2 rfl (by decide) ?_)))|(refine rg 8 (mW rfl (qW T rfl (mV ?_))))|refine nZ ?_));all_goals try (exfalso;omega)
  refine cO (X:={k:Nat // k≤all.length}) (fun k=>[(2,.ptr 1 0),(5,.i (kA all)),(8,.sl 2 0 k.1 2),(27,.rowE (kD all) 2),(28,.i (kD all).length),(29,.i k.1)]) (fun k=>[.cells (gZ c gs),.cells [.ptr 0 0],.arr (kD ((paid c all).take k.1)) 2]) (fun k=>all.length-k.1) ⟨0,bW _⟩ ⟨[0,1,2],rfl,(by repeat first|exact trivial|refine ⟨rfl,?_⟩),⟨.inr rfl,.inr rfl,.inr rfl,trivial⟩,by decide,qQ _⟩ ?_
  clear hk hlt;rintro ⟨k,hk⟩;dsimp only;have hpl:=YL c all;by_cases hlt:k<all.length
  · have hg:=Y4 hlt;have hp:=TP (c:=c) hlt;have hl1:=hlb _ (aH hlt);have hgo:=ok.ok _ (aH hlt);have hgw:=ok.ws _ (aH hlt);have hc:=RC all[k] (hne _ (aH hlt)) (by omega)
    have htl:((paid c all).take k).length=k:=by rw [bL];omega
    generalize (paid c all).take k=Q at *;generalize all[k]=g at *;obtain ⟨bs,ws⟩:=g;dsimp only at hgw hp;generalize hv:gM (bs,ws)=v at *;generalize kA all=S at *;have hcl:=LY ws (by omega)
    have hd:=UT (r:=S-v) (L:=gZ c gs) (q:=fun w=>decide (w.2.1+(S-v) > c.m)) ws (by omega) rfl rfl (fun x hx=>zH9 c gs x (S-v) ⟨(hgo.ws x hx).m0,(hgo.ws x hx).m1⟩ (by omega))
    generalize gL (fun w=>decide (w.2.1+(S-v) > c.m)) ws=ws' at *;have hQl:(kD Q).length=k:=by rw [kB,htl]
    have hQ:kD (Q++[(bs,ws')])=kD Q++[[.rowE (ints bs) 1,.rowE (fH ws') 3]]:=by rw [kD,dW];rfl
    rw [← hp] at hQ;generalize kD Q=Q' at *
    (repeat' (first|refine wS ?_|refine wB ?_|refine wK ?_|(refine wC rfl ?_ ?_<;>(intro hb;(try simp only [nm] at hb);try (exfalso;omega)))|(refine rg 9 (vV (aI rfl rfl) ?_))|(refine rg 10 (vV (ix T rfl (by omega) (qE _) hg) (lW T rfl (bN (bI T rfl) rfl (aL T rfl rfl rfl rfl rfl rfl (by decide) rfl ?_)))))|(refine rg 11 (mW rfl (lW T rfl (vV (kC (hc)) (vV (cX rfl rfl (by omega) (by omega)) (bN (bI T rfl) rfl (aL T rfl rfl rfl rfl rfl rfl (by decide) rfl ?_)))))))|refine nZ ?_));all_goals try (exfalso;omega)
    refine dU 11 rfl rfl rfl ?_
    repeat' (first|(refine rg 12 (gB T rfl (bN (by exact fX rfl rfl hcl (.inr ⟨rfl,rfl,by simp⟩)) rfl ?_));refine vV (by exact jK rfl rfl) ?_;refine fP [5,1,0] rfl rfl (hd) rfl rfl (by decide) ⟨.inr (aD rfl (cJ _ (bS _)) (bS _)),.inr rfl,.inr rfl,trivial⟩ (by simp) rfl ?_;refine mE (es:=fH ws') 41 rfl (congrArg (fun x=>some (AB.arr x 3)) (cJ _ (bS _))) (fJ _).symm (fO (bS _)) ?_;refine fW T rfl (aL T rfl rfl rfl rfl rfl rfl (by decide) rfl ?_))|(refine rg 13 (mW rfl (lW T rfl (bN (by exact bD T rfl rfl (by decide) (by decide) rfl rfl rfl) rfl ?_)));refine fY T rfl rfl rfl rfl rfl rfl (by omega) (kP.whole rfl rfl) rfl (by simp;omega) (by simp;omega) rfl ?_;refine aV ?_)|(refine rg 14 (vV (bY rfl rfl (by omega) (by omega)) (mV ?_)))|refine nZ ?_)
    show ∃ x',_;exact ⟨⟨k+1,hlt⟩,by dsimp only;omega,⟨[0,1,7],rfl,(by repeat first|exact trivial|refine ⟨rfl,?_⟩),⟨.inr rfl,.inr rfl,.inr (aD rfl (by dsimp only;rw [hQ];exact mI hQl.symm) (eP _)),trivial⟩,by decide,qQ _⟩⟩
  obtain rfl:k=all.length:=by omega
  rw [← hpl,dI,hpl];have pok:=ok.paid c;have pst:=pD.start pok (PO up (c:=c));rw [← hpl];generalize hL:paid c all=L at *;rw [show uW c all=qP L by rw [← hL];rfl]
  (repeat' (first|refine wS ?_|refine wB ?_|refine wE ?_|(refine wC rfl ?_ ?_<;>(intro hb;(try simp only [nm] at hb);try (exfalso;omega)))|(refine rg 9 (vV (aI rfl rfl) ?_))|(refine rg 15 (aV ?_))|refine nZ ?_));all_goals try (exfalso;omega)
  refine cO (X:={q:List G × Nat // pD n L q.1 q.2}) (fun q=>[(8,.sl 1 0 q.1.1.length 2),(12,.i q.1.2)]) (fun q=>[.cells (gZ c gs),.arr (kD q.1.1) 2]) (fun q=>100*zR8 q.1.1+(q.1.1.length-q.1.2)) ⟨(L,0),pst⟩ ⟨[0,2],rfl,(by repeat first|exact trivial|refine ⟨rfl,?_⟩),⟨.inr rfl,.inr (aD rfl rfl (eP _)),trivial⟩,by decide,qQ _⟩ ?_
  clear hsb hlb hne h12 hal pok up ok;rintro ⟨⟨o,i⟩,hq⟩;dsimp only at hq ⊢;have hol:(kD o).length=o.length:=kB _;have ho12:o.length≤12:=bP hq.ok.len hq.ok.ln;have hio:=hq.hi;by_cases hlt:i<o.length
  · have hgi:o[i]? = some o[i]:=aA hlt;have hgm:=aH hlt;generalize o[i]=g at *;have hgo:=hq.ok.ok g hgm;have hgw:=hq.ok.ws g hgm;have hsz:=hgo.sz hgw;have q1:=A0 (L:=o) (j:=(i:Int)) (i:=i) hgi rfl;have hcc:=UX g hsz;cases hcr:iN g with
    | none=>
      have hk:=hq.keep hgi hcr;rw [show B3 g = -1 by unfold B3;rw [hcr]] at hcc
      (repeat' (first|refine wS ?_|refine wB ?_|refine wK ?_|refine wU ?_|(refine wC rfl ?_ ?_<;>(intro hb;(try simp only [nm] at hb);try (exfalso;omega)))|(refine rg 16 (dK rfl (qW T rfl (vV (aI rfl rfl) ?_))))|(refine rg 18 (dK rfl (vV (by exact aK T rfl rfl rfl rfl rfl (by omega) (by omega)) ?_));refine vV (by exact aE T rfl rfl (bM rfl q1) rfl) ?_;refine vV (kC (hcc)) (aV ?_))|(refine rg 19 (mW rfl (vV (gH rfl rfl) ?_)))|(refine iA 17 rfl rfl rfl (by omega) (by omega) ?_)|refine nZ ?_));all_goals try (exfalso;omega)
      exact ⟨⟨(o,i+1),hk⟩,by dsimp only;omega,⟨[0,1],rfl,(by repeat first|exact trivial|refine ⟨rfl,?_⟩),⟨.inr rfl,.inr (aD rfl rfl (eP _)),trivial⟩,by decide,qQ _⟩⟩
    | some k=>
      have hk:=hq.next hgi hcr
      obtain ⟨f1,f2,f3,_⟩:=kG hcr;have hwg:=YV hgi hcr;have hno:=QW hq.ok hgi hcr;have hsp:=zI4 g hsz f3 f1 f2 (by omega)
      have hll:(o.set i (jY g k)++[nL g k]).length=o.length+1:=by simp
      have hso:=zI6 (o.set i (jY g k)++[nL g k]) hno.dist (by have:=hno.len;have:=hno.ln;omega) hno.hd
      have hw2:zR8 (EF o i k g)=zR8 (o.set i (jY g k)++[nL g k]):=VT (dS _ _);have hl2:(EF o i k g).length=o.length+1:=by rw [EF,(dS _ _).length_eq,hll]
      rw [show B3 g=(k:Int) by unfold B3;rw [hcr]] at hcc
      have t1:=L1 (L:=o) (j:=(i:Int)) (i:=i) (x:=jY g k) rfl;have e1:kD (o.set i (jY g k)++[nL g k])=(kD o).set (0+(i:Int).toNat) (gA (jY g k))++[gA (nL g k)]:=by rw [t1,kD,dW];rfl
      have e2:((kD o).set (0+(i:Int).toNat) (gA (jY g k))).length=o.length:=by rw [fM,hol]
      change aT _ _ _ _ _ [.arr (kD (EF o i k g)) 2] at hso;rw [hll] at hso;generalize EF o i k g=o' at *;generalize hN:o.set i (jY g k)++[nL g k]=N at *;generalize jY g k=r at *;generalize nL g k=u at *;obtain ⟨rb,rw_⟩:=r;obtain ⟨ub,uw⟩:=u
      (repeat' (first|refine wS ?_|refine wB ?_|refine wK ?_|refine wT ?_|(refine wC rfl ?_ ?_<;>(intro hb;(try simp only [nm] at hb);try (exfalso;omega)))|(refine rg 16 (dK rfl (qW T rfl (vV (aI rfl rfl) ?_))))|(refine rg 18 (dK rfl (vV (by exact aK T rfl rfl rfl rfl rfl (by omega) (by omega)) ?_));refine vV (by exact aE T rfl rfl (bM rfl q1) rfl) ?_;refine vV (kC (hcc)) (aV ?_))|(refine rg 19 (mW rfl (vV (gH rfl rfl) ?_)))|(refine rg 20 (dK rfl (vV (by exact aK T rfl rfl rfl rfl rfl (by omega) (by omega)) ?_));refine vV (by exact aE T rfl rfl (bM rfl q1) rfl) ?_;refine mW rfl (vV (kC (hsp)) (mW rfl (xW rfl (xW rfl (bN (bI T rfl) rfl (bN (bI T rfl) rfl (aL T rfl rfl rfl rfl rfl rfl (by decide) rfl (aL T rfl rfl rfl rfl rfl rfl (by decide) rfl ?_)))))))))|(refine rg 21 (dK rfl (vV (aE T rfl rfl rfl rfl) (vV (by exact aK T rfl rfl rfl rfl rfl (by omega) (by omega)) ?_)));refine aL T rfl rfl rfl rfl rfl rfl (by decide) (iJ rfl q1 rfl) ?_)|(refine rg 22 (mW rfl (vV (aE T rfl rfl rfl rfl) (bN (by exact bD T rfl rfl (by decide) (by decide) rfl rfl rfl) rfl ?_)));refine fY T rfl rfl rfl rfl rfl rfl (by simp) (kP.whole rfl rfl) rfl (by simp;omega) (by simp;omega) rfl ?_;refine aV ?_)|refine nZ ?_));all_goals try (exfalso;omega)
      refine eI [(8,.sl 1 0 (o.length+1) 2),(12,.i i)] [.cells (gZ c gs),.arr (kD N) 2] ⟨[0,5],rfl,(by repeat first|exact trivial|refine ⟨rfl,?_⟩),⟨.inr rfl,.inr (aD rfl (by rw [e1];exact mI e2.symm) (eP _)),trivial⟩,by decide,qQ _⟩ ?_
      (repeat' (first|(refine rg 23 (mW rfl (fP [1] rfl rfl (hso) rfl rfl (by decide) ⟨.inr (aD rfl rfl (eP _)),trivial⟩ (by simp) rfl ?_)))|(refine rg 24 (aV ?_))|(refine iA 17 rfl rfl rfl (by omega) (by omega) ?_)|refine nZ ?_));all_goals try (exfalso;omega)
      exact ⟨⟨(o',0),hk⟩,by dsimp only;omega,⟨[0,1],rfl,⟨by dsimp only;rw [hl2];rfl,rfl,trivial⟩,⟨.inr rfl,.inr (aD rfl (cJ _ (eP _)) (eP _)),trivial⟩,by decide,qQ _⟩⟩
  · have hfin:=hq.fin (by omega)
    rw [hfin]
    (repeat' (first|refine wS ?_|refine wR ?_|refine wE ?_|(refine wC rfl ?_ ?_<;>(intro hb;(try simp only [nm] at hb);try (exfalso;omega)))|(refine rg 16 (dK rfl (qW T rfl (vV (aI rfl rfl) ?_))))|(refine rg 25 (mW rfl (aV ?_)))|refine nZ ?_));all_goals first | (exfalso;omega) | exact ⟨.inl rfl,[0,1],_,rfl,rfl,rfl,⟨.inr rfl,.inr (aD rfl rfl (eP _)),trivial⟩,by decide,qQ _⟩
end Go.Proofs.YtmmkhmilpeodnaaGreat
namespace Go.Ld
open Go.Ab Go.Proofs.YtmmkhmilpeodnaaGreat
structure mG (c:Cx) (M:Int) (gs:List G):Prop where
  out:nY c.bs.length gs
  up:MO gs
  ne:∀ g,g∈gs→g.2≠[]
  ml:∀ g,g∈gs→∀ w,w∈g.2→w.2.1≤M
  cov:(gs.flatMap (·.1)).Perm (nats (List.range c.bs.length))
  idn:(gs.flatMap fun g=>(gS g).1).Perm (nats (List.range c.bs.length))
  wl:∀ g,g∈gs→g.2.length≤1000
structure kV (c:Cx) (gs:List G):Prop where
  mid:mG c c.m gs
  cer:∀ g,g∈gs→iN g=none
  asc:∀ g,g∈gs→g.2.Pairwise fun a b=>oS a b<0
theorem uO (n:Nat):(nats (List.range n)).Nodup:=List.Pairwise.map (R:=fun a b=>a≠b) _ (fun a b h e=>h (Int.ofNat.inj e)) CQ
theorem jE {n:Nat}{b:Int}:b∈nats (List.range n)↔0≤b∧b<n:=by
  constructor
  · intro h;obtain ⟨i,hi,rfl⟩:=bE.1 h;have:=dD.1 hi;exact ⟨by omega,by omega⟩
  · intro h;exact bE.2 ⟨b.toNat,dD.2 (by omega),by omega⟩
theorem mG.find {c:Cx}{M:Int}{gs:List G}(h:mG c M gs){b:Int}(hb:0≤b∧b<c.bs.length):∃ g,g∈gs∧b∈g.1:=by
  have:=h.cov.mem_iff.2 (jE.2 hb);obtain ⟨g,hg,hbg⟩:=fI.1 this;exact ⟨g,hg,hbg⟩
theorem EA {α:Type}{A B l:List Int}{x y:List α}{d:α}(hA:A.Nodup) (hB:B.Nodup) (dj:∀ b,b∈A→b∉B) (hl:l.Perm (A++B)) (hx:x.length=A.length) (hy:y.length=B.length) :
    (l.map fun k=>if k∈A then x.getD (A.idxOf k) d else y.getD (B.idxOf k) d).Perm (x++y):=by
  refine (hl.map _).trans ?_;rw [dW];have e1:A.map (fun k=>if k∈A then x.getD (A.idxOf k) d else y.getD (B.idxOf k) d)=x:=by
    refine gY (by simp [hx]) fun i h1 h2=>?_
    rw [iV,if_pos (aH _),hA.idxOf_getElem,aC,aA h2];rfl
  have e2:B.map (fun k=>if k∈A then x.getD (A.idxOf k) d else y.getD (B.idxOf k) d)=y:=by
    refine gY (by simp [hy]) fun i h1 h2=>?_
    have hb:B[i]'(by simpa using h1)∈B:=aH _
    rw [iV,if_neg (fun q=>dj _ q hb),hB.idxOf_getElem,aC,aA h2];rfl
  rw [e1,e2]
structure vI (n:Nat) (x y:G):Prop where
  gx:wY n x
  gy:wY n y
  nx:x.2≠[]
  ny:y.2≠[]
  dj:∀ b,b∈x.1→b∉y.1
  di:∀ b,b∈(gS x).1→b∉(gS y).1
  ln:x.1.length+y.1.length≤6
theorem D6 {x y:G}{w:W}(h:w∈(mU x y).2):∃ u v,u∈x.2∧v∈y.2∧w=F9 x y u v (mU x y).1:=by
  obtain ⟨u,hu,h⟩:=fI.1 h;obtain ⟨v,hv,h⟩:=bE.1 h;exact ⟨u,v,hu,hv,h.symm⟩
theorem mZ (x y:G):(mU x y).1.Perm (x.1++y.1):=dS _ _
theorem vI.pair {n:Nat}{x y:G}(h:vI n x y){u v:W}(hu:u∈x.2) (hv:v∈y.2):(F9 x y u v (mU x y).1).1.Perm (u.1++v.1)∧(F9 x y u v (mU x y).1).2.2.Perm (u.2.2++v.2.2):=
  ⟨EA h.gx.nd h.gy.nd h.dj (mZ x y) (h.gx.ws u hu).pl (h.gy.ws v hv).pl,EA h.gx.nd h.gy.nd h.dj (mZ x y) (h.gx.ws u hu).cl (h.gy.ws v hv).cl⟩
theorem vI.same {n:Nat}{x y:G}(h:vI n x y){w:W}(hw:w∈(mU x y).2):w.1.Perm ((gS x).1++(gS y).1):=by
  obtain ⟨u,v,hu,hv,rfl⟩:=D6 hw;exact (h.pair hu hv).1.trans ((h.gx.same _ _ hu (gR h.nx)).append (h.gy.same _ _ hv (gR h.ny)))
theorem vI.ok {n:Nat}{x y:G}(h:vI n x y){M:Int}(h1:∀ w,w∈x.2→w.2.1≤M) (h2:∀ w,w∈y.2→w.2.1≤M) (hM:M≤2000000):wY n (mU x y) where
  ne e:=by
    have:=(mZ x y).length_eq;rw [e] at this;have:=eF.2 h.gx.ne;simp at *;omega
  up:=by
    have h1:=lX qH (x.1++y.1);have hnd:(mU x y).1.Nodup:=(mZ x y).nodup_iff.2 (cP.2 ⟨h.gx.nd,h.gy.nd,fun a ha b hb e=>h.dj a ha (e▸hb)⟩);refine (h1.and hnd).imp fun {a b} h=>?_
    have:=h.1;have:=h.2;unfold cI at *;by_cases e:a<b
    · exact e
    · rw [if_neg e] at *;by_cases e':b<a
      · rw [if_pos e'] at *;omega
      · omega
  rg b hb:=by
    rcases bG.1 ((mZ x y).mem_iff.1 hb) with hb | hb
    · exact h.gx.rg b hb
    · exact h.gy.rg b hb
  ln:=by rw [(mZ x y).length_eq,aJ];exact h.ln
  ws w hw:=by
    have hs:=h.same hw;obtain ⟨u,v,hu,hv,rfl⟩:=D6 hw;obtain ⟨p1,p2⟩:=h.pair hu hv;have ou:=h.gx.ws u hu;have ov:=h.gy.ws v hv;refine ⟨aF _,aF _,fun b hb=>?_,hs.nodup_iff.2 (cP.2 ⟨(h.gx.ws _ (gR h.nx)).nd,(h.gy.ws _ (gR h.ny)).nd,fun a ha b hb e=>h.di a ha (e▸hb)⟩),?_,?_,fun r hr=>?_⟩
    · rcases bG.1 (p1.mem_iff.1 hb) with hb | hb
      · exact ou.pr b hb
      · exact ov.pr b hb
    · have:=ou.m0;have:=ov.m0;show 0≤u.2.1+v.2.1;omega
    · have:=h1 u hu;have:=h2 v hv;show u.2.1+v.2.1≤4000000;omega
    · rcases bG.1 (p2.mem_iff.1 hr) with hr | hr
      · exact ou.sp r hr
      · exact ov.sp r hr
  same w v hw hv:=(h.same hw).trans (h.same hv).symm
theorem ZL {x y:G}(hx:x.2≠[]) (hy:y.2≠[]):(mU x y).2≠[]:=by
  show pH x y _≠[];unfold pH;cases hu:x.2 with
  | nil=>exact absurd hu hx
  | cons u l=>
    cases hv:y.2 with
    | nil=>exact absurd hv hy
    | cons v m=>simp
theorem EP (x y:G):(mU x y).2.length=x.2.length*y.2.length:=by
  show (pH x y _).length=_;unfold pH;generalize eK cI (x.1++y.1)=l
  induction x.2 with
  | nil=>simp
  | cons u m ih=>rw [bJ,aJ,ih,aF,List.length_cons,Nat.succ_mul,sI]
theorem mK {α:Type}{l:List α}{i k:Nat}{u v:α}(J:α) (hik:i<k) (hi:l[i]? = some u) (hk:l[k]? = some v):∃ P Q R,l=P++u::(Q++v::R)∧(l.set i J).eraseIdx k=P++J::(Q++R):=by
  obtain ⟨hl,e2⟩:=aB.1 hk;have hil:i<l.length:=by omega
  have e1:l[i]=u:=(aB.1 hi).2;have d1:l.drop i=u::l.drop (i+1):=by rw [bB hil,e1]
  have d2:l.drop k=v::l.drop (k+1):=by rw [bB hl,e2]
  have d3:l.drop (i+1)=(l.drop (i+1)).take (k-(i+1))++v::l.drop (k+1):=by
    have:l.drop (i+1)=(l.drop (i+1)).take (k-(i+1))++(l.drop (i+1)).drop (k-(i+1)):=(bR _ _).symm;rw [MW,show i+1+(k-(i+1))=k by omega,d2] at this
    exact this
  have e:l=l.take i++u::((l.drop (i+1)).take (k-(i+1))++v::l.drop (k+1)):=by
    rw [← d3,← d1,bR]
  refine ⟨_,_,_,e,?_⟩;have ht:(l.take i).length=i:=by rw [bL];omega
  have hq:((l.drop (i+1)).take (k-(i+1))).length=k-(i+1):=by rw [bL,eD];omega
  generalize l.take i=P at *;generalize (l.drop (i+1)).take (k-(i+1))=Q at *;generalize l.drop (k+1)=R at *;clear d1 d2 d3;subst e;rw [lJ _ _ (by omega),show i-P.length=0 by omega,List.set_cons_zero,List.eraseIdx_append_of_length_le (by omega),show k-P.length=(k-(i+1))+1 by omega,List.eraseIdx_cons_succ,List.eraseIdx_append_of_length_le (by omega),hq,fN,List.eraseIdx_cons_zero]
theorem zQ7 (l:List Int) (n:Int):VD l n=CE l n:=by
  by_cases h:∀ i,i<l.length→zX l n i
  · rw [M7 h];unfold VD;exact bF.2 fun i hi=>decide_eq_true (h i (dD.1 hi))
  · obtain ⟨i,hi⟩:=Classical.not_forall.1 h;obtain ⟨hi,ho⟩:=Classical.not_forall.1 hi;rw [Z3 hi ho];unfold VD;unfold zX at ho;exact qS.2 ⟨i,dD.2 hi,fun q=>ho (of_decide_eq_true q)⟩
theorem zP7 {p q:Prop} [Decidable p] [Decidable q]:decide (p∧q)=(decide p&&decide q):=by simp
theorem kQ (n k a b m:Int) (ids:List Int):gO n ⟨k,a,b,m,ids⟩=(fF a 0 (n-1)&&decide (k=0∨ids.length=0)&&decide (k=4∨b=0)&&(if k=0 then decide (m=0)&&CE ids n else if k=1∨k=2∨k=3 then fF m 0 1099511627776 else if k=4 then decide (m=0)&&fF b (a+1) (n-1) else if k=5 then fF m 0 (n-1) else false)):=by
  unfold gO fF;simp only [zP7,zQ7]
end Go.Ld
namespace Go.Proofs.YtmmkhmilpeodnaaGreat
open Go Go.Ab Go.Ld
attribute [local irreducible] VC AW bX aT
set_option maxHeartbeats 4000000
theorem XE (n k a b m:Int) (ids:List Int) (hl:ids.length≤9223372036854775807) (hn:0≤n∧n≤1000) :
    aT Tryz.prog 28 [.i n,WR k a b m ids] [] (.b (gO n ⟨k,a,b,m,ids⟩)) []:=by
  have hil:(ints ids).length=ids.length:=by simp
  have ca:=lH a 0 (n-1);have cs:=S4 ids n hl hn;cases hA:fF a 0 (n-1)
  · rw [hA] at ca;have e:gO n ⟨k,a,b,m,ids⟩=(false):=by rw [kQ];first | (rw [hA];rfl) | (rw [hAb];rcases h1 with h | h;(rw [decide_eq_false (by omega:¬ (k=0∨ids.length=0))];simp);(rw [decide_eq_false (by omega:¬ (k=4∨b=0))];simp)) | (rw [hAb,decide_eq_true hid,decide_eq_true hbz];simp only [eM];first | rw [if_pos k0] | rw [if_neg k0,if_pos k1] | rw [if_neg k0,if_neg k1,if_pos k4] | rw [if_neg k0,if_neg k1,if_neg k4,if_pos k5] | rw [if_neg k0,if_neg k1,if_neg k4,if_neg k5])
    rw [e];refine bK T Tryz.func28 rfl rfl rfl rfl ?_
    (repeat' (first|refine wS ?_|refine wR ?_|refine wT ?_|(refine rg 0 (bN (cC rfl rfl) rfl (aV ?_)))|(refine rg 1 (gB T rfl (mW rfl (vV (cX rfl rfl (by omega) (by omega)) (vV (kC (ca)) (vV (cY rfl) (mV ?_))))));(iterate 4 refine gF ?_);(iterate 4 refine gU ?_);refine gF (pW rfl (mV ?_));(iterate 4 refine gF ?_);(iterate 3 refine gU ?_);refine gF (pV ?_))|(refine rg 2 (aV ?_))|refine nZ ?_));exact rQ
  · rw [hA] at ca;have hAb:=hA;simp only [fF,aN,decide_eq_true_eq] at hA;by_cases h1:k≠0∧0<ids.length∨k≠4∧b≠0
    · have e:gO n ⟨k,a,b,m,ids⟩=(false):=by rw [kQ];first | (rw [hA];rfl) | (rw [hAb];rcases h1 with h | h;(rw [decide_eq_false (by omega:¬ (k=0∨ids.length=0))];simp);(rw [decide_eq_false (by omega:¬ (k=4∨b=0))];simp)) | (rw [hAb,decide_eq_true hid,decide_eq_true hbz];simp only [eM];first | rw [if_pos k0] | rw [if_neg k0,if_pos k1] | rw [if_neg k0,if_neg k1,if_pos k4] | rw [if_neg k0,if_neg k1,if_neg k4,if_pos k5] | rw [if_neg k0,if_neg k1,if_neg k4,if_neg k5])
      rw [e];refine bK T Tryz.func28 rfl rfl rfl rfl ?_
      (repeat' (first|refine wS ?_|refine wR ?_|refine wT ?_|(refine wC rfl ?_ ?_<;>(intro hb;(try simp only [nm] at hb);try (exfalso;omega)))|(refine rg 0 (bN (cC rfl rfl) rfl (aV ?_)))|(refine rg 1 (gB T rfl (mW rfl (vV (cX rfl rfl (by omega) (by omega)) (vV (kC (ca)) (vV (cY rfl) (mW rfl (yP T rfl (yO T rfl (yV (eX rfl rfl) ?_)))))))));refine yM ?_;refine bC rfl rfl ?_ ?_<;>(intro hb;rw [hb];(try simp only [nm] at hb);try (exfalso;omega));(all_goals first|(refine gT (fW T rfl (gT (lW T rfl (gT (qW T rfl (gT (vV (eE rfl rfl) ?_))))))))|(iterate 4 refine gF ?_));(all_goals (refine gT (pW rfl (pW rfl (mV ?_)))));(all_goals first|(refine gK ?_)|(refine bC rfl rfl ?_ ?_<;>(intro hb;rw [hb];(try simp only [nm] at hb);try (exfalso;omega))));(all_goals first|(refine gT (fW T rfl (gT (lW T rfl (gT (vV (eX rfl rfl) (gT (mV ?_))))))))|(iterate 4 refine gF ?_));(all_goals first|(refine gK ?_)|(refine bC rfl rfl ?_ ?_<;>(intro hb;rw [hb];(try simp only [nm] at hb);try (exfalso;omega))));(all_goals first|(refine gT (fW T rfl (gT (lW T rfl (gT (vV (eX rfl rfl) ?_))))))|(iterate 3 refine gU ?_));(all_goals first|(refine gT (pV ?_))|(refine gF ?_));(all_goals (refine pV ?_)))|(refine rg 2 (aV ?_))|refine nZ ?_));all_goals exact rQ
    · have hid:k=0∨ids.length=0:=by omega
      have hbz:k=4∨b=0:=by omega
      by_cases k0:k=0
      · have e:gO n ⟨k,a,b,m,ids⟩=(decide (m=0)&&CE ids n):=by rw [kQ];first | (rw [hA];rfl) | (rw [hAb];rcases h1 with h | h;(rw [decide_eq_false (by omega:¬ (k=0∨ids.length=0))];simp);(rw [decide_eq_false (by omega:¬ (k=4∨b=0))];simp)) | (rw [hAb,decide_eq_true hid,decide_eq_true hbz];simp only [eM];first | rw [if_pos k0] | rw [if_neg k0,if_pos k1] | rw [if_neg k0,if_neg k1,if_pos k4] | rw [if_neg k0,if_neg k1,if_neg k4,if_pos k5] | rw [if_neg k0,if_neg k1,if_neg k4,if_neg k5])
        rw [e];refine bK T Tryz.func28 rfl rfl rfl rfl ?_
        (repeat' (first|refine wS ?_|refine wB ?_|refine wK ?_|refine wR ?_|(refine wC rfl ?_ ?_<;>(intro hb;(try simp only [nm] at hb);try (exfalso;omega)))|(refine rg 0 (bN (cC rfl rfl) rfl (aV ?_)))|(refine rg 1 (gB T rfl (mW rfl (vV (cX rfl rfl (by omega) (by omega)) (vV (kC (ca)) (vV (cY rfl) (mW rfl (yP T rfl (yO T rfl (yV (eX rfl rfl) ?_)))))))));refine yM ?_;refine bC rfl rfl ?_ ?_<;>(intro hb;rw [hb];(try simp only [nm] at hb);try (exfalso;omega));(all_goals ((iterate 4 refine gF ?_);refine gT (pW rfl (pW rfl (mW rfl (yP T rfl (yO T rfl (yV (eX rfl rfl) (yM ?_)))))));refine bC rfl rfl ?_ ?_<;>(intro hb;rw [hb];(try simp only [nm] at hb);try (exfalso;omega))));(all_goals (refine yP T rfl (yO T rfl (yV (eX rfl rfl) (gT (pW rfl (pV ?_))))))))|(refine rg 3 (LR T ?_))|(refine rg 4 (vV (eQ rfl rfl) (aV ?_)))|(refine rg 5 (gB T rfl (vV (eQ rfl rfl) (mV ?_)));refine bC rfl rfl ?_ ?_<;>(intro hb;rw [hb];(try simp only [nm] at hb);try (exfalso;omega));(all_goals first|(refine gT (fW T rfl (gT (lW T rfl (gT (mW rfl (gT (vV (kC (cs)) ?_))))))))|(iterate 4 refine gF ?_));(all_goals (refine pW rfl (aV ?_))))|refine nZ ?_));all_goals first | (exfalso;omega) | (refine cH (.inl rfl) rfl (mB ?_);simp [*])
      · by_cases k1:k=1∨k=2∨k=3
        · have e:gO n ⟨k,a,b,m,ids⟩=(fF m 0 1099511627776):=by rw [kQ];first | (rw [hA];rfl) | (rw [hAb];rcases h1 with h | h;(rw [decide_eq_false (by omega:¬ (k=0∨ids.length=0))];simp);(rw [decide_eq_false (by omega:¬ (k=4∨b=0))];simp)) | (rw [hAb,decide_eq_true hid,decide_eq_true hbz];simp only [eM];first | rw [if_pos k0] | rw [if_neg k0,if_pos k1] | rw [if_neg k0,if_neg k1,if_pos k4] | rw [if_neg k0,if_neg k1,if_neg k4,if_pos k5] | rw [if_neg k0,if_neg k1,if_neg k4,if_neg k5])
          rw [e];refine bK T Tryz.func28 rfl rfl rfl rfl ?_
          (repeat' (first|refine wS ?_|refine wB ?_|refine wK ?_|refine wR ?_|(refine wC rfl ?_ ?_<;>(intro hb;(try simp only [nm] at hb);try (exfalso;omega)))|(refine rg 0 (bN (cC rfl rfl) rfl (aV ?_)))|(refine rg 1 (gB T rfl (mW rfl (vV (cX rfl rfl (by omega) (by omega)) (vV (kC (ca)) (vV (cY rfl) (mW rfl (yP T rfl (yO T rfl (yV (eX rfl rfl) ?_)))))))));refine yM ?_;refine bC rfl rfl ?_ ?_<;>(intro hb;rw [hb];(try simp only [nm] at hb);try (exfalso;omega));(all_goals (refine yP T rfl (yO T rfl (gT (qW T rfl (yV (eE rfl rfl) (gT (pW rfl (pW rfl (mV ?_))))))));refine bC rfl rfl ?_ ?_<;>(intro hb;rw [hb];(try simp only [nm] at hb);try (exfalso;omega))));(all_goals (refine yP T rfl (yO T rfl (yV (eX rfl rfl) (yM ?_)));refine bC rfl rfl ?_ ?_<;>(intro hb;rw [hb];(try simp only [nm] at hb);try (exfalso;omega))));(all_goals (refine yP T rfl (yO T rfl (yV (eX rfl rfl) (gT (pW rfl (pV ?_))))))))|(refine rg 3 (LR T ?_))|(refine rg 4 (vV (eQ rfl rfl) (aV ?_)))|(refine rg 6 (vV (eQ rfl rfl) (aV ?_)))|(refine rg 7 (vV (eQ rfl rfl) (aV ?_)))|(refine rg 8 (vV (eQ rfl rfl) (aV ?_)))|(refine rg 9 (gB T rfl (vV (by exact eA rfl rfl (lH _ _ _) rfl rfl rfl) ?_));refine aV ?_)|refine nZ ?_));all_goals first | (exfalso;omega) | exact rQ
        · by_cases k4:k=4
          · have e:gO n ⟨k,a,b,m,ids⟩=(decide (m=0)&&fF b (a+1) (n-1)):=by rw [kQ];first | (rw [hA];rfl) | (rw [hAb];rcases h1 with h | h;(rw [decide_eq_false (by omega:¬ (k=0∨ids.length=0))];simp);(rw [decide_eq_false (by omega:¬ (k=4∨b=0))];simp)) | (rw [hAb,decide_eq_true hid,decide_eq_true hbz];simp only [eM];first | rw [if_pos k0] | rw [if_neg k0,if_pos k1] | rw [if_neg k0,if_neg k1,if_pos k4] | rw [if_neg k0,if_neg k1,if_neg k4,if_pos k5] | rw [if_neg k0,if_neg k1,if_neg k4,if_neg k5])
            rw [e];refine bK T Tryz.func28 rfl rfl rfl rfl ?_
            (repeat' (first|refine wS ?_|refine wB ?_|refine wK ?_|refine wR ?_|refine wU ?_|(refine wC rfl ?_ ?_<;>(intro hb;(try simp only [nm] at hb);try (exfalso;omega)))|(refine rg 0 (bN (cC rfl rfl) rfl (aV ?_)))|(refine rg 1 (gB T rfl (mW rfl (vV (cX rfl rfl (by omega) (by omega)) (vV (kC (ca)) (vV (cY rfl) (mW rfl (yP T rfl (yO T rfl (yV (eX rfl rfl) ?_)))))))));refine yM ?_;refine bC rfl rfl ?_ ?_<;>(intro hb;rw [hb];(try simp only [nm] at hb);try (exfalso;omega));(all_goals (refine yP T rfl (yO T rfl (gT (qW T rfl (yV (eE rfl rfl) (gT (pW rfl (pW rfl (mV ?_))))))));refine bC rfl rfl ?_ ?_<;>(intro hb;rw [hb];(try simp only [nm] at hb);try (exfalso;omega))));(all_goals (refine yP T rfl (yO T rfl (yV (eX rfl rfl) (yM ?_)));refine bC rfl rfl ?_ ?_<;>(intro hb;rw [hb];(try simp only [nm] at hb);try (exfalso;omega))));(all_goals ((iterate 3 refine gF ?_);refine gT (pW rfl (pV ?_)))))|(refine rg 3 (LR T ?_))|(refine rg 4 (vV (eQ rfl rfl) (aV ?_)))|(refine rg 6 (vV (eQ rfl rfl) (aV ?_)))|(refine rg 7 (vV (eQ rfl rfl) (aV ?_)))|(refine rg 8 (vV (eQ rfl rfl) (aV ?_)))|(refine rg 10 (vV (eQ rfl rfl) (aV ?_)))|(refine rg 11 (gB T rfl (vV (eQ rfl rfl) (mV ?_)));refine bC rfl rfl ?_ ?_<;>(intro hb;rw [hb];(try simp only [nm] at hb);try (exfalso;omega));(all_goals first|(refine gT (fW T rfl (gT (lW T rfl (gT (fW T rfl (gT (lW T rfl (gT (vV (bY rfl rfl (by omega) (by omega)) ?_)))))))));refine gT (mW rfl (gT (vV (cX rfl rfl (by omega) (by omega)) (gT (vV (by exact eA rfl rfl (lH _ _ _) rfl rfl rfl) ?_))))))|(iterate 8 refine gF ?_));(all_goals (refine pW rfl (aV ?_))))|refine nZ ?_));all_goals first | (exfalso;omega) | (refine cH (.inl rfl) rfl (mB ?_);simp [*])
          · by_cases k5:k=5
            · have e:gO n ⟨k,a,b,m,ids⟩=(fF m 0 (n-1)):=by rw [kQ];first | (rw [hA];rfl) | (rw [hAb];rcases h1 with h | h;(rw [decide_eq_false (by omega:¬ (k=0∨ids.length=0))];simp);(rw [decide_eq_false (by omega:¬ (k=4∨b=0))];simp)) | (rw [hAb,decide_eq_true hid,decide_eq_true hbz];simp only [eM];first | rw [if_pos k0] | rw [if_neg k0,if_pos k1] | rw [if_neg k0,if_neg k1,if_pos k4] | rw [if_neg k0,if_neg k1,if_neg k4,if_pos k5] | rw [if_neg k0,if_neg k1,if_neg k4,if_neg k5])
              rw [e];refine bK T Tryz.func28 rfl rfl rfl rfl ?_
              (repeat' (first|refine wS ?_|refine wB ?_|refine wK ?_|refine wR ?_|(refine wC rfl ?_ ?_<;>(intro hb;(try simp only [nm] at hb);try (exfalso;omega)))|(refine rg 0 (bN (cC rfl rfl) rfl (aV ?_)))|(refine rg 1 (gB T rfl (mW rfl (vV (cX rfl rfl (by omega) (by omega)) (vV (kC (ca)) (vV (cY rfl) (mW rfl (yP T rfl (yO T rfl (yV (eX rfl rfl) ?_)))))))));refine yM ?_;refine bC rfl rfl ?_ ?_<;>(intro hb;rw [hb];(try simp only [nm] at hb);try (exfalso;omega));(all_goals (refine yP T rfl (yO T rfl (gT (qW T rfl (yV (eE rfl rfl) (gT (pW rfl (pW rfl (mV ?_))))))));refine bC rfl rfl ?_ ?_<;>(intro hb;rw [hb];(try simp only [nm] at hb);try (exfalso;omega))));(all_goals (refine yP T rfl (yO T rfl (yV (eX rfl rfl) (yM ?_)));refine bC rfl rfl ?_ ?_<;>(intro hb;rw [hb];(try simp only [nm] at hb);try (exfalso;omega))));(all_goals (refine yP T rfl (yO T rfl (yV (eX rfl rfl) (gT (pW rfl (pV ?_))))))))|(refine rg 3 (LR T ?_))|(refine rg 4 (vV (eQ rfl rfl) (aV ?_)))|(refine rg 6 (vV (eQ rfl rfl) (aV ?_)))|(refine rg 7 (vV (eQ rfl rfl) (aV ?_)))|(refine rg 8 (vV (eQ rfl rfl) (aV ?_)))|(refine rg 10 (vV (eQ rfl rfl) (aV ?_)))|(refine rg 12 (vV (eQ rfl rfl) (aV ?_)))|(refine rg 13 (gB T rfl (mW rfl (vV (cX rfl rfl (by omega) (by omega)) (vV (by exact eA rfl rfl (lH _ _ _) rfl rfl rfl) ?_))));refine aV ?_)|refine nZ ?_));all_goals first | (exfalso;omega) | exact rQ
            · have e:gO n ⟨k,a,b,m,ids⟩=(false):=by rw [kQ];first | (rw [hA];rfl) | (rw [hAb];rcases h1 with h | h;(rw [decide_eq_false (by omega:¬ (k=0∨ids.length=0))];simp);(rw [decide_eq_false (by omega:¬ (k=4∨b=0))];simp)) | (rw [hAb,decide_eq_true hid,decide_eq_true hbz];simp only [eM];first | rw [if_pos k0] | rw [if_neg k0,if_pos k1] | rw [if_neg k0,if_neg k1,if_pos k4] | rw [if_neg k0,if_neg k1,if_neg k4,if_pos k5] | rw [if_neg k0,if_neg k1,if_neg k4,if_neg k5])
              rw [e];refine bK T Tryz.func28 rfl rfl rfl rfl ?_
              (repeat' (first|refine wS ?_|refine wB ?_|refine wK ?_|refine wR ?_|(refine wC rfl ?_ ?_<;>(intro hb;(try simp only [nm] at hb);try (exfalso;omega)))|(refine rg 0 (bN (cC rfl rfl) rfl (aV ?_)))|(refine rg 1 (gB T rfl (mW rfl (vV (cX rfl rfl (by omega) (by omega)) (vV (kC (ca)) (vV (cY rfl) (mW rfl (yP T rfl (yO T rfl (yV (eX rfl rfl) ?_)))))))));refine yM ?_;refine bC rfl rfl ?_ ?_<;>(intro hb;rw [hb];(try simp only [nm] at hb);try (exfalso;omega));(all_goals (refine yP T rfl (yO T rfl (gT (qW T rfl (yV (eE rfl rfl) (gT (pW rfl (pW rfl (mV ?_))))))));refine bC rfl rfl ?_ ?_<;>(intro hb;rw [hb];(try simp only [nm] at hb);try (exfalso;omega))));(all_goals (refine yP T rfl (yO T rfl (yV (eX rfl rfl) (yM ?_)));refine bC rfl rfl ?_ ?_<;>(intro hb;rw [hb];(try simp only [nm] at hb);try (exfalso;omega))));(all_goals (refine yP T rfl (yO T rfl (yV (eX rfl rfl) (gT (pW rfl (pV ?_))))))))|(refine rg 3 (LR T ?_))|(refine rg 4 (vV (eQ rfl rfl) (aV ?_)))|(refine rg 6 (vV (eQ rfl rfl) (aV ?_)))|(refine rg 7 (vV (eQ rfl rfl) (aV ?_)))|(refine rg 8 (vV (eQ rfl rfl) (aV ?_)))|(refine rg 10 (vV (eQ rfl rfl) (aV ?_)))|(refine rg 12 (vV (eQ rfl rfl) (aV ?_)))|(refine rg 14 (aV ?_))|refine nZ ?_));all_goals first | (exfalso;omega) | exact rQ
end Go.Proofs.YtmmkhmilpeodnaaGreat
namespace Go.Ld
open Go.Ab Go.Proofs.YtmmkhmilpeodnaaGreat
theorem GP {l:List Int}(h:l≠[]):l.headD 0∈l:=by
  cases l with
  | nil=>exact absurd rfl h
  | cons x l=>exact aR
theorem ZY {l:List Int}(h:l.Pairwise (· < ·)){z:Int}(hz:z∈l):l.headD 0≤z:=by
  cases l with
  | nil=>cases hz
  | cons x l=>
    rcases bO.1 hz with rfl | hz
    · exact dC _
    · have:=(fG.1 h).1 z hz;show x≤z;omega
theorem zS8 {a b:Int}:cI a b≤0↔a≤b:=by unfold cI;split <;> (try split) <;> omega
theorem C6 {l:List G}:MO l↔(l.map fun g=>g.1.headD 0).Pairwise (fun a b=>a≤b):=by
  rw [V5];exact ⟨fun h=>h.imp fun {a b} h=>zS8.1 h,fun h=>h.imp fun {a b} h=>zS8.2 h⟩
theorem PU {c:Cx}{M:Int}{gs P Q R:List G}{u v J:G}(h:mG c M gs) (e:gs=P++u::(Q++v::R)) (hM:0≤M){M':Int}(hMM:M≤M')
    (hp:J.1.Perm (u.1++v.1)) (hJ:wY c.bs.length J) (hne:J.2≠[]) (hf:(gS J).1.Perm ((gS u).1++(gS v).1)) (hm:∀ w,w∈J.2→w.2.1≤M') (hl:J.2.length≤1000):mG c M' (P++J::(Q++R)):=by
  have hmem:∀ g,g∈P++J::(Q++R)→g=J∨g∈gs:=fun g hg=>by
    subst e;simp only [bG,bO] at hg ⊢;rcases hg with hg | hg | hg | hg
    · exact .inr (.inl hg)
    · exact .inl hg
    · exact .inr (.inr (.inr (.inl hg)))
    · exact .inr (.inr (.inr (.inr (.inr hg))))
  have fl:∀ F:G→List Int,(F J).Perm (F u++F v)→((P++J::(Q++R)).flatMap F).Perm (gs.flatMap F):=fun F hF=>by
    subst e;simp only [fS,bJ,bT];refine List.Perm.append_left _ ?_;refine (hF.append_right _).trans ?_;rw [bT];refine List.Perm.append_left _ ?_;rw [← bT,← bT];exact List.perm_append_comm.append_right _
  have cov:=(fl (·.1) hp).trans h.cov;have hlen:(gs.flatMap (·.1)).length=((P++J::(Q++R)).flatMap (·.1)).length:=(fl (·.1) hp).length_eq.symm;refine ⟨⟨fun g hg=>?_,(fl (·.1) hp).nodup_iff.2 h.out.nd,by rw [← hlen];exact h.out.ln,fun g hg=>?_⟩,?_,fun g hg=>?_,fun g hg=>?_,cov,(fl _ hf).trans h.idn,fun g hg=>?_⟩
  · rcases hmem g hg with rfl | hg
    · exact hJ
    · exact h.out.ok g hg
  · rcases hmem g hg with rfl | hg
    · omega
    · exact h.out.ws g hg
  · have hu:u∈gs:=by subst e;simp
    have hv:v∈gs:=by subst e;simp
    have hup:=C6.1 h.up;have ou:=h.out.ok u hu;have ov:=h.out.ok v hv;have huv:u.1.headD 0≤v.1.headD 0:=by
      subst e;simp only [dW,List.map_cons] at hup;exact (fG.1 (fB.1 hup).2.1).1 _ (by simp)
    have hh:J.1.headD 0=u.1.headD 0:=by
      have h1:J.1.headD 0≤u.1.headD 0:=ZY hJ.up (hp.mem_iff.2 (bG.2 (.inl (GP ou.ne))));have h2:u.1.headD 0≤J.1.headD 0:=by
        rcases bG.1 (hp.mem_iff.1 (GP hJ.ne)) with hq | hq
        · exact ZY ou.up hq
        · have:=ZY ov.up hq;omega
      omega
    refine C6.2 (hup.sublist ?_);subst e;simp only [dW,List.map_cons,hh];refine List.Sublist.append_left (List.Sublist.cons_cons _ (List.Sublist.append_left (List.sublist_cons_self _ _) _)) _
  · rcases hmem g hg with rfl | hg
    · exact hne
    · exact h.ne g hg
  · rcases hmem g hg with rfl | hg
    · exact hm
    · exact fun w hw=>I7 (h.ml g hg w hw) hMM
  · rcases hmem g hg with rfl | hg
    · exact hl
    · exact h.wl g hg
theorem ZK {c:Cx}{gs all:List G}{a b:Int}(h:mG c c.m gs) (hm0:0≤c.m) (hm1:c.m≤1048576) (ha:0≤a∧a<c.bs.length) (hb:0≤b∧b<c.bs.length) (e:join gs a b=some all) :
    mG c (2*c.m) all∧∃ g,g∈all∧a∈g.1∧b∈g.1:=by
  obtain ⟨i,x,hi,hix,hax⟩:=jA (h.find ha);obtain ⟨k,y,hk,hky,hby⟩:=jA (h.find hb);have hx:=aS hix;have hy:=aS hky;unfold join at e;dsimp only at e;rw [hi,hk] at e;split at e
  · rename_i hik;obtain rfl:i=k:=by omega
    cases e;have:x=y:=by rw [hix] at hky;exact Option.some.inj hky
    subst this;exact ⟨⟨h.out,h.up,h.ne,fun g hg w hw=>by have:=h.ml g hg w hw;omega,h.cov,h.idn,h.wl⟩,x,hx,hax,hby⟩
  · rename_i hik;have hxy:x≠y:=fun q=>by
      subst q;have h1:=(aB.1 hix).2;have h2:=(aB.1 hky).2;have l1:=(aB.1 hix).1;have l2:=(aB.1 hky).1;have nd:(gs.map fun g=>g.1.headD 0).Nodup:=by
        have:=h.out.nd;have aux:∀ o:List G,(∀ g,g∈o→g.1≠[])→(o.flatMap (·.1)).Nodup→(o.map fun g=>g.1.headD 0).Nodup:=by
          intro o
          induction o with
          | nil=>intro _ _;exact cM
          | cons g o ih=>
            intro hg hn;rw [bJ] at hn;obtain ⟨n1,n2,n3⟩:=cP.1 hn;rw [List.map_cons,fL];refine ⟨fun hc=>?_,ih (fun g h=>hg g (aM _ h)) n2⟩;obtain ⟨g',hg',e'⟩:=bE.1 hc;exact n3 _ (GP (hg g aR)) _ (oX hg' (e'▸GP (hg g' (aM _ hg')))) rfl
        exact aux gs (fun g hg=>(h.out.ok g hg).ne) this
      have e1:(gs.map fun g=>g.1.headD 0)[i]'(by simpa using l1)=(gs.map fun g=>g.1.headD 0)[k]'(by simpa using l2):=by rw [iV,iV,h1,h2]
      have:=(zR5 nd).1 e1;omega
    have gi:lF gs ((i:Int)).toNat=x:=by unfold lF;rw [aC];show (gs[i]?).getD _=x;rw [hix];rfl
    have gk:lF gs ((k:Int)).toNat=y:=by unfold lF;rw [aC];show (gs[k]?).getD _=y;rw [hky];rfl
    rw [gi,gk] at e;split at e
    · cases e
    · rename_i hsz;have hln:x.1.length+y.1.length≤6:=by omega
      have hwl:x.2.length*y.2.length≤1000:=by omega
      cases e;have dj:∀ (u v:G),u∈gs→v∈gs→u≠v→∀ b,b∈u.1→b∉v.1:=fun u v hu hv huv b h1 h2=>huv (X9 h.out.nd hu hv h1 h2);have ndi:(gs.flatMap fun g=>(gS g).1).Nodup:=h.idn.nodup_iff.2 (uO _);have ndi':((gs.map fun g=>((gS g).1,g.2)).flatMap (·.1)).Nodup:=by rw [CS];exact ndi
      have jo:vI c.bs.length x y:=by
        refine ⟨h.out.ok x hx,h.out.ok y hy,h.ne x hx,h.ne y hy,dj x y hx hy hxy,fun b h1 h2=>?_,hln⟩
        have l1:=(aB.1 hix).1;have l2:=(aB.1 hky).1;rcases jO (show i≠k by omega) with hlt | hlt
        · obtain ⟨P,Q,R,e1,-⟩:=mK x hlt hix hky;rw [e1] at ndi;simp only [fS,bJ] at ndi;exact (cP.1 (cP.1 ndi).2.1).2.2 b h1 b (by simp [h2]) rfl
        · obtain ⟨P,Q,R,e1,-⟩:=mK y hlt hky hix;rw [e1] at ndi;simp only [fS,bJ] at ndi;exact (cP.1 (cP.1 ndi).2.1).2.2 b h2 b (by simp [h1]) rfl
      have hJ:=jo.ok (h.ml x hx) (h.ml y hy) (by omega)
      have hJn:=ZL (h.ne x hx) (h.ne y hy);have hJf:=jo.same (gR hJn);have hJm:∀ w,w∈(mU x y).2→w.2.1≤2*c.m:=fun w hw=>by
        obtain ⟨u,v,hu,hv,rfl⟩:=D6 hw;have:=h.ml x hx u hu;have:=h.ml y hy v hv;show u.2.1+v.2.1≤_;omega
      have hJp:=mZ x y;have hJl:(mU x y).2.length≤1000:=by rw [EP];exact hwl
      have hJa:a∈(mU x y).1:=hJp.mem_iff.2 (bG.2 (.inl hax));have hJb:b∈(mU x y).1:=hJp.mem_iff.2 (bG.2 (.inr hby));generalize mU x y=J at *;rcases jO (show i≠k by omega) with hlt | hlt
      · obtain ⟨P,Q,R,e1,e2⟩:=mK J hlt hix hky;rw [show (min (i:Int) (k:Int)).toNat=i by omega,show (max (i:Int) (k:Int)).toNat=k by omega,e2]
        exact ⟨PU h e1 hm0 (by omega) hJp hJ hJn hJf hJm hJl,J,by simp,hJa,hJb⟩
      · obtain ⟨P,Q,R,e1,e2⟩:=mK J hlt hky hix;rw [show (min (i:Int) (k:Int)).toNat=k by omega,show (max (i:Int) (k:Int)).toNat=i by omega,e2]
        exact ⟨PU h e1 hm0 (by omega) (hJp.trans zE) hJ hJn (hJf.trans zE) hJm hJl,J,by simp,hJa,hJb⟩
theorem RQ {f t:Int}(h:(yC f t).2=true):IF (yC f t).1:=by
  have:=A8 f t;unfold yC at h ⊢;unfold IF;dsimp only at h ⊢;rcases this with ⟨h1,h2,h3,h4⟩ | ⟨h1,_⟩
  · rw [h2,h3];omega
  · rw [h1] at h;cases h
theorem SM {t u w e:Int}{r:SP}(h:(qX t u w e r).2=true):IF (qX t u w e r).1:=by
  unfold qX at h ⊢;dsimp only at h ⊢;split at h
  · rename_i hq;rw [if_pos hq];exact RQ h
  · rename_i hq;exact absurd h hq
theorem YD {n s:Int}{r:SP}(h:(yX r n s).2=true):IF (yX r n s).1:=by
  unfold yX at h ⊢;split at h
  · rename_i hq;rw [if_pos hq];exact RQ h
  · cases h
theorem CJ.sC {n q:Nat}{w:W}(h:CJ n q w){i:Nat}{r:SP}(hr:IF r):CJ n q (sC w i r) where
  pl:=h.pl
  cl:=by show (w.2.2.set i r).length=q;rw [fM];exact h.cl
  pr:=h.pr
  nd:=h.nd
  m0:=h.m0
  m1:=h.m1
  sp x hx:=by
    rcases gE hx with hx | rfl
    · exact h.sp x hx
    · exact hr
theorem VB {c:Cx}{n q:Nat}{w:W}{i:Nat}{s:Ev}(h:CJ n q w) (hi:i<q) (hs:0≤s.n) (hm:w.2.1≤3000000) (hb:(iO c w i s).2=true):CJ n q (iO c w i s).1∧(iO c w i s).1.1=w.1∧(iO c w i s).1.2.1≤w.2.1+1:=by
  obtain ⟨g1,g2,g3⟩:=h.at hi;unfold iO at hb ⊢;by_cases k0:s.k=0
  · rw [if_pos k0] at hb ⊢;split
    · exact ⟨h,rfl,by dsimp only;omega⟩
    · exact ⟨⟨h.pl,h.cl,h.pr,h.nd,by have:=h.m0;dsimp only;omega,by dsimp only;omega,h.sp⟩,rfl,by dsimp only;omega⟩
  rw [if_neg k0] at hb ⊢;by_cases k1:s.k=1
  · rw [if_pos k1] at hb ⊢;dsimp only at hb ⊢;exact ⟨h.sC (SM hb),rfl,by show w.2.1≤_;omega⟩
  rw [if_neg k1] at hb ⊢;by_cases k2:s.k=2
  · rw [if_pos k2] at hb ⊢;dsimp only at hb ⊢;exact ⟨h.sC (YD hb),rfl,by show w.2.1≤_;omega⟩
  rw [if_neg k2] at hb ⊢;by_cases k3:s.k=3
  · rw [if_pos k3] at hb ⊢;dsimp only at hb ⊢;unfold pT at hb;simp only [aN,decide_eq_true_eq] at hb;unfold IF at g3;exact ⟨h.sC (show IF (s.n,s.n+1) from ⟨by dsimp only;omega,by dsimp only;omega,by dsimp only;omega⟩),rfl,by show w.2.1≤_;omega⟩
  rw [if_neg k3] at hb ⊢;split
  · exact ⟨h,rfl,by dsimp only;omega⟩
  · exact ⟨h,rfl,by dsimp only;omega⟩
theorem DF {α:Type}{l:List α}{i k:Nat}{d:α}(hi:i<l.length) (hk:k<l.length):((l.set i (l.getD k d)).set k (l.getD i d)).Perm l:=by
  have e1:l.getD k d=l[k]:=by rw [aC,aA hk];rfl
  have e2:l.getD i d=l[i]:=by rw [aC,aA hi];rfl
  rw [e1,e2];exact List.set_set_perm hi hk
theorem zO9 {n q:Nat}{w:W}{i k:Nat}(h:CJ n q w) (hi:i<q) (hk:k<q):CJ n q (mT w i k)∧(mT w i k).1.Perm w.1:=by
  have p1:(mT w i k).1.Perm w.1:=DF (by rw [h.pl];exact hi) (by rw [h.pl];exact hk)
  have p2:(mT w i k).2.2.Perm w.2.2:=DF (by rw [h.cl];exact hi) (by rw [h.cl];exact hk)
  exact ⟨⟨p1.length_eq.trans h.pl,p2.length_eq.trans h.cl,fun x hx=>h.pr x (p1.mem_iff.1 hx),p1.nodup_iff.2 h.nd,h.m0,h.m1,fun r hr=>h.sp r (p2.mem_iff.1 hr)⟩,p1⟩
theorem K4 {c:Cx}{M:Int}{gs:List G}(h:mG c M gs) (hM:M≤2200000){g:G}(hg:g∈gs){s:Ev}(hs:0≤s.n) (ha:s.a∈g.1) (hb:s.k=4→s.b∈g.1){w:W}(hw:w∈lZ c s g):CJ c.bs.length g.1.length w∧w.1.Perm (gS g).1∧w.2.1≤M+1:=by
  have og:=h.out.ok g hg;obtain ⟨v,hv,hw⟩:=fI.1 hw;have ov:=og.ws v hv;have hvm:=h.ml g hg v hv;have hp:=og.same v _ hv (gR (h.ne g hg));obtain ⟨hi,_⟩:=xL ha;rcases bG.1 hw with hw | hw
  · split at hw
    · rename_i hbt;obtain rfl:=aQ.1 hw;obtain ⟨h1,h2,h3⟩:=VB ov hi hs (by omega) hbt
      exact ⟨h1,h2▸hp,by omega⟩
    · cases hw
  · split at hw
    · rename_i hk;obtain rfl:=aQ.1 hw;obtain ⟨hj,_⟩:=xL (hb hk);obtain ⟨h1,h2⟩:=zO9 ov hi hj;exact ⟨h1,h2.trans hp,by show v.2.1≤_;omega⟩
    · cases hw
theorem TV {c:Cx}{s:Ev}{g:G}:(lZ c s g).length≤2*g.2.length:=by
  unfold lZ;dsimp only
  induction g.2 with
  | nil=>simp
  | cons w l ih=>
    rw [bJ,aJ,List.length_cons,aJ];have h1:∀ {p:Prop} [Decidable p] {x:W},(if p then [x] else []).length≤1:=by
      intro p _ x;split <;> simp
    have:=@h1 ((iO c w (g.1.idxOf s.a) s).2=true) _ (iO c w (g.1.idxOf s.a) s).1;have:=@h1 (s.k=4) _ (mT w (g.1.idxOf s.a) (g.1.idxOf s.b));omega
theorem zJ8 {c:Cx}{M M':Int}{gs:List G}(h:mG c M gs){i:Nat}{g:G}(hi:gs[i]? = some g){ws:List W}(hne:ws≠[]) (hl:ws.length≤1000) (hM:M≤M')
    (hw:∀ w,w∈ws→CJ c.bs.length g.1.length w∧w.1.Perm (gS g).1∧w.2.1≤M'):mG c M' (gs.set i (g.1,ws)):=by
  have hg:=aS hi;have og:=h.out.ok g hg;obtain ⟨A,B,e1,e2⟩:=pN (y:=(g.1,ws)) hi;rw [e2];subst e1;have hmem:∀ x,x∈A++(g.1,ws)::B→x=(g.1,ws)∨x∈A++g::B:=fun x hx=>by
    simp only [bG,bO] at hx ⊢;rcases hx with hx | hx | hx
    · exact .inr (.inl hx)
    · exact .inl hx
    · exact .inr (.inr (.inr hx))
  have hbod:((A++(g.1,ws)::B).flatMap (·.1))=((A++g::B).flatMap (·.1)):=by simp only [fS,bJ]
  have hf:=(hw _ (gR (g:=(g.1,ws)) hne)).2.1;have ok:wY c.bs.length (g.1,ws):=⟨og.ne,og.up,og.rg,og.ln,fun w h=>(hw w h).1,fun w v h1 h2=>(hw w h1).2.1.trans (hw v h2).2.1.symm⟩;refine ⟨⟨fun x hx=>?_,by rw [hbod];exact h.out.nd,by rw [hbod];exact h.out.ln,fun x hx=>?_⟩,?_,fun x hx=>?_,fun x hx=>?_,by rw [hbod];exact h.cov,?_,fun x hx=>?_⟩
  · rcases hmem x hx with rfl | hx
    · exact ok
    · exact h.out.ok x hx
  · rcases hmem x hx with rfl | hx
    · show ws.length≤2000;omega
    · exact h.out.ws x hx
  · have:=C6.1 h.up;refine C6.2 ?_;simp only [dW,List.map_cons] at this ⊢;exact this
  · rcases hmem x hx with rfl | hx
    · exact hne
    · exact h.ne x hx
  · rcases hmem x hx with rfl | hx
    · exact fun w hw'=>(hw w hw').2.2
    · exact fun w hw'=>I7 (h.ml x hx w hw') hM
  · refine List.Perm.trans ?_ h.idn;simp only [fS,bJ];exact List.Perm.append_left _ (hf.append_right _)
  · rcases hmem x hx with rfl | hx
    · exact hl
    · exact h.wl x hx
theorem JV {g:G}{k:Nat}{w:W}(h:w∈(jY g k).2):∃ v,v∈g.2∧w=zP3 k v:=by
  obtain ⟨v,hv,e⟩:=bE.1 (pP h);exact ⟨v,hv,e.symm⟩
theorem QN {g:G}{k:Nat}(h:g.2≠[]):(jY g k).2≠[]:=fun e=>h (by
  have:=T6.1 e
  exact mQ.1 this)
theorem zK2 {m:Nat}{M:Int}(hM:0≤M):∀ {g:G},(∀ w,w∈g.2→w.2.1≤M)→∀ x,x∈lY m g→∀ w,w∈x.2→w.2.1≤M:=by
  induction m with
  | zero=>intro g h x hx;simp [lY] at hx;subst hx;exact h
  | succ m ih=>
    intro g h x hx;unfold lY at hx;split at hx
    · simp at hx;subst hx;exact h
    · rename_i k hk;rcases bO.1 hx with rfl | hx
      · intro w hw;obtain rfl:=aQ.1 hw;exact hM
      · refine ih (fun w hw=>?_) x hx;obtain ⟨v,hv,rfl⟩:=JV hw;exact h v hv
theorem YG {m:Nat}:∀ {g:G},g.2.Pairwise (fun a b=>oS a b<0)→∀ x,x∈lY m g→x.2.Pairwise (fun a b=>oS a b<0):=by
  induction m with
  | zero=>intro g h x hx;simp [lY] at hx;subst hx;exact h
  | succ m ih=>
    intro g h x hx;unfold lY at hx;split at hx
    · simp at hx;subst hx;exact h
    · rcases bO.1 hx with rfl | hx
      · exact jF _ _
      · exact ih (AZ _) x hx
theorem KJ {n:Nat}:∀ (m:Nat){g:G},wY n g→g.2≠[]→((lY m g).flatMap fun x=>(gS x).1).Perm (gS g).1
  | 0,g,h,hne=>by simp [lY]
  | m+1,g,h,hne=>by
    unfold lY;split
    · simp
    · rename_i k hk;have hr:=QN (k:=k) hne;obtain ⟨v,hv,e⟩:=JV (gR hr);have ih:=KJ m (h.rest hk) hr;rw [bJ];have ofw:=h.ws _ (gR hne);have ov:=h.ws v hv;obtain ⟨_,_,hkl,hs⟩:=kG hk;have hgv:=(hs v hv).1;refine (List.Perm.append_left _ ih).trans ?_;rw [e];show (gP (gS g) k::(v.1.eraseIdx k)).Perm _;rw [← hgv];exact (kE v.1 k 0 (by rw [ov.pl];exact hkl)).trans (h.same _ _ hv (gR hne))
theorem sW {α β γ:Type}{F:β→List γ}{F':α→List γ}{P:α→List β}:∀ {l:List α},(∀ g,g∈l→((P g).flatMap F).Perm (F' g))→((l.flatMap P).flatMap F).Perm (l.flatMap F')
  | [],_=>.refl _
  | g::l,h=>by
    rw [bJ,fS,bJ];exact (h g aR).append (sW fun x hx=>h x (aM _ hx))
theorem T9 {α β γ:Type}{F:β→List γ}{F':α→List γ}{f:α→β}:∀ {l:List α},(∀ g,g∈l→(F (f g)).Perm (F' g))→((l.map f).flatMap F).Perm (l.flatMap F')
  | [],_=>.refl _
  | g::l,h=>by
    rw [List.map_cons,bJ,bJ];exact (h g aR).append (T9 fun x hx=>h x (aM _ hx))
theorem WL:∀ {l:List G},(∀ g,g∈l→0≤gM g)→0≤kA l
  | [],_=>dC _
  | g::l,h=>by
    have:=WL fun x hx=>h x (aM _ hx);have:=h g aR;show 0≤gM g+kA l;omega
theorem WM:∀ {l:List G},(∀ g,g∈l→0≤gM g)→∀ {g:G},g∈l→gM g≤kA l
  | x::l,h,g,hg=>by
    have h0:=WL fun x hx=>h x (aM _ hx);have h1:=h x aR;show gM g≤gM x+kA l;rcases bO.1 hg with rfl | hg
    · omega
    · have:=WM (fun x hx=>h x (aM _ hx)) hg;omega
theorem YH {c:Cx}{L:List G}(h:mG c c.m L) (hm0:0≤c.m) (hasc:∀ g,g∈L→g.2.Pairwise fun a b=>oS a b<0):kV c (qP L):=by
  have hp:=dS cG (L.flatMap fun g=>lY g.1.length g);have hmem:∀ x,x∈qP L→∃ g,g∈L∧x∈lY g.1.length g:=fun x hx=>fI.1 (hp.mem_iff.1 hx);have bod:((qP L).flatMap (·.1)).Perm (L.flatMap (·.1)):=(hp.flatMap_right _).trans (sW fun g hg=>zU _ (h.out.ok g hg));have idn:((qP L).flatMap fun g=>(gS g).1).Perm (L.flatMap fun g=>(gS g).1):=(hp.flatMap_right _).trans (sW fun g hg=>KJ _ (h.out.ok g hg) (h.ne g hg));have wl:∀ x,x∈qP L→x.2.length≤1000:=fun x hx=>by
    obtain ⟨g,hg,hx⟩:=hmem x hx;exact KI (by omega) (h.wl g hg) x hx
  refine ⟨⟨⟨fun x hx=>?_,bod.nodup_iff.2 h.out.nd,by rw [bod.length_eq];exact h.out.ln,fun x hx=>by have:=wl x hx;omega⟩,tB _,fun x hx=>?_,fun x hx=>?_,bod.trans h.cov,idn.trans h.idn,wl⟩,fun x hx=>?_,fun x hx=>?_⟩
  all_goals obtain ⟨g,hg,hx⟩:=hmem x hx
  · exact GD _ (h.out.ok g hg) x hx
  · exact zK1 (h.ne g hg) x hx
  · exact zK2 hm0 (h.ml g hg) x hx
  · exact DY _ (h.out.ok g hg) (bA _) x hx
  · exact YG (hasc g hg) x hx
theorem YK {c:Cx}{M:Int}{gs:List G}(h:mG c M gs) (hne:∀ g,g∈paid c gs→g.2≠[]):mG c c.m (paid c gs):=by
  have h0:∀ g,g∈gs→0≤gM g:=fun g hg=>(EM (h.out.ok g hg) (h.ne g hg)).1;refine ⟨h.out.paid c,PO h.up,hne,fun g hg w hw=>?_,by rw [Q0];exact h.cov,?_,fun g hg=>?_⟩
  · obtain ⟨x,hx,rfl⟩:=bE.1 hg;have:=of_decide_eq_true (iQ.1 hw).2;have:=WM h0 hx;omega
  · refine List.Perm.trans (T9 (F':=fun g=>(gS g).1) fun g hg=>?_) h.idn;have h1:=hne _ (bE.2 ⟨g,hg,rfl⟩);have h2:=gR h1;exact (h.out.ok g hg).same _ _ (iQ.1 h2).1 (gR (h.ne g hg))
  · obtain ⟨x,hx,rfl⟩:=bE.1 hg;exact bP (qM _ _) (h.wl x hx)
theorem zH6 {c:Cx}{M:Int}{gs:List G}(h:mG c M gs) (hm0:0≤c.m) (hasc:∀ g,g∈gs→g.2.Pairwise fun a b=>oS a b<0) (hne:∀ g,g∈uW c gs→g.2≠[]):kV c (uW c gs):=by
  refine YH (YK h fun g hg e=>?_) hm0 fun g hg=>?_
  · refine hne g ?_ e;refine (dS cG _).mem_iff.2 (fI.2 ⟨g,hg,?_⟩);rw [KH e];exact aQ.2 rfl
  · obtain ⟨x,hx,rfl⟩:=bE.1 hg;exact (hasc x hx).sublist List.filter_sublist
theorem kK {n:Int}{s:Ev}(h:gO n s=true) (hn:n≤1000000):(0≤s.a∧s.a<n)∧(s.k=4→s.a<s.b∧s.b<n)∧0≤s.n∧s.n≤1099511627776:=by
  obtain ⟨k,a,b,m,ids⟩:=s;unfold gO at h;simp only [aN,decide_eq_true_eq] at h;obtain ⟨⟨⟨h1,h2⟩,h3⟩,h4⟩:=h;dsimp only;refine ⟨by omega,fun hk=>?_,?_⟩
  · subst hk;simp at h4;omega
  · by_cases k0:k=0
    · subst k0;simp at h4;omega
    · rw [if_neg k0] at h4;split at h4
      · simp at h4;omega
      · split at h4
        · simp at h4;omega
        · split at h4
          · simp at h4;omega
          · cases h4
theorem UC {gs all:List G}{a b:Int}(e:join gs a b=some all) (ha:∃ g,g∈gs∧a∈g.1):∀ g,g∈all→g∈gs∨a∈g.1:=by
  intro g hg;obtain ⟨i,x,hi,hix,hax⟩:=jA ha;unfold join at e;dsimp only at e;split at e
  · cases e;exact .inl hg
  · split at e
    · cases e
    · cases e;rcases gE (List.mem_of_mem_eraseIdx hg) with hg | rfl
      · exact .inl hg
      · refine .inr ((mZ _ _).mem_iff.2 (bG.2 (.inl ?_)));rw [hi];unfold lF;rw [aC,show ((i:Int)).toNat=i from rfl,hix]
        exact hax
structure zC (c:Cx) (M:Int) (all:List G) (s:Ev):Prop where
  mid:mG c M all
  asc:∀ g,g∈all→(g.2.Pairwise fun a b=>oS a b<0)∨s.a∈g.1
  a:0≤s.a∧s.a<c.bs.length
  b:s.k=4→∃ g,g∈all∧s.a∈g.1∧s.b∈g.1
  n0:0≤s.n
  n1:s.n≤1099511627776
theorem zC.at {c:Cx}{M:Int}{all:List G}{s:Ev}(h:zC c M all s):∃ (i:Nat) (g:G),oY all s.a=(i:Int)∧all[i]? = some g∧g∈all∧lF all (oY all s.a).toNat=g∧s.a∈g.1∧(s.k=4→s.b∈g.1):=by
  obtain ⟨i,g,hi,hg,ha⟩:=jA (h.mid.find h.a);have hm:=aS hg;refine ⟨i,g,hi,hg,hm,?_,ha,fun hk=>?_⟩
  · rw [hi];unfold lF;rw [aC,show ((i:Int)).toNat=i from rfl,hg];rfl
  · obtain ⟨x,hx,h1,h2⟩:=h.b hk;rw [X9 h.mid.out.nd hm hx ha h1];exact h2
theorem zC.next {c:Cx}{M:Int}{all:List G}{s:Ev}(h:zC c M all s) (hM:M≤2200000){i:Nat}{g:G}(hi:all[i]? = some g) (ha:s.a∈g.1) (hb:s.k=4→s.b∈g.1) (hne:gN (lZ c s g)≠[]) (hl:(gN (lZ c s g)).length≤1000) :
    mG c (M+1) (all.set i (g.1,gN (lZ c s g)))∧∀ x,x∈all.set i (g.1,gN (lZ c s g))→x.2.Pairwise fun a b=>oS a b<0:=by
  have hg:=aS hi;refine ⟨zJ8 h.mid hi hne hl (by omega) fun w hw=>K4 h.mid hM hg h.n0 ha hb (pP hw),fun x hx=>?_⟩
  obtain ⟨A,B,e1,e2⟩:=pN (y:=(g.1,gN (lZ c s g))) hi;rw [e2] at hx;have nd:=h.mid.out.nd;have hall:x=(g.1,gN (lZ c s g))∨x∈all∧s.a∉x.1:=by
    subst e1;simp only [fS,bJ] at nd;obtain ⟨_,n1,n2⟩:=cP.1 nd;obtain ⟨_,_,n3⟩:=cP.1 n1;simp only [bG,bO] at hx ⊢;rcases hx with hx | hx | hx
    · exact .inr ⟨.inl hx,fun q=>n2 _ (oX hx q) _ (bG.2 (.inl ha)) rfl⟩
    · exact .inl hx
    · exact .inr ⟨.inr (.inr hx),fun q=>n3 _ ha _ (oX hx q) rfl⟩
  rcases hall with rfl | ⟨h1,h2⟩
  · exact AZ _
  · exact (h.asc x h1).resolve_right h2
theorem QD {c:Cx}{M:Int}{l all:List G}{s:Ev}(h:zC c M all s) (hM:M≤2200000) (hm0:0≤c.m) (hl:kV c l):kV c (rK c l all s).2:=by
  obtain ⟨i,g,hi,hg,hgm,hat,ha,hb⟩:=h.at;unfold rK;dsimp only;rw [hat];split
  · exact hl
  · rename_i hne;split
    · exact hl
    · rename_i hwl;split
      · exact hl
      · rename_i hany;obtain ⟨hm,hasc⟩:=h.next hM hg ha hb hne (by omega)
        rw [hi] at hany ⊢;refine zH6 hm hm0 hasc fun x hx e=>hany (gD.2 ⟨x,hx,by rw [e];rfl⟩)
theorem vP {c:Cx}{gs:List G}{s:Ev}(h:kV c gs) (hn:c.bs.length≤1000) (hm0:0≤c.m) (hr:gO c.bs.length s=true) (hk:s.k≠4):zC c c.m gs s:=by
  obtain ⟨h1,h2,h3,h4⟩:=kK hr (by omega)
  exact ⟨h.mid,fun g hg=>.inl (h.asc g hg),h1,fun q=>absurd q hk,h3,h4⟩
theorem tQ {c:Cx}{gs all:List G}{s:Ev}(h:kV c gs) (hn:c.bs.length≤1000) (hm0:0≤c.m) (hm1:c.m≤1048576) (hr:gO c.bs.length s=true) (hk:s.k=4) (e:join gs s.a s.b=some all):zC c (2*c.m) all s:=by
  obtain ⟨h1,h2,h3,h4⟩:=kK hr (by omega)
  have h2:=h2 hk;obtain ⟨j1,j2⟩:=ZK h.mid hm0 hm1 h1 ⟨by omega,by omega⟩ e
  exact ⟨j1,fun g hg=>(UC e (h.mid.find h1) g hg).imp_left fun hg=>h.asc g hg,h1,fun _=>j2,h3,h4⟩
theorem mG.n12 {c:Cx}{M:Int}{gs:List G}(h:mG c M gs):c.bs.length≤12:=by
  have:=h.cov.length_eq;have:=h.out.ln;simp at *;omega
theorem P4 {c:Cx}{gs:List G}{s:Ev}(h:kV c gs) (hm0:0≤c.m) (hm1:c.m≤1048576):kV c (lQ c gs s).2:=by
  have hn:=h.mid.n12;unfold lQ;split
  · rename_i hr;split
    · rename_i hk;split
      · exact h
      · rename_i all e;exact QD (tQ h (by omega) hm0 hm1 hr hk e) (by omega) hm0 h
    · rename_i hk;exact QD (vP h (by omega) hm0 hr hk) (by omega) hm0 h
  · exact h
end Go.Ld
