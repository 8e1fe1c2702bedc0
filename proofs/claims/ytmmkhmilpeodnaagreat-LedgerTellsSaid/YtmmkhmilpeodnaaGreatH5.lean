/-
  Texts of the logic and of the layer,in one module (part 5).
-/
import Derived.Test.YtmmkhmilpeodnaaGreatH4
import Derived.Lib.SlicesDelete
import Derived.Deep.RegionLaw
import Derived.Sort.EncStr
import Derived.Shelf.RegionOpenPlain
import Derived.Deep.LoopGhost
import Derived.Lib.Walk
import Derived.Sort.WalkB12
import Derived.Shelf.Slices.Delete
import Derived.Ground.Names2Prog
set_option linter.unusedVariables false
set_option linter.unusedSimpArgs false
set_option linter.unnecessarySimpa false
namespace Go.Ld
open Go.Ab Go.Proofs.YtmmkhmilpeodnaaGreat
theorem zD8 {P U V R:List W}{i k:Nat}(h:i=P.length+U.length+k) (hk:k<V.length):(P++(U++(V++R)))[i]? = V[k]?:=by
  subst h;rw [aG (by omega),aG (by omega),aO (by omega)]
  congr 1;omega
theorem zD9 {P U V R:List W}{i k:Nat}(h:i=P.length+k) (hk:k<U.length):(P++(U++(V++R)))[i]? = U[k]?:=by
  subst h;rw [aG (by omega),aO (by omega)]
  congr 1;omega
end Go.Ld
namespace Go.Proofs.YtmmkhmilpeodnaaGreat
open Go Go.Ab Go.Ld
attribute [local irreducible] VC AW bX aT
set_option maxHeartbeats 4000000
theorem zH:T3 Tryz.prog 3 .i64:=by unfold T3;kernel_rfl
theorem rJ:T3 Tryz.prog 119 .u64:=by unfold T3;kernel_rfl
attribute [local irreducible] T3
theorem zU6 (P:List W) (u:W) (V R:List W){a m b N:Nat}(ha:a=P.length) (hm:m=a+1) (hb:b=m+V.length) (hN:N=b+R.length) (hl:N≤100000) (hV:Up V) (hu:O1 u) (hw:∀ w,w∈V→O1 w) :
    aT Tryz.prog 162 [.sl 0 0 N 3,.i a,.i m,.i b,rT] [.arr (fH (P++([u]++(V++R)))) 3] (.tup []) [.arr (fH (P++(eK eY ([u]++V)++R))) 3]:=by
  refine bK T Tryz.func162 rfl rfl rfl rfl ?_
  (repeat' (first|refine wS ?_|refine wB ?_|refine wT ?_|(refine rg 0 (dK rfl (vV (cX rfl rfl (by omega) (by omega)) (vV (gX rfl rfl (by omega)) ?_))))|(refine rg 1 (mW rfl (aV ?_)))|(refine rg 2 (mW rfl (aV ?_)))|refine nZ ?_));refine cO (X:={q:Nat × Nat // m≤q.1∧q.1≤q.2∧q.2≤b∧(∀ z,0<q.1-m→V[q.1-m-1]? = some z→eY z u<0)∧(∀ z,V[q.2-m]? = some z→¬ eY z u<0)})
    (fun q=>[(0,.sl 0 0 N 3),(1,.i a),(4,rT),(10,.i q.1.1),(11,.i q.1.2)]) (fun _=>[.arr (fH (P++([u]++(V++R)))) 3]) (fun q=>q.1.2-q.1.1) ⟨(m,b),by dsimp only;exact ⟨by omega,by omega,by omega,fun z h=>by omega,fun z h=>by rw [cW (by omega)] at h;cases h⟩⟩
    ⟨[0],rfl,by (repeat (first | exact trivial | refine ⟨rfl,?_⟩)),⟨.inr (aD rfl rfl (bS _)),trivial⟩,by decide,mH⟩ ?_
  rintro ⟨⟨i,j⟩,h1,h2,h3,h4,h5⟩;dsimp only at h1 h2 h3 h4 h5 ⊢;by_cases hij:i<j
  · have hP:((i:Int)+j) / 2 ^ (1:Int).toNat=(((i+j) / 2:Nat):Int):=by rw [show (2:Int) ^ (1:Int).toNat=2 from rfl];omega
    have hw1:IntKind.u64.wrap ((i:Int)+j)=(i:Int)+j:=II (by omega) (by omega)
    have hw2:IntKind.i64.wrap (((i+j) / 2:Nat):Int)=(((i+j) / 2:Nat):Int):=IntWalk.i64_in _ (by omega)
    have hh:i≤(i+j) / 2∧(i+j) / 2<j:=by omega
    generalize hq:(i+j) / 2=q at *;obtain ⟨z,hz⟩:∃ z,V[q-m]? = some z:=⟨_,aA (by omega)⟩
    have q1:=pM (L:=P++([u]++(V++R))) (j:=(q:Int)) (i:=q) (x:=z) (by rw [zD8 (k:=q-m) (by simp;omega) (by omega)];exact hz) rfl
    have q2:=pM (L:=P++([u]++(V++R))) (j:=(a:Int)) (i:=a) (x:=u) (by rw [zD9 (k:=0) (by omega) (by simp)];rfl) rfl
    have hc:=xF z u (hw z (aS hz)) hu;by_cases h0:eY z u<0
    · generalize hx:eY z u=x at *
      (repeat' (first|refine wS ?_|refine wB ?_|refine wK ?_|(refine wC rfl ?_ ?_<;>(intro hb;(try simp only [nm] at hb);try (exfalso;omega)))|(refine rg 3 (dK rfl (vV (aI rfl rfl) ?_)))|(refine rg 4 (dK rfl (vV (bY rfl rfl (by omega) (by omega)) (vV (jR zH rJ rfl hw1) (vV (by exact hP▸uQ rfl rfl (by decide) (by decide)) ?_))));refine vV (jR rJ zH rfl hw2) (aV ?_))|(refine bQ (id:=5) 220 yN0 (rM 40 11) yN1 cF rfl (by decide +kernel) (dN rfl (dN rfl (dN rfl (dV rfl (by exact aK T rfl rfl rfl rfl rfl (by omega) (by omega)) ?_))));refine dV rfl (by exact aE T rfl rfl (bM rfl q1) rfl) ?_;refine dN rfl (dN rfl (dV rfl (by exact aK T rfl rfl rfl rfl rfl (by omega) (by omega)) ?_));refine dV rfl (by exact aE T rfl rfl (bM rfl q2) rfl) ?_;refine dV rfl (kC (hc)) (dV rfl (aI rfl rfl) (dE ?_)))|(refine iA 6 rfl rfl rfl (by omega) (by omega) ?_)|refine nZ ?_));all_goals first | (exfalso;omega) | skip
      exact ⟨⟨(q+1,j),by dsimp only;exact ⟨by omega,by omega,by omega,fun z' _ hz'=>by rw [show q+1-m-1=q-m by omega,hz] at hz';cases hz';omega,h5⟩⟩,by dsimp only;omega,⟨[0],rfl,by (repeat (first | exact trivial | refine ⟨rfl,?_⟩)),⟨.inr (aD rfl rfl (bS _)),trivial⟩,by decide,mH⟩⟩
    · generalize hx:eY z u=x at *
      (repeat' (first|refine wS ?_|refine wB ?_|refine wK ?_|(refine wC rfl ?_ ?_<;>(intro hb;(try simp only [nm] at hb);try (exfalso;omega)))|(refine rg 3 (dK rfl (vV (aI rfl rfl) ?_)))|(refine rg 4 (dK rfl (vV (bY rfl rfl (by omega) (by omega)) (vV (jR zH rJ rfl hw1) (vV (by exact hP▸uQ rfl rfl (by decide) (by decide)) ?_))));refine vV (jR rJ zH rfl hw2) (aV ?_))|(refine bQ (id:=5) 220 yN0 (rM 40 11) yN1 cF rfl (by decide +kernel) (dN rfl (dN rfl (dN rfl (dV rfl (by exact aK T rfl rfl rfl rfl rfl (by omega) (by omega)) ?_))));refine dV rfl (by exact aE T rfl rfl (bM rfl q1) rfl) ?_;refine dN rfl (dN rfl (dV rfl (by exact aK T rfl rfl rfl rfl rfl (by omega) (by omega)) ?_));refine dV rfl (by exact aE T rfl rfl (bM rfl q2) rfl) ?_;refine dV rfl (kC (hc)) (dV rfl (aI rfl rfl) (dE ?_)))|(refine rg 7 (mW rfl (aV ?_)))|refine nZ ?_));all_goals first | (exfalso;omega) | skip
      exact ⟨⟨(i,q),by dsimp only;exact ⟨by omega,by omega,by omega,h4,fun z' hz'=>by rw [hz] at hz';cases hz';omega⟩⟩,by dsimp only;omega,⟨[0],rfl,by (repeat (first | exact trivial | refine ⟨rfl,?_⟩)),⟨.inr (aD rfl rfl (bS _)),trivial⟩,by decide,mH⟩⟩
  · obtain rfl:i=j:=by omega
    have hmg:=zW5 (u:=u) (i:=i-m) (by omega) hV h4 h5
    (repeat' (first|refine wS ?_|refine wB ?_|refine wE ?_|(refine wC rfl ?_ ?_<;>(intro hb;(try simp only [nm] at hb);try (exfalso;omega)))|(refine rg 3 (dK rfl (vV (aI rfl rfl) ?_)))|(refine rg 8 (mW rfl (aV ?_)))|refine nZ ?_));all_goals first | (exfalso;omega) | skip
    refine cO (X:={t:Nat // t≤i-m}) (fun t=>[(0,.sl 0 0 N 3),(10,.i i),(13,.i ((a+t.1:Nat):Int))]) (fun t=>[.arr (fH (O0 P V u R t.1)) 3]) (fun t=>i-m-t.1) ⟨0,by omega⟩ ⟨[0],rfl,⟨rfl,rfl,by dsimp only;rfl,trivial⟩,⟨.inr (aD rfl (by dsimp only;unfold O0;simp) (bS _)),trivial⟩,by decide,mH⟩ ?_
    rintro ⟨t,ht⟩;dsimp only;by_cases hlt:t<i-m
    · obtain ⟨y,p1,p2,p3,p4,_⟩:=IQ (P:=P) (u:=u) (R:=R) (show t<V.length by omega)
      have q1:=pM (j:=((a+t:Nat):Int)) p1 (by omega)
      have q2:=pM (j:=((a+t:Nat):Int)+1) p2 (by omega)
      have t1:=wZ (L:=O0 P V u R t) (j:=((a+t:Nat):Int)) (i:=P.length+t) (x:=y) (by omega)
      have q3:=pM (j:=((a+t:Nat):Int)+1) p3 (by omega)
      have t2:=wZ (L:=(O0 P V u R t).set (P.length+t) y) (j:=((a+t:Nat):Int)+1) (i:=P.length+t+1) (x:=u) (by omega)
      rw [← t1] at q3 t2;rw [p4] at t2;have hJ:((a+t:Nat):Int)+1=((a+(t+1):Nat):Int):=by omega
      have hJ1:((a+t:Nat):Int)<(i:Int)-1:=by omega
      have hJ2:0≤((a+t:Nat):Int):=by omega
      clear p1 p2 p3 p4 t1;generalize ((a+t:Nat):Int)=J at *;generalize O0 P V u R t=L at *
      (repeat' (first|refine wS ?_|refine wB ?_|refine wK ?_|(refine wC rfl ?_ ?_<;>(intro hb;(try simp only [nm] at hb);try (exfalso;omega)))|(refine rg 9 (dK rfl (vV (cX rfl rfl (by omega) (by omega)) (vV (aI rfl rfl) ?_))))|(refine oG (id:=11) 220 yM8 (rM 61 15) [[],[61],[61,62],[61,62,63],[61,62,63],rM 61 5,rM 61 6,rM 61 6,rM 61 5,rM 61 5,rM 61 10,rM 61 11,rM 61 10,rM 61 10,[63,64,65],[63,64,65]] [(15,0)] cF rfl (by decide +kernel) (dB rfl rfl rfl rfl (by exact bU rfl) ?_);refine dB rfl rfl rfl rfl (by exact bU rfl) ?_;refine dB rfl rfl rfl rfl (by exact bU rfl) ?_;refine dB rfl rfl rfl rfl (by exact bU rfl) ?_;refine dB rfl rfl rfl rfl (by exact bY rfl rfl (by omega) (by omega)) ?_;refine dB rfl rfl rfl rfl (by exact bU rfl) ?_;refine dB rfl rfl rfl rfl (by exact bU rfl) ?_;refine dB rfl rfl rfl rfl (by exact bY rfl rfl (by omega) (by omega)) ?_;refine dB rfl rfl rfl rfl (by exact aK T rfl rfl rfl rfl rfl (by omega) (by omega)) ?_;refine dB rfl rfl rfl rfl (by exact aE T rfl rfl (bM rfl q2) rfl) ?_;refine dB rfl rfl rfl rfl (by exact bU rfl) ?_;refine dB rfl rfl rfl rfl (by exact bU rfl) ?_;refine dB rfl rfl rfl rfl (by exact aK T rfl rfl rfl rfl rfl (by omega) (by omega)) ?_;refine dB rfl rfl rfl rfl (by exact aE T rfl rfl (bM rfl q1) rfl) ?_;refine dB rfl rfl rfl rfl (by exact aK T rfl rfl rfl rfl rfl (by omega) (by omega)) ?_;refine xZ rfl rfl rfl rfl (aY rfl) T rfl rfl rfl rfl rfl rfl (by decide) (xB rfl q1 rfl) ?_;refine sY rfl rfl rfl (by exact rfl) ?_;refine vV (by exact aK T rfl rfl rfl rfl rfl (by omega) (by omega)) ?_;refine aL T rfl rfl rfl rfl rfl rfl (by decide) (iJ rfl q3 rfl) ?_)|(refine iA 10 rfl rfl rfl (by omega) (by omega) ?_)|refine nZ ?_));all_goals first | (exfalso;omega) | skip
      exact ⟨⟨t+1,by omega⟩,by dsimp only;omega,⟨[0],rfl,⟨rfl,rfl,by dsimp only;rw [← hJ];try rfl,trivial⟩,⟨.inr (aD rfl (by dsimp only;rw [← t2];try rfl) (bS _)),trivial⟩,by decide,mH⟩⟩
    · obtain rfl:t=i-m:=by omega
      have ee:O0 P V u R (i-m)=P++(eK eY ([u]++V)++R):=by rw [hmg];unfold O0;simp
      have hJ1:¬ ((a+(i-m):Nat):Int)<(i:Int)-1:=by omega
      generalize ((a+(i-m):Nat):Int)=J at *
      (repeat' (first|refine wS ?_|refine wR ?_|refine wE ?_|(refine wC rfl ?_ ?_<;>(intro hb;(try simp only [nm] at hb);try (exfalso;omega)))|(refine rg 9 (dK rfl (vV (cX rfl rfl (by omega) (by omega)) (vV (aI rfl rfl) ?_))))|refine nZ ?_));all_goals first | (exfalso;omega) | exact ⟨.inl rfl,[0],_,rfl,rfl,rfl,⟨.inr (aD rfl (by rw [ee]) (bS _)),trivial⟩,by decide,mH⟩ | exact ⟨.inr rfl,[0],_,rfl,rfl,rfl,⟨.inr (aD rfl (by rw [ee]) (bS _)),trivial⟩,by decide,mH⟩
theorem zU5 (P U:List W) (v:W) (R:List W){a m b N:Nat}(ha:a=P.length) (hm:m=a+U.length) (hb:b=m+1) (hN:N=b+R.length) (hl:N≤100000) (hU2:2≤U.length) (hU:Up U) (hv:O1 v) (hw:∀ w,w∈U→O1 w) :
    aT Tryz.prog 162 [.sl 0 0 N 3,.i a,.i m,.i b,rT] [.arr (fH (P++(U++([v]++R)))) 3] (.tup []) [.arr (fH (P++(eK eY (U++[v])++R))) 3]:=by
  refine bK T Tryz.func162 rfl rfl rfl rfl ?_
  (repeat' (first|refine wS ?_|refine wB ?_|refine wK ?_|refine wT ?_|refine wU ?_|(refine rg 0 (dK rfl (vV (cX rfl rfl (by omega) (by omega)) (vV (dQ rfl rfl (by omega)) ?_))))|(refine rg 12 (dK rfl (vV (cX rfl rfl (by omega) (by omega)) (vV (gX rfl rfl (by omega)) ?_))))|(refine rg 13 (mW rfl (aV ?_)))|(refine rg 14 (mW rfl (aV ?_)))|refine nZ ?_));refine cO (X:={q:Nat × Nat // a≤q.1∧q.1≤q.2∧q.2≤m∧(∀ z,0<q.1-a→U[q.1-a-1]? = some z→¬ eY v z<0)∧(∀ z,U[q.2-a]? = some z→eY v z<0)})
    (fun q=>[(0,.sl 0 0 N 3),(2,.i m),(4,rT),(14,.i q.1.1),(15,.i q.1.2)]) (fun _=>[.arr (fH (P++(U++([v]++R)))) 3]) (fun q=>q.1.2-q.1.1) ⟨(a,m),by dsimp only;exact ⟨by omega,by omega,by omega,fun z h=>by omega,fun z h=>by rw [cW (by omega)] at h;cases h⟩⟩
    ⟨[0],rfl,by (repeat (first | exact trivial | refine ⟨rfl,?_⟩)),⟨.inr (aD rfl rfl (bS _)),trivial⟩,by decide,mH⟩ ?_
  rintro ⟨⟨i,j⟩,h1,h2,h3,h4,h5⟩;dsimp only at h1 h2 h3 h4 h5 ⊢;by_cases hij:i<j
  · have hP:((i:Int)+j) / 2 ^ (1:Int).toNat=(((i+j) / 2:Nat):Int):=by rw [show (2:Int) ^ (1:Int).toNat=2 from rfl];omega
    have hw1:IntKind.u64.wrap ((i:Int)+j)=(i:Int)+j:=II (by omega) (by omega)
    have hw2:IntKind.i64.wrap (((i+j) / 2:Nat):Int)=(((i+j) / 2:Nat):Int):=IntWalk.i64_in _ (by omega)
    have hh:i≤(i+j) / 2∧(i+j) / 2<j:=by omega
    generalize hq:(i+j) / 2=q at *;obtain ⟨z,hz⟩:∃ z,U[q-a]? = some z:=⟨_,aA (by omega)⟩
    have q1:=pM (L:=P++(U++([v]++R))) (j:=(m:Int)) (i:=m) (x:=v) (by rw [zD8 (k:=0) (by omega) (by simp)];rfl) rfl
    have q2:=pM (L:=P++(U++([v]++R))) (j:=(q:Int)) (i:=q) (x:=z) (by rw [zD9 (k:=q-a) (by omega) (by omega)];exact hz) rfl
    have hc:=xF v z hv (hw z (aS hz));by_cases h0:eY v z<0
    · generalize hx:eY v z=x at *
      (repeat' (first|refine wS ?_|refine wB ?_|refine wK ?_|(refine wC rfl ?_ ?_<;>(intro hb;(try simp only [nm] at hb);try (exfalso;omega)))|(refine rg 15 (dK rfl (vV (aI rfl rfl) ?_)))|(refine rg 16 (dK rfl (vV (bY rfl rfl (by omega) (by omega)) (vV (jR zH rJ rfl hw1) (vV (by exact hP▸uQ rfl rfl (by decide) (by decide)) ?_))));refine vV (jR rJ zH rfl hw2) (aV ?_))|(refine bQ (id:=17) 220 yN2 (rM 92 12) yN3 cF rfl (by decide +kernel) (dN rfl (dN rfl (dN rfl (dV rfl (by exact aK T rfl rfl rfl rfl rfl (by omega) (by omega)) ?_))));refine dV rfl (by exact aE T rfl rfl (bM rfl q1) rfl) ?_;refine dN rfl (dN rfl (dV rfl (by exact aK T rfl rfl rfl rfl rfl (by omega) (by omega)) ?_));refine dV rfl (by exact aE T rfl rfl (bM rfl q2) rfl) ?_;refine dV rfl (kC (hc)) (dV rfl (aI rfl rfl) (dV rfl (cY rfl) (dE ?_))))|(refine rg 19 (mW rfl (aV ?_)))|refine nZ ?_));all_goals first | (exfalso;omega) | skip
      exact ⟨⟨(i,q),by dsimp only;exact ⟨by omega,by omega,by omega,h4,fun z' hz'=>by rw [hz] at hz';cases hz';omega⟩⟩,by dsimp only;omega,⟨[0],rfl,by (repeat (first | exact trivial | refine ⟨rfl,?_⟩)),⟨.inr (aD rfl rfl (bS _)),trivial⟩,by decide,mH⟩⟩
    · generalize hx:eY v z=x at *
      (repeat' (first|refine wS ?_|refine wB ?_|refine wK ?_|(refine wC rfl ?_ ?_<;>(intro hb;(try simp only [nm] at hb);try (exfalso;omega)))|(refine rg 15 (dK rfl (vV (aI rfl rfl) ?_)))|(refine rg 16 (dK rfl (vV (bY rfl rfl (by omega) (by omega)) (vV (jR zH rJ rfl hw1) (vV (by exact hP▸uQ rfl rfl (by decide) (by decide)) ?_))));refine vV (jR rJ zH rfl hw2) (aV ?_))|(refine bQ (id:=17) 220 yN2 (rM 92 12) yN3 cF rfl (by decide +kernel) (dN rfl (dN rfl (dN rfl (dV rfl (by exact aK T rfl rfl rfl rfl rfl (by omega) (by omega)) ?_))));refine dV rfl (by exact aE T rfl rfl (bM rfl q1) rfl) ?_;refine dN rfl (dN rfl (dV rfl (by exact aK T rfl rfl rfl rfl rfl (by omega) (by omega)) ?_));refine dV rfl (by exact aE T rfl rfl (bM rfl q2) rfl) ?_;refine dV rfl (kC (hc)) (dV rfl (aI rfl rfl) (dV rfl (cY rfl) (dE ?_))))|(refine iA 18 rfl rfl rfl (by omega) (by omega) ?_)|refine nZ ?_));all_goals first | (exfalso;omega) | skip
      exact ⟨⟨(q+1,j),by dsimp only;exact ⟨by omega,by omega,by omega,fun z' _ hz'=>by rw [show q+1-a-1=q-a by omega,hz] at hz';cases hz';omega,h5⟩⟩,by dsimp only;omega,⟨[0],rfl,by (repeat (first | exact trivial | refine ⟨rfl,?_⟩)),⟨.inr (aD rfl rfl (bS _)),trivial⟩,by decide,mH⟩⟩
  · obtain rfl:i=j:=by omega
    have hmg:=zW4 (v:=v) (i:=i-a) (by omega) hU h4 h5
    (repeat' (first|refine wS ?_|refine wB ?_|refine wE ?_|(refine wC rfl ?_ ?_<;>(intro hb;(try simp only [nm] at hb);try (exfalso;omega)))|(refine rg 15 (dK rfl (vV (aI rfl rfl) ?_)))|(refine rg 20 (mW rfl (aV ?_)))|refine nZ ?_));all_goals first | (exfalso;omega) | skip
    refine cO (X:={t:Nat // i-a≤t∧t≤U.length}) (fun t=>[(0,.sl 0 0 N 3),(14,.i i),(17,.i ((a+t.1:Nat):Int))]) (fun t=>[.arr (fH (O0 P U v R t.1)) 3]) (fun t=>t.1) ⟨U.length,by omega⟩ ⟨[0],rfl,⟨rfl,rfl,by dsimp only;rw [← hm];rfl,trivial⟩,⟨.inr (aD rfl (by dsimp only;unfold O0;simp) (bS _)),trivial⟩,by decide,mH⟩ ?_
    rintro ⟨t,ht,ht2⟩;dsimp only;by_cases hlt:i-a<t
    · obtain ⟨t,rfl⟩:∃ t',t=t'+1:=⟨t-1,by omega⟩
      obtain ⟨y,_,_,_,_,p1,p2,p3,p4⟩:=IQ (P:=P) (u:=v) (R:=R) (show t<U.length by omega)
      have q1:=pM (j:=((a+(t+1):Nat):Int)) p1 (by omega)
      have q2:=pM (j:=((a+(t+1):Nat):Int)-1) p2 (by omega)
      have t1:=wZ (L:=O0 P U v R (t+1)) (j:=((a+(t+1):Nat):Int)) (i:=P.length+t+1) (x:=y) (by omega)
      have q3:=pM (j:=((a+(t+1):Nat):Int)-1) p3 (by omega)
      have t2:=wZ (L:=(O0 P U v R (t+1)).set (P.length+t+1) y) (j:=((a+(t+1):Nat):Int)-1) (i:=P.length+t) (x:=v) (by omega)
      rw [← t1] at q3 t2;rw [p4] at t2;have hJ:((a+(t+1):Nat):Int)-1=((a+t:Nat):Int):=by omega
      have hJ1:((a+(t+1):Nat):Int) > (i:Int):=by omega
      have hJ2:1≤((a+(t+1):Nat):Int):=by omega
      have hJ3:((a+(t+1):Nat):Int)<N:=by omega
      clear p1 p2 p3 p4 t1;generalize ((a+(t+1):Nat):Int)=J at *;generalize O0 P U v R (t+1)=L at *
      (repeat' (first|refine wS ?_|refine wB ?_|refine wK ?_|(refine wC rfl ?_ ?_<;>(intro hb;(try simp only [nm] at hb);try (exfalso;omega)))|(refine rg 21 (dK rfl (vV (eE rfl rfl) ?_)))|(refine oG (id:=23) 220 yM8 (rM 113 15) [[],[113],[113,114],[113,114,115],[113,114,115],rM 113 5,rM 113 6,rM 113 6,rM 113 5,rM 113 5,rM 113 10,rM 113 11,rM 113 10,rM 113 10,[115,116,117],[115,116,117]] [(15,0)] cF rfl (by decide +kernel) (dB rfl rfl rfl rfl (by exact bU rfl) ?_);refine dB rfl rfl rfl rfl (by exact bU rfl) ?_;refine dB rfl rfl rfl rfl (by exact bU rfl) ?_;refine dB rfl rfl rfl rfl (by exact bU rfl) ?_;refine dB rfl rfl rfl rfl (by exact cX rfl rfl (by omega) (by omega)) ?_;refine dB rfl rfl rfl rfl (by exact bU rfl) ?_;refine dB rfl rfl rfl rfl (by exact bU rfl) ?_;refine dB rfl rfl rfl rfl (by exact cX rfl rfl (by omega) (by omega)) ?_;refine dB rfl rfl rfl rfl (by exact aK T rfl rfl rfl rfl rfl (by omega) (by omega)) ?_;refine dB rfl rfl rfl rfl (by exact aE T rfl rfl (bM rfl q2) rfl) ?_;refine dB rfl rfl rfl rfl (by exact bU rfl) ?_;refine dB rfl rfl rfl rfl (by exact bU rfl) ?_;refine dB rfl rfl rfl rfl (by exact aK T rfl rfl rfl rfl rfl (by omega) (by omega)) ?_;refine dB rfl rfl rfl rfl (by exact aE T rfl rfl (bM rfl q1) rfl) ?_;refine dB rfl rfl rfl rfl (by exact aK T rfl rfl rfl rfl rfl (by omega) (by omega)) ?_;refine xZ rfl rfl rfl rfl (aY rfl) T rfl rfl rfl rfl rfl rfl (by decide) (xB rfl q1 rfl) ?_;refine sY rfl rfl rfl (by exact rfl) ?_;refine vV (by exact aK T rfl rfl rfl rfl rfl (by omega) (by omega)) ?_;refine aL T rfl rfl rfl rfl rfl rfl (by decide) (iJ rfl q3 rfl) ?_)|(refine rg 22 (mW rfl (vV (cX rfl rfl (by omega) (by omega)) (aV ?_))))|refine nZ ?_));all_goals first | (exfalso;omega) | skip
      exact ⟨⟨t,by omega⟩,by dsimp only;omega,⟨[0],rfl,⟨rfl,rfl,by dsimp only;rw [← hJ];try rfl,trivial⟩,⟨.inr (aD rfl (by dsimp only;rw [← t2];try rfl) (bS _)),trivial⟩,by decide,mH⟩⟩
    · obtain rfl:t=i-a:=by omega
      have ee:O0 P U v R (i-a)=P++(eK eY (U++[v])++R):=by rw [hmg];unfold O0;simp
      have hJ1:¬ ((a+(i-a):Nat):Int) > (i:Int):=by omega
      generalize ((a+(i-a):Nat):Int)=J at *
      (repeat' (first|refine wS ?_|refine wR ?_|refine wE ?_|(refine wC rfl ?_ ?_<;>(intro hb;(try simp only [nm] at hb);try (exfalso;omega)))|(refine rg 21 (dK rfl (vV (eE rfl rfl) ?_)))|refine nZ ?_));all_goals first | (exfalso;omega) | exact ⟨.inl rfl,[0],_,rfl,rfl,rfl,⟨.inr (aD rfl (by rw [ee]) (bS _)),trivial⟩,by decide,mH⟩ | exact ⟨.inr rfl,[0],_,rfl,rfl,rfl,⟨.inr (aD rfl (by rw [ee]) (bS _)),trivial⟩,by decide,mH⟩
end Go.Proofs.YtmmkhmilpeodnaaGreat
namespace Go.Ab
open Go
set_option maxHeartbeats 1000000
theorem qC {z:Array Value}{zs:List Value}(hz:z.toList=zs) (hn:zs≠[]) (m:Nat):(∀ v,v∈(Builtin.zeroCells z m).toList→v∈zs)∧(Builtin.zeroCells z m).toList.length=m*zs.length:=by
  subst hz;have h0:0<z.size:=by
    rcases N6 z.size with h | h
    · exact absurd (by simpa using Array.size_eq_zero_iff.1 h) hn
    · exact h
  unfold Builtin.zeroCells;constructor
  · intro v hv;simp only [bE,Array.toList_ofFn,List.mem_ofFn,Array.toList_map,Array.toList_range] at hv;rcases hv with ⟨i,hi⟩
    first
      | (have hlt:=Nat.mod_lt i.1 h0;rw [getElem!_pos z _ hlt] at hi;rw [← hi];exact Array.mem_toList_iff.2 (Array.getElem_mem _))
      | (have hlt:=Nat.mod_lt i h0;rw [getElem!_pos z _ hlt] at hi;rw [← hi.2];exact Array.mem_toList_iff.2 (Array.getElem_mem _))
  · simp
section
variable {P:Program}{env:eH}{h:Hp}{n:Nat × Nat}{ops:Array Oper}{rest:List Oper}{K:eH→Hp→Prop}{ty:TypeId}{pos:String}{af:Array Edge}
theorem O5 (T:oZ P){t e k off len sz:Nat}{i:TI}{x:Operand}{es:List (List AV)}(hx:evu env x=some (.sl k off len sz)) (ht:T.elem t=some e) (he:T.ti e=some i) (hz:i.zero.length=sz∧i.zero.all Value.oneCell'=true∧0<sz) (hkk:h[k]? = some (.arr es sz)) (hle:off+len≤es.length)
    (hk:VC P n ops rest env (h.set k (.arr (es.take off) sz)) K):VC P n ops (⟨none,.call { callee:=.builtin .clear,args:=#[x],argTypes:=#[t] },ty,pos,af,none⟩::rest) env h K:=by
  intro c ρ S a w Q s hQ;refine wpList_plain rfl fun K' hK'=>?_
  have p:=s.pre;have hxv:=p.evu hx;simp only [R] at hxv;obtain ⟨ad,cap,hev,_,hxv⟩:=hxv;obtain ⟨inf,z,t1,t2,t3,t4,t5,t6,t7⟩:=T.tiOk e i he;have hund:P.underlying t=some (.slice e):=T.elemOk _ _ ht;have hzv:∀ w,(zeroValue e).run P w = .ok z w:=fun w=>by simp [zeroValue,typeInfo,t1,t4]
  obtain ⟨hz1,hz2,hz3⟩:=hz;have hzc:=qC (z:=z.cells) t5 (fun h0=>by rw [h0] at hz1;simp at hz1;omega)
  have ev1:∀ r w',(Builtin.clear_ #[t] ty #[a.eval x]).run P w = .ok r w'→(execOp a.eval ⟨none,.call { callee:=.builtin .clear,args:=#[x],argTypes:=#[t] },ty,pos,af,none⟩).run P w = .ok (.value r) w':=fun r w' hr=>by
    simp [execOp,resolve,invoke,builtin,hr]
  have fin:∀ {r:Value} {w':World},(Builtin.clear_ #[t] ty #[a.eval x]).run P w = .ok r w'→HS c ρ S (h.set k (.arr (es.take off) sz)) w'∧iX ρ ρ S S w w'→Oper.wp P ⟨none,.call { callee:=.builtin .clear,args:=#[x],argTypes:=#[t] },ty,pos,af,none⟩ a w K' Q:=fun {r w'} hr ⟨g1,g2⟩=>by
    unfold Oper.wp;rw [ev1 r w' hr];exact hK' _ _ (hk c ρ S _ _ Q ⟨by rw [nG];exact s.size,by rw [kT];exact s.defers.later g2,fun tt uu huu=>(s.env tt uu huu).later g2,g1,s.cm⟩ hQ)
  have stay:HS c ρ S (h.set k (.arr (es.take off) sz)) w∧iX ρ ρ S S w w:=⟨s.hs.alter hkk (HX off) (by simp),⟨fun _ _ h=>h,fun _ h=>h,fun _ _=>rfl,fun _ _ _ _ _ h=>h⟩⟩
  cases len with
  | zero=>
    refine fin (r:=.tuple #[]) ?_ stay;rw [hev];cases ad <;> simp [Builtin.clear_,run_underlying hund]
  | succ m=>
    rcases hxv with ⟨h0,_⟩ | ⟨b,o,hp,ha,hlc,hroom⟩
    · cases h0
    · have hB:=p.blk k _ hkk;obtain ⟨hes,hs0,hB⟩:=hB;rcases hB with hB | ⟨b',o',ys,h4,⟨cc,ct,h5,h6⟩,h7⟩
      · obtain ⟨hB,_⟩:=hB;subst hB;simp at hle
      rw [hp] at h4;cases h4;have hyl:=fZ h7;have hfl:=eR hes;have hmul:(off+(m+1))*sz≤es.length*sz:=fK _ hle;rw [eV] at hmul;have hpos:0<(m+1)*sz:=Nat.mul_pos (by omega) hz3
      have hlast:=h6 (ys.length-1) (ys[ys.length-1]'(by omega)) (aA _)
      have hsz:=(aX.1 hlast).1;obtain ⟨hzm,hzl⟩:=hzc (m+1);rw [hz1] at hzl;generalize hZ:(Builtin.zeroCells z.cells (m+1)).toList=Z at *;have hst:=run_storeCells_at P b (o+off*sz) ct Z 0 cc w h5 (by rw [hzl];omega) (by intro v hv;exact (bF.1 hz2) v (hzm v hv))
      subst ha;refine fin (r:=.tuple #[]) (w':=w.setRow b (cc.toList.take (o+off*sz+0)++Z++cc.toList.drop (o+off*sz+0+Z.length)).toArray) ?_ (s.hs.upd hkk (by simp) hp (rA h5 ?_) fun l=>?_)
      · rw [hev];simp only [Builtin.clear_];simp [run_underlying hund,hzv,hZ,hst]
      · simp;omega
      · refine ⟨fun e he=>hes e (fC he),hz3,.inr ⟨b,o,ys.take (off*sz),rfl,⟨_,ct,setRow_heap w b cc _ ct _ h5,fun j y hj=>?_⟩,?_⟩⟩
        · rw [cE] at hj;split at hj
          · rename_i hjo;have:=h6 j y hj;have hjl:=(aX.1 this).1;rw [iZ,bT,aO (by simp;omega),cE,if_pos (by omega)]
            simpa using this
          · cases hj
        · rw [E5 hes];exact rI (h7.later l) _
end
end Go.Ab
namespace Go.Ld
open Go.Ab Go.Proofs.YtmmkhmilpeodnaaGreat
theorem zI2 {P U V R:List W}{a m b mid n lo hi s:Nat}(ha:a=P.length) (hm:m=a+U.length) (hb:b=m+V.length) (hmid:mid=(a+b) / 2) (hn:n=mid+m) (hU:Up U) (hV:Up V)
    (hc:mid<m∧lo=n-b∧hi=mid∨m≤mid∧lo=a∧hi=m) (hs1:lo≤s) (hs2:s≤hi)
    (h1:∀ x y,lo<s→(P++(U++(V++R)))[s-1]? = some x→(P++(U++(V++R)))[n-s]? = some y→¬ eY y x<0)
    (h2:∀ x y,s<hi→(P++(U++(V++R)))[s]? = some x→(P++(U++(V++R)))[n-1-s]? = some y→eY y x<0) :
    ∃ X1 X2 Y1 Y2,U=X1++X2∧V=Y1++Y2∧s=a+X1.length∧n=(m+Y1.length)+s∧mid=a+X1.length+Y1.length∧eK eY (U++V)=eK eY (X1++Y1)++eK eY (X2++Y2):=by
  have f1:a≤s∧s≤m∧m+s≤n∧n≤b+s:=by rcases hc with ⟨c1,c2,c3⟩ | ⟨c1,c2,c3⟩ <;> omega
  obtain ⟨f1,f2,f3,f4⟩:=f1;refine ⟨U.take (s-a),U.drop (s-a),V.take (n-s-m),V.drop (n-s-m),by simp,by simp,by rw [bL];omega,by rw [bL];omega,by rw [bL,bL];omega,?_⟩
  refine yE8 hU hV (by omega) (by omega) (fun x y h0 hx hy=>?_) (fun x y h0 hx hy=>?_)
  · have i1:=(aB.1 hy).1;refine h1 x y (by rcases hc with ⟨c1,c2,c3⟩ | ⟨c1,c2,c3⟩ <;> omega) ?_ ?_
    · rw [zD9 (k:=s-a-1) (by omega) (by omega)];exact hx
    · rw [zD8 (k:=n-s-m) (by omega) (by omega)];exact hy
  · have i1:=(aB.1 hx).1;refine h2 x y (by rcases hc with ⟨c1,c2,c3⟩ | ⟨c1,c2,c3⟩ <;> omega) ?_ ?_
    · rw [zD9 (k:=s-a) (by omega) (by omega)];exact hx
    · rw [zD8 (k:=n-s-m-1) (by omega) (by omega)];exact hy
theorem yC0 {A B:List W}(h:Up (A++B)):Up A:=(fB.1 h).1
theorem yB9 {A B:List W}(h:Up (A++B)):Up B:=(fB.1 h).2.1
def bs (k:Nat) (l:List W):List W:=if h:l.length≤k∨k=0 then eK eY l else eK eY (l.take k)++bs k (l.drop k)
  termination_by l.length
  decreasing_by simp only [eD];omega
theorem U8 {k:Nat}{l:List W}(h:l.length≤k):bs k l=eK eY l:=by unfold bs;rw [dif_pos (.inl h)]
theorem yF1 {k:Nat}{l:List W}(h:k<l.length) (h0:0<k):bs k l=eK eY (l.take k)++bs k (l.drop k):=by rw [bs,dif_neg (by omega)]
theorem BY {k:Nat}{a b:List W}(h:a.length=k) (h0:0<k):bs k (a++b)=eK eY a++bs k b:=by
  subst h;cases b with
  | nil=>rw [List.append_nil,U8 (bA _),U8 (bW _)];simp [eK]
  | cons x b=>rw [yF1 (by simp) h0,wQ,wV]
theorem zZ6 (k:Nat) (l:List W):(bs k l).length=l.length:=by
  induction hn:l.length using Nat.strongRecOn generalizing l with
  | _ n ih=>
    unfold bs;split
    · rw [jI,hn]
    · rw [aJ,jI,bL,ih (l.drop k).length (by rw [eD];omega) _ rfl,eD];omega
theorem JD (a b:List W):eK eY (eK eY a++eK eY b)=eK eY (a++b):=
  J6 ((dS _ _).trans ((dS _ _).append (dS _ _)).symm) (lX jT _)
end Go.Ld
namespace Go.Proofs.YtmmkhmilpeodnaaGreat
open Go Go.Ab Go.Ld
attribute [local irreducible] VC AW bX aT T3
set_option maxHeartbeats 4000000
theorem zS1:∀ (k:Nat) (P U V R:List W){a m b N:Nat},b-a≤k→0<U.length→0<V.length→a=P.length→m=a+U.length→b=m+V.length→N=b+R.length→N≤100000→Up U→Up V→(∀ w,w∈U→O1 w)→(∀ w,w∈V→O1 w) →
    aT Tryz.prog 162 [.sl 0 0 N 3,.i a,.i m,.i b,rT] [.arr (fH (P++(U++(V++R)))) 3] (.tup []) [.arr (fH (P++(eK eY (U++V)++R))) 3]:=by
  intro k
  induction k with
  | zero=>intros;exfalso;omega
  | succ k ih=>
    intro P U V R a m b N hk hU0 hV0 ha hm hb hN hl hU hV hwU hwV;by_cases hu1:U.length=1
    · obtain ⟨u,rfl⟩:=List.length_eq_one_iff.1 hu1;exact zU6 P u V R ha hm hb hN hl hV (hwU u (by simp)) hwV
    by_cases hv1:V.length=1
    · obtain ⟨v,rfl⟩:=List.length_eq_one_iff.1 hv1;exact zU5 P U v R ha hm hb hN hl (by omega) hU (hwV v (by simp)) hwU
    have hP:((a:Int)+b) / 2 ^ (1:Int).toNat=(((a+b) / 2:Nat):Int):=by rw [show (2:Int) ^ (1:Int).toNat=2 from rfl];omega
    have hw1:IntKind.u64.wrap ((a:Int)+b)=(a:Int)+b:=II (by omega) (by omega)
    have hw2:IntKind.i64.wrap (((a+b) / 2:Nat):Int)=(((a+b) / 2:Nat):Int):=IntWalk.i64_in _ (by omega)
    obtain ⟨mid,hmid⟩:∃ mid,mid=(a+b) / 2:=⟨_,rfl⟩;rw [← hmid] at hP hw2;have hD1:∀ i,a≤i→i<m→(P++(U++(V++R)))[i]? = U[i-a]?:=fun i h1 h2=>zD9 (by omega) (by omega)
    have hD2:∀ i,m≤i→i<b→(P++(U++(V++R)))[i]? = V[i-m]?:=fun i h1 h2=>zD8 (by omega) (by omega)
    have hcut:∀ {lo hi s:Nat},_:=@zI2 P U V R a m b mid (mid+m);generalize hDe:P++(U++(V++R))=D at *;refine bK T Tryz.func162 rfl rfl rfl rfl ?_;apply Go.Ab.cutT (T:=∀ lo hi:Nat,(mid<m∧lo=mid+m-b∧hi=mid∨m≤mid∧lo=a∧hi=m)→_)
    · intro rest;by_cases h:mid<m
      · obtain ⟨lo,hlo⟩:∃ lo:Nat,lo=mid+m-b:=⟨_,rfl⟩;obtain ⟨hi,hhi⟩:∃ hi:Nat,hi=mid:=⟨_,rfl⟩
        (repeat' (first|refine wS ?_|refine wB ?_|refine wK ?_|refine wU ?_|(refine wC rfl ?_ ?_<;>(intro hb;(try simp only [nm] at hb);try (exfalso;omega)))|(refine rg 0 (dK rfl (vV (cX rfl rfl (by omega) (by omega)) (vV (dQ rfl rfl (by omega)) ?_))))|(refine rg 12 (dK rfl (vV (cX rfl rfl (by omega) (by omega)) (vV (dQ rfl rfl (by omega)) ?_))))|(refine rg 24 (dK rfl (vV (bY rfl rfl (by omega) (by omega)) (vV (jR zH rJ rfl hw1) (vV (by exact hP▸uQ rfl rfl (by decide) (by decide)) ?_))));refine vV (jR rJ zH rfl hw2) (aV ?_))|(refine rg 25 (dK rfl (vV (bY rfl rfl (by omega) (by omega)) (aV ?_))))|(refine rg 26 (oM ?_))|(refine rg 27 (dK rfl (vV (eE rfl rfl) ?_)))|(refine rg 28 (dK rfl (vV (cX rfl rfl (by omega) (by omega)) (aV ?_))))|(refine rg 29 (mW rfl (aV ?_)))|(refine rg 32 (mW rfl (vV (cX rfl rfl (by omega) (by omega)) (aV ?_))))|refine nZ ?_));all_goals first | (exfalso;omega) | exact eI [(0,.sl 0 0 N 3),(1,.i a),(2,.i m),(3,.i b),(4,rT),(18,.i mid),(19,.i ((mid:Int)+m)),(20,.i lo),(21,.i hi),(22,.i ((mid:Int)+m-1))] [.arr (fH D) 3] ⟨[0],rfl,⟨rfl,rfl,rfl,rfl,rfl,rfl,rfl,by rw [show (lo:Int)=(mid:Int)+m-b by omega];rfl,by rw [hhi];rfl,rfl,trivial⟩,⟨.inr (aD rfl rfl (bS _)),trivial⟩,by decide,mH⟩ (rest.get lo hi (by omega))
      · obtain ⟨lo,hlo⟩:∃ lo:Nat,lo=a:=⟨_,rfl⟩;obtain ⟨hi,hhi⟩:∃ hi:Nat,hi=m:=⟨_,rfl⟩
        (repeat' (first|refine wS ?_|refine wB ?_|refine wK ?_|refine wU ?_|(refine wC rfl ?_ ?_<;>(intro hb;(try simp only [nm] at hb);try (exfalso;omega)))|(refine rg 0 (dK rfl (vV (cX rfl rfl (by omega) (by omega)) (vV (dQ rfl rfl (by omega)) ?_))))|(refine rg 12 (dK rfl (vV (cX rfl rfl (by omega) (by omega)) (vV (dQ rfl rfl (by omega)) ?_))))|(refine rg 24 (dK rfl (vV (bY rfl rfl (by omega) (by omega)) (vV (jR zH rJ rfl hw1) (vV (by exact hP▸uQ rfl rfl (by decide) (by decide)) ?_))));refine vV (jR rJ zH rfl hw2) (aV ?_))|(refine rg 25 (dK rfl (vV (bY rfl rfl (by omega) (by omega)) (aV ?_))))|(refine rg 26 (oM ?_))|(refine rg 27 (dK rfl (vV (eE rfl rfl) ?_)))|(refine rg 30 (mW rfl (aV ?_)))|(refine rg 31 (mW rfl (aV ?_)))|(refine rg 32 (mW rfl (vV (cX rfl rfl (by omega) (by omega)) (aV ?_))))|refine nZ ?_));all_goals first | (exfalso;omega) | exact eI [(0,.sl 0 0 N 3),(1,.i a),(2,.i m),(3,.i b),(4,rT),(18,.i mid),(19,.i ((mid:Int)+m)),(20,.i lo),(21,.i hi),(22,.i ((mid:Int)+m-1))] [.arr (fH D) 3] ⟨[0],rfl,⟨rfl,rfl,rfl,rfl,rfl,rfl,rfl,by rw [hlo];rfl,by rw [hhi];rfl,rfl,trivial⟩,⟨.inr (aD rfl rfl (bS _)),trivial⟩,by decide,mH⟩ (rest.get lo hi (by omega))
    intro lo hi hc;have hcut:=fun s=>@hcut lo hi s ha hm hb hmid rfl hU hV hc
    refine cO (X:={q:Nat × Nat // lo≤q.1∧q.1≤q.2∧q.2≤hi∧(∀ x y,lo<q.1→D[q.1-1]? = some x→D[mid+m-q.1]? = some y→¬ eY y x<0)∧(∀ x y,q.2<hi→D[q.2]? = some x→D[mid+m-1-q.2]? = some y→eY y x<0)})
      (fun q=>[(0,.sl 0 0 N 3),(1,.i a),(2,.i m),(3,.i b),(4,rT),(18,.i mid),(19,.i ((mid:Int)+m)),(20,.i q.1.1),(21,.i q.1.2),(22,.i ((mid:Int)+m-1))]) (fun _=>[.arr (fH D) 3]) (fun q=>q.1.2-q.1.1) ⟨(lo,hi),by dsimp only;exact ⟨by omega,by omega,by omega,fun x y h=>by omega,fun x y h=>by omega⟩⟩
      ⟨[0],rfl,by (repeat (first | exact trivial | refine ⟨rfl,?_⟩)),⟨.inr (aD rfl rfl (bS _)),trivial⟩,by decide,mH⟩ ?_
    rintro ⟨⟨i,j⟩,h1,h2,h3,h4,h5⟩;dsimp only at h1 h2 h3 h4 h5 ⊢;have hlo:a≤lo∧hi≤m∧m≤mid+m-hi∧mid+m-lo≤b∧lo≤mid+m:=by omega
    by_cases hij:i<j
    · clear hP hw1 hw2;have hP:((i:Int)+j) / 2 ^ (1:Int).toNat=(((i+j) / 2:Nat):Int):=by rw [show (2:Int) ^ (1:Int).toNat=2 from rfl];omega
      have hw1:IntKind.u64.wrap ((i:Int)+j)=(i:Int)+j:=II (by omega) (by omega)
      have hw2:IntKind.i64.wrap (((i+j) / 2:Nat):Int)=(((i+j) / 2:Nat):Int):=IntWalk.i64_in _ (by omega)
      have hh:i≤(i+j) / 2∧(i+j) / 2<j:=by omega
      generalize hq:(i+j) / 2=q at *;obtain ⟨x,hx⟩:∃ x,U[q-a]? = some x:=⟨_,aA (by omega)⟩
      obtain ⟨y,hy⟩:∃ y,V[mid+m-1-q-m]? = some y:=⟨_,aA (by omega)⟩
      have wx:=hwU x (aS hx);have wy:=hwV y (aS hy);rw [← hD1 q (by omega) (by omega)] at hx
      rw [← hD2 (mid+m-1-q) (by omega) (by omega)] at hy
      have q1:=pM (j:=(mid:Int)+m-1-q) hy (by omega)
      have q2:=pM (j:=(q:Int)) hx rfl;have hc':=xF y x wy wx;by_cases h0:eY y x<0
      · generalize hz:eY y x=z at *
        (repeat' (first|refine wS ?_|refine wB ?_|refine wK ?_|(refine wC rfl ?_ ?_<;>(intro hb;(try simp only [nm] at hb);try (exfalso;omega)))|(refine rg 33 (dK rfl (vV (aI rfl rfl) ?_)))|(refine rg 34 (dK rfl (vV (bY rfl rfl (by omega) (by omega)) (vV (jR zH rJ rfl hw1) (vV (by exact hP▸uQ rfl rfl (by decide) (by decide)) ?_))));refine vV (jR rJ zH rfl hw2) (aV ?_))|(refine bQ (id:=35) 220 yN4 (rM 158 14) yN5 cF rfl (by decide +kernel) (dN rfl (dN rfl (dN rfl (dN rfl (dV rfl (cX rfl rfl (by omega) (by omega)) (dV rfl (by exact aK T rfl rfl rfl rfl rfl (by omega) (by omega)) ?_))))));refine dV rfl (by exact aE T rfl rfl (bM rfl q1) rfl) ?_;refine dN rfl (dN rfl (dV rfl (by exact aK T rfl rfl rfl rfl rfl (by omega) (by omega)) ?_));refine dV rfl (by exact aE T rfl rfl (bM rfl q2) rfl) ?_;refine dV rfl (kC (hc')) (dV rfl (aI rfl rfl) (dV rfl (cY rfl) (dE ?_))))|(refine rg 37 (mW rfl (aV ?_)))|refine nZ ?_));all_goals first | (exfalso;omega) | skip
        exact ⟨⟨(i,q),by dsimp only;exact ⟨by omega,by omega,by omega,h4,fun x' y' _ hx' hy'=>by rw [hx] at hx';rw [hy] at hy';cases hx';cases hy';omega⟩⟩,by dsimp only;omega,⟨[0],rfl,by (repeat (first | exact trivial | refine ⟨rfl,?_⟩)),⟨.inr (aD rfl rfl (bS _)),trivial⟩,by decide,mH⟩⟩
      · generalize hz:eY y x=z at *
        (repeat' (first|refine wS ?_|refine wB ?_|refine wK ?_|(refine wC rfl ?_ ?_<;>(intro hb;(try simp only [nm] at hb);try (exfalso;omega)))|(refine rg 33 (dK rfl (vV (aI rfl rfl) ?_)))|(refine rg 34 (dK rfl (vV (bY rfl rfl (by omega) (by omega)) (vV (jR zH rJ rfl hw1) (vV (by exact hP▸uQ rfl rfl (by decide) (by decide)) ?_))));refine vV (jR rJ zH rfl hw2) (aV ?_))|(refine bQ (id:=35) 220 yN4 (rM 158 14) yN5 cF rfl (by decide +kernel) (dN rfl (dN rfl (dN rfl (dN rfl (dV rfl (cX rfl rfl (by omega) (by omega)) (dV rfl (by exact aK T rfl rfl rfl rfl rfl (by omega) (by omega)) ?_))))));refine dV rfl (by exact aE T rfl rfl (bM rfl q1) rfl) ?_;refine dN rfl (dN rfl (dV rfl (by exact aK T rfl rfl rfl rfl rfl (by omega) (by omega)) ?_));refine dV rfl (by exact aE T rfl rfl (bM rfl q2) rfl) ?_;refine dV rfl (kC (hc')) (dV rfl (aI rfl rfl) (dV rfl (cY rfl) (dE ?_))))|(refine iA 36 rfl rfl rfl (by omega) (by omega) ?_)|refine nZ ?_));all_goals first | (exfalso;omega) | skip
        exact ⟨⟨(q+1,j),by dsimp only;exact ⟨by omega,by omega,by omega,fun x' y' _ hx' hy'=>by rw [show q+1-1=q by omega,hx] at hx';rw [show mid+m-(q+1)=mid+m-1-q by omega,hy] at hy';cases hx';cases hy';omega,h5⟩⟩,by dsimp only;omega,⟨[0],rfl,by (repeat (first | exact trivial | refine ⟨rfl,?_⟩)),⟨.inr (aD rfl rfl (bS _)),trivial⟩,by decide,mH⟩⟩
    · obtain rfl:i=j:=by omega
      obtain ⟨X1,X2,Y1,Y2,rfl,rfl,e1,e2,e3,hsrt⟩:=hcut i (by omega) (by omega) h4 h5
      clear hcut h4 h5 hD1 hD2 hP hw1 hw2;rw [hsrt];obtain ⟨e,he⟩:∃ e,e=m+Y1.length:=⟨_,rfl⟩;simp only [aJ] at hm hb hU0 hV0 hu1 hv1;have uX1:=yC0 hU;have uX2:=yB9 hU;have uY1:=yC0 hV;have uY2:=yB9 hV;have w1:=ih P X1 Y1 (X2++(Y2++R)) (a:=a) (m:=i) (b:=mid) (N:=N);have w2:=ih (P++eK eY (X1++Y1)) X2 Y2 R (a:=mid) (m:=e) (b:=b) (N:=N);have hsl:(eK eY (X1++Y1)).length=X1.length+Y1.length:=by rw [jI,aJ]
      have w0:=WZ (P++X1) X2 Y1 (Y2++R) (a:=i) (m:=m) (b:=e) (N:=N);simp only [aJ,hsl] at w0 w1 w2;have c0:i<m→m<e→_:=fun h h'=>w0 (by omega) (by omega) (by omega) (by omega) hl (by omega) (by omega)
      have c1:a<i→i<mid→_:=fun h h'=>w1 (by omega) (by omega) (by omega) ha (by omega) (by omega) (by omega) hl uX1 uY1 (fun w hw=>hwU w (by simp [hw])) (fun w hw=>hwV w (by simp [hw]))
      have c2:mid<e→e<b→_:=fun h h'=>w2 (by omega) (by omega) (by omega) (by omega) (by omega) (by omega) (by omega) hl uX2 uY2 (fun w hw=>hwU w (by simp [hw])) (fun w hw=>hwV w (by simp [hw]))
      have d0:¬ (i<m∧m<e)→D=P++(X1++(Y1++(X2++(Y2++R)))):=fun h=>by
        rw [← hDe];by_cases h':X2.length=0
        · rw [cK h'];simp
        · rw [cK (show Y1.length=0 by omega)];simp
      have d1:¬ (a<i∧i<mid)→P++(X1++(Y1++(X2++(Y2++R))))=P++(eK eY (X1++Y1)++(X2++(Y2++R))):=fun h=>by
        by_cases h':X1.length=0
        · rw [cK h',List.nil_append,List.nil_append,X0 uY1]
        · rw [cK (show Y1.length=0 by omega),List.nil_append,List.append_nil,X0 uX1]
      have d2:¬ (mid<e∧e<b)→P++(eK eY (X1++Y1)++(X2++(Y2++R)))=P++(eK eY (X1++Y1)++eK eY (X2++Y2)++R):=fun h=>by
        by_cases h':X2.length=0
        · rw [cK h',List.nil_append,List.nil_append,X0 uY2];simp
        · rw [cK (show Y2.length=0 by omega),List.nil_append,List.append_nil,X0 uX2];simp
      have g0:(P++X1)++(X2++(Y1++(Y2++R)))=D:=by rw [← hDe];simp
      have g1:(P++X1)++(Y1++(X2++(Y2++R)))=P++(X1++(Y1++(X2++(Y2++R)))):=by simp
      have g2:(P++eK eY (X1++Y1))++(X2++(Y2++R))=P++(eK eY (X1++Y1)++(X2++(Y2++R))):=by simp
      have g3:(P++eK eY (X1++Y1))++(eK eY (X2++Y2)++R)=P++(eK eY (X1++Y1)++eK eY (X2++Y2)++R):=by simp
      rw [g0,g1] at c0;rw [g2,g3] at c2;clear w0 w1 w2 ih g0 g1 g2 g3 hDe hwU hwV;generalize P++(eK eY (X1++Y1)++eK eY (X2++Y2)++R)=A3 at *;generalize P++(eK eY (X1++Y1)++(X2++(Y2++R)))=A2 at *;generalize P++(X1++(Y1++(X2++(Y2++R))))=A1 at *;apply Go.Ab.cutT
      · intro rest;by_cases h:i<m∧m<e
        · have hc':=c0 h.1 h.2;rw [show (e:Int)=(mid:Int)+m-i by omega] at hc'
          (repeat' (first|refine wS ?_|refine wE ?_|(refine wC rfl ?_ ?_<;>(intro hb;(try simp only [nm] at hb);try (exfalso;omega)))|(refine rg 33 (dK rfl (vV (aI rfl rfl) ?_)))|(refine rg 38 (dK rfl (vV (cX rfl rfl (by omega) (by omega)) (aV ?_))))|(refine rg 39 (dK rfl (vV (aI rfl rfl) (mV ?_)));refine bC rfl rfl ?_ ?_<;>(intro hb;rw [hb];(try simp only [nm] at hb);try (exfalso;omega));(all_goals (refine yN rfl (yN rfl (yV (aI rfl rfl) (pV ?_))))))|(refine rg 40 (dK rfl (dK rfl (mW rfl (fP [0] rfl rfl (hc') rfl rfl (by decide) ⟨.inr (aD rfl rfl (bS _)),trivial⟩ (by simp) rfl ?_)))))|refine nZ ?_));all_goals first | (exfalso;omega) | exact eI [(0,.sl 0 0 N 3),(1,.i a),(3,.i b),(4,rT),(18,.i mid),(20,.i i),(24,.i e)] [.arr (fH A1) 3] ⟨[0],rfl,⟨rfl,rfl,rfl,rfl,rfl,rfl,by rw [show (e:Int)=(mid:Int)+m-i by omega];rfl,trivial⟩,⟨.inr (aD rfl (cJ _ (bS _)) (bS _)),trivial⟩,by decide,mH⟩ rest.get
        · obtain rfl:=d0 h
          (repeat' (first|refine wS ?_|refine wK ?_|refine wE ?_|refine wU ?_|(refine wC rfl ?_ ?_<;>(intro hb;(try simp only [nm] at hb);try (exfalso;omega)))|(refine rg 33 (dK rfl (vV (aI rfl rfl) ?_)))|(refine rg 38 (dK rfl (vV (cX rfl rfl (by omega) (by omega)) (aV ?_))))|(refine rg 39 (dK rfl (vV (aI rfl rfl) (mV ?_)));refine bC rfl rfl ?_ ?_<;>(intro hb;rw [hb];(try simp only [nm] at hb);try (exfalso;omega));(all_goals first|(refine gT (mW rfl (gT (mW rfl (gT (vV (aI rfl rfl) ?_))))))|(iterate 3 refine gF ?_));(all_goals (refine pV ?_)))|refine nZ ?_));all_goals first | (exfalso;omega) | exact eI [(0,.sl 0 0 N 3),(1,.i a),(3,.i b),(4,rT),(18,.i mid),(20,.i i),(24,.i e)] [.arr (fH D) 3] ⟨[0],rfl,⟨rfl,rfl,rfl,rfl,rfl,rfl,by rw [show (e:Int)=(mid:Int)+m-i by omega];rfl,trivial⟩,⟨.inr (aD rfl rfl (bS _)),trivial⟩,by decide,mH⟩ rest.get
      clear c0 d0;apply Go.Ab.cutT
      · intro rest;by_cases h:a<i∧i<mid
        · have hc':=c1 h.1 h.2
          (repeat' (first|refine wS ?_|(refine wC rfl ?_ ?_<;>(intro hb;(try simp only [nm] at hb);try (exfalso;omega)))|(refine rg 41 (dK rfl (vV (aI rfl rfl) (mV ?_)));refine bC rfl rfl ?_ ?_<;>(intro hb;rw [hb];(try simp only [nm] at hb);try (exfalso;omega));(all_goals (refine yN rfl (yN rfl (yV (aI rfl rfl) (pV ?_))))))|(refine rg 42 (dK rfl (dK rfl (mW rfl (fP [0] rfl rfl (hc') rfl rfl (by decide) ⟨.inr (aD rfl rfl (bS _)),trivial⟩ (by simp) rfl ?_)))))|refine nZ ?_));all_goals first | (exfalso;omega) | exact eI [(0,.sl 0 0 N 3),(1,.i a),(3,.i b),(4,rT),(18,.i mid),(24,.i e)] [.arr (fH A2) 3] ⟨[0],rfl,(by repeat first|exact trivial|refine ⟨rfl,?_⟩),⟨.inr (aD rfl (cJ _ (bS _)) (bS _)),trivial⟩,by decide,mH⟩ rest.get
        · obtain rfl:=d1 h
          (repeat' (first|refine wS ?_|refine wK ?_|refine wU ?_|(refine wC rfl ?_ ?_<;>(intro hb;(try simp only [nm] at hb);try (exfalso;omega)))|(refine rg 41 (dK rfl (vV (aI rfl rfl) (mV ?_)));refine bC rfl rfl ?_ ?_<;>(intro hb;rw [hb];(try simp only [nm] at hb);try (exfalso;omega));(all_goals first|(refine gT (mW rfl (gT (mW rfl (gT (vV (aI rfl rfl) ?_))))))|(iterate 3 refine gF ?_));(all_goals (refine pV ?_)))|refine nZ ?_));all_goals first | (exfalso;omega) | exact eI [(0,.sl 0 0 N 3),(1,.i a),(3,.i b),(4,rT),(18,.i mid),(24,.i e)] [.arr (fH A1) 3] ⟨[0],rfl,(by repeat first|exact trivial|refine ⟨rfl,?_⟩),⟨.inr (aD rfl rfl (bS _)),trivial⟩,by decide,mH⟩ rest.get
      clear c1 d1;by_cases h:mid<e∧e<b
      · have hc':=c2 h.1 h.2
        (repeat' (first|(refine wC rfl ?_ ?_<;>(intro hb;(try simp only [nm] at hb);try (exfalso;omega)))|(refine rg 43 (dK rfl (vV (aI rfl rfl) (mV ?_)));refine bC rfl rfl ?_ ?_<;>(intro hb;rw [hb];(try simp only [nm] at hb);try (exfalso;omega));(all_goals (refine yN rfl (yN rfl (yV (aI rfl rfl) (pV ?_))))))|(refine rg 44 (dK rfl (dK rfl (mW rfl (fP [0] rfl rfl (hc') rfl rfl (by decide) ⟨.inr (aD rfl rfl (bS _)),trivial⟩ (by simp) rfl ?_)))))|refine nZ ?_));all_goals first | (exfalso;omega) | exact ⟨.inl rfl,[0],_,rfl,rfl,rfl,⟨.inr (aD rfl (cJ _ (bS _)) (bS _)),trivial⟩,by decide,mH⟩ | exact ⟨.inr rfl,[0],_,rfl,rfl,rfl,⟨.inr (aD rfl (cJ _ (bS _)) (bS _)),trivial⟩,by decide,mH⟩
      · obtain rfl:=d2 h
        (repeat' (first|refine wK ?_|refine wU ?_|(refine wC rfl ?_ ?_<;>(intro hb;(try simp only [nm] at hb);try (exfalso;omega)))|(refine rg 43 (dK rfl (vV (aI rfl rfl) (mV ?_)));refine bC rfl rfl ?_ ?_<;>(intro hb;rw [hb];(try simp only [nm] at hb);try (exfalso;omega));(all_goals first|(refine gT (mW rfl (gT (mW rfl (gT (vV (aI rfl rfl) ?_))))))|(iterate 3 refine gF ?_));(all_goals (refine pV ?_)))|refine nZ ?_));all_goals first | (exfalso;omega) | exact ⟨.inl rfl,[0],_,rfl,rfl,rfl,⟨.inr (aD rfl rfl (bS _)),trivial⟩,by decide,mH⟩ | exact ⟨.inr rfl,[0],_,rfl,rfl,rfl,⟨.inr (aD rfl rfl (bS _)),trivial⟩,by decide,mH⟩
end Go.Proofs.YtmmkhmilpeodnaaGreat
namespace Go.Ld
open Go.Ab Go.Proofs.YtmmkhmilpeodnaaGreat
theorem PX {Q r1 r2:List W}{a b:Nat}(ha:a=Q.length) (hb:b=a+r1.length):VN (Q++(r1++r2)) a b=Q++(eK eY r1++r2):=by
  subst ha hb;unfold VN;rw [wQ,wV,show Q.length+r1.length-Q.length=r1.length by omega,wQ,← MW,wV,wV]
theorem RA {Q r1 r2:List W}{w:W}(h:w∈(Q++eK eY r1)++r2):w∈Q++(r1++r2):=by
  rw [bT] at h;rcases bG.1 h with h | h
  · exact bG.2 (.inl h)
  · rcases bG.1 h with h | h
    · exact bG.2 (.inr (bG.2 (.inl ((dS _ _).mem_iff.1 h))))
    · exact bG.2 (.inr (bG.2 (.inr h)))
end Go.Ld
namespace Go.Proofs.YtmmkhmilpeodnaaGreat
open Go Go.Ab Go.Ld
attribute [local irreducible] VC AW bX aT
set_option maxHeartbeats 4000000
theorem WN (l:List W){N:Nat}(hN:N=l.length) (hl:N≤100000) (hw:∀ w,w∈l→O1 w) :
    aT Tryz.prog 132 [.sl 0 0 N 3,.i N,rT] [.arr (fH l) 3] (.tup []) [.arr (fH (eK eY l)) 3]:=by
  refine bK T Tryz.func132 rfl rfl rfl rfl ?_;apply Go.Ab.cutT
  · intro rest
    (repeat' (first|refine wS ?_|refine wB ?_|(refine rg 0 (aV ?_))|(refine rg 1 (mW rfl (oM ?_)))|refine nZ ?_));refine cO (X:={q:Nat × List W × List W // q.2.1.length=q.1∧q.1+q.2.2.length=N∧bs 20 l=q.2.1++bs 20 q.2.2∧∀ w,w∈q.2.1++q.2.2→w∈l})
      (fun q=>[(0,.sl 0 0 N 3),(1,.i N),(2,rT),(6,.i 20),(7,.i q.1.1),(8,.i ((q.1.1:Int)+20))]) (fun q=>[.arr (fH (q.1.2.1++q.1.2.2)) 3]) (fun q=>q.1.2.2.length) ⟨(0,[],l),by simp;omega⟩
      ⟨[0],rfl,by (repeat (first | exact trivial | refine ⟨rfl,?_⟩)),⟨.inr (aD rfl rfl (bS _)),trivial⟩,by decide,mH⟩ ?_
    rintro ⟨⟨a,Q,r⟩,h1,h2,h3,h4⟩;dsimp only at h1 h2 h3 h4 ⊢;by_cases hlt:a+20≤N
    · obtain ⟨r1,r2,rfl,hr⟩:∃ r1 r2,r=r1++r2∧r1.length=20:=⟨r.take 20,r.drop 20,by simp,by simp;omega⟩
      rw [aJ] at h2;have hc:=KZ (Q++(r1++r2)) a (a+20) (by omega) (by simp;omega) (by simp;omega) (fun w hw'=>hw w (h4 w hw'))
      rw [PX h1.symm (by omega),show (Q++(r1++r2)).length=N by simp;omega,show ((a+20:Nat):Int)=(a:Int)+20 by omega] at hc
      rw [BY hr (by omega)] at h3
      (repeat' (first|refine wS ?_|refine wB ?_|refine wK ?_|(refine wC rfl ?_ ?_<;>(intro hb;(try simp only [nm] at hb);try (exfalso;omega)))|(refine rg 2 (dK rfl (vV (lA rfl rfl) ?_)))|(refine rg 3 (dK rfl (dK rfl (fP [0] rfl rfl (hc) rfl rfl (by decide) ⟨.inr (aD rfl rfl (bS _)),trivial⟩ (by simp) rfl ?_))))|(refine rg 4 (mW rfl (aV ?_)))|(refine rg 5 (dK rfl (vV (bY rfl rfl (by omega) (by omega)) (aV ?_))))|refine nZ ?_));all_goals first | (exfalso;omega) | skip
      exact ⟨⟨(a+20,Q++eK eY r1,r2),by dsimp only;exact ⟨by rw [aJ,jI];omega,by omega,by rw [h3];simp,fun w hw'=>h4 w (RA hw')⟩⟩,by dsimp only;rw [aJ];omega,⟨[0],rfl,by (repeat (first | exact trivial | refine ⟨rfl,?_⟩)),⟨.inr (aD rfl (by rw [cJ _ (bS _),bT]) (bS _)),trivial⟩,by decide,mH⟩⟩
    · have hc:=KZ (Q++(r++[])) a N (by omega) (by simp;omega) (by simp;omega) (fun w hw'=>hw w (h4 w (by simpa using hw')))
      rw [PX h1.symm (by omega),List.append_nil,List.append_nil,show (Q++r).length=N by simp;omega,← U8 (k:=20) (by omega),← h3] at hc
      (repeat' (first|refine wS ?_|refine wB ?_|refine wE ?_|(refine wC rfl ?_ ?_<;>(intro hb;(try simp only [nm] at hb);try (exfalso;omega)))|(refine rg 2 (dK rfl (vV (lA rfl rfl) ?_)))|(refine rg 6 (dK rfl (dK rfl (fP [0] rfl rfl (hc) rfl rfl (by decide) ⟨.inr (aD rfl rfl (bS _)),trivial⟩ (by simp) rfl ?_))))|refine nZ ?_));all_goals first | (exfalso;omega) | exact eI [(0,.sl 0 0 N 3),(1,.i N),(2,rT),(6,.i 20)] [.arr (fH (bs 20 l)) 3] ⟨[0],rfl,by (repeat (first | exact trivial | refine ⟨rfl,?_⟩)),⟨.inr (aD rfl (cJ _ (bS _)) (bS _)),trivial⟩,by decide,mH⟩ rest.get
  refine cO (X:={k:Nat // 20≤k∧k≤200000}) (fun k=>[(0,.sl 0 0 N 3),(1,.i N),(2,rT),(6,.i k.1)]) (fun k=>[.arr (fH (bs k.1 l)) 3]) (fun k=>N-k.1) ⟨20,by omega,by omega⟩
    ⟨[0],rfl,by (repeat (first | exact trivial | refine ⟨rfl,?_⟩)),⟨.inr (aD rfl rfl (bS _)),trivial⟩,by decide,mH⟩ ?_
  rintro ⟨k,hk,hk2⟩;dsimp only;by_cases hkN:k<N
  · (repeat' (first|refine wS ?_|refine wB ?_|refine wK ?_|(refine wC rfl (fun hb=>?_) (fun hb=>?_) <;> (((try simp only [nm] at hb);try (exfalso;omega))))|(refine rg 7 (dK rfl (vV (aI rfl rfl) ?_)))|(refine rg 8 (mW rfl (vV (E2 rfl rfl (by omega) (by omega)) (oM ?_))))|(refine nZ ?_)));all_goals try (exfalso;omega)
    refine cO (X:={q:Nat × List W × List W // q.2.1.length=q.1∧q.1+q.2.2.length=N∧bs (2*k) l=q.2.1++bs (2*k) q.2.2∧∀ w,w∈q.2.1++q.2.2→w∈l})
      (fun q=>[(0,.sl 0 0 N 3),(1,.i N),(2,rT),(6,.i k),(7,.i q.1.1),(8,.i ((q.1.1:Int)+2*k))]) (fun q=>[.arr (fH (q.1.2.1++bs k q.1.2.2)) 3]) (fun q=>q.1.2.2.length) ⟨(0,[],l),by simp;omega⟩
      ⟨[0],rfl,⟨rfl,rfl,rfl,rfl,rfl,by dsimp only;rw [show ((0:Nat):Int)+2*(k:Int)=2*k by omega];rfl,trivial⟩,⟨.inr (aD rfl rfl (bS _)),trivial⟩,by decide,mH⟩ ?_
    rintro ⟨⟨a,Q,r⟩,h1,h2,h3,h4⟩;dsimp only at h1 h2 h3 h4 ⊢;by_cases hlt:a+2*k≤N
    · obtain ⟨r1,r2,r3,rfl,hr1,hr2⟩:∃ r1 r2 r3,r=r1++(r2++r3)∧r1.length=k∧r2.length=k:=⟨r.take k,(r.drop k).take k,(r.drop k).drop k,by simp only [bR],by simp;omega,by simp;omega⟩
      simp only [aJ] at h2;have hc:=zS1 (2*k) Q (eK eY r1) (eK eY r2) (bs k r3) (a:=a) (m:=a+k) (b:=a+2*k) (N:=N) (by omega) (by rw [jI]; omega) (by rw [jI]; omega) h1.symm (by rw [jI]; omega) (by rw [jI]; omega) (by rw [zZ6]; omega) hl (lX jT _) (lX jT _)
        (fun w hw'=>hw w (h4 w (by have:=(dS eY _).mem_iff.1 hw';simp [this]))) (fun w hw'=>hw w (h4 w (by have:=(dS eY _).mem_iff.1 hw';simp [this])))
      rw [JD,← BY hr2 (by omega),← BY hr1 (by omega),show ((a+2*k:Nat):Int)=(a:Int)+2*k by omega,show ((a+k:Nat):Int)=(a:Int)+k by omega] at hc
      rw [← bT r1,BY (k:=2*k) (by rw [aJ];omega) (by omega)] at h3
      (repeat' (first|refine wS ?_|refine wB ?_|refine wK ?_|(refine wC rfl ?_ ?_<;>(intro hb;(try simp only [nm] at hb);try (exfalso;omega)))|(refine rg 9 (dK rfl (vV (lA rfl rfl) ?_)))|(refine rg 10 (dK rfl (dK rfl (vV (bY rfl rfl (by omega) (by omega)) (dK rfl (fP [0] rfl rfl (hc) rfl rfl (by decide) ⟨.inr (aD rfl rfl (bS _)),trivial⟩ (by simp) rfl ?_))))))|(refine rg 11 (mW rfl (aV ?_)))|(refine rg 12 (dK rfl (vV (E2 rfl rfl (by omega) (by omega)) (vV (bY rfl rfl (by omega) (by omega)) (aV ?_)))))|refine nZ ?_));all_goals first | (exfalso;omega) | skip
      exact ⟨⟨(a+2*k,Q++eK eY (r1++r2),r3),by dsimp only;exact ⟨by rw [aJ,jI,aJ];omega,by omega,by rw [h3];simp,fun w hw'=>h4 w (by have:=RA hw';rwa [bT] at this)⟩⟩,by dsimp only;simp only [aJ];omega,⟨[0],rfl,by (repeat (first | exact trivial | refine ⟨rfl,?_⟩)),⟨.inr (aD rfl (by rw [cJ _ (bS _),bT]) (bS _)),trivial⟩,by decide,mH⟩⟩
    · by_cases hm:a+k<N
      · obtain ⟨r1,r2,rfl,hr1⟩:∃ r1 r2,r=r1++r2∧r1.length=k:=⟨r.take k,r.drop k,by simp,by simp;omega⟩
        simp only [aJ] at h2;have hc:=zS1 (2*k) Q (eK eY r1) (eK eY r2) [] (a:=a) (m:=a+k) (b:=N) (N:=N) (by omega) (by rw [jI]; omega) (by rw [jI]; omega) h1.symm (by rw [jI]; omega) (by rw [jI]; omega) (by simp) hl (lX jT _) (lX jT _)
          (fun w hw'=>hw w (h4 w (by have:=(dS eY _).mem_iff.1 hw';simp [this]))) (fun w hw'=>hw w (h4 w (by have:=(dS eY _).mem_iff.1 hw';simp [this])))
        rw [JD,List.append_nil,List.append_nil,← U8 (k:=2*k) (l:=r1++r2) (by rw [aJ];omega),← h3,← U8 (k:=k) (l:=r2) (by omega),← BY hr1 (by omega),show ((a+k:Nat):Int)=(a:Int)+k by omega] at hc
        (repeat' (first|refine wS ?_|refine wE ?_|(refine wC rfl ?_ ?_<;>(intro hb;(try simp only [nm] at hb);try (exfalso;omega)))|(refine rg 9 (dK rfl (vV (lA rfl rfl) ?_)))|(refine rg 13 (dK rfl (vV (bY rfl rfl (by omega) (by omega)) (aV ?_))))|(refine rg 14 (dK rfl (vV (aI rfl rfl) ?_)))|(refine rg 15 (dK rfl (dK rfl (mW rfl (fP [0] rfl rfl (hc) rfl rfl (by decide) ⟨.inr (aD rfl rfl (bS _)),trivial⟩ (by simp) rfl ?_)))))|(refine rg 16 (mW rfl (vV (E2 rfl rfl (by omega) (by omega)) (aV ?_))))|refine nZ ?_));all_goals first | (exfalso;omega) | skip
        exact ⟨⟨2*k,by omega,by omega⟩,by dsimp only;omega,⟨[0],rfl,⟨rfl,rfl,rfl,by dsimp only;rw [show ((2*k:Nat):Int)=(k:Int)*2 by omega];rfl,trivial⟩,⟨.inr (aD rfl (cJ _ (bS _)) (bS _)),trivial⟩,by decide,mH⟩⟩
      · rw [U8 (k:=2*k) (l:=r) (by omega),← U8 (k:=k) (l:=r) (by omega)] at h3
        rw [← h3]
        (repeat' (first|refine wS ?_|refine wK ?_|refine wE ?_|(refine wC rfl ?_ ?_<;>(intro hb;(try simp only [nm] at hb);try (exfalso;omega)))|(refine rg 9 (dK rfl (vV (lA rfl rfl) ?_)))|(refine rg 13 (dK rfl (vV (bY rfl rfl (by omega) (by omega)) (aV ?_))))|(refine rg 14 (dK rfl (vV (aI rfl rfl) ?_)))|(refine rg 16 (mW rfl (vV (E2 rfl rfl (by omega) (by omega)) (aV ?_))))|refine nZ ?_));all_goals first | (exfalso;omega) | skip
        exact ⟨⟨2*k,by omega,by omega⟩,by dsimp only;omega,⟨[0],rfl,⟨rfl,rfl,rfl,by dsimp only;rw [show ((2*k:Nat):Int)=(k:Int)*2 by omega];rfl,trivial⟩,⟨.inr (aD rfl rfl (bS _)),trivial⟩,by decide,mH⟩⟩
  · rw [U8 (k:=k) (l:=l) (by omega)]
    (repeat' (first|refine wS ?_|refine wE ?_|(refine wC rfl ?_ ?_<;>(intro hb;(try simp only [nm] at hb);try (exfalso;omega)))|(refine rg 7 (dK rfl (vV (aI rfl rfl) ?_)))|refine nZ ?_));all_goals first | (exfalso;omega) | exact ⟨.inl rfl,[0],_,rfl,rfl,rfl,⟨.inr (aD rfl rfl (bS _)),trivial⟩,by decide,mH⟩ | exact ⟨.inr rfl,[0],_,rfl,rfl,rfl,⟨.inr (aD rfl rfl (bS _)),trivial⟩,by decide,mH⟩
theorem zI5 (l:List W){N:Nat}(hN:N=l.length) (hl:N≤100000) (hw:∀ w,w∈l→O1 w) :
    aT Tryz.prog 96 [.sl 0 0 N 3,rT] [.arr (fH l) 3] (.tup []) [.arr (fH (eK eY l)) 3]:=by
  have hc:=WN l hN hl hw;refine bK T Tryz.func96 rfl rfl rfl rfl ?_
  (repeat' (first|(refine rg 0 (dK rfl (qW T rfl (mW rfl (fP [0] rfl rfl (hc) rfl rfl (by decide) ⟨.inr (aD rfl rfl (bS _)),trivial⟩ (by simp) rfl ?_)))))|refine nZ ?_));all_goals first | (exfalso;omega) | exact ⟨.inl rfl,[0],_,rfl,rfl,rfl,⟨.inr (aD rfl (cJ _ (bS _)) (bS _)),trivial⟩,by decide,mH⟩ | exact ⟨.inr rfl,[0],_,rfl,rfl,rfl,⟨.inr (aD rfl (cJ _ (bS _)) (bS _)),trivial⟩,by decide,mH⟩
end Go.Proofs.YtmmkhmilpeodnaaGreat
namespace Go.Ld
open Go.Ab Go.Proofs.YtmmkhmilpeodnaaGreat
abbrev w0:W:=([],0,[])
def B2 (l:List W):Nat→List W
  | 0=>[]
  | m+1=>if 0<m∧G6 (l.getD m w0) (l.getD (m-1) w0)=true then B2 l m else B2 l m++[l.getD m w0]
theorem OU {l:List W}{m:Nat}(h:0<m) (e:G6 (l.getD m w0) (l.getD (m-1) w0)=true):B2 l (m+1)=B2 l m:=by
  rw [B2,if_pos ⟨h,e⟩]
theorem OT {l:List W}{m:Nat}(e:G6 (l.getD m w0) (l.getD (m-1) w0)=false):B2 l (m+1)=B2 l m++[l.getD m w0]:=by
  rw [B2,if_neg (fun q=>by rw [e] at q;cases q.2)]
theorem OS (l:List W):B2 l 1=[l.getD 0 w0]:=by
  rw [B2,if_neg (fun q=>yI9 _ q.1)];rfl
theorem FD (y:W):∀ (A:List W) (p:W),kX G6 p (A++[y])=kX G6 p A++(if G6 y ((p::A).getLastD w0)=true then [] else [y])
  | [],p=>by
    show (if G6 y p=true then [] else [y])=_
    simp [kX]
  | x::A,p=>by
    rw [List.cons_append,kX,kX,FD y A x];have e:((p::x::A).getLastD w0)=((x::A).getLastD w0):=by simp [List.getLastD]
    rw [e];split <;> simp
theorem zB9 (y:W) (A:List W) (h:A≠[]):A9 G6 (A++[y])=A9 G6 A++(if G6 y (A.getLastD w0)=true then [] else [y]):=by
  cases A with
  | nil=>exact absurd rfl h
  | cons x A=>rw [List.cons_append];show x::kX G6 x (A++[y])=_;rw [FD];rfl
theorem oW {l:List W}{m:Nat}(h:m<l.length):l.getD m w0=l[m]:=by rw [aC,aA h];rfl
theorem RT (l:List W):∀ m,m≤l.length→B2 l m=A9 G6 (l.take m)
  | 0,_=>by rw [mD];rfl
  | m+1,h=>by
    have e:l.take (m+1)=l.take m++[l.getD m w0]:=by rw [oW (by omega),aP (by omega)]
    rcases N6 m with rfl | h0
    · rw [OS,e];rfl
    · have hne:l.take m≠[]:=fun q=>by have:=congrArg List.length q;rw [bL,List.length_nil] at this;omega
      rw [e,zB9 _ _ hne,← RT l m (by omega)]
      have hl:(l.take m).getLastD w0=l.getD (m-1) w0:=by
        rw [List.getLastD_eq_getLast?,List.getLast?_eq_getElem?,bL,yA5 (by omega),List.getElem?_take_of_lt (by omega),aC]
      rw [hl];cases hq:G6 (l.getD m w0) (l.getD (m-1) w0) with
      | true=>rw [OU h0 hq,if_pos rfl,List.append_nil]
      | false=>rw [OT hq,if_neg (by simp)]
theorem zZ3 (l:List W):B2 l l.length=A9 G6 l:=by rw [RT l _ (bA _),dI]
theorem yJ9 {l:List W}{m i:Nat}(hm:m<l.length) (hi:i=m):(fH l)[i]? = some (wA (l.getD m w0)):=by
  subst hi;simp [hm]
theorem PB {G l:List W}{m:Nat}{i:Nat}(hg:G.length≤m) (hm:m<l.length) (hi:i=m):(fH (G++l.drop G.length))[i]? = some (wA (l.getD m w0)):=by
  subst hi;rw [bZ,aG hg,eU,show G.length+(i-G.length)=i by omega,aA hm,oW hm];rfl
theorem zU7 {G l:List W}{x:W}{j:Int}(h:G.length<l.length) (hj:j=G.length):(fH (G++l.drop G.length)).set (0+j.toNat) (wA x)=fH ((G++[x])++l.drop (G++[x]).length):=by
  rw [wZ (i:=G.length) hj,bB h,oC _ _ _ _ rfl];simp
theorem UA {G l:List W}(h:G.length≤l.length):(fH (G++l.drop G.length)).length=l.length:=by simp;omega
theorem WF {G:List W}{l:List W}:(fH (G++l.drop G.length)).take (0+(G.length:Int).toNat)=fH G:=by
  rw [Nat.zero_add,bH,← lS,wQ]
end Go.Ld
namespace Go.Proofs.YtmmkhmilpeodnaaGreat
open Go Go.Ab Go.Ld
attribute [local irreducible] VC AW bX aT
set_option maxHeartbeats 4000000
abbrev yI2:AV:=.clo (.func 102) [] []
theorem OQ (l:List W) (hl:l.length≤1000000) (hw:∀ w,w∈l→O1 w):aT Tryz.prog 101 [.sl 0 0 l.length 3,yI2] [.arr (fH l) 3] (.sl 0 0 (A9 G6 l).length 3) [.arr (fH (A9 G6 l)) 3]:=by
  rw [← zZ3];have hll:(fH l).length=l.length:=fJ l;refine bK T Tryz.func101 rfl rfl rfl rfl ?_;by_cases h2:l.length<2
  · have hk:B2 l l.length=l:=by
      match l,h2 with
      | [],_=>rfl
      | [a],_=>exact OS _
      | _::_::_,h=>exact absurd h (by simp)
    rw [hk]
    (repeat' (first|refine wS ?_|refine wR ?_|(refine wC rfl ?_ ?_<;>(intro hb;(try simp only [nm] at hb);try (exfalso;omega)))|(refine rg 0 (aV ?_))|(refine rg 1 (mW rfl (qW T rfl (vV (aI rfl rfl) ?_))))|(refine rg 2 (mW rfl (aV ?_)))|refine nZ ?_));all_goals first | (exfalso;omega) | exact ⟨.inl rfl,[0],_,rfl,rfl,rfl,⟨.inr (aD rfl rfl (bS _)),trivial⟩,by decide,mH⟩
  · (repeat' (first|refine wS ?_|refine wB ?_|refine wK ?_|(refine wC rfl (fun hb=>?_) (fun hb=>?_) <;> (((try simp only [nm] at hb);try (exfalso;omega))))|(refine rg 0 (aV ?_))|(refine rg 1 (mW rfl (qW T rfl (vV (aI rfl rfl) ?_))))|(refine rg 3 (aV ?_))|(refine nZ ?_)));all_goals try (exfalso;omega)
    refine cO (X:={k:Nat // 1≤k∧k≤l.length∧B2 l k=l.take k}) (fun k=>[(0,.sl 0 0 l.length 3),(1,yI2),(5,.i k.1)]) (fun _=>[.arr (fH l) 3]) (fun k=>l.length-k.1) ⟨1,by omega,by omega,by rw [OS,oW (by omega),aP (by omega)];rfl⟩ ⟨[0],rfl,by (repeat (first | exact trivial | refine ⟨rfl,?_⟩)),⟨.inr (aD rfl rfl (bS _)),trivial⟩,by decide,mH⟩ ?_
    rintro ⟨k,hk1,hk,hkc⟩;dsimp only;by_cases hlt:k<l.length
    · have e1:=yJ9 (i:=0+(k:Int).toNat) hlt (by omega)
      have e2:=yJ9 (l:=l) (m:=k-1) (i:=0+((k:Int)-1).toNat) (by omega) (by omega)
      have hc:=BA (l.getD k w0) (l.getD (k-1) w0) (hw _ (by rw [oW hlt];exact aH _)) (hw _ (by rw [oW (by omega)];exact aH _))
      cases hd:G6 (l.getD k w0) (l.getD (k-1) w0) with
      | true=>
        have hc1:=OU (l:=l) hk1 hd;rw [hkc] at hc1;rw [hd] at hc;clear hd;generalize l.getD k w0=a at *;generalize l.getD (k-1) w0=b at *
        (repeat' (first|refine wS ?_|refine wB ?_|refine wK ?_|refine wT ?_|(refine wC rfl ?_ ?_<;>(intro hb;(try simp only [nm] at hb);try (exfalso;omega)))|(refine rg 4 (dK rfl (qW T rfl (vV (aI rfl rfl) ?_))))|(refine rV (id:=6) 10 66 yN6 yN7 (rM 18 10) yN8 cF rfl (by decide +kernel) (by decide +kernel) ?_;(dsimp only [List.take,List.drop]);refine dN rfl (dN rfl (dN rfl (dV rfl (by exact aK T rfl rfl rfl rfl rfl (by omega) (by omega)) ?_)));refine dV rfl (by exact aE T rfl rfl (bM rfl e1) rfl) ?_;refine dN rfl (dN rfl (dV rfl (cX rfl rfl (by omega) (by omega)) (dV rfl (by exact aK T rfl rfl rfl rfl rfl (by omega) (by omega)) ?_)));refine dV rfl (by exact aE T rfl rfl (bM rfl e2) rfl) ?_;refine dE ?_;refine gG ?_;refine vV (kC (hc)) ?_)|(refine rg 7 (dK rfl (vV (by exact lE T rfl rfl rfl rfl rfl rfl (by omega) (by omega) (by omega)) ?_));refine aV ?_)|(refine rg 8 (aV ?_))|refine nZ ?_));all_goals try (exfalso;omega)
        have hl1:(B2 l (k+1)).length=k:=by rw [hc1];simp;omega
        refine cO (X:={j:Nat // 1≤j∧k+j≤l.length∧(B2 l (k+j)).length+1≤k+j}) (fun j=>[(0,.sl 0 0 l.length 3),(1,yI2),(5,.i (B2 l (k+j.1)).length),(6,.sl 0 (0+(k:Int).toNat) ((l.length:Int)-(k:Int)).toNat 3),(7,.i j.1)]) (fun j=>[.arr (fH (B2 l (k+j.1)++l.drop (B2 l (k+j.1)).length)) 3]) (fun j=>l.length-(k+j.1)) ⟨1,by omega,by omega,by omega⟩ ⟨[0],rfl,⟨rfl,rfl,by dsimp only;rw [hl1];rfl,rfl,rfl,trivial⟩,⟨.inr (aD rfl (by dsimp only;rw [hl1,hc1,bR]) (bS _)),trivial⟩,by decide,mH⟩ ?_
        clear e1 e2 hl1 hc1 hc a b;rintro ⟨j,hj1,hj,hjc⟩;dsimp only;by_cases hjl:k+j<l.length
        · have e1:=PB (G:=B2 l (k+j)) (l:=l) (m:=k+j) (i:=0+(k:Int).toNat+(j:Int).toNat) (by omega) hjl (by omega)
          have e2:=PB (G:=B2 l (k+j)) (l:=l) (m:=k+j-1) (i:=0+(k:Int).toNat+((j:Int)-1).toNat) (by omega) (by omega) (by omega)
          have e3:=PB (G:=B2 l (k+j)) (l:=l) (m:=(B2 l (k+j)).length) (i:=0+(((B2 l (k+j)).length:Nat):Int).toNat) (bA _) (by omega) (by omega)
          have hset:=zU7 (G:=B2 l (k+j)) (l:=l) (x:=l.getD (k+j) w0) (j:=(((B2 l (k+j)).length:Nat):Int)) (by omega) rfl
          have hal:=UA (G:=B2 l (k+j)) (l:=l) (by omega)
          have hdup:=OU (l:=l) (m:=k+j) (by omega)
          have hnew:=OT (l:=l) (m:=k+j);have hc:=BA (l.getD (k+j) w0) (l.getD (k+j-1) w0) (hw _ (by rw [oW hjl];exact aH _)) (hw _ (by rw [oW (by omega)];exact aH _))
          have hnl:∀ G:List W,(G++[l.getD (k+j) w0]).length=G.length+1:=fun G=>by simp
          rw [show k+j+1=k+(j+1) by omega] at hdup hnew
          generalize l.getD (k+j) w0=a at *;generalize l.getD (k+j-1) w0=b at *;generalize l.getD (B2 l (k+j)).length w0=y at *;generalize B2 l (k+j)=G at *;cases hd:G6 a b with
          | true=>
            have hdup:=hdup hd;rw [hd] at hc;generalize hA:fH (G++l.drop G.length)=A at *
            (repeat' (first|refine wS ?_|refine wB ?_|refine wK ?_|refine wU ?_|(refine wC rfl ?_ ?_<;>(intro hb;(try simp only [nm] at hb);try (exfalso;omega)))|(refine rg 9 (dK rfl (qW T rfl (vV (aI rfl rfl) ?_))))|(refine bQ (id:=11) 66 yN9 (rM 38 12) yO0 cF rfl (by decide +kernel) (dN rfl (dN rfl (dN rfl (dV rfl (by exact aK T rfl rfl rfl rfl rfl (by omega) (by omega)) ?_))));refine dV rfl (by exact aE T rfl rfl (bM rfl e1) rfl) ?_;refine dN rfl (dN rfl (dV rfl (cX rfl rfl (by omega) (by omega)) (dV rfl (by exact aK T rfl rfl rfl rfl rfl (by omega) (by omega)) ?_)));refine dV rfl (by exact aE T rfl rfl (bM rfl e2) rfl) ?_;refine dV rfl (kC (hc)) (dV rfl (cY rfl) (dE ?_)))|(refine iA 10 rfl rfl rfl (by omega) (by omega) ?_)|refine nZ ?_));all_goals try (exfalso;omega)
            all_goals exact ⟨⟨j+1,by omega,by omega,by rw [hdup];omega⟩,by dsimp only;omega,[0],rfl,⟨rfl,rfl,by dsimp only;rw [hdup];rfl,rfl,rfl,trivial⟩,⟨.inr (aD rfl (by dsimp only;rw [hdup];exact hA.symm) (bS _)),trivial⟩,by decide,mH⟩
          | false=>
            have hnew:=hnew hd;have hgl:=hnl G;rw [hd] at hc;generalize hA:fH (G++l.drop G.length)=A at *
            (repeat' (first|refine wS ?_|refine wB ?_|refine wK ?_|refine wT ?_|(refine wC rfl ?_ ?_<;>(intro hb;(try simp only [nm] at hb);try (exfalso;omega)))|(refine rg 9 (dK rfl (qW T rfl (vV (aI rfl rfl) ?_))))|(refine bQ (id:=11) 66 yN9 (rM 38 12) yO0 cF rfl (by decide +kernel) (dN rfl (dN rfl (dN rfl (dV rfl (by exact aK T rfl rfl rfl rfl rfl (by omega) (by omega)) ?_))));refine dV rfl (by exact aE T rfl rfl (bM rfl e1) rfl) ?_;refine dN rfl (dN rfl (dV rfl (cX rfl rfl (by omega) (by omega)) (dV rfl (by exact aK T rfl rfl rfl rfl rfl (by omega) (by omega)) ?_)));refine dV rfl (by exact aE T rfl rfl (bM rfl e2) rfl) ?_;refine dV rfl (kC (hc)) (dV rfl (cY rfl) (dE ?_)))|(refine rg 12 (dK rfl (dK rfl (vV (by exact aK T rfl rfl rfl rfl rfl (by omega) (by omega)) ?_)));refine vV (by exact aE T rfl rfl (bM rfl e1) rfl) ?_;refine vV (by exact aK T rfl rfl rfl rfl rfl (by omega) (by omega)) ?_;refine aL T rfl rfl rfl rfl rfl rfl (by decide) (iJ rfl e3 rfl) ?_)|(refine iA 13 rfl rfl rfl (by omega) (by omega) ?_)|(refine iA 10 rfl rfl rfl (by omega) (by omega) ?_)|refine nZ ?_));all_goals try (exfalso;omega)
            all_goals exact ⟨⟨j+1,by omega,by omega,by rw [hnew];omega⟩,by dsimp only;omega,[0],rfl,⟨rfl,rfl,by dsimp only;rw [hnew,hgl];rfl,rfl,rfl,trivial⟩,⟨.inr (aD rfl (by dsimp only;rw [hnew];exact hset) (bS _)),trivial⟩,by decide,mH⟩
        · have hkj:k+j=l.length:=by omega
          have hcm:B2 l l.length=B2 l (k+j):=by rw [hkj]
          have hal:=UA (G:=B2 l (k+j)) (l:=l) (by omega)
          have htk:=WF (G:=B2 l (k+j)) (l:=l);rw [hcm];generalize B2 l (k+j)=G at *
          (repeat' (first|refine wS ?_|refine wR ?_|refine wE ?_|(refine wC rfl ?_ ?_<;>(intro hb;(try simp only [nm] at hb);try (exfalso;omega)))|(refine rg 9 (dK rfl (qW T rfl (vV (aI rfl rfl) ?_))))|(refine rg 14 (dK rfl (vV (by exact lE T rfl rfl rfl rfl rfl rfl (by omega) (by omega) (by omega)) ?_));refine O5 T rfl rfl rfl ⟨rfl,rfl,by decide⟩ rfl (by rw [hal];omega) ?_)|(refine rg 15 (dK rfl (vV (by exact lE T rfl rfl rfl rfl rfl rfl (by omega) (by omega) (by omega)) ?_));refine aV ?_)|refine nZ ?_));all_goals try (exfalso;omega)
          all_goals exact ⟨.inl rfl,[0],_,rfl,(by show AV.sl 0 0 ((G.length:Int)-0).toNat 3=AV.sl 0 0 G.length 3;rw [show ((G.length:Int)-0).toNat=G.length by omega]),rfl,⟨.inr (aD rfl htk (bS _)),trivial⟩,by decide,mH⟩
      | false=>
        have hnew:=OT (l:=l) hd;rw [hkc,oW hlt,← aP hlt] at hnew;rw [hd] at hc;clear hd;generalize l.getD k w0=a at *;generalize l.getD (k-1) w0=b at *
        (repeat' (first|refine wS ?_|refine wB ?_|refine wK ?_|refine wU ?_|(refine wC rfl ?_ ?_<;>(intro hb;(try simp only [nm] at hb);try (exfalso;omega)))|(refine rg 4 (dK rfl (qW T rfl (vV (aI rfl rfl) ?_))))|(refine rV (id:=6) 10 66 yN6 yN7 (rM 18 10) yN8 cF rfl (by decide +kernel) (by decide +kernel) ?_;(dsimp only [List.take,List.drop]);refine dN rfl (dN rfl (dN rfl (dV rfl (by exact aK T rfl rfl rfl rfl rfl (by omega) (by omega)) ?_)));refine dV rfl (by exact aE T rfl rfl (bM rfl e1) rfl) ?_;refine dN rfl (dN rfl (dV rfl (cX rfl rfl (by omega) (by omega)) (dV rfl (by exact aK T rfl rfl rfl rfl rfl (by omega) (by omega)) ?_)));refine dV rfl (by exact aE T rfl rfl (bM rfl e2) rfl) ?_;refine dE ?_;refine gG ?_;refine vV (kC (hc)) ?_)|(refine iA 5 rfl rfl rfl (by omega) (by omega) ?_)|refine nZ ?_));all_goals try (exfalso;omega)
        all_goals exact ⟨⟨k+1,by omega,hlt,hnew⟩,by dsimp only;omega,[0],rfl,by (repeat (first | exact trivial | refine ⟨rfl,?_⟩)),⟨.inr (aD rfl rfl (bS _)),trivial⟩,by decide,mH⟩
    · obtain rfl:k=l.length:=by omega
      have hcm:B2 l l.length=l:=by rw [hkc,dI]
      rw [hcm]
      (repeat' (first|refine wS ?_|refine wR ?_|refine wE ?_|(refine wC rfl ?_ ?_<;>(intro hb;(try simp only [nm] at hb);try (exfalso;omega)))|(refine rg 4 (dK rfl (qW T rfl (vV (aI rfl rfl) ?_))))|(refine rg 16 (mW rfl (aV ?_)))|refine nZ ?_));all_goals first | (exfalso;omega) | exact ⟨.inl rfl,[0],_,rfl,rfl,rfl,⟨.inr (aD rfl rfl (bS _)),trivial⟩,by decide,mH⟩
theorem LY (l:List W) (hl:l.length≤1000000):aT Tryz.prog 95 [.rowE (fH l) 3] [] (.sl 0 0 l.length 3) [.arr (fH l) 3]:=by
  have hll:(fH l).length=l.length:=fJ l;refine bK T Tryz.func95 rfl rfl rfl rfl ?_
  repeat' (first|refine wS ?_|refine wK ?_|refine wT ?_|refine wU ?_|(refine rg 0 (aV ?_))|(refine rg 1 (mV ?_);refine tI T rfl rfl rfl rfl fun b hb=>?_;cases b)|refine nZ ?_)
  · (repeat' (first|refine wR ?_|(refine rg 3 (bN (by exact bD T rfl rfl (by decide) (by decide) rfl rfl rfl) rfl ?_);refine mW rfl (fY T rfl rfl rfl rfl rfl rfl (by decide) (.row (jX l)) (zT3 l) (by simp;omega) (by simp;omega) rfl ?_);refine aV ?_)|(refine nZ ?_)));exact ⟨.inl rfl,[1],_,rfl,(by show AV.sl 1 0 (0+(fH l).length) 3=AV.sl 1 0 l.length 3;simp),rfl,⟨.inr (aD rfl rfl (bS _)),trivial⟩,by decide,K3⟩
  · have hl0:l=[]:=fE.1 (Classical.byContradiction fun h=>by have:=hb (by omega);cases this)
    subst hl0
    (repeat' (first|refine wR ?_|(refine rg 2 (vV (eL rfl) (sF 2 3 rfl (by decide) ?_)))|refine nZ ?_));exact ⟨.inl rfl,[0],_,rfl,rfl,rfl,⟨.inr (aD rfl rfl (bS _)),trivial⟩,by decide,K3⟩
theorem fO:∀ {es:List (List AV)},(∀ e,e∈es→AV.idfL e=true)→AV.idfL es.flatten=true
  | [],_=>rfl
  | e::es,h=>by
    have h1:=h e aR;have h2:=fO (es:=es) fun q hq=>h q (aM _ hq);rw [eW];generalize es.flatten=F at *;clear h
    induction e with
    | nil=>exact h2
    | cons x e ih=>
      simp only [List.cons_append,AV.idfL,aN] at h1 ⊢;exact ⟨h1.1,ih h1.2⟩
theorem ED (l:List W) (hl:l.length≤100000) (hw:∀ w,w∈l→O1 w):aT Tryz.prog 49 [.rowE (fH l) 3] [] (.rowE (fH (gN l)) 3) []:=by
  refine oJ (by simp:(gN l).length=(fH (gN l)).length) (fO (bS _)) ?_
  have h1:=LY l (by omega)
  have h2:=zI5 l rfl hl hw;have h3:=OQ (eK eY l) (by rw [jI];omega) (fun w h=>hw w ((dS _ _).mem_iff.1 h))
  rw [jI] at h3;show aT _ _ _ _ (.sl 0 0 (A9 G6 (eK eY l)).length 3) [.arr (fH (A9 G6 (eK eY l))) 3];generalize A9 G6 (eK eY l)=R at *;refine bK T Tryz.func49 rfl rfl rfl rfl ?_
  (repeat' (first|refine wS ?_|refine wR ?_|(refine rg 0 (aV ?_))|(refine rg 1 (mW rfl (bN (by exact fX rfl rfl h1 (.inr ⟨rfl,rfl,by simp⟩)) rfl ?_));refine aV ?_)|(refine rg 2 (mW rfl (fP [0] rfl rfl (h2) rfl rfl (by decide) ⟨.inr (aD rfl (cJ _ (bS _)) (bS _)),trivial⟩ (by simp) rfl ?_)))|(refine rg 3 (mW rfl (fP [0] rfl rfl (h3) rfl rfl (by decide) ⟨.inr (aD rfl (cJ _ (bS _)) (bS _)),trivial⟩ (by simp) rfl ?_));refine aV ?_)|refine nZ ?_));all_goals exact ⟨.inl rfl,[0],_,rfl,rfl,rfl,⟨.inr (aD rfl (cJ _ (bS _)) (bS _)),trivial⟩,by decide,fun i h=>absurd h (dA _)⟩
end Go.Proofs.YtmmkhmilpeodnaaGreat
namespace Go.Ab
open Go
mutual
def AV.pln:AV→Bool
  | .v _=>true
  | .any=>true
  | .row ..=>true
  | .mrow ..=>true
  | .pr ..=>true
  | .agg cs=>AV.plnL cs
  | _=>false
def AV.plnL:List AV→Bool
  | []=>true
  | x::l=>AV.pln x&&AV.plnL l
end
mutual
theorem SN {h:Hp}:∀ (x:AV),x.pln=true→oN h x x
  | .v x,_=>.v x
  | .any,_=>.any
  | .row cs l s,_=>.row cs l s
  | .mrow ks vs,_=>.mrow ks vs
  | .pr cs o,_=>.pr cs o
  | .agg cs,e=>.agg (eO cs (by simpa [AV.pln] using e))
  | .ptr ..,e | .ep ..,e | .sl ..,e | .mp ..,e | .tup ..,e | .clo ..,e | .cond ..,e | .ifc ..,e=>by simp [AV.pln] at e
theorem eO {h:Hp}:∀ (xs:List AV),AV.plnL xs=true→mP h xs xs
  | [],_=>.nil
  | x::l,e=>by
    simp only [AV.plnL,aN] at e;exact .cons (SN x e.1) (eO l e.2)
end
theorem T5:∀ (a b:List AV),AV.plnL (a++b)=(AV.plnL a&&AV.plnL b)
  | [],b=>by simp [AV.plnL]
  | x::a,b=>by simp [AV.plnL,T5 a b,Bool.and_assoc]
theorem vT {α:Type}{g:α→List AV}(hg:∀ a,AV.plnL (g a)=true):∀ l:List α,AV.plnL (l.map g).flatten=true
  | []=>rfl
  | a::l=>by rw [List.map_cons,eW,T5,hg a,vT hg l];rfl
theorem vK {h:Hp}{k n sz:Nat}{es:List (List AV)}(hk:h[k]? = some (.arr es sz)) (hn:n=es.length) (hp:AV.plnL es.flatten=true):oN h (.sl k 0 n sz) (.rowE es sz):=by
  subst hn;refine oN.sl hk (by omega) ?_
  rw [nJ,dI];exact eO _ hp
end Go.Ab
namespace Go.Ld
open Go.Ab Go.Proofs.YtmmkhmilpeodnaaGreat
theorem gI (l:List SP):(cT l).length=l.length:=aF _
theorem cQ (l:List SP):∀ e,e∈cT l→AV.idfL e=true:=by intro e he;obtain ⟨i,_,rfl⟩:=bE.1 he;rfl
theorem DI (l:List SP):(cT l).flatten.all AV.one=true:=by
  induction l with
  | nil=>rfl
  | cons x l ih=>exact ih
theorem lU {l:List SP}{j:Int}{i:Nat}(h:i<l.length) (e:j=i):(cT l)[j.toNat]? = some [AV.i (l.getD i (0,0)).1,AV.i (l.getD i (0,0)).2]:=by
  subst e;rw [bH,bZ,aA h,aC,aA h];rfl
theorem zM {l:List SP}{j:Int}{i:Nat}(h:i<l.length) (e:j=i):(cT l)[0+j.toNat]? = some [AV.i (l.getD i (0,0)).1,AV.i (l.getD i (0,0)).2]:=by
  rw [Nat.zero_add];exact lU h e
theorem vO {l:List SP}{j:Int}{i:Nat}{r:SP}(e:j=i):(cT l).set (0+j.toNat) [AV.i r.1,AV.i r.2]=cT (l.set i r):=by
  subst e;rw [Nat.zero_add,bH];show _=List.map (fun p:SP=>[AV.i p.1,AV.i p.2]) (l.set i r);rw [sJ]
end Go.Ld
namespace Go.Proofs.YtmmkhmilpeodnaaGreat
open Go Go.Ab Go.Ld
attribute [local irreducible] VC AW bX aT
set_option maxHeartbeats 4000000
theorem jJ (l:List Nat):∀ i:Nat,i<0→l[i]? = some i:=fun i h=>absurd h (dA _)
theorem zC0 (l:List SP) (hl:l.length≤1000000):aT Tryz.prog 128 [.rowE (cT l) 2] [] (.sl 0 0 l.length 2) [.arr (cT l) 2]:=by
  have hll:(cT l).length=l.length:=gI l;refine bK T Tryz.func128 rfl rfl rfl rfl ?_
  repeat' (first|refine wS ?_|refine wK ?_|refine wT ?_|refine wU ?_|(refine rg 0 (aV ?_))|(refine rg 1 (mV ?_);refine tI T rfl rfl rfl rfl fun b hb=>?_;cases b)|refine nZ ?_)
  · (repeat' (first|refine wR ?_|(refine rg 3 (bN (by exact bD T rfl rfl (by decide) (by decide) rfl rfl rfl) rfl ?_);refine mW rfl (fY T rfl rfl rfl rfl rfl rfl (by decide) (.row (jV l)) (DI l) (by simp;omega) (by simp;omega) rfl ?_);refine aV ?_)|(refine nZ ?_)));exact ⟨.inl rfl,[1],_,rfl,(by show AV.sl 1 0 (0+(cT l).length) 2=AV.sl 1 0 l.length 2;simp),rfl,⟨.inr (aD rfl rfl (cQ _)),trivial⟩,by decide,jJ _⟩
  · have hl0:l=[]:=fE.1 (Classical.byContradiction fun h=>by have:=hb (by omega);cases this)
    subst hl0
    (repeat' (first|refine wR ?_|(refine rg 2 (vV (eL rfl) (sF 2 2 rfl (by decide) ?_)))|refine nZ ?_));exact ⟨.inl rfl,[0],_,rfl,rfl,rfl,⟨.inr (aD rfl rfl (cQ _)),trivial⟩,by decide,jJ _⟩
theorem HI (w:W) (hw:O1 w):aT Tryz.prog 91 [MZ w] [] (.agg [.sl 0 0 w.1.length 1,.i w.2.1,.sl 1 0 w.2.2.length 2]) [.arr (ints w.1) 1,.arr (cT w.2.2) 2]:=by
  obtain ⟨p,m,c⟩:=w;have h1:=HJ p (by have:=hw.1;dsimp only at this;omega)
  have h2:=zC0 c hw.2;dsimp only;refine bK T Tryz.func91 rfl rfl rfl rfl ?_
  (repeat' (first|refine wS ?_|refine wR ?_|(refine rg 0 (bN (cC rfl rfl) rfl (bN (bI T rfl) rfl ?_)))|(refine bQ (id:=1) 12 [[],[0],[0,1],[],[3],[],[5],[0,1,2,5,6],rN 8] (rM 3 9) [[],[],[],[3,4,5],[3,4,5],rM 3 5,rM 3 5,[6,7],[]] cF rfl (by decide +kernel) (dP T rfl (dO T rfl (pX rfl rfl rfl (by exact fX rfl rfl h1 (.inr ⟨rfl,rfl,by simp⟩)) rfl ?_)));refine dP T rfl (dO T rfl (dP T rfl (dO T rfl (pX rfl rfl rfl (by exact fX rfl rfl h2 (.inr ⟨rfl,rfl,by simp⟩)) rfl ?_))));refine dV rfl (by exact dY T rfl rfl rfl rfl) ?_;refine dE ?_;refine aL T rfl rfl rfl rfl rfl rfl (by decide) rfl ?_)|refine nZ ?_));all_goals exact ⟨.inl rfl,[2,3],_,rfl,rfl,rfl,⟨.inr (aD rfl (cJ _ (ints_idf p)) (ints_idf p)),.inr (aD rfl (cJ _ (cQ c)) (cQ c)),trivial⟩,by decide,jJ _⟩
theorem Z6 {h:Hp}{k n:Nat}{l:List SP}(hk:h[k]? = some (.arr (cT l) 2)) (hn:n=l.length):oN h (.sl k 0 n 2) (.rowE (cT l) 2):=vK hk (by rw [hn,gI]) (vT (fun _=>rfl) _)
theorem zY5 (w:W){i k:Nat}(hw:O1 w) (hi:i<w.1.length) (hk:k<w.1.length) (hc:w.2.2.length=w.1.length) :
    aT Tryz.prog 48 [MZ w,.i i,.i k] [] (.agg [.sl 0 0 w.1.length 1,.i w.2.1,.sl 1 0 w.2.2.length 2]) [.arr (ints (mT w i k).1) 1,.arr (cT (mT w i k).2.2) 2]:=by
  have hcl:=HI w hw;obtain ⟨p,m,c⟩:=w;have hw1:=hw.1;have hw2:=hw.2;dsimp only at hi hk hc hcl hw1 hw2;have p1:=L0 (l:=p) (j:=(i:Int)) (i:=i) 0 hi rfl;have p2:=L0 (l:=p) (j:=(k:Int)) (i:=k) 0 hk rfl;have ps:=Y0 (l:=p) (j:=(i:Int)) (i:=i) (x:=p.getD k 0) rfl;have p3:=L0 (l:=p.set i (p.getD k 0)) (j:=(k:Int)) (i:=k) 0 (by simpa using hk) rfl
  have pt:=Y0 (l:=p.set i (p.getD k 0)) (j:=(k:Int)) (i:=k) (x:=p.getD i 0) rfl;have c1:=zM (l:=c) (j:=(i:Int)) (i:=i) (by omega) rfl
  have c2:=zM (l:=c) (j:=(k:Int)) (i:=k) (by omega) rfl
  have cs:=vO (l:=c) (j:=(i:Int)) (i:=i) (r:=c.getD k (0,0)) rfl;have c3:=zM (l:=c.set i (c.getD k (0,0))) (j:=(k:Int)) (i:=k) (by rw [fM];omega) rfl
  have ct:=vO (l:=c.set i (c.getD k (0,0))) (j:=(k:Int)) (i:=k) (r:=c.getD i (0,0)) rfl;show aT _ _ _ _ _ [.arr (ints ((p.set i (p.getD k 0)).set k (p.getD i 0))) 1,.arr (cT ((c.set i (c.getD k (0,0))).set k (c.getD i (0,0)))) 2];have hlp:(ints p).length=p.length:=ints_length _;have hlc:(cT c).length=c.length:=gI _;dsimp only;refine bK T Tryz.func48 rfl rfl rfl rfl ?_
  (repeat' (first|refine wS ?_|(refine rg 0 (bN (cC rfl rfl) rfl (bN (bI T rfl) rfl ?_)))|(refine rg 1 (lW T rfl (bN (by exact fX rfl rfl hcl (.inr ⟨rfl,rfl,by simp⟩)) rfl ?_));refine aL T rfl rfl rfl rfl rfl rfl (by decide) rfl ?_)|refine nZ ?_));refine eI [(1,.i i),(2,.i k),(3,.ptr 0 0),(6,.ptr 1 0)] [.cells [.sl 2 0 p.length 1,.i m,.sl 3 0 c.length 2],.cells [.nils,.i 0,.nils],.arr (ints p) 1,.arr (cT c) 2] ⟨[0,1,2,3],rfl,(by repeat first|exact trivial|refine ⟨rfl,?_⟩),⟨.inr rfl,.inr rfl,.inr (aD rfl (cJ _ (ints_idf p)) (ints_idf p)),.inr (aD rfl (cJ _ (cQ c)) (cQ c)),trivial⟩,by decide,jJ _⟩ ?_
  rw [← ps] at p3 pt;rw [← cs] at c3 ct;generalize p.getD k 0=x at *;generalize p.getD i 0=y at *;generalize c.getD k (0,0)=r at *;generalize c.getD i (0,0)=q at *
  (repeat' (first|refine wS ?_|refine wR ?_|(refine oG (id:=2) 46 yO1 (rM 9 17) [[],[],[9,10],[9,10,11],[9,10,11],rM 9 5,rM 9 6,rM 9 6,rM 9 8,rM 9 6,rM 9 6,rM 9 11,rM 9 11,rM 9 13,rM 9 11,rM 9 11,[12,13,14],[12,13,14]] [(17,2)] cF rfl (by decide +kernel) (dB rfl rfl rfl rfl (by exact cD T rfl rfl rfl) ?_);refine dB rfl rfl rfl rfl (by exact aE T rfl rfl rfl rfl) ?_;refine dB rfl rfl rfl rfl (by exact bU rfl) ?_;refine dB rfl rfl rfl rfl (by exact cD T rfl rfl rfl) ?_;refine dB rfl rfl rfl rfl (by exact aE T rfl rfl rfl rfl) ?_;refine dB rfl rfl rfl rfl (by exact bU rfl) ?_;refine dB rfl rfl rfl rfl (by exact cD T rfl rfl rfl) ?_;refine dB rfl rfl rfl rfl (by exact aE T rfl rfl rfl rfl) ?_;refine dB rfl rfl rfl rfl (by exact bU rfl) ?_;refine dB rfl rfl rfl rfl (by exact aK T rfl rfl rfl rfl rfl (by omega) (by omega)) ?_;refine dB rfl rfl rfl rfl (by exact aE T rfl rfl (bM rfl p2) rfl) ?_;refine dB rfl rfl rfl rfl (by exact cD T rfl rfl rfl) ?_;refine dB rfl rfl rfl rfl (by exact aE T rfl rfl rfl rfl) ?_;refine dB rfl rfl rfl rfl (by exact bU rfl) ?_;refine dB rfl rfl rfl rfl (by exact aK T rfl rfl rfl rfl rfl (by omega) (by omega)) ?_;refine dB rfl rfl rfl rfl (by exact aE T rfl rfl (bM rfl p1) rfl) ?_;refine dB rfl rfl rfl rfl (by exact aK T rfl rfl rfl rfl rfl (by omega) (by omega)) ?_;refine xZ rfl rfl rfl rfl (aY rfl) T rfl rfl rfl rfl rfl rfl (by decide) (xB rfl p1 rfl) ?_;refine sY rfl rfl rfl (by exact rfl) ?_;refine vV (by exact aK T rfl rfl rfl rfl rfl (by omega) (by omega)) ?_;refine aL T rfl rfl rfl rfl rfl rfl (by decide) (iJ rfl p3 rfl) ?_)|(refine oG (id:=3) 46 yO1 (rM 27 17) [[],[],[27,28],[27,28,29],[27,28,29],rM 27 5,rM 27 6,rM 27 6,rM 27 8,rM 27 6,rM 27 6,rM 27 11,rM 27 11,rM 27 13,rM 27 11,rM 27 11,[30,31,32],[30,31,32]] [(17,3)] cF rfl (by decide +kernel) (dB rfl rfl rfl rfl (by exact cD T rfl rfl rfl) ?_);refine dB rfl rfl rfl rfl (by exact aE T rfl rfl rfl rfl) ?_;refine dB rfl rfl rfl rfl (by exact bU rfl) ?_;refine dB rfl rfl rfl rfl (by exact cD T rfl rfl rfl) ?_;refine dB rfl rfl rfl rfl (by exact aE T rfl rfl rfl rfl) ?_;refine dB rfl rfl rfl rfl (by exact bU rfl) ?_;refine dB rfl rfl rfl rfl (by exact cD T rfl rfl rfl) ?_;refine dB rfl rfl rfl rfl (by exact aE T rfl rfl rfl rfl) ?_;refine dB rfl rfl rfl rfl (by exact bU rfl) ?_;refine dB rfl rfl rfl rfl (by exact aK T rfl rfl rfl rfl rfl (by omega) (by omega)) ?_;refine dB rfl rfl rfl rfl (by exact aE T rfl rfl (bM rfl c2) rfl) ?_;refine dB rfl rfl rfl rfl (by exact cD T rfl rfl rfl) ?_;refine dB rfl rfl rfl rfl (by exact aE T rfl rfl rfl rfl) ?_;refine dB rfl rfl rfl rfl (by exact bU rfl) ?_;refine dB rfl rfl rfl rfl (by exact aK T rfl rfl rfl rfl rfl (by omega) (by omega)) ?_;refine dB rfl rfl rfl rfl (by exact aE T rfl rfl (bM rfl c1) rfl) ?_;refine dB rfl rfl rfl rfl (by exact aK T rfl rfl rfl rfl rfl (by omega) (by omega)) ?_;refine xZ rfl rfl rfl rfl (aY rfl) T rfl rfl rfl rfl rfl rfl (by decide) (xB rfl c1 rfl) ?_;refine sY rfl rfl rfl (by exact rfl) ?_;refine vV (by exact aK T rfl rfl rfl rfl rfl (by omega) (by omega)) ?_;refine aL T rfl rfl rfl rfl rfl rfl (by decide) (iJ rfl c3 rfl) ?_)|(refine rg 4 (vV (aE T rfl rfl rfl rfl) (aL T rfl rfl rfl rfl rfl rfl (by decide) rfl ?_)))|refine nZ ?_));all_goals exact ⟨.inl rfl,[2,3],_,rfl,rfl,rfl,⟨.inr (aD rfl pt (ints_idf _)),.inr (aD rfl ct (cQ _)),trivial⟩,by decide,jJ _⟩
theorem zY6 (w:W){i k:Nat}(hw:O1 w) (hi:i<w.1.length) (hk:k<w.1.length) (hc:w.2.2.length=w.1.length):aT Tryz.prog 48 [MZ w,.i i,.i k] [] (MZ (mT w i k)) []:=
  I6 (zY5 w hw hi hk hc) (.agg (.cons (O4 rfl (by simp [mT])) (.cons (.v _) (.cons (Z6 rfl (by simp [mT])) .nil))))
theorem ZI (a b:W):aT Tryz.prog 138 [MZ a,MZ b] [] (.i (cI a.2.1 b.2.1)) []:=by
  have h:=FC a.2.1 b.2.1;refine bK T Tryz.func138 rfl rfl rfl rfl ?_
  (repeat' (first|refine wS ?_|refine wR ?_|(refine rg 0 (bN (cC rfl rfl) rfl (bN (cC rfl rfl) rfl (aV ?_))))|(refine rg 1 (gB T rfl (gB T rfl (vV (kC (h)) (aV ?_)))))|refine nZ ?_));all_goals first | (exfalso;omega) | exact rQ
end Go.Proofs.YtmmkhmilpeodnaaGreat
namespace Go.Ld
open Go.Ab Go.Proofs.YtmmkhmilpeodnaaGreat
def oV {α:Type}(p:α→Bool):List α→Nat→Int
  | [],_=>-1
  | x::l,k=>if p x=true then k else oV p l (k+1)
theorem E1 {α:Type}{p:α→Bool}{l:List α}{k:Nat}(h:k<l.length):oV p (l.drop k) k=if p l[k]=true then (k:Int) else oV p (l.drop (k+1)) (k+1):=by
  rw [bB h];rfl
theorem wG {α:Type}{p:α→Bool}{l:List α}{k:Nat}(h:l.length≤k):oV p (l.drop k) k = -1:=by
  rw [dJ h];rfl
theorem tV {α:Type}(p:α→Bool):∀ (l:List α) (k:Nat),decide (oV p l k ≥ 0)=l.any p
  | [],k=>by simp [oV]
  | x::l,k=>by
    unfold oV;split
    · rename_i h;simp [h]
    · rename_i h;rw [tV p l (k+1)];simp [h]
theorem EQ {α:Type}(p:α→Bool):∀ (l:List α) (k:Nat),oV p l k=match l.findIdx? p with
    | some i=>((k+i:Nat):Int)
    | none=>-1
  | [],k=>by simp [oV]
  | x::l,k=>by
    unfold oV;rw [List.findIdx?_cons];by_cases h:p x=true
    · rw [if_pos h,if_pos h];simp
    · rw [if_neg h,if_neg h,EQ p l (k+1)];cases l.findIdx? p with
      | none=>rfl
      | some i=>show ((k+1+i:Nat):Int)=((k+(i+1):Nat):Int);omega
theorem qE (l:List G):∀ e,e∈kD l→e.length=2:=by intro e he;obtain ⟨n,_,rfl⟩:=bE.1 he;rfl
theorem kB (l:List G):(kD l).length=l.length:=aF _
theorem zA0 (l:List G):(kD l).flatten.all AV.one=true:=by
  induction l with
  | nil=>rfl
  | cons x l ih=>exact ih
theorem eP (l:List G):∀ e,e∈kD l→AV.idfL e=true:=by intro e he;obtain ⟨x,_,rfl⟩:=bE.1 he;rfl
end Go.Ld
namespace Go.Proofs.YtmmkhmilpeodnaaGreat
open Go Go.Ab Go.Ld
attribute [local irreducible] VC AW bX aT
set_option maxHeartbeats 4000000
abbrev VP (g:G):AV:=.agg (gA g)
theorem nN {l:List W}{k:Nat}(h:k<l.length):(fH l)[(k:Int).toNat]? = some (wA l[k]):=by simp [h]
theorem Y4 {l:List G}{k:Nat}(h:k<l.length):(kD l)[(k:Int).toNat]? = some (gA l[k]):=by simp [h]
theorem RD {l:List Int}{k:Nat}(h:k<l.length):(ints l)[(k:Int).toNat]? = some [AV.i l[k]]:=by simp [h]
theorem ZM {l:List W}{F:FuncId}{caps:List AV}{p:W→Bool}(hl:l.length≤1000000) (hi:AV.idfL caps=true) (hF:∀ x,x∈l→aT Tryz.prog F (.agg (wA x)::caps) [] (.b (p x)) []) :
    aT Tryz.prog 139 [.rowE (fH l) 3,.clo (.func F) [] caps] [] (.i (oV p l 0)) []:=by
  have hlen:(fH l).length=l.length:=aF _;refine bK T Tryz.func139 rfl rfl rfl rfl ?_
  (repeat' (first|refine wS ?_|refine wB ?_|(refine rg 0 (aV ?_))|(refine rg 1 (mW rfl (qW T rfl (mV ?_))))|refine nZ ?_));refine cO (X:={k:Nat // k≤l.length∧oV p l 0=oV p (l.drop k) k}) (fun k=>[(0,.rowE (fH l) 3),(1,.clo (.func F) [] caps),(7,.i (fH l).length),(8,.i k.1)]) (fun _=>[]) (fun k=>l.length-k.1) ⟨0,by simp,rfl⟩ ⟨[],rfl,⟨rfl,by rw [kF hi];rfl,rfl,rfl,trivial⟩,trivial,cM,fun _ h=>absurd h (dA _)⟩ ?_
  rintro ⟨k,hk,he⟩;dsimp only;by_cases hlt:k<l.length
  · have hc:=hF l[k] (aH hlt);have hg:=nN (l:=l) hlt;rw [E1 hlt] at he;generalize l[k]=y at *;cases hp:p y with
    | true=>
      rw [hp] at hc;rw [hp,if_pos rfl] at he
      (repeat' (first|refine wS ?_|refine wB ?_|refine wK ?_|refine wR ?_|refine wT ?_|(refine wC rfl ?_ ?_<;>(intro hb;(try simp only [nm] at hb);try (exfalso;omega)))|(refine rg 2 (vV (aI rfl rfl) ?_))|(refine rg 3 (mW rfl (aV ?_)))|(refine rg 4 (dK rfl (mW rfl (vV (ix T rfl (by omega) (jX l) hg) (lW T rfl (vV (by exact eA rfl rfl hc rfl (by simp [AV.idfL,AV.idf,hi]) rfl) ?_))))))|(refine rg 5 (mW rfl (aV ?_)))|refine nZ ?_));all_goals first | (exfalso;omega) | exact cH (.inl rfl) rfl (by rw [he];rfl)
    | false=>
      rw [hp] at hc;rw [hp,if_neg (by simp)] at he
      (repeat' (first|refine wS ?_|refine wB ?_|refine wK ?_|refine wU ?_|(refine wC rfl ?_ ?_<;>(intro hb;(try simp only [nm] at hb);try (exfalso;omega)))|(refine rg 2 (vV (aI rfl rfl) ?_))|(refine rg 3 (mW rfl (aV ?_)))|(refine rg 4 (dK rfl (mW rfl (vV (ix T rfl (by omega) (jX l) hg) (lW T rfl (vV (by exact eA rfl rfl hc rfl (by simp [AV.idfL,AV.idf,hi]) rfl) ?_))))))|(refine rg 6 (vV (bY rfl rfl (by omega) (by omega)) (mV ?_)))|refine nZ ?_));all_goals first | (exfalso;omega) | exact ⟨⟨k+1,hlt,he⟩,by dsimp only;omega,⟨[],rfl,⟨rfl,by rw [kF hi];rfl,rfl,rfl,trivial⟩,trivial,cM,fun _ h=>absurd h (dA _)⟩⟩
  · rw [wG (by omega)] at he
    (repeat' (first|refine wS ?_|refine wR ?_|refine wE ?_|(refine wC rfl ?_ ?_<;>(intro hb;(try simp only [nm] at hb);try (exfalso;omega)))|(refine rg 2 (vV (aI rfl rfl) ?_))|(refine rg 7 (aV ?_))|refine nZ ?_));all_goals first | (exfalso;omega) | exact cH (.inl rfl) rfl (by rw [he];rfl)
theorem zX3 {l:List W}{F:FuncId}{caps:List AV}{p:W→Bool}(hl:l.length≤1000000) (hi:AV.idfL caps=true) (hF:∀ x,x∈l→aT Tryz.prog F (.agg (wA x)::caps) [] (.b (p x)) []) :
    aT Tryz.prog 140 [.rowE (fH l) 3,.clo (.func F) [] caps] [] (.b (l.any p)) []:=by
  have hc:=ZM hl hi hF;rw [← tV p l 0];refine bK T Tryz.func140 rfl rfl rfl rfl ?_
  (repeat' (first|refine wS ?_|refine wR ?_|(refine rg 0 (aV ?_))|(refine rg 1 (dK rfl (vV (by exact eA rfl rfl hc rfl (by simp [AV.idfL,AV.idf,hi]) rfl) ?_));refine vV (gH rfl rfl) (aV ?_))|refine nZ ?_));all_goals first | (exfalso;omega) | exact rQ
theorem zS4 {l:List G}{F:FuncId}{caps:List AV}{p:G→Bool}(hl:l.length≤1000000) (hi:AV.idfL caps=true) (hF:∀ x,x∈l→aT Tryz.prog F (.agg (gA x)::caps) [] (.b (p x)) []) :
    aT Tryz.prog 89 [.rowE (kD l) 2,.clo (.func F) [] caps] [] (.i (oV p l 0)) []:=by
  have hlen:(kD l).length=l.length:=aF _;refine bK T Tryz.func89 rfl rfl rfl rfl ?_
  (repeat' (first|refine wS ?_|refine wB ?_|(refine rg 0 (aV ?_))|(refine rg 1 (mW rfl (qW T rfl (mV ?_))))|refine nZ ?_));refine cO (X:={k:Nat // k≤l.length∧oV p l 0=oV p (l.drop k) k}) (fun k=>[(0,.rowE (kD l) 2),(1,.clo (.func F) [] caps),(7,.i (kD l).length),(8,.i k.1)]) (fun _=>[]) (fun k=>l.length-k.1) ⟨0,by simp,rfl⟩ ⟨[],rfl,⟨rfl,by rw [kF hi];rfl,rfl,rfl,trivial⟩,trivial,cM,fun _ h=>absurd h (dA _)⟩ ?_
  rintro ⟨k,hk,he⟩;dsimp only;by_cases hlt:k<l.length
  · have hc:=hF l[k] (aH hlt);have hg:=Y4 (l:=l) hlt;rw [E1 hlt] at he;generalize l[k]=y at *;cases hp:p y with
    | true=>
      rw [hp] at hc;rw [hp,if_pos rfl] at he
      (repeat' (first|refine wS ?_|refine wB ?_|refine wK ?_|refine wR ?_|refine wT ?_|(refine wC rfl ?_ ?_<;>(intro hb;(try simp only [nm] at hb);try (exfalso;omega)))|(refine rg 2 (vV (aI rfl rfl) ?_))|(refine rg 3 (mW rfl (aV ?_)))|(refine rg 4 (dK rfl (mW rfl (vV (ix T rfl (by omega) (qE l) hg) (lW T rfl (vV (by exact eA rfl rfl hc rfl (by simp [AV.idfL,AV.idf,hi]) rfl) ?_))))))|(refine rg 5 (mW rfl (aV ?_)))|refine nZ ?_));all_goals first | (exfalso;omega) | exact cH (.inl rfl) rfl (by rw [he];rfl)
    | false=>
      rw [hp] at hc;rw [hp,if_neg (by simp)] at he
      (repeat' (first|refine wS ?_|refine wB ?_|refine wK ?_|refine wU ?_|(refine wC rfl ?_ ?_<;>(intro hb;(try simp only [nm] at hb);try (exfalso;omega)))|(refine rg 2 (vV (aI rfl rfl) ?_))|(refine rg 3 (mW rfl (aV ?_)))|(refine rg 4 (dK rfl (mW rfl (vV (ix T rfl (by omega) (qE l) hg) (lW T rfl (vV (by exact eA rfl rfl hc rfl (by simp [AV.idfL,AV.idf,hi]) rfl) ?_))))))|(refine rg 6 (vV (bY rfl rfl (by omega) (by omega)) (mV ?_)))|refine nZ ?_));all_goals first | (exfalso;omega) | exact ⟨⟨k+1,hlt,he⟩,by dsimp only;omega,⟨[],rfl,⟨rfl,by rw [kF hi];rfl,rfl,rfl,trivial⟩,trivial,cM,fun _ h=>absurd h (dA _)⟩⟩
  · rw [wG (by omega)] at he
    (repeat' (first|refine wS ?_|refine wR ?_|refine wE ?_|(refine wC rfl ?_ ?_<;>(intro hb;(try simp only [nm] at hb);try (exfalso;omega)))|(refine rg 2 (vV (aI rfl rfl) ?_))|(refine rg 7 (aV ?_))|refine nZ ?_));all_goals first | (exfalso;omega) | exact cH (.inl rfl) rfl (by rw [he];rfl)
theorem zX6 {l:List G}{F:FuncId}{caps:List AV}{p:G→Bool}(hl:l.length≤1000000) (hi:AV.idfL caps=true) (hF:∀ x,x∈l→aT Tryz.prog F (.agg (gA x)::caps) [] (.b (p x)) []) :
    aT Tryz.prog 51 [.rowE (kD l) 2,.clo (.func F) [] caps] [] (.b (l.any p)) []:=by
  have hc:=zS4 hl hi hF;rw [← tV p l 0];refine bK T Tryz.func51 rfl rfl rfl rfl ?_
  (repeat' (first|refine wS ?_|refine wR ?_|(refine rg 0 (aV ?_))|(refine rg 1 (dK rfl (vV (by exact eA rfl rfl hc rfl (by simp [AV.idfL,AV.idf,hi]) rfl) ?_));refine vV (gH rfl rfl) (aV ?_))|refine nZ ?_));all_goals first | (exfalso;omega) | exact rQ
theorem yE1 {l:List Int}{F:FuncId}{caps:List AV}{p:Int→Bool}(hl:l.length≤1000000) (hi:AV.idfL caps=true) (hF:∀ x,x∈l→aT Tryz.prog F (.i x::caps) [] (.b (p x)) []) :
    aT Tryz.prog 117 [.rowE (ints l) 1,.clo (.func F) [] caps] [] (.i (oV p l 0)) []:=by
  have hlen:(ints l).length=l.length:=aF _;refine bK T Tryz.func117 rfl rfl rfl rfl ?_
  (repeat' (first|refine wS ?_|refine wB ?_|(refine rg 0 (aV ?_))|(refine rg 1 (mW rfl (qW T rfl (mV ?_))))|refine nZ ?_));refine cO (X:={k:Nat // k≤l.length∧oV p l 0=oV p (l.drop k) k}) (fun k=>[(0,.rowE (ints l) 1),(1,.clo (.func F) [] caps),(7,.i (ints l).length),(8,.i k.1)]) (fun _=>[]) (fun k=>l.length-k.1) ⟨0,by simp,rfl⟩ ⟨[],rfl,⟨rfl,by rw [kF hi];rfl,rfl,rfl,trivial⟩,trivial,cM,fun _ h=>absurd h (dA _)⟩ ?_
  rintro ⟨k,hk,he⟩;dsimp only;by_cases hlt:k<l.length
  · have hc:=hF l[k] (aH hlt);have hg:=RD (l:=l) hlt;rw [E1 hlt] at he;generalize l[k]=y at *;cases hp:p y with
    | true=>
      rw [hp] at hc;rw [hp,if_pos rfl] at he
      (repeat' (first|refine wS ?_|refine wB ?_|refine wK ?_|refine wR ?_|refine wT ?_|(refine wC rfl ?_ ?_<;>(intro hb;(try simp only [nm] at hb);try (exfalso;omega)))|(refine rg 2 (vV (aI rfl rfl) ?_))|(refine rg 3 (mW rfl (aV ?_)))|(refine rg 4 (dK rfl (mW rfl (vV (ix T rfl (by omega) (ints_len l) hg) (lW T rfl (vV (by exact eA rfl rfl hc rfl (by simp [AV.idfL,AV.idf,hi]) rfl) ?_))))))|(refine rg 5 (mW rfl (aV ?_)))|refine nZ ?_));all_goals first | (exfalso;omega) | exact cH (.inl rfl) rfl (by rw [he];rfl)
    | false=>
      rw [hp] at hc;rw [hp,if_neg (by simp)] at he
      (repeat' (first|refine wS ?_|refine wB ?_|refine wK ?_|refine wU ?_|(refine wC rfl ?_ ?_<;>(intro hb;(try simp only [nm] at hb);try (exfalso;omega)))|(refine rg 2 (vV (aI rfl rfl) ?_))|(refine rg 3 (mW rfl (aV ?_)))|(refine rg 4 (dK rfl (mW rfl (vV (ix T rfl (by omega) (ints_len l) hg) (lW T rfl (vV (by exact eA rfl rfl hc rfl (by simp [AV.idfL,AV.idf,hi]) rfl) ?_))))))|(refine rg 6 (vV (bY rfl rfl (by omega) (by omega)) (mV ?_)))|refine nZ ?_));all_goals first | (exfalso;omega) | exact ⟨⟨k+1,hlt,he⟩,by dsimp only;omega,⟨[],rfl,⟨rfl,by rw [kF hi];rfl,rfl,rfl,trivial⟩,trivial,cM,fun _ h=>absurd h (dA _)⟩⟩
  · rw [wG (by omega)] at he
    (repeat' (first|refine wS ?_|refine wR ?_|refine wE ?_|(refine wC rfl ?_ ?_<;>(intro hb;(try simp only [nm] at hb);try (exfalso;omega)))|(refine rg 2 (vV (aI rfl rfl) ?_))|(refine rg 7 (aV ?_))|refine nZ ?_));all_goals first | (exfalso;omega) | exact cH (.inl rfl) rfl (by rw [he];rfl)
theorem ZZ {l:List Int}{F:FuncId}{caps:List AV}{p:Int→Bool}(hl:l.length≤1000000) (hi:AV.idfL caps=true) (hF:∀ x,x∈l→aT Tryz.prog F (.i x::caps) [] (.b (p x)) []) :
    aT Tryz.prog 61 [.rowE (ints l) 1,.clo (.func F) [] caps] [] (.b (l.any p)) []:=by
  have hc:=yE1 hl hi hF;rw [← tV p l 0];refine bK T Tryz.func61 rfl rfl rfl rfl ?_
  (repeat' (first|refine wS ?_|refine wR ?_|(refine rg 0 (aV ?_))|(refine rg 1 (dK rfl (vV (by exact eA rfl rfl hc rfl (by simp [AV.idfL,AV.idf,hi]) rfl) ?_));refine vV (gH rfl rfl) (aV ?_))|refine nZ ?_));all_goals first | (exfalso;omega) | exact rQ
end Go.Proofs.YtmmkhmilpeodnaaGreat
namespace Go.Ab
open Go
def pS (L:List Nat) (pos k:Nat):Nat:=match L[k]? with
  | some j=>j
  | none=>pos
theorem HS.callP {c:oP}{ρ ρ':Pl}{S S':Nat→Prop}{H hin hout:Hp}{w w':World}{L:List Nat}{pos:Nat}{b1:AB}(s:HS c ρ S H w) (hL:L.length=hin.length) (hnd:L.Nodup) (hh:uH (th L H.length) H 0 hin) (hng:∀ b,b∈hin→b≠.gone)
    (hlen:hout.length=hin.length) (hp0:ρ pos=Option.none) (hp1:H[pos]? = some .gone) (hpm:c.m≤pos)
    (hs:HS (oE w (fun k=>ρ (th L H.length k)) S hin) ρ' S' (hout++[b1]) w') :
    ∃ ρ3:Pl,HS c ρ3 S' ((zS H L (hout.map (AB.map (pS L pos)))).set pos (b1.map (pS L pos))) w'∧iX ρ ρ3 S S' w w'∧(∀ {x:AV} {y:Value},R S' w' x ρ' y→R S' w' (x.map (pS L pos)) ρ3 y)∧∀ j,j≠pos→ρ3 j=ρ j:=by
  have hin_at:∀ {i:Nat} {b:AB},hin[i]? = some b→∃ j,L[i]? = some j∧j<H.length∧H[j]? = some (b.map (th L H.length))∧b.map (th L H.length)≠.gone:=fun {i b} hb=>by
    have hne:=hng b (aS hb);have hlt:i<L.length:=by rw [hL];exact (aB.1 hb).1
    have hj:=aA hlt;have hth:th L H.length i=L[i]:=by simp [th,hj]
    rcases hh.get i b hb with hg | hg
    · exact absurd hg hne
    · rw [Nat.zero_add,hth] at hg;exact ⟨L[i],hj,(aB.1 hg).1,hg,by cases b <;> simp [AB.map] at * ⟩
  have thL:∀ {i j:Nat},L[i]? = some j→th L H.length i=j:=fun hi=>by simp [th,hi]
  have keep:∀ {i j:Nat},i<hin.length→L[i]? = some j→ρ' i=ρ j:=fun {i j} hi hj=>by
    have:=hs.keep i hi;simp only [oE] at this;rw [this,thL hj]
  have hM:∀ b,(oE w (fun k=>ρ (th L H.length k)) S hin).M b→w.heap.size≤b∨∃ (i j:Nat) (o:Nat) (x:AB),hin[i]? = some x∧L[i]? = some j∧ρ j=some (b,o):=fun b hb=>by
    rcases hb with hb | ⟨k,x,o,hb,_,hp⟩
    · exact .inl hb
    · obtain ⟨j,h3,_⟩:=hin_at hb;exact .inr ⟨k,j,o,x,hb,h3,by rw [← thL h3];exact hp⟩
  have hcM:∀ b,(oE w (fun k=>ρ (th L H.length k)) S hin).M b→c.M b:=fun b hb=>by
    rcases hM b hb with hb | ⟨i,j,o,x,h3,h4,h5⟩
    · exact c.new b (bP s.ext.size hb)
    · obtain ⟨j',h6,_,h7,h8⟩:=hin_at h3;rw [h4] at h6;cases h6;exact (s.live j _ _ h7 h8 h5).1
  have hlow:∀ b,b<w.heap.size→(oE w (fun k=>ρ (th L H.length k)) S hin).M b→∃ (i j:Nat) (o:Nat) (x:AB),hin[i]? = some x∧L[i]? = some j∧ρ j=some (b,o):=fun b hlt hb=>by
    rcases hM b hb with hb | hb
    · omega
    · exact hb
  have other:∀ {k:Nat} {b:AB} {q:Nat × Nat},H[k]? = some b→b≠.gone→k∉L→ρ k=some q→¬ (oE w (fun k=>ρ (th L H.length k)) S hin).M q.1:=fun {k b q} hb hg hkL hq hm=>by
    obtain ⟨i,j,o,x,h3,h4,h5⟩:=hlow q.1 (s.rng k q hq) hm;obtain ⟨j',h6,_,h7,h8⟩:=hin_at h3;rw [h4] at h6;cases h6;have:=s.inj k j _ _ q _ hb h7 hg h8 hq h5 rfl;subst this;exact hkL (aS h4)
  have stM:∀ b,S b→¬ (oE w (fun k=>ρ (th L H.length k)) S hin).M b:=fun b hb hm=>by
    obtain ⟨i,j,o,x,h3,h4,h5⟩:=hlow b (s.stab b hb) hm;obtain ⟨j',h6,_,h7,h8⟩:=hin_at h3;rw [h4] at h6;cases h6;exact (s.live j _ _ h7 h8 h5).2 hb
  have same:∀ b,b<w.heap.size→¬ (oE w (fun k=>ρ (th L H.length k)) S hin).M b→w'.heap[b]? = w.heap[b]?:=fun b hb hm=>hs.ext.same b hb hm
  have hposL:pos∉L:=fun hm=>by
    obtain ⟨i,hi⟩:=HZ.1 hm;have hlt:i<hin.length:=by rw [← hL];exact (aB.1 hi).1
    obtain ⟨j,h3,_,h4,h5⟩:=hin_at (aA hlt);rw [hi] at h3;cases h3;rw [hp1] at h4;exact h5 (Option.some.inj h4).symm
  have hposH:pos<H.length:=(aB.1 hp1).1
  let ρ3:Pl:=fun j=>if j=pos then ρ' hin.length else ρ j
  have r3p:ρ3 pos=ρ' hin.length:=if_pos rfl;have r3o:∀ j,j≠pos→ρ3 j=ρ j:=fun j hj=>if_neg hj
  have l:iX ρ ρ3 S S' w w':=by
    refine ⟨fun k q hq=>?_,hs.st0,fun b hb=>same b (s.stab b hb) (stM b hb),fun _ _ _ _ _ hr=>hs.ext.room hr⟩
    rw [r3o k (fun e=>by rw [e,hp0] at hq;cases hq)];exact hq
  have pl:∀ k q,ρ' k=some q→ρ3 (pS L pos k)=some q:=fun k q hq=>by
    by_cases hk:k<hin.length
    · obtain ⟨j,h3,_,_⟩:=hin_at (aA hk);have hbk:pS L pos k=j:=by simp [pS,h3]
      have hjp:j≠pos:=fun e=>hposL (e▸aS h3);rw [hbk,r3o j hjp,← keep hk h3];exact hq
    · by_cases hk2:k=hin.length
      · have hbk:pS L pos k=pos:=by unfold pS;rw [cW (by omega)]
        rw [hbk,r3p,← hk2];exact hq
      · have:=hs.dom k (by rw [aJ,hlen,List.length_singleton];omega)
        rw [this] at hq;cases hq
  have shift:∀ {x:AV} {y:Value},R S' w' x ρ' y→R S' w' (x.map (pS L pos)) ρ3 y:=fun {x y} hx=>S9 _ _ x y (nP (fun _ h=>h) (fun _ _=>rfl) x ρ' _ y pl (fun _ _ _ _ _ h=>h) hx);have shiftB:∀ {b:AB} {pp},RB S' w' ρ' pp b→RB S' w' ρ3 pp (b.map (pS L pos)):=fun {b pp} hb=>HY _ _ (RB.later (ρ:=ρ') (S:=S') ⟨pl,fun _ h=>h,fun _ _=>rfl,fun _ _ _ _ _ h=>h⟩ (fun _ _ _=>rfl) hb);have get:∀ {k:Nat} {b:AB},((zS H L (hout.map (AB.map (pS L pos)))).set pos (b1.map (pS L pos)))[k]? = some b →
      (k≠pos∧k∉L∧H[k]? = some b)∨(∃ (i:Nat) (b':AB),(hout++[b1])[i]? = some b'∧b=b'.map (pS L pos)∧pS L pos i=k∧ρ3 k=ρ' i):=fun {k b} hb=>by
    rw [iB] at hb;by_cases hk:pos=k
    · rw [if_pos hk,if_pos (by rw [lD];exact hposH)] at hb
      cases hb;refine .inr ⟨hin.length,b1,by rw [← hlen];simp,rfl,?_,by rw [← hk];exact r3p⟩
      unfold pS;rw [cW (by omega)]
      exact hk
    · rw [if_neg hk] at hb;by_cases hkL:k∈L
      · obtain ⟨i,hi⟩:=HZ.1 hkL;have hiL:i<hin.length:=by rw [← hL];exact (aB.1 hi).1
        have hb':=aA (l:=hout) (i:=i) (by omega)
        have hkl:k<H.length:=by
          have:=(aB.1 hb).1
          rwa [lD] at this
        rw [FZ (b:=(hout[i]'(by omega)).map (pS L pos)) hnd hi (by simp [hb']) hkl] at hb
        simp only [Option.some.injEq] at hb;exact .inr ⟨i,_,by rw [aO (by omega)];exact hb',hb.symm,by simp [pS,hi],by rw [r3o k (fun e=>hk e.symm)];exact (keep hiL hi).symm⟩
      · rw [xD _ _ _ hkL] at hb;exact .inl ⟨fun e=>hk e.symm,hkL,hb⟩
  have mapg:∀ {θ:Nat→Nat} {b:AB},b.map θ≠.gone→b≠.gone:=fun hb e=>hb (by rw [e];rfl)
  refine ⟨ρ3,⟨fun k hk=>?_,fun k q hq=>?_,fun k b hb=>?_,fun k b q hb hg hq=>?_,fun k k' b b' q q' hb hb' hg hg' hq hq' e=>?_,hs.stab,s.ext.trans hs.ext (fun b hb hlt=>hcM b hb),fun b hb=>hs.st0 b (s.st0 b hb),fun b hb=>?_,?_,fun k hk=>?_,hs.glob⟩,l,shift,r3o⟩
  · rw [fM,lD] at hk;rw [r3o k (by omega)]
    exact s.dom k hk
  · by_cases hk:k=pos
    · rw [hk,r3p] at hq;exact hs.rng _ q hq
    · rw [r3o k hk] at hq;exact eG (s.rng k q hq) hs.ext.size
  · rcases get hb with ⟨h3,h4,h5⟩ | ⟨i,b',h3,rfl,h4,h5⟩
    · rw [r3o k h3];by_cases hg:b = .gone
      · subst hg;trivial
      · exact RB.later l (fun b1 o1 hp=>same b1 (s.rng k _ hp) (other h5 hg h4 hp)) (s.blk k b h5)
    · rw [h5];exact shiftB (hs.blk i b' h3)
  · rcases get hb with ⟨h3,h4,h5⟩ | ⟨i,b',h3,rfl,h4,h5⟩
    · rw [r3o k h3] at hq;obtain ⟨h7,h8⟩:=s.live k b q h5 hg hq;refine ⟨h7,fun hs'=>?_⟩
      rcases hs.st1 _ hs' with h9 | h9
      · exact h8 h9
      · exact other h5 hg h4 hq h9
    · rw [h5] at hq;obtain ⟨h7,h8⟩:=hs.live i b' q h3 (mapg hg) hq;exact ⟨hcM _ h7,h8⟩
  · rcases get hb with ⟨h3,h4,h5⟩ | ⟨i,b1,h3,rfl,h4,h5⟩ <;> rcases get hb' with ⟨h3',h4',h5'⟩ | ⟨i',b1',h3',rfl,h4',h5'⟩
    · rw [r3o k h3] at hq;rw [r3o k' h3'] at hq';exact s.inj k k' b b' q q' h5 h5' hg hg' hq hq' e
    · rw [r3o k h3] at hq;rw [h5'] at hq';have hl:=(hs.live i' b1' q' h3' (mapg hg') hq').1;rw [← e] at hl;exact absurd hl (other h5 hg h4 hq)
    · rw [r3o k' h3'] at hq';rw [h5] at hq;have hl:=(hs.live i b1 q h3 (mapg hg) hq).1;rw [e] at hl;exact absurd hl (other h5' hg' h4' hq')
    · rw [h5] at hq;rw [h5'] at hq';have:=hs.inj i i' b1 b1' q q' h3 h3' (mapg hg) (mapg hg') hq hq' e;subst this;rw [← h4,← h4']
  · rcases hs.st1 b hb with hb' | hb'
    · exact s.st1 b hb'
    · exact .inr (hcM b hb')
  · rw [fM,lD];exact s.mle
  · rw [r3o k (by omega)]
    exact s.keep k hk
theorem uH.up {θ:Nat→Nat}{h H:Hp}(hb:∀ (j:Nat) b,h[j]? = some b→b≠.gone→H[j]? = some b):∀ {hin:Hp}{i:Nat},(∀ b,b∈hin→b≠.gone)→uH θ h i hin→uH θ H i hin
  | [],_,_,_=>trivial
  | b::r,i,hng,hs=>by
    refine ⟨?_,uH.up hb (fun x hx=>hng x (aM _ hx)) hs.2⟩;rcases hs.1 with h1 | h1
    · exact .inl h1
    · refine .inr (hb _ _ h1 ?_);have:=hng b aR;cases b <;> simp [AB.map] at *
section
variable {P:Program}{env:eH}{h:Hp}{d:Option Nat}{ty:TypeId}{pos:String}{af:Array Edge}
theorem M8 (L:List Nat){pp k:Nat}{nb b1 u1:AB}{uu:AV}{dd:Nat}{x:Operand}{f:FuncId}{fs cs us xs:List AV}{args:List Operand}{ats:Array TypeId}{res:AV}{hin hout:Hp}(hx:evu env x=some (.clo (.func f) fs cs)) (ha:sX env args=some us)
    (hc:aT P f xs hin res (hout++[b1])) (hxs:∀ N,fs++us++cs=AV.mapL (th L N) xs) (hL:L.length=hin.length) (hnd:L.Nodup) (hh:∀ N,uH (th L N) h 0 hin) (hng:∀ b,b∈hin→b≠.gone) (hlen:hout.length=hin.length)
    (hput:∀ H:Hp,(∀ (j:Nat) b,h[j]? = some b→b≠.gone→H[j]? = some b)→zS H L (hout.map (AB.map (pS L pp)))=H.set k nb) (hu:res.map (pS L pp)=uu) (hb1:b1.map (pS L pp)=u1) :
    jU P ⟨some dd,.call { callee:=.value x,args:=args.toArray,argTypes:=ats },ty,pos,af,none⟩ env h pp k nb uu [u1]:=by
  intro c ρ S a w H g p hbel hpp K' Q hK';obtain ⟨hr0,hH0,hm0⟩:ρ pp=none∧H[pp]? = some .gone∧c.m≤pp:=by
    rcases hpp with h0 | h0
    · cases h0
    · exact h0
  have hxv:=p.evu hx;simp only [R] at hxv;obtain ⟨ys,zs,e1,h1,h2⟩:=hxv;have hall:RL S w (fs++us++cs) ρ (ys.toList++args.map a.eval++zs.toList):=jN (jN h1 (uS p ha)) h2;rw [hxs H.length] at hall;have hargs:=pK (th L H.length) ρ _ _ hall;obtain ⟨hf,hc⟩:=hc;have hsub:=uH.up hbel hng (hh H.length);have hs0:=g.hand hL hnd hsub;have hcall:=hc _ S w _ hs0 hargs;unfold Oper.wp;have hrun:(execOp a.eval ⟨some dd,.call { callee:=.value x,args:=args.toArray,argTypes:=ats },ty,pos,af,none⟩).run P w = .ok (.enter f (ys.toList++args.map a.eval++zs.toList).toArray) w:=by
    have e2:(ys++(args.toArray.map a.eval)++zs)=(ys.toList++args.map a.eval++zs.toList).toArray:=by
      apply Array.ext';simp
    simp only [execOp,resolve,e1,Deferred.ofValue,Sem.run_bind,Sem.run_pure,Result.andThen_ok,invoke];rw [e2];exact zP hf
  rw [hrun];simp only [Oper.upon];refine hcall.mono ?_;rintro e w' ⟨y,ρ',S',rfl,hs,hy⟩;simp only;obtain ⟨ρ3,g1,g2,g3,g4⟩:=g.callP hL hnd hsub hng hlen hr0 hH0 hm0 hs;rw [hput H hbel,hb1] at g1;exact hK' _ ρ3 S' w' g1 g2 (hu▸g3 hy) (fun j hj=>g4 j (hj (by simp)))
end
theorem pZ.freezeP {n:Nat × Nat}{c:oP}{ρ:Pl}{S:Nat→Prop}{env:eH}{h:Hp}{a:Act}{w:World}{t k off:Nat}{cs:List AV}(s:pZ n c ρ S env h a w) (ht:look env t=some (.ptr k off)) (hk:h[k]? = some (.cells cs)) (hi:AV.idfL cs=true) :
    pZ n c ρ (fun b=>S b∨∃ o,ρ k=some (b,o)) ((t,.pr cs off)::env) (h.set k .gone) a w:=by
  refine ⟨s.size,s.defers.st (fun _ h=>.inl h),fun t' x hx=>?_,s.hs.freezeC hk (by simp),s.cm⟩
  rw [iK] at hx;split at hx
  · rename_i e;subst e;cases hx;exact LN hi (s.hs.blk k _ hk) (s.env t _ ht)
  · exact zF3 (fun _ h=>.inl h) (s.env t' x hx)
theorem HW {S S':Nat→Prop}{w:World}{ρ:Pl}{x x':AV}(hS:∀ b,S b→S' b) (hx:∀ y,R S w x ρ y→R S' w x' ρ y):∀ {cs:List AV}{f:Nat},cs[f]? = some x→∀ {ys:List Value},RL S w cs ρ ys→RL S' w (cs.set f x') ρ ys
  | [],f,hf,ys,h=>by simp at hf
  | c::cs,0,hf,ys,h=>by
    simp only [eT,Option.some.injEq] at hf;subst hf;simp only [RL,List.set_cons_zero] at h ⊢;obtain ⟨y,zs,e,h1,h2⟩:=h;exact ⟨y,zs,e,hx y h1,zF6 hS h2⟩
  | c::cs,f+1,hf,ys,h=>by
    simp only [kO] at hf;simp only [RL,List.set_cons_succ] at h ⊢;obtain ⟨y,zs,e,h1,h2⟩:=h;exact ⟨y,zs,e,zF3 hS h1,HW hS hx hf h2⟩
theorem pZ.freezeIn {n:Nat × Nat}{c:oP}{ρ:Pl}{S:Nat→Prop}{env:eH}{h:Hp}{a:Act}{w:World}{j f k len sz:Nat}{cs:List AV}{es:List (List AV)}(s:pZ n c ρ S env h a w) (hj:h[j]? = some (.cells cs)) (hf:cs[f]? = some (.sl k 0 len sz)) (hk:h[k]? = some (.arr es sz)) (hn:len=es.length) (hi:AV.idfL es.flatten=true) :
    pZ n c ρ (fun b=>S b∨∃ o,ρ k=some (b,o)) env ((h.set k .gone).set j (.cells (cs.set f (.rowE es sz)))) a w:=by
  have hne:j≠k:=by rintro rfl;rw [hj] at hk;cases hk
  have h1:=s.hs.freeze hk;have hj':(h.set k .gone)[j]? = some (.cells cs):=by rw [kN (Ne.symm hne)];exact hj
  refine ⟨s.size,s.defers.st (fun _ h=>.inl h),fun t' x hx=>zF3 (fun _ h=>.inl h) (s.env t' x hx),h1.alter hj' (fun _=>?_) (by simp),s.cm⟩
  have hb:=s.hs.blk j _ hj;simp only [RB] at hb ⊢;obtain ⟨b,o,ys,e1,e2,e3⟩:=hb;refine ⟨b,o,ys,e1,e2,HW (fun _ h=>.inl h) (fun y hy=>?_) hf e3⟩;rw [hn] at hy;exact L6 hi (s.hs.blk k _ hk) hy
section
variable {P:Program}{n:Nat × Nat}{ops:Array Oper}{env:eH}{h:Hp}{K:eH→Hp→Prop}{rest:List Oper}{Q:Exit→eH→Hp→Prop}{code:Code}
theorem dU (t:Nat){k off:Nat}{cs:List AV}(ht:look env t=some (.ptr k off)) (hk:h[k]? = some (.cells cs)) (hi:AV.idfL cs=true) (hv:AW P n code ((t,.pr cs off)::env) (h.set k .gone) Q):AW P n code env h Q:=
  fun c ρ S a w QQ s hQ=>hv c ρ _ a w QQ (s.freezeP ht hk hi) hQ
theorem iP (j f:Nat){k len sz:Nat}{cs:List AV}{es:List (List AV)}(hj:h[j]? = some (.cells cs)) (hf:cs[f]? = some (.sl k 0 len sz)) (hk:h[k]? = some (.arr es sz)) (hn:len=es.length) (hi:AV.idfL es.flatten=true) (hv:AW P n code env ((h.set k .gone).set j (.cells (cs.set f (.rowE es sz)))) Q):AW P n code env h Q:=
  fun c ρ S a w QQ s hQ=>hv c ρ _ a w QQ (s.freezeIn hj hf hk hn hi) hQ
end
theorem HS.snocG {c:oP}{ρ:Pl}{S:Nat→Prop}{H:Hp}{w:World}(s:HS c ρ S H w):HS c ρ S (H++[.gone]) w:=by
  have get:∀ {k:Nat} {b:AB},(H++[AB.gone])[k]? = some b→b≠.gone→H[k]? = some b:=fun {k b} hb hg=>by
    by_cases hk:k<H.length
    · rwa [aO hk] at hb
    · rw [aG (by omega)] at hb
      by_cases e:k-H.length=0
      · rw [e] at hb;simp at hb;exact absurd hb.symm hg
      · rw [cW (by simp;omega)] at hb;cases hb
  refine ⟨fun k hk=>s.dom k (by simp at hk;omega),s.rng,fun k b hb=>?_,fun k b q hb hg hq=>s.live k b q (get hb hg) hg hq,fun k k' b b' q q' hb hb' hg hg' hq hq' e=>s.inj k k' b b' q q' (get hb hg) (get hb' hg') hg hg' hq hq' e,s.stab,s.ext,s.st0,s.st1,by rw [aJ];have:=s.mle;omega,s.keep,s.glob⟩
  by_cases hg:b = .gone
  · subst hg;trivial
  · exact s.blk k b (get hb hg)
theorem yJ {P:Program}{f:FuncId}{args:List AV}{res:AV}{hin hout:Hp}(h:aT P f args hin res hout):aT P f args hin res (hout++[.gone]):=by
  refine ⟨h.1,fun ρ S w vs hs ha=>(h.2 ρ S w vs hs ha).mono ?_⟩;rintro e w' ⟨y,ρ',S',rfl,h2,h3⟩;exact ⟨y,ρ',S',rfl,h2.snocG,h3⟩
end Go.Ab
namespace Go.Ab
open Go
set_option maxHeartbeats 1000000
theorem DT {w:World}{n b off:Nat}{d:List Value}{os:Array Obj}{c:Array Value}{e:TypeId}(hc:w.heap[b]? = some (.cells c e (0,0))) (hb:b<w.heap.size) :
    (Sort.grow (Sort.putRow id (Sort.ahead w n) b off d.toArray) os).heap[b]? = some (.cells (Sort.putCells id off d.toArray c) e (0,0)):=by
  rw [Sort.heap_grow_old _ _ (by rw [Sort.size_putRow];exact hb)]
  unfold Sort.putRow Sort.mapBlock;show (w.heap.modify b _)[b]? = _;rw [zF,if_pos rfl,hc];rfl
theorem KA {w:World}{n b off:Nat}{d:List Value}{os:Array Obj}{c:Array Value}{e:TypeId}(hc:w.heap[b]? = some (.cells c e (0,0))) (hb:b<w.heap.size) :
    nQ (fun x=>x=b) w (Sort.grow (Sort.putRow id (Sort.ahead w n) b off d.toArray) os):=by
  have other:∀ x,x<w.heap.size→x≠b→(Sort.grow (Sort.putRow id (Sort.ahead w n) b off d.toArray) os).heap[x]? = w.heap[x]?:=fun x hx hne=>by
    rw [Sort.heap_grow_old _ _ (by rw [Sort.size_putRow];exact hx)]
    unfold Sort.putRow Sort.mapBlock;show (w.heap.modify b _)[x]? = _;rw [zF,if_neg (Ne.symm hne)]
  refine ⟨rfl,rfl,rfl,by rw [Sort.size_grow,Sort.size_putRow];exact jQ _ _,fun x hx hne=>other x hx hne,fun x cc ee fz hcc=>?_⟩
  by_cases hx:x=b
  · subst hx;rw [hc] at hcc;cases hcc;exact ⟨_,_,DT hc hb,by simp [Sort.putCells]⟩
  · exact ⟨cc,fz,by rw [other x (aX.1 hcc).1 hx];exact hcc,rfl⟩
theorem zJ6 {c:oP}{ρ:Pl}{S:Nat→Prop}{es es':List (List AV)}{sz:Nat}{w w':World}{b o n:Nat}{ys ys' Z:List Value}(s:HS c ρ S [.arr es sz] w) (hp:ρ 0=some (b,o)) (hne:es≠[])
    (hys:U3 w b o ys) (hl:(ys'++Z).length=ys.length) (he:∀ e,e∈es'→e.length=sz) (hr:∀ S' w',iX ρ ρ S S' w w'→RL S' w' es'.flatten ρ ys')
    (hw:w'=Sort.putRow id (Sort.ahead w n) b o (ys'++Z).toArray):HS c ρ S [.arr es' sz] w':=by
  obtain ⟨_,h0,h3⟩:=s.blk 0 _ rfl;obtain ⟨c,ty,hc,hg⟩:=hys;have hb:=(aX.1 hc).1;have hw2:w'=Sort.grow (Sort.putRow id (Sort.ahead w n) b o (ys'++Z).toArray) #[]:=by rw [hw,L2]
  have hh:w'.heap[b]? = some (.cells (Sort.putCells id o (ys'++Z).toArray c) ty (0,0)):=by rw [hw2];exact DT hc hb
  obtain ⟨s',_⟩:=s.upd (k:=0) (b0:=.arr es sz) (nb:=.arr es' sz) (w':=w') rfl (by simp) hp (by rw [hw2];exact KA hc hb) (fun l=>by
    refine ⟨he,h0,.inr ⟨b,o,ys',rfl,⟨_,ty,hh,fun j y hj=>?_⟩,hr _ _ l⟩⟩
    obtain ⟨hjl,hz⟩:=aB.1 hj;rw [aJ] at hl;have hold:=hg j (ys[j]'(by omega)) (aA (by omega))
    unfold Sort.putCells;rw [IC,hold];show some (if o≤o+j∧o+j<o+(ys'++Z).toArray.size then _ else _)=_
    have hsz:(ys'++Z).toArray.size=ys'.length+Z.length:=by simp
    rw [if_pos ⟨by omega,by omega⟩]
    congr 1;rw [show o+j-o=j by omega,getElem!_pos _ j (by omega)]
    show (ys'++Z).toArray[j]'_=y
    rw [C5,List.getElem_append_left hjl];exact hz)
  exact s'
theorem UR {es:List (List AV)}{sz:Nat}(h:∀ e,e∈es→e.length=sz) (m:Nat):(es.drop m).flatten=es.flatten.drop (m*sz):=by
  induction es generalizing m with
  | nil=>simp
  | cons a l ih=>
    have ha:=h a aR;cases m with
    | zero=>simp
    | succ m=>
      rw [List.drop_succ_cons,eW,ih (fun e he=>h e (aM _ he)),List.drop_append];rw [dJ (l:=a) (by rw [ha,eV];omega),ha,eV,V4,VG,List.nil_append]
theorem zF7 {S:Nat→Prop}{w:World}{ρ:Pl}:∀ {xs as_:List AV}{ys bs:List Value},RL S w xs ρ ys→RL S w as_ ρ bs→RL S w (xs++as_) ρ (ys++bs)
  | [],as_,ys,bs,h,h'=>by simp only [RL] at h;subst h;exact h'
  | x::xs,as_,ys,bs,h,h'=>by
    simp only [RL] at h;obtain ⟨y,zs,rfl,h1,h2⟩:=h;exact ⟨y,zs++bs,rfl,h1,zF7 h2 h'⟩
theorem SF {S:Nat→Prop}{w:World}{ρ:Pl}:∀ {xs:List AV}{ys:List Value},RL S w xs ρ ys→xs.all AV.one=true→∀ u,u∈ys→u.oneCell'=true
  | [],ys,h,_,u,hu=>by simp only [RL] at h;subst h;cases hu
  | x::xs,ys,h,h1,u,hu=>by
    simp only [RL] at h;obtain ⟨y,zs,rfl,h2,h3⟩:=h;simp only [zK,aN] at h1;rcases bO.1 hu with rfl | hu
    · exact GI h2 h1.1
    · exact SF h3 h1.2 u hu
theorem G8 {P : Program} {f : FuncId} {sz : Nat} (hfn : ∃ fn, P.funcs[f]? = some fn ∧ (fn.name == "runtime.NumGoroutine") = false ∧ fn.body.isNone = false)
    (hs:∀ (blk off cap len i j:Nat) (cs:List Value) (w:World),cs.length=len*sz→Sort.Holds id w blk off cs.toArray→(∀ u,u∈cs→u.oneCell'=true)→len≤cap→cap≤9223372036854775807→i≤j→j≤len →
      Calls P f #[.slice (some ⟨blk,off,none⟩) len cap,.int .i64 i,.int .i64 j] w fun e w'=>e = .returned (.slice (some ⟨blk,off,none⟩) (len-(j-i)) cap)∧∃ (q:Nat) (Z:List Value),Z.length=(j-i)*sz∧w'=Sort.putRow id (Sort.ahead w q) blk off (cs.take (i*sz)++cs.drop (j*sz)++Z).toArray)
    (es:List (List AV)) (hes:∀ e,e∈es→e.length=sz) (h1:es.flatten.all AV.one=true) (i j:Nat) (hij:i≤j) (hj:j≤es.length) (hne:es≠[]) :
    aT P f [.sl 0 0 es.length sz,.i (i:Int),.i (j:Int)] [.arr es sz] (.sl 0 0 (es.length-(j-i)) sz) [.arr (es.take i++es.drop j) sz]:=by
  refine ⟨hfn,fun ρ S w vs s hv=>?_⟩
  simp only [RL] at hv;obtain ⟨y,_,rfl,hy,y2,_,rfl,hy2,y3,_,rfl,hy3,rfl⟩:=hv;simp only [R] at hy hy2 hy3;subst hy2 hy3;obtain ⟨a,cap,rfl,hcap,hy⟩:=hy;have hl0:0<es.length:=eF.2 hne;rcases hy with ⟨h0,_⟩ | ⟨b,o,hp,ha,hcl,hrm⟩
  · omega
  · obtain ⟨_,hs0,hB⟩:=s.blk 0 _ rfl;rcases hB with hB | ⟨b',o',ys,h4,h5,h6⟩
    · exact absurd hB.1 hne
    · rw [hp] at h4;cases h4;rw [CX,Nat.add_zero] at ha;subst ha;have hmax:maxLen≤9223372036854775807:=by decide
      have hyl:ys.length=es.length*sz:=by rw [fZ h6,eR hes]
      obtain ⟨cc,ct,hcc,hcg⟩:=h5;have hH:Sort.Holds id w b o ys.toArray:=fun t ht=>by
        have ht':t<ys.length:=by simpa using ht
        have h7:=hcg t ys[t] (aA ht');refine ⟨?_,?_⟩
        · show w.cell? ⟨b,o+t,none⟩=some (ys.toArray[t]!);rw [getElem!_pos _ t ht];simp only [World.cell?,hcc];rw [C5];exact h7
        · simp [World.frozen?,hcc]
      refine (hs b o cap es.length i j ys w hyl hH (SF h6 h1) hcl (by omega) hij hj).mono fun e w' ⟨he,q,Z,hZ,hw⟩=>?_
      subst he;have hil:i*sz≤j*sz:=fK _ hij;have hjl:j*sz≤es.length*sz:=fK _ hj;have hsub:(j-i)*sz=j*sz-i*sz:=Nat.sub_mul _ _ _;have s':=zJ6 (es':=es.take i++es.drop j) (ys:=ys) (ys':=ys.take (i*sz)++ys.drop (j*sz)) (Z:=Z) (n:=q) s hp hne ⟨cc,ct,hcc,hcg⟩ (by simp only [aJ,bL,eD,hZ]; omega)
        (fun e he=>by rcases bG.1 he with he | he;exact hes e (fC he);exact hes e (fD he))
        (fun S' w' l=>by
          rw [iH,E5 hes,UR hes]
          exact zF7 (rI (h6.later l) _) (yR (h6.later l) _)) hw
      have hsz0:=hs0;refine ⟨_,ρ,S,rfl,s',?_⟩;simp only [R];refine ⟨_,cap,rfl,hcap,.inr ⟨b,o,hp,by simp,by omega,?_⟩⟩
      rw [hw];have hb:=(aX.1 hcc).1;have hw2:Sort.putRow id (Sort.ahead w q) b o (ys.take (i*sz)++ys.drop (j*sz)++Z).toArray=Sort.grow (Sort.putRow id (Sort.ahead w q) b o (ys.take (i*sz)++ys.drop (j*sz)++Z).toArray) #[]:=by rw [L2]
      rw [hw2];exact (KA hcc hb).room hrm
theorem AI {P:Program}(w:World) (t e ty:TypeId) (z:Value) (ht:P.underlying t=some (.slice e)) (hv:∀ w,(zeroValue e).run P w = .ok z w) (hz:z.cells.toList≠[]) (h1:∀ u,u∈z.cells.toList→u.oneCell'=true) (b o n c:Nat) (hn:0<n)
    (hc:∀ j,j<n*z.cells.toList.length→(w.cell? ⟨b,o+j,none⟩).isSome=true) (hf:∀ j,j<n*z.cells.toList.length→w.frozen? ⟨b,o+j,none⟩=false) :
    (Builtin.clear_ #[t] ty #[.slice (some ⟨b,o,none⟩) n c]).run P w = .ok (.tuple #[]) (w.setCells b o (Builtin.zeroCells z.cells n).toList):=by
  obtain ⟨hm,hl⟩:=qC (z:=z.cells) rfl hz n;have hst:=run_storeCells_cells (P:=P) b o (Builtin.zeroCells z.cells n).toList 0 w (fun j hj=>by simpa using hc j (by omega)) (fun j hj=>by simpa using hf j (by omega)) (fun v hv'=>h1 v (hm v hv'))
  simp only [Nat.add_zero] at hst;obtain ⟨m,rfl⟩:∃ m,n=m+1:=⟨n-1,by omega⟩
  simp [Builtin.clear_,run_underlying ht,hv,hst]
end Go.Ab
namespace Go.Proofs.YtmmkhmilpeodnaaGreat
open Go Go.Ab Go.Ld Go.Lib Go.Sort Go.RowKit Go.Shelf
theorem U6 (d:List Value) (i j:Nat) (Z:List Value) (hij:i≤j) (hj:j≤d.length) (hZ:Z.length=j-i) :
    lay (lay d.toArray i (d.drop j)) (i+(d.length-j)) Z=(d.take i++d.drop j++Z).toArray:=by
  apply Array.ext_getElem?;intro t;have l1:(d.take i).length=i:=by simp;omega
  have l2:(d.drop j).length=d.length-j:=by simp
  rw [lay_get? _ _ _ _ (by rw [lay_size];simp;omega),lay_get? _ _ _ _ (by rw [l2];simp;omega),show (d.take i++d.drop j++Z).toArray[t]? = (d.take i++d.drop j++Z)[t]? from iZ]
  simp only [hZ,l2];by_cases c1:t<i
  · rw [if_neg (by omega),if_neg (by omega),aO (by simp;omega),aO (by omega),cE,if_pos c1,iZ]
  · by_cases c2:t<i+(d.length-j)
    · rw [if_neg (by omega),if_pos (by omega),aO (by simp;omega),aG (by omega),l1]
    · rw [aG (by simp;omega)]
      simp only [aJ,l1,l2];by_cases c3:t<d.length
      · rw [if_pos (by omega)]
      · rw [if_neg (by omega),if_neg (by omega),Array.getElem?_eq_none (by simp;omega),cW (by omega)]
set_option maxHeartbeats 4000000 in
set_option maxRecDepth 1000000 in
theorem zP5 (blk off cap len i j:Nat) (cs:List Value) (w:World) (hcl0:cs.length=len*2) (hH:Holds id w blk off cs.toArray) (h1:∀ u,u∈cs→u.oneCell'=true) (hcap:len≤cap) (hm:cap≤9223372036854775807) (hij:i≤j) (hj:j≤len) :
    Calls Tryz.prog 143 #[.slice (some ⟨blk,off,none⟩) len cap,.int .i64 i,.int .i64 j] w fun e w'=>e = .returned (.slice (some ⟨blk,off,none⟩) (len-(j-i)) cap)∧∃ (q:Nat) (Z:List Value),Z.length=(j-i)*2∧w'=putRow id (Sort.ahead w q) blk off (cs.take (i*2)++cs.drop (j*2)++Z).toArray:=by
  by_cases heq:i=j
  · subst heq;have h0:Calls Tryz.prog 143 #[.slice (some ⟨blk,off,none⟩) len cap,.int .i64 i,.int .i64 i] w fun e w'=>e = .returned (.slice (some ⟨blk,off,none⟩) len cap)∧w'=w:=by
      clear hH h1
      go_enter Tryz.func143,Tryz.ntmps143
      go_wp2
      all_goals (go_ret;exact ⟨rfl,rfl⟩)
    refine h0.mono ?_;rintro e w' ⟨rfl,rfl⟩;refine ⟨by rw [fN,zF9],0,[],by simp,?_⟩
    rw [List.append_nil,bR];exact (putRow_self id (Sort.ahead w' 0) blk off cs.toArray hH).symm
  · have hlt:i<j:=by omega
    obtain ⟨inf,z,t1,t2,t3,t4,t5,t6,t7⟩:=T.tiOk 48 _ rfl;have t22:Tryz.prog.underlying 82=some (.slice 48):=T.elemOk _ _ rfl;have hzv:∀ w,(zeroValue 48).run Tryz.prog w = .ok z w:=fun w=>by simp [zeroValue,typeInfo,t1,t4]
    have hz2:z.cells.toList.length=2:=by rw [t5];rfl
    have hz1:∀ u,u∈z.cells.toList→u.oneCell'=true:=by rw [t5];exact bF.1 rfl
    obtain ⟨_,hZl⟩:=qC (z:=z.cells) rfl (by intro h;rw [h] at hz2;cases hz2) (j-i)
    rw [hz2] at hZl;have hji:len-(i+(len-j))=j-i:=by omega
    obtain ⟨Z,hZe⟩:∃ Z,Z=(Builtin.zeroCells z.cells (j-i)).toList:=⟨_,rfl⟩;rw [← hZe] at hZl;obtain ⟨news,hnews⟩:∃ news,news=cs.drop (j*2):=⟨_,rfl⟩;have hlen:news.length=(len-j)*2:=by rw [hnews,eD];omega
    have hget:∀ t,t<(len-j)*2→news[t]? = some (cs.toArray[j*2+t]!):=by
      intro t ht;rw [hnews,eU,getElem!_pos cs.toArray (j*2+t) (by simp;omega),C5,aA]
    obtain ⟨A,hA,hsrc⟩:∃ A:Addr,(if cap=j then some (⟨blk,off,none⟩:Addr) else some ⟨blk,off+j*2,none⟩)=some A∧Hid (∀ t u,news[t]? = some u→w.drew.cell? (A.add t)=some u):=by
      by_cases h:cap=j
      · refine ⟨⟨blk,off,none⟩,by simp [h],fun t u hu=>?_⟩
        have h0:news.length=0:=by rw [hlen];omega
        rw [fE.1 h0] at hu;simp at hu
      · refine ⟨⟨blk,off+j*2,none⟩,by simp [h],fun t u hu=>?_⟩
        have ht:t<(len-j)*2:=by
          have:=(aB.1 hu).1
          rwa [hlen] at this
        rw [hget t ht] at hu;rw [Addr.add_lit,show off+j*2+t=off+(j*2+t) by omega]
        exact (hH (j*2+t) (by simp;omega)).1.trans hu
    have s1:Hid (news.length=(len-j)*2):=hlen;have s2:Hid (∀ u∈news,u.oneCell'=true):=by
      intro u hu;rw [hnews] at hu;exact h1 u (fD hu)
    have s3:Hid (∀ t,t<news.length→(w.drew.cell? ⟨blk,off+i*2+t,none⟩).isSome=true∧w.drew.frozen? ⟨blk,off+i*2+t,none⟩=false):=by
      intro t ht;rw [hlen] at ht;rw [eC];exact ⟨by show (w.cell? _).isSome=true;rw [(hH (i*2+t) (by simp;omega)).1];rfl,(hH (i*2+t) (by simp;omega)).2⟩
    obtain ⟨W1,hW1⟩:∃ W1,W1=w.drew.setCells blk (off+i*2) news:=⟨_,rfl⟩;have hW1':W1=putRow id (Sort.ahead w 1) blk off (lay cs.toArray (i*2) (cs.drop (j*2))):=by
      have h:=putRow_setCells id (Sort.ahead w 1) blk off (cs.drop (j*2)) cs.toArray (i*2) (by simp;omega)
      rw [rZ,putRow_self id (Sort.ahead w 1) blk off cs.toArray (holds_ahead id w 1 blk off cs.toArray hH)] at h;rw [hW1,hnews];exact h
    have hH1:Holds id W1 blk off (lay cs.toArray (i*2) (cs.drop (j*2))):=by rw [hW1'];exact holds_putRow id _ blk off cs.toArray _ (holds_ahead id w 1 blk off cs.toArray hH) (lay_size _ _ _)
    have hcl:∀ ty,(Builtin.clear_ #[82] ty #[.slice (some ⟨blk,off+(i+(len-j))*2,none⟩) (len-(i+(len-j))) (cap-(i+(len-j)))]).run Tryz.prog W1 = .ok (.tuple #[]) (W1.setCells blk (off+(i+(len-j))*2) Z):=
      fun ty=>by
       rw [hZe,← hji];exact AI W1 _ _ ty z t22 hzv (by intro h; rw [h] at hz2; cases hz2) hz1 blk _ _ _ (by omega)
        (fun t ht=>by rw [hz2] at ht;rw [eC,(hH1 _ (by rw [lay_size];simp;omega)).1];rfl) (fun t ht=>by rw [hz2] at ht;rw [eC];exact (hH1 _ (by rw [lay_size];simp;omega)).2)
    have X:Aside (W1=putRow id (Sort.ahead w 1) blk off (lay cs.toArray (i*2) (cs.drop (j*2)))):=hW1';have hW:Hid (W1=w.drew.setCells blk (off+i*2) news):=hW1;have mixed:=cF;have hic:i≤cap:=by omega
    have hjc:j≤cap:=by omega
    clear hW1 hW1' hH1 hH hget hnews hlen hji hZe
    go_enter Tryz.func143,Tryz.ntmps143
    go_wp2_with fail
    go_region_law_o (refine step_append_room rfl (.tmp 22) (.tmp 25) 82 rfl 48 inf 2 t22 t1 t2 blk off i cap (by simp [Act.eval,Act.put]) A (len-j) (cap-j) news (by simp [Act.eval,Act.put]) s1.out hsrc.out s2.out (by omega) s3.out ?_;rw [← hW.out])
    go_wp2
    go_ret
    refine ⟨by rw [show len-(j-i)=i+(len-j) by omega];rfl,1,Z,hZl,?_⟩
    rw [X.out,← rZ Z,show off+(i+(len-j))*2=off+(i*2+(cs.length-j*2)) by omega,putRow_setCells id _ blk off _ _ _ (by rw [lay_size,oA];omega),rZ,
      U6 cs (i*2) (j*2) _ (by omega) (by omega) (by omega)]
theorem zZ0 (l:List SP) (i j:Nat) (hij:i≤j) (hj:j≤l.length) (hne:l≠[]) :
    aT Tryz.prog 143 [.sl 0 0 l.length 2,.i (i:Int),.i (j:Int)] [.arr (cT l) 2] (.sl 0 0 (l.length-(j-i)) 2) [.arr (cT (l.take i++l.drop j)) 2]:=by
  have h:=G8 (sz:=2) ⟨_,Tryz.func143,by kernel_rfl,by kernel_rfl⟩ zP5 (cT l) (jV l) (DI l) i j hij (by rw [aF];exact hj) (fun h=>hne (mQ.1 h))
  rw [aF,← lS,← List.map_drop,← dW] at h;exact h
set_option maxHeartbeats 4000000 in
set_option maxRecDepth 1000000 in
theorem zP6 (blk off cap len i j:Nat) (cs:List Value) (w:World) (hcl0:cs.length=len*2) (hH:Holds id w blk off cs.toArray) (h1:∀ u,u∈cs→u.oneCell'=true) (hcap:len≤cap) (hm:cap≤9223372036854775807) (hij:i≤j) (hj:j≤len) :
    Calls Tryz.prog 88 #[.slice (some ⟨blk,off,none⟩) len cap,.int .i64 i,.int .i64 j] w fun e w'=>e = .returned (.slice (some ⟨blk,off,none⟩) (len-(j-i)) cap)∧∃ (q:Nat) (Z:List Value),Z.length=(j-i)*2∧w'=putRow id (Sort.ahead w q) blk off (cs.take (i*2)++cs.drop (j*2)++Z).toArray:=by
  by_cases heq:i=j
  · subst heq;have h0:Calls Tryz.prog 88 #[.slice (some ⟨blk,off,none⟩) len cap,.int .i64 i,.int .i64 i] w fun e w'=>e = .returned (.slice (some ⟨blk,off,none⟩) len cap)∧w'=w:=by
      clear hH h1
      go_enter Tryz.func88,Tryz.ntmps88
      go_wp2
      all_goals (go_ret;exact ⟨rfl,rfl⟩)
    refine h0.mono ?_;rintro e w' ⟨rfl,rfl⟩;refine ⟨by rw [fN,zF9],0,[],by simp,?_⟩
    rw [List.append_nil,bR];exact (putRow_self id (Sort.ahead w' 0) blk off cs.toArray hH).symm
  · have hlt:i<j:=by omega
    obtain ⟨inf,z,t1,t2,t3,t4,t5,t6,t7⟩:=T.tiOk 87 _ rfl;have t22:Tryz.prog.underlying 79=some (.slice 87):=T.elemOk _ _ rfl;have hzv:∀ w,(zeroValue 87).run Tryz.prog w = .ok z w:=fun w=>by simp [zeroValue,typeInfo,t1,t4]
    have hz2:z.cells.toList.length=2:=by rw [t5];rfl
    have hz1:∀ u,u∈z.cells.toList→u.oneCell'=true:=by rw [t5];exact bF.1 rfl
    obtain ⟨_,hZl⟩:=qC (z:=z.cells) rfl (by intro h;rw [h] at hz2;cases hz2) (j-i)
    rw [hz2] at hZl;have hji:len-(i+(len-j))=j-i:=by omega
    obtain ⟨Z,hZe⟩:∃ Z,Z=(Builtin.zeroCells z.cells (j-i)).toList:=⟨_,rfl⟩;rw [← hZe] at hZl;obtain ⟨news,hnews⟩:∃ news,news=cs.drop (j*2):=⟨_,rfl⟩;have hlen:news.length=(len-j)*2:=by rw [hnews,eD];omega
    have hget:∀ t,t<(len-j)*2→news[t]? = some (cs.toArray[j*2+t]!):=by
      intro t ht;rw [hnews,eU,getElem!_pos cs.toArray (j*2+t) (by simp;omega),C5,aA]
    obtain ⟨A,hA,hsrc⟩:∃ A:Addr,(if cap=j then some (⟨blk,off,none⟩:Addr) else some ⟨blk,off+j*2,none⟩)=some A∧Hid (∀ t u,news[t]? = some u→w.drew.cell? (A.add t)=some u):=by
      by_cases h:cap=j
      · refine ⟨⟨blk,off,none⟩,by simp [h],fun t u hu=>?_⟩
        have h0:news.length=0:=by rw [hlen];omega
        rw [fE.1 h0] at hu;simp at hu
      · refine ⟨⟨blk,off+j*2,none⟩,by simp [h],fun t u hu=>?_⟩
        have ht:t<(len-j)*2:=by
          have:=(aB.1 hu).1
          rwa [hlen] at this
        rw [hget t ht] at hu;rw [Addr.add_lit,show off+j*2+t=off+(j*2+t) by omega]
        exact (hH (j*2+t) (by simp;omega)).1.trans hu
    have s1:Hid (news.length=(len-j)*2):=hlen;have s2:Hid (∀ u∈news,u.oneCell'=true):=by
      intro u hu;rw [hnews] at hu;exact h1 u (fD hu)
    have s3:Hid (∀ t,t<news.length→(w.drew.cell? ⟨blk,off+i*2+t,none⟩).isSome=true∧w.drew.frozen? ⟨blk,off+i*2+t,none⟩=false):=by
      intro t ht;rw [hlen] at ht;rw [eC];exact ⟨by show (w.cell? _).isSome=true;rw [(hH (i*2+t) (by simp;omega)).1];rfl,(hH (i*2+t) (by simp;omega)).2⟩
    obtain ⟨W1,hW1⟩:∃ W1,W1=w.drew.setCells blk (off+i*2) news:=⟨_,rfl⟩;have hW1':W1=putRow id (Sort.ahead w 1) blk off (lay cs.toArray (i*2) (cs.drop (j*2))):=by
      have h:=putRow_setCells id (Sort.ahead w 1) blk off (cs.drop (j*2)) cs.toArray (i*2) (by simp;omega)
      rw [rZ,putRow_self id (Sort.ahead w 1) blk off cs.toArray (holds_ahead id w 1 blk off cs.toArray hH)] at h;rw [hW1,hnews];exact h
    have hH1:Holds id W1 blk off (lay cs.toArray (i*2) (cs.drop (j*2))):=by rw [hW1'];exact holds_putRow id _ blk off cs.toArray _ (holds_ahead id w 1 blk off cs.toArray hH) (lay_size _ _ _)
    have hcl:∀ ty,(Builtin.clear_ #[79] ty #[.slice (some ⟨blk,off+(i+(len-j))*2,none⟩) (len-(i+(len-j))) (cap-(i+(len-j)))]).run Tryz.prog W1 = .ok (.tuple #[]) (W1.setCells blk (off+(i+(len-j))*2) Z):=
      fun ty=>by
       rw [hZe,← hji];exact AI W1 _ _ ty z t22 hzv (by intro h; rw [h] at hz2; cases hz2) hz1 blk _ _ _ (by omega)
        (fun t ht=>by rw [hz2] at ht;rw [eC,(hH1 _ (by rw [lay_size];simp;omega)).1];rfl) (fun t ht=>by rw [hz2] at ht;rw [eC];exact (hH1 _ (by rw [lay_size];simp;omega)).2)
    have X:Aside (W1=putRow id (Sort.ahead w 1) blk off (lay cs.toArray (i*2) (cs.drop (j*2)))):=hW1';have hW:Hid (W1=w.drew.setCells blk (off+i*2) news):=hW1;have mixed:=cF;have hic:i≤cap:=by omega
    have hjc:j≤cap:=by omega
    clear hW1 hW1' hH1 hH hget hnews hlen hji hZe
    go_enter Tryz.func88,Tryz.ntmps88
    go_wp2_with fail
    go_region_law_o (refine step_append_room rfl (.tmp 22) (.tmp 25) 79 rfl 87 inf 2 t22 t1 t2 blk off i cap (by simp [Act.eval,Act.put]) A (len-j) (cap-j) news (by simp [Act.eval,Act.put]) s1.out hsrc.out s2.out (by omega) s3.out ?_;rw [← hW.out])
    go_wp2
    go_ret
    refine ⟨by rw [show len-(j-i)=i+(len-j) by omega];rfl,1,Z,hZl,?_⟩
    rw [X.out,← rZ Z,show off+(i+(len-j))*2=off+(i*2+(cs.length-j*2)) by omega,putRow_setCells id _ blk off _ _ _ (by rw [lay_size,oA];omega),rZ,
      U6 cs (i*2) (j*2) _ (by omega) (by omega) (by omega)]
theorem zZ1 (l:List G) (i j:Nat) (hij:i≤j) (hj:j≤l.length) (hne:l≠[]) :
    aT Tryz.prog 88 [.sl 0 0 l.length 2,.i (i:Int),.i (j:Int)] [.arr (kD l) 2] (.sl 0 0 (l.length-(j-i)) 2) [.arr (kD (l.take i++l.drop j)) 2]:=by
  have h:=G8 (sz:=2) ⟨_,Tryz.func88,by kernel_rfl,by kernel_rfl⟩ zP6 (kD l) (qE l) (zA0 l) i j hij (by rw [aF];exact hj) (fun h=>hne (mQ.1 h))
  rw [aF,← lS,← List.map_drop,← dW] at h;exact h
end Go.Proofs.YtmmkhmilpeodnaaGreat
namespace Go.Proofs.YtmmkhmilpeodnaaGreat
open Go Go.Ab Go.Shelf Go.Proofs
shelf_lay Lays2.n23 Nm2 23 at Tryz as laysDelete
theorem zB5 (l:List Int) (i j:Nat) (hij:i≤j) (hj:j≤l.length) (hne:l≠[]) :
    aT Tryz.prog 142 [.sl 0 0 l.length 1,.i (i:Int),.i (j:Int)] [.arr (ints l) 1] (.sl 0 0 (l.length-(j-i)) 1) [.arr (ints (l.take i++l.drop j)) 1]:=
  HV ⟨_,Tryz.func142,by kernel_rfl,by kernel_rfl⟩ (fun blk off cap i j zs w h1 h2 h3 h4 h5=>Any.slices_Delete_int laysDelete blk off cap i j zs w h1 h2 h3 h4 h5) l i j hij hj hne
end Go.Proofs.YtmmkhmilpeodnaaGreat
namespace Go.Ld
open Go.Ab Go.Proofs.YtmmkhmilpeodnaaGreat
abbrev gL (q:W→Bool) (l:List W):List W:=l.filter fun x=>!q x
theorem xJ {q:W→Bool}{l:List W}{k:Nat}(h:k<l.length):gL q (l.take (k+1))=if q l[k] then gL q (l.take k) else gL q (l.take k)++[l[k]]:=by
  unfold gL;rw [aP h,List.filter_append];cases e:q l[k] <;> simp [e]
theorem KY (q:W→Bool) (l:List W) (k:Nat):(gL q (l.take k)).length≤k:=bP (qM _ _) (by simp;omega)
theorem R0 {α:Type}(p:α→Bool):∀ (l:List α) (k:Nat),(oV p l k = -1∧∀ x,x∈l→p x=false)∨∃ (j:Nat) (hj:j<l.length),oV p l k=((k+j:Nat):Int)∧p l[j]=true∧∀ x,x∈l.take j→p x=false
  | [],k=>.inl ⟨rfl,fun x hx=>by cases hx⟩
  | y::l,k=>by
    unfold oV;cases hp:p y with
    | true=>exact .inr ⟨0,by simp,by rw [if_pos rfl];rfl,by simpa using hp,fun x hx=>by simp at hx⟩
    | false=>
      rw [if_neg (by simp)]
      rcases R0 p l (k+1) with ⟨h1,h2⟩ | ⟨j,hj,h1,h2,h3⟩
      · refine .inl ⟨h1,fun x hx=>?_⟩
        rcases bO.1 hx with rfl | hx
        · exact hp
        · exact h2 x hx
      · refine .inr ⟨j+1,by simp;omega,by rw [h1];omega,by simpa using h2,fun x hx=>?_⟩
        rw [oO] at hx;rcases bO.1 hx with rfl | hx
        · exact hp
        · exact h3 x hx
def Q6 (m x:W):W:=if x.2.1<m.2.1 then x else m
theorem KT:∀ (l:List W) (f:W),(l.foldl Q6 f).2.1=l.foldl (fun m x=>if x.2.1<m then x.2.1 else m) f.2.1
  | [],_=>rfl
  | x::l,f=>by
    rw [qK,qK,KT l];congr 1;unfold Q6;split <;> rfl
theorem UQ {l:List W}{f:W}{k:Nat}(h:k<l.length):(l.take (k+1)).foldl Q6 f=Q6 ((l.take k).foldl Q6 f) l[k]:=by
  rw [aP h,V7];rfl
end Go.Ld
namespace Go.Proofs.YtmmkhmilpeodnaaGreat
open Go Go.Ab Go.Ld
attribute [local irreducible] VC AW bX aT
set_option maxHeartbeats 4000000
theorem yB4 {F:FuncId}{caps:List AV}{q:W→Bool}(l:List W) (hl:l.length≤1000000) (hi:AV.idfL caps=true) (hp:AV.plnL caps=true) (hF:∀ x,x∈l→aT Tryz.prog F (.agg (wA x)::caps) [] (.b (q x)) []) :
    aT Tryz.prog 104 [.sl 0 0 l.length 3,.clo (.func F) [] caps] [.arr (fH l) 3] (.sl 0 0 (gL q l).length 3) [.arr (fH (gL q l)) 3]:=by
  have hll:(fH l).length=l.length:=fJ l;have hix:=ZM hl hi hF;have hvw:oN [.arr (fH l) 3] (.sl 0 0 l.length 3) (.rowE (fH l) 3):=vK rfl hll.symm (vT (fun _=>rfl) _);refine bK T Tryz.func104 rfl rfl rfl rfl ?_;rcases R0 q l 0 with ⟨h1,h2⟩ | ⟨j,hj,h1,h2,h3⟩
  · rw [h1] at hix;have hk:gL q l=l:=G9.2 fun x hx=>by rw [h2 x hx];rfl
    rw [hk]
    (repeat' (first|refine wS ?_|refine wR ?_|refine wT ?_|(refine rg 0 (aV ?_))|(refine rg 1 (dK rfl (vV (by exact eJ rfl rfl hix (.cons hvw (.cons (.clo .nil (eO _ hp)) .nil)) rfl rfl) ?_));refine aV ?_)|(refine rg 2 (mW rfl (vV (eQ rfl rfl) ?_)))|(refine rg 3 (mW rfl (aV ?_)))|refine nZ ?_));all_goals first | (exfalso;omega) | exact ⟨.inl rfl,[0],_,rfl,rfl,rfl,⟨.inr (aD rfl rfl (bS _)),trivial⟩,by decide,mH⟩
  · rw [h1,Nat.zero_add] at hix;have hk0:gL q (l.take (j+1))=l.take j:=by
      rw [xJ hj,if_pos h2];exact G9.2 fun x hx=>by rw [h3 x hx];rfl
    have hkl:(gL q (l.take (j+1))).length=j:=by rw [hk0];simp;omega
    have hka:gL q (l.take (j+1))++l.drop (gL q (l.take (j+1))).length=l:=by rw [hkl,hk0,bR]
    have hkf:gL q l=gL q (l.take l.length):=by rw [dI]
    rw [hkf]
    (repeat' (first|refine wS ?_|refine wB ?_|refine wK ?_|refine wU ?_|(refine rg 0 (aV ?_))|(refine rg 1 (dK rfl (vV (by exact eJ rfl rfl hix (.cons hvw (.cons (.clo .nil (eO _ hp)) .nil)) rfl rfl) ?_));refine aV ?_)|(refine rg 2 (mW rfl (vV (eQ rfl rfl) ?_)))|(refine iA 4 rfl rfl rfl (by omega) (by omega) ?_)|refine nZ ?_));all_goals try (exfalso;omega)
    refine cO (X:={m:Nat // m≤l.length}) (fun m=>[(0,.sl 0 0 l.length 3),(1,.clo (.func F) [] caps),(5,.i (gL q (l.take m.1)).length),(6,.i m.1)]) (fun m=>[.arr (fH (gL q (l.take m.1)++l.drop (gL q (l.take m.1)).length)) 3]) (fun m=>l.length-m.1) ⟨j+1,hj⟩ ⟨[0],rfl,⟨rfl,by rw [kF hi];rfl,by dsimp only;rw [hkl];rfl,rfl,trivial⟩,⟨.inr (aD rfl (by dsimp only;rw [hka]) (bS _)),trivial⟩,by decide,mH⟩ ?_
    rintro ⟨m,hm⟩;dsimp only;have hle:=KY q l m;by_cases hlt:m<l.length
    · have hs:=xJ (q:=q) hlt;have hget:=PB (G:=gL q (l.take m)) (l:=l) (m:=m) (i:=0+(m:Int).toNat) hle hlt (by omega)
      have hg2:=PB (G:=gL q (l.take m)) (l:=l) (m:=(gL q (l.take m)).length) (i:=0+(((gL q (l.take m)).length:Nat):Int).toNat) (bA _) (by omega) (by omega)
      rw [oW hlt] at hget;have hset:=zU7 (G:=gL q (l.take m)) (l:=l) (x:=l[m]) (j:=(((gL q (l.take m)).length:Nat):Int)) (by omega) rfl
      have hc:=hF l[m] (aH hlt);have hal:=UA (G:=gL q (l.take m)) (l:=l) (by omega)
      generalize l[m]=x at *;generalize l.getD (gL q (l.take m)).length w0=y at *;generalize hG:gL q (l.take m)=G at *;generalize hA:fH (G++l.drop G.length)=A at *;cases e:q x
      · rw [e] at hc hs;rw [if_neg (by simp)] at hs
        (repeat' (first|refine wS ?_|refine wB ?_|refine wK ?_|refine wT ?_|(refine wC rfl ?_ ?_<;>(intro hb;(try simp only [nm] at hb);try (exfalso;omega)))|(refine rg 5 (dK rfl (qW T rfl (vV (aI rfl rfl) ?_))))|(refine rg 7 (dK rfl (vV (by exact aK T rfl rfl rfl rfl rfl (by omega) (by omega)) ?_));refine vV (by exact aE T rfl rfl (bM rfl hget) rfl) ?_;refine bN (bI T rfl) rfl (aL T rfl rfl rfl rfl rfl rfl (by decide) rfl ?_))|(refine rg 8 (mW rfl (vV (aE T rfl rfl rfl rfl) (vV (by exact eA rfl rfl hc rfl (by simp [AV.idfL,AV.idf,hi]) rfl) ?_)));refine vV (cY rfl) ?_)|(refine rg 9 (dK rfl (vV (aE T rfl rfl rfl rfl) (vV (by exact aK T rfl rfl rfl rfl rfl (by omega) (by omega)) ?_)));refine aL T rfl rfl rfl rfl rfl rfl (by decide) (iJ rfl hg2 rfl) ?_)|(refine iA 10 rfl rfl rfl (by omega) (by omega) ?_)|(refine iA 6 rfl rfl rfl (by omega) (by omega) ?_)|refine nZ ?_));all_goals try (exfalso;omega)
        all_goals exact ⟨⟨m+1,hlt⟩,by dsimp only;omega,[0],rfl,⟨rfl,by rw [kF hi];rfl,by rw [hs];simp only [aJ];rfl,rfl,trivial⟩,⟨.inr (aD rfl (by rw [hs];exact hset) (bS _)),trivial⟩,by decide,mH⟩
      · rw [e] at hc hs;rw [if_pos rfl] at hs
        (repeat' (first|refine wS ?_|refine wB ?_|refine wK ?_|refine wU ?_|(refine wC rfl ?_ ?_<;>(intro hb;(try simp only [nm] at hb);try (exfalso;omega)))|(refine rg 5 (dK rfl (qW T rfl (vV (aI rfl rfl) ?_))))|(refine rg 7 (dK rfl (vV (by exact aK T rfl rfl rfl rfl rfl (by omega) (by omega)) ?_));refine vV (by exact aE T rfl rfl (bM rfl hget) rfl) ?_;refine bN (bI T rfl) rfl (aL T rfl rfl rfl rfl rfl rfl (by decide) rfl ?_))|(refine rg 8 (mW rfl (vV (aE T rfl rfl rfl rfl) (vV (by exact eA rfl rfl hc rfl (by simp [AV.idfL,AV.idf,hi]) rfl) ?_)));refine vV (cY rfl) ?_)|(refine iA 6 rfl rfl rfl (by omega) (by omega) ?_)|refine nZ ?_));all_goals try (exfalso;omega)
        all_goals exact ⟨⟨m+1,hlt⟩,by dsimp only;omega,[0],rfl,⟨rfl,by rw [kF hi];rfl,by rw [hs];rfl,rfl,trivial⟩,⟨.inr (aD rfl (by rw [hs];exact hA.symm) (bS _)),trivial⟩,by decide,mH⟩
    · obtain rfl:m=l.length:=by omega
      have hal:=UA (G:=gL q (l.take l.length)) (l:=l) (by omega)
      have htk:=WF (G:=gL q (l.take l.length)) (l:=l);generalize gL q (l.take l.length)=G at *
      (repeat' (first|refine wS ?_|refine wR ?_|refine wE ?_|(refine wC rfl ?_ ?_<;>(intro hb;(try simp only [nm] at hb);try (exfalso;omega)))|(refine rg 5 (dK rfl (qW T rfl (vV (aI rfl rfl) ?_))))|(refine rg 11 (dK rfl (vV (by exact lE T rfl rfl rfl rfl rfl rfl (by omega) (by omega) (by omega)) ?_));refine O5 T rfl rfl rfl ⟨rfl,rfl,by decide⟩ rfl (by rw [hal];omega) ?_)|(refine rg 12 (dK rfl (vV (by exact lE T rfl rfl rfl rfl rfl rfl (by omega) (by omega) (by omega)) ?_));refine aV ?_)|refine nZ ?_));all_goals try (exfalso;omega)
      all_goals exact ⟨.inl rfl,[0],_,rfl,(by show AV.sl 0 0 ((G.length:Int)-0).toNat 3=AV.sl 0 0 G.length 3;rw [show ((G.length:Int)-0).toNat=G.length by omega]),rfl,⟨.inr (aD rfl htk (bS _)),trivial⟩,by decide,mH⟩
abbrev yD7:AV:=.clo (.func 138) [] []
theorem VS {f:W}{l:List W}{k:Nat}(h:k<l.length):(fH (f::l))[((k:Int)+1).toNat]? = some (wA l[k]):=by
  rw [show ((k:Int)+1).toNat=k+1 by omega];simp [h]
theorem yD6 (f:W) (l:List W) (hl:l.length≤1000000):aT Tryz.prog 137 [.rowE (fH (f::l)) 3,yD7] [] (MZ (l.foldl Q6 f)) []:=by
  have hll:(fH (f::l)).length=l.length+1:=by simp
  have hg0:(fH (f::l))[(0:Int).toNat]? = some (wA f):=rfl;refine bK T Tryz.func137 rfl rfl rfl rfl ?_
  (repeat' (first|refine wS ?_|refine wB ?_|refine wK ?_|refine wU ?_|(refine rg 0 (bN (bI T rfl) rfl ?_))|(refine rg 1 (mW rfl (qW T rfl (vV (aI rfl rfl) ?_))))|(refine rg 3 (mW rfl (vV (ix T rfl (by omega) (jX _) hg0) (lW T rfl (bN (bI T rfl) rfl (aL T rfl rfl rfl rfl rfl rfl (by decide) rfl ?_))))))|(refine rg 4 (aV ?_))|refine nZ ?_));all_goals try (exfalso;omega)
  refine cO (X:={k:Nat // k≤l.length}) (fun k=>[(0,.rowE (fH (f::l)) 3),(1,yD7),(4,.ptr 0 0),(5,.ptr 1 0),(6,.i ((k.1:Int)+1))]) (fun k=>[.cells [.nils,.i 0,.nils],.cells (wA ((l.take k.1).foldl Q6 f))]) (fun k=>l.length-k.1) ⟨0,bW _⟩ ⟨[0,1],rfl,by (repeat (first | exact trivial | refine ⟨rfl,?_⟩)),⟨.inr rfl,.inr rfl,trivial⟩,by decide,jJ _⟩ ?_
  rintro ⟨k,hk⟩;dsimp only;by_cases hlt:k<l.length
  · have hs:=UQ (f:=f) hlt;have hg:=VS (f:=f) hlt;have hc:=ZI l[k] ((l.take k).foldl Q6 f);generalize l[k]=x at *;generalize (l.take k).foldl Q6 f=m at *;by_cases h0:x.2.1<m.2.1
    · have hv:cI x.2.1 m.2.1 = -1:=by unfold cI;rw [if_pos h0]
      rw [hv] at hc;rw [Q6,if_pos h0] at hs
      (repeat' (first|refine wS ?_|refine wB ?_|refine wK ?_|refine wT ?_|(refine wC rfl ?_ ?_<;>(intro hb;(try simp only [nm] at hb);try (exfalso;omega)))|(refine rg 5 (dK rfl (qW T rfl (vV (aI rfl rfl) ?_))))|(refine bQ (id:=7) 33 [[],[],[],[1,2],[1,2,3],[],rN 6,rN 7] (rM 20 8) [[],[20],[20,21],[20],[20],rM 20 5,[],[]] cF rfl (by decide +kernel) (dN rfl (dN rfl (dN rfl (dV rfl (ix T rfl (by omega) (jX _) hg) (dO T rfl (dO T rfl (dV rfl (kC (hc)) (dV rfl (aI rfl rfl) (dE ?_))))))))))|(refine rg 8 (dK rfl (vV (ix T rfl (by omega) (jX _) hg) (lW T rfl (aL T rfl rfl rfl rfl rfl rfl (by decide) rfl ?_)))))|(refine iA 6 rfl rfl rfl (by omega) (by omega) ?_)|refine nZ ?_));all_goals try (exfalso;omega)
      all_goals exact ⟨⟨k+1,hlt⟩,by dsimp only;omega,[0,1],rfl,by (repeat (first | exact trivial | refine ⟨rfl,?_⟩)),⟨.inr rfl,.inr (by dsimp only;rw [hs];rfl),trivial⟩,by decide,jJ _⟩
    · have hv:0≤cI x.2.1 m.2.1:=by unfold cI;rw [if_neg h0];split <;> omega
      rw [Q6,if_neg h0] at hs;generalize cI x.2.1 m.2.1=v at *
      (repeat' (first|refine wS ?_|refine wB ?_|refine wK ?_|(refine wC rfl ?_ ?_<;>(intro hb;(try simp only [nm] at hb);try (exfalso;omega)))|(refine rg 5 (dK rfl (qW T rfl (vV (aI rfl rfl) ?_))))|(refine bQ (id:=7) 33 [[],[],[],[1,2],[1,2,3],[],rN 6,rN 7] (rM 20 8) [[],[20],[20,21],[20],[20],rM 20 5,[],[]] cF rfl (by decide +kernel) (dN rfl (dN rfl (dN rfl (dV rfl (ix T rfl (by omega) (jX _) hg) (dO T rfl (dO T rfl (dV rfl (kC (hc)) (dV rfl (aI rfl rfl) (dE ?_))))))))))|(refine iA 6 rfl rfl rfl (by omega) (by omega) ?_)|refine nZ ?_));all_goals try (exfalso;omega)
      all_goals exact ⟨⟨k+1,hlt⟩,by dsimp only;omega,[0,1],rfl,by (repeat (first | exact trivial | refine ⟨rfl,?_⟩)),⟨.inr rfl,.inr (by dsimp only;rw [hs];rfl),trivial⟩,by decide,jJ _⟩
  · obtain rfl:k=l.length:=by omega
    rw [dI];generalize l.foldl Q6 f=m at *
    (repeat' (first|refine wS ?_|refine wR ?_|refine wE ?_|(refine wC rfl ?_ ?_<;>(intro hb;(try simp only [nm] at hb);try (exfalso;omega)))|(refine rg 5 (dK rfl (qW T rfl (vV (aI rfl rfl) ?_))))|(refine rg 9 (lW T rfl (aL T rfl rfl rfl rfl rfl rfl (by decide) rfl ?_)))|refine nZ ?_));all_goals first | (exfalso;omega) | exact ⟨.inl rfl,[],_,rfl,rfl,rfl,trivial,by decide,jJ _⟩
theorem yK1:HB Tryz.prog 84 1=some (3,1):=by kernel_rfl
theorem RC (g:G) (hne:g.2≠[]) (hl:g.2.length≤1000000):aT Tryz.prog 103 [VP g] [] (.i (gM g)) []:=by
  obtain ⟨b,ws⟩:=g;cases ws with
  | nil=>exact absurd rfl hne
  | cons f l=>
    have hc:=yD6 f l (by simp at hl;omega)
    show aT _ _ _ _ (.i (l.foldl (fun m x=>if x.2.1<m then x.2.1 else m) f.2.1)) []
    rw [← KT];generalize l.foldl Q6 f=m at *;refine bK T Tryz.func103 rfl rfl rfl rfl ?_
    (repeat' (first|refine wS ?_|refine wR ?_|(refine rg 0 (bN (cC rfl rfl) rfl (aV ?_)))|(refine rg 1 (gB T rfl (vV (kC (hc)) (vV (by exact R3 T rfl yK1 rfl rfl) ?_)));refine aV ?_)|refine nZ ?_));all_goals first | (exfalso;omega) | exact rQ
end Go.Proofs.YtmmkhmilpeodnaaGreat
namespace Go.Ld
open Go.Ab Go.Proofs.YtmmkhmilpeodnaaGreat
def B3 (g:G):Int:=match iN g with
  | some k=>(k:Int)
  | none=>-1
theorem ME {g:G}(h:g.1.length<2∨g.2=[]):B3 g = -1:=by unfold B3 iN;rw [if_pos h]
theorem zC1 {g:G}{k:Nat}(h:¬ (g.1.length<2∨g.2=[])) (hk:k<g.1.length) (h1:∀ j,j<k→zN g j=false) (h2:zN g k=true):B3 g=k:=by
  unfold B3 iN;rw [if_neg h,List.find?_range_eq_some.2 ⟨h2,by simpa using hk,fun j hj=>by simp [h1 j hj]⟩]
theorem UY {g:G}(h:¬ (g.1.length<2∨g.2=[])) (h1:∀ j,j<g.1.length→zN g j=false):B3 g = -1:=by
  unfold B3 iN;rw [if_neg h,List.find?_range_eq_none.2 (fun j hj=>by simp [h1 j hj])]
def EY (f:W) (i:Nat) (w:W):Bool:=!decide (gP w i=gP f i∧gC w i=gC f i)
theorem NN {bs:List Int}{f:W}{l:List W}{i:Nat}:zN (bs,f::l) i = !(f::l).any (EY f i):=by
  show (f::l).all (fun w=>decide (gP w i=gP f i∧gC w i=gC f i))=_;rw [List.not_any_eq_all_not];congr 1;funext w;simp [EY]
end Go.Ld
namespace Go.Proofs.YtmmkhmilpeodnaaGreat
open Go Go.Ab Go.Ld
attribute [local irreducible] VC AW bX aT jB
set_option maxHeartbeats 4000000
theorem JC:jB Tryz.prog 48 2:=by unfold jB;kernel_rfl
theorem OW (w f:W){i:Nat}(h1:i<w.1.length) (h2:i<w.2.2.length) (h3:i<f.1.length) (h4:i<f.2.2.length) (hs:O1 w) (hf:O1 f) :
    aT Tryz.prog 141 [MZ w,.pr [.i i] 0,.pr (wA f) 0] [] (.b (EY f i w)) []:=by
  obtain ⟨p,m,c⟩:=w;obtain ⟨p',m',c'⟩:=f;dsimp only at h1 h2 h3 h4;unfold O1 at hs hf;dsimp only at hs hf;have hlp:(ints p).length=p.length:=ints_length _;have hlp':(ints p').length=p'.length:=ints_length _;have hlc:(cT c).length=c.length:=gI _;have hlc':(cT c').length=c'.length:=gI _;have q1:=ints_gI (l:=p) (j:=(i:Int)) (i:=i) 0 h1 rfl;have q2:=ints_gI (l:=p') (j:=(i:Int)) (i:=i) 0 h3 rfl;have q3:=lU (l:=c) (j:=(i:Int)) (i:=i) h2 rfl;have q4:=lU (l:=c') (j:=(i:Int)) (i:=i) h4 rfl;have hd:EY (p',m',c') i (p,m,c) = !decide (p.getD i 0=p'.getD i 0∧c.getD i (0,0)=c'.getD i (0,0)):=rfl;rw [hd];generalize p.getD i 0=x at *;generalize p'.getD i 0=y at *;generalize hr:c.getD i (0,0)=r at *;generalize hr':c'.getD i (0,0)=r' at *;obtain ⟨a,b⟩:=r;obtain ⟨a',b'⟩:=r';dsimp only at q3 q4;by_cases h:x=y
  · rw [show (!decide (x=y∧(a,b)=(a',b'))) = !decide (a=a'∧b=b') by simp [h]]
    refine bK T Tryz.func141 rfl rfl rfl rfl ?_
    (repeat' (first|refine wS ?_|refine wR ?_|(refine rg 0 (bN (cC rfl rfl) rfl (aV ?_)))|(refine bQ (id:=1) 29 yO2 (rM 5 24) yO3 cF rfl (by decide +kernel) (dP T rfl (dO T rfl (dO T rfl (dV rfl (ix T rfl (by omega) (ints_len p) q1) (dO T rfl (dP T rfl (dO T rfl (dO T rfl (dV rfl (ix T rfl (by omega) (ints_len p') q2) ?_)))))))));refine dO T rfl (dV rfl (kZ rfl rfl h) (dN rfl (tP T rfl (tO T rfl (tO T rfl (dT rfl (ix T rfl (by omega) (jV c) q3) (tO T rfl (tP T rfl (tL T ?_)))))))));refine tO T rfl (dT rfl (ix T rfl (by omega) (jV c') q4) (tO T rfl (dT rfl (zN1 JC rfl rfl) (dV rfl (gQ rfl rfl) (dE ?_)))));refine aV ?_)|refine nZ ?_));all_goals first | (exfalso;omega) | exact rQ
  · rw [show (!decide (x=y∧(a,b)=(a',b')))=true by simp [h]]
    refine bK T Tryz.func141 rfl rfl rfl rfl ?_
    (repeat' (first|refine wS ?_|refine wR ?_|(refine rg 0 (bN (cC rfl rfl) rfl (aV ?_)))|(refine bQ (id:=1) 29 yO2 (rM 5 24) yO3 cF rfl (by decide +kernel) (dP T rfl (dO T rfl (dO T rfl (dV rfl (ix T rfl (by omega) (ints_len p) q1) (dO T rfl (dP T rfl (dO T rfl (dO T rfl (dV rfl (ix T rfl (by omega) (ints_len p') q2) ?_)))))))));refine dO T rfl (dV rfl (sT rfl rfl h) (dN rfl (tG rfl (tG rfl (tG rfl (tG rfl (tG rfl (tG rfl (dG ?_)))))))));refine tG rfl (tG rfl (tG rfl (tG rfl (dV rfl (iE rfl rfl) (dE ?_)))));refine aV ?_)|refine nZ ?_));all_goals first | (exfalso;omega) | exact rQ
structure yA9 (g:G):Prop where
  b:g.1.length≤1000
  w:g.2.length≤1000000
  p:∀ w,w∈g.2→w.1.length=g.1.length
  c:∀ w,w∈g.2→w.2.2.length=g.1.length
theorem yA9.sm {g:G}(h:yA9 g){w:W}(hw:w∈g.2):O1 w:=⟨by have:=h.p w hw;have:=h.b;omega,by have:=h.c w hw;have:=h.b;omega⟩
theorem UX (g:G) (hs:yA9 g):aT Tryz.prog 106 [VP g] [] (.i (B3 g)) []:=by
  have hsz:=hs;obtain ⟨bs,ws⟩:=g;obtain ⟨hb,hw,hp,hc⟩:=hs;dsimp only at hb hw hp hc;have hlb:(ints bs).length=bs.length:=ints_length _;have hlw:(fH ws).length=ws.length:=fJ _;by_cases h0:bs.length<2
  · rw [ME (.inl h0)];refine bK T Tryz.func106 rfl rfl rfl rfl ?_
    (repeat' (first|refine wS ?_|refine wR ?_|refine wT ?_|(refine rg 0 (bN (cC rfl rfl) rfl (aV ?_)))|(refine rg 1 (gB T rfl (qW T rfl (vV (aI rfl rfl) (mV ?_))));refine bC rfl rfl ?_ ?_<;>(intro hb;rw [hb];(try simp only [nm] at hb);try (exfalso;omega));(all_goals ((iterate 4 refine gF ?_);refine pV ?_)))|(refine rg 2 (aV ?_))|refine nZ ?_));all_goals first | (exfalso;omega) | exact rQ
  · cases ws with
    | nil=>
      rw [ME (.inr rfl)];refine bK T Tryz.func106 rfl rfl rfl rfl ?_
      (repeat' (first|refine wS ?_|refine wR ?_|refine wT ?_|(refine rg 0 (bN (cC rfl rfl) rfl (aV ?_)))|(refine rg 1 (gB T rfl (qW T rfl (vV (aI rfl rfl) (mV ?_))));refine bC rfl rfl ?_ ?_<;>(intro hb;rw [hb];(try simp only [nm] at hb);try (exfalso;omega));(all_goals (refine yP T rfl (yO T rfl (gT (qW T rfl (yV (eQ rfl rfl) (pV ?_))))))))|(refine rg 2 (aV ?_))|refine nZ ?_));all_goals first | (exfalso;omega) | exact rQ
    | cons f l=>
      have hn:¬ (bs.length<2∨f::l=[]):=by rintro (h | h);exact h0 h;cases h
      have hg0:(fH (f::l))[(0:Int).toNat]? = some (wA f):=rfl;have hl1:(fH (f::l)).length=l.length+1:=by simp
      refine bK T Tryz.func106 rfl rfl rfl rfl ?_
      (repeat' (first|refine wS ?_|refine wB ?_|refine wK ?_|refine wU ?_|(refine rg 0 (bN (cC rfl rfl) rfl (aV ?_)))|(refine rg 1 (gB T rfl (qW T rfl (vV (aI rfl rfl) (mV ?_))));refine bC rfl rfl ?_ ?_<;>(intro hb;rw [hb];(try simp only [nm] at hb);try (exfalso;omega));(all_goals (refine yP T rfl (yO T rfl (gT (qW T rfl (yV (eQ rfl rfl) (pV ?_))))))))|(refine rg 3 (gB T rfl (qW T rfl (mV ?_))))|refine nZ ?_));all_goals try (exfalso;omega)
      all_goals refine cO (X:={k:Nat // k≤bs.length∧∀ j,j<k→zN (bs,f::l) j=false}) (fun k=>[(1,.ptr 0 0),(17,.i (ints bs).length),(18,.i k.1)]) (fun _=>[.cells [.rowE (ints bs) 1,.rowE (fH (f::l)) 3]]) (fun k=>bs.length-k.1) ⟨0,bW _,fun j hj=>absurd hj (dA _)⟩ (fA [0]) ?_
      all_goals rintro ⟨k,hk,hj⟩
      all_goals dsimp only
      all_goals by_cases hlt:k<bs.length
      · have hlf:k<f.1.length:=by rw [hp f aR];exact hlt
        have hlf2:k<f.2.2.length:=by rw [hc f aR];exact hlt
        have hcc:=zX3 (caps:=[.pr [.i k] 0,.pr (wA f) 0]) (p:=EY f k) (l:=f::l) hw rfl (fun x hx=>OW x f (by rw [hp x hx];exact hlt) (by rw [hc x hx];exact hlt) hlf hlf2 (hsz.sm hx) (hsz.sm aR))
        have hsa:=NN (bs:=bs) (f:=f) (l:=l) (i:=k);cases hany:(f::l).any (EY f k) with
        | false=>
          rw [hany] at hcc hsa;have hci:=zC1 hn hlt hj hsa;rw [hci]
          (repeat' (first|refine wS ?_|refine wB ?_|refine wK ?_|refine wR ?_|refine wT ?_|(refine wC rfl ?_ ?_<;>(intro hb;(try simp only [nm] at hb);try (exfalso;omega)))|(refine rg 4 (vV (aI rfl rfl) ?_))|(refine rg 5 (mW rfl (bN (bI T rfl) rfl (aL T rfl rfl rfl rfl rfl rfl (by decide) rfl ?_))))|(refine rg 6 (gB T rfl (vV (ix T rfl (by omega) (jX _) hg0) (lW T rfl (bN (bI T rfl) rfl (aL T rfl rfl rfl rfl rfl rfl (by decide) rfl ?_))))))|(refine rg 7 (gB T rfl (vV (by exact jK rfl rfl) ?_));refine vV (by exact eJ rfl rfl hcc (.cons (.row _ _ _) (.cons (.clo .nil (.cons (.ptr rfl (.cons (.v _) .nil)) (.cons (.ptr rfl (.cons (.row _ _ _) (.cons (.v _) (.cons (.row _ _ _) .nil)))) .nil))) .nil)) rfl rfl) ?_;refine vV (cY rfl) ?_)|(refine rg 8 (lW T rfl (aV ?_)))|refine nZ ?_));all_goals first | (exfalso;omega) | exact rQ
        | true=>
          rw [hany] at hcc hsa
          (repeat' (first|refine wS ?_|refine wB ?_|refine wK ?_|refine wU ?_|(refine wC rfl ?_ ?_<;>(intro hb;(try simp only [nm] at hb);try (exfalso;omega)))|(refine rg 4 (vV (aI rfl rfl) ?_))|(refine rg 5 (mW rfl (bN (bI T rfl) rfl (aL T rfl rfl rfl rfl rfl rfl (by decide) rfl ?_))))|(refine rg 6 (gB T rfl (vV (ix T rfl (by omega) (jX _) hg0) (lW T rfl (bN (bI T rfl) rfl (aL T rfl rfl rfl rfl rfl rfl (by decide) rfl ?_))))))|(refine rg 7 (gB T rfl (vV (by exact jK rfl rfl) ?_));refine vV (by exact eJ rfl rfl hcc (.cons (.row _ _ _) (.cons (.clo .nil (.cons (.ptr rfl (.cons (.v _) .nil)) (.cons (.ptr rfl (.cons (.row _ _ _) (.cons (.v _) (.cons (.row _ _ _) .nil)))) .nil))) .nil)) rfl rfl) ?_;refine vV (cY rfl) ?_)|(refine rg 9 (vV (bY rfl rfl (by omega) (by omega)) (mV ?_)))|refine nZ ?_));all_goals first | (exfalso;omega) | skip
          all_goals exact ⟨⟨k+1,by omega,fun j hjk=>(iM j k).elim (hj j) (fun h=>by obtain rfl:j=k:=(by omega);exact hsa)⟩,by dsimp only;omega,fA [0]⟩
      · rw [UY hn (fun j hjl=>hj j (by dsimp only at hjl;omega))]
        (repeat' (first|refine wS ?_|refine wR ?_|refine wE ?_|(refine wC rfl ?_ ?_<;>(intro hb;(try simp only [nm] at hb);try (exfalso;omega)))|(refine rg 4 (vV (aI rfl rfl) ?_))|(refine rg 10 (aV ?_))|refine nZ ?_));all_goals first | (exfalso;omega) | exact rQ
end Go.Proofs.YtmmkhmilpeodnaaGreat
namespace Go.Ld
open Go.Ab Go.Proofs.YtmmkhmilpeodnaaGreat
theorem L9 {α:Type}(l:List α) (k:Nat):l.take k++l.drop (k+1)=l.eraseIdx k:=(List.eraseIdx_eq_take_drop_succ l k).symm
end Go.Ld
namespace Go.Proofs.YtmmkhmilpeodnaaGreat
open Go Go.Ab Go.Ld
attribute [local irreducible] VC AW bX aT jB jU
set_option maxHeartbeats 4000000
theorem zI4 (g:G){k:Nat}(hs:yA9 g) (hk:k<g.1.length) (h2:2≤g.1.length) (hne:g.2≠[]) (hsm:g.2.length≤100000) :
    aT Tryz.prog 107 [VP g,.i k] [] (.tup [VP (nL g k),VP (jY g k)]) []:=by
  have hsz:=hs;obtain ⟨bs,ws⟩:=g;obtain ⟨hb,hw,hp,hc⟩:=hs;dsimp only at hb hw hp hc hk h2 hsm;cases ws with
  | nil=>exact absurd rfl hne
  | cons f l=>
  have hlb:(ints bs).length=bs.length:=ints_length _;have hf1:=hp f aR;have hf2:=hc f aR;have hlp:(ints f.1).length=f.1.length:=ints_length _;have hlc:(cT f.2.2).length=f.2.2.length:=gI _;have hg0:(fH (f::l))[(0:Int).toNat]? = some (wA f):=rfl;have hl1:(fH (f::l)).length=l.length+1:=by simp
  have q1:=ints_gI (l:=bs) (j:=(k:Int)) (i:=k) 0 hk rfl;have q2:=ints_gI (l:=f.1) (j:=(k:Int)) (i:=k) 0 (by omega) rfl
  have q3:=lU (l:=f.2.2) (j:=(k:Int)) (i:=k) (by omega) rfl
  have cl:=HJ bs (by omega)
  have dl:=zB5 bs k (k+1) (by omega) (by omega) (by intro h;rw [h] at hk;simp at hk)
  rw [L9,show bs.length-(k+1-k)=bs.length-1 by omega,show ((k+1:Nat):Int)=(k:Int)+1 by omega] at dl
  have hel:(bs.eraseIdx k).length=bs.length-1:=by rw [gJ,if_pos hk]
  obtain ⟨L,hL⟩:∃ L,f::l=L:=⟨_,rfl⟩;have hp':∀ w,w∈L→w.1.length=bs.length:=by rw [← hL];exact hp
  have hc':∀ w,w∈L→w.2.2.length=bs.length:=by rw [← hL];exact hc
  have hsm':L.length≤100000:=by rw [← hL];exact hsm
  have hsz':∀ w,w∈L→O1 w:=by rw [← hL];exact fun w h=>hsz.sm h
  obtain ⟨R,hR⟩:∃ R,R=L.map (zP3 k):=⟨_,rfl⟩;have hor:jY (bs,f::l) k=(bs.eraseIdx k,gN R):=by rw [hR,← hL];rfl
  rw [hor]
  have ho:=ED R (by rw [hR,aF];exact hsm') (fun w hw'=>by
    rw [hR] at hw';obtain ⟨v,hv,rfl⟩:=bE.1 hw';have h1:=hp' v hv;have h2:=hc' v hv;unfold O1 zP3;dsimp only;rw [gJ,gJ]
    constructor <;> split <;> omega)
  refine I6 (res:=.tup [.agg [.sl 0 0 1 1,.sl 3 0 1 3],.agg [.rowE (ints (bs.eraseIdx k)) 1,.rowE (fH (gN R)) 3]]) (hout:=[.arr (ints [bs.getD k 0]) 1,.arr (ints [f.1.getD k 0]) 1,.arr (cT [f.2.2.getD k (0,0)]) 2,.arr [[.sl 1 0 1 1,.i 0,.sl 2 0 1 2]] 3]) ?_ (.tup (.cons (.agg (.cons (O4 rfl rfl) (.cons (.sl rfl (by decide) (.cons (O4 rfl rfl) (.cons (.v _) (.cons (Z6 rfl rfl) .nil)))) .nil))) (.cons (.agg (.cons (.row _ _ _) (.cons (.row _ _ _) .nil))) .nil)))
  generalize bs.getD k 0=x1 at *;generalize f.1.getD k 0=x2 at *;generalize hr:f.2.2.getD k (0,0)=r at *;obtain ⟨a1,a2⟩:=r;dsimp only at q3;refine bK T Tryz.func107 rfl rfl rfl rfl ?_
  (repeat' (first|refine wS ?_|(refine rg 0 (bN (cC rfl rfl) rfl (bN (bI T rfl) rfl (bN (bI T rfl) rfl ?_))))|(refine rg 1 (gB T rfl (vV (ix T rfl (by omega) (jX _) hg0) (lW T rfl (bN (bI T rfl) rfl (aL T rfl rfl rfl rfl rfl rfl (by decide) rfl ?_))))))|(refine bQ (id:=2) 78 [[],[0],[],[0,1,2],rN 4,rN 5,[],[6],[],[6,7,8],rM 6 4,rM 6 5,[],[12],[],[12,13,14],rM 12 4,rM 12 5,rM 6 12,rM 6 13,rN 20] (rM 13 21) [[],[],[13,14],[],[],[],rM 13 6,rM 13 6,rM 13 8,rM 13 6,rM 13 6,rM 13 6,rM 13 12,rM 13 12,rM 13 14,rM 13 12,rM 13 12,rM 13 12,rM 13 6,rM 13 6,[]] cF rfl (by decide +kernel) (dP T rfl (dO T rfl (dN rfl (dV rfl (ix T rfl (by omega) (ints_len bs) q1) (dO T rfl (pX rfl rfl rfl (by exact bD T rfl rfl (by decide) (by decide) rfl rfl rfl) rfl ?_))))));refine dP T rfl (dO T rfl (dN rfl (dV rfl (ix T rfl (by omega) (ints_len f.1) q2) (dO T rfl (pX rfl rfl rfl (by exact bD T rfl rfl (by decide) (by decide) rfl rfl rfl) rfl ?_)))));refine dP T rfl (dO T rfl (dN rfl (dV rfl (ix T rfl (by omega) (jV f.2.2) q3) (dO T rfl (pX rfl rfl rfl (by exact bD T rfl rfl (by decide) (by decide) rfl rfl rfl) rfl ?_)))));refine dV rfl (by exact dY T rfl rfl rfl rfl) ?_;refine pX rfl rfl rfl (by exact bD T rfl rfl (by decide) (by decide) rfl rfl rfl) rfl ?_;refine dV rfl (by exact dY T rfl rfl rfl rfl) ?_;refine dE ?_;refine aL T rfl rfl rfl rfl rfl rfl (by decide) rfl ?_)|(refine rg 3 (gB T rfl (bN (by exact fX rfl rfl cl (.inr ⟨rfl,rfl,by simp⟩)) rfl ?_));refine dK rfl (vV (bY rfl rfl (by omega) (by omega)) (fP [8] rfl rfl (dl) rfl rfl (by decide) ⟨.inr (aD rfl (cJ _ (ints_idf _)) (ints_idf _)),trivial⟩ (by simp) rfl ?_));refine fW T rfl (aL T rfl rfl rfl rfl rfl rfl (by decide) rfl ?_))|refine nZ ?_));refine eI [(1,.i k),(2,.ptr 0 0),(4,.ptr 1 0),(5,.ptr 2 0)] [.cells [.rowE (ints bs) 1,.rowE (fH (f::l)) 3],.cells [.sl 3 0 1 1,.sl 6 0 1 3],.cells [.sl 7 0 (bs.length-1) 1,.nils],.arr (ints [x1]) 1,.arr (ints [x2]) 1,.arr (cT [(a1,a2)]) 2,.arr [[.sl 4 0 1 1,.i 0,.sl 5 0 1 2]] 3,.arr (ints (bs.eraseIdx k)) 1]
    ⟨[0,1,2,4,5,6,7,8],rfl,(by repeat first|exact trivial|refine ⟨rfl,?_⟩),⟨.inr rfl,.inr rfl,.inr rfl,.inr rfl,.inr rfl,.inr rfl,.inr rfl,.inr (aD rfl (cJ _ (ints_idf _)) (ints_idf _)),trivial⟩,by decide,jJ _⟩ ?_
  refine iP 2 0 rfl rfl rfl (by rw [ints_length,hel]) (fO (ints_idf _)) ?_
  refine uU 2 1 3 rfl rfl (by decide) ?_
  rw [hL]
  (repeat' (first|refine wB ?_|(refine rg 4 (gB T rfl (qW T rfl (mV ?_))))|refine nZ ?_));refine cO (X:={i:Nat // i≤L.length}) (fun i=>[(1,.i k),(4,.ptr 0 0),(5,.ptr 1 0),(43,.rowE (fH L) 3),(44,.i (fH L).length),(45,.i i.1)]) (fun i=>[.cells [.sl 2 0 1 1,.sl 5 0 1 3],.cells [.rowE (ints (bs.eraseIdx k)) 1,.sl 6 0 i.1 3],.arr (ints [x1]) 1,.arr (ints [x2]) 1,.arr (cT [(a1,a2)]) 2,.arr [[.sl 3 0 1 1,.i 0,.sl 4 0 1 2]] 3,.arr (fH (R.take i.1)) 3]) (fun i=>L.length-i.1) ⟨0,bW _⟩
    ⟨[1,2,3,4,5,6,8],rfl,(by repeat first|exact trivial|refine ⟨rfl,?_⟩),⟨.inr rfl,.inr rfl,.inr rfl,.inr rfl,.inr rfl,.inr rfl,.inr rfl,trivial⟩,by decide,jJ _⟩ ?_
  rintro ⟨i,hi⟩;dsimp only;have hLl:(fH L).length=L.length:=fJ _;have hRl:R.length=L.length:=by rw [hR,aF]
  by_cases hlt:i<L.length
  · have hg:=nN hlt;have hv1:=hp' L[i] (aH hlt);have hv2:=hc' L[i] (aH hlt);have hRs:R.take (i+1)=R.take i++[zP3 k L[i]]:=by rw [aP (by omega)];simp [hR]
    have hwm:=hsz' _ (aH hlt);generalize L[i]=v at *;have hcw:=HI v hwm;obtain ⟨p,m,c⟩:=v;dsimp only at hv1 hv2 hcw hRs;have e1:=yJ (zB5 p k (k+1) (by omega) (by omega) (by intro h;rw [h] at hv1;simp at hv1;omega))
    have e2:=yJ (zZ0 c k (k+1) (by omega) (by omega) (by intro h;rw [h] at hv2;simp at hv2;omega))
    rw [L9,show p.length-(k+1-k)=p.length-1 by omega,show ((k+1:Nat):Int)=(k:Int)+1 by omega] at e1
    rw [L9,show c.length-(k+1-k)=c.length-1 by omega,show ((k+1:Nat):Int)=(k:Int)+1 by omega] at e2
    (repeat' (first|refine wS ?_|refine wB ?_|refine wK ?_|(refine wC rfl ?_ ?_<;>(intro hb;(try simp only [nm] at hb);try (exfalso;omega)))|(refine rg 5 (vV (aI rfl rfl) ?_))|(refine rg 6 (vV (ix T rfl (by omega) (jX _) hg) (lW T rfl (bN (bI T rfl) rfl (aL T rfl rfl rfl rfl rfl rfl (by decide) rfl ?_)))))|(refine rg 7 (lW T rfl (bN (by exact fX rfl rfl hcw (.inr ⟨rfl,rfl,by simp⟩)) rfl ?_));refine aL T rfl rfl rfl rfl rfl rfl (by decide) rfl ?_)|refine nZ ?_));all_goals try (exfalso;omega)
    refine eI [(1,.i k),(4,.ptr 0 0),(5,.ptr 1 0),(8,.ptr 7 0),(43,.rowE (fH L) 3),(44,.i (fH L).length),(45,.i i)] [.cells [.sl 2 0 1 1,.sl 5 0 1 3],.cells [.rowE (ints (bs.eraseIdx k)) 1,.sl 6 0 i 3],.arr (ints [x1]) 1,.arr (ints [x2]) 1,.arr (cT [(a1,a2)]) 2,.arr [[.sl 3 0 1 1,.i 0,.sl 4 0 1 2]] 3,.arr (fH (R.take i)) 3,.cells [.sl 8 0 p.length 1,.i m,.sl 9 0 c.length 2],.arr (ints p) 1,.arr (cT c) 2]
      ⟨[0,1,2,3,4,5,6,7,8,9],rfl,(by repeat first|exact trivial|refine ⟨rfl,?_⟩),⟨.inr rfl,.inr rfl,.inr rfl,.inr rfl,.inr rfl,.inr rfl,.inr (aD rfl rfl (bS _)),.inr rfl,.inr (aD rfl (cJ _ (ints_idf _)) (ints_idf _)),.inr (aD rfl (cJ _ (cQ _)) (cQ _)),trivial⟩,by decide,jJ _⟩ ?_
    repeat' (first|(refine rB (id:=8) 78 [[],[0],[],[],[3],rN 5,[],[6],[],[],[9],rN 11,rN 8,rN 13] (rM 51 13) [[],[],[51,52],[51,52,53],[51,52,53],[],rM 51 6,rM 51 6,rM 51 8,rM 51 9,rM 51 9,[],rM 59 4,[]] [(5,8),(11,9),(13,7)] cF rfl (by decide +kernel) (eN rfl rfl rfl rfl (by exact cD T rfl rfl rfl) ?_);refine eN rfl rfl rfl rfl (by exact aE T rfl rfl rfl rfl) ?_;refine eN rfl rfl rfl rfl (by exact bU rfl) ?_;refine eN rfl rfl rfl rfl (by exact bU rfl) ?_;refine eN rfl rfl rfl rfl (by exact bY rfl rfl (by omega) (by omega)) ?_;refine tZ rfl rfl rfl rfl (aY rfl) (by exact M8 [8] rfl rfl (e1) (fun _=>rfl) rfl (by decide) (fun _=>⟨.inr (aD rfl rfl (ints_idf _)),trivial⟩) (by simp) rfl (fun _ _=>rfl) rfl rfl) ?_;refine eN rfl rfl rfl rfl (by exact cD T rfl rfl rfl) ?_;refine eN rfl rfl rfl rfl (by exact aE T rfl rfl rfl rfl) ?_;refine eN rfl rfl rfl rfl (by exact bU rfl) ?_;refine eN rfl rfl rfl rfl (by exact bU rfl) ?_;refine eN rfl rfl rfl rfl (by exact bY rfl rfl (by omega) (by omega)) ?_;refine tZ rfl rfl rfl rfl (aY rfl) (by exact M8 [9] rfl rfl (e2) (fun _=>rfl) rfl (by decide) (fun _=>⟨.inr (aD rfl rfl (cQ _)),trivial⟩) (by simp) rfl (fun _ _=>rfl) rfl rfl) ?_;refine eN rfl rfl rfl rfl (by exact cD T rfl rfl rfl) ?_;refine HF rfl rfl rfl rfl (aY rfl) T rfl rfl rfl rfl rfl rfl (by decide) rfl ?_;refine yA rfl rfl rfl (by exact rfl) ?_;refine fW T rfl (aL T rfl rfl rfl rfl rfl rfl (by decide) rfl ?_))|refine nZ ?_)
    show AW _ _ _ _ _ _;have l1:(p.eraseIdx k).length=p.length-1:=by rw [gJ,if_pos (by omega)]
    have l2:(c.eraseIdx k).length=c.length-1:=by rw [gJ,if_pos (by omega)]
    refine eI [(1,.i k),(4,.ptr 0 0),(5,.ptr 1 0),(8,.ptr 7 0),(43,.rowE (fH L) 3),(44,.i (fH L).length),(45,.i i)] [.cells [.sl 2 0 1 1,.sl 5 0 1 3],.cells [.rowE (ints (bs.eraseIdx k)) 1,.sl 6 0 i 3],.arr (ints [x1]) 1,.arr (ints [x2]) 1,.arr (cT [(a1,a2)]) 2,.arr [[.sl 3 0 1 1,.i 0,.sl 4 0 1 2]] 3,.arr (fH (R.take i)) 3,.cells [.sl 8 0 (p.length-1) 1,.i m,.sl 9 0 (c.length-1) 2],.arr (ints (p.eraseIdx k)) 1,.arr (cT (c.eraseIdx k)) 2]
      ⟨[0,1,2,3,4,5,6,7,8,9],rfl,(by repeat first|exact trivial|refine ⟨rfl,?_⟩),⟨.inr rfl,.inr rfl,.inr rfl,.inr rfl,.inr rfl,.inr rfl,.inr (aD rfl rfl (bS _)),.inr rfl,.inr (aD rfl (cJ _ (ints_idf _)) (ints_idf _)),.inr (aD rfl (cJ _ (cQ _)) (cQ _)),trivial⟩,by decide,jJ _⟩ ?_
    refine iP 7 0 rfl rfl rfl (by rw [ints_length,l1]) (fO (ints_idf _)) ?_
    refine iP 7 2 rfl rfl rfl (by rw [gI,l2]) (fO (cQ _)) ?_
    have hW:fH (R.take (i+1))=fH (R.take i)++[[.rowE (ints (p.eraseIdx k)) 1,.i m,.rowE (cT (c.eraseIdx k)) 2]]:=by rw [hRs,fH,dW];rfl
    have hTl:(fH (R.take i)).length=i:=by rw [fJ,bL];omega
    generalize fH (R.take i)=Q at *
    (repeat' (first|(refine rg 9 (gB T rfl (lW T rfl (bN (by exact bD T rfl rfl (by decide) (by decide) rfl rfl rfl) rfl ?_)));refine fY T rfl rfl rfl rfl rfl rfl (by omega) (kP.whole rfl rfl) rfl (by simp;omega) (by simp;omega) rfl ?_;refine fW T rfl (aL T rfl rfl rfl rfl rfl rfl (by decide) rfl ?_))|(refine rg 10 (vV (bY rfl rfl (by omega) (by omega)) (mV ?_)))|refine nZ ?_));all_goals try (exfalso;omega)
    exact ⟨⟨i+1,hlt⟩,by dsimp only;omega,⟨[0,1,2,3,4,5,11],rfl,(by repeat first|exact trivial|refine ⟨rfl,?_⟩),⟨.inr rfl,.inr rfl,.inr rfl,.inr rfl,.inr rfl,.inr rfl,.inr (aD rfl (by dsimp only;rw [hW];exact mI hTl.symm) (bS _)),trivial⟩,by decide,jJ _⟩⟩
  · obtain rfl:i=L.length:=by omega
    rw [show R.take L.length=R by rw [← hRl,dI]]
    show AW _ _ _ _ _ _;refine iP 1 1 rfl rfl rfl (by rw [fJ,hRl]) (fO (bS _)) ?_
    generalize gN R=R' at *
    (repeat' (first|refine wS ?_|refine wR ?_|refine wE ?_|(refine wC rfl ?_ ?_<;>(intro hb;(try simp only [nm] at hb);try (exfalso;omega)))|(refine rg 5 (vV (aI rfl rfl) ?_))|(refine rg 11 (gB T rfl (vV (kC (ho)) (fW T rfl (aL T rfl rfl rfl rfl rfl rfl (by decide) rfl ?_)))))|(refine oG (id:=12) 78 [[],[],[0]] [76,77] [[],[76],[77]] [(2,0)] cF rfl (by decide +kernel) (dB rfl rfl rfl rfl (by exact aE T rfl rfl rfl rfl) ?_);refine dB rfl rfl rfl rfl (by exact aE T rfl rfl rfl rfl) ?_;refine xZ rfl rfl rfl rfl (aY rfl) T rfl rfl rfl rfl rfl rfl (by decide) rfl ?_;refine sY rfl rfl rfl (by exact rfl) ?_;refine aL T rfl rfl rfl rfl rfl rfl (by decide) rfl ?_)|refine nZ ?_));all_goals first | (exfalso;omega) | exact ⟨.inl rfl,[2,3,4,5],_,rfl,rfl,rfl,⟨.inr rfl,.inr rfl,.inr rfl,.inr rfl,trivial⟩,by decide,jJ _⟩
end Go.Proofs.YtmmkhmilpeodnaaGreat
