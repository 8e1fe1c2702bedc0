/-
  Texts of the logic and of the layer,in one module (part 9).
-/
import Derived.Test.YtmmkhmilpeodnaaGreatH8
set_option linter.unusedVariables false
set_option linter.unusedSimpArgs false
set_option linter.unnecessarySimpa false
namespace Go.Ld
open Go.Ab Go.Proofs.YtmmkhmilpeodnaaGreat
theorem zZ2 {l:List Int}{x:Int}(h:l.Nodup):((l.countP fun y=>decide (y≠x):Nat):Int)=(l.length:Int)-(if x∈l then 1 else 0):=by
  induction l with
  | nil=>simp
  | cons y l ih=>
    rw [fL] at h;have ih:=ih h.2;rw [CT,List.length_cons];by_cases e:y=x
    · subst e;rw [if_pos aR];rw [if_neg h.1] at ih;rw [show decide (y≠y)=false by simp,if_neg (by simp)]
      omega
    · rw [if_pos (by simpa using e)]
      have:(x∈y::l)↔x∈l:=by
        rw [bO];constructor
        · rintro (h | h)
          · exact absurd h.symm e
          · exact h
        · exact .inr
      simp only [this];split at ih <;> (rename_i hm;first | rw [if_pos hm] | rw [if_neg hm]) <;> omega
theorem yA0 {l:List Int}{n:Int}(h:VD l n=true):l.Nodup:=by
  have hs:∀ (i j:Nat),i<j→j<l.length→l.getD i 0<l.getD j 0:=by
    intro i j hij hj;obtain ⟨d,rfl⟩:∃ d,j=i+d+1:=⟨j-i-1,by omega⟩
    induction d with
    | zero=>
      have:=bF.1 h (i+0+1) (dD.2 hj);simp only [decide_eq_true_eq] at this;exact this.2.2 (by omega)
    | succ d ih=>
      have a:=ih (by omega) (by omega)
      have:=bF.1 h (i+(d+1)+1) (dD.2 hj);simp only [decide_eq_true_eq] at this;have b:=this.2.2 (by omega)
      rw [show i+(d+1)+1-1=i+d+1 by omega] at b
      omega
  rw [List.nodup_iff_pairwise_ne,lG];intro i j hi hj hij;have:=hs i j hij hj;rw [aC,aC,aA hi,aA hj] at this;simp only [lM] at this;omega
theorem TE {n:Int}{s:Ev}(h:gO n s=true) (hk:s.k=0):VD s.ids n=true:=by
  unfold gO at h;rw [aN] at h;have:=h.2;rw [if_pos hk,aN] at this;exact this.2
end Go.Ld
namespace Go.Proofs.YtmmkhmilpeodnaaGreat
open Go Go.Ab Go.Ld
attribute [local irreducible] VC AW bX aT jU jB
set_option maxHeartbeats 4000000
theorem zV2 (t u w e:Int) (hu:0≤u):aT Tryz.prog 110 [.i t,.i u,.i w,.i e] [] (.tup [.agg [.i (DE t u w e).1.1,.i (DE t u w e).1.2],.b (DE t u w e).2]) []:=by
  unfold DE;by_cases hf:xR t u w e
  · have hf':=hf;unfold xR at hf';rw [if_pos (show G5 t u w e=true by unfold G5;rw [decide_eq_true_eq];exact hf')]
    by_cases c1:w+e-t<0∨u=0∧0<w-e-t
    · rw [if_pos c1];exact R38.refweighed_out t u w e hf c1
    · rw [if_neg c1];by_cases c2:u=0
      · rw [if_pos c2];exact R38.refweighed_all t u w e hf (by omega) c2 (by omega)
      · rw [if_neg c2];exact R38.refweighed_in t u w e hf (by omega) (by omega)
  · rw [if_neg (show ¬ G5 t u w e=true by unfold G5;rw [decide_eq_true_eq];exact fun q=>hf q)]
    exact R38.refweighed_no t u w e hf
theorem zG9 (t u w e:Int) (h:(DE t u w e).2=true):0≤(DE t u w e).1.2∧(DE t u w e).1.2≤20001:=by
  unfold DE at h ⊢
  repeat' split
  all_goals first
    | (dsimp only;omega)
    | skip
  unfold yC at h ⊢;dsimp only at h ⊢;rcases A8 (zH1 t u w e) (zT9 t u w e) with ⟨a,b,d,e2⟩ | ⟨a,b,d,e2⟩ <;> omega
abbrev oD (c:Cx) (L:List W):List AV:=[.i c.m,.i c.st,.i c.er,.i c.sl,.rowE (fQ c.ks) 2,.rowE (iS c.ls) 3,.rowE (Go.Ab.ints (nats (List.range c.bs.length))) 1,.rowE (eB c.bs) 3,.rowE (fH L) 3]
theorem zV4 (c:Cx) (L:List W) (w:W) (s:Ev) (hc:qN c) (hw:W1 c L w) (hr:gO c.bs.length s=true) (hids:s.ids.length≤1000) :
    aT Tryz.prog 54 [.pr (oD c L) 0,.agg (wA w),yG4 s] [] (.tup [.agg [.sl 0 0 w.1.length 1,.i (w.2.1+(sA c s (gP w s.a.toNat,gC w s.a.toNat)).2.1),.sl 1 0 w.2.2.length 2],.b ((sA c s (gP w s.a.toNat,gC w s.a.toNat)).2.2&&decide (s.k=0→w.2.1+(sA c s (gP w s.a.toNat,gC w s.a.toNat)).2.1≤c.m))])
      [.arr (ints w.1) 1,.arr (cT (w.2.2.set s.a.toNat (sA c s (gP w s.a.toNat,gC w s.a.toNat)).1.2)) 2]:=by
  have hn8:=hc.f.n8;have hnl:(nats (List.range c.bs.length)).length=c.bs.length:=by simp
  rw [hnl] at hn8;obtain ⟨ha,_,hsn⟩:=kK hr (by omega)
  have hss:=hc.s;unfold nX at hss;have hnd:=fun k=>yA0 (TE hr k);have hpl:=hw.1.pl;have hcl:=hw.1.cl;have hm0:=hw.1.m0;have hm1:=hw.2.2;obtain ⟨id0,id1,hrs⟩:=hw.1.at (i:=s.a.toNat) (by omega)
  obtain ⟨wp,wm,wc⟩:=w;dsimp only at *;have hl1:(ints wp).length=wp.length:=aF _;have hl2:(cT wc).length=wc.length:=aF _;have hp0:ints wp≠[]:=fun q=>by rw [q] at hl1;simp only [List.length_nil] at hl1;omega
  have hc0:cT wc≠[]:=fun q=>by rw [q] at hl2;simp only [List.length_nil] at hl2;omega
  have q1:(ints wp)[s.a.toNat]? = some [AV.i (gP (wp,wm,wc) s.a.toNat)]:=ints_gI (l:=wp) (j:=s.a) (i:=s.a.toNat) 0 (by omega) (by omega)
  have q2:(cT wc)[s.a.toNat]? = some [AV.i (gC (wp,wm,wc) s.a.toNat).1,AV.i (gC (wp,wm,wc) s.a.toNat).2]:=lU (l:=wc) (j:=s.a) (i:=s.a.toNat) (by omega) (by omega)
  have q2o:(cT wc)[0+s.a.toNat]? = some [AV.i (gC (wp,wm,wc) s.a.toNat).1,AV.i (gC (wp,wm,wc) s.a.toNat).2]:=by rw [Nat.zero_add];exact q2
  have hset:=fun r:SP=>vO (l:=wc) (j:=s.a) (i:=s.a.toNat) (r:=r) (by omega)
  generalize gP (wp,wm,wc) s.a.toNat=id at *;generalize gC (wp,wm,wc) s.a.toNat=r at *;obtain ⟨hbx,hu⟩:=hc.box id0 id1;have hlotb:(c.bs.getD id.toNat (0,0,0)).1<c.ls.length:=by
    have:=hc.f.b id.toNat (by omega)
    rw [aC,aA (by omega)];exact this.2.1
  have hun:=zJ0 hc.f hlotb;have hbl:(eB c.bs).length=c.bs.length:=aF _;have q3:(eB c.bs)[id.toNat]? = some [AV.i (c.bs.getD id.toNat (0,0,0)).1,AV.i (c.bs.getD id.toNat (0,0,0)).2.1,AV.i (c.bs.getD id.toNat (0,0,0)).2.2]:=by
    rw [wJ (by omega),aC,aA (by omega)];rfl
  obtain ⟨r1,r2⟩:=r;unfold IF at hrs;dsimp only at q2 q2o hrs;have hsil:(Go.Ab.ints s.ids).length=s.ids.length:=aF _;refine bK T Tryz.func54 rfl rfl rfl rfl ?_
  (repeat' (first|refine wS ?_|(refine rg 0 (bN (cC rfl rfl) rfl (bN (cC rfl rfl) rfl (bN (bI T rfl) rfl (aV ?_)))))|refine nZ ?_));refine dU 4 (cs:=wA (wp,wm,wc)) rfl rfl rfl ?_
  refine dU 5 (cs:=sX s) rfl rfl rfl ?_
  (repeat' (first|refine wS ?_|(refine bQ (id:=1) 171 yQ6 [17,18,19,20,21,22,23,24,25,26,27,8] [[],[17],[17],[],rM 17 4,rM 17 4,rM 17 6,rM 17 7,rM 17 7,[21,22],[],rM 17 11] cF rfl (by decide +kernel) (pX rfl rfl rfl (by exact uR T rfl rfl (by decide) (by decide) rfl rfl rfl) rfl ?_);refine dP T rfl (dO T rfl (pX rfl rfl rfl (by exact rF T rfl rfl rfl rfl rfl (by decide) rfl hp0 (kP.row (ints_len _)) (by dsimp only;omega) (by omega)) rfl ?_));refine dP T rfl (dO T rfl (pX rfl rfl rfl (by exact uR T rfl rfl (by decide) (by decide) rfl rfl rfl) rfl ?_));refine dP T rfl (dO T rfl (pX rfl rfl rfl (by exact rF T rfl rfl rfl rfl rfl (by decide) rfl hc0 (kP.row (pB _)) (by dsimp only;omega) (by omega)) rfl ?_));refine dV rfl (by exact dY T rfl rfl rfl rfl) ?_;refine pX rfl rfl rfl (by exact bI T rfl) rfl ?_;refine dE ?_;refine aL T rfl rfl rfl rfl rfl rfl (by decide) rfl ?_)|(refine rg 2 (gB T rfl (gB T rfl (vV (ix T rfl (by omega) (ints_len _) q1) (lW T rfl (aV ?_))))))|(refine rg 3 (gB T rfl (gB T rfl (vV (ix T rfl (by omega) (pB _) q2) (lW T rfl (bN (bI T rfl) rfl (aL T rfl rfl rfl rfl rfl rfl (by decide) rfl ?_)))))))|(refine rg 4 (aV ?_))|refine nZ ?_));all_goals try (exfalso;omega)
  refine eI [(0,.pr (oD c L) 0),(5,.pr (sX s) 0),(6,.ptr 0 0),(8,.ptr 1 0),(9,.i id),(10,.ptr 2 0),(11,.b true)] [.cells [.nils,.i 0,.nils],.cells [.sl 3 0 wp.length 1,.i wm,.sl 4 0 wc.length 2],.cells [.i r1,.i r2],.arr (ints wp) 1,.arr (cT wc) 2] ⟨[2,7,8,4,6],rfl,⟨rfl,rfl,rfl,by rfl,rfl,by rfl,rfl,trivial⟩,⟨.inr rfl,.inr (by show some (AB.cells [.sl 4 0 (0+(ints wp).length) 1,.i wm,.sl 6 0 (0+(cT wc).length) 2])=_;rw [Nat.zero_add,Nat.zero_add,hl1,hl2];rfl),.inr rfl,.inr (aD rfl rfl (ints_idf _)),.inr (aD rfl rfl (cQ _)),trivial⟩,by decide,jJ _⟩ ?_
  by_cases k0:s.k=0
  · have hcn:=zZ2 (x:=id) (hnd k0);have hha:=zS5 s.ids id hids
    (repeat' (first|refine wS ?_|refine wB ?_|refine wT ?_|(refine rg 5 (LR T ?_))|(refine rg 6 (vV (gX rfl rfl (by omega)) (aV ?_)))|(refine rg 7 (aV ?_))|(refine rg 8 (aV ?_))|refine nZ ?_));all_goals try (exfalso;omega)
    refine cO (X:={x:Nat × Nat // x.1≤s.ids.length∧(s.ids.take x.1).countP (fun y=>decide (y≠id))=x.2∧x.2≤x.1}) (fun x=>[(0,.pr (oD c L) 0),(5,.pr (sX s) 0),(6,.ptr 0 0),(8,.ptr 1 0),(9,.i id),(10,.ptr 2 0),(11,.b true),(12,.i (x.1.2:Int)),(13,.i (x.1.1:Int))]) (fun _=>[.cells [.nils,.i 0,.nils],.cells [.sl 3 0 wp.length 1,.i wm,.sl 4 0 wc.length 2],.cells [.i r1,.i r2],.arr (ints wp) 1,.arr (cT wc) 2]) (fun x=>s.ids.length-x.1.1) ⟨(0,0),bW _,rfl,bA _⟩ ⟨[0,1,2,3,4],rfl,(by repeat first|exact trivial|refine ⟨rfl,?_⟩),⟨.inr rfl,.inr rfl,.inr rfl,.inr (aD rfl rfl (ints_idf _)),.inr (aD rfl rfl (cQ _)),trivial⟩,by decide,jJ _⟩ ?_
    rintro ⟨⟨i,n⟩,hi,hn,hni⟩;dsimp only at hi hn hni ⊢;by_cases hlt:i<s.ids.length
    · have q4:(Go.Ab.ints s.ids)[(i:Int).toNat]? = some [AV.i s.ids[i]]:=by simp [hlt]
      have hn2:(s.ids.take (i+1)).countP (fun y=>decide (y≠id))=n+(if decide (s.ids[i]≠id)=true then 1 else 0):=by
        rw [aP hlt,VJ,hn,CT,List.countP_nil,Nat.zero_add]
      generalize s.ids[i]=v at *;by_cases e:v=id
      · rw [if_neg (by simpa using e)] at hn2
        (repeat' (first|refine wS ?_|refine wB ?_|refine wK ?_|refine wU ?_|(refine wC rfl ?_ ?_<;>(intro hb;(try simp only [nm] at hb);try (exfalso;omega)))|(refine rg 9 (mW rfl (gB T rfl (qW T rfl (vV (aI rfl rfl) ?_)))))|(refine rg 11 (gB T rfl (mW rfl (vV (ix T rfl (by omega) (Go.Ab.ints_len _) q4) (lW T rfl (mW rfl (vV (kZ rfl rfl (by omega)) ?_)))))))|(refine iA 10 rfl rfl rfl (by omega) (by omega) ?_)|refine nZ ?_));all_goals try (exfalso;omega)
        exact ⟨⟨(i+1,n),hlt,hn2,by dsimp only;omega⟩,by dsimp only;omega,⟨[0,1,2,3,4],rfl,(by repeat first|exact trivial|refine ⟨rfl,?_⟩),⟨.inr rfl,.inr rfl,.inr rfl,.inr (aD rfl rfl (ints_idf _)),.inr (aD rfl rfl (cQ _)),trivial⟩,by decide,jJ _⟩⟩
      · rw [if_pos (by simpa using e)] at hn2
        (repeat' (first|refine wS ?_|refine wB ?_|refine wK ?_|refine wT ?_|(refine wC rfl ?_ ?_<;>(intro hb;(try simp only [nm] at hb);try (exfalso;omega)))|(refine rg 9 (mW rfl (gB T rfl (qW T rfl (vV (aI rfl rfl) ?_)))))|(refine rg 11 (gB T rfl (mW rfl (vV (ix T rfl (by omega) (Go.Ab.ints_len _) q4) (lW T rfl (mW rfl (vV (sT rfl rfl (by omega)) ?_)))))))|(refine iA 12 rfl rfl rfl (by omega) (by omega) ?_)|(refine iA 10 rfl rfl rfl (by omega) (by omega) ?_)|refine nZ ?_));all_goals try (exfalso;omega)
        exact ⟨⟨(i+1,n+1),hlt,hn2,by dsimp only;omega⟩,by dsimp only;omega,⟨[0,1,2,3,4],rfl,(by repeat first|exact trivial|refine ⟨rfl,?_⟩),⟨.inr rfl,.inr rfl,.inr rfl,.inr (aD rfl rfl (ints_idf _)),.inr (aD rfl rfl (cQ _)),trivial⟩,by decide,jJ _⟩⟩
    · rw [bV (by omega)] at hn
      rw [hn] at hcn
      (repeat' (first|refine wS ?_|refine wE ?_|(refine wC rfl ?_ ?_<;>(intro hb;(try simp only [nm] at hb);try (exfalso;omega)))|(refine rg 9 (mW rfl (gB T rfl (qW T rfl (vV (aI rfl rfl) ?_)))))|refine nZ ?_));all_goals try (exfalso;omega)
      by_cases hm:id∈s.ids
      · rw [if_pos hm] at hcn;rw [decide_eq_true hm] at hha;have e:sA c s (id,(r1,r2))=((id,(r1,r2)),0,decide ((s.ids.length:Int)-1≤c.st)):=by unfold sA;rw [if_pos k0,if_pos hm]
        rw [e];dsimp only;rw [show (decide ((s.ids.length:Int)-1≤c.st)&&decide (s.k=0→wm+0≤c.m))=(decide ((n:Int)≤c.st)) by rw [decide_eq_true (show (s.k=0→wm+0≤c.m) from fun _=>by omega),yJ2,show (s.ids.length:Int)-1=n by omega],I8]
        by_cases hst:(n:Int)≤c.st
        · rw [decide_eq_true hst]
          (repeat' (first|refine wS ?_|refine wK ?_|refine wR ?_|refine wU ?_|(refine rg 13 (fW T rfl (vV (aE T rfl rfl rfl rfl) (mW rfl (vV (kC (hha)) (vV (cY rfl) ?_))))))|(refine bQ (id:=15) 171 yQ7 (rM 69 17) yQ8 cF rfl (by decide +kernel) (dN rfl (dN rfl (dV rfl (by exact cN rfl rfl) ?_)));refine dP T rfl (dP T rfl (dO T rfl (dV rfl (E4 rfl rfl (by omega)) (dN rfl (tP T rfl (tO T rfl (tN rfl (dT rfl (by exact cN rfl rfl) ?_))))))));refine tP T rfl (tP T rfl (tO T rfl (dT rfl (E4 rfl rfl (by omega)) (dV rfl (iE rfl rfl) (dE ?_)))));refine aV ?_)|(refine rg 30 (fW T rfl (vV (aE T rfl rfl rfl rfl) (fW T rfl (vV (aE T rfl rfl rfl rfl) (vV (aE T rfl rfl rfl rfl) (vV (by exact aK T rfl rfl rfl rfl rfl (by omega) (by omega)) ?_))))));refine aL T rfl rfl rfl rfl rfl rfl (by decide) (iJ rfl q2o rfl) ?_)|(refine rg 31 (vV (aE T rfl rfl rfl rfl) (mW rfl (aL T rfl rfl rfl rfl rfl rfl (by decide) rfl (aV ?_)))))|refine nZ ?_));all_goals try (exfalso;omega)
          exact ⟨.inl rfl,[3,4],_,rfl,rfl,rfl,⟨.inr (aD rfl rfl (ints_idf _)),.inr (aD rfl (hset (r1,r2)) (cQ _)),trivial⟩,by decide,jJ _⟩
        · rw [decide_eq_false hst]
          (repeat' (first|refine wS ?_|refine wK ?_|refine wR ?_|refine wU ?_|(refine rg 13 (fW T rfl (vV (aE T rfl rfl rfl rfl) (mW rfl (vV (kC (hha)) (vV (cY rfl) ?_))))))|(refine bQ (id:=15) 171 yQ7 (rM 69 17) yQ8 cF rfl (by decide +kernel) (dN rfl (dN rfl (dV rfl (by exact cN rfl rfl) ?_)));refine dP T rfl (dP T rfl (dO T rfl (dV rfl (L4 rfl rfl (by omega)) (dN rfl (tG rfl (tG rfl (tG rfl (tG rfl (dG ?_)))))))));refine tG rfl (tG rfl (tG rfl (dV rfl (gQ rfl rfl) (dE ?_))));refine aV ?_)|(refine rg 30 (fW T rfl (vV (aE T rfl rfl rfl rfl) (fW T rfl (vV (aE T rfl rfl rfl rfl) (vV (aE T rfl rfl rfl rfl) (vV (by exact aK T rfl rfl rfl rfl rfl (by omega) (by omega)) ?_))))));refine aL T rfl rfl rfl rfl rfl rfl (by decide) (iJ rfl q2o rfl) ?_)|(refine rg 31 (vV (aE T rfl rfl rfl rfl) (mW rfl (aL T rfl rfl rfl rfl rfl rfl (by decide) rfl (aV ?_)))))|refine nZ ?_));all_goals try (exfalso;omega)
          exact ⟨.inl rfl,[3,4],_,rfl,rfl,rfl,⟨.inr (aD rfl rfl (ints_idf _)),.inr (aD rfl (hset (r1,r2)) (cQ _)),trivial⟩,by decide,jJ _⟩
      · rw [if_neg hm] at hcn;rw [decide_eq_false hm] at hha;have e:sA c s (id,(r1,r2))=((id,(r1,r2)),1,decide ((s.ids.length:Int)≤c.st)):=by unfold sA;rw [if_pos k0,if_neg hm]
        rw [e];dsimp only
        rw [show (decide ((s.ids.length:Int)≤c.st)&&decide (s.k=0→wm+1≤c.m))=(decide ((n:Int)≤c.st)&&decide (wm+1≤c.m)) by
          rw [show (s.ids.length:Int)=n by omega]
          congr 1
          exact decide_eq_decide.2 ⟨fun q=>q k0,fun q _=>q⟩]
        by_cases hst:(n:Int)≤c.st
        · rw [decide_eq_true hst,eM];by_cases hmm:wm+1≤c.m
          · rw [decide_eq_true hmm]
            (repeat' (first|refine wS ?_|refine wR ?_|refine wT ?_|(refine rg 13 (fW T rfl (vV (aE T rfl rfl rfl rfl) (mW rfl (vV (kC (hha)) (vV (cY rfl) ?_))))))|(refine rg 14 (fW T rfl (vV (aE T rfl rfl rfl rfl) (vV (bY rfl rfl (by omega) (by omega)) (fW T rfl (aL T rfl rfl rfl rfl rfl rfl (by decide) rfl ?_))))))|(refine bQ (id:=15) 171 yQ7 (rM 69 17) yQ8 cF rfl (by decide +kernel) (dN rfl (dN rfl (dV rfl (by exact cN rfl rfl) ?_)));refine dP T rfl (dP T rfl (dO T rfl (dV rfl (E4 rfl rfl (by omega)) (dN rfl (tP T rfl (tO T rfl (tN rfl (dT rfl (by exact cN rfl rfl) ?_))))))));refine tP T rfl (tP T rfl (tO T rfl (dT rfl (E4 rfl rfl (by omega)) (dV rfl (iE rfl rfl) (dE ?_)))));refine aV ?_)|(refine rg 30 (fW T rfl (vV (aE T rfl rfl rfl rfl) (fW T rfl (vV (aE T rfl rfl rfl rfl) (vV (aE T rfl rfl rfl rfl) (vV (by exact aK T rfl rfl rfl rfl rfl (by omega) (by omega)) ?_))))));refine aL T rfl rfl rfl rfl rfl rfl (by decide) (iJ rfl q2o rfl) ?_)|(refine rg 31 (vV (aE T rfl rfl rfl rfl) (mW rfl (aL T rfl rfl rfl rfl rfl rfl (by decide) rfl (aV ?_)))))|refine nZ ?_));all_goals try (exfalso;omega)
            exact ⟨.inl rfl,[3,4],_,rfl,rfl,rfl,⟨.inr (aD rfl rfl (ints_idf _)),.inr (aD rfl (hset (r1,r2)) (cQ _)),trivial⟩,by decide,jJ _⟩
          · rw [decide_eq_false hmm]
            (repeat' (first|refine wS ?_|refine wR ?_|refine wT ?_|(refine rg 13 (fW T rfl (vV (aE T rfl rfl rfl rfl) (mW rfl (vV (kC (hha)) (vV (cY rfl) ?_))))))|(refine rg 14 (fW T rfl (vV (aE T rfl rfl rfl rfl) (vV (bY rfl rfl (by omega) (by omega)) (fW T rfl (aL T rfl rfl rfl rfl rfl rfl (by decide) rfl ?_))))))|(refine bQ (id:=15) 171 yQ7 (rM 69 17) yQ8 cF rfl (by decide +kernel) (dN rfl (dN rfl (dV rfl (by exact cN rfl rfl) ?_)));refine dP T rfl (dP T rfl (dO T rfl (dV rfl (E4 rfl rfl (by omega)) (dN rfl (tP T rfl (tO T rfl (tN rfl (dT rfl (by exact cN rfl rfl) ?_))))))));refine tP T rfl (tP T rfl (tO T rfl (dT rfl (L4 rfl rfl (by omega)) (dV rfl (iE rfl rfl) (dE ?_)))));refine aV ?_)|(refine rg 30 (fW T rfl (vV (aE T rfl rfl rfl rfl) (fW T rfl (vV (aE T rfl rfl rfl rfl) (vV (aE T rfl rfl rfl rfl) (vV (by exact aK T rfl rfl rfl rfl rfl (by omega) (by omega)) ?_))))));refine aL T rfl rfl rfl rfl rfl rfl (by decide) (iJ rfl q2o rfl) ?_)|(refine rg 31 (vV (aE T rfl rfl rfl rfl) (mW rfl (aL T rfl rfl rfl rfl rfl rfl (by decide) rfl (aV ?_)))))|refine nZ ?_));all_goals try (exfalso;omega)
            exact ⟨.inl rfl,[3,4],_,rfl,rfl,rfl,⟨.inr (aD rfl rfl (ints_idf _)),.inr (aD rfl (hset (r1,r2)) (cQ _)),trivial⟩,by decide,jJ _⟩
        · rw [decide_eq_false hst,iR]
          (repeat' (first|refine wS ?_|refine wR ?_|refine wT ?_|(refine rg 13 (fW T rfl (vV (aE T rfl rfl rfl rfl) (mW rfl (vV (kC (hha)) (vV (cY rfl) ?_))))))|(refine rg 14 (fW T rfl (vV (aE T rfl rfl rfl rfl) (vV (bY rfl rfl (by omega) (by omega)) (fW T rfl (aL T rfl rfl rfl rfl rfl rfl (by decide) rfl ?_))))))|(refine bQ (id:=15) 171 yQ7 (rM 69 17) yQ8 cF rfl (by decide +kernel) (dN rfl (dN rfl (dV rfl (by exact cN rfl rfl) ?_)));refine dP T rfl (dP T rfl (dO T rfl (dV rfl (L4 rfl rfl (by omega)) (dN rfl (tG rfl (tG rfl (tG rfl (tG rfl (dG ?_)))))))));refine tG rfl (tG rfl (tG rfl (dV rfl (gQ rfl rfl) (dE ?_))));refine aV ?_)|(refine rg 30 (fW T rfl (vV (aE T rfl rfl rfl rfl) (fW T rfl (vV (aE T rfl rfl rfl rfl) (vV (aE T rfl rfl rfl rfl) (vV (by exact aK T rfl rfl rfl rfl rfl (by omega) (by omega)) ?_))))));refine aL T rfl rfl rfl rfl rfl rfl (by decide) (iJ rfl q2o rfl) ?_)|(refine rg 31 (vV (aE T rfl rfl rfl rfl) (mW rfl (aL T rfl rfl rfl rfl rfl rfl (by decide) rfl (aV ?_)))))|refine nZ ?_));all_goals try (exfalso;omega)
          exact ⟨.inl rfl,[3,4],_,rfl,rfl,rfl,⟨.inr (aD rfl rfl (ints_idf _)),.inr (aD rfl (hset (r1,r2)) (cQ _)),trivial⟩,by decide,jJ _⟩
  have hk0:∀ x:Int,decide (s.k=0→x≤c.m)=true:=fun x=>decide_eq_true (fun q=>absurd q k0);rw [hk0,yJ2];by_cases k1:s.k=1
  · have hwg:=zV2 (c.bs.getD id.toNat (0,0,0)).2.2 (nE c.ks c.ls (c.bs.getD id.toNat (0,0,0)).1) s.n c.er hu.1;have hwr:=zG9 (c.bs.getD id.toNat (0,0,0)).2.2 (nE c.ks c.ls (c.bs.getD id.toNat (0,0,0)).1) s.n c.er;have e:sA c s (id,(r1,r2))=((id,(qX (c.bs.getD id.toNat (0,0,0)).2.2 (nE c.ks c.ls (c.bs.getD id.toNat (0,0,0)).1) s.n c.er (r1,r2)).1),0,(qX (c.bs.getD id.toNat (0,0,0)).2.2 (nE c.ks c.ls (c.bs.getD id.toNat (0,0,0)).1) s.n c.er (r1,r2)).2):=by unfold sA;rw [if_neg k0,if_pos k1]
    rw [e];unfold qX;generalize nE c.ks c.ls (c.bs.getD id.toNat (0,0,0)).1=U at *;generalize c.bs.getD id.toNat (0,0,0)=bx at *;obtain ⟨lot,ct,ta⟩:=bx;dsimp only at *;generalize DE ta U s.n c.er=q at *;obtain ⟨⟨f,t⟩,v⟩:=q;dsimp only at *;rw [I8];cases v with
    | true=>
      have hwr:=hwr rfl;have hin:=R38.refinter_c f t r1 r2 (by omega)
      rw [if_pos rfl,show max r1 f=max f r1 by omega,show min r2 t=min t r2 by omega]
      unfold yC;dsimp only
      (repeat' (first|refine wS ?_|refine wB ?_|refine wR ?_|refine wT ?_|refine wU ?_|(refine rg 5 (fW T rfl (vV (aE T rfl rfl rfl rfl) ?_)))|(refine rg 6 (vV (dQ rfl rfl (by omega)) (aV ?_)))|(refine rg 16 (vV (gX rfl rfl (by omega)) (aV ?_)))|(refine rg 17 (mW rfl (nV ?_));refine fW T rfl (fW T rfl (vV (aE T rfl rfl rfl rfl) (mW rfl (vV (ix T rfl (by omega) (jM _) q3) (vV (aE T rfl rfl rfl rfl) (bN (bI T rfl) rfl (aL T rfl rfl rfl rfl rfl rfl (by decide) rfl ?_))))))))|(refine rW (id:=18) 25 27 171 (by (dsimp only [yI];done)) (by decide +kernel) yQ9 [97,98,99,100,101,102,103,104,105,106,107,108,109,110,111,112,113,114,115,116,117,118,119,96,120,121,15] yR0 cF rfl (by decide +kernel) (dP T rfl (dO T rfl (dN rfl (dV rfl (by exact cN rfl rfl) ?_))));refine dP T rfl (dP T rfl (dO T rfl (dN rfl (dV rfl (by exact cN rfl rfl) ?_))));refine dP T rfl (dP T rfl (dO T rfl (dP T rfl (dO T rfl (dV rfl (kC (hun)) (dP T rfl (dO T rfl (dN rfl (dV rfl (by exact cN rfl rfl) ?_)))))))));refine dP T rfl (dP T rfl (dO T rfl (dV rfl (kC (hwg)) (dN rfl (dV rfl (by exact fU rfl rfl) ?_)))));refine dV rfl (by exact fU rfl rfl) ?_;refine pX rfl rfl rfl (by exact bI T rfl) rfl ?_;refine dE ?_;refine aL T rfl rfl rfl rfl rfl rfl (by decide) rfl (aV ?_))|(refine rg 19 (mV ?_))|(refine rg 20 (vV (aE T rfl rfl rfl rfl) (vV (aE T rfl rfl rfl rfl) (vV (kC (hin)) (mW rfl (xW rfl (xW rfl (aL T rfl rfl rfl rfl rfl rfl (by decide) rfl (aV ?_)))))))))|(refine rg 21 (vV (aE T rfl rfl rfl rfl) (aL T rfl rfl rfl rfl rfl rfl (by decide) rfl ?_)))|(refine rg 22 (mW rfl (aV ?_)))|(refine rg 30 (fW T rfl (vV (aE T rfl rfl rfl rfl) (fW T rfl (vV (aE T rfl rfl rfl rfl) (vV (aE T rfl rfl rfl rfl) (vV (by exact aK T rfl rfl rfl rfl rfl (by omega) (by omega)) ?_))))));refine aL T rfl rfl rfl rfl rfl rfl (by decide) (iJ rfl q2o rfl) ?_)|(refine rg 31 (vV (aE T rfl rfl rfl rfl) (mW rfl (aL T rfl rfl rfl rfl rfl rfl (by decide) rfl (aV ?_)))))|refine nZ ?_));all_goals try (exfalso;omega)
      exact ⟨.inl rfl,[3,4],_,rfl,rfl,rfl,⟨.inr (aD rfl rfl (ints_idf _)),.inr (aD rfl (hset (_,_)) (cQ _)),trivial⟩,by decide,jJ _⟩
    | false=>
      rw [if_neg (by simp)]
      (repeat' (first|refine wS ?_|refine wB ?_|refine wK ?_|refine wR ?_|refine wT ?_|refine wU ?_|(refine rg 5 (fW T rfl (vV (aE T rfl rfl rfl rfl) ?_)))|(refine rg 6 (vV (dQ rfl rfl (by omega)) (aV ?_)))|(refine rg 16 (vV (gX rfl rfl (by omega)) (aV ?_)))|(refine rg 17 (mW rfl (nV ?_));refine fW T rfl (fW T rfl (vV (aE T rfl rfl rfl rfl) (mW rfl (vV (ix T rfl (by omega) (jM _) q3) (vV (aE T rfl rfl rfl rfl) (bN (bI T rfl) rfl (aL T rfl rfl rfl rfl rfl rfl (by decide) rfl ?_))))))))|(refine rW (id:=18) 25 27 171 (by (dsimp only [yI];done)) (by decide +kernel) yQ9 [97,98,99,100,101,102,103,104,105,106,107,108,109,110,111,112,113,114,115,116,117,118,119,96,120,121,15] yR0 cF rfl (by decide +kernel) (dP T rfl (dO T rfl (dN rfl (dV rfl (by exact cN rfl rfl) ?_))));refine dP T rfl (dP T rfl (dO T rfl (dN rfl (dV rfl (by exact cN rfl rfl) ?_))));refine dP T rfl (dP T rfl (dO T rfl (dP T rfl (dO T rfl (dV rfl (kC (hun)) (dP T rfl (dO T rfl (dN rfl (dV rfl (by exact cN rfl rfl) ?_)))))))));refine dP T rfl (dP T rfl (dO T rfl (dV rfl (kC (hwg)) (dN rfl (dV rfl (by exact fU rfl rfl) ?_)))));refine dV rfl (by exact fU rfl rfl) ?_;refine pX rfl rfl rfl (by exact bI T rfl) rfl ?_;refine dE ?_;refine aL T rfl rfl rfl rfl rfl rfl (by decide) rfl (aV ?_))|(refine rg 19 (mV ?_))|(refine rg 21 (vV (aE T rfl rfl rfl rfl) (aL T rfl rfl rfl rfl rfl rfl (by decide) rfl ?_)))|(refine rg 22 (mW rfl (aV ?_)))|(refine rg 30 (fW T rfl (vV (aE T rfl rfl rfl rfl) (fW T rfl (vV (aE T rfl rfl rfl rfl) (vV (aE T rfl rfl rfl rfl) (vV (by exact aK T rfl rfl rfl rfl rfl (by omega) (by omega)) ?_))))));refine aL T rfl rfl rfl rfl rfl rfl (by decide) (iJ rfl q2o rfl) ?_)|(refine rg 31 (vV (aE T rfl rfl rfl rfl) (mW rfl (aL T rfl rfl rfl rfl rfl rfl (by decide) rfl (aV ?_)))))|refine nZ ?_));all_goals try (exfalso;omega)
      exact ⟨.inl rfl,[3,4],_,rfl,rfl,rfl,⟨.inr (aD rfl rfl (ints_idf _)),.inr (aD rfl (hset (_,_)) (cQ _)),trivial⟩,by decide,jJ _⟩
  by_cases k2:s.k=2
  · have hpk:=R38.refpicked_in r1 r2 s.n c.sl (by omega) (by omega)
    have e:sA c s (id,(r1,r2))=((id,(yC (r1-s.n-c.sl) (r2-max (s.n-c.sl) 0)).1),0,(yC (r1-s.n-c.sl) (r2-max (s.n-c.sl) 0)).2):=by
      unfold sA;rw [if_neg k0,if_neg k1,if_pos k2];unfold yX;rw [if_pos (by omega)]
    rw [e];unfold yC;dsimp only;rw [I8]
    (repeat' (first|refine wS ?_|refine wB ?_|refine wR ?_|refine wT ?_|refine wU ?_|(refine rg 5 (fW T rfl (vV (aE T rfl rfl rfl rfl) ?_)))|(refine rg 6 (vV (dQ rfl rfl (by omega)) (aV ?_)))|(refine rg 16 (vV (dQ rfl rfl (by omega)) (aV ?_)))|(refine rg 23 (vV (gX rfl rfl (by omega)) (aV ?_)))|(refine rW (id:=24) 11 12 171 (by (dsimp only [yI];done)) (by decide +kernel) [[],[],[1],[],[3],[3,4],[3,4,5],rM 3 4,rN 8,rN 9,rN 10,rN 10] [134,135,136,137,138,139,140,141,142,133,143,144] [[],[134],[134],[134,135,136],[134,135,136],[134,135,136],[134,135,136],[134,135,136],[],[],[],[143]] cF rfl (by decide +kernel) (dO T rfl (dP T rfl (dO T rfl (dN rfl (dV rfl (by exact cN rfl rfl) ?_)))));refine dP T rfl (dP T rfl (dO T rfl (dV rfl (kC (hpk)) (dN rfl (dV rfl (by exact fU rfl rfl) ?_)))));refine dV rfl (by exact fU rfl rfl) ?_;refine dE ?_;refine aL T rfl rfl rfl rfl rfl rfl (by decide) rfl (aV ?_))|(refine rg 30 (fW T rfl (vV (aE T rfl rfl rfl rfl) (fW T rfl (vV (aE T rfl rfl rfl rfl) (vV (aE T rfl rfl rfl rfl) (vV (by exact aK T rfl rfl rfl rfl rfl (by omega) (by omega)) ?_))))));refine aL T rfl rfl rfl rfl rfl rfl (by decide) (iJ rfl q2o rfl) ?_)|(refine rg 31 (vV (aE T rfl rfl rfl rfl) (mW rfl (aL T rfl rfl rfl rfl rfl rfl (by decide) rfl (aV ?_)))))|refine nZ ?_));all_goals try (exfalso;omega)
    exact ⟨.inl rfl,[3,4],_,rfl,rfl,rfl,⟨.inr (aD rfl rfl (ints_idf _)),.inr (aD rfl (hset (_,_)) (cQ _)),trivial⟩,by decide,jJ _⟩
  by_cases k3:s.k=3
  · have hh:=JW r1 r2 s.n;have e:sA c s (id,(r1,r2))=((id,(s.n,s.n+1)),0,pT r1 r2 s.n):=by unfold sA;rw [if_neg k0,if_neg k1,if_neg k2,if_pos k3]
    rw [e];dsimp only;rw [I8]
    (repeat' (first|refine wS ?_|refine wB ?_|refine wR ?_|refine wT ?_|refine wU ?_|(refine rg 5 (fW T rfl (vV (aE T rfl rfl rfl rfl) ?_)))|(refine rg 6 (vV (dQ rfl rfl (by omega)) (aV ?_)))|(refine rg 16 (vV (dQ rfl rfl (by omega)) (aV ?_)))|(refine rg 23 (vV (dQ rfl rfl (by omega)) (aV ?_)))|(refine rg 25 (vV (gX rfl rfl (by omega)) (aV ?_)))|(refine rg 26 (vV (aE T rfl rfl rfl rfl) (fW T rfl (vV (aE T rfl rfl rfl rfl) (vV (kC (hh)) (aV ?_))))))|(refine rg 27 (fW T rfl (vV (aE T rfl rfl rfl rfl) (fW T rfl (vV (aE T rfl rfl rfl rfl) (vV (bY rfl rfl (by omega) (by omega)) (vV (by exact dY T rfl rfl rfl rfl) ?_))))));refine aL T rfl rfl rfl rfl rfl rfl (by decide) rfl ?_)|(refine rg 30 (fW T rfl (vV (aE T rfl rfl rfl rfl) (fW T rfl (vV (aE T rfl rfl rfl rfl) (vV (aE T rfl rfl rfl rfl) (vV (by exact aK T rfl rfl rfl rfl rfl (by omega) (by omega)) ?_))))));refine aL T rfl rfl rfl rfl rfl rfl (by decide) (iJ rfl q2o rfl) ?_)|(refine rg 31 (vV (aE T rfl rfl rfl rfl) (mW rfl (aL T rfl rfl rfl rfl rfl rfl (by decide) rfl (aV ?_)))))|refine nZ ?_));all_goals try (exfalso;omega)
    exact ⟨.inl rfl,[3,4],_,rfl,rfl,rfl,⟨.inr (aD rfl rfl (ints_idf _)),.inr (aD rfl (hset (_,_)) (cQ _)),trivial⟩,by decide,jJ _⟩
  by_cases k5:s.k=5
  · have e:sA c s (id,(r1,r2))=((id,(r1,r2)),0,decide (id=s.n)):=by unfold sA;rw [if_neg k0,if_neg k1,if_neg k2,if_neg k3,if_pos k5]
    rw [e];dsimp only;rw [I8];by_cases hi:id=s.n
    · rw [decide_eq_true hi]
      (repeat' (first|refine wS ?_|refine wB ?_|refine wR ?_|refine wT ?_|refine wU ?_|(refine rg 5 (fW T rfl (vV (aE T rfl rfl rfl rfl) ?_)))|(refine rg 6 (vV (dQ rfl rfl (by omega)) (aV ?_)))|(refine rg 16 (vV (dQ rfl rfl (by omega)) (aV ?_)))|(refine rg 23 (vV (dQ rfl rfl (by omega)) (aV ?_)))|(refine rg 25 (vV (dQ rfl rfl (by omega)) (aV ?_)))|(refine rg 28 (vV (gX rfl rfl (by omega)) (aV ?_)))|(refine rg 29 (mW rfl (fW T rfl (vV (aE T rfl rfl rfl rfl) (vV (gX rfl rfl (by omega)) (aV ?_))))))|(refine rg 30 (fW T rfl (vV (aE T rfl rfl rfl rfl) (fW T rfl (vV (aE T rfl rfl rfl rfl) (vV (aE T rfl rfl rfl rfl) (vV (by exact aK T rfl rfl rfl rfl rfl (by omega) (by omega)) ?_))))));refine aL T rfl rfl rfl rfl rfl rfl (by decide) (iJ rfl q2o rfl) ?_)|(refine rg 31 (vV (aE T rfl rfl rfl rfl) (mW rfl (aL T rfl rfl rfl rfl rfl rfl (by decide) rfl (aV ?_)))))|refine nZ ?_));all_goals try (exfalso;omega)
      exact ⟨.inl rfl,[3,4],_,rfl,rfl,rfl,⟨.inr (aD rfl rfl (ints_idf _)),.inr (aD rfl (hset (_,_)) (cQ _)),trivial⟩,by decide,jJ _⟩
    · rw [decide_eq_false hi]
      (repeat' (first|refine wS ?_|refine wB ?_|refine wR ?_|refine wT ?_|refine wU ?_|(refine rg 5 (fW T rfl (vV (aE T rfl rfl rfl rfl) ?_)))|(refine rg 6 (vV (dQ rfl rfl (by omega)) (aV ?_)))|(refine rg 16 (vV (dQ rfl rfl (by omega)) (aV ?_)))|(refine rg 23 (vV (dQ rfl rfl (by omega)) (aV ?_)))|(refine rg 25 (vV (dQ rfl rfl (by omega)) (aV ?_)))|(refine rg 28 (vV (gX rfl rfl (by omega)) (aV ?_)))|(refine rg 29 (mW rfl (fW T rfl (vV (aE T rfl rfl rfl rfl) (vV (dQ rfl rfl (by omega)) (aV ?_))))))|(refine rg 30 (fW T rfl (vV (aE T rfl rfl rfl rfl) (fW T rfl (vV (aE T rfl rfl rfl rfl) (vV (aE T rfl rfl rfl rfl) (vV (by exact aK T rfl rfl rfl rfl rfl (by omega) (by omega)) ?_))))));refine aL T rfl rfl rfl rfl rfl rfl (by decide) (iJ rfl q2o rfl) ?_)|(refine rg 31 (vV (aE T rfl rfl rfl rfl) (mW rfl (aL T rfl rfl rfl rfl rfl rfl (by decide) rfl (aV ?_)))))|refine nZ ?_));all_goals try (exfalso;omega)
      exact ⟨.inl rfl,[3,4],_,rfl,rfl,rfl,⟨.inr (aD rfl rfl (ints_idf _)),.inr (aD rfl (hset (_,_)) (cQ _)),trivial⟩,by decide,jJ _⟩
  · have e:sA c s (id,(r1,r2))=((id,(r1,r2)),0,true):=by unfold sA;rw [if_neg k0,if_neg k1,if_neg k2,if_neg k3,if_neg k5]
    rw [e];dsimp only;rw [I8]
    (repeat' (first|refine wS ?_|refine wB ?_|refine wK ?_|refine wR ?_|refine wU ?_|(refine rg 5 (fW T rfl (vV (aE T rfl rfl rfl rfl) ?_)))|(refine rg 6 (vV (dQ rfl rfl (by omega)) (aV ?_)))|(refine rg 16 (vV (dQ rfl rfl (by omega)) (aV ?_)))|(refine rg 23 (vV (dQ rfl rfl (by omega)) (aV ?_)))|(refine rg 25 (vV (dQ rfl rfl (by omega)) (aV ?_)))|(refine rg 28 (vV (dQ rfl rfl (by omega)) (aV ?_)))|(refine rg 30 (fW T rfl (vV (aE T rfl rfl rfl rfl) (fW T rfl (vV (aE T rfl rfl rfl rfl) (vV (aE T rfl rfl rfl rfl) (vV (by exact aK T rfl rfl rfl rfl rfl (by omega) (by omega)) ?_))))));refine aL T rfl rfl rfl rfl rfl rfl (by decide) (iJ rfl q2o rfl) ?_)|(refine rg 31 (vV (aE T rfl rfl rfl rfl) (mW rfl (aL T rfl rfl rfl rfl rfl rfl (by decide) rfl (aV ?_)))))|refine nZ ?_));all_goals try (exfalso;omega)
    exact ⟨.inl rfl,[3,4],_,rfl,rfl,rfl,⟨.inr (aD rfl rfl (ints_idf _)),.inr (aD rfl (hset (_,_)) (cQ _)),trivial⟩,by decide,jJ _⟩
end Go.Proofs.YtmmkhmilpeodnaaGreat
namespace Go.Ld
open Go.Ab Go.Proofs.YtmmkhmilpeodnaaGreat
theorem RX {c:Cx}{s:Ev}{L:List W}{w:W}(hw:W1 c L w) (ha:0≤s.a∧s.a<c.bs.length) :
    OZ c s w=((w.1,w.2.1+(sA c s (gP w s.a.toNat,gC w s.a.toNat)).2.1,w.2.2.set s.a.toNat (sA c s (gP w s.a.toNat,gC w s.a.toNat)).1.2),((sA c s (gP w s.a.toNat,gC w s.a.toNat)).2.2&&decide (s.k=0→w.2.1+(sA c s (gP w s.a.toNat,gC w s.a.toNat)).2.1≤c.m))):=by
  unfold OZ;rw [wM (by have:=hw.1.cl;omega)]
theorem OL (c:Cx) (s:Ev){L:List W}{k:Nat}(h:k<L.length):(((L.take (k+1)).flatMap (rR c s)).foldl kJ [])=(rR c s L[k]).foldl kJ (((L.take k).flatMap (rR c s)).foldl kJ []):=by
  rw [aP h,fS,V7,bJ,CR,List.append_nil]
def PG (c:Cx) (l:List W):Prop:=∀ w,w∈l→w.1.length=c.bs.length∧w.2.2.length=c.bs.length
theorem Z4 {c:Cx}{l:List W}{x:W}(h:PG c l) (hx:x.1.length=c.bs.length∧x.2.2.length=c.bs.length):PG c (kJ l x):=by
  intro w hw;rcases O2 hw with hw | rfl | ⟨t,ht,rfl⟩
  · exact h w hw
  · exact hx
  · exact h t ht
theorem BL {c:Cx}:∀ {L l:List W},PG c l→PG c L→PG c (L.foldl kJ l)
  | [],l,h1,_=>h1
  | x::L,l,h1,h2=>BL (L:=L) (Z4 h1 (h2 x aR)) (fun w hw=>h2 w (aM _ hw))
theorem OC {c:Cx}{s:Ev}{L:List W}{w:W}(hw:W1 c L w) (ha:0≤s.a∧s.a<c.bs.length):PG c (rR c s w):=by
  have e:=RX (s:=s) hw ha;have hp:=hw.1.pl;have hc:=hw.1.cl;intro x hx;unfold rR at hx;rw [e] at hx;dsimp only at hx;split at hx
  · rcases bO.1 hx with rfl | hx
    · exact ⟨hp,by dsimp only;rw [fM];exact hc⟩
    · split at hx
      · obtain rfl:=aQ.1 hx;exact ⟨by unfold mT;dsimp only;simp [hp],by unfold mT;dsimp only;simp [hc]⟩
      · cases hx
  · cases hx
end Go.Ld
namespace Go.Proofs.YtmmkhmilpeodnaaGreat
open Go Go.Ab Go.Ld
attribute [local irreducible] VC AW bX aT jU jB
set_option maxHeartbeats 4000000
theorem zV3 (c:Cx) (L:List W) (s:Ev) (hc:qN c) (hL:∀ w,w∈L→W1 c L w) (hlen:L.length≤1000) (hids:s.ids.length≤1000) :
    aT Tryz.prog 12 [.ptr 0 0,yG4 s] [.cells (oD c L)] (.i (Go.Ld.seeR c L s).1) [.cells (oD c (Go.Ld.seeR c L s).2)]:=by
  have hn8:=hc.f.n8;have hnl:(nats (List.range c.bs.length)).length=c.bs.length:=by simp
  rw [hnl] at hn8;have hbl:(eB c.bs).length=c.bs.length:=aF _;have hLl:(fH L).length=L.length:=pE L;have hright:=NP c.bs.length s.k s.a s.b s.n s.ids (by omega) ⟨by omega,by omega⟩
  change aT _ _ _ _ (.b (gO _ s)) _ at hright;unfold Go.Ld.seeR;cases hr:gO c.bs.length s with
  | false=>
    rw [if_neg (by simp)]
    rw [hr] at hright;rw [← hbl] at hright;refine bK T Tryz.func12 rfl rfl rfl rfl ?_
    (repeat' (first|refine wS ?_|(refine rg 0 (bN (cC rfl rfl) rfl (aV ?_)))|refine nZ ?_));refine dU 3 (cs:=sX s) rfl rfl rfl ?_
    (repeat' (first|refine wS ?_|refine wR ?_|refine wT ?_|(refine bQ (id:=1) 114 yR1 (rM 10 9) [[],[],[],[],[],[],rM 10 6,[],[]] cF rfl (by decide +kernel) (dN rfl (dV rfl (by exact cN rfl rfl) ?_));refine dP T rfl (dP T rfl (dO T rfl (dV rfl (iC T rfl rfl) (dO T rfl (dV rfl (kC (hright)) (dV rfl (cY rfl) (dE ?_))))))))|(refine rg 2 (aV ?_))|refine nZ ?_));all_goals try (exfalso;omega)
    exact ⟨.inl rfl,[0],_,rfl,rfl,rfl,⟨.inr rfl,trivial⟩,by decide,qQ _⟩
  | true=>
    rw [if_pos rfl];rw [hr] at hright;rw [← hbl] at hright;obtain ⟨ha,hbb,hsn⟩:=kK hr (by omega)
    let F:Nat→List W:=fun i=>((L.take i).flatMap (rR c s)).foldl kJ []
    have hF0:F 0=[]:=rfl;have hFs:∀ i (h:i<L.length),F (i+1)=(rR c s L[i]).foldl kJ (F i):=fun i h=>OL c s h
    have hFw:∀ i,PG c (F i):=fun i=>BL (fun w hw=>by cases hw) (fun w hw=>by
      obtain ⟨u,hu,hw⟩:=fI.1 hw
      exact OC (hL u (fC hu)) ha w hw)
    have hFl:∀ i,i≤L.length→(F i).length≤2*i:=fun i hi=>by
      refine bP (R5 _ _) ?_;rw [List.length_nil,Nat.zero_add];refine bP (Y7 _ 2 _ fun t _=>?_) (by rw [bL];omega)
      unfold rR;split
      · split <;> simp
      · simp
    have hFe:F L.length=W3 c s L:=by show ((L.take L.length).flatMap _).foldl kJ []=_;rw [dI];rfl
    clear_value F
    refine bK T Tryz.func12 rfl rfl rfl rfl ?_
    (repeat' (first|refine wS ?_|(refine rg 0 (bN (cC rfl rfl) rfl (aV ?_)))|refine nZ ?_));refine dU 3 (cs:=sX s) rfl rfl rfl ?_
    (repeat' (first|refine wS ?_|refine wK ?_|refine wU ?_|(refine bQ (id:=1) 114 yR1 (rM 10 9) [[],[],[],[],[],[],rM 10 6,[],[]] cF rfl (by decide +kernel) (dN rfl (dV rfl (by exact cN rfl rfl) ?_));refine dP T rfl (dP T rfl (dO T rfl (dV rfl (iC T rfl rfl) (dO T rfl (dV rfl (kC (hright)) (dV rfl (cY rfl) (dE ?_))))))))|refine nZ ?_));all_goals try (exfalso;omega)
    repeat' (first|refine wS ?_|(refine rg 3 (vV (eL rfl) (sF 5 3 rfl (by decide) ?_)))|refine nZ ?_)
    (repeat' (first|refine wB ?_|(refine rg 4 (aV ?_))|refine nZ ?_));refine cO (X:={x:Nat × List W // x.1≤L.length∧F x.1=x.2}) (fun x=>[(0,.ptr 0 0),(3,.pr (sX s) 0),(5,.sl 1 0 x.1.2.length 3),(6,.i (x.1.1:Int))]) (fun x=>[.cells (oD c L),.arr (fH x.1.2) 3]) (fun x=>L.length-x.1.1) ⟨(0,[]),bW _,hF0⟩ ⟨[0,2],rfl,(by repeat first|exact trivial|refine ⟨rfl,?_⟩),⟨.inr rfl,.inr rfl,trivial⟩,by decide,qQ _⟩ ?_
    rintro ⟨⟨i,O⟩,hi,hO⟩;dsimp only at hi hO ⊢;have hOl:=hFl i hi;have hOw:=hFw i;rw [hO] at hOl hOw;by_cases hlt:i<L.length
    · have hFs:=hFs i hlt;rw [hO] at hFs;have hwi:=hL _ (aH hlt);have hgk:=nN hlt;have hbo:=zV4 c L L[i] s hc hwi hr hids;have hbe:=RX (s:=s) hwi ha;have hpl:=hwi.1.pl;have hcl:=hwi.1.cl;generalize hx:sA c s (gP L[i] s.a.toNat,gC L[i] s.a.toNat)=x at *;have hne:rR c s L[i]=if ((x.2.2&&decide (s.k=0→L[i].2.1+x.2.1≤c.m))=true) then (L[i].1,L[i].2.1+x.2.1,L[i].2.2.set s.a.toNat x.1.2)::(if s.k=4 then [mT (L[i].1,L[i].2.1+x.2.1,L[i].2.2.set s.a.toNat x.1.2) s.a.toNat s.b.toNat] else []) else []:=by
        unfold rR;rw [hbe]
      generalize hO':F (i+1)=O' at *;generalize rR c s L[i]=nx at *;generalize hzc:L[i].2.2.set s.a.toNat x.1.2=zc at *;have hzl:zc.length=c.bs.length:=by rw [← hzc,fM];exact hcl
      generalize hzm:L[i].2.1+x.2.1=zm at *;generalize (x.2.2&&decide (s.k=0→zm≤c.m))=zb at *;clear hzc hzm hbe hwi hx;generalize L[i]=w at *;obtain ⟨wp,wm,wc⟩:=w;dsimp only at *;have hl1:(ints wp).length=wp.length:=aF _;have hl2:(cT zc).length=zc.length:=aF _
      (repeat' (first|refine wS ?_|refine wB ?_|refine wK ?_|(refine wC rfl ?_ ?_<;>(intro hb;(try simp only [nm] at hb);try (exfalso;omega)))|(refine rg 5 (dK rfl (nV ?_));refine gB T rfl (qW T rfl (vV (aI rfl rfl) ?_)))|(refine rW (id:=7) 12 14 114 (by (dsimp only [yI];done)) (by decide +kernel) [[],[],[1],[1,2],[1,2,3],[],rM 1 5,rM 1 6,[],rN 9,rN 10,rN 11,rN 11,[]] [29,30,31,32,33,34,35,36,37,38,28,39,40,7] [[],[29],[29],[29],[29],rM 29 5,[29],[29],rM 29 8,[],[],[],[39],[29,30,31,32,33,34,35,36,37,38,28,39,40]] cF rfl (by decide +kernel) (dN rfl (dN rfl (dV rfl (by exact cN rfl rfl) ?_)));refine dP T rfl (dO T rfl (dN rfl (dV rfl (ix T rfl (by omega) (jX _) hgk) (dO T rfl (dO T rfl (pX rfl rfl rfl (by exact fX rfl rfl hbo (.inl ⟨.cons (.ptr rfl (eO _ rfl)) (.cons (.agg (eO _ rfl)) (.cons (.agg (eO _ rfl)) .nil)),QL _ _⟩)) rfl ?_))))));refine dN rfl (dV rfl (by exact fU rfl rfl) ?_);refine dV rfl (by exact fU rfl rfl) ?_;refine pX rfl rfl rfl (by exact bI T rfl) rfl ?_;refine dE ?_;refine aL T rfl rfl rfl rfl rfl rfl (by decide) rfl (aV ?_))|refine nZ ?_));all_goals try (exfalso;omega)
      refine eI [(0,.ptr 0 0),(3,.pr (sX s) 0),(5,.sl 1 0 O.length 3),(6,.i (i:Int)),(7,.ptr 4 0),(8,.b zb)] [.cells (oD c L),.arr (fH O) 3,.arr (ints wp) 1,.arr (cT zc) 2,.cells [.sl 2 0 wp.length 1,.i zm,.sl 3 0 wc.length 2]] ⟨[0,1,2,3,4],rfl,(by repeat first|exact trivial|refine ⟨rfl,?_⟩),⟨.inr rfl,.inr (aD rfl rfl (gV _)),.inr (aD rfl (cJ _ (ints_idf _)) (ints_idf _)),.inr (aD rfl (cJ _ (cQ _)) (cQ _)),.inr rfl,trivial⟩,by decide,qQ _⟩ ?_
      refine iP 4 0 (es:=ints wp) rfl rfl rfl hl1.symm (fO (ints_idf _)) ?_;refine iP 4 2 (es:=cT zc) rfl rfl rfl (by omega) (fO (cQ _)) ?_
      refine dU 7 (cs:=[.rowE (ints wp) 1,.i zm,.rowE (cT zc) 2]) rfl rfl rfl ?_;refine eI [(0,.ptr 0 0),(3,.pr (sX s) 0),(5,.sl 1 0 O.length 3),(6,.i (i:Int)),(7,.pr [.rowE (ints wp) 1,.i zm,.rowE (cT zc) 2] 0),(8,.b zb)] [.cells (oD c L),.arr (fH O) 3] ⟨[0,1],rfl,(by repeat first|exact trivial|refine ⟨rfl,?_⟩),⟨.inr rfl,.inr (aD rfl rfl (gV _)),trivial⟩,by decide,qQ _⟩ ?_
      cases zb with
      | false=>
        rw [if_neg (by simp)] at hne
        subst hne;have hFs:O'=O:=hFs;subst hFs
        (repeat' (first|refine wE ?_|refine wT ?_|(refine rg 8 (mW rfl (vV (cY rfl) ?_)))|(refine iA 6 rfl rfl rfl (by omega) (by omega) ?_)|refine nZ ?_));all_goals try (exfalso;omega)
        exact ⟨⟨(i+1,O'),hlt,hO'⟩,by dsimp only;omega,⟨[0,1],rfl,(by repeat first|exact trivial|refine ⟨rfl,?_⟩),⟨.inr rfl,.inr (aD rfl rfl (gV _)),trivial⟩,by decide,qQ _⟩⟩
      | true=>
        rw [if_pos rfl] at hne;have hOb:∀ t,t∈O→t.1.length≤1000∧t.2.2.length≤1000:=fun t ht=>by have:=hOw t ht;omega
        have hw1:=JO O (wp,zm,zc) (by omega) hOb
        have hw2:=DQ O (wp,zm,zc) (by omega) hOb
        have hDl:=O3 O (wp,zm,zc);have hDw:=Z4 (x:=(wp,zm,zc)) hOw ⟨hpl,hzl⟩;generalize hD:kJ O (wp,zm,zc)=D at *;apply Go.Ab.cutT
        · intro rest;cases hh:zM5 O (wp,zm,zc) with
          | true=>
            have hw:=hw1 hh
            (repeat' (first|refine wS ?_|refine wK ?_|refine wU ?_|(refine rg 8 (mW rfl (vV (cY rfl) ?_)))|(refine rg 9 (mW rfl (lW T rfl (fP [1] rfl rfl (hw) rfl rfl (by decide) ⟨.inr (aD rfl rfl (gV _)),trivial⟩ (by simp) rfl ?_)));refine aV ?_)|refine nZ ?_));all_goals try (exfalso;omega)
            exact eI [(0,.ptr 0 0),(3,.pr (sX s) 0),(5,.sl 1 0 D.length 3),(6,.i (i:Int)),(7,.pr [.rowE (ints wp) 1,.i zm,.rowE (cT zc) 2] 0)] [.cells (oD c L),.arr (fH D) 3] ⟨[0,1],rfl,(by repeat first|exact trivial|refine ⟨rfl,?_⟩),⟨.inr rfl,.inr (aD rfl (cJ _ (gV _)) (gV _)),trivial⟩,by decide,qQ _⟩ rest.get
          | false=>
            have hw:=hw2 hh
            (repeat' (first|refine wS ?_|refine wK ?_|refine wU ?_|(refine rg 8 (mW rfl (vV (cY rfl) ?_)))|(refine rg 9 (mW rfl (lW T rfl (fP [1] rfl rfl (hw) rfl rfl (by decide) ⟨.inr (aD rfl rfl (gV _)),trivial⟩ (by simp) rfl ?_)));refine aV ?_)|refine nZ ?_));all_goals try (exfalso;omega)
            exact eI [(0,.ptr 0 0),(3,.pr (sX s) 0),(5,.sl 1 0 D.length 3),(6,.i (i:Int)),(7,.pr [.rowE (ints wp) 1,.i zm,.rowE (cT zc) 2] 0)] [.cells (oD c L),.arr (fH D) 3] ⟨[0,2],rfl,(by repeat first|exact trivial|refine ⟨rfl,?_⟩),⟨.inr rfl,.inr (aD rfl (cJ _ (gV _)) (gV _)),trivial⟩,by decide,qQ _⟩ rest.get
        · by_cases k4:s.k=4
          · rw [if_pos k4] at hne;have hb:=hbb k4;subst hne;have hFs:O'=kJ D (mT (wp,zm,zc) s.a.toNat s.b.toNat):=by rw [hFs,← hD];rfl
            have hDb:∀ t,t∈D→t.1.length≤1000∧t.2.2.length≤1000:=fun t ht=>by have:=hDw t ht;omega
            have hw1:=JO D (mT (wp,zm,zc) s.a.toNat s.b.toNat) (by omega) hDb
            have hw2:=DQ D (mT (wp,zm,zc) s.a.toNat s.b.toNat) (by omega) hDb
            rw [← hFs] at hw1 hw2;have hp0:ints wp≠[]:=fun q=>by rw [q] at hl1;simp only [List.length_nil] at hl1;omega
            have hc0:cT zc≠[]:=fun q=>by rw [q] at hl2;simp only [List.length_nil] at hl2;omega
            have qa:=ints_gI (l:=wp) (j:=s.a) (i:=s.a.toNat) 0 (by omega) (by omega)
            have qb:=ints_gI (l:=wp) (j:=s.b) (i:=s.b.toNat) 0 (by omega) (by omega)
            have ra:=lU (l:=zc) (j:=s.a) (i:=s.a.toNat) (by omega) (by omega)
            have rb:=lU (l:=zc) (j:=s.b) (i:=s.b.toNat) (by omega) (by omega)
            have oa:(ints wp)[0+s.a.toNat]? = some [AV.i (wp.getD s.a.toNat 0)]:=by rw [Nat.zero_add];exact qa
            have ob:(ints (wp.set s.a.toNat (wp.getD s.b.toNat 0)))[0+s.b.toNat]? = some [AV.i (wp.getD s.b.toNat 0)]:=by
              rw [Nat.zero_add];have:=ints_gI (l:=wp.set s.a.toNat (wp.getD s.b.toNat 0)) (j:=s.b) (i:=s.b.toNat) 0 (by rw [fM];omega) (by omega)
              rwa [show (wp.set s.a.toNat (wp.getD s.b.toNat 0)).getD s.b.toNat 0=wp.getD s.b.toNat 0 by rw [xN (by omega),if_neg (by omega)]] at this
            have sa:=Y0 (l:=wp) (j:=s.a) (x:=wp.getD s.b.toNat 0) (i:=s.a.toNat) (by omega)
            have sb:=Y0 (l:=wp.set s.a.toNat (wp.getD s.b.toNat 0)) (j:=s.b) (x:=wp.getD s.a.toNat 0) (i:=s.b.toNat) (by omega)
            have ta:(cT zc)[0+s.a.toNat]? = some [AV.i (zc.getD s.a.toNat (0,0)).1,AV.i (zc.getD s.a.toNat (0,0)).2]:=by rw [Nat.zero_add];exact ra
            have tb:(cT (zc.set s.a.toNat (zc.getD s.b.toNat (0,0))))[0+s.b.toNat]? = some [AV.i (zc.getD s.b.toNat (0,0)).1,AV.i (zc.getD s.b.toNat (0,0)).2]:=by
              have:=zM (l:=zc.set s.a.toNat (zc.getD s.b.toNat (0,0))) (j:=s.b) (i:=s.b.toNat) (by rw [fM];omega) (by omega)
              rwa [show (zc.set s.a.toNat (zc.getD s.b.toNat (0,0))).getD s.b.toNat (0,0)=zc.getD s.b.toNat (0,0) by rw [fR (by omega),if_neg (by omega)]] at this
            have ua:=vO (l:=zc) (j:=s.a) (i:=s.a.toNat) (r:=zc.getD s.b.toNat (0,0)) (by omega)
            have ub:=vO (l:=zc.set s.a.toNat (zc.getD s.b.toNat (0,0))) (j:=s.b) (i:=s.b.toNat) (r:=zc.getD s.a.toNat (0,0)) (by omega)
            have hex:mT (wp,zm,zc) s.a.toNat s.b.toNat=((wp.set s.a.toNat (wp.getD s.b.toNat 0)).set s.b.toNat (wp.getD s.a.toNat 0),zm,(zc.set s.a.toNat (zc.getD s.b.toNat (0,0))).set s.b.toNat (zc.getD s.a.toNat (0,0))):=rfl;rw [hex] at hw1 hw2;have hxl:((wp.set s.a.toNat (wp.getD s.b.toNat 0)).set s.b.toNat (wp.getD s.a.toNat 0)).length=wp.length:=by simp
            have hyl:((zc.set s.a.toNat (zc.getD s.b.toNat (0,0))).set s.b.toNat (zc.getD s.a.toNat (0,0))).length=wc.length:=by simp;omega
            generalize (wp.set s.a.toNat (wp.getD s.b.toNat 0)).set s.b.toNat (wp.getD s.a.toNat 0)=P2 at *;generalize wp.set s.a.toNat (wp.getD s.b.toNat 0)=P1 at *;generalize (zc.set s.a.toNat (zc.getD s.b.toNat (0,0))).set s.b.toNat (zc.getD s.a.toNat (0,0))=C2 at *;generalize zc.set s.a.toNat (zc.getD s.b.toNat (0,0))=C1 at *;generalize wp.getD s.a.toNat 0=pa at *;generalize wp.getD s.b.toNat 0=pb at *;generalize zc.getD s.a.toNat (0,0)=ca at *;generalize zc.getD s.b.toNat (0,0)=cb at *;obtain ⟨ca1,ca2⟩:=ca;obtain ⟨cb1,cb2⟩:=cb;dsimp only at ra rb ta tb ua ub
            (repeat' (first|refine wS ?_|refine wT ?_|(refine rg 10 (gB T rfl (vV (gX rfl rfl k4) ?_)))|(refine bQ (id:=11) 114 yQ6 [49,50,51,52,53,54,55,56,57,58,59,9] [[],[49],[49],[],rM 49 4,rM 49 4,rM 49 6,rM 49 7,rM 49 7,[53,54],[],rM 49 11] cF rfl (by decide +kernel) (pX rfl rfl rfl (by exact uR T rfl rfl (by decide) (by decide) rfl rfl rfl) rfl ?_);refine dP T rfl (dO T rfl (pX rfl rfl rfl (by exact rF T rfl rfl rfl rfl rfl (by decide) rfl hp0 (kP.row (ints_len _)) (by dsimp only;omega) (by omega)) rfl ?_));refine dP T rfl (dO T rfl (pX rfl rfl rfl (by exact uR T rfl rfl (by decide) (by decide) rfl rfl rfl) rfl ?_));refine dP T rfl (dO T rfl (pX rfl rfl rfl (by exact rF T rfl rfl rfl rfl rfl (by decide) rfl hc0 (kP.row (pB _)) (by dsimp only;omega) (by omega)) rfl ?_));refine dV rfl (by exact dY T rfl rfl rfl rfl) ?_;refine pX rfl rfl rfl (by exact bI T rfl) rfl ?_;refine dE ?_;refine aL T rfl rfl rfl rfl rfl rfl (by decide) rfl ?_)|refine nZ ?_));all_goals try (exfalso;omega)
            refine eI [(0,.ptr 0 0),(3,.pr (sX s) 0),(5,.sl 1 0 D.length 3),(6,.i (i:Int)),(7,.pr [.rowE (ints wp) 1,.i zm,.rowE (cT zc) 2] 0),(9,.ptr 2 0)] [.cells (oD c L),.arr (fH D) 3,.cells [.sl 3 0 wp.length 1,.i zm,.sl 4 0 wc.length 2],.arr (ints wp) 1,.arr (cT zc) 2] ⟨[0,1,6,3,5],rfl,(by repeat first|exact trivial|refine ⟨rfl,?_⟩),⟨.inr rfl,.inr (aD rfl rfl (gV _)),.inr (by show some (AB.cells [.sl 3 0 (0+(ints wp).length) 1,.i zm,.sl 5 0 (0+(cT zc).length) 2])=_;rw [Nat.zero_add,Nat.zero_add,hl1,hl2,hzl,← hcl];rfl),.inr (aD rfl rfl (ints_idf _)),.inr (aD rfl rfl (cQ _)),trivial⟩,by decide,qQ _⟩ ?_
            (repeat' (first|refine wS ?_|(refine bQ (id:=12) 114 yR2 (rM 60 10) [[],[],[60,61],[60,61],rM 60 4,rM 60 4,rM 60 6,rM 60 6,rM 60 4,rM 60 4] cF rfl (by decide +kernel) (dP T rfl (dO T rfl (dP T rfl (dO T rfl (dP T rfl (dO T rfl (dP T rfl (dO T rfl (dV rfl (ix T rfl (by omega) (ints_len _) qb) ?_)))))))));refine dO T rfl (dE ?_);refine vV (by exact aK T rfl rfl rfl rfl rfl (by omega) (by omega)) ?_;refine aL T rfl rfl rfl rfl rfl rfl (by decide) (iJ rfl oa rfl) ?_)|refine nZ ?_));all_goals try (exfalso;omega)
            refine eI [(0,.ptr 0 0),(3,.pr (sX s) 0),(5,.sl 1 0 D.length 3),(6,.i (i:Int)),(7,.pr [.rowE (ints wp) 1,.i zm,.rowE (cT zc) 2] 0),(9,.ptr 2 0)] [.cells (oD c L),.arr (fH D) 3,.cells [.sl 3 0 wp.length 1,.i zm,.sl 4 0 wc.length 2],.arr (ints P1) 1,.arr (cT zc) 2] ⟨[0,1,2,3,4],rfl,(by repeat first|exact trivial|refine ⟨rfl,?_⟩),⟨.inr rfl,.inr (aD rfl rfl (gV _)),.inr rfl,.inr (aD rfl sa (ints_idf _)),.inr (aD rfl rfl (cQ _)),trivial⟩,by decide,qQ _⟩ ?_
            (repeat' (first|refine wS ?_|(refine bQ (id:=13) 114 yR2 (rM 71 10) [[],[],[71,72],[71,72],rM 71 4,rM 71 4,rM 71 6,rM 71 6,rM 71 4,rM 71 4] cF rfl (by decide +kernel) (dP T rfl (dO T rfl (dP T rfl (dO T rfl (dP T rfl (dO T rfl (dP T rfl (dO T rfl (dV rfl (ix T rfl (by omega) (ints_len _) qa) ?_)))))))));refine dO T rfl (dE ?_);refine vV (by exact aK T rfl rfl rfl rfl rfl (by omega) (by omega)) ?_;refine aL T rfl rfl rfl rfl rfl rfl (by decide) (iJ rfl ob rfl) ?_)|refine nZ ?_));all_goals try (exfalso;omega)
            refine eI [(0,.ptr 0 0),(3,.pr (sX s) 0),(5,.sl 1 0 D.length 3),(6,.i (i:Int)),(7,.pr [.rowE (ints wp) 1,.i zm,.rowE (cT zc) 2] 0),(9,.ptr 2 0)] [.cells (oD c L),.arr (fH D) 3,.cells [.sl 3 0 wp.length 1,.i zm,.sl 4 0 wc.length 2],.arr (ints P2) 1,.arr (cT zc) 2] ⟨[0,1,2,3,4],rfl,(by repeat first|exact trivial|refine ⟨rfl,?_⟩),⟨.inr rfl,.inr (aD rfl rfl (gV _)),.inr rfl,.inr (aD rfl sb (ints_idf _)),.inr (aD rfl rfl (cQ _)),trivial⟩,by decide,qQ _⟩ ?_
            (repeat' (first|refine wS ?_|(refine bQ (id:=14) 114 yR2 (rM 82 10) [[],[],[82,83],[82,83],rM 82 4,rM 82 4,rM 82 6,rM 82 6,rM 82 4,rM 82 4] cF rfl (by decide +kernel) (dP T rfl (dO T rfl (dP T rfl (dO T rfl (dP T rfl (dO T rfl (dP T rfl (dO T rfl (dV rfl (ix T rfl (by omega) (pB _) rb) ?_)))))))));refine dO T rfl (dE ?_);refine vV (by exact aK T rfl rfl rfl rfl rfl (by omega) (by omega)) ?_;refine aL T rfl rfl rfl rfl rfl rfl (by decide) (iJ rfl ta rfl) ?_)|refine nZ ?_));all_goals try (exfalso;omega)
            refine eI [(0,.ptr 0 0),(3,.pr (sX s) 0),(5,.sl 1 0 D.length 3),(6,.i (i:Int)),(7,.pr [.rowE (ints wp) 1,.i zm,.rowE (cT zc) 2] 0),(9,.ptr 2 0)] [.cells (oD c L),.arr (fH D) 3,.cells [.sl 3 0 wp.length 1,.i zm,.sl 4 0 wc.length 2],.arr (ints P2) 1,.arr (cT C1) 2] ⟨[0,1,2,3,4],rfl,(by repeat first|exact trivial|refine ⟨rfl,?_⟩),⟨.inr rfl,.inr (aD rfl rfl (gV _)),.inr rfl,.inr (aD rfl rfl (ints_idf _)),.inr (aD rfl ua (cQ _)),trivial⟩,by decide,qQ _⟩ ?_
            (repeat' (first|(refine bQ (id:=15) 114 yR2 (rM 93 10) [[],[],[93,94],[93,94],rM 93 4,rM 93 4,rM 93 6,rM 93 6,rM 93 4,rM 93 4] cF rfl (by decide +kernel) (dP T rfl (dO T rfl (dP T rfl (dO T rfl (dP T rfl (dO T rfl (dP T rfl (dO T rfl (dV rfl (ix T rfl (by omega) (pB _) ra) ?_)))))))));refine dO T rfl (dE ?_);refine vV (by exact aK T rfl rfl rfl rfl rfl (by omega) (by omega)) ?_;refine aL T rfl rfl rfl rfl rfl rfl (by decide) (iJ rfl tb rfl) ?_)|refine nZ ?_));all_goals try (exfalso;omega)
            refine eI [(0,.ptr 0 0),(3,.pr (sX s) 0),(5,.sl 1 0 D.length 3),(6,.i (i:Int)),(7,.pr [.rowE (ints wp) 1,.i zm,.rowE (cT zc) 2] 0),(9,.ptr 2 0)] [.cells (oD c L),.arr (fH D) 3,.cells [.sl 3 0 wp.length 1,.i zm,.sl 4 0 wc.length 2],.arr (ints P2) 1,.arr (cT C2) 2] ⟨[0,1,2,3,4],rfl,(by repeat first|exact trivial|refine ⟨rfl,?_⟩),⟨.inr rfl,.inr (aD rfl rfl (gV _)),.inr rfl,.inr (aD rfl rfl (ints_idf _)),.inr (aD rfl ub (cQ _)),trivial⟩,by decide,qQ _⟩ ?_
            have hl3:(ints P2).length=P2.length:=aF _;have hl4:(cT C2).length=C2.length:=aF _;refine iP 2 0 (es:=ints P2) rfl rfl rfl (by omega) (fO (ints_idf _)) ?_
            refine iP 2 2 (es:=cT C2) rfl rfl rfl (by omega) (fO (cQ _)) ?_
            refine dU 9 (cs:=[.rowE (ints P2) 1,.i zm,.rowE (cT C2) 2]) rfl rfl rfl ?_;refine eI [(0,.ptr 0 0),(3,.pr (sX s) 0),(5,.sl 1 0 D.length 3),(6,.i (i:Int)),(9,.pr [.rowE (ints P2) 1,.i zm,.rowE (cT C2) 2] 0)] [.cells (oD c L),.arr (fH D) 3] ⟨[0,1],rfl,(by repeat first|exact trivial|refine ⟨rfl,?_⟩),⟨.inr rfl,.inr (aD rfl rfl (gV _)),trivial⟩,by decide,qQ _⟩ ?_
            cases hh:zM5 D (P2,zm,C2) with
            | true=>
              have hw:=hw1 hh
              (repeat' (first|(refine rg 16 (mW rfl (lW T rfl (fP [1] rfl rfl (hw) rfl rfl (by decide) ⟨.inr (aD rfl rfl (gV _)),trivial⟩ (by simp) rfl ?_)));refine aV ?_)|(refine iA 6 rfl rfl rfl (by omega) (by omega) ?_)|refine nZ ?_));all_goals try (exfalso;omega)
              exact ⟨⟨(i+1,O'),hlt,hO'⟩,by dsimp only;omega,⟨[0,1],rfl,(by repeat first|exact trivial|refine ⟨rfl,?_⟩),⟨.inr rfl,.inr (aD rfl (cJ _ (gV _)) (gV _)),trivial⟩,by decide,qQ _⟩⟩
            | false=>
              have hw:=hw2 hh
              (repeat' (first|(refine rg 16 (mW rfl (lW T rfl (fP [1] rfl rfl (hw) rfl rfl (by decide) ⟨.inr (aD rfl rfl (gV _)),trivial⟩ (by simp) rfl ?_)));refine aV ?_)|(refine iA 6 rfl rfl rfl (by omega) (by omega) ?_)|refine nZ ?_));all_goals try (exfalso;omega)
              exact ⟨⟨(i+1,O'),hlt,hO'⟩,by dsimp only;omega,⟨[0,2],rfl,(by repeat first|exact trivial|refine ⟨rfl,?_⟩),⟨.inr rfl,.inr (aD rfl (cJ _ (gV _)) (gV _)),trivial⟩,by decide,qQ _⟩⟩
          · rw [if_neg k4] at hne;subst hne;have hFs:O'=D:=by rw [hFs,← hD];rfl
            subst hFs
            (repeat' (first|refine wK ?_|refine wU ?_|(refine rg 10 (gB T rfl (vV (dQ rfl rfl k4) ?_)))|(refine iA 6 rfl rfl rfl (by omega) (by omega) ?_)|refine nZ ?_));all_goals try (exfalso;omega)
            exact ⟨⟨(i+1,O'),hlt,hO'⟩,by dsimp only;omega,⟨[0,1],rfl,(by repeat first|exact trivial|refine ⟨rfl,?_⟩),⟨.inr rfl,.inr (aD rfl rfl (gV _)),trivial⟩,by decide,qQ _⟩⟩
    · obtain rfl:i=L.length:=by omega
      have hOA:W3 c s L=O:=by rw [← hO,hFe]
      rw [hOA];have hOll:(fH O).length=O.length:=pE O;refine eI [(0,.ptr 0 0),(3,.pr (sX s) 0),(5,.sl 1 0 O.length 3),(6,.i (L.length:Int))] [.cells (oD c L),.arr (fH O) 3] ⟨[0,1],rfl,(by repeat first|exact trivial|refine ⟨rfl,?_⟩),⟨.inr rfl,.inr (aD rfl rfl (gV _)),trivial⟩,by decide,qQ _⟩ ?_
      refine I4 5 (es:=fH O) rfl rfl hOll.symm (fO (gV _)) ?_;by_cases h0:O=[]
      · subst h0;rw [if_pos rfl]
        (repeat' (first|refine wS ?_|refine wR ?_|refine wE ?_|refine wT ?_|(refine wC rfl ?_ ?_<;>(intro hb;(try simp only [nm] at hb);try (exfalso;omega)))|(refine rg 5 (dK rfl (nV ?_));refine gB T rfl (qW T rfl (vV (aI rfl rfl) ?_)))|(refine rg 17 (mW rfl (qW T rfl (vV (eQ rfl rfl) ?_))))|(refine rg 18 (aV ?_))|refine nZ ?_));all_goals try (exfalso;omega)
        exact ⟨.inl rfl,[0],_,rfl,rfl,rfl,⟨.inr rfl,trivial⟩,by decide,qQ _⟩
      · rw [if_neg h0];have hpos:0<O.length:=eF.2 h0
        (repeat' (first|refine wS ?_|refine wK ?_|refine wR ?_|refine wE ?_|(refine wC rfl ?_ ?_<;>(intro hb;(try simp only [nm] at hb);try (exfalso;omega)))|(refine rg 5 (dK rfl (nV ?_));refine gB T rfl (qW T rfl (vV (aI rfl rfl) ?_)))|(refine rg 17 (mW rfl (qW T rfl (vV (eQ rfl rfl) ?_))))|(refine rg 19 (dK rfl (nV ?_));refine fW T rfl (aL T rfl rfl rfl rfl rfl rfl (by decide) rfl ?_))|(refine rg 20 (aV ?_))|refine nZ ?_));all_goals try (exfalso;omega)
        exact ⟨.inl rfl,[0],_,rfl,rfl,rfl,⟨.inr rfl,trivial⟩,by decide,qQ _⟩
end Go.Proofs.YtmmkhmilpeodnaaGreat
namespace Go.Ld
open Go.Ab Go.Proofs.YtmmkhmilpeodnaaGreat
def GM (c:Cx) (b:Int):Prop:=0≤b∧b<c.bs.length
instance (c:Cx) (b:Int):Decidable (GM c b):=by unfold GM;infer_instance
def mY (c:Cx) (L:List W) (b:Int):List Int:=if GM c b then KB c L b.toNat else []
def vR (c:Cx) (L:List W) (b:Int):SP:=if GM c b then xC (rG c L) b.toNat else (0,0)
def NR (L:List W) (b k:Nat):List Int:=(nats (List.range k)).filter fun x=>L.any fun w=>decide (gP w b=x)
theorem TK (L:List W) (b k:Nat):NR L b (k+1)=NR L b k++(if (L.any fun w=>decide (gP w b=(k:Int)))=true then [(k:Int)] else []):=by
  unfold NR;rw [F4,show nats (List.range k++[k])=nats (List.range k)++[(k:Int)] from dW,List.filter_append]
  congr 1;rw [zR6,List.filter_nil]
theorem KC (L:List W) (b k:Nat):(NR L b k).length≤k:=by
  unfold NR;refine bP (qM _ _) ?_;simp
theorem KE (c:Cx) (L:List W) (b:Int):(mY c L b).length≤c.bs.length:=by
  unfold mY;split
  · exact KC L b.toNat c.bs.length
  · exact bW _
theorem YA {c:Cx}{L:List W}{b x:Int}(h:x∈mY c L b):0≤x∧x<c.bs.length:=by
  unfold mY at h;split at h
  · exact jE.1 (iQ.1 h).1
  · cases h
end Go.Ld
namespace Go.Proofs.YtmmkhmilpeodnaaGreat
open Go Go.Ab Go.Ld
attribute [local irreducible] VC AW bX aT jU jB
set_option maxHeartbeats 4000000
theorem QF (c:Cx) (L:List W) (b:Int) (hn:c.bs.length≤1000) (hL:L.length≤1000) (hw:∀ w,w∈L→w.1.length=c.bs.length) :
    aT Tryz.prog 17 [.pr (oD c L) 0,.i b] [] (.sl 0 0 (mY c L b).length 1) [.arr (ints (mY c L b)) 1]:=by
  have hbl:(eB c.bs).length=c.bs.length:=aF _;have hLl:(fH L).length=L.length:=pE L;unfold mY;refine bK T Tryz.func17 rfl rfl rfl rfl ?_
  repeat' (first|refine wS ?_|(refine rg 0 (aV ?_))|refine nZ ?_)
  repeat' (first|refine wS ?_|(refine rg 1 (vV (eL rfl) (sF 5 1 rfl (by decide) ?_)))|refine nZ ?_)
  (repeat' (first|refine wB ?_|(refine rg 2 (aV ?_))|refine nZ ?_));by_cases hin:GM c b
  · rw [if_pos hin];have hin':=hin;unfold GM at hin';refine cO (X:={x:Nat × List Int // x.1≤c.bs.length∧NR L b.toNat x.1=x.2}) (fun x=>[(0,.pr (oD c L) 0),(1,.i b),(5,.sl 0 0 x.1.2.length 1),(6,.i (x.1.1:Int))]) (fun x=>[.arr (ints x.1.2) 1]) (fun x=>c.bs.length-x.1.1) ⟨(0,[]),bW _,rfl⟩ ⟨[0],rfl,(by repeat first|exact trivial|refine ⟨rfl,?_⟩),⟨.inr rfl,trivial⟩,by decide,jJ _⟩ ?_
    rintro ⟨⟨k,A⟩,hk,hA⟩;dsimp only at hk hA ⊢;have hAl:=KC L b.toNat k;rw [hA] at hAl;have hal:(ints A).length=A.length:=aF _;by_cases hlt:k<c.bs.length
    · have hs:=TK L b.toNat k;rw [hA] at hs;have hsn:=D7 A (k:Int);generalize hA':NR L b.toNat (k+1)=A' at *
      (repeat' (first|refine wS ?_|refine wB ?_|refine wK ?_|(refine wC rfl ?_ ?_<;>(intro hb;(try simp only [nm] at hb);try (exfalso;omega)))|(refine rg 3 (dK rfl (nV ?_));refine fW T rfl (gB T rfl (qW T rfl (vV (aI rfl rfl) (mV ?_))));refine bC rfl rfl ?_ ?_<;>(intro hb;rw [hb];(try simp only [nm] at hb);try (exfalso;omega));(all_goals (refine yN rfl (yV (gH rfl rfl) (pW rfl (mV ?_)));refine bC rfl rfl ?_ ?_<;>(intro hb;rw [hb];(try simp only [nm] at hb);try (exfalso;omega))));(all_goals (refine yN rfl (yN rfl (gT (nV ?_)));refine yP T rfl (yP T rfl (yO T rfl (gT (qW T rfl (yV (aI rfl rfl) (pV ?_)))))))))|(refine rg 5 (aV ?_))|(refine rg 6 (aV ?_))|refine nZ ?_));all_goals try (exfalso;omega)
      refine cO (X:={x:Nat × Bool // x.1≤L.length∧((L.take x.1).any fun w=>decide (gP w b.toNat=(k:Int)))=x.2}) (fun x=>[(0,.pr (oD c L) 0),(1,.i b),(5,.sl 0 0 A.length 1),(6,.i (k:Int)),(7,.b x.1.2),(8,.i (x.1.1:Int))]) (fun _=>[.arr (ints A) 1]) (fun x=>L.length-x.1.1) ⟨(0,false),bW _,rfl⟩ ⟨[0],rfl,(by repeat first|exact trivial|refine ⟨rfl,?_⟩),⟨.inr (aD rfl rfl (ints_idf _)),trivial⟩,by decide,jJ _⟩ ?_
      rintro ⟨⟨i,v⟩,hi,hv⟩;dsimp only at hi hv ⊢;by_cases hlti:i<L.length
      · have hgk:=nN hlti;have hwl:=hw _ (aH hlti);have hv2:((L.take (i+1)).any fun w=>decide (gP w b.toNat=(k:Int)))=(v||decide (gP L[i] b.toNat=(k:Int))):=by
          rw [aP hlti,List.any_append,hv];simp
        have q1:(ints L[i].1)[b.toNat]? = some [AV.i (gP L[i] b.toNat)]:=ints_gI (l:=L[i].1) (j:=b) (i:=b.toNat) 0 (by omega) (by omega)
        generalize gP L[i] b.toNat=x at *;generalize L[i]=w at *;obtain ⟨wp,wm,wc⟩:=w;dsimp only at *;have hpl:(ints wp).length=wp.length:=aF _;cases v with
        | true=>
          (repeat' (first|refine wS ?_|refine wB ?_|refine wK ?_|(refine wC rfl ?_ ?_<;>(intro hb;(try simp only [nm] at hb);try (exfalso;omega)))|(refine rg 7 (dK rfl (nV ?_));refine gB T rfl (qW T rfl (vV (aI rfl rfl) ?_)))|(refine rg 9 (yG2 ?_);(iterate 13 refine gF ?_);refine pW rfl (aV ?_))|(refine iA 8 rfl rfl rfl (by omega) (by omega) ?_)|refine nZ ?_));all_goals try (exfalso;omega)
          exact ⟨⟨(i+1,true),hlti,hv2⟩,by dsimp only;omega,⟨[0],rfl,(by repeat first|exact trivial|refine ⟨rfl,?_⟩),⟨.inr (aD rfl rfl (ints_idf _)),trivial⟩,by decide,jJ _⟩⟩
        | false=>
          rw [SJ] at hv2;by_cases e:x=(k:Int)
          · rw [decide_eq_true e] at hv2
            (repeat' (first|refine wS ?_|refine wB ?_|refine wK ?_|(refine wC rfl ?_ ?_<;>(intro hb;(try simp only [nm] at hb);try (exfalso;omega)))|(refine rg 7 (dK rfl (nV ?_));refine gB T rfl (qW T rfl (vV (aI rfl rfl) ?_)))|(refine rg 9 (dK rfl (yN rfl (gT (nV ?_))));refine yP T rfl (yO T rfl (yN rfl (yV (ix T rfl (by omega) (jX _) hgk) (yP T rfl (yO T rfl (yN rfl (yV (ix T rfl (by omega) (ints_len _) q1) (yO T rfl (yM ?_)))))))));refine yV (gX rfl rfl e) (pW rfl (aV ?_)))|(refine iA 8 rfl rfl rfl (by omega) (by omega) ?_)|refine nZ ?_));all_goals try (exfalso;omega)
            exact ⟨⟨(i+1,true),hlti,hv2⟩,by dsimp only;omega,⟨[0],rfl,(by repeat first|exact trivial|refine ⟨rfl,?_⟩),⟨.inr (aD rfl rfl (ints_idf _)),trivial⟩,by decide,jJ _⟩⟩
          · rw [decide_eq_false e] at hv2
            (repeat' (first|refine wS ?_|refine wB ?_|refine wK ?_|(refine wC rfl ?_ ?_<;>(intro hb;(try simp only [nm] at hb);try (exfalso;omega)))|(refine rg 7 (dK rfl (nV ?_));refine gB T rfl (qW T rfl (vV (aI rfl rfl) ?_)))|(refine rg 9 (dK rfl (yN rfl (gT (nV ?_))));refine yP T rfl (yO T rfl (yN rfl (yV (ix T rfl (by omega) (jX _) hgk) (yP T rfl (yO T rfl (yN rfl (yV (ix T rfl (by omega) (ints_len _) q1) (yO T rfl (yM ?_)))))))));refine yV (dQ rfl rfl e) (pW rfl (aV ?_)))|(refine iA 8 rfl rfl rfl (by omega) (by omega) ?_)|refine nZ ?_));all_goals try (exfalso;omega)
            exact ⟨⟨(i+1,false),hlti,hv2⟩,by dsimp only;omega,⟨[0],rfl,(by repeat first|exact trivial|refine ⟨rfl,?_⟩),⟨.inr (aD rfl rfl (ints_idf _)),trivial⟩,by decide,jJ _⟩⟩
      · obtain rfl:i=L.length:=by omega
        rw [dI] at hv;rw [hv] at hs;cases v with
        | true=>
          rw [if_pos rfl] at hs;rw [hs] at hA';have hsl:(A++[(k:Int)]).length=A.length+1:=by simp
          (repeat' (first|refine wS ?_|refine wE ?_|refine wT ?_|(refine wC rfl ?_ ?_<;>(intro hb;(try simp only [nm] at hb);try (exfalso;omega)))|(refine rg 7 (dK rfl (nV ?_));refine gB T rfl (qW T rfl (vV (aI rfl rfl) ?_)))|(refine rg 10 (mV ?_))|(refine rg 11 (dK rfl (bN (by exact bD T rfl rfl (by decide) (by decide) rfl rfl rfl) rfl ?_));refine fY T rfl rfl rfl rfl rfl rfl (by omega) (kP.whole rfl rfl) rfl (by simp;omega) (by simp;omega) rfl ?_;refine aV ?_)|(refine iA 4 rfl rfl rfl (by omega) (by omega) ?_)|refine nZ ?_));all_goals try (exfalso;omega)
          exact ⟨⟨(k+1,A++[(k:Int)]),hlt,hA'⟩,by dsimp only;omega,⟨[2],rfl,⟨rfl,rfl,by dsimp only;rw [hsl];rfl,rfl,trivial⟩,⟨.inr (aD rfl ((mI hal.symm).trans hsn) (ints_idf _)),trivial⟩,by decide,jJ _⟩⟩
        | false=>
          rw [if_neg (by simp),List.append_nil] at hs
          rw [hs] at hA'
          (repeat' (first|refine wS ?_|refine wK ?_|refine wE ?_|refine wU ?_|(refine wC rfl ?_ ?_<;>(intro hb;(try simp only [nm] at hb);try (exfalso;omega)))|(refine rg 7 (dK rfl (nV ?_));refine gB T rfl (qW T rfl (vV (aI rfl rfl) ?_)))|(refine rg 10 (mV ?_))|(refine iA 4 rfl rfl rfl (by omega) (by omega) ?_)|refine nZ ?_));all_goals try (exfalso;omega)
          exact ⟨⟨(k+1,A),hlt,hA'⟩,by dsimp only;omega,⟨[0],rfl,(by repeat first|exact trivial|refine ⟨rfl,?_⟩),⟨.inr (aD rfl rfl (ints_idf _)),trivial⟩,by decide,jJ _⟩⟩
    · obtain rfl:k=c.bs.length:=by omega
      have hAe:KB c L b.toNat=A:=hA;rw [hAe]
      (repeat' (first|refine wS ?_|refine wR ?_|refine wE ?_|refine wU ?_|(refine rg 3 (dK rfl (nV ?_));refine fW T rfl (gB T rfl (qW T rfl (vV (aI rfl rfl) (mV ?_))));refine bC rfl rfl ?_ ?_<;>(intro hb;rw [hb];(try simp only [nm] at hb);try (exfalso;omega));(all_goals ((iterate 2 refine gF ?_);refine pW rfl (mV ?_);(iterate 8 refine gF ?_);refine pV ?_)))|(refine rg 12 (mW rfl (aV ?_)))|refine nZ ?_));all_goals try (exfalso;omega)
      all_goals exact ⟨.inl rfl,[0],_,rfl,rfl,rfl,⟨.inr (aD rfl rfl (ints_idf _)),trivial⟩,by decide,jJ _⟩
  · rw [if_neg hin];unfold GM at hin;refine cO (X:=Unit) (fun _=>[(0,.pr (oD c L) 0),(1,.i b),(5,.sl 0 0 0 1),(6,.i 0)]) (fun _=>[.arr [] 1]) (fun _=>0) () ⟨[0],rfl,(by repeat first|exact trivial|refine ⟨rfl,?_⟩),⟨.inr rfl,trivial⟩,by decide,jJ _⟩ ?_
    rintro ⟨⟩
    (repeat' (first|refine wS ?_|refine wR ?_|refine wE ?_|refine wU ?_|(refine wC rfl ?_ ?_<;>(intro hb;(try simp only [nm] at hb);try (exfalso;omega)))|(refine rg 3 (dK rfl (nV ?_));refine fW T rfl (gB T rfl (qW T rfl (vV (aI rfl rfl) (mV ?_))));refine bC rfl rfl ?_ ?_<;>(intro hb;rw [hb];(try simp only [nm] at hb);try (exfalso;omega));(all_goals first|(refine gT (mW rfl (gT (vV (gH rfl rfl) ?_))))|(iterate 2 refine gF ?_));(all_goals (refine pW rfl (mV ?_)));(all_goals first|(refine gK ?_)|(refine bC rfl rfl ?_ ?_<;>(intro hb;rw [hb];(try simp only [nm] at hb);try (exfalso;omega))));(all_goals first|(refine gT (mW rfl (gT (mW rfl (gT (nV ?_)))));refine gT (fW T rfl (gT (fW T rfl (gT (lW T rfl (gT (qW T rfl (gT (vV (aI rfl rfl) ?_))))))))))|(iterate 8 refine gF ?_));(all_goals (refine pV ?_)))|(refine rg 12 (mW rfl (aV ?_)))|refine nZ ?_));all_goals try (exfalso;omega)
    all_goals exact ⟨.inl rfl,[0],_,rfl,rfl,rfl,⟨.inr rfl,trivial⟩,by decide,jJ _⟩
theorem QG (c:Cx) (L:List W) (b:Int) (hn:c.bs.length≤1000) (hL:L.length≤1000) (hw:∀ w,w∈L→w.1.length=c.bs.length) :
    aT Tryz.prog 17 [.pr (oD c L) 0,.i b] [] (.rowE (ints (mY c L b)) 1) []:=
  oJ (by simp) (fO (ints_idf _)) (QF c L b hn hL hw)
theorem XF (c:Cx) (L:List W) (b:Int) (hn:c.bs.length≤1000) (hL:L.length≤1000) (hw:∀ w,w∈L→w.1.length=c.bs.length) :
    aT Tryz.prog 14 [.pr (oD c L) 0,.i b] [] (.tup [.i (zG6 (mY c L b)).1,.b (zG6 (mY c L b)).2]) []:=by
  have hp:=QG c L b hn hL hw;generalize mY c L b=P at *;have hpl:(ints P).length=P.length:=aF _;unfold zG6;by_cases h1:P.length=1
  · rw [if_pos h1];have q:=ints_gI (l:=P) (j:=0) (i:=0) 0 (by omega) rfl
    generalize P.getD 0 0=x at *;refine bK T Tryz.func14 rfl rfl rfl rfl ?_
    (repeat' (first|refine wS ?_|refine wK ?_|refine wR ?_|(refine wC rfl ?_ ?_<;>(intro hb;(try simp only [nm] at hb);try (exfalso;omega)))|(refine rg 0 (oM ?_))|(refine rg 1 (dK rfl (vV (kC (hp)) (aV ?_))))|(refine rg 2 (mW rfl (qW T rfl (vV (eX rfl rfl) ?_))))|(refine rg 4 (mW rfl (vV (ix T rfl (by omega) (ints_len _) q) (lW T rfl (oM ?_)))))|refine nZ ?_));all_goals first | (exfalso;omega) | exact rQ
  · rw [if_neg h1];refine bK T Tryz.func14 rfl rfl rfl rfl ?_
    (repeat' (first|refine wS ?_|refine wR ?_|(refine wC rfl ?_ ?_<;>(intro hb;(try simp only [nm] at hb);try (exfalso;omega)))|(refine rg 0 (oM ?_))|(refine rg 1 (dK rfl (vV (kC (hp)) (aV ?_))))|(refine rg 2 (mW rfl (qW T rfl (vV (eX rfl rfl) ?_))))|(refine rg 3 (oM ?_))|refine nZ ?_));all_goals first | (exfalso;omega) | exact rQ
theorem JP (c:Cx) (L:List W) (b:Int) (hn:c.bs.length≤1000) (h0:0<L.length) (hL:L.length≤1000) (hw:∀ w,w∈L→w.2.2.length=c.bs.length) :
    aT Tryz.prog 19 [.pr (oD c L) 0,.i b] [] (.agg [.i (vR c L b).1,.i (vR c L b).2]) []:=by
  have hbl:(eB c.bs).length=c.bs.length:=aF _;have hLl:(fH L).length=L.length:=pE L;unfold vR;refine bK T Tryz.func19 rfl rfl rfl rfl ?_;by_cases hin:GM c b
  · rw [if_pos hin];unfold GM at hin;have hF:gS (rG c L)=L[0]:=by
      unfold gS rG;cases L with
      | nil=>simp at h0
      | cons x l=>rfl
    have hgk:=nN h0;have hw0:=hw _ (aH h0);have q1:(cT L[0].2.2)[b.toNat]? = some [AV.i (gC L[0] b.toNat).1,AV.i (gC L[0] b.toNat).2]:=lU (l:=L[0].2.2) (j:=b) (i:=b.toNat) (by omega) (by omega)
    have hst:zQ (rG c L) b.toNat 0=gC L[0] b.toNat:=by unfold zQ;rw [mD,hF];rfl
    have hsl:(cT L[0].2.2).length=L[0].2.2.length:=aF _;generalize gC L[0] b.toNat=r0 at *;generalize L[0]=w0 at *;obtain ⟨wp,wm,wc⟩:=w0;obtain ⟨x0,y0⟩:=r0;dsimp only at *
    (repeat' (first|refine wS ?_|refine wB ?_|refine wK ?_|(refine wC rfl ?_ ?_<;>(intro hb;(try simp only [nm] at hb);try (exfalso;omega)))|(refine rg 0 (bN (bI T rfl) rfl ?_))|(refine rg 1 (mW rfl (vV (aI rfl rfl) (mV ?_)));refine bC rfl rfl ?_ ?_<;>(intro hb;rw [hb];(try simp only [nm] at hb);try (exfalso;omega));(all_goals (refine yN rfl (yN rfl (gT (nV ?_)));refine yP T rfl (yP T rfl (yO T rfl (gT (qW T rfl (yV (gH rfl rfl) (pV ?_)))))))))|(refine rg 3 (mW rfl (nV ?_));refine gB T rfl (vV (ix T rfl (by omega) (jX _) hgk) (gB T rfl (mW rfl (vV (ix T rfl (by omega) (pB _) q1) (lW T rfl (bN (bI T rfl) rfl (aL T rfl rfl rfl rfl rfl rfl (by decide) rfl ?_))))))))|(refine rg 4 (aV ?_))|refine nZ ?_));all_goals try (exfalso;omega)
    refine cO (X:={x:Nat × SP // x.1≤L.length∧zQ (rG c L) b.toNat x.1=x.2}) (fun x=>[(0,.pr (oD c L) 0),(1,.i b),(4,.ptr 0 0),(5,.ptr 1 0),(6,.i (x.1.1:Int))]) (fun x=>[.cells [.i 0,.i 0],.cells [.i x.1.2.1,.i x.1.2.2]]) (fun x=>L.length-x.1.1) ⟨(0,(x0,y0)),bW _,hst⟩ ⟨[0,1],rfl,(by repeat first|exact trivial|refine ⟨rfl,?_⟩),⟨.inr rfl,.inr rfl,trivial⟩,by decide,jJ _⟩ ?_
    rintro ⟨⟨i,r⟩,hi,hrr⟩;dsimp only at hi hrr ⊢;by_cases hlti:i<L.length
    · have hgk:=nN hlti;have hwl:=hw _ (aH hlti);have q1:(cT L[i].2.2)[b.toNat]? = some [AV.i (gC L[i] b.toNat).1,AV.i (gC L[i] b.toNat).2]:=lU (l:=L[i].2.2) (j:=b) (i:=b.toNat) (by omega) (by omega)
      have hsl:(cT L[i].2.2).length=L[i].2.2.length:=aF _;have hs:zQ (rG c L) b.toNat (i+1)=ER (zQ (rG c L) b.toNat i) (gC L[i] b.toNat):=D2 (g:=rG c L) hlti;rw [hrr] at hs;generalize gC L[i] b.toNat=r1 at *;generalize L[i]=w1 at *;obtain ⟨wp,wm,wc⟩:=w1;obtain ⟨x1,y1⟩:=r1;obtain ⟨x2,y2⟩:=r;dsimp only at *;have hh:=R38.refhull_c x2 y2 x1 y1
      (repeat' (first|refine wS ?_|refine wB ?_|refine wK ?_|(refine wC rfl ?_ ?_<;>(intro hb;(try simp only [nm] at hb);try (exfalso;omega)))|(refine rg 5 (dK rfl (nV ?_));refine gB T rfl (qW T rfl (vV (aI rfl rfl) ?_)))|(refine bQ (id:=7) 53 [[],[],[1],[1,2],[1,2,3],[],rM 1 5,rM 1 6,rM 1 7,[],rM 1 9,rM 1 10,rN 12] (rM 39 13) [[],[39],[39],[39],[39],rM 39 5,[39],[39],[39],rM 39 9,[39],[39],[]] cF rfl (by decide +kernel) (dO T rfl (dN rfl (dV rfl (by exact cN rfl rfl) ?_)));refine dP T rfl (dO T rfl (dN rfl (dV rfl (ix T rfl (by omega) (jX _) hgk) (dP T rfl (dO T rfl (dN rfl (dV rfl (ix T rfl (by omega) (pB _) q1) (dO T rfl (dV rfl (kC (hh)) ?_)))))))));refine dE ?_;refine aL T rfl rfl rfl rfl rfl rfl (by decide) rfl ?_)|(refine iA 6 rfl rfl rfl (by omega) (by omega) ?_)|refine nZ ?_));all_goals try (exfalso;omega)
      exact ⟨⟨(i+1,ER (x2,y2) (x1,y1)),hlti,hs⟩,by dsimp only;omega,⟨[0,1],rfl,(by repeat first|exact trivial|refine ⟨rfl,?_⟩),⟨.inr rfl,.inr rfl,trivial⟩,by decide,jJ _⟩⟩
    · obtain rfl:i=L.length:=by omega
      have hE:xC (rG c L) b.toNat=r:=hrr;rw [hE]
      (repeat' (first|refine wS ?_|refine wR ?_|refine wE ?_|(refine wC rfl ?_ ?_<;>(intro hb;(try simp only [nm] at hb);try (exfalso;omega)))|(refine rg 5 (dK rfl (nV ?_));refine gB T rfl (qW T rfl (vV (aI rfl rfl) ?_)))|(refine rg 8 (lW T rfl (aL T rfl rfl rfl rfl rfl rfl (by decide) rfl ?_)))|refine nZ ?_));all_goals first | (exfalso;omega) | exact rQ
  · rw [if_neg hin];unfold GM at hin
    (repeat' (first|refine wS ?_|refine wR ?_|refine wT ?_|(refine wC rfl ?_ ?_<;>(intro hb;(try simp only [nm] at hb);try (exfalso;omega)))|(refine rg 0 (bN (bI T rfl) rfl ?_))|(refine rg 1 (mW rfl (vV (aI rfl rfl) (mV ?_)));refine bC rfl rfl ?_ ?_<;>(intro hb;rw [hb];(try simp only [nm] at hb);try (exfalso;omega));(all_goals first|(refine gT (mW rfl (gT (mW rfl (gT (nV ?_)))));refine gT (fW T rfl (gT (fW T rfl (gT (lW T rfl (gT (qW T rfl (gT (vV (gH rfl rfl) ?_))))))))))|(iterate 8 refine gF ?_));(all_goals (refine pV ?_)))|(refine rg 2 (vV (by exact dY T rfl rfl rfl rfl) ?_);refine aL T rfl rfl rfl rfl rfl rfl (by decide) rfl ?_)|refine nZ ?_));all_goals first | (exfalso;omega) | exact rQ
end Go.Proofs.YtmmkhmilpeodnaaGreat
namespace Go.Ld
open Go.Ab Go.Proofs.YtmmkhmilpeodnaaGreat
def R7 (n:Nat) (p q:List Int) (w:W):Bool:=decide (w.1=p)&&(List.range n).all fun i=>pT (gC w i).1 (gC w i).2 (q.getD (p.getD i 0).toNat 0)
theorem RO {c:Cx}{L:List W}{p q:List Int}{w:W}(hw:w.1.length=c.bs.length) (hp:p.length=c.bs.length):xQ (rG c L) p q w=R7 c.bs.length p q w:=by
  have hg:∀ i,i<c.bs.length→((rG c L).1.getD i 0).toNat=i:=fun i hi=>by
    have:=GJ (n:=c.bs.length) (b:=(i:Int)) (by omega) (by omega)
    rw [bH] at this;show ((nats (List.range c.bs.length)).getD i 0).toNat=i;rw [this,bH]
  have hl:(rG c L).1.length=c.bs.length:=by simp [rG]
  unfold xQ R7;rw [jP,aN,bF,bF,decide_eq_true_eq,hl];constructor
  · intro h;refine ⟨gY (by omega) fun i h1 h2=>?_,fun i hi=>?_⟩
    · have:=h i (dD.2 (by omega))
      unfold zJ at this;rw [aN,decide_eq_true_eq,hg i (by omega)] at this
      have:=this.1;unfold gP at this;rw [aC,aC,aA h1,aA h2] at this;exact this
    · have:=h i hi;unfold zJ at this;rw [aN,hg i (dD.1 hi)] at this;exact this.2
  · rintro ⟨h1,h2⟩ i hi;unfold zJ;rw [aN,decide_eq_true_eq,hg i (dD.1 hi)];exact ⟨by unfold gP;rw [h1],h2 i hi⟩
theorem yA1 {c:Cx}{L:List W}{p q:List Int}(h:¬ (p.length=c.bs.length∧q.length=c.bs.length∧Go.Pm.permB p=true)):zT0 c L p q=false:=by
  rw [qT];intro hh;unfold zT0 at hh;simp only [aN,decide_eq_true_eq] at hh;exact h ⟨hh.1.1.1,by omega,hh.1.2⟩
theorem zQ9 {c:Cx}{L:List W}{p q:List Int}(hp:p.length=c.bs.length) (hq:q.length=c.bs.length) (h:Go.Pm.permB p=true) (hw:∀ w,w∈L→w.1.length=c.bs.length):zT0 c L p q=L.any (R7 c.bs.length p q):=by
  unfold zT0;rw [h,decide_eq_true hp,decide_eq_true (show q.length=p.length by omega)]
  rw [eM,eM,eM,jP,gD,gD];constructor
  · rintro ⟨w,hw',h'⟩;exact ⟨w,hw',by rw [← RO (L:=L) (hw w hw') hp];exact h'⟩
  · rintro ⟨w,hw',h'⟩;exact ⟨w,hw',by rw [RO (L:=L) (hw w hw') hp];exact h'⟩
end Go.Ld
namespace Go.Proofs.YtmmkhmilpeodnaaGreat
open Go Go.Ab Go.Ld
attribute [local irreducible] VC AW bX aT jU jB
set_option maxHeartbeats 4000000
theorem XD (c:Cx) (L:List W) (b lot:Int) (hn:c.bs.length≤1000) (h0:0<L.length) (hL:L.length≤1000) (hw:∀ w,w∈L→w.1.length=c.bs.length∧w.2.2.length=c.bs.length)
    (hne:GM c b→mY c L b≠[]) :
    aT Tryz.prog 21 [.pr (oD c L) 0,.i b,.i lot] [] (.i (vB c (mY c L b) (vR c L b) lot)) []:=by
  have hp:=QG c L b hn hL (fun w h=>(hw w h).1);have hr:=JP c L b hn h0 hL (fun w h=>(hw w h).2);have hpm:=fun x=>YA (c:=c) (L:=L) (b:=b) (x:=x);have hpb:=KE c L b;have hbl:(eB c.bs).length=c.bs.length:=aF _;have hz:mY c L b=[]→(vR c L b).1=0:=fun h=>by
    unfold vR;by_cases hin:GM c b
    · exact absurd h (hne hin)
    · rw [if_neg hin]
  have hlf:∀ v,(mY c L b).any (fun id=>decide ((c.bs.getD id.toNat (0,0,0)).1≠lot))=v→vB c (mY c L b) (vR c L b) lot=if v=true then 0 else (vR c L b).1:=fun v hv=>by
    unfold vB;rw [hv];by_cases h:(mY c L b).length=0
    · rw [if_pos (.inl h)];split
      · rfl
      · exact (hz (fE.1 h)).symm
    · cases v
      · rw [if_neg (by simp [h])];rfl
      · rw [if_pos (.inr rfl)];rfl
  have hyes:∀ k (h:k<(mY c L b).length),(c.bs.getD ((mY c L b)[k]).toNat (0,0,0)).1≠lot→vB c (mY c L b) (vR c L b) lot=0:=fun k h e=>by
    rw [hlf true (gD.2 ⟨_,aH h,decide_eq_true e⟩),if_pos rfl]
  have hno:(∀ k (h:k<(mY c L b).length),k<(mY c L b).length→(c.bs.getD ((mY c L b)[k]).toNat (0,0,0)).1=lot)→vB c (mY c L b) (vR c L b) lot=(vR c L b).1:=fun h=>by
    rw [hlf false (oB.2 fun x hx=>by
      obtain ⟨k,hk,rfl⟩:=mR hx
      exact fun q=>(of_decide_eq_true q) (h k hk hk)),if_neg (by simp)]
  generalize vB c (mY c L b) (vR c L b) lot=R at *;generalize mY c L b=P at *;generalize vR c L b=r at *;have hPl:(ints P).length=P.length:=aF _;refine bK T Tryz.func21 rfl rfl rfl rfl ?_
  (repeat' (first|refine wS ?_|refine wB ?_|(refine rg 0 (aV ?_))|(refine rg 1 (dK rfl (vV (kC (hp)) (aV ?_))))|(refine rg 2 (aV ?_))|refine nZ ?_));refine cO (X:={k:Nat // k≤P.length∧∀ i (h:i<P.length),i<k→(c.bs.getD (P[i]).toNat (0,0,0)).1=lot}) (fun k=>[(0,.pr (oD c L) 0),(1,.i b),(2,.i lot),(7,.rowE (ints P) 1),(8,.i (k.1:Int))]) (fun _=>[]) (fun k=>P.length-k.1) ⟨0,bW _,fun i _ h=>absurd h (dA _)⟩ (fA []) ?_
  rintro ⟨k,hk,hall⟩;dsimp only at hk hall ⊢;by_cases hlt:k<P.length
  · have q1:(ints P)[(k:Int).toNat]? = some [AV.i P[k]]:=by rw [bH];exact mN hlt
    have hx:=hpm _ (aH hlt);have hyes:=hyes k hlt;have hnx:(c.bs.getD (P[k]).toNat (0,0,0)).1=lot→∀ i (h:i<P.length),i<k+1→(c.bs.getD (P[i]).toNat (0,0,0)).1=lot:=fun hs i h hi=>by
      by_cases e:i=k
      · subst e;exact hs
      · exact hall i h (by omega)
    generalize P[k]=x at *;have q2:(eB c.bs)[x.toNat]? = some [AV.i (c.bs.getD x.toNat (0,0,0)).1,AV.i (c.bs.getD x.toNat (0,0,0)).2.1,AV.i (c.bs.getD x.toNat (0,0,0)).2.2]:=by
      rw [wJ (by omega),aC,aA (by omega)];rfl
    generalize c.bs.getD x.toNat (0,0,0)=bx at *;obtain ⟨bl,bc,bt⟩:=bx;dsimp only at *;by_cases e:bl=lot
    · have hnx:=hnx e
      (repeat' (first|refine wS ?_|refine wB ?_|refine wK ?_|refine wU ?_|(refine wC rfl ?_ ?_<;>(intro hb;(try simp only [nm] at hb);try (exfalso;omega)))|(refine rg 3 (dK rfl (qW T rfl (vV (aI rfl rfl) ?_))))|(refine bQ (id:=5) 36 yR3 (rM 18 14) yR4 cF rfl (by decide +kernel) (dN rfl (dV rfl (by exact cN rfl rfl) ?_));refine dP T rfl (dP T rfl (dO T rfl (dN rfl (dN rfl (dV rfl (ix T rfl (by omega) (ints_len _) q1) (dO T rfl (dV rfl (ix T rfl (by omega) (jM _) q2) (dP T rfl (dL T ?_)))))))));refine dN rfl (dV rfl (kZ rfl rfl e) (dE ?_)))|(refine iA 4 rfl rfl rfl (by omega) (by omega) ?_)|refine nZ ?_));all_goals try (exfalso;omega)
      exact ⟨⟨k+1,hlt,hnx⟩,by dsimp only;omega,fA []⟩
    · have hR:=hyes e;subst hR
      (repeat' (first|refine wS ?_|refine wB ?_|refine wK ?_|refine wR ?_|refine wT ?_|(refine wC rfl ?_ ?_<;>(intro hb;(try simp only [nm] at hb);try (exfalso;omega)))|(refine rg 3 (dK rfl (qW T rfl (vV (aI rfl rfl) ?_))))|(refine bQ (id:=5) 36 yR3 (rM 18 14) yR4 cF rfl (by decide +kernel) (dN rfl (dV rfl (by exact cN rfl rfl) ?_));refine dP T rfl (dP T rfl (dO T rfl (dN rfl (dN rfl (dV rfl (ix T rfl (by omega) (ints_len _) q1) (dO T rfl (dV rfl (ix T rfl (by omega) (jM _) q2) (dP T rfl (dL T ?_)))))))));refine dN rfl (dV rfl (sT rfl rfl e) (dE ?_)))|(refine rg 6 (aV ?_))|refine nZ ?_));all_goals first | (exfalso;omega) | exact rQ
  · have hR:=hno (fun i h _=>hall i h (by omega))
    subst hR;obtain ⟨r1,r2⟩:=r
    (repeat' (first|refine wS ?_|refine wR ?_|refine wE ?_|(refine wC rfl ?_ ?_<;>(intro hb;(try simp only [nm] at hb);try (exfalso;omega)))|(refine rg 3 (dK rfl (qW T rfl (vV (aI rfl rfl) ?_))))|(refine rg 7 (dK rfl (vV (kC (hr)) (vV (by exact R3 T rfl yC5 rfl rfl) ?_)));refine aV ?_)|refine nZ ?_));all_goals first | (exfalso;omega) | exact rQ
theorem TH (c:Cx) (L:List W) (p q:List Int) (hn:c.bs.length≤1000) (hL:L.length≤1000) (hw:∀ w,w∈L→w.1.length=c.bs.length∧w.2.2.length=c.bs.length) (hpl:p.length≤1000) (hql:q.length≤1000) :
    aT Tryz.prog 23 [.pr (oD c L) 0,.rowE (ints p) 1,.rowE (ints q) 1] [] (.b (zT0 c L p q)) []:=by
  have hbl:(eB c.bs).length=c.bs.length:=aF _;have hLl:(fH L).length=L.length:=pE L;have hp1:(ints p).length=p.length:=aF _;have hq1:(ints q).length=q.length:=aF _;have hri:=R37.refrightP_c p (by omega)
  by_cases h:p.length=c.bs.length∧q.length=c.bs.length∧Go.Pm.permB p=true
  · obtain ⟨h1,h2,h3⟩:=h;rw [zQ9 h1 h2 h3 (fun w hw'=>(hw w hw').1)];have hat:=(KG (n:=c.bs.length) (p:=p) (q:=q) h3 h1 (by omega)).pr
    rw [h3] at hri;have hyes:∀ k (h:k<L.length),R7 c.bs.length p q L[k]=true→L.any (R7 c.bs.length p q)=true:=fun k h e=>gD.2 ⟨_,aH h,e⟩
    have hno:(∀ k (h:k<L.length),k<L.length→R7 c.bs.length p q L[k]=false)→L.any (R7 c.bs.length p q)=false:=fun h=>oB.2 fun t ht=>by
      obtain ⟨i,hi,rfl⟩:=mR ht;rw [h i hi hi];simp
    generalize L.any (R7 c.bs.length p q)=R at *;refine bK T Tryz.func23 rfl rfl rfl rfl ?_
    (repeat' (first|refine wS ?_|refine wB ?_|refine wK ?_|refine wU ?_|(refine rg 0 (aV ?_))|(refine rg 1 (mW rfl (nV ?_));refine fW T rfl (gB T rfl (qW T rfl (aV ?_))))|(refine rg 2 (mW rfl (qW T rfl (mW rfl (vV (eX rfl rfl) (mV ?_)))));refine bC rfl rfl ?_ ?_<;>(intro hb;rw [hb];(try simp only [nm] at hb);try (exfalso;omega));(all_goals (refine yN rfl (gT (qW T rfl (yN rfl (yV (eX rfl rfl) (pW rfl (mV ?_))))));refine bC rfl rfl ?_ ?_<;>(intro hb;rw [hb];(try simp only [nm] at hb);try (exfalso;omega))));(all_goals (refine yN rfl (yV (kC (hri)) (yV (cY rfl) (pV ?_))))))|(refine rg 4 (aV ?_))|refine nZ ?_));all_goals try (exfalso;omega)
    refine cO (X:={k:Nat // k≤L.length∧∀ i (h:i<L.length),i<k→R7 c.bs.length p q L[i]=false}) (fun k=>[(0,.pr (oD c L) 0),(1,.rowE (ints p) 1),(2,.rowE (ints q) 1),(7,.i (c.bs.length:Int)),(8,.i (k.1:Int))]) (fun _=>[]) (fun k=>L.length-k.1) ⟨0,bW _,fun i _ h=>absurd h (dA _)⟩ ⟨[],rfl,⟨rfl,rfl,rfl,by show some (AV.i ((eB c.bs).length:Int))=_;rw [hbl];rfl,rfl,trivial⟩,trivial,cM,jJ _⟩ ?_
    rintro ⟨k,hk,hall⟩;dsimp only at hk hall ⊢;by_cases hlt:k<L.length
    · have hgk:=nN hlt;have hyes:=hyes k hlt;obtain ⟨l1,l2⟩:=hw _ (aH hlt);have hnx:R7 c.bs.length p q L[k]=false→∀ i (h:i<L.length),i<k+1→R7 c.bs.length p q L[i]=false:=fun hs i h hi=>by
        by_cases e:i=k
        · subst e;exact hs
        · exact hall i h (by omega)
      have s1:=P6 L[k].1 p (by omega)
      have hfc:R7 c.bs.length p q L[k]=(decide (L[k].1=p)&&(List.range c.bs.length).all fun i=>pT (gC L[k] i).1 (gC L[k] i).2 (q.getD (p.getD i 0).toNat 0)):=rfl;generalize R7 c.bs.length p q L[k]=fc at *;generalize L[k]=w at *;obtain ⟨wp,wm,wc⟩:=w;dsimp only at *;have hcl:(cT wc).length=wc.length:=aF _;cases e1:decide (wp=p) with
      | false=>
        rw [e1] at s1 hfc;rw [iR] at hfc;have hnx:=hnx hfc
        (repeat' (first|refine wS ?_|refine wB ?_|refine wK ?_|(refine wC rfl ?_ ?_<;>(intro hb;(try simp only [nm] at hb);try (exfalso;omega)))|(refine rg 5 (dK rfl (nV ?_));refine gB T rfl (qW T rfl (vV (aI rfl rfl) ?_)))|(refine rg 7 (mW rfl (nV ?_));refine gB T rfl (mW rfl (vV (ix T rfl (by omega) (jX _) hgk) (lW T rfl (bN (bI T rfl) rfl (aL T rfl rfl rfl rfl rfl rfl (by decide) rfl ?_))))))|refine nZ ?_));refine dU 9 (cs:=[.rowE (ints wp) 1,.i wm,.rowE (cT wc) 2]) rfl rfl rfl ?_
        (repeat' (first|refine wS ?_|refine wB ?_|(refine rg 8 (gB T rfl (mW rfl (vV (kC (s1)) (aV ?_)))))|(refine rg 9 (aV ?_))|refine nZ ?_));all_goals try (exfalso;omega)
        refine cO (X:=Unit) (fun _=>[(0,.pr (oD c L) 0),(1,.rowE (ints p) 1),(2,.rowE (ints q) 1),(7,.i (c.bs.length:Int)),(8,.i (k:Int)),(10,.b false),(11,.i 0)]) (fun _=>[]) (fun _=>0) () (fA []) ?_;rintro ⟨⟩
        (repeat' (first|refine wS ?_|refine wK ?_|refine wE ?_|refine wU ?_|(refine rg 10 (dK rfl (vV (aI rfl rfl) (mV ?_)));refine bC rfl rfl ?_ ?_<;>(intro hb;rw [hb];(try simp only [nm] at hb);try (exfalso;omega));(all_goals first|(refine gT (mV ?_))|(refine gF ?_));(all_goals (refine pV ?_)))|(refine rg 13 (mV ?_))|(refine iA 6 rfl rfl rfl (by omega) (by omega) ?_)|refine nZ ?_));all_goals try (exfalso;omega)
        all_goals exact ⟨⟨k+1,hlt,hnx⟩,by dsimp only;omega,fA []⟩
      | true=>
        rw [e1] at s1 hfc;rw [eM] at hfc
        (repeat' (first|refine wS ?_|refine wB ?_|refine wK ?_|(refine wC rfl ?_ ?_<;>(intro hb;(try simp only [nm] at hb);try (exfalso;omega)))|(refine rg 5 (dK rfl (nV ?_));refine gB T rfl (qW T rfl (vV (aI rfl rfl) ?_)))|(refine rg 7 (mW rfl (nV ?_));refine gB T rfl (mW rfl (vV (ix T rfl (by omega) (jX _) hgk) (lW T rfl (bN (bI T rfl) rfl (aL T rfl rfl rfl rfl rfl rfl (by decide) rfl ?_))))))|refine nZ ?_));all_goals try (exfalso;omega)
        refine dU 9 (cs:=[.rowE (ints wp) 1,.i wm,.rowE (cT wc) 2]) rfl rfl rfl ?_
        (repeat' (first|refine wS ?_|refine wB ?_|(refine rg 8 (gB T rfl (mW rfl (vV (kC (s1)) (aV ?_)))))|(refine rg 9 (aV ?_))|refine nZ ?_));all_goals try (exfalso;omega)
        refine cO (X:={x:Nat × Bool // x.1≤c.bs.length∧((List.range x.1).all fun i=>pT (gC (wp,wm,wc) i).1 (gC (wp,wm,wc) i).2 (q.getD (p.getD i 0).toNat 0))=x.2}) (fun x=>[(0,.pr (oD c L) 0),(1,.rowE (ints p) 1),(2,.rowE (ints q) 1),(7,.i (c.bs.length:Int)),(8,.i (k:Int)),(9,.pr [.rowE (ints wp) 1,.i wm,.rowE (cT wc) 2] 0),(10,.b x.1.2),(11,.i (x.1.1:Int))]) (fun _=>[]) (fun x=>c.bs.length-x.1.1) ⟨(0,true),bW _,rfl⟩ (fA []) ?_;rintro ⟨⟨i,v⟩,hi,hv⟩;dsimp only at hi hv ⊢;cases v with
        | false=>
          have hff:fc=false:=by
            rw [hfc];obtain ⟨j,hj,hj2⟩:=qS.1 hv;exact qS.2 ⟨j,dD.2 (by have:=dD.1 hj;omega),hj2⟩
          have hnx:=hnx hff
          (repeat' (first|refine wS ?_|refine wK ?_|refine wE ?_|refine wU ?_|(refine rg 10 (dK rfl (vV (aI rfl rfl) (mV ?_)));refine bC rfl rfl ?_ ?_<;>(intro hb;rw [hb];(try simp only [nm] at hb);try (exfalso;omega));(all_goals first|(refine gT (mV ?_))|(refine gF ?_));(all_goals (refine pV ?_)))|(refine rg 13 (mV ?_))|(refine iA 6 rfl rfl rfl (by omega) (by omega) ?_)|refine nZ ?_));all_goals try (exfalso;omega)
          all_goals exact ⟨⟨k+1,hlt,hnx⟩,by dsimp only;omega,fA []⟩
        | true=>
          by_cases hib:i<c.bs.length
          · obtain ⟨a1,a2⟩:=hat i hib;have qa:=ints_gI (l:=p) (j:=(i:Int)) (i:=i) 0 (by omega) rfl
            have qc:(cT wc)[(i:Int).toNat]? = some [AV.i (gC (wp,wm,wc) i).1,AV.i (gC (wp,wm,wc) i).2]:=lU (l:=wc) (j:=(i:Int)) (i:=i) (by omega) rfl
            have hv2:((List.range (i+1)).all fun i=>pT (gC (wp,wm,wc) i).1 (gC (wp,wm,wc) i).2 (q.getD (p.getD i 0).toNat 0))=pT (gC (wp,wm,wc) i).1 (gC (wp,wm,wc) i).2 (q.getD (p.getD i 0).toNat 0):=by
              rw [F4,List.all_append,hv];simp
            generalize p.getD i 0=x at *;have qb:=ints_gI (l:=q) (j:=x) (i:=x.toNat) 0 (by omega) (by omega)
            generalize q.getD x.toNat 0=y at *;generalize gC (wp,wm,wc) i=r at *;obtain ⟨r1,r2⟩:=r;dsimp only at *;have hh:=JW r1 r2 y;generalize pT r1 r2 y=vb at *
            (repeat' (first|refine wS ?_|refine wB ?_|refine wK ?_|refine wT ?_|(refine rg 10 (dK rfl (vV (aI rfl rfl) (mV ?_)));refine bC rfl rfl ?_ ?_<;>(intro hb;rw [hb];(try simp only [nm] at hb);try (exfalso;omega));(all_goals (refine yN rfl (pV ?_))))|(refine bQ (id:=12) 75 [[],[0],[],[0,1,2],rN 4,[],[],[],[6,7],[6,7,8],rM 5 5,rM 5 6,rN 12] (rM 61 13) [[],[],[61,62],[],[],rM 61 5,rM 61 6,rM 61 7,rM 61 6,rM 61 6,rM 61 5,rM 61 5,[]] cF rfl (by decide +kernel) (dP T rfl (dO T rfl (dN rfl (dV rfl (ix T rfl (by omega) (pB _) qc) (dO T rfl (dN rfl (dN rfl (dN rfl (dV rfl (ix T rfl (by omega) (ints_len _) qa) ?_)))))))));refine dO T rfl (dV rfl (ix T rfl (by omega) (ints_len _) qb) (dO T rfl (dV rfl (kC (hh)) (dE ?_))));refine aV ?_)|(refine iA 11 rfl rfl rfl (by omega) (by omega) ?_)|refine nZ ?_));all_goals try (exfalso;omega)
            exact ⟨⟨(i+1,vb),hib,hv2⟩,by dsimp only;omega,fA []⟩
          · obtain rfl:i=c.bs.length:=by omega
            rw [hv] at hfc;have hR:=hyes hfc;subst hR
            (repeat' (first|refine wS ?_|refine wR ?_|refine wE ?_|refine wT ?_|refine wU ?_|(refine rg 10 (dK rfl (vV (aI rfl rfl) (mV ?_)));refine bC rfl rfl ?_ ?_<;>(intro hb;rw [hb];(try simp only [nm] at hb);try (exfalso;omega));(all_goals (refine gF (pV ?_))))|(refine rg 13 (mV ?_))|(refine rg 14 (aV ?_))|refine nZ ?_));all_goals first | (exfalso;omega) | exact rQ
    · have hR:=hno (fun i h _=>hall i h (by omega))
      subst hR
      (repeat' (first|refine wS ?_|refine wR ?_|refine wE ?_|(refine wC rfl ?_ ?_<;>(intro hb;(try simp only [nm] at hb);try (exfalso;omega)))|(refine rg 5 (dK rfl (nV ?_));refine gB T rfl (qW T rfl (vV (aI rfl rfl) ?_)))|(refine rg 15 (aV ?_))|refine nZ ?_));all_goals first | (exfalso;omega) | exact rQ
  · rw [yA1 h];cases hb:Go.Pm.permB p
    all_goals
      rw [hb] at hri h;refine bK T Tryz.func23 rfl rfl rfl rfl ?_
      (repeat' (first|refine wS ?_|refine wR ?_|((refine wT ?_))|(refine rg 0 (aV ?_))|(refine rg 1 (mW rfl (nV ?_));refine fW T rfl (gB T rfl (qW T rfl (aV ?_))))|(refine rg 2 (mW rfl (qW T rfl (mW rfl (vV (eX rfl rfl) (mV ?_)))));refine bC rfl rfl (fun hb=>?_) (fun hb=>?_)<;>((rw [hb];(try simp only [nm] at hb);try ((exfalso;fail);done)));(all_goals first|(refine gT (mW rfl (gT (qW T rfl (gT (mW rfl (gT (vV (eX rfl rfl) ?_))))))))|(iterate 4 refine gF ?_));(all_goals (refine pW rfl (mV ?_)));(all_goals first|(refine gK ?_)|(refine bC rfl rfl (fun hb=>?_) (fun hb=>?_)<;>((rw [hb];(try simp only [nm] at hb);try ((exfalso;(exact h ⟨by omega,by omega,rfl⟩));done)))));(all_goals first|(refine gT (mW rfl (gT (vV (kC (hri)) (gT (vV (cY rfl) ?_))))))|(iterate 3 refine gF ?_));(all_goals (refine pV ?_)))|(refine rg 3 (aV ?_))|refine nZ ?_));all_goals first | (exfalso;omega) | exact rQ | (exfalso;exact h ⟨by omega,by omega,rfl⟩)
end Go.Proofs.YtmmkhmilpeodnaaGreat
namespace Go.Ld
open Go.Ab Go.Proofs.YtmmkhmilpeodnaaGreat
def zT5 (x:KD):Bool:=!fF x.2 0 1048576
def zT4 (n:Nat) (x:LT):Bool:=!fF x.1 0 ((n:Int)-1)
def zT6 (n:Nat) (x:BX):Bool:=(((!fF x.1 (-1) ((n:Int)-1)) || !fF x.2.1 0 20000)||(decide (x.1<0)&&decide (0<x.2.1))) || !fF x.2.2 0 1073741824
def ID (ks:List KD) (ls:List LT) (bs:List BX):Bool:=!(ks.any zT5||ls.any (zT4 ks.length)) && !bs.any (zT6 ls.length)
theorem X4 {ks:List KD}{ls:List LT}{bs:List BX}:ID ks ls bs=true↔yK ks ls (nats (List.range bs.length)) bs:=by
  have wb:∀ a b c:Int,fF a b c=true↔b≤a∧a≤c:=fun a b c=>by unfold fF;simp
  have e:ID ks ls bs=true↔(∀ x,x∈ks→0≤x.2∧x.2≤1048576)∧(∀ x,x∈ls→0≤x.1∧x.1<ks.length)∧(∀ x,x∈bs→-1≤x.1∧x.1<ls.length∧0≤x.2.1∧x.2.1≤20000∧(x.1 = -1→x.2.1=0)∧0≤x.2.2∧x.2.2≤1073741824):=by
    have h1:ks.any zT5=false↔∀ x,x∈ks→0≤x.2∧x.2≤1048576:=by
      rw [oB];refine forall_congr' fun x=>forall_congr' fun hx=>?_
      unfold zT5;rw [dR,uJ,wb]
    have h2:ls.any (zT4 ks.length)=false↔∀ x,x∈ls→0≤x.1∧x.1<ks.length:=by
      rw [oB];refine forall_congr' fun x=>forall_congr' fun hx=>?_
      unfold zT4;rw [dR,uJ,wb];omega
    have h3:bs.any (zT6 ls.length)=false↔∀ x,x∈bs→-1≤x.1∧x.1<ls.length∧0≤x.2.1∧x.2.1≤20000∧(x.1 = -1→x.2.1=0)∧0≤x.2.2∧x.2.2≤1073741824:=by
      rw [oB];refine forall_congr' fun x=>forall_congr' fun hx=>?_
      unfold zT6;rw [dR,iL,iL,iL,uJ,wb,uJ,wb,uJ,wb,Bool.and_eq_false_iff,decide_eq_false_iff_not,decide_eq_false_iff_not];omega
    unfold ID;rw [aN,wX,wX,iL,h1,h2,h3,and_assoc]
  rw [e];constructor
  · rintro ⟨h1,h2,h3⟩;exact ⟨by simp,fun i hi=>by rw [aF,zG4] at hi;exact bE.2 ⟨i,dD.2 hi,rfl⟩,fun i h=>h1 _ (aH h),fun i h=>h2 _ (aH h),fun i h=>h3 _ (aH h)⟩
  · intro t;refine ⟨fun x hx=>?_,fun x hx=>?_,fun x hx=>?_⟩
    · obtain ⟨i,hi,rfl⟩:=kM.1 hx;exact t.k i hi
    · obtain ⟨i,hi,rfl⟩:=kM.1 hx;exact t.l i hi
    · obtain ⟨i,hi,rfl⟩:=kM.1 hx;exact t.b i hi
theorem WO {ks:List KD}{ls:List LT}{bs:List BX}:O6 ks ls (nats (List.range bs.length)) bs=ID ks ls bs:=by
  cases h:ID ks ls bs with
  | true=>exact AD (X4.1 h)
  | false=>exact tA fun q=>by rw [X4.2 q] at h;cases h
theorem PZ (c:Cx):J7 c.m c.st c.er c.sl = !qO c:=by
  have h:=O9 (c:=c);have e:J7 c.m c.st c.er c.sl=true↔nX c.m c.st c.er c.sl:=by
    unfold J7 nX;rw [aN,decide_eq_true_eq,decide_eq_true_eq];omega
  cases h1:qO c with
  | false=>exact e.2 (h.1 h1)
  | true=>
    show _=false;rw [qT];intro q;rw [h.2 (e.1 q)] at h1;cases h1
end Go.Ld
namespace Go.Proofs.YtmmkhmilpeodnaaGreat
open Go Go.Ab Go.Ld
attribute [local irreducible] VC AW bX aT
set_option maxHeartbeats 4000000
theorem zL6 {l:List KD}{k:Nat}(h:k<l.length):(fQ l)[(k:Int).toNat]? = some [AV.v (.string l[k].1),AV.i l[k].2]:=by rw [bH];exact tE h
theorem zL2 {l:List LT}{k:Nat}(h:k<l.length):(iS l)[(k:Int).toNat]? = some [AV.i l[k].1,AV.i l[k].2.1,AV.b l[k].2.2]:=by rw [bH];exact vZ h
theorem RV {l:List BX}{k:Nat}(h:k<l.length):(eB l)[(k:Int).toNat]? = some [AV.i l[k].1,AV.i l[k].2.1,AV.i l[k].2.2]:=by rw [bH];exact wJ h
theorem zX0 {l:List KD}{F:FuncId}{caps:List AV}{p:KD→Bool}(hl:l.length≤1000000) (hi:AV.idfL caps=true) (hF:∀ x,x∈l→aT Tryz.prog F (.agg [AV.v (.string x.1),AV.i x.2]::caps) [] (.b (p x)) []) :
    aT Tryz.prog 123 [.rowE (fQ l) 2,.clo (.func F) [] caps] [] (.i (oV p l 0)) []:=by
  have hlen:(fQ l).length=l.length:=aF _;refine bK T Tryz.func123 rfl rfl rfl rfl ?_
  (repeat' (first|refine wS ?_|refine wB ?_|(refine rg 0 (aV ?_))|(refine rg 1 (mW rfl (qW T rfl (mV ?_))))|refine nZ ?_));refine cO (X:={k:Nat // k≤l.length∧oV p l 0=oV p (l.drop k) k}) (fun k=>[(0,.rowE (fQ l) 2),(1,.clo (.func F) [] caps),(7,.i (fQ l).length),(8,.i k.1)]) (fun _=>[]) (fun k=>l.length-k.1) ⟨0,by simp,rfl⟩ ⟨[],rfl,⟨rfl,by rw [kF hi];rfl,rfl,rfl,trivial⟩,trivial,cM,fun _ h=>absurd h (dA _)⟩ ?_
  rintro ⟨k,hk,he⟩;dsimp only;by_cases hlt:k<l.length
  · have hc:=hF l[k] (aH hlt);have hg:=zL6 (l:=l) hlt;rw [E1 hlt] at he;generalize l[k]=y at *;cases hp:p y with
    | true=>
      rw [hp] at hc;rw [hp,if_pos rfl] at he
      (repeat' (first|refine wS ?_|refine wB ?_|refine wK ?_|refine wR ?_|refine wT ?_|(refine wC rfl ?_ ?_<;>(intro hb;(try simp only [nm] at hb);try (exfalso;omega)))|(refine rg 2 (vV (aI rfl rfl) ?_))|(refine rg 3 (mW rfl (aV ?_)))|(refine rg 4 (dK rfl (mW rfl (vV (ix T rfl (by omega) (nK l) hg) (lW T rfl (vV (by exact eA rfl rfl hc rfl (by simp [AV.idfL,AV.idf,hi]) rfl) ?_))))))|(refine rg 5 (mW rfl (aV ?_)))|refine nZ ?_));all_goals first | (exfalso;omega) | exact cH (.inl rfl) rfl (by rw [he];rfl)
    | false=>
      rw [hp] at hc;rw [hp,if_neg (by simp)] at he
      (repeat' (first|refine wS ?_|refine wB ?_|refine wK ?_|refine wU ?_|(refine wC rfl ?_ ?_<;>(intro hb;(try simp only [nm] at hb);try (exfalso;omega)))|(refine rg 2 (vV (aI rfl rfl) ?_))|(refine rg 3 (mW rfl (aV ?_)))|(refine rg 4 (dK rfl (mW rfl (vV (ix T rfl (by omega) (nK l) hg) (lW T rfl (vV (by exact eA rfl rfl hc rfl (by simp [AV.idfL,AV.idf,hi]) rfl) ?_))))))|(refine rg 6 (vV (bY rfl rfl (by omega) (by omega)) (mV ?_)))|refine nZ ?_));all_goals first | (exfalso;omega) | exact ⟨⟨k+1,hlt,he⟩,by dsimp only;omega,⟨[],rfl,⟨rfl,by rw [kF hi];rfl,rfl,rfl,trivial⟩,trivial,cM,fun _ h=>absurd h (dA _)⟩⟩
  · rw [wG (by omega)] at he
    (repeat' (first|refine wS ?_|refine wR ?_|refine wE ?_|(refine wC rfl ?_ ?_<;>(intro hb;(try simp only [nm] at hb);try (exfalso;omega)))|(refine rg 2 (vV (aI rfl rfl) ?_))|(refine rg 7 (aV ?_))|refine nZ ?_));all_goals first | (exfalso;omega) | exact cH (.inl rfl) rfl (by rw [he];rfl)
theorem zM7 {l:List KD}{F:FuncId}{caps:List AV}{p:KD→Bool}(hl:l.length≤1000000) (hi:AV.idfL caps=true) (hF:∀ x,x∈l→aT Tryz.prog F (.agg [AV.v (.string x.1),AV.i x.2]::caps) [] (.b (p x)) []) :
    aT Tryz.prog 80 [.rowE (fQ l) 2,.clo (.func F) [] caps] [] (.b (l.any p)) []:=by
  have hc:=zX0 hl hi hF;rw [← tV p l 0];refine bK T Tryz.func80 rfl rfl rfl rfl ?_
  (repeat' (first|refine wS ?_|refine wR ?_|(refine rg 0 (aV ?_))|(refine rg 1 (dK rfl (vV (by exact eA rfl rfl hc rfl (by simp [AV.idfL,AV.idf,hi]) rfl) ?_));refine vV (gH rfl rfl) (aV ?_))|refine nZ ?_));all_goals first | (exfalso;omega) | exact rQ
theorem zW9 {l:List LT}{F:FuncId}{caps:List AV}{p:LT→Bool}(hl:l.length≤1000000) (hi:AV.idfL caps=true) (hF:∀ x,x∈l→aT Tryz.prog F (.agg [AV.i x.1,AV.i x.2.1,AV.b x.2.2]::caps) [] (.b (p x)) []) :
    aT Tryz.prog 124 [.rowE (iS l) 3,.clo (.func F) [] caps] [] (.i (oV p l 0)) []:=by
  have hlen:(iS l).length=l.length:=aF _;refine bK T Tryz.func124 rfl rfl rfl rfl ?_
  (repeat' (first|refine wS ?_|refine wB ?_|(refine rg 0 (aV ?_))|(refine rg 1 (mW rfl (qW T rfl (mV ?_))))|refine nZ ?_));refine cO (X:={k:Nat // k≤l.length∧oV p l 0=oV p (l.drop k) k}) (fun k=>[(0,.rowE (iS l) 3),(1,.clo (.func F) [] caps),(7,.i (iS l).length),(8,.i k.1)]) (fun _=>[]) (fun k=>l.length-k.1) ⟨0,by simp,rfl⟩ ⟨[],rfl,⟨rfl,by rw [kF hi];rfl,rfl,rfl,trivial⟩,trivial,cM,fun _ h=>absurd h (dA _)⟩ ?_
  rintro ⟨k,hk,he⟩;dsimp only;by_cases hlt:k<l.length
  · have hc:=hF l[k] (aH hlt);have hg:=zL2 (l:=l) hlt;rw [E1 hlt] at he;generalize l[k]=y at *;cases hp:p y with
    | true=>
      rw [hp] at hc;rw [hp,if_pos rfl] at he
      (repeat' (first|refine wS ?_|refine wB ?_|refine wK ?_|refine wR ?_|refine wT ?_|(refine wC rfl ?_ ?_<;>(intro hb;(try simp only [nm] at hb);try (exfalso;omega)))|(refine rg 2 (vV (aI rfl rfl) ?_))|(refine rg 3 (mW rfl (aV ?_)))|(refine rg 4 (dK rfl (mW rfl (vV (ix T rfl (by omega) (oU l) hg) (lW T rfl (vV (by exact eA rfl rfl hc rfl (by simp [AV.idfL,AV.idf,hi]) rfl) ?_))))))|(refine rg 5 (mW rfl (aV ?_)))|refine nZ ?_));all_goals first | (exfalso;omega) | exact cH (.inl rfl) rfl (by rw [he];rfl)
    | false=>
      rw [hp] at hc;rw [hp,if_neg (by simp)] at he
      (repeat' (first|refine wS ?_|refine wB ?_|refine wK ?_|refine wU ?_|(refine wC rfl ?_ ?_<;>(intro hb;(try simp only [nm] at hb);try (exfalso;omega)))|(refine rg 2 (vV (aI rfl rfl) ?_))|(refine rg 3 (mW rfl (aV ?_)))|(refine rg 4 (dK rfl (mW rfl (vV (ix T rfl (by omega) (oU l) hg) (lW T rfl (vV (by exact eA rfl rfl hc rfl (by simp [AV.idfL,AV.idf,hi]) rfl) ?_))))))|(refine rg 6 (vV (bY rfl rfl (by omega) (by omega)) (mV ?_)))|refine nZ ?_));all_goals first | (exfalso;omega) | exact ⟨⟨k+1,hlt,he⟩,by dsimp only;omega,⟨[],rfl,⟨rfl,by rw [kF hi];rfl,rfl,rfl,trivial⟩,trivial,cM,fun _ h=>absurd h (dA _)⟩⟩
  · rw [wG (by omega)] at he
    (repeat' (first|refine wS ?_|refine wR ?_|refine wE ?_|(refine wC rfl ?_ ?_<;>(intro hb;(try simp only [nm] at hb);try (exfalso;omega)))|(refine rg 2 (vV (aI rfl rfl) ?_))|(refine rg 7 (aV ?_))|refine nZ ?_));all_goals first | (exfalso;omega) | exact cH (.inl rfl) rfl (by rw [he];rfl)
theorem zM6 {l:List LT}{F:FuncId}{caps:List AV}{p:LT→Bool}(hl:l.length≤1000000) (hi:AV.idfL caps=true) (hF:∀ x,x∈l→aT Tryz.prog F (.agg [AV.i x.1,AV.i x.2.1,AV.b x.2.2]::caps) [] (.b (p x)) []) :
    aT Tryz.prog 82 [.rowE (iS l) 3,.clo (.func F) [] caps] [] (.b (l.any p)) []:=by
  have hc:=zW9 hl hi hF;rw [← tV p l 0];refine bK T Tryz.func82 rfl rfl rfl rfl ?_
  (repeat' (first|refine wS ?_|refine wR ?_|(refine rg 0 (aV ?_))|(refine rg 1 (dK rfl (vV (by exact eA rfl rfl hc rfl (by simp [AV.idfL,AV.idf,hi]) rfl) ?_));refine vV (gH rfl rfl) (aV ?_))|refine nZ ?_));all_goals first | (exfalso;omega) | exact rQ
theorem zX1 {l:List BX}{F:FuncId}{caps:List AV}{p:BX→Bool}(hl:l.length≤1000000) (hi:AV.idfL caps=true) (hF:∀ x,x∈l→aT Tryz.prog F (.agg [AV.i x.1,AV.i x.2.1,AV.i x.2.2]::caps) [] (.b (p x)) []) :
    aT Tryz.prog 125 [.rowE (eB l) 3,.clo (.func F) [] caps] [] (.i (oV p l 0)) []:=by
  have hlen:(eB l).length=l.length:=aF _;refine bK T Tryz.func125 rfl rfl rfl rfl ?_
  (repeat' (first|refine wS ?_|refine wB ?_|(refine rg 0 (aV ?_))|(refine rg 1 (mW rfl (qW T rfl (mV ?_))))|refine nZ ?_));refine cO (X:={k:Nat // k≤l.length∧oV p l 0=oV p (l.drop k) k}) (fun k=>[(0,.rowE (eB l) 3),(1,.clo (.func F) [] caps),(7,.i (eB l).length),(8,.i k.1)]) (fun _=>[]) (fun k=>l.length-k.1) ⟨0,by simp,rfl⟩ ⟨[],rfl,⟨rfl,by rw [kF hi];rfl,rfl,rfl,trivial⟩,trivial,cM,fun _ h=>absurd h (dA _)⟩ ?_
  rintro ⟨k,hk,he⟩;dsimp only;by_cases hlt:k<l.length
  · have hc:=hF l[k] (aH hlt);have hg:=RV (l:=l) hlt;rw [E1 hlt] at he;generalize l[k]=y at *;cases hp:p y with
    | true=>
      rw [hp] at hc;rw [hp,if_pos rfl] at he
      (repeat' (first|refine wS ?_|refine wB ?_|refine wK ?_|refine wR ?_|refine wT ?_|(refine wC rfl ?_ ?_<;>(intro hb;(try simp only [nm] at hb);try (exfalso;omega)))|(refine rg 2 (vV (aI rfl rfl) ?_))|(refine rg 3 (mW rfl (aV ?_)))|(refine rg 4 (dK rfl (mW rfl (vV (ix T rfl (by omega) (jM l) hg) (lW T rfl (vV (by exact eA rfl rfl hc rfl (by simp [AV.idfL,AV.idf,hi]) rfl) ?_))))))|(refine rg 5 (mW rfl (aV ?_)))|refine nZ ?_));all_goals first | (exfalso;omega) | exact cH (.inl rfl) rfl (by rw [he];rfl)
    | false=>
      rw [hp] at hc;rw [hp,if_neg (by simp)] at he
      (repeat' (first|refine wS ?_|refine wB ?_|refine wK ?_|refine wU ?_|(refine wC rfl ?_ ?_<;>(intro hb;(try simp only [nm] at hb);try (exfalso;omega)))|(refine rg 2 (vV (aI rfl rfl) ?_))|(refine rg 3 (mW rfl (aV ?_)))|(refine rg 4 (dK rfl (mW rfl (vV (ix T rfl (by omega) (jM l) hg) (lW T rfl (vV (by exact eA rfl rfl hc rfl (by simp [AV.idfL,AV.idf,hi]) rfl) ?_))))))|(refine rg 6 (vV (bY rfl rfl (by omega) (by omega)) (mV ?_)))|refine nZ ?_));all_goals first | (exfalso;omega) | exact ⟨⟨k+1,hlt,he⟩,by dsimp only;omega,⟨[],rfl,⟨rfl,by rw [kF hi];rfl,rfl,rfl,trivial⟩,trivial,cM,fun _ h=>absurd h (dA _)⟩⟩
  · rw [wG (by omega)] at he
    (repeat' (first|refine wS ?_|refine wR ?_|refine wE ?_|(refine wC rfl ?_ ?_<;>(intro hb;(try simp only [nm] at hb);try (exfalso;omega)))|(refine rg 2 (vV (aI rfl rfl) ?_))|(refine rg 7 (aV ?_))|refine nZ ?_));all_goals first | (exfalso;omega) | exact cH (.inl rfl) rfl (by rw [he];rfl)
theorem zM8 {l:List BX}{F:FuncId}{caps:List AV}{p:BX→Bool}(hl:l.length≤1000000) (hi:AV.idfL caps=true) (hF:∀ x,x∈l→aT Tryz.prog F (.agg [AV.i x.1,AV.i x.2.1,AV.i x.2.2]::caps) [] (.b (p x)) []) :
    aT Tryz.prog 84 [.rowE (eB l) 3,.clo (.func F) [] caps] [] (.b (l.any p)) []:=by
  have hc:=zX1 hl hi hF;rw [← tV p l 0];refine bK T Tryz.func84 rfl rfl rfl rfl ?_
  (repeat' (first|refine wS ?_|refine wR ?_|(refine rg 0 (aV ?_))|(refine rg 1 (dK rfl (vV (by exact eA rfl rfl hc rfl (by simp [AV.idfL,AV.idf,hi]) rfl) ?_));refine vV (gH rfl rfl) (aV ?_))|refine nZ ?_));all_goals first | (exfalso;omega) | exact rQ
theorem yB6 (x:KD):aT Tryz.prog 81 [.agg [AV.v (.string x.1),AV.i x.2]] [] (.b (zT5 x)) []:=by
  have hw:=lH x.2 0 1048576;unfold zT5;generalize fF x.2 0 1048576=v at *;refine bK T Tryz.func81 rfl rfl rfl rfl ?_
  (repeat' (first|refine wS ?_|refine wR ?_|(refine rg 0 (bN (cC rfl rfl) rfl (aV ?_)))|(refine rg 1 (gB T rfl (vV (kC (hw)) (vV (cY rfl) (aV ?_)))))|refine nZ ?_));all_goals first | (exfalso;omega) | exact rQ
theorem yB5 (ks:List KD) (x:LT) (hk:ks.length≤1000):aT Tryz.prog 83 [.agg [AV.i x.1,AV.i x.2.1,AV.b x.2.2],.pr [.rowE (fQ ks) 2] 0] [] (.b (zT4 ks.length x)) []:=by
  have e1:(fQ ks).length=ks.length:=by simp
  have hw:=lH x.1 0 (((fQ ks).length:Int)-1);unfold zT4;rw [e1] at hw;generalize fF x.1 0 ((ks.length:Int)-1)=v at *;rw [← e1] at hw;refine bK T Tryz.func83 rfl rfl rfl rfl ?_
  (repeat' (first|refine wS ?_|refine wR ?_|(refine rg 0 (bN (cC rfl rfl) rfl (aV ?_)))|(refine rg 1 (gB T rfl (lW T rfl (qW T rfl (vV (cX rfl rfl (by omega) (by omega)) (vV (kC (hw)) (vV (cY rfl) (aV ?_))))))))|refine nZ ?_));all_goals first | (exfalso;omega) | exact rQ
theorem yB7 (ls:List LT) (x:BX) (hk:ls.length≤1000):aT Tryz.prog 85 [.agg [AV.i x.1,AV.i x.2.1,AV.i x.2.2],.pr [.rowE (iS ls) 3] 0] [] (.b (zT6 ls.length x)) []:=by
  have e1:(iS ls).length=ls.length:=by simp
  obtain ⟨lot,ct,ta⟩:=x;have h1:=lH lot (-1) (((iS ls).length:Int)-1);have h2:=lH ct 0 20000;have h3:=lH ta 0 1073741824;unfold zT6;dsimp only;rw [e1] at h1;generalize fF lot (-1) ((ls.length:Int)-1)=v1 at *;rw [← e1] at h1;generalize fF ct 0 20000=v2 at *;generalize fF ta 0 1073741824=v3 at *;cases v1 <;> cases v2 <;> cases v3
  all_goals
    by_cases a1:lot<0
    · by_cases a2:0<ct
      · rw [decide_eq_true a1,decide_eq_true a2];refine bK T Tryz.func85 rfl rfl rfl rfl ?_
        (repeat' (first|refine wS ?_|refine wR ?_|(refine rg 0 (bN (cC rfl rfl) rfl (aV ?_)))|(refine rg 1 (gB T rfl (lW T rfl (qW T rfl (vV (cX rfl rfl (by omega) (by omega)) (vV (kC (h1)) (vV (cY rfl) (mV ?_)))))));(all_goals first|(refine gT (fW T rfl (gT (lW T rfl (gT (vV (kC (h2)) (gT (vV (cY rfl) ?_))))))))|(iterate 4 refine gF ?_));(all_goals (refine pW rfl (mV ?_)));(all_goals first|(refine gT (fW T rfl (gT (lW T rfl (gT (vV (aI rfl rfl) (gT (mV ?_))))))))|(iterate 4 refine gF ?_));(all_goals first|(refine gK ?_)|(refine bC rfl rfl ?_ ?_<;>(intro hb;rw [hb];(try simp only [nm] at hb);try (exfalso;omega))));(all_goals first|(refine gT (fW T rfl (gT (lW T rfl (gT (vV (eE rfl rfl) ?_))))))|(iterate 3 refine gU ?_));(all_goals first|(refine gT (pV ?_))|(refine gF ?_));(all_goals (refine pW rfl (mV ?_)));(all_goals first|(refine gK ?_)|(refine bC rfl rfl ?_ ?_<;>(intro hb;rw [hb];(try simp only [nm] at hb);try (exfalso;omega))));(all_goals ((iterate 4 refine gF ?_);refine pW rfl (aV ?_))))|refine nZ ?_));all_goals first | (exfalso;omega) | exact rQ
      · rw [decide_eq_true a1,decide_eq_false a2];refine bK T Tryz.func85 rfl rfl rfl rfl ?_
        (repeat' (first|refine wS ?_|refine wR ?_|(refine rg 0 (bN (cC rfl rfl) rfl (aV ?_)))|(refine rg 1 (gB T rfl (lW T rfl (qW T rfl (vV (cX rfl rfl (by omega) (by omega)) (vV (kC (h1)) (vV (cY rfl) (mV ?_)))))));(all_goals first|(refine gT (fW T rfl (gT (lW T rfl (gT (vV (kC (h2)) (gT (vV (cY rfl) ?_))))))))|(iterate 4 refine gF ?_));(all_goals (refine pW rfl (mV ?_)));(all_goals first|(refine gT (fW T rfl (gT (lW T rfl (gT (vV (aI rfl rfl) (gT (mV ?_))))))))|(iterate 4 refine gF ?_));(all_goals first|(refine gK ?_)|(refine bC rfl rfl ?_ ?_<;>(intro hb;rw [hb];(try simp only [nm] at hb);try (exfalso;omega))));(all_goals first|(refine gT (fW T rfl (gT (lW T rfl (gT (vV (eE rfl rfl) ?_))))))|(iterate 3 refine gU ?_));(all_goals first|(refine gT (pV ?_))|(refine gF ?_));(all_goals (refine pW rfl (mV ?_)));(all_goals first|(refine gK ?_)|(refine bC rfl rfl ?_ ?_<;>(intro hb;rw [hb];(try simp only [nm] at hb);try (exfalso;omega))));(all_goals first|(refine gT (fW T rfl (gT (lW T rfl (gT (vV (kC (h3)) (gT (vV (cY rfl) ?_))))))))|(iterate 4 refine gF ?_));(all_goals (refine pW rfl (aV ?_))))|refine nZ ?_));all_goals first | (exfalso;omega) | exact rQ
    · rw [decide_eq_false a1];refine bK T Tryz.func85 rfl rfl rfl rfl ?_
      (repeat' (first|refine wS ?_|refine wR ?_|(refine rg 0 (bN (cC rfl rfl) rfl (aV ?_)))|(refine rg 1 (gB T rfl (lW T rfl (qW T rfl (vV (cX rfl rfl (by omega) (by omega)) (vV (kC (h1)) (vV (cY rfl) (mV ?_)))))));(all_goals first|(refine gT (fW T rfl (gT (lW T rfl (gT (vV (kC (h2)) (gT (vV (cY rfl) ?_))))))))|(iterate 4 refine gF ?_));(all_goals (refine pW rfl (mV ?_)));(all_goals first|(refine gT (fW T rfl (gT (lW T rfl (gT (vV (aI rfl rfl) (gT (mV ?_))))))))|(iterate 4 refine gF ?_));(all_goals first|(refine gK ?_)|(refine bC rfl rfl ?_ ?_<;>(intro hb;rw [hb];(try simp only [nm] at hb);try (exfalso;omega))));(all_goals ((iterate 3 first|refine gF ?_|refine gU ?_)));(all_goals first|(refine gT (pV ?_))|(refine gF ?_));(all_goals (refine pW rfl (mV ?_)));(all_goals first|(refine gT (fW T rfl (gT (lW T rfl (gT (vV (kC (h3)) (gT (vV (cY rfl) ?_))))))))|(iterate 4 refine gF ?_));(all_goals (refine pW rfl (aV ?_))))|refine nZ ?_));all_goals first | (exfalso;omega) | exact rQ
theorem zS2 (ks:List KD) (ls:List LT) (bs:List BX) (h1:ks.length≤1000) (h2:ls.length≤1000) (h3:bs.length≤1000) :
    aT Tryz.prog 36 [.rowE (fQ ks) 2,.rowE (iS ls) 3,.rowE (ints (nats (List.range bs.length))) 1,.rowE (eB bs) 3] [] (.b (ID ks ls bs)) []:=by
  have en:(nats (List.range bs.length)).length=bs.length:=by simp
  have e3:(ints (nats (List.range bs.length))).length=bs.length:=by simp
  have e4:(eB bs).length=bs.length:=by simp
  have v1:=zL (nats (List.range bs.length));have v2:=J5 (nats (List.range bs.length)) (by omega)
  have hm:∀ i:Nat,i<bs.length→(i:Int)∈nats (List.range bs.length):=fun i hi=>bE.2 ⟨i,dD.2 hi,rfl⟩
  rw [J4 (n:=bs.length) en hm] at v2;have v3:=S4 (nats (List.range bs.length)) bs.length (by omega) (by omega)
  rw [DS] at v3;rw [show (bs.length:Int)=((eB bs).length:Int) by omega] at v3
  have c1:=zM7 (l:=ks) (F:=81) (caps:=[]) (p:=zT5) (by omega) rfl (fun x hx=>yB6 x)
  have c2:=zM6 (l:=ls) (F:=83) (caps:=[.pr [.rowE (fQ ks) 2] 0]) (p:=zT4 ks.length) (by omega) rfl (fun x hx=>yB5 ks x h1)
  have c3:=zM8 (l:=bs) (F:=85) (caps:=[.pr [.rowE (iS ls) 3] 0]) (p:=zT6 ls.length) (by omega) rfl (fun x hx=>yB7 ls x h2)
  unfold ID;generalize nats (List.range bs.length)=sr at *;generalize ks.any zT5=w1 at *;generalize ls.any (zT4 ks.length)=w2 at *;generalize bs.any (zT6 ls.length)=w3 at *;cases w1 <;> cases w2 <;> cases w3
  all_goals
    refine bK T Tryz.func36 rfl rfl rfl rfl ?_
    (repeat' (first|refine wS ?_|refine wK ?_|refine wU ?_|(refine rg 0 (bN (cC rfl rfl) rfl (bN (cC rfl rfl) rfl (aV ?_))))|(refine rg 1 (mW rfl (vV (kC (v1)) (vV (by exact eA rfl rfl v2 rfl rfl rfl) ?_)));refine aV ?_)|(refine rg 2 (mW rfl (qW T rfl (mW rfl (qW T rfl (vV (kZ rfl rfl (by omega)) (mW rfl (yN rfl (yN rfl (gT ?_)))))))));refine qW T rfl (yV (kC (v3)) (yV (cY rfl) (pV ?_))))|refine nZ ?_));all_goals try (exfalso;omega)
    (repeat' (first|refine wS ?_|refine wR ?_|(refine rg 4 (lW T rfl (vV (by exact eA rfl rfl c1 rfl rfl rfl) ?_));refine aV ?_)|(refine rg 5 (yG2 ?_);(all_goals first|(refine gT (lW T rfl (gT (vV (by exact jK rfl rfl) ?_)));refine gT (vV (by exact eJ rfl rfl c2 (.cons (.row _ _ _) (.cons (.clo .nil (.cons (.ptr rfl (.cons (.row _ _ _) .nil)) .nil)) .nil)) rfl rfl) ?_))|(iterate 3 refine gF ?_));(all_goals (refine pW rfl (aV ?_))))|(refine rg 6 (mW rfl (vV (cY rfl) (mV ?_)));(all_goals first|(refine gT (mW rfl (gT (vV (by exact jK rfl rfl) ?_)));refine gT (vV (by exact eJ rfl rfl c3 (.cons (.row _ _ _) (.cons (.clo .nil (.cons (.ptr rfl (.cons (.row _ _ _) .nil)) .nil)) .nil)) rfl rfl) ?_);refine gT (vV (cY rfl) ?_))|(iterate 4 refine gF ?_));(all_goals (refine pW rfl (aV ?_))))|refine nZ ?_));all_goals first | (exfalso;omega) | exact rQ
theorem zW2 (c:Cx) (h1:c.ks.length≤1000) (h2:c.ls.length≤1000) (h3:c.bs.length≤1000) (hno:(!qO c&&ID c.ks c.ls c.bs)=false) :
    aT Tryz.prog 9 [.agg [.i c.m,.i c.st,.i c.er,.i c.sl],.rowE (fQ c.ks) 2,.rowE (iS c.ls) 3,.rowE (eB c.bs) 3] [] (.tup [.v (.pointer none),.i 1]) []:=by
  have hbl:(eB c.bs).length=c.bs.length:=aF _;have hid:=Go.Proofs.YtmmkhmilpeodnaaGreat.ident_c c.bs.length (by omega)
  rw [show (c.bs.length:Int)=((eB c.bs).length:Int) by omega] at hid
  have htr:=zS2 c.ks c.ls c.bs h1 h2 h3;have hsn:=uX c;generalize ID c.ks c.ls c.bs=v at *;generalize qO c=w at *;cases w <;> cases v
  case false.true=>cases hno
  all_goals
    refine bK T Tryz.func9 rfl rfl rfl rfl ?_
    (repeat' (first|refine wS ?_|(refine rg 0 (bN (cC rfl rfl) rfl (oM ?_)))|refine nZ ?_));refine dU 4 rfl rfl rfl ?_
    (repeat' (first|refine wS ?_|refine wR ?_|refine wT ?_|(refine rg 1 (lW T rfl (vV (kC (hsn)) (vV (cY rfl) (mV ?_))));(all_goals first|(refine gT (mW rfl (gT (mW rfl (gT (mW rfl (gT (qW T rfl (gT (vV (kC (hid)) ?_)))))))));refine gT (mW rfl (gT (vV (kC (htr)) (gT (vV (cY rfl) ?_))))))|(iterate 8 refine gF ?_));(all_goals (refine pV ?_)))|(refine rg 2 (oM ?_))|refine nZ ?_));all_goals first | (exfalso;omega) | exact rQ
end Go.Proofs.YtmmkhmilpeodnaaGreat
namespace Go.Proofs.YtmmkhmilpeodnaaGreat
open Go Go.Ab Go.Ld
attribute [local irreducible] VC AW bX aT jU jB
set_option maxHeartbeats 4000000
theorem EN (l:List KD):∀ e,e∈fQ l→AV.idfL e=true:=by intro e he;obtain ⟨i,_,rfl⟩:=bE.1 he;rfl
theorem KV (l:List LT):∀ e,e∈iS l→AV.idfL e=true:=by intro e he;obtain ⟨i,_,rfl⟩:=bE.1 he;rfl
abbrev yB3 (c:Cx):List AV:=[.rowE (fQ c.ks) 2,.rowE (iS c.ls) 3,.rowE (Go.Ab.ints (nats (List.range c.bs.length))) 1,.rowE (eB c.bs) 3]
theorem zJ2 (c:Cx) (h1:c.ks.length≤1000) (h2:c.ls.length≤1000) (h3:c.bs.length≤1000) (hno:(!qO c&&ID c.ks c.ls c.bs)=false) :
    aT Tryz.prog 10 [.agg [.i c.m,.i c.st,.i c.er,.i c.sl],.rowE (fQ c.ks) 2,.rowE (iS c.ls) 3,.rowE (eB c.bs) 3] [] (.tup [.v (.pointer none),.i 1]) []:=by
  have hkl:(fQ c.ks).length=c.ks.length:=aF _;have hll:(iS c.ls).length=c.ls.length:=aF _;have hbl:(eB c.bs).length=c.bs.length:=aF _;have ik:=sQ (f:=fun b:KD=>[AV.v (.string b.1),AV.i b.2]) (fun _=>rfl) c.ks;have il:=sQ (f:=fun b:LT=>[AV.i b.1,AV.i b.2.1,AV.b b.2.2]) (fun _=>rfl) c.ls;have ib:=sQ (f:=fun b:BX=>[AV.i b.1,AV.i b.2.1,AV.i b.2.2]) (fun _=>rfl) c.bs;have dk:=EN c.ks;have dl:=KV c.ls;have db:=FE c.bs;have hid:=R37.refident_c (c.bs.length:Int) (by omega)
  rw [bH,show (c.bs.length:Int)=((eB c.bs).length:Int) by omega] at hid
  have htr:=PV c.ks c.ls (nats (List.range c.bs.length)) c.bs h1 h2 (by simp;omega) h3
  rw [WO] at htr;have hsn:=JG c.m c.st c.er c.sl;rw [PZ] at hsn;generalize ID c.ks c.ls c.bs=v at *;generalize qO c=w at *;cases w <;> cases v
  case false.true=>cases hno
  all_goals
    refine bK T Tryz.func10 rfl rfl rfl rfl ?_
    (repeat' (first|refine wS ?_|(refine rg 0 (bN (cC rfl rfl) rfl (oM ?_)))|refine nZ ?_));refine dU 4 rfl rfl rfl ?_
    (repeat' (first|refine wS ?_|(refine rg 1 (bN (by exact bD T rfl rfl (by decide) (by decide) rfl rfl rfl) rfl ?_);refine mW rfl (fY T rfl rfl rfl rfl rfl rfl (by decide) (.row (nK _)) ik (by simp;omega) (by simp;omega) rfl ?_);refine bN (by exact bD T rfl rfl (by decide) (by decide) rfl rfl rfl) rfl ?_;refine mW rfl (fY T rfl rfl rfl rfl rfl rfl (by decide) (.row (oU _)) il (by simp;omega) (by simp;omega) rfl ?_);refine mW rfl (qW T rfl (vV (kC (hid)) (bN (by exact bD T rfl rfl (by decide) (by decide) rfl rfl rfl) rfl ?_)));refine mW rfl (fY T rfl rfl rfl rfl rfl rfl (by decide) (.row (jM _)) ib (by simp;omega) (by simp;omega) rfl ?_);refine vV (by exact dY T rfl rfl rfl rfl) ?_;refine bN (bI T rfl) rfl (aL T rfl rfl rfl rfl rfl rfl (by decide) rfl ?_))|refine nZ ?_));refine iP 7 0 (es:=fQ c.ks) rfl rfl rfl (by simp) (fO dk) ?_
    refine iP 7 1 (es:=iS c.ls) rfl rfl rfl (by simp) (fO dl) ?_
    refine iP 7 3 (es:=eB c.bs) rfl rfl rfl (by simp) (fO db) ?_
    refine dU 10 (cs:=yB3 c) rfl rfl rfl ?_;refine eI [(3,.rowE (eB c.bs) 3),(4,.pr [.i c.m,.i c.st,.i c.er,.i c.sl] 0),(10,.pr (yB3 c) 0)] [] ⟨[],rfl,(by repeat first|exact trivial|refine ⟨rfl,?_⟩),trivial,cM,jJ _⟩ ?_
    (repeat' (first|refine wS ?_|refine wR ?_|refine wT ?_|(refine rg 2 (lW T rfl (vV (kC (hsn)) (vV (cY rfl) (mV ?_))));(all_goals first|(refine gT (fW T rfl (gT (lW T rfl (gT (fW T rfl (gT (lW T rfl (gT (fV T ?_)))))))));refine gT (lW T rfl (gT (fW T rfl (gT (lW T rfl (gT (vV (kC (htr)) (gT (vV (cY rfl) ?_))))))))))|(iterate 10 refine gF ?_));(all_goals (refine pV ?_)))|(refine rg 3 (oM ?_))|refine nZ ?_));all_goals first | (exfalso;omega) | exact rQ
abbrev VU (c:Cx):W:=(nats (List.range c.bs.length),0,c.bs.map fun b=>(b.2.1,b.2.1+1))
theorem XC (c:Cx) (h1:c.ks.length≤1000) (h2:c.ls.length≤1000) (h3:c.bs.length≤1000) (hs:qO c=false) (ht:ID c.ks c.ls c.bs=true) :
    aT Tryz.prog 10 [.agg [.i c.m,.i c.st,.i c.er,.i c.sl],.rowE (fQ c.ks) 2,.rowE (iS c.ls) 3,.rowE (eB c.bs) 3] [] (.tup [.ptr 0 0,.i 0]) [.cells (oD c [VU c])]:=by
  have hb:=(X4.1 ht).b;have hkl:(fQ c.ks).length=c.ks.length:=aF _;have hll:(iS c.ls).length=c.ls.length:=aF _;have hbl:(eB c.bs).length=c.bs.length:=aF _;have ik:=sQ (f:=fun b:KD=>[AV.v (.string b.1),AV.i b.2]) (fun _=>rfl) c.ks;have il:=sQ (f:=fun b:LT=>[AV.i b.1,AV.i b.2.1,AV.b b.2.2]) (fun _=>rfl) c.ls;have ib:=sQ (f:=fun b:BX=>[AV.i b.1,AV.i b.2.1,AV.i b.2.2]) (fun _=>rfl) c.bs;have dk:=EN c.ks;have dl:=KV c.ls;have db:=FE c.bs;have hid:=R37.refident_c (c.bs.length:Int) (by omega)
  rw [bH,show (c.bs.length:Int)=((eB c.bs).length:Int) by omega] at hid
  have htr:=PV c.ks c.ls (nats (List.range c.bs.length)) c.bs h1 h2 (by simp;omega) h3
  rw [WO,ht] at htr;have hsn:=JG c.m c.st c.er c.sl;rw [PZ,hs] at hsn;refine bK T Tryz.func10 rfl rfl rfl rfl ?_
  (repeat' (first|refine wS ?_|(refine rg 0 (bN (cC rfl rfl) rfl (oM ?_)))|refine nZ ?_));refine dU 4 rfl rfl rfl ?_
  (repeat' (first|refine wS ?_|(refine rg 1 (bN (by exact bD T rfl rfl (by decide) (by decide) rfl rfl rfl) rfl ?_);refine mW rfl (fY T rfl rfl rfl rfl rfl rfl (by decide) (.row (nK _)) ik (by simp;omega) (by simp;omega) rfl ?_);refine bN (by exact bD T rfl rfl (by decide) (by decide) rfl rfl rfl) rfl ?_;refine mW rfl (fY T rfl rfl rfl rfl rfl rfl (by decide) (.row (oU _)) il (by simp;omega) (by simp;omega) rfl ?_);refine mW rfl (qW T rfl (vV (kC (hid)) (bN (by exact bD T rfl rfl (by decide) (by decide) rfl rfl rfl) rfl ?_)));refine mW rfl (fY T rfl rfl rfl rfl rfl rfl (by decide) (.row (jM _)) ib (by simp;omega) (by simp;omega) rfl ?_);refine vV (by exact dY T rfl rfl rfl rfl) ?_;refine bN (bI T rfl) rfl (aL T rfl rfl rfl rfl rfl rfl (by decide) rfl ?_))|refine nZ ?_));refine iP 7 0 (es:=fQ c.ks) rfl rfl rfl (by simp) (fO dk) ?_
  refine iP 7 1 (es:=iS c.ls) rfl rfl rfl (by simp) (fO dl) ?_
  refine iP 7 3 (es:=eB c.bs) rfl rfl rfl (by simp) (fO db) ?_
  refine dU 10 (cs:=yB3 c) rfl rfl rfl ?_;refine eI [(3,.rowE (eB c.bs) 3),(4,.pr [.i c.m,.i c.st,.i c.er,.i c.sl] 0),(10,.pr (yB3 c) 0)] [] ⟨[],rfl,(by repeat first|exact trivial|refine ⟨rfl,?_⟩),trivial,cM,jJ _⟩ ?_
  (repeat' (first|refine wS ?_|refine wK ?_|refine wU ?_|(refine rg 2 (lW T rfl (vV (kC (hsn)) (vV (cY rfl) (mW rfl (yP T rfl (yO T rfl (yP T rfl (yO T rfl (yF T ?_)))))))));refine yO T rfl (yP T rfl (yO T rfl (yV (kC (htr)) (yV (cY rfl) (pV ?_))))))|(refine rg 4 (gB T rfl (vV (by exact dY T rfl rfl rfl rfl) ?_));refine bN (bI T rfl) rfl (aL T rfl rfl rfl rfl rfl rfl (by decide) rfl ?_))|refine nZ ?_));all_goals try (exfalso;omega)
  refine uU 0 2 2 rfl rfl (by decide) ?_
  (repeat' (first|refine wB ?_|(refine rg 5 (aV ?_))|refine nZ ?_));generalize hcl:(c.bs.map fun b=>(b.2.1,b.2.1+1))=cl
  have hl:cl.length=c.bs.length:=by rw [← hcl];exact aF _
  refine cO (X:={k:Nat // k≤c.bs.length}) (fun k=>[(3,.rowE (eB c.bs) 3),(4,.pr [.i c.m,.i c.st,.i c.er,.i c.sl] 0),(10,.pr (yB3 c) 0),(11,.ptr 0 0),(12,.i k.1)]) (fun k=>[.cells [.rowE (Go.Ab.ints (nats (List.range c.bs.length))) 1,.i 0,.sl 1 0 k.1 2],.arr (cT (cl.take k.1)) 2]) (fun k=>c.bs.length-k.1) ⟨0,bW _⟩ ⟨[0,1],rfl,(by repeat first|exact trivial|refine ⟨rfl,?_⟩),⟨.inr rfl,.inr rfl,trivial⟩,by decide,jJ _⟩ ?_
  rintro ⟨k,hk⟩;dsimp only;by_cases hlt:k<c.bs.length
  · have hb:=hb k hlt;have q1:=RV hlt;have hT:cl.take (k+1)=cl.take k++[((c.bs[k]).2.1,(c.bs[k]).2.1+1)]:=by
      rw [aP (by omega)]
      subst hcl;rw [iV]
    have hAl:(cl.take k).length=k:=by rw [bL];omega
    generalize c.bs[k]=bx at *;obtain ⟨b1,b2,b3⟩:=bx;dsimp only at *;have hA:cT (cl.take (k+1))=cT (cl.take k)++[[.i b2,.i (b2+1)]]:=by rw [hT,cT,dW];rfl
    have hS:(cT (cl.take k)).length=k:=by rw [gI,hAl]
    have hi:=cQ (cl.take (k+1));have hi0:=cQ (cl.take k);generalize cT (cl.take k)=A at *
    (repeat' (first|refine wS ?_|refine wB ?_|refine wK ?_|(refine wC rfl ?_ ?_<;>(intro hb;(try simp only [nm] at hb);try (exfalso;omega)))|(refine rg 6 (dK rfl (qW T rfl (vV (aI rfl rfl) ?_))))|(refine rB (id:=8) 73 [[],[0],[],[],[2,3],[2,3,4],rM 2 4,[],[],[7,8],[7,8,9],rM 7 4,rM 7 5,rM 2 11,rM 2 12,rN 15] (rM 50 16) [[],[],[50,51],[50,51,52],[50,51],[50,51],[50,51],rM 50 7,rM 50 8,rM 50 7,rM 50 7,rM 50 7,rM 50 7,[50,51],[50,51],[]] [(15,1)] cF rfl (by decide +kernel) (eN rfl rfl rfl rfl (by exact cD T rfl rfl rfl) ?_);refine eN rfl rfl rfl rfl (by exact aE T rfl rfl rfl rfl) ?_;refine eN rfl rfl rfl rfl (by exact bU rfl) ?_;refine eN rfl rfl rfl rfl (by exact bU rfl) ?_;refine eN rfl rfl rfl rfl (by exact ix T rfl (by omega) (jM _) q1) ?_;refine eN rfl rfl rfl rfl (by exact cD T rfl rfl rfl) ?_;refine eN rfl rfl rfl rfl (by exact aE T rfl rfl rfl rfl) ?_;refine eN rfl rfl rfl rfl (by exact bU rfl) ?_;refine eN rfl rfl rfl rfl (by exact bU rfl) ?_;refine eN rfl rfl rfl rfl (by exact ix T rfl (by omega) (jM _) q1) ?_;refine eN rfl rfl rfl rfl (by exact cD T rfl rfl rfl) ?_;refine eN rfl rfl rfl rfl (by exact aE T rfl rfl rfl rfl) ?_;refine eN rfl rfl rfl rfl (by exact bY rfl rfl (by omega) (by omega)) ?_;refine eN rfl rfl rfl rfl (by exact dY T rfl rfl rfl rfl) ?_;refine M3 rfl rfl rfl rfl (by exact bD T rfl rfl (by decide) (by decide) rfl rfl rfl) rfl ?_;refine tZ rfl rfl rfl rfl (aY rfl) (by exact rC T rfl rfl rfl rfl rfl rfl (by omega) (kP.whole rfl rfl) rfl (by simp;omega) (by simp;omega)) ?_;refine yA rfl rfl rfl (by exact rfl) ?_;refine fW T rfl (aL T rfl rfl rfl rfl rfl rfl (by decide) rfl ?_))|refine nZ ?_));all_goals try (exfalso;omega)
    show AW _ _ _ _ _ _;refine eI [(3,.rowE (eB c.bs) 3),(4,.pr [.i c.m,.i c.st,.i c.er,.i c.sl] 0),(10,.pr (yB3 c) 0),(11,.ptr 0 0),(12,.i k)] [.cells [.rowE (Go.Ab.ints (nats (List.range c.bs.length))) 1,.i 0,.sl 1 0 (k+1) 2],.arr (A++[[.i b2,.i (b2+1)]]) 2]
      ⟨[0,3],rfl,(by repeat first|exact trivial|refine ⟨rfl,?_⟩),⟨.inr rfl,.inr (zB3 rfl (by rw [nJ];exact bV (by omega)) rfl hi0),trivial⟩,by decide,jJ _⟩ ?_
    (repeat' (first|(refine iA 7 rfl rfl rfl (by omega) (by omega) ?_)|refine nZ ?_));all_goals exact ⟨⟨k+1,hlt⟩,by dsimp only;omega,⟨[0,1],rfl,(by repeat first|exact trivial|refine ⟨rfl,?_⟩),⟨.inr rfl,.inr (aD rfl (by dsimp only;rw [hA]) hi),trivial⟩,by decide,jJ _⟩⟩
  · obtain rfl:k=c.bs.length:=by omega
    have hi:=cQ cl;rw [← hl,dI,hl];refine iP 0 2 (es:=cT cl) rfl rfl rfl (by rw [gI,hl]) (fO hi) ?_
    refine dU 11 (cs:=[.rowE (Go.Ab.ints (nats (List.range c.bs.length))) 1,.i 0,.rowE (cT cl) 2]) rfl rfl rfl ?_
    (repeat' (first|refine wS ?_|refine wR ?_|refine wE ?_|(refine wC rfl ?_ ?_<;>(intro hb;(try simp only [nm] at hb);try (exfalso;omega)))|(refine rg 6 (dK rfl (qW T rfl (vV (aI rfl rfl) ?_))))|(refine rg 9 (lW T rfl (lW T rfl (lW T rfl (bN (by exact bD T rfl rfl (by decide) (by decide) rfl rfl rfl) rfl ?_))));refine mE 70 rfl rfl rfl rfl ?_;refine vV (by exact dY T rfl rfl rfl rfl) ?_;refine bN (cC rfl rfl) rfl (oM ?_))|refine nZ ?_));all_goals try (exfalso;omega)
    all_goals subst hcl
    all_goals exact ⟨.inl rfl,[3],_,rfl,rfl,rfl,⟨.inr rfl,trivial⟩,by decide,jJ _⟩
theorem zW3 (c:Cx) (h1:c.ks.length≤1000) (h2:c.ls.length≤1000) (h0:c.bs=[]) (hs:qO c=false) (ht:ID c.ks c.ls c.bs=true) :
    aT Tryz.prog 9 [.agg [.i c.m,.i c.st,.i c.er,.i c.sl],.rowE (fQ c.ks) 2,.rowE (iS c.ls) 3,.rowE (eB c.bs) 3] [] (.tup [.ptr 0 0,.i 0]) [.cells [.i c.m,.i c.st,.i c.er,.i c.sl,.rowE (fQ c.ks) 2,.rowE (iS c.ls) 3,.rowE (eB c.bs) 3,.nils]]:=by
  have hbl:(eB c.bs).length=0:=by rw [h0];rfl
  have hid:=ident_c c.bs.length (by rw [h0];decide)
  have htr:=zS2 c.ks c.ls c.bs h1 h2 (by rw [h0];decide)
  rw [ht] at htr;rw [show (c.bs.length:Int)=((eB c.bs).length:Int) by rw [h0];rfl] at hid
  have hsn:=uX c;rw [hs] at hsn;have c1:=MA c.ks (by omega)
  have c2:=LZ c.ls (by omega)
  have c3:=MC c.bs (by rw [h0];decide)
  refine bK T Tryz.func9 rfl rfl rfl rfl ?_
  (repeat' (first|refine wS ?_|(refine rg 0 (bN (cC rfl rfl) rfl (oM ?_)))|refine nZ ?_));refine dU 4 rfl rfl rfl ?_
  (repeat' (first|refine wS ?_|refine wK ?_|refine wU ?_|(refine rg 1 (lW T rfl (vV (kC (hsn)) (vV (cY rfl) (mW rfl (yN rfl (yN rfl (yN rfl (gT (qV T ?_)))))))));refine yV (kC (hid)) (yN rfl (yV (kC (htr)) (yV (cY rfl) (pV ?_)))))|(refine bQ (id:=3) 69 [[],[],[1],[],[1,2,3],[],rM 1 5,rN 7,rN 8] (rM 27 9) yQ0 cF rfl (by decide +kernel) (dO T rfl (dN rfl (dV rfl (kC (c1)) (dN rfl (dV rfl (kC (c2)) (dN rfl (dV rfl (kC (c3)) (dV rfl (by exact dY T rfl rfl rfl rfl) ?_))))))));refine pX rfl rfl rfl (by exact cC rfl rfl) rfl ?_;refine dE ?_;refine aV ?_)|refine nZ ?_));all_goals try (exfalso;omega)
  refine eI [(3,.rowE (eB c.bs) 3),(10,.ptr 0 0)] [.cells [.i c.m,.i c.st,.i c.er,.i c.sl,.rowE (fQ c.ks) 2,.rowE (iS c.ls) 3,.rowE (eB c.bs) 3,.nils]] ⟨[1],rfl,(by repeat first|exact trivial|refine ⟨rfl,?_⟩),⟨.inr rfl,trivial⟩,by decide,jJ _⟩ ?_
  (repeat' (first|refine wB ?_|(refine rg 4 (mW rfl (qW T rfl (mV ?_))))|refine nZ ?_));all_goals try (exfalso;omega)
  refine cO (X:=Unit) (fun _=>[(10,.ptr 0 0),(36,.rowE (eB c.bs) 3),(37,.i (eB c.bs).length),(38,.i 0)]) (fun _=>[.cells [.i c.m,.i c.st,.i c.er,.i c.sl,.rowE (fQ c.ks) 2,.rowE (iS c.ls) 3,.rowE (eB c.bs) 3,.nils]]) (fun _=>0) () ⟨[0],rfl,(by repeat first|exact trivial|refine ⟨rfl,?_⟩),⟨.inr rfl,trivial⟩,by decide,jJ _⟩ ?_
  rintro ⟨⟩
  (repeat' (first|refine wS ?_|refine wR ?_|refine wE ?_|(refine wC rfl ?_ ?_<;>(intro hb;(try simp only [nm] at hb);try (exfalso;omega)))|(refine rg 5 (vV (aI rfl rfl) ?_))|(refine rg 10 (mW rfl (oM ?_)))|refine nZ ?_));all_goals try (exfalso;omega)
  all_goals exact ⟨.inl rfl,[0],_,rfl,rfl,rfl,⟨.inr rfl,trivial⟩,by decide,jJ _⟩
end Go.Proofs.YtmmkhmilpeodnaaGreat
namespace Go.Ld
open Go.Ab Go.Proofs.YtmmkhmilpeodnaaGreat
structure B8 (c:Cx) (m:Nat) (gs:List G) (L:List W):Prop where
  gk:kV c gs
  pd:lR c gs
  ri:wP c gs L
  pr:gW gs≤2 ^ m
  ll:L.length≤2 ^ m
theorem XW {m:Nat}(h:m≤5):2 ^ m≤32:=Nat.pow_le_pow_right (by decide) h
theorem PW (s:Ev) (m:Nat):2 ^ m*DG s=2 ^ (m+if s.k=4 then 1 else 0):=by
  unfold DG;split <;> simp [Nat.pow_succ]
theorem B8.step {c:Cx}{m:Nat}{gs:List G}{L:List W}{s:Ev}(hc:qN c) (hn:c.bs.length≤6) (hm:m≤5) (h:B8 c m gs L) :
    (Go.Ld.seeR c L s).1=(lQ c gs s).1∧B8 c (m+if s.k=4 then 1 else 0) (lQ c gs s).2 (Go.Ld.seeR c L s).2:=by
  have h32:=XW hm;have hsw:DG s≤2:=by unfold DG;split <;> omega
  have hl2:L.length*DG s≤32*2:=N4 (bP h.ll h32) hsw;have hp:=h.pr;obtain ⟨e1,e2,e3⟩:=h.ri.step (s:=s) hc h.gk h.pd hn (by omega) (by omega)
  have hm0:=hc.s.1;have hm1:=hc.s.2.1;refine ⟨e1,P4 h.gk hm0 hm1,JL h.pd,e2,?_,?_⟩
  · rw [← PW];exact bP (WX h.gk hm0 hm1) (fK _ h.pr)
  · rw [← PW];exact bP e3 (fK _ h.ll)
theorem B8.new {c:Cx}(hc:qN c) (hn:c.bs.length≤6):B8 c 0 (qL c) [(nats (List.range c.bs.length),0,c.bs.map fun b=>(b.2.1,b.2.1+1))]:=
  ⟨OD hc (by omega) hc.s.1,ZA hc.s.1,YX hc hn,by rw [YZ];exact bA _,bA _⟩
theorem GQ {c:Cx}{gs:List G}(h:kV c gs){b:Int}{g:G}{i:Nat}(hg:pU gs b=some (g,i)):GM c b:=by
  obtain ⟨k,_,h2,h3,_⟩:=qF hg;exact (h.mid.out.ok g (aS h2)).rg b h3
theorem Y5 {c:Cx}{gs:List G}(h:kV c gs){b:Int}(hg:pU gs b=none):¬ GM c b:=fun hb=>by
  obtain ⟨g,e,_⟩:=zA1 (h.mid.find hb);rw [hg] at e;cases e
theorem X7 {c:Cx}{L:List W}{b:Int}(h:GM c b):mY c L b=KB c L b.toNat:=if_pos h
theorem AQ {c:Cx}{L:List W}{b:Int}(h:¬ GM c b):mY c L b=[]:=if_neg h
theorem QJ {c:Cx}{L:List W}{b:Int}(h:GM c b):vR c L b=xC (rG c L) b.toNat:=if_pos h
theorem XB {c:Cx}{L:List W}{b:Int}(h:¬ GM c b):vR c L b=(0,0):=if_neg h
theorem zK0 {c:Cx}{gs:List G}{L:List W}{b:Int}(h:kV c gs) (hp:lR c gs) (e:wP c gs L) (hb:GM c b):mY c L b≠[]:=by
  obtain ⟨g,hg,hm,hbg⟩:=zA1 (h.mid.find hb);rw [X7 hb,← X6 h hp e hb.1 hb.2 hg];have hne:=h.mid.ne g hm;obtain ⟨w,hw⟩:=T2 _ hne;exact List.ne_nil_of_mem (AP.2 ⟨w,hw,rfl⟩)
end Go.Ld
namespace Go.Proofs.YtmmkhmilpeodnaaGreat
open Go Go.Ab Go.Ld
attribute [local irreducible] VC AW bX aT jU jB
set_option maxHeartbeats 4000000
theorem GB (c:Cx) (gs:List G) (b:Int) (h:kV c gs) (hg:pU gs b=none) :
    aT Tryz.prog 16 [.pr (gZ c gs) 0,.i b] [] (.sl 0 0 0 1) [.arr [] 1]:=by
  have hl12:gs.length≤12:=bP h.mid.out.len h.mid.out.ln;have hgr:=LJ c gs b (by omega) (fun x hx=>by have:=(h.mid.out.ok x hx).ln;omega) hg
  have hs1:=NK [] (by decide)
  have hs2:=EZ [] (by decide)
  have e1:jD []=[]:=fE.1 (by rw [pF];rfl)
  have e2:G7 []=[]:=rfl;rw [e1] at hs1;rw [e2] at hs2;refine bK T Tryz.func16 rfl rfl rfl rfl ?_
  (repeat' (first|refine wS ?_|(refine rg 0 (aV ?_))|(refine rg 1 (dK rfl (vV (kC (hgr)) (mW rfl (xW rfl (xW rfl (xW rfl (bN (bI T rfl) rfl (aL T rfl rfl rfl rfl rfl rfl (by decide) rfl (oM ?_))))))))))|refine nZ ?_));all_goals try (exfalso;omega)
  refine dU 5 (cs:=[.nils,.nils]) rfl rfl rfl ?_
  (repeat' (first|refine wS ?_|(refine rg 2 (vV (eL rfl) (sF 8 1 rfl (by decide) ?_)))|refine nZ ?_));all_goals try (exfalso;omega)
  (repeat' (first|refine wB ?_|(refine rg 3 (gB T rfl (vV (UM T rfl rfl) (mV ?_))))|refine nZ ?_));all_goals try (exfalso;omega)
  refine cO (X:=Unit) (fun _=>[(8,.sl 0 0 0 1),(20,.i 0),(21,.i 0)]) (fun _=>[.arr [] 1]) (fun _=>0) () ⟨[1],rfl,(by repeat first|exact trivial|refine ⟨rfl,?_⟩),⟨.inr rfl,trivial⟩,by decide,jJ _⟩ ?_
  rintro ⟨⟩
  (repeat' (first|refine wS ?_|refine wR ?_|refine wE ?_|refine wU ?_|(refine rg 4 (vV (aI rfl rfl) ?_))|(refine rg 8 (mW rfl (fP [0] rfl rfl (hs1) rfl rfl (by decide) ⟨.inr rfl,trivial⟩ (by simp) rfl ?_)))|(refine rg 9 (mW rfl (fP [0] rfl rfl (hs2) rfl rfl (by decide) ⟨.inr rfl,trivial⟩ (by simp) rfl ?_));refine aV ?_)|refine nZ ?_));all_goals try (exfalso;omega)
  exact ⟨.inl rfl,[0],_,rfl,rfl,rfl,⟨.inr rfl,trivial⟩,by decide,jJ _⟩
theorem XN (c:Cx) (gs:List G) (b:Int) (h:kV c gs) (hg:pU gs b=none) :
    aT Tryz.prog 18 [.pr (gZ c gs) 0,.i b] [] (jC 0 0) []:=by
  have hl12:gs.length≤12:=bP h.mid.out.len h.mid.out.ln;have hgr:=LJ c gs b (by omega) (fun x hx=>by have:=(h.mid.out.ok x hx).ln;omega) hg
  refine bK T Tryz.func18 rfl rfl rfl rfl ?_
  (repeat' (first|refine wS ?_|refine wR ?_|refine wT ?_|(refine rg 0 (bN (bI T rfl) rfl ?_))|(refine rg 1 (dK rfl (vV (kC (hgr)) (mW rfl (xW rfl (xW rfl (xW rfl (bN (bI T rfl) rfl (aL T rfl rfl rfl rfl rfl rfl (by decide) rfl (oM ?_))))))))))|(refine rg 2 (mW rfl (vV (cY rfl) ?_)))|(refine rg 3 (vV (by exact dY T rfl rfl rfl rfl) ?_);refine aL T rfl rfl rfl rfl rfl rfl (by decide) rfl ?_)|refine nZ ?_));all_goals first | (exfalso;omega) | exact rQ
theorem ZV (c:Cx) (gs:List G) (b:Int) (h:kV c gs) (hg:pU gs b=none) :
    aT Tryz.prog 13 [.pr (gZ c gs) 0,.i b] [] (.tup [.i 0,.b false]) []:=by
  have hp:=GB c gs b h hg;refine bK T Tryz.func13 rfl rfl rfl rfl ?_
  (repeat' (first|refine wS ?_|refine wR ?_|refine wT ?_|(refine rg 0 (oM ?_))|(refine rg 1 (dK rfl (bN (by exact fX rfl rfl hp (.inr ⟨rfl,rfl,by simp⟩)) rfl ?_));refine aV ?_)|(refine rg 2 (mW rfl (qW T rfl (vV (eX rfl rfl) ?_))))|(refine rg 3 (oM ?_))|refine nZ ?_));all_goals try (exfalso;omega)
  all_goals exact rQ
theorem ZF (c:Cx) (gs:List G) (b lot:Int) (h:kV c gs) (hg:pU gs b=none) :
    aT Tryz.prog 20 [.pr (gZ c gs) 0,.i b,.i lot] [] (.i 0) []:=by
  have hp:=GB c gs b h hg;refine bK T Tryz.func20 rfl rfl rfl rfl ?_
  (repeat' (first|refine wS ?_|(refine rg 0 (bN (cC rfl rfl) rfl (bN (cC rfl rfl) rfl (aV ?_))))|refine nZ ?_));refine dU 3 rfl rfl rfl ?_
  refine dU 5 rfl rfl rfl ?_
  repeat' (first|refine wS ?_|(refine rg 1 (lW T rfl (mW rfl (bN (by exact fX rfl rfl hp (.inr ⟨rfl,rfl,by simp⟩)) rfl ?_)));refine aV ?_)|refine nZ ?_)
  (repeat' (first|refine wS ?_|refine wR ?_|refine wT ?_|(refine rg 2 (mW rfl (qW T rfl (vV (eQ rfl rfl) (mV ?_))));(iterate 3 refine gF ?_);refine pV ?_)|(refine rg 3 (aV ?_))|refine nZ ?_));all_goals try (exfalso;omega)
  all_goals exact rQ
theorem zJ9 {c:Cx}{gs:List G}{L:List W}(h:kV c gs) (hp:lR c gs) (e:wP c gs L) (b:Int) :
    aT Tryz.prog 16 [.pr (gZ c gs) 0,.i b] [] (.sl 0 0 (mY c L b).length 1) [.arr (ints (mY c L b)) 1]:=by
  cases hg:pU gs b with
  | none=>
    rw [AQ (Y5 h hg)];exact GB c gs b h hg
  | some x=>
    obtain ⟨g,i⟩:=x;have hb:=GQ h hg;rw [X7 hb,← X6 h hp e hb.1 hb.2 hg];exact GA c gs b h hg
theorem ZW {c:Cx}{gs:List G}{L:List W}(h:kV c gs) (hp:lR c gs) (e:wP c gs L) (b:Int) :
    aT Tryz.prog 13 [.pr (gZ c gs) 0,.i b] [] (.tup [.i (zG6 (mY c L b)).1,.b (zG6 (mY c L b)).2]) []:=by
  cases hg:pU gs b with
  | none=>
    rw [AQ (Y5 h hg)];exact ZV c gs b h hg
  | some x=>
    obtain ⟨g,i⟩:=x;have hb:=GQ h hg;rw [X7 hb,← X6 h hp e hb.1 hb.2 hg];exact H8 c gs b h hg
theorem XO {c:Cx}{gs:List G}{L:List W}(h:kV c gs) (hp:lR c gs) (e:wP c gs L) (b:Int) :
    aT Tryz.prog 18 [.pr (gZ c gs) 0,.i b] [] (.agg [.i (vR c L b).1,.i (vR c L b).2]) []:=by
  cases hg:pU gs b with
  | none=>
    rw [XB (Y5 h hg)];exact XN c gs b h hg
  | some x=>
    obtain ⟨g,i⟩:=x;have hb:=GQ h hg;rw [QJ hb,← XA h hp e hb.1 hb.2 hg];exact FY c gs b h hg
theorem ZH {c:Cx}{gs:List G}{L:List W}(h:kV c gs) (hp:lR c gs) (e:wP c gs L) (b lot:Int) :
    aT Tryz.prog 20 [.pr (gZ c gs) 0,.i b,.i lot] [] (.i (vB c (mY c L b) (vR c L b) lot)) []:=by
  cases hg:pU gs b with
  | none=>
    rw [AQ (Y5 h hg)];exact ZF c gs b lot h hg
  | some x=>
    obtain ⟨g,i⟩:=x;have hb:=GQ h hg;rw [X7 hb,QJ hb,← X6 h hp e hb.1 hb.2 hg,← XA h hp e hb.1 hb.2 hg];obtain ⟨k,_,h2,h3,h4⟩:=qF hg;have hm:=aS h2;have hi:i<g.1.length:=by rw [h4];exact iD h3
    exact K8 c gs b lot h hg (XY h hm hi) (by have:=h.mid.wl g hm;have:=XZ (g:=g) (i:=i);omega)
end Go.Proofs.YtmmkhmilpeodnaaGreat
