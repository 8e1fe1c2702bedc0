/-
  Texts of the logic and of the layer,in one module (part 7).
-/
import Derived.Test.YtmmkhmilpeodnaaGreatH6
set_option linter.unusedVariables false
set_option linter.unusedSimpArgs false
set_option linter.unnecessarySimpa false
namespace Go.Ld
open Go.Ab Go.Proofs.YtmmkhmilpeodnaaGreat
def IZ (c:Cx) (s:Ev) (g:G) (w:W):List W:=
  (if (iO c w (g.1.idxOf s.a) s).2 then [(iO c w (g.1.idxOf s.a) s).1] else [])++(if s.k=4 then [mT w (g.1.idxOf s.a) (g.1.idxOf s.b)] else [])
def vW (c:Cx) (s:Ev) (g:G) (k:Nat):List W:=(g.2.take k).flatMap (IZ c s g)
theorem TW (c:Cx) (s:Ev) (g:G):vW c s g g.2.length=lZ c s g:=by unfold vW;rw [dI];rfl
theorem BD {c:Cx}{s:Ev}{g:G}{k:Nat}(h:k<g.2.length):vW c s g (k+1)=vW c s g k++IZ c s g g.2[k]:=by
  unfold vW;rw [aP h,fS,bJ,CR,List.append_nil]
theorem SY {c:Cx}{s:Ev}{g:G}{w:W}:(IZ c s g w).length≤2:=by
  unfold IZ;rw [aJ];split <;> split <;> simp
theorem EG {c:Cx}{s:Ev}{g:G}:∀ {k:Nat},k≤g.2.length→(vW c s g k).length≤2*k
  | 0,_=>by simp [vW]
  | k+1,h=>by
    rw [BD (by omega),aJ]
    have:=EG (c:=c) (s:=s) (g:=g) (k:=k) (by omega)
    have:=SY (c:=c) (s:=s) (g:=g) (w:=g.2[k]'(by omega))
    omega
theorem QM (l:List Int):AB.rf (.arr (Go.Ab.ints l) 1)=true:=by
  show (Go.Ab.ints l).all AV.rfL=true;rw [bF];intro e he;obtain ⟨x,_,rfl⟩:=bE.1 he;rfl
theorem XI (l:List SP):AB.rf (.arr (cT l) 2)=true:=by
  show (cT l).all AV.rfL=true;rw [bF];intro e he;obtain ⟨x,_,rfl⟩:=bE.1 he;rfl
theorem QL (a:List Int) (b:List SP):[AB.arr (Go.Ab.ints a) 1,.arr (cT b) 2].all AB.rf=true:=by
  simp only [zK,QM,XI,List.all_nil,Bool.and_self]
theorem IS {c:Cx}{n:Nat}{gs:List G}(h:nY n gs):nY n (uW c gs):=by
  have h:=h.paid c;unfold uW;generalize paid c gs=L at *;have hp:=dS cG (L.flatMap fun g=>lY g.1.length g);have hmem:∀ x,x∈qP L→∃ g,g∈L∧x∈lY g.1.length g:=fun x hx=>fI.1 (hp.mem_iff.1 hx);have bod:((qP L).flatMap (·.1)).Perm (L.flatMap (·.1)):=(hp.flatMap_right _).trans (sW fun g hg=>zU _ (h.ok g hg));refine ⟨fun x hx=>?_,bod.nodup_iff.2 h.nd,by rw [bod.length_eq];exact h.ln,fun x hx=>?_⟩
  all_goals obtain ⟨g,hg,hx⟩:=hmem x hx
  · exact GD _ (h.ok g hg) x hx
  · exact KI (by omega) (h.ws g hg) x hx
abbrev sX (s:Ev):List AV:=[.i s.k,.i s.a,.i s.b,.i s.n,.rowE (Go.Ab.ints s.ids) 1]
end Go.Ld
namespace Go.Proofs.YtmmkhmilpeodnaaGreat
open Go Go.Ab Go.Ld
attribute [local irreducible] VC AW bX aT jU
set_option maxHeartbeats 4000000
theorem zV1 (g:G):aT Tryz.prog 52 [VP g] [] (.b g.2.isEmpty) []:=by
  obtain ⟨bs,ws⟩:=g;cases ws with
  | nil=>
    refine bK T Tryz.func52 rfl rfl rfl rfl ?_
    (repeat' (first|refine wS ?_|refine wR ?_|(refine rg 0 (bN (cC rfl rfl) rfl (aV ?_)))|(refine rg 1 (gB T rfl (qW T rfl (vV (eQ rfl rfl) (aV ?_)))))|refine nZ ?_));all_goals first | (exfalso;omega) | exact rQ
  | cons w ws=>
    have hl:(fH (w::ws)).length≠0:=by rw [fJ];simp
    refine bK T Tryz.func52 rfl rfl rfl rfl ?_
    (repeat' (first|refine wS ?_|refine wR ?_|(refine rg 0 (bN (cC rfl rfl) rfl (aV ?_)))|(refine rg 1 (gB T rfl (qW T rfl (vV (eQ rfl rfl) (aV ?_)))))|refine nZ ?_));all_goals first | (exfalso;omega) | exact rQ
noncomputable def yC6:Code:=match Tryz.f11.body with
  | some (.seq _ (.seq _ (.seq _ (.seq _ c))))=>c
  | _=>.skip
noncomputable def seeR:Code:=match yC6 with
  | .seq a _=>a
  | _=>.skip
noncomputable def yH2:Code:=match yC6 with
  | .seq _ b=>b
  | _=>.skip
theorem NL (c:Cx) (l all:List G) (s:Ev){M:Int}(hc:qN c) (h:zC c M all s) (hM:M≤2200000) (hids:s.ids.length≤9223372036854775807) :
    AW Tryz.prog (Tryz.f11.ntmps,1) seeR [(0,.ptr 0 0),(3,.pr (sX s) 0),(5,.sl 1 0 all.length 2)] [.cells (gZ c l),.arr (kD all) 2] (KR (fun v h=>AW Tryz.prog (Tryz.f11.ntmps,1) yH2 v h (XJ T Tryz.f11.results.toList 1 (.i (rK c l all s).1) [.cells (gZ c (rK c l all s).2)])) (XJ T Tryz.f11.results.toList 1 (.i (rK c l all s).1) [.cells (gZ c (rK c l all s).2)])):=by
  obtain ⟨i,g,hi,hg,hgm,hat,ha,hb⟩:=h.at;have hn12:=h.mid.n12;have hal:(kD all).length=all.length:=kB _;have hl12:all.length≤12:=bP h.mid.out.len h.mid.out.ln;have og:=h.mid.out.ok g hgm;have hwl:=h.mid.wl g hgm;have hln:=og.ln;have hil:=(aB.1 hg).1;have f1:=xS all s.a (by omega) (fun g hg=>by have:=(h.mid.out.ok g hg).ln;omega)
  have hvw:∀ {x:AB} {r:Hp},oN (x :: .arr (kD all) 2::r) (.sl 1 0 all.length 2) (.rowE (kD all) 2):=fun {x r}=>vK rfl hal.symm (vT (fun _=>rfl) _);have hix:=xK g.1 s.a (by omega)
  have hxi:xM g.1 s.a 0=((g.1.idxOf s.a:Nat):Int):=by have:=E0 g.1 s.a 0 ha;simpa using this
  rw [hxi] at hix;rw [hi] at f1;have q1:=A0 (L:=all) (j:=(i:Int)) (i:=i) hg rfl;unfold rK;dsimp only;rw [hat,hi,bH];obtain ⟨bs,ws⟩:=g;dsimp only at *;have hwsl:(fH ws).length=ws.length:=fJ _
  (repeat' (first|refine wS ?_|(refine rg 9 (mW rfl (fW T rfl (vV (aE T rfl rfl rfl rfl) (vV (by exact eJ rfl rfl f1 (.cons hvw (.cons (.v _) .nil)) rfl rfl) ?_))));refine aV ?_)|(refine rg 10 (dK rfl (vV (by exact aK T rfl rfl rfl rfl rfl (by omega) (by omega)) ?_));refine fW T rfl (vV (by exact aE T rfl rfl (bM rfl q1) rfl) ?_);refine vV (by exact dY T rfl rfl rfl rfl) ?_;refine bN (bI T rfl) rfl (aL T rfl rfl rfl rfl rfl rfl (by decide) rfl ?_))|refine nZ ?_));all_goals try (exfalso;omega)
  refine uU 2 1 3 rfl rfl (by decide) ?_
  (repeat' (first|refine wS ?_|refine wB ?_|(refine rg 11 (fW T rfl (vV (aE T rfl rfl rfl rfl) (fW T rfl (vV (aE T rfl rfl rfl rfl) (vV (kC (hix)) (aV ?_)))))))|(refine rg 12 (dK rfl (vV (by exact aK T rfl rfl rfl rfl rfl (by omega) (by omega)) ?_));refine fW T rfl (vV (by exact aE T rfl rfl (bM rfl q1) rfl) ?_);refine qW T rfl (mV ?_))|refine nZ ?_));all_goals try (exfalso;omega)
  refine cO (X:={k:Nat // k≤ws.length}) (fun k=>[(0,.ptr 0 0),(3,.pr (sX s) 0),(5,.sl 1 0 all.length 2),(8,.i i),(9,.ptr 2 0),(10,.i (bs.idxOf s.a:Nat)),(63,.rowE (fH ws) 3),(64,.i (fH ws).length),(65,.i k.1)]) (fun k=>[.cells (gZ c l),.arr (kD all) 2,.cells [.rowE (ints bs) 1,.sl 3 0 (vW c s (bs,ws) k.1).length 3],.arr (fH (vW c s (bs,ws) k.1)) 3]) (fun k=>ws.length-k.1) ⟨0,bW _⟩ ⟨[0,1,2,3],rfl,(by repeat first|exact trivial|refine ⟨rfl,?_⟩),⟨.inr rfl,.inr (aD rfl rfl (eP _)),.inr rfl,.inr rfl,trivial⟩,by decide,qQ _⟩ ?_
  rintro ⟨k,hk⟩;dsimp only;by_cases hlt:k<ws.length
  · have hgk:=nN hlt;have hst:=BD (c:=c) (s:=s) (g:=(bs,ws)) (k:=k) hlt;have hal2:=EG (c:=c) (s:=s) (g:=(bs,ws)) (k:=k) hk;have ow:=og.ws ws[k] (aH hlt);obtain ⟨hidx,_⟩:=xL ha;have hbw:=zC7 c l ws[k] s hc ow rfl hidx (by show bs.length≤1000;omega) hids ⟨h.n0,h.n1⟩
    obtain ⟨e1,e2⟩:=HO c ws[k] (bs.idxOf s.a) s;have hk4:s.k=4→(iO c ws[k] (bs.idxOf s.a) s).2=true:=fun q=>by unfold iO;rw [q];rfl
    have hex:s.k=4→∃ j:Nat,xM bs s.b 0=(j:Int)∧j=bs.idxOf s.b∧j<bs.length:=fun q=>by
      obtain ⟨hj,_⟩:=xL (hb q);exact ⟨bs.idxOf s.b,by have:=E0 bs s.b 0 (hb q);simpa using this,rfl,hj⟩
    have hiy:=xK bs s.b (by omega)
    unfold IZ at hst;dsimp only at hst;have hpl:=ow.pl;have hcl:=ow.cl;have hal3:(fH (vW c s (bs,ws) k)).length=(vW c s (bs,ws) k).length:=fJ _;generalize vW c s (bs,ws) k=acc at *;generalize hN:vW c s (bs,ws) (k+1)=acc' at *;generalize bs.idxOf s.a=ia at *;generalize hw:ws[k]=w at *;generalize iO c w ia s=z at *;obtain ⟨⟨zp,zm,zc⟩,zb⟩:=z;dsimp only at e1 e2 hst hk4 hbw;subst e1;obtain ⟨wp,wm,wc⟩:=w;dsimp only at *;have hz1:(ints wp).length=wp.length:=ints_length _;have hz2:(cT zc).length=zc.length:=gI _
    (repeat' (first|refine wS ?_|refine wB ?_|refine wK ?_|(refine wC rfl ?_ ?_<;>(intro hb;(try simp only [nm] at hb);try (exfalso;omega)))|(refine rg 13 (vV (aI rfl rfl) ?_))|(refine rg 14 (vV (ix T rfl (by omega) (jX _) hgk) (lW T rfl (bN (bI T rfl) rfl (aL T rfl rfl rfl rfl rfl rfl (by decide) rfl ?_)))))|refine nZ ?_));all_goals try (exfalso;omega)
    refine dU 12 (cs:=wA (wp,wm,wc)) rfl rfl rfl ?_
    (repeat' (first|refine wS ?_|(refine rg 15 (mW rfl (lW T rfl (mW rfl (lW T rfl (bN (by exact fX rfl rfl hbw (.inl ⟨.cons (.ptr rfl (eO _ rfl)) (.cons (FO _) (.cons (.v _) (.cons (.agg (eO _ rfl)) .nil))),QL _ _⟩)) rfl ?_)))));refine mW rfl (xW rfl (xW rfl (bN (bI T rfl) rfl (aL T rfl rfl rfl rfl rfl rfl (by decide) rfl (aV ?_))))))|refine nZ ?_));all_goals try (exfalso;omega)
    refine eI [(0,.ptr 0 0),(3,.pr (sX s) 0),(5,.sl 1 0 all.length 2),(8,.i i),(9,.ptr 2 0),(10,.i ia),(63,.rowE (fH ws) 3),(64,.i (fH ws).length),(65,.i k),(12,.pr (wA (wp,wm,wc)) 0),(13,.ptr 6 0),(14,.b zb)] [.cells (gZ c l),.arr (kD all) 2,.cells [.rowE (ints bs) 1,.sl 3 0 acc.length 3],.arr (fH acc) 3,.arr (ints wp) 1,.arr (cT zc) 2,.cells [.sl 4 0 wp.length 1,.i zm,.sl 5 0 wc.length 2]]
      ⟨[0,1,2,3,5,6,7],rfl,(by repeat first|exact trivial|refine ⟨rfl,?_⟩),⟨.inr rfl,.inr (aD rfl rfl (eP _)),.inr rfl,.inr (aD rfl rfl (bS _)),.inr (aD rfl (cJ _ (ints_idf _)) (ints_idf _)),.inr (aD rfl (cJ _ (cQ _)) (cQ _)),.inr rfl,trivial⟩,by decide,qQ _⟩ ?_
    refine iP 6 0 (es:=ints wp) rfl rfl rfl hz1.symm (fO (ints_idf _)) ?_;refine iP 6 2 (es:=cT zc) rfl rfl rfl (by omega) (fO (cQ _)) ?_
    refine dU 13 (cs:=wA (wp,zm,zc)) rfl rfl rfl ?_;refine eI [(0,.ptr 0 0),(3,.pr (sX s) 0),(5,.sl 1 0 all.length 2),(8,.i i),(9,.ptr 2 0),(10,.i ia),(63,.rowE (fH ws) 3),(64,.i (fH ws).length),(65,.i k),(12,.pr (wA (wp,wm,wc)) 0),(13,.pr (wA (wp,zm,zc)) 0),(14,.b zb)] [.cells (gZ c l),.arr (kD all) 2,.cells [.rowE (ints bs) 1,.sl 3 0 acc.length 3],.arr (fH acc) 3]
      ⟨[0,1,2,3],rfl,(by repeat first|exact trivial|refine ⟨rfl,?_⟩),⟨.inr rfl,.inr (aD rfl rfl (eP _)),.inr rfl,.inr (aD rfl rfl (bS _)),trivial⟩,by decide,qQ _⟩ ?_
    have hA1:∀ (l:List W) (w:W),fH (l++[w])=fH l++[wA w]:=fun l w=>by rw [fH,dW];rfl
    by_cases k4:s.k=4
    · obtain rfl:=hk4 k4;rw [if_pos rfl,if_pos k4] at hst;obtain ⟨j,hj1,hj2,hj3⟩:=hex k4;rw [hj1] at hiy;rw [← hj2] at hst;have hxc:=zY6 (wp,wm,wc) (i:=ia) (k:=j) ⟨by dsimp only;omega,by dsimp only;omega⟩ (by dsimp only;omega) (by dsimp only;omega) (by dsimp only;omega)
      generalize mT (wp,wm,wc) ia j=u at *;obtain ⟨up,um,uc⟩:=u;have hW:=hA1 acc (wp,zm,zc);have hW2:=hA1 (acc++[(wp,zm,zc)]) (up,um,uc);rw [bT,← hst] at hW2;have hacl:acc'.length=acc.length+2:=by rw [hst];simp
      have hWl:(fH (acc++[(wp,zm,zc)])).length=acc.length+1:=by rw [fJ];simp
      have hidA:=bS (acc++[(wp,zm,zc)]);generalize fH (acc++[(wp,zm,zc)])=B at *;generalize fH acc=A at *
      (repeat' (first|refine wS ?_|refine wT ?_|(refine rg 16 (mV ?_))|(refine rg 17 (gB T rfl (lW T rfl (bN (by exact bD T rfl rfl (by decide) (by decide) rfl rfl rfl) rfl ?_)));refine fY T rfl rfl rfl rfl rfl rfl (by omega) (kP.whole rfl rfl) rfl (by simp;omega) (by simp;omega) rfl ?_;refine fW T rfl (aL T rfl rfl rfl rfl rfl rfl (by decide) rfl ?_))|refine nZ ?_));all_goals try (exfalso;omega)
      refine eI [(0,.ptr 0 0),(3,.pr (sX s) 0),(5,.sl 1 0 all.length 2),(8,.i i),(9,.ptr 2 0),(10,.i ia),(63,.rowE (fH ws) 3),(64,.i (fH ws).length),(65,.i k),(12,.pr (wA (wp,wm,wc)) 0)] [.cells (gZ c l),.arr (kD all) 2,.cells [.rowE (ints bs) 1,.sl 3 0 (acc.length+1) 3],.arr B 3]
        ⟨[0,1,2,5],rfl,(by repeat first|exact trivial|refine ⟨rfl,?_⟩),⟨.inr rfl,.inr (aD rfl rfl (eP _)),.inr rfl,.inr (aD rfl (by rw [hW];exact mI hal3.symm) hidA),trivial⟩,by decide,qQ _⟩ ?_
      (repeat' (first|refine wT ?_|(refine rg 18 (gB T rfl (vV (gX rfl rfl k4) ?_)))|(refine rB (id:=19) 128 [[],[0],[],[],[],[4],[],[6],rM 4 4,rM 2 7,rM 2 8,rN 11] (rM 87 12) [[],[],[87,88],[87,88,89],rM 87 4,rM 87 4,rM 87 6,rM 87 6,rM 87 4,[87,88],[87,88],[]] [(11,3)] cF rfl (by decide +kernel) (eN rfl rfl rfl rfl (by exact cD T rfl rfl rfl) ?_);refine eN rfl rfl rfl rfl (by exact aE T rfl rfl rfl rfl) ?_;refine eN rfl rfl rfl rfl (by exact aE T rfl rfl rfl rfl) ?_;refine eN rfl rfl rfl rfl (by exact bU rfl) ?_;refine eN rfl rfl rfl rfl (by exact cD T rfl rfl rfl) ?_;refine eN rfl rfl rfl rfl (by exact aE T rfl rfl rfl rfl) ?_;refine eN rfl rfl rfl rfl (by exact cD T rfl rfl rfl) ?_;refine eN rfl rfl rfl rfl (by exact aE T rfl rfl rfl rfl) ?_;refine eN rfl rfl rfl rfl (by exact kC (hiy)) ?_;refine eN rfl rfl rfl rfl (by exact kC (hxc)) ?_;refine M3 rfl rfl rfl rfl (by exact bD T rfl rfl (by decide) (by decide) rfl rfl rfl) rfl ?_;refine tZ rfl rfl rfl rfl (aY rfl) (by exact rC T rfl rfl rfl rfl rfl rfl (by omega) (kP.whole rfl rfl) rfl (by simp;omega) (by simp;omega)) ?_;refine yA rfl rfl rfl (by exact rfl) ?_;refine fW T rfl (aL T rfl rfl rfl rfl rfl rfl (by decide) rfl ?_))|(refine rg 20 (vV (bY rfl rfl (by omega) (by omega)) (mV ?_)))|refine nZ ?_));all_goals try (exfalso;omega)
      exact ⟨⟨k+1,hlt⟩,by dsimp only;omega,⟨[0,1,2,5],rfl,(by repeat first|exact trivial|refine ⟨rfl,?_⟩),⟨.inr rfl,.inr (aD rfl rfl (eP _)),.inr (by dsimp only;rw [hN,hacl];rfl),.inr (aD rfl (by dsimp only;rw [hN,hW2];exact mI hWl.symm) (bS _)),trivial⟩,by decide,qQ _⟩⟩
    · rw [if_neg k4,List.append_nil] at hst;cases zb with
      | true=>
        rw [if_pos rfl] at hst;have hW:=hA1 acc (wp,zm,zc);rw [← hst] at hW;have hacl:acc'.length=acc.length+1:=by rw [hst];simp
        generalize fH acc=A at *
        (repeat' (first|refine wS ?_|refine wK ?_|refine wT ?_|refine wU ?_|(refine rg 16 (mV ?_))|(refine rg 17 (gB T rfl (lW T rfl (bN (by exact bD T rfl rfl (by decide) (by decide) rfl rfl rfl) rfl ?_)));refine fY T rfl rfl rfl rfl rfl rfl (by omega) (kP.whole rfl rfl) rfl (by simp;omega) (by simp;omega) rfl ?_;refine fW T rfl (aL T rfl rfl rfl rfl rfl rfl (by decide) rfl ?_))|(refine rg 18 (gB T rfl (vV (dQ rfl rfl (by omega)) ?_)))|(refine rg 20 (vV (bY rfl rfl (by omega) (by omega)) (mV ?_)))|refine nZ ?_));all_goals try (exfalso;omega)
        exact ⟨⟨k+1,hlt⟩,by dsimp only;omega,⟨[0,1,2,5],rfl,(by repeat first|exact trivial|refine ⟨rfl,?_⟩),⟨.inr rfl,.inr (aD rfl rfl (eP _)),.inr (by dsimp only;rw [hN,hacl];rfl),.inr (aD rfl (by dsimp only;rw [hN,hW];exact mI hal3.symm) (bS _)),trivial⟩,by decide,qQ _⟩⟩
      | false=>
        rw [if_neg (by simp),List.append_nil] at hst
        subst hst
        (repeat' (first|refine wS ?_|refine wK ?_|refine wU ?_|(refine rg 16 (mV ?_))|(refine rg 18 (gB T rfl (vV (dQ rfl rfl (by omega)) ?_)))|(refine rg 20 (vV (bY rfl rfl (by omega) (by omega)) (mV ?_)))|refine nZ ?_));all_goals try (exfalso;omega)
        exact ⟨⟨k+1,hlt⟩,by dsimp only;omega,⟨[0,1,2,3],rfl,(by repeat first|exact trivial|refine ⟨rfl,?_⟩),⟨.inr rfl,.inr (aD rfl rfl (eP _)),.inr (by dsimp only;rw [hN];rfl),.inr (aD rfl (by dsimp only;rw [hN]) (bS _)),trivial⟩,by decide,qQ _⟩⟩
  · obtain rfl:k=ws.length:=by omega
    have hNA:=TW c s (bs,ws);dsimp only at hNA;rw [hNA];have hnl:=TV (c:=c) (s:=s) (g:=(bs,ws));dsimp only at hnl;have hno:∀ w,w∈lZ c s (bs,ws)→CJ c.bs.length bs.length w:=fun w hw=>(K4 h.mid hM hgm h.n0 ha hb hw).1;have hoc:=ED (lZ c s (bs,ws)) (by omega) (fun w hw=>⟨by have:=(hno w hw).pl;omega,by have:=(hno w hw).cl;omega⟩)
    have hnx:=h.next hM hg ha hb
    dsimp only at hnx;have hol:=rO (lZ c s (bs,ws));have hNl:(fH (lZ c s (bs,ws))).length=(lZ c s (bs,ws)).length:=fJ _;generalize lZ c s (bs,ws)=nw at *
    (repeat' (first|refine wS ?_|refine wE ?_|(refine wC rfl ?_ ?_<;>(intro hb;(try simp only [nm] at hb);try (exfalso;omega)))|(refine rg 13 (vV (aI rfl rfl) ?_))|refine nZ ?_));all_goals try (exfalso;omega)
    refine iP 2 1 (es:=fH nw) rfl rfl rfl hNl.symm (fO (bS _)) ?_;generalize gN nw=ow at *;have how:(fH ow).length=ow.length:=fJ _
    (repeat' (first|refine wS ?_|refine wB ?_|(refine rg 21 (gB T rfl (vV (kC (hoc)) (fW T rfl (aL T rfl rfl rfl rfl rfl rfl (by decide) rfl ?_)))))|refine nZ ?_));all_goals try (exfalso;omega)
    refine eI [(0,.ptr 0 0),(3,.pr (sX s) 0),(5,.sl 1 0 all.length 2),(8,.i i),(9,.ptr 2 0)] [.cells (gZ c l),.arr (kD all) 2,.cells (gA (bs,ow))] ⟨[0,1,2],rfl,(by repeat first|exact trivial|refine ⟨rfl,?_⟩),⟨.inr rfl,.inr (aD rfl rfl (eP _)),.inr rfl,trivial⟩,by decide,qQ _⟩ ?_
    by_cases h0:ow=[]
    · subst h0;rw [if_pos rfl]
      (repeat' (first|refine wS ?_|refine wR ?_|refine wT ?_|(refine rg 22 (gB T rfl (qW T rfl (vV (eQ rfl rfl) (aV ?_)))))|(refine rg 23 (aV ?_))|refine nZ ?_));all_goals try (exfalso;omega)
      exact ⟨.inl rfl,[0],_,rfl,rfl,rfl,⟨.inr rfl,trivial⟩,by decide,qQ _⟩
    · rw [if_neg h0];have hop:=eF.2 h0;by_cases h1:1000<ow.length
      · rw [if_pos h1]
        (repeat' (first|refine wS ?_|refine wR ?_|(refine wC rfl ?_ ?_<;>(intro hb;(try simp only [nm] at hb);try (exfalso;omega)))|(refine rg 22 (gB T rfl (qW T rfl (vV (eQ rfl rfl) (aV ?_)))))|(refine rg 24 (gB T rfl (qW T rfl (vV (eE rfl rfl) (aV ?_)))))|(refine rg 25 (aV ?_))|refine nZ ?_));all_goals try (exfalso;omega)
        exact ⟨.inl rfl,[0],_,rfl,rfl,rfl,⟨.inr rfl,trivial⟩,by decide,qQ _⟩
      · rw [if_neg h1];obtain ⟨hm1,hasc⟩:=hnx h0 (by omega)
        have hty:=zH7 c l (all.set i (bs,ow)) hm1.out hm1.up hm1.ne;have hset:=L1 (L:=all) (j:=(i:Int)) (i:=i) (x:=(bs,ow)) rfl;have hto:=(IS hm1.out (c:=c)).len;have hto2:=(IS hm1.out (c:=c)).ln;have hcf:=zX6 (l:=uW c (all.set i (bs,ow))) (F:=52) (caps:=[]) (p:=fun g=>g.2.isEmpty) (by omega) rfl (fun x hx=>zV1 x)
        have hNl2:all.length=(kD (all.set i (bs,ow))).length:=by rw [kB,fM]
        (repeat' (first|refine wS ?_|refine wK ?_|(refine wC rfl ?_ ?_<;>(intro hb;(try simp only [nm] at hb);try (exfalso;omega)))|(refine rg 22 (gB T rfl (qW T rfl (vV (eQ rfl rfl) (aV ?_)))))|(refine rg 24 (gB T rfl (qW T rfl (vV (eE rfl rfl) (aV ?_)))))|(refine rg 26 (dK rfl (lW T rfl (vV (by exact aK T rfl rfl rfl rfl rfl (by omega) (by omega)) ?_)));refine aL T rfl rfl rfl rfl rfl rfl (by decide) (iJ rfl q1 rfl) ?_)|refine nZ ?_));all_goals try (exfalso;omega)
        generalize all.set i (bs,ow)=N at *;refine eI [(0,.ptr 0 0),(5,.sl 1 0 all.length 2)] [.cells (gZ c l),.arr (kD N) 2] ⟨[0,1],rfl,(by repeat first|exact trivial|refine ⟨rfl,?_⟩),⟨.inr rfl,.inr (aD rfl hset (eP _)),trivial⟩,by decide,qQ _⟩ ?_
        refine I4 5 (es:=kD N) rfl rfl hNl2 (fO (eP _)) ?_;generalize uW c N=out at *
        (repeat' (first|refine wS ?_|(refine rg 27 (dK rfl (fP [0] rfl rfl (hty) rfl rfl (by decide) ⟨.inr rfl,trivial⟩ (by simp) rfl ?_));refine aV ?_)|refine nZ ?_));all_goals try (exfalso;omega)
        cases hany:out.any fun g=>g.2.isEmpty with
        | true=>
          rw [hany] at hcf;rw [if_pos rfl]
          (repeat' (first|refine wS ?_|refine wR ?_|refine wT ?_|(refine rg 28 (mW rfl (vV (kC (hcf)) ?_)))|(refine rg 29 (aV ?_))|refine nZ ?_));all_goals try (exfalso;omega)
          exact ⟨.inl rfl,[0],_,rfl,rfl,rfl,⟨.inr rfl,trivial⟩,by decide,qQ _⟩
        | false=>
          rw [hany] at hcf;rw [if_neg (by simp)]
          (repeat' (first|refine wS ?_|refine wK ?_|refine wR ?_|refine wU ?_|(refine rg 28 (mW rfl (vV (kC (hcf)) ?_)))|(refine rg 30 (dK rfl (nV ?_));refine fW T rfl (aL T rfl rfl rfl rfl rfl rfl (by decide) rfl ?_))|(refine rg 31 (aV ?_))|refine nZ ?_));all_goals try (exfalso;omega)
          exact ⟨.inl rfl,[0],_,rfl,rfl,rfl,⟨.inr rfl,trivial⟩,by decide,qQ _⟩
theorem QC (c:Cx) (gs:List G) (s:Ev) (hc:qN c) (h:kV c gs) (hids:s.ids.length≤9223372036854775807) :
    aT Tryz.prog 11 [.ptr 0 0,yG4 s] [.cells (gZ c gs)] (.i (lQ c gs s).1) [.cells (gZ c (lQ c gs s).2)]:=by
  have hn12:=h.mid.n12;obtain ⟨hm0,hm1,_⟩:=hc.s;have hgl:(kD gs).length=gs.length:=kB _;have hgl12:gs.length≤12:=bP h.mid.out.len h.mid.out.ln;have hbl:(eB c.bs).length=c.bs.length:=aF _;have hright:=XE c.bs.length s.k s.a s.b s.n s.ids hids ⟨by omega,by omega⟩
  have hcl:=MB gs (by omega)
  have hst:=vP (s:=s) h (by omega) hm0
  have hjo:=fun (hr:gO c.bs.length s=true) (hk:s.k=4) (all:List G)=>tQ (s:=s) (all:=all) h (by omega) hm0 hm1 hr hk
  unfold lQ;generalize hv:gO c.bs.length s=v at *;rw [← hbl] at hright;cases v with
  | false=>
    rw [if_neg (by simp)]
    refine bK T Tryz.func11 rfl rfl rfl rfl ?_
    (repeat' (first|refine wS ?_|(refine rg 0 (bN (cC rfl rfl) rfl (aV ?_)))|refine nZ ?_));refine dU 3 (cs:=sX s) rfl rfl rfl ?_
    (repeat' (first|refine wS ?_|refine wR ?_|refine wT ?_|(refine bQ (id:=1) 128 yP1 (rM 15 8) yP2 cF rfl (by decide +kernel) (dN rfl (dV rfl (by exact cN rfl rfl) ?_));refine dP T rfl (dO T rfl (dV rfl (iC T rfl rfl) (dO T rfl (dV rfl (kC (hright)) (dV rfl (cY rfl) (dE ?_)))))))|(refine rg 2 (aV ?_))|refine nZ ?_));all_goals try (exfalso;omega)
    exact ⟨.inl rfl,[0],_,rfl,rfl,rfl,⟨.inr rfl,trivial⟩,by decide,qQ _⟩
  | true=>
    rw [if_pos rfl];by_cases k4:s.k=4
    · rw [if_pos k4];obtain ⟨r1,r2,_⟩:=kK hv (by omega)
      have r2:=r2 k4;have fa:=h.mid.find r1;have fb:=h.mid.find (b:=s.b) ⟨by omega,by omega⟩
      cases hj:join gs s.a s.b with
      | none=>
        dsimp only;have hjc:=zM0 gs s.a s.b h.mid.out fa fb hj;refine bK T Tryz.func11 rfl rfl rfl rfl ?_
        (repeat' (first|refine wS ?_|(refine rg 0 (bN (cC rfl rfl) rfl (aV ?_)))|refine nZ ?_));refine dU 3 (cs:=sX s) rfl rfl rfl ?_
        (repeat' (first|refine wS ?_|refine wK ?_|refine wU ?_|(refine bQ (id:=1) 128 yP1 (rM 15 8) yP2 cF rfl (by decide +kernel) (dN rfl (dV rfl (by exact cN rfl rfl) ?_));refine dP T rfl (dO T rfl (dV rfl (iC T rfl rfl) (dO T rfl (dV rfl (kC (hright)) (dV rfl (cY rfl) (dE ?_)))))))|(refine rg 3 (mW rfl (nV ?_));refine gB T rfl (bN (by exact fX rfl rfl hcl (.inr ⟨rfl,rfl,by simp⟩)) rfl ?_);refine aV ?_)|refine nZ ?_));all_goals try (exfalso;omega)
        refine eI [(0,.ptr 0 0),(3,.pr (sX s) 0),(5,.sl 1 0 gs.length 2)] [.cells (gZ c gs),.arr (kD gs) 2] ⟨[0,2],rfl,(by repeat first|exact trivial|refine ⟨rfl,?_⟩),⟨.inr rfl,.inr (aD rfl (cJ _ (eP _)) (eP _)),trivial⟩,by decide,qQ _⟩ ?_
        refine I4 5 (es:=kD gs) rfl rfl hgl.symm (fO (eP _)) ?_
        (repeat' (first|refine wS ?_|refine wR ?_|refine wT ?_|(refine rg 4 (gB T rfl (vV (gX rfl rfl k4) ?_)))|(refine rg 5 (mW rfl (gB T rfl (gB T rfl (vV (kC (hjc)) (mW rfl (xW rfl (xW rfl (oM ?_)))))))))|(refine rg 6 (mW rfl (vV (eX rfl rfl) ?_)))|(refine rg 7 (mW rfl (aV ?_)))|refine nZ ?_));all_goals try (exfalso;omega)
        exact ⟨.inl rfl,[0],_,rfl,rfl,rfl,⟨.inr rfl,trivial⟩,by decide,qQ _⟩
      | some all=>
        dsimp only;have hso:=hjo rfl k4 all hj;refine bK T Tryz.func11 rfl rfl rfl rfl ?_
        (repeat' (first|refine wS ?_|(refine rg 0 (bN (cC rfl rfl) rfl (aV ?_)))|refine nZ ?_));refine dU 3 (cs:=sX s) rfl rfl rfl ?_
        (repeat' (first|refine wS ?_|refine wK ?_|refine wU ?_|(refine bQ (id:=1) 128 yP1 (rM 15 8) yP2 cF rfl (by decide +kernel) (dN rfl (dV rfl (by exact cN rfl rfl) ?_));refine dP T rfl (dO T rfl (dV rfl (iC T rfl rfl) (dO T rfl (dV rfl (kC (hright)) (dV rfl (cY rfl) (dE ?_)))))))|(refine rg 3 (mW rfl (nV ?_));refine gB T rfl (bN (by exact fX rfl rfl hcl (.inr ⟨rfl,rfl,by simp⟩)) rfl ?_);refine aV ?_)|refine nZ ?_));all_goals try (exfalso;omega)
        refine eI [(0,.ptr 0 0),(3,.pr (sX s) 0),(5,.sl 1 0 gs.length 2)] [.cells (gZ c gs),.arr (kD gs) 2] ⟨[0,2],rfl,(by repeat first|exact trivial|refine ⟨rfl,?_⟩),⟨.inr rfl,.inr (aD rfl (cJ _ (eP _)) (eP _)),trivial⟩,by decide,qQ _⟩ ?_
        by_cases hs:oY gs s.a=oY gs s.b
        · have hjc:=zL8 gs s.a s.b h.mid.out fa fb hs;have:all=gs:=by unfold join at hj;dsimp only at hj;rw [if_pos hs] at hj;exact (Option.some.inj hj).symm
          subst this
          (repeat' (first|refine wS ?_|refine wK ?_|refine wT ?_|refine wU ?_|(refine rg 4 (gB T rfl (vV (gX rfl rfl k4) ?_)))|(refine rg 5 (mW rfl (gB T rfl (gB T rfl (fP [1] rfl rfl (hjc) rfl rfl (by decide) ⟨.inr (aD rfl rfl (eP _)),trivial⟩ (by simp) rfl ?_))));refine mW rfl (xW rfl (xW rfl (oM ?_))))|(refine rg 6 (mW rfl (vV (eX rfl rfl) ?_)))|(refine rg 8 (mW rfl (aV ?_)))|refine nZ ?_));all_goals try (exfalso;omega)
          refine eI [(0,.ptr 0 0),(3,.pr (sX s) 0),(5,.sl 1 0 all.length 2)] [.cells (gZ c all),.arr (kD all) 2] ⟨[0,1],rfl,(by repeat first|exact trivial|refine ⟨rfl,?_⟩),⟨.inr rfl,.inr (aD rfl (cJ _ (eP _)) (eP _)),trivial⟩,by decide,qQ _⟩ ?_
          exact NL c all all s hc hso (by omega) hids
        · have hjc:=zL9 gs s.a s.b h.mid.out fa fb hj hs;refine I4 5 (es:=kD gs) rfl rfl hgl.symm (fO (eP _)) ?_
          (repeat' (first|refine wS ?_|refine wK ?_|refine wT ?_|refine wU ?_|(refine rg 4 (gB T rfl (vV (gX rfl rfl k4) ?_)))|(refine rg 5 (mW rfl (gB T rfl (gB T rfl (bN (by exact fX rfl rfl hjc (.inr ⟨rfl,rfl,by simp⟩)) rfl ?_))));refine mW rfl (xW rfl (xW rfl (oM ?_))))|(refine rg 6 (mW rfl (vV (eX rfl rfl) ?_)))|(refine rg 8 (mW rfl (aV ?_)))|refine nZ ?_));all_goals try (exfalso;omega)
          refine eI [(0,.ptr 0 0),(3,.pr (sX s) 0),(5,.sl 1 0 all.length 2)] [.cells (gZ c gs),.arr (kD all) 2] ⟨[0,2],rfl,(by repeat first|exact trivial|refine ⟨rfl,?_⟩),⟨.inr rfl,.inr (aD rfl (cJ _ (eP _)) (eP _)),trivial⟩,by decide,qQ _⟩ ?_
          exact NL c gs all s hc hso (by omega) hids
    · rw [if_neg k4];refine bK T Tryz.func11 rfl rfl rfl rfl ?_
      (repeat' (first|refine wS ?_|(refine rg 0 (bN (cC rfl rfl) rfl (aV ?_)))|refine nZ ?_));refine dU 3 (cs:=sX s) rfl rfl rfl ?_
      (repeat' (first|refine wS ?_|refine wK ?_|refine wU ?_|(refine bQ (id:=1) 128 yP1 (rM 15 8) yP2 cF rfl (by decide +kernel) (dN rfl (dV rfl (by exact cN rfl rfl) ?_));refine dP T rfl (dO T rfl (dV rfl (iC T rfl rfl) (dO T rfl (dV rfl (kC (hright)) (dV rfl (cY rfl) (dE ?_)))))))|(refine rg 3 (mW rfl (nV ?_));refine gB T rfl (bN (by exact fX rfl rfl hcl (.inr ⟨rfl,rfl,by simp⟩)) rfl ?_);refine aV ?_)|(refine rg 4 (gB T rfl (vV (dQ rfl rfl (by omega)) ?_)))|refine nZ ?_));all_goals try (exfalso;omega)
      refine eI [(0,.ptr 0 0),(3,.pr (sX s) 0),(5,.sl 1 0 gs.length 2)] [.cells (gZ c gs),.arr (kD gs) 2] ⟨[0,2],rfl,(by repeat first|exact trivial|refine ⟨rfl,?_⟩),⟨.inr rfl,.inr (aD rfl (cJ _ (eP _)) (eP _)),trivial⟩,by decide,qQ _⟩ ?_
      exact NL c gs gs s hc (hst rfl k4) (by omega) hids
end Go.Proofs.YtmmkhmilpeodnaaGreat
namespace Go.Ld
open Go.Ab Go.Proofs.YtmmkhmilpeodnaaGreat
def W4 (c:Cx) (i:Nat):G:=([(i:Int)],[([(i:Int)],0,[((c.bs.getD i (0,0,0)).2.1,(c.bs.getD i (0,0,0)).2.1+1)])])
theorem xG (c:Cx):qL c=(List.range c.bs.length).map (W4 c):=rfl
theorem BM {α β:Type}(f:α→β):∀ l:List α,(l.flatMap fun x=>[f x])=l.map f
  | []=>rfl
  | x::l=>by rw [bJ,BM f l];rfl
theorem OD {c:Cx}(hc:qN c) (hn:c.bs.length≤12) (hm:0≤c.m):kV c (qL c):=by
  rw [xG];have hmem:∀ g,g∈(List.range c.bs.length).map (W4 c)→∃ i,i<c.bs.length∧g=W4 c i:=fun g hg=>by
    obtain ⟨i,hi,e⟩:=bE.1 hg;exact ⟨i,dD.1 hi,e.symm⟩
  have fl:(((List.range c.bs.length).map (W4 c)).flatMap (·.1))=nats (List.range c.bs.length):=by
    rw [CS];exact BM _ _
  have fw:(((List.range c.bs.length).map (W4 c)).flatMap fun g=>(gS g).1)=nats (List.range c.bs.length):=by
    rw [CS];exact BM _ _
  refine ⟨⟨⟨fun g hg=>?_,by rw [fl];exact uO _,by rw [fl];simpa using hn,fun g hg=>?_⟩,?_,fun g hg=>?_,fun g hg w hw=>?_,by rw [fl],by rw [fw],fun g hg=>?_⟩,fun g hg=>?_,fun g hg=>?_⟩
  · obtain ⟨i,hi,rfl⟩:=hmem g hg;have hb:=hc.f.b i hi;have e:c.bs.getD i (0,0,0)=c.bs[i]:=by rw [aC,aA hi];rfl
    unfold W4;rw [e];generalize c.bs[i]=x at *;refine ⟨by simp,jF _ _,fun b hb=>by obtain rfl:=aQ.1 hb;omega,by simp,fun w hw=>?_,fun w v hw hv=>by obtain rfl:=aQ.1 hw;obtain rfl:=aQ.1 hv;exact .refl _⟩
    obtain rfl:=aQ.1 hw;refine ⟨rfl,rfl,fun b hb=>by obtain rfl:=aQ.1 hb;omega,jF _ _,dC _,by dsimp only;omega,fun r hr=>?_⟩
    obtain rfl:=aQ.1 hr;unfold IF;dsimp only;omega
  · obtain ⟨i,hi,rfl⟩:=hmem g hg;show 1≤2000;omega
  · refine C6.2 ?_;rw [sK];show ((List.range c.bs.length).map fun i:Nat=>((i:Int))).Pairwise _;refine V5.2 ((qA).imp fun {a b} h=>by omega)
  · obtain ⟨i,hi,rfl⟩:=hmem g hg;unfold W4;simp
  · obtain ⟨i,hi,rfl⟩:=hmem g hg;obtain rfl:=aQ.1 hw;exact hm
  · obtain ⟨i,hi,rfl⟩:=hmem g hg;show 1≤1000;omega
  · obtain ⟨i,hi,rfl⟩:=hmem g hg;unfold iN;rw [if_pos (.inl (by show 1<2;omega))]
  · obtain ⟨i,hi,rfl⟩:=hmem g hg;exact jF _ _
def pU (gs:List G) (b:Int):Option (G × Nat):=match gs.findIdx? fun g=>decide (b∈g.1) with
  | some i=>some (lF gs i,(lF gs i).1.idxOf b)
  | none=>none
theorem qF {gs:List G}{b:Int}{g:G}{i:Nat}(h:pU gs b=some (g,i)):∃ k:Nat,oY gs b=(k:Int)∧gs[k]? = some g∧b∈g.1∧i=g.1.idxOf b:=by
  unfold pU at h;cases hq:gs.findIdx? fun g=>decide (b∈g.1) with
  | none=>rw [hq] at h;cases h
  | some k=>
    rw [hq] at h;dsimp only at h;cases h;obtain ⟨hk,hb,_⟩:=List.findIdx?_eq_some_iff_getElem.1 hq;have e:lF gs k=gs[k]:=by unfold lF;rw [aC,aA hk];rfl
    refine ⟨k,by unfold oY;rw [hq],by rw [e];exact aA hk,by rw [e];simpa using hb,rfl⟩
theorem LH {gs:List G}{b:Int}(h:pU gs b=none):oY gs b = -1:=by
  unfold pU at h;cases hq:gs.findIdx? fun g=>decide (b∈g.1) with
  | none=>unfold oY;rw [hq]
  | some k=>rw [hq] at h;cases h
theorem zA1 {gs:List G}{b:Int}(h:∃ g,g∈gs∧b∈g.1):∃ g,pU gs b=some (g,g.1.idxOf b)∧g∈gs∧b∈g.1:=by
  cases hq:pU gs b with
  | none=>
    obtain ⟨i,g,h1,_⟩:=jA h;have:=LH hq;omega
  | some x=>
    obtain ⟨g,i⟩:=x;obtain ⟨k,_,h2,h3,rfl⟩:=qF hq;exact ⟨g,rfl,aS h2,h3⟩
end Go.Ld
namespace Go.Proofs.YtmmkhmilpeodnaaGreat
open Go Go.Ab Go.Ld
attribute [local irreducible] VC AW bX aT jU
set_option maxHeartbeats 4000000
theorem GR (c:Cx) (gs:List G) (b:Int) (hl:gs.length≤1000000) (hg:∀ g,g∈gs→g.1.length≤1000000){g:G}{i:Nat}(h:pU gs b=some (g,i)) :
    aT Tryz.prog 56 [.pr (gZ c gs) 0,.i b] [] (.tup [VP g,.i i,.b true]) []:=by
  obtain ⟨k,h1,h2,h3,rfl⟩:=qF h;have hf:=xS gs b hl hg;rw [h1] at hf;have hgl:(kD gs).length=gs.length:=kB _;have hkl:=(aB.1 h2).1;have q:(kD gs)[((k:Int)).toNat]? = some (gA g):=by rw [bH,bZ,h2];rfl
  have hix:=xK g.1 b (by have:=hg g (aS h2);omega)
  have hxi:xM g.1 b 0=((g.1.idxOf b:Nat):Int):=by have:=E0 g.1 b 0 h3;simpa using this
  rw [hxi] at hix;generalize g.1.idxOf b=ia at *;obtain ⟨bs,ws⟩:=g;dsimp only at *;refine bK T Tryz.func56 rfl rfl rfl rfl ?_
  (repeat' (first|refine wS ?_|refine wK ?_|refine wR ?_|refine wU ?_|(refine rg 0 (bN (bI T rfl) rfl (oM ?_)))|(refine rg 1 (mW rfl (nV ?_));refine gB T rfl (mW rfl (vV (kC (hf)) (aV ?_))))|(refine rg 2 (mW rfl (vV (aI rfl rfl) ?_)))|(refine rV (id:=4) 17 34 [[],[0],[0,1],[0,1,2],[],rN 5,rN 6,[],[7],[7,8],[7,8,9],[],rM 7 5,rM 7 6,rM 7 7,[],rM 7 9,rN 17,rN 18,rN 19] [[],[0],[0,1],[0,1,2],[],rN 5,rN 6,[],[7],[7,8],[7,8,9],[],rM 7 5,rM 7 6,rM 7 7,[],rM 7 9] (rM 17 17) [[],[],[],[],rM 17 4,[],[],rM 17 7,rM 17 7,rM 17 7,rM 17 7,rM 17 11,rM 17 7,rM 17 7,rM 17 7,rM 17 15,rM 17 7] cF rfl (by decide +kernel) (by decide +kernel) ?_;(dsimp only [List.take,List.drop]);refine dN rfl (dV rfl (by exact cN rfl rfl) ?_);refine dP T rfl (dO T rfl (dN rfl (dV rfl (ix T rfl (by omega) (qE _) q) (dO T rfl (dN rfl (dV rfl (by exact cN rfl rfl) ?_))))));refine dP T rfl (dO T rfl (dN rfl (dV rfl (ix T rfl (by omega) (qE _) q) (dP T rfl (dO T rfl (dN rfl (dV rfl (kC (hix)) (dE ?_))))))));refine gG ?_;refine aL T rfl rfl rfl rfl rfl rfl (by decide) rfl (oM ?_))|refine nZ ?_));all_goals try (exfalso;omega)
  all_goals exact ⟨.inl rfl,[],_,rfl,rfl,rfl,trivial,by decide,jJ _⟩
theorem LJ (c:Cx) (gs:List G) (b:Int) (hl:gs.length≤1000000) (hg:∀ g,g∈gs→g.1.length≤1000000) (h:pU gs b=none) :
    aT Tryz.prog 56 [.pr (gZ c gs) 0,.i b] [] (.tup [.agg [.nils,.nils],.i 0,.b false]) []:=by
  have h1:=LH h;have hf:=xS gs b hl hg;rw [h1] at hf;refine bK T Tryz.func56 rfl rfl rfl rfl ?_
  (repeat' (first|refine wS ?_|refine wR ?_|refine wT ?_|(refine rg 0 (bN (bI T rfl) rfl (oM ?_)))|(refine rg 1 (mW rfl (nV ?_));refine gB T rfl (mW rfl (vV (kC (hf)) (aV ?_))))|(refine rg 2 (mW rfl (vV (aI rfl rfl) ?_)))|(refine rg 3 (vV (by exact dY T rfl rfl rfl rfl) ?_);refine aL T rfl rfl rfl rfl rfl rfl (by decide) rfl (oM ?_))|refine nZ ?_));all_goals try (exfalso;omega)
  all_goals exact ⟨.inl rfl,[],_,rfl,rfl,rfl,trivial,by decide,jJ _⟩
end Go.Proofs.YtmmkhmilpeodnaaGreat
namespace Go.Ld
open Go.Ab Go.Proofs.YtmmkhmilpeodnaaGreat
def F0 (g:G) (i:Nat):List Int:=g.2.map fun w=>gP w i
theorem UI {g:G}{i k:Nat}(h:k<g.2.length):(F0 g i).take (k+1)=(F0 g i).take k++[gP g.2[k] i]:=by
  unfold F0;rw [← lS,← lS,aP h,dW];rfl
end Go.Ld
namespace Go.Proofs.YtmmkhmilpeodnaaGreat
open Go Go.Ab Go.Ld
attribute [local irreducible] VC AW bX aT jU
set_option maxHeartbeats 4000000
abbrev yL2 (l:List Int):Prop:=l.Pairwise (· < ·)
theorem zD7 {G l:List Int}{m:Nat}(hg:G.length≤m) (hm:m<l.length):(ints (G++l.drop G.length))[0+(m:Int).toNat]? = some [AV.i l[m]]:=by
  rw [Nat.zero_add,bH,bZ,aG hg,eU,show G.length+(m-G.length)=m by omega,aA hm];rfl
theorem zI7 {G l:List Int}{x:Int}(hg:G.length<l.length):(ints (G++l.drop G.length)).set (0+(G.length:Int).toNat) [AV.i x]=ints ((G++[x])++l.drop (G++[x]).length):=by
  rw [Nat.zero_add,bH,← sJ,lJ _ _ (bA _),fN,bB hg,List.set_cons_zero];simp
theorem QS {G l:List Int}(hg:G.length≤l.length):(ints (G++l.drop G.length)).length=l.length:=by simp;omega
theorem WE {G l:List Int}:(ints (G++l.drop G.length)).take (0+(G.length:Int).toNat)=ints G:=by
  rw [Nat.zero_add,bH,← lS,List.take_append_of_le_length (bA _),bV (bA _)]
def jL (l:List Int):Nat→List Int
  | 0=>[]
  | m+1=>if 0<m∧l.getD m 0=l.getD (m-1) 0 then jL l m else jL l m++[l.getD m 0]
def G7 (l:List Int):List Int:=jL l l.length
theorem M4 {l:List Int}{m:Nat}(h:0<m) (e:l.getD m 0=l.getD (m-1) 0):jL l (m+1)=jL l m:=by
  unfold jL;rw [if_pos ⟨h,e⟩];cases m <;> rfl
theorem LW {l:List Int}{m:Nat}(e:l.getD m 0≠l.getD (m-1) 0):jL l (m+1)=jL l m++[l.getD m 0]:=by
  unfold jL;rw [if_neg (fun q=>e q.2)];cases m <;> rfl
theorem LV (l:List Int):jL l 1=[l.getD 0 0]:=by
  unfold jL;rw [if_neg (fun q=>yI9 _ q.1)];rfl
theorem rE {l:List Int}{m:Nat}(h:m<l.length):l.getD m 0=l[m]:=by rw [aC,aA h];rfl
theorem RZ {G l:List Int}{m:Nat}{i:Nat}(hg:G.length≤m) (hm:m<l.length) (hi:i=m):(ints (G++l.drop G.length))[i]? = some [AV.i (l.getD m 0)]:=by
  have:=zD7 hg hm;rw [Nat.zero_add,bH] at this;rw [hi,this,rE hm]
theorem SA {l:List Int}{m i:Nat}(hm:m<l.length) (hi:i=m):(ints l)[i]? = some [AV.i (l.getD m 0)]:=by
  rw [hi,mN hm,rE hm]
theorem EZ (l:List Int) (hl:l.length≤1000000):aT Tryz.prog 58 [.sl 0 0 l.length 1] [.arr (ints l) 1] (.sl 0 0 (G7 l).length 1) [.arr (ints (G7 l)) 1]:=by
  have hll:(ints l).length=l.length:=by simp
  refine bK T Tryz.func58 rfl rfl rfl rfl ?_;by_cases h2:l.length<2
  · have hk:G7 l=l:=by
      match l,h2 with
      | [],_=>rfl
      | [a],_=>exact LV _
      | _::_::_,h=>exact absurd h (by simp)
    rw [hk]
    (repeat' (first|refine wS ?_|refine wR ?_|(refine wC rfl ?_ ?_<;>(intro hb;(try simp only [nm] at hb);try (exfalso;omega)))|(refine rg 0 (aV ?_))|(refine rg 1 (mW rfl (qW T rfl (vV (aI rfl rfl) ?_))))|(refine rg 2 (mW rfl (aV ?_)))|refine nZ ?_));all_goals first | (exfalso;omega) | exact ⟨.inl rfl,[0],_,rfl,rfl,rfl,⟨.inr (aD rfl rfl (ints_idf _)),trivial⟩,by decide,GK⟩
  · (repeat' (first|refine wS ?_|refine wB ?_|refine wK ?_|(refine wC rfl (fun hb=>?_) (fun hb=>?_) <;> (((try simp only [nm] at hb);try (exfalso;omega))))|(refine rg 0 (aV ?_))|(refine rg 1 (mW rfl (qW T rfl (vV (aI rfl rfl) ?_))))|(refine rg 3 (aV ?_))|(refine nZ ?_)));all_goals try (exfalso;omega)
    refine cO (X:={k:Nat // 1≤k∧k≤l.length∧jL l k=l.take k}) (fun k=>[(0,.sl 0 0 l.length 1),(3,.i k.1)]) (fun _=>[.arr (ints l) 1]) (fun k=>l.length-k.1) ⟨1,by omega,by omega,by rw [LV,rE (by omega),aP (by omega)];rfl⟩ ⟨[0],rfl,by (repeat (first | exact trivial | refine ⟨rfl,?_⟩)),⟨.inr (aD rfl rfl (ints_idf _)),trivial⟩,by decide,GK⟩ ?_
    rintro ⟨k,hk1,hk,hkc⟩;dsimp only;by_cases hlt:k<l.length
    · have e1:=SA (i:=0+(k:Int).toNat) hlt (by omega)
      have e2:=SA (l:=l) (m:=k-1) (i:=0+((k:Int)-1).toNat) (by omega) (by omega)
      by_cases hd:l.getD k 0=l.getD (k-1) 0
      · have hc1:=M4 (l:=l) hk1 hd;rw [hkc] at hc1;generalize l.getD k 0=a at *;generalize l.getD (k-1) 0=b at *
        (repeat' (first|refine wS ?_|refine wB ?_|refine wK ?_|refine wT ?_|(refine wC rfl ?_ ?_<;>(intro hb;(try simp only [nm] at hb);try (exfalso;omega)))|(refine rg 4 (dK rfl (qW T rfl (vV (aI rfl rfl) ?_))))|(refine bQ (id:=6) 61 yP3 (rM 16 10) yP4 cF rfl (by decide +kernel) (dN rfl (dN rfl (dV rfl (by exact aK T rfl rfl rfl rfl rfl (by omega) (by omega)) ?_)));refine dV rfl (by exact aE T rfl rfl (bM rfl e1) rfl) ?_;refine dN rfl (dN rfl (dV rfl (cX rfl rfl (by omega) (by omega)) (dV rfl (by exact aK T rfl rfl rfl rfl rfl (by omega) (by omega)) ?_)));refine dV rfl (by exact aE T rfl rfl (bM rfl e2) rfl) ?_;refine dV rfl (gX rfl rfl (by omega)) (dE ?_))|(refine rg 7 (dK rfl (vV (by exact lE T rfl rfl rfl rfl rfl rfl (by omega) (by omega) (by omega)) ?_));refine aV ?_)|(refine rg 8 (aV ?_))|refine nZ ?_));all_goals try (exfalso;omega)
        have hl1:(jL l (k+1)).length=k:=by rw [hc1];simp;omega
        refine cO (X:={j:Nat // 1≤j∧k+j≤l.length∧(jL l (k+j)).length+1≤k+j}) (fun j=>[(0,.sl 0 0 l.length 1),(3,.i (jL l (k+j.1)).length),(4,.sl 0 (0+(k:Int).toNat) ((l.length:Int)-(k:Int)).toNat 1),(5,.i j.1)]) (fun j=>[.arr (ints (jL l (k+j.1)++l.drop (jL l (k+j.1)).length)) 1]) (fun j=>l.length-(k+j.1)) ⟨1,by omega,by omega,by omega⟩ ⟨[0],rfl,⟨rfl,by dsimp only;rw [hl1];rfl,rfl,rfl,trivial⟩,⟨.inr (aD rfl (by dsimp only;rw [hl1,hc1,bR]) (ints_idf _)),trivial⟩,by decide,GK⟩ ?_
        clear e1 e2 hd hl1 hc1;rintro ⟨j,hj1,hj,hjc⟩;dsimp only;by_cases hjl:k+j<l.length
        · have e1:=RZ (G:=jL l (k+j)) (l:=l) (m:=k+j) (i:=0+(k:Int).toNat+(j:Int).toNat) (by omega) hjl (by omega)
          have e2:=RZ (G:=jL l (k+j)) (l:=l) (m:=k+j-1) (i:=0+(k:Int).toNat+((j:Int)-1).toNat) (by omega) (by omega) (by omega)
          have e3:=zD7 (G:=jL l (k+j)) (l:=l) (bA _) (by omega)
          have hset:=zI7 (G:=jL l (k+j)) (l:=l) (x:=l.getD (k+j) 0) (by omega)
          have hal:=QS (G:=jL l (k+j)) (l:=l) (by omega)
          have hdup:=M4 (l:=l) (m:=k+j) (by omega)
          have hnew:=LW (l:=l) (m:=k+j);have hnl:∀ G:List Int,(G++[l.getD (k+j) 0]).length=G.length+1:=fun G=>by simp
          rw [show k+j+1=k+(j+1) by omega] at hdup hnew
          generalize l.getD (k+j) 0=a at *;generalize l.getD (k+j-1) 0=b at *;generalize l[(jL l (k+j)).length]=y at *;generalize jL l (k+j)=G at *;by_cases hd:a=b
          · have hdup:=hdup hd;generalize hA:ints (G++l.drop G.length)=A at *
            (repeat' (first|refine wS ?_|refine wB ?_|refine wK ?_|refine wU ?_|(refine wC rfl ?_ ?_<;>(intro hb;(try simp only [nm] at hb);try (exfalso;omega)))|(refine rg 9 (dK rfl (qW T rfl (vV (aI rfl rfl) ?_))))|(refine bQ (id:=11) 61 yP3 (rM 35 10) yP5 cF rfl (by decide +kernel) (dN rfl (dN rfl (dV rfl (by exact aK T rfl rfl rfl rfl rfl (by omega) (by omega)) ?_)));refine dV rfl (by exact aE T rfl rfl (bM rfl e1) rfl) ?_;refine dN rfl (dN rfl (dV rfl (cX rfl rfl (by omega) (by omega)) (dV rfl (by exact aK T rfl rfl rfl rfl rfl (by omega) (by omega)) ?_)));refine dV rfl (by exact aE T rfl rfl (bM rfl e2) rfl) ?_;refine dV rfl (kZ rfl rfl (by omega)) (dE ?_))|(refine iA 10 rfl rfl rfl (by omega) (by omega) ?_)|refine nZ ?_));all_goals try (exfalso;omega)
            all_goals exact ⟨⟨j+1,by omega,by omega,by rw [hdup];omega⟩,by dsimp only;omega,[0],rfl,⟨rfl,by dsimp only;rw [hdup];rfl,rfl,rfl,trivial⟩,⟨.inr (aD rfl (by dsimp only;rw [hdup];exact hA.symm) (ints_idf _)),trivial⟩,by decide,GK⟩
          · have hnew:=hnew hd;have hgl:=hnl G;generalize hA:ints (G++l.drop G.length)=A at *
            (repeat' (first|refine wS ?_|refine wB ?_|refine wK ?_|refine wT ?_|(refine wC rfl ?_ ?_<;>(intro hb;(try simp only [nm] at hb);try (exfalso;omega)))|(refine rg 9 (dK rfl (qW T rfl (vV (aI rfl rfl) ?_))))|(refine bQ (id:=11) 61 yP3 (rM 35 10) yP5 cF rfl (by decide +kernel) (dN rfl (dN rfl (dV rfl (by exact aK T rfl rfl rfl rfl rfl (by omega) (by omega)) ?_)));refine dV rfl (by exact aE T rfl rfl (bM rfl e1) rfl) ?_;refine dN rfl (dN rfl (dV rfl (cX rfl rfl (by omega) (by omega)) (dV rfl (by exact aK T rfl rfl rfl rfl rfl (by omega) (by omega)) ?_)));refine dV rfl (by exact aE T rfl rfl (bM rfl e2) rfl) ?_;refine dV rfl (sT rfl rfl (by omega)) (dE ?_))|(refine rg 12 (dK rfl (dK rfl (vV (by exact aK T rfl rfl rfl rfl rfl (by omega) (by omega)) ?_)));refine vV (by exact aE T rfl rfl (bM rfl e1) rfl) ?_;refine vV (by exact aK T rfl rfl rfl rfl rfl (by omega) (by omega)) ?_;refine aL T rfl rfl rfl rfl rfl rfl (by decide) (iJ rfl e3 rfl) ?_)|(refine iA 13 rfl rfl rfl (by omega) (by omega) ?_)|(refine iA 10 rfl rfl rfl (by omega) (by omega) ?_)|refine nZ ?_));all_goals try (exfalso;omega)
            all_goals exact ⟨⟨j+1,by omega,by omega,by rw [hnew];omega⟩,by dsimp only;omega,[0],rfl,⟨rfl,by dsimp only;rw [hnew,hgl];rfl,rfl,rfl,trivial⟩,⟨.inr (aD rfl (by dsimp only;rw [hnew];exact hset) (ints_idf _)),trivial⟩,by decide,GK⟩
        · have hkj:k+j=l.length:=by omega
          have hcm:G7 l=jL l (k+j):=by rw [hkj];rfl
          have hal:=QS (G:=jL l (k+j)) (l:=l) (by omega)
          have htk:=WE (G:=jL l (k+j)) (l:=l);rw [hcm];generalize jL l (k+j)=G at *
          (repeat' (first|refine wS ?_|refine wR ?_|refine wE ?_|(refine wC rfl ?_ ?_<;>(intro hb;(try simp only [nm] at hb);try (exfalso;omega)))|(refine rg 9 (dK rfl (qW T rfl (vV (aI rfl rfl) ?_))))|(refine rg 14 (dK rfl (vV (by exact lE T rfl rfl rfl rfl rfl rfl (by omega) (by omega) (by omega)) ?_));refine VX T rfl rfl rfl rfl rfl (by rw [hal];omega) ?_)|(refine rg 15 (dK rfl (vV (by exact lE T rfl rfl rfl rfl rfl rfl (by omega) (by omega) (by omega)) ?_));refine aV ?_)|refine nZ ?_));all_goals try (exfalso;omega)
          all_goals exact ⟨.inl rfl,[0],_,rfl,(by show AV.sl 0 0 ((G.length:Int)-0).toNat 1=AV.sl 0 0 G.length 1;rw [show ((G.length:Int)-0).toNat=G.length by omega]),rfl,⟨.inr (aD rfl htk (ints_idf _)),trivial⟩,by decide,GK⟩
      · have hnew:=LW (l:=l) hd;rw [hkc,rE hlt,← aP hlt] at hnew;generalize l.getD k 0=a at *;generalize l.getD (k-1) 0=b at *
        (repeat' (first|refine wS ?_|refine wB ?_|refine wK ?_|refine wU ?_|(refine wC rfl ?_ ?_<;>(intro hb;(try simp only [nm] at hb);try (exfalso;omega)))|(refine rg 4 (dK rfl (qW T rfl (vV (aI rfl rfl) ?_))))|(refine bQ (id:=6) 61 yP3 (rM 16 10) yP4 cF rfl (by decide +kernel) (dN rfl (dN rfl (dV rfl (by exact aK T rfl rfl rfl rfl rfl (by omega) (by omega)) ?_)));refine dV rfl (by exact aE T rfl rfl (bM rfl e1) rfl) ?_;refine dN rfl (dN rfl (dV rfl (cX rfl rfl (by omega) (by omega)) (dV rfl (by exact aK T rfl rfl rfl rfl rfl (by omega) (by omega)) ?_)));refine dV rfl (by exact aE T rfl rfl (bM rfl e2) rfl) ?_;refine dV rfl (dQ rfl rfl (by omega)) (dE ?_))|(refine iA 5 rfl rfl rfl (by omega) (by omega) ?_)|refine nZ ?_));all_goals try (exfalso;omega)
        all_goals exact ⟨⟨k+1,by omega,hlt,hnew⟩,by dsimp only;omega,[0],rfl,by (repeat (first | exact trivial | refine ⟨rfl,?_⟩)),⟨.inr (aD rfl rfl (ints_idf _)),trivial⟩,by decide,GK⟩
    · obtain rfl:k=l.length:=by omega
      have hcm:G7 l=l:=by
        show jL l l.length=l;rw [hkc,dI]
      rw [hcm]
      (repeat' (first|refine wS ?_|refine wR ?_|refine wE ?_|(refine wC rfl ?_ ?_<;>(intro hb;(try simp only [nm] at hb);try (exfalso;omega)))|(refine rg 4 (dK rfl (qW T rfl (vV (aI rfl rfl) ?_))))|(refine rg 16 (mW rfl (aV ?_)))|refine nZ ?_));all_goals first | (exfalso;omega) | exact ⟨.inl rfl,[0],_,rfl,rfl,rfl,⟨.inr (aD rfl rfl (ints_idf _)),trivial⟩,by decide,GK⟩
theorem BU (l:List Int) (x:Int):∀ m,m≤l.length→(x∈jL l m↔x∈l.take m)
  | 0,_=>by simp [jL]
  | m+1,hm=>by
    have ih:=BU l x m (by omega)
    rw [aP (by omega)]
    by_cases e:0<m∧l.getD m 0=l.getD (m-1) 0
    · rw [M4 e.1 e.2,ih,bG,aQ];refine ⟨.inl,fun h=>h.elim id fun h=>?_⟩
      have e2:=e.2;rw [rE (by omega),rE (by omega)] at e2
      rw [h,e2];exact T1.2 ⟨m-1,by omega,rfl⟩
    · have:jL l (m+1)=jL l m++[l.getD m 0]:=by
        unfold jL;rw [if_neg e];cases m <;> rfl
      rw [this,bG,bG,ih,rE (by omega)]
theorem LX {l:List Int}(hs:l.Pairwise (·≤·)):∀ m,m≤l.length→yL2 (jL l m)
  | 0,_=>List.Pairwise.nil
  | m+1,hm=>by
    have ih:=LX hs m (by omega)
    by_cases e:0<m∧l.getD m 0=l.getD (m-1) 0
    · rw [M4 e.1 e.2];exact ih
    · have:jL l (m+1)=jL l m++[l.getD m 0]:=by
        unfold jL;rw [if_neg e];cases m <;> rfl
      rw [this];refine fB.2 ⟨ih,jF _ _,fun x hx y hy=>?_⟩
      rw [aQ] at hy;rw [BU l x m (by omega)] at hx
      obtain ⟨i,hi,rfl⟩:=T1.1 hx;have him:i<m:=by omega
      rw [hy,rE (by omega)]
      have h1:l[m-1]≤l[m]:=lG.1 hs (m-1) m _ _ (by omega)
      have h2:l[i]≤l[m-1]:=by
        by_cases ei:i=m-1
        · subst ei;exact dC _
        · exact lG.1 hs i (m-1) _ _ (by omega)
      have h3:l[m]≠l[m-1]:=fun q=>e ⟨by omega,by rw [rE (by omega),rE (by omega)];exact q⟩
      omega
theorem qG (l:List Int):∀ m,(jL l m).length≤m
  | 0=>by simp [jL]
  | m+1=>by
    have ih:=qG l m;unfold jL;split
    · omega
    · simp;omega
abbrev mM (g:G) (i:Nat):List Int:=G7 (jD (F0 g i))
theorem GA (c:Cx) (gs:List G) (b:Int) (h:kV c gs){g:G}{i:Nat}(hg:pU gs b=some (g,i)) :
    aT Tryz.prog 16 [.pr (gZ c gs) 0,.i b] [] (.sl 0 0 (mM g i).length 1) [.arr (ints (mM g i)) 1]:=by
  unfold mM;obtain ⟨k0,h1,h2,h3,h4⟩:=qF hg;have hgm:=aS h2;have og:=h.mid.out.ok g hgm;have hwl:=h.mid.wl g hgm;have hl12:gs.length≤12:=bP h.mid.out.len h.mid.out.ln;have hgr:=GR c gs b (by omega) (fun x hx=>by have:=(h.mid.out.ok x hx).ln;omega) hg
  have hi:i<g.1.length:=by rw [h4];exact iD h3
  have hln:=og.ln;have hil:(F0 g i).length=g.2.length:=aF _;have htk:∀ k (h:k<g.2.length),_:=fun k h=>UI (g:=g) (i:=i) h;have hwg:∀ k (h:k<g.2.length),(ints g.2[k].1)[((i:Int)).toNat]? = some [.i (gP g.2[k] i)]∧(ints g.2[k].1).length=g.1.length:=fun k h=>by
    have:=(og.ws _ (aH h)).pl;exact ⟨ints_gI 0 (by omega) rfl,by rw [ints_length];exact this⟩
  have hs1:=NK (F0 g i) (by omega)
  have hsl:=pF (F0 g i);have hs2:=EZ (jD (F0 g i)) (by omega)
  rw [hsl] at hs2;obtain ⟨bs,ws⟩:=g;dsimp only at *;generalize F0 (bs,ws) i=P at *;have hwsl:(fH ws).length=ws.length:=fJ _;refine bK T Tryz.func16 rfl rfl rfl rfl ?_
  (repeat' (first|refine wS ?_|(refine rg 0 (aV ?_))|(refine rg 1 (dK rfl (vV (kC (hgr)) (mW rfl (xW rfl (xW rfl (xW rfl (bN (bI T rfl) rfl (aL T rfl rfl rfl rfl rfl rfl (by decide) rfl (oM ?_))))))))))|refine nZ ?_));all_goals try (exfalso;omega)
  refine dU 5 (cs:=gA (bs,ws)) rfl rfl rfl ?_
  (repeat' (first|refine wS ?_|(refine rg 2 (vV (eL rfl) (sF 8 1 rfl (by decide) ?_)))|refine nZ ?_));all_goals try (exfalso;omega)
  (repeat' (first|refine wB ?_|(refine rg 3 (gB T rfl (qW T rfl (mV ?_))))|refine nZ ?_));all_goals try (exfalso;omega)
  refine cO (X:={k:Nat // k≤ws.length}) (fun k=>[(6,.i i),(8,.sl 0 0 k.1 1),(19,.rowE (fH ws) 3),(20,.i (fH ws).length),(21,.i k.1)]) (fun k=>[.arr (ints (P.take k.1)) 1]) (fun k=>ws.length-k.1) ⟨0,bW _⟩ ⟨[1],rfl,(by repeat first|exact trivial|refine ⟨rfl,?_⟩),⟨.inr rfl,trivial⟩,by decide,jJ _⟩ ?_
  rintro ⟨k,hk⟩;dsimp only;by_cases hlt:k<ws.length
  · have hgk:=nN hlt;obtain ⟨q1,q2⟩:=hwg k hlt;have q3:=htk k hlt;have q4:(ints (P.take k)).length=k:=by rw [ints_length,bL];omega
    have q5:ints (P.take (k+1))=ints (P.take k)++[[.i (gP ws[k] i)]]:=by rw [q3,D7]
    generalize ints (P.take k)=A at *;generalize gP ws[k] i=v at *;generalize ws[k]=w at *;obtain ⟨wp,wm,wc⟩:=w;dsimp only at *
    (repeat' (first|refine wS ?_|refine wB ?_|refine wK ?_|(refine wC rfl ?_ ?_<;>(intro hb;(try simp only [nm] at hb);try (exfalso;omega)))|(refine rg 4 (vV (aI rfl rfl) ?_))|(refine rg 5 (vV (ix T rfl (by omega) (jX _) hgk) (lW T rfl (bN (bI T rfl) rfl (aL T rfl rfl rfl rfl rfl rfl (by decide) rfl ?_)))))|(refine rg 6 (mW rfl (gB T rfl (mW rfl (vV (ix T rfl (by omega) (ints_len _) q1) (lW T rfl (bN (by exact bD T rfl rfl (by decide) (by decide) rfl rfl rfl) rfl ?_))))));refine fY T rfl rfl rfl rfl rfl rfl (by omega) (kP.whole rfl rfl) rfl (by simp;omega) (by simp;omega) rfl ?_;refine aV ?_)|(refine rg 7 (vV (bY rfl rfl (by omega) (by omega)) (mV ?_)))|refine nZ ?_));all_goals try (exfalso;omega)
    exact ⟨⟨k+1,hlt⟩,by dsimp only;omega,⟨[3],rfl,(by repeat first|exact trivial|refine ⟨rfl,?_⟩),⟨.inr (aD rfl (by dsimp only;rw [q5];exact mI q4.symm) (ints_idf _)),trivial⟩,by decide,jJ _⟩⟩
  · obtain rfl:k=ws.length:=by omega
    rw [show P.take ws.length=P by rw [← hil,dI]]
    rw [← hil] at *
    (repeat' (first|refine wS ?_|refine wR ?_|refine wE ?_|(refine wC rfl ?_ ?_<;>(intro hb;(try simp only [nm] at hb);try (exfalso;omega)))|(refine rg 4 (vV (aI rfl rfl) ?_))|(refine rg 8 (mW rfl (fP [0] rfl rfl (hs1) rfl rfl (by decide) ⟨.inr (aD rfl rfl (ints_idf _)),trivial⟩ (by simp) rfl ?_)))|(refine rg 9 (mW rfl (fP [0] rfl rfl (hs2) rfl rfl (by decide) ⟨.inr (aD rfl (cJ _ (ints_idf _)) (ints_idf _)),trivial⟩ (by simp) rfl ?_));refine aV ?_)|refine nZ ?_));all_goals try (exfalso;omega)
    exact ⟨.inl rfl,[0],_,rfl,rfl,rfl,⟨.inr (aD rfl (cJ _ (ints_idf _)) (ints_idf _)),trivial⟩,by decide,jJ _⟩
end Go.Proofs.YtmmkhmilpeodnaaGreat
namespace Go.Ld
open Go.Ab Go.Proofs.YtmmkhmilpeodnaaGreat
def ER (a b:SP):SP:=(min a.1 b.1,max a.2 b.2)
def zQ (g:G) (i k:Nat):SP:=(g.2.take k).foldl (fun r w=>ER r (gC w i)) (gC (gS g) i)
def xC (g:G) (i:Nat):SP:=zQ g i g.2.length
theorem D2 {g:G}{i k:Nat}(h:k<g.2.length):zQ g i (k+1)=ER (zQ g i k) (gC g.2[k] i):=by
  unfold zQ;rw [aP h,V7];rfl
def zG6 (l:List Int):Int × Bool:=if l.length=1 then (l.getD 0 0,true) else (0,false)
def vB (c:Cx) (l:List Int) (r:SP) (lot:Int):Int:=if l.length=0∨l.any (fun id=>decide ((c.bs.getD id.toNat (0,0,0)).1≠lot))=true then 0 else r.1
end Go.Ld
namespace Go.Proofs.YtmmkhmilpeodnaaGreat
open Go Go.Ab Go.Ld
attribute [local irreducible] VC AW bX aT jU
set_option maxHeartbeats 4000000
theorem LK (c:Cx) (gs:List G) (b:Int) (h:kV c gs){g:G}{i:Nat}(hg:pU gs b=some (g,i)) :
    aT Tryz.prog 27 [.pr (gZ c gs) 0,.i b] [] (.sl 0 0 g.1.length 1) [.arr (ints g.1) 1]:=by
  obtain ⟨k0,h1,h2,h3,h4⟩:=qF hg;have hl12:gs.length≤12:=bP h.mid.out.len h.mid.out.ln;have hln:=(h.mid.out.ok g (aS h2)).ln;have hgr:=GR c gs b (by omega) (fun x hx=>by have:=(h.mid.out.ok x hx).ln;omega) hg
  have hcl:=HJ g.1 (by omega)
  obtain ⟨bs,ws⟩:=g;dsimp only at *;refine bK T Tryz.func27 rfl rfl rfl rfl ?_
  (repeat' (first|refine wS ?_|refine wR ?_|(refine rg 0 (aV ?_))|(refine rg 1 (dK rfl (vV (kC (hgr)) (mW rfl (xW rfl (xW rfl (xW rfl (bN (bI T rfl) rfl (aL T rfl rfl rfl rfl rfl rfl (by decide) rfl (oM ?_))))))))))|(refine rg 2 (gB T rfl (bN (by exact fX rfl rfl hcl (.inr ⟨rfl,rfl,by simp⟩)) rfl ?_));refine aV ?_)|refine nZ ?_));all_goals try (exfalso;omega)
  exact ⟨.inl rfl,[1],_,rfl,rfl,rfl,⟨.inr (aD rfl (cJ _ (ints_idf _)) (ints_idf _)),trivial⟩,by decide,jJ _⟩
theorem H8 (c:Cx) (gs:List G) (b:Int) (h:kV c gs){g:G}{i:Nat}(hg:pU gs b=some (g,i)) :
    aT Tryz.prog 13 [.pr (gZ c gs) 0,.i b] [] (.tup [.i (zG6 (mM g i)).1,.b (zG6 (mM g i)).2]) []:=by
  have hp:=GA c gs b h hg;generalize mM g i=P at *;have hl:(ints P).length=P.length:=ints_length _;unfold zG6;by_cases h1:P.length=1
  · rw [if_pos h1];have q:=L0 (l:=P) (j:=(0:Int)) (i:=0) 0 (by omega) rfl
    refine bK T Tryz.func13 rfl rfl rfl rfl ?_
    (repeat' (first|refine wS ?_|refine wK ?_|(refine wC rfl ?_ ?_<;>(intro hb;(try simp only [nm] at hb);try (exfalso;omega)))|(refine rg 0 (oM ?_))|(refine rg 1 (dK rfl (bN (by exact fX rfl rfl hp (.inr ⟨rfl,rfl,by simp⟩)) rfl ?_));refine aV ?_)|(refine rg 2 (mW rfl (qW T rfl (vV (eX rfl rfl) ?_))))|refine nZ ?_));all_goals try (exfalso;omega)
    refine eI [(6,.sl 0 0 P.length 1)] [.arr (ints P) 1] ⟨[0],rfl,(by repeat first|exact trivial|refine ⟨rfl,?_⟩),⟨.inr (aD rfl (cJ _ (ints_idf _)) (ints_idf _)),trivial⟩,by decide,jJ _⟩ ?_
    (repeat' (first|refine wR ?_|(refine rg 4 (mW rfl (vV (by exact aK T rfl rfl rfl rfl rfl (by omega) (by omega)) ?_));refine vV (by exact aE T rfl rfl (bM rfl q) rfl) ?_;refine oM ?_)|refine nZ ?_));all_goals try (exfalso;omega)
    all_goals exact ⟨.inl rfl,[],_,rfl,rfl,rfl,trivial,by decide,jJ _⟩
  · rw [if_neg h1];refine bK T Tryz.func13 rfl rfl rfl rfl ?_
    (repeat' (first|refine wS ?_|refine wR ?_|(refine wC rfl ?_ ?_<;>(intro hb;(try simp only [nm] at hb);try (exfalso;omega)))|(refine rg 0 (oM ?_))|(refine rg 1 (dK rfl (bN (by exact fX rfl rfl hp (.inr ⟨rfl,rfl,by simp⟩)) rfl ?_));refine aV ?_)|(refine rg 2 (mW rfl (qW T rfl (vV (eX rfl rfl) ?_))))|(refine rg 3 (oM ?_))|refine nZ ?_));all_goals try (exfalso;omega)
    all_goals exact rQ
theorem FY (c:Cx) (gs:List G) (b:Int) (h:kV c gs){g:G}{i:Nat}(hg:pU gs b=some (g,i)) :
    aT Tryz.prog 18 [.pr (gZ c gs) 0,.i b] [] (jC (xC g i).1 (xC g i).2) []:=by
  obtain ⟨k0,h1,h2,h3,h4⟩:=qF hg;have hgm:=aS h2;have og:=h.mid.out.ok g hgm;have hwl:=h.mid.wl g hgm;have hne:=h.mid.ne g hgm;have hl12:gs.length≤12:=bP h.mid.out.len h.mid.out.ln;have hgr:=GR c gs b (by omega) (fun x hx=>by have:=(h.mid.out.ok x hx).ln;omega) hg
  have hi:i<g.1.length:=by rw [h4];exact iD h3
  have hln:=og.ln;have hwg:∀ k (h:k<g.2.length),(cT g.2[k].2.2)[((i:Int)).toNat]? = some [.i (gC g.2[k] i).1,.i (gC g.2[k] i).2]∧(cT g.2[k].2.2).length=g.1.length:=fun k h=>by
    have:=(og.ws _ (aH h)).cl;exact ⟨lU (by omega) rfl,by rw [gI];exact this⟩
  have hst:∀ k (h:k<g.2.length),_:=fun k h=>D2 (g:=g) (i:=i) h;have h0:0<g.2.length:=eF.2 hne;have hf0:zQ g i 0=gC g.2[0] i:=by
    obtain ⟨bs,ws⟩:=g;cases ws with
    | nil=>exact absurd rfl hne
    | cons w l=>rfl
  unfold xC;obtain ⟨bs,ws⟩:=g;dsimp only at *;generalize zQ (bs,ws) i=F at *;have hwsl:(fH ws).length=ws.length:=fJ _;have hg0:=nN h0;obtain ⟨q1,q2⟩:=hwg 0 h0;rw [← hf0] at q1;refine bK T Tryz.func18 rfl rfl rfl rfl ?_
  (repeat' (first|refine wS ?_|(refine rg 0 (bN (bI T rfl) rfl ?_))|(refine rg 1 (dK rfl (vV (kC (hgr)) (mW rfl (xW rfl (xW rfl (xW rfl (bN (bI T rfl) rfl (aL T rfl rfl rfl rfl rfl rfl (by decide) rfl (oM ?_))))))))))|refine nZ ?_));all_goals try (exfalso;omega)
  refine dU 5 (cs:=gA (bs,ws)) rfl rfl rfl ?_;generalize hw0:ws[0]=w0 at *;obtain ⟨wp0,wm0,wc0⟩:=w0;dsimp only at *
  (repeat' (first|refine wS ?_|refine wB ?_|refine wK ?_|refine wU ?_|(refine rg 2 (mW rfl (vV (cY rfl) ?_)))|(refine rg 4 (gB T rfl (vV (ix T rfl (by omega) (jX _) hg0) (gB T rfl (mW rfl (vV (ix T rfl (by omega) (jV _) q1) (lW T rfl (bN (bI T rfl) rfl (aL T rfl rfl rfl rfl rfl rfl (by decide) rfl ?_)))))))))|(refine rg 5 (gB T rfl (qW T rfl (mV ?_))))|refine nZ ?_));all_goals try (exfalso;omega)
  refine cO (X:={k:Nat // k≤ws.length}) (fun k=>[(4,.ptr 0 0),(6,.i i),(8,.ptr 1 0),(30,.rowE (fH ws) 3),(31,.i (fH ws).length),(32,.i k.1)]) (fun k=>[.cells [.i 0,.i 0],.cells [.i (F k.1).1,.i (F k.1).2]]) (fun k=>ws.length-k.1) ⟨0,bW _⟩ ⟨[0,2],rfl,(by repeat first|exact trivial|refine ⟨rfl,?_⟩),⟨.inr rfl,.inr rfl,trivial⟩,by decide,jJ _⟩ ?_
  rintro ⟨k,hk⟩;dsimp only;by_cases hlt:k<ws.length
  · have hgk:=nN hlt;obtain ⟨q1,q2⟩:=hwg k hlt;have q3:=hst k hlt;have hh:=zX2 (F k).1 (F k).2 (gC ws[k] i).1 (gC ws[k] i).2;generalize hF1:F (k+1)=f1 at *;generalize F k=f at *;generalize gC ws[k] i=r at *;generalize ws[k]=w at *;obtain ⟨wp,wm,wc⟩:=w;dsimp only at *
    (repeat' (first|refine wS ?_|refine wB ?_|refine wK ?_|(refine wC rfl ?_ ?_<;>(intro hb;(try simp only [nm] at hb);try (exfalso;omega)))|(refine rg 6 (vV (aI rfl rfl) ?_))|(refine rg 7 (vV (ix T rfl (by omega) (jX _) hgk) (lW T rfl (bN (bI T rfl) rfl (aL T rfl rfl rfl rfl rfl rfl (by decide) rfl ?_)))))|(refine bQ (id:=8) 45 [[],[],[1],[],[1,2,3],rM 1 4,rN 6] (rM 36 7) [[],[36],[36],[36,37,38],[36],[36],[]] cF rfl (by decide +kernel) (dO T rfl (dP T rfl (dO T rfl (dN rfl (dV rfl (ix T rfl (by omega) (jV _) q1) (dO T rfl (dV rfl (kC (hh)) (dE ?_))))))));refine aL T rfl rfl rfl rfl rfl rfl (by decide) rfl ?_)|(refine rg 9 (vV (bY rfl rfl (by omega) (by omega)) (mV ?_)))|refine nZ ?_));all_goals try (exfalso;omega)
    exact ⟨⟨k+1,hlt⟩,by dsimp only;omega,⟨[0,1],rfl,(by repeat first|exact trivial|refine ⟨rfl,?_⟩),⟨.inr rfl,.inr (by dsimp only;rw [hF1,q3];rfl),trivial⟩,by decide,jJ _⟩⟩
  · obtain rfl:k=ws.length:=by omega
    (repeat' (first|refine wS ?_|refine wR ?_|refine wE ?_|(refine wC rfl ?_ ?_<;>(intro hb;(try simp only [nm] at hb);try (exfalso;omega)))|(refine rg 6 (vV (aI rfl rfl) ?_))|(refine rg 10 (lW T rfl (aL T rfl rfl rfl rfl rfl rfl (by decide) rfl ?_)))|refine nZ ?_));all_goals try (exfalso;omega)
    all_goals exact ⟨.inl rfl,[],_,rfl,rfl,rfl,trivial,by decide,jJ _⟩
theorem yC5:HB Tryz.prog 48 0=some (3,0):=by kernel_rfl
theorem ZG (c:Cx) (gs:List G) (lot id:Int) (h:0≤id∧id<c.bs.length):aT Tryz.prog 62 [.i id,.pr [.pr (gZ c gs) 0] 0,.pr [.i lot] 0] [] (.b (decide ((c.bs.getD id.toNat (0,0,0)).1≠lot))) []:=by
  have hbx:c.bs[id.toNat]? = some (c.bs.getD id.toNat (0,0,0)):=by
    rw [aC,aA (by omega)];rfl
  have hbxl:(eB c.bs).length=c.bs.length:=aF _;have qb:(eB c.bs)[id.toNat]? = some [.i (c.bs.getD id.toNat (0,0,0)).1,.i (c.bs.getD id.toNat (0,0,0)).2.1,.i (c.bs.getD id.toNat (0,0,0)).2.2]:=by rw [bZ,hbx];rfl
  generalize c.bs.getD id.toNat (0,0,0)=bx at *;obtain ⟨x1,x2,x3⟩:=bx;dsimp only at *;refine bK T Tryz.func62 rfl rfl rfl rfl ?_
  (repeat' (first|refine wS ?_|refine wR ?_|(refine rg 0 (aV ?_))|(refine bQ (id:=1) 15 [[],[0],[0,1],[0,1,2],[],rN 5,rN 6,rN 7,[],rN 9] (rM 5 10) [[],[],[],[],rM 5 4,[],[],[],rM 5 8,[]] cF rfl (by decide +kernel) (dO T rfl (dV rfl (by exact cN rfl rfl) ?_));refine dP T rfl (dO T rfl (dN rfl (dV rfl (ix T rfl (by omega) (jM _) qb) (dP T rfl (dO T rfl (dO T rfl (dV rfl (eX rfl rfl) (dE ?_))))))));refine aV ?_)|refine nZ ?_));all_goals try (exfalso;omega)
  all_goals refine cH (.inl rfl) rfl (mB ?_)
  all_goals simp
theorem K8 (c:Cx) (gs:List G) (b lot:Int) (h:kV c gs){g:G}{i:Nat}(hg:pU gs b=some (g,i)) (hr:∀ x,x∈mM g i→0≤x∧x<c.bs.length) (hpl:(mM g i).length≤1000000) :
    aT Tryz.prog 20 [.pr (gZ c gs) 0,.i b,.i lot] [] (.i (vB c (mM g i) (xC g i) lot)) []:=by
  have hp:=GA c gs b h hg;have hrg:=FY c gs b h hg;generalize mM g i=P at *;generalize xC g i=r at *;obtain ⟨r1,r2⟩:=r;dsimp only at *;have hl:(ints P).length=P.length:=ints_length _;have hc:=ZZ (l:=P) (F:=62) (caps:=[.pr [.pr (gZ c gs) 0] 0,.pr [.i lot] 0]) (p:=fun id=>decide ((c.bs.getD id.toNat (0,0,0)).1≠lot)) hpl rfl (fun x hx=>ZG c gs lot x (hr x hx));unfold vB;by_cases h0:P.length=0
  · rw [if_pos (.inl h0)];refine bK T Tryz.func20 rfl rfl rfl rfl ?_
    (repeat' (first|refine wS ?_|(refine rg 0 (bN (cC rfl rfl) rfl (bN (cC rfl rfl) rfl (aV ?_))))|refine nZ ?_));refine dU 3 rfl rfl rfl ?_
    refine dU 5 rfl rfl rfl ?_
    (repeat' (first|refine wS ?_|(refine rg 1 (lW T rfl (mW rfl (bN (by exact fX rfl rfl hp (.inr ⟨rfl,rfl,by simp⟩)) rfl ?_)));refine aV ?_)|refine nZ ?_));refine eI [(1,.i b),(3,.pr [.pr (gZ c gs) 0] 0),(5,.pr [.i lot] 0),(7,.sl 0 0 P.length 1)] [.arr (ints P) 1] ⟨[2],rfl,(by repeat first|exact trivial|refine ⟨rfl,?_⟩),⟨.inr (aD rfl (cJ _ (ints_idf _)) (ints_idf _)),trivial⟩,by decide,jJ _⟩ ?_
    refine I4 7 (es:=ints P) rfl rfl hl.symm (fO (ints_idf _)) ?_
    (repeat' (first|refine wS ?_|refine wR ?_|refine wT ?_|(refine rg 2 (mW rfl (qW T rfl (vV (gX rfl rfl (by omega)) (mV ?_))));(iterate 3 refine gF ?_);refine pV ?_)|(refine rg 3 (aV ?_))|refine nZ ?_));all_goals try (exfalso;omega)
    all_goals exact rQ
  · cases ha:P.any fun id=>decide ((c.bs.getD id.toNat (0,0,0)).1≠lot) with
    | true=>
      rw [ha] at hc;rw [if_pos (.inr rfl)];refine bK T Tryz.func20 rfl rfl rfl rfl ?_
      (repeat' (first|refine wS ?_|(refine rg 0 (bN (cC rfl rfl) rfl (bN (cC rfl rfl) rfl (aV ?_))))|refine nZ ?_));refine dU 3 rfl rfl rfl ?_
      refine dU 5 rfl rfl rfl ?_
      (repeat' (first|refine wS ?_|(refine rg 1 (lW T rfl (mW rfl (bN (by exact fX rfl rfl hp (.inr ⟨rfl,rfl,by simp⟩)) rfl ?_)));refine aV ?_)|refine nZ ?_));refine eI [(1,.i b),(3,.pr [.pr (gZ c gs) 0] 0),(5,.pr [.i lot] 0),(7,.sl 0 0 P.length 1)] [.arr (ints P) 1] ⟨[2],rfl,(by repeat first|exact trivial|refine ⟨rfl,?_⟩),⟨.inr (aD rfl (cJ _ (ints_idf _)) (ints_idf _)),trivial⟩,by decide,jJ _⟩ ?_
      refine I4 7 (es:=ints P) rfl rfl hl.symm (fO (ints_idf _)) ?_
      (repeat' (first|refine wS ?_|refine wR ?_|refine wT ?_|(refine rg 2 (mW rfl (qW T rfl (vV (dQ rfl rfl (by omega)) (mW rfl (yN rfl (yV (by exact jK rfl rfl) ?_))))));refine yV (kC (hc)) (pV ?_))|(refine rg 3 (aV ?_))|refine nZ ?_));all_goals try (exfalso;omega)
      all_goals exact rQ
    | false=>
      rw [ha] at hc;rw [if_neg (by rintro (q | q);exact h0 q;cases q)]
      refine bK T Tryz.func20 rfl rfl rfl rfl ?_
      (repeat' (first|refine wS ?_|(refine rg 0 (bN (cC rfl rfl) rfl (bN (cC rfl rfl) rfl (aV ?_))))|refine nZ ?_));refine dU 3 rfl rfl rfl ?_
      refine dU 5 rfl rfl rfl ?_
      (repeat' (first|refine wS ?_|(refine rg 1 (lW T rfl (mW rfl (bN (by exact fX rfl rfl hp (.inr ⟨rfl,rfl,by simp⟩)) rfl ?_)));refine aV ?_)|refine nZ ?_));refine eI [(1,.i b),(3,.pr [.pr (gZ c gs) 0] 0),(5,.pr [.i lot] 0),(7,.sl 0 0 P.length 1)] [.arr (ints P) 1] ⟨[2],rfl,(by repeat first|exact trivial|refine ⟨rfl,?_⟩),⟨.inr (aD rfl (cJ _ (ints_idf _)) (ints_idf _)),trivial⟩,by decide,jJ _⟩ ?_
      refine I4 7 (es:=ints P) rfl rfl hl.symm (fO (ints_idf _)) ?_
      (repeat' (first|refine wS ?_|refine wK ?_|refine wR ?_|refine wU ?_|(refine rg 2 (mW rfl (qW T rfl (vV (dQ rfl rfl (by omega)) (mW rfl (yN rfl (yV (by exact jK rfl rfl) ?_))))));refine yV (kC (hc)) (pV ?_))|(refine rg 4 (lW T rfl (mW rfl (vV (kC (hrg)) (vV (by exact R3 T rfl yC5 rfl rfl) ?_))));refine aV ?_)|refine nZ ?_));all_goals try (exfalso;omega)
      all_goals exact rQ
end Go.Proofs.YtmmkhmilpeodnaaGreat
namespace Go.Ld
open Go.Ab Go.Proofs.YtmmkhmilpeodnaaGreat
def zJ (g:G) (p q:List Int) (w:W) (i:Nat):Bool:=decide (gP w i=p.getD (g.1.getD i 0).toNat 0)&&pT (gC w i).1 (gC w i).2 (q.getD (p.getD (g.1.getD i 0).toNat 0).toNat 0)
def xQ (g:G) (p q:List Int) (w:W):Bool:=(List.range g.1.length).all (zJ g p q w)
theorem zO5 {g:G}{p q:List Int}{w:W}(h:∀ i,i<g.1.length→zJ g p q w i=true):xQ g p q w=true:=bF.2 fun i hi=>h i (dD.1 hi)
theorem zY3 {g:G}{p q:List Int}{w:W}{i:Nat}(hi:i<g.1.length) (h:zJ g p q w i=false):xQ g p q w=false:=qS.2 ⟨i,dD.2 hi,by rw [h];simp⟩
structure yF6 (n:Nat) (p q:List Int):Prop where
  pl:p.length=n
  ql:q.length=n
  pr:∀ i,i<n→0≤p.getD i 0∧p.getD i 0<n
end Go.Ld
namespace Go.Proofs.YtmmkhmilpeodnaaGreat
open Go Go.Ab Go.Ld
attribute [local irreducible] VC AW bX aT jU
set_option maxHeartbeats 4000000
theorem zE9 {n:Nat}(g:G) (p q:List Int) (w:W) (hg:wY n g) (hw:CJ n g.1.length w) (hp:yF6 n p q) (hn:n≤1000) :
    aT Tryz.prog 64 [.agg (wA w),.pr (gA g) 0,.pr [.rowE (ints p) 1] 0,.pr [.rowE (ints q) 1] 0] [] (.b (xQ g p q w)) []:=by
  have hln:=hg.ln;have hyes:=zO5 (g:=g) (p:=p) (q:=q) (w:=w);have hno:=fun (i:Nat) (hi:i<g.1.length)=>zY3 (g:=g) (p:=p) (q:=q) (w:=w) hi;have hpp:=hw.pl;have hcc:=hw.cl;have hgi:∀ i,i<g.1.length→0≤g.1.getD i 0∧g.1.getD i 0<n:=fun i hi=>by
    rw [aC,aA hi];exact hg.rg _ (aH hi)
  have hlp:(ints p).length=n:=by rw [ints_length];exact hp.pl
  have hlq:(ints q).length=n:=by rw [ints_length];exact hp.ql
  obtain ⟨bs,ws⟩:=g;obtain ⟨wp,wm,wc⟩:=w;dsimp only at *;have hlb:(ints bs).length=bs.length:=ints_length _;have hl1:(ints wp).length=bs.length:=by rw [ints_length];exact hpp
  have hl2:(cT wc).length=bs.length:=by rw [gI];exact hcc
  generalize xQ (bs,ws) p q (wp,wm,wc)=R at *;refine bK T Tryz.func64 rfl rfl rfl rfl ?_
  (repeat' (first|refine wS ?_|refine wB ?_|(refine rg 0 (bN (cC rfl rfl) rfl (aV ?_)))|(refine rg 1 (gB T rfl (qW T rfl (mV ?_))))|refine nZ ?_));all_goals try (exfalso;omega)
  refine dU 4 (cs:=wA (wp,wm,wc)) rfl rfl rfl ?_;refine cO (X:={k:Nat // k≤bs.length∧∀ i,i<k→zJ (bs,ws) p q (wp,wm,wc) i=true}) (fun k=>[(2,.pr [.rowE (ints p) 1] 0),(3,.pr [.rowE (ints q) 1] 0),(4,.pr (wA (wp,wm,wc)) 0),(9,.rowE (ints bs) 1),(10,.i (ints bs).length),(11,.i k.1)]) (fun _=>[]) (fun k=>bs.length-k.1) ⟨0,bW _,K3⟩ (fA []) ?_;rintro ⟨k,hk,hall⟩;dsimp only;by_cases hlt:k<bs.length
  · obtain ⟨g1,g2⟩:=hgi k hlt;have qb:=ints_gI (l:=bs) (j:=(k:Int)) (i:=k) 0 (by omega) rfl
    have qp:=ints_gI (l:=wp) (j:=(k:Int)) (i:=k) 0 (by omega) rfl
    have qc:=lU (l:=wc) (j:=(k:Int)) (i:=k) (by omega) rfl
    have hok:zJ (bs,ws) p q (wp,wm,wc) k=(decide (wp.getD k 0=p.getD (bs.getD k 0).toNat 0)&&pT (wc.getD k (0,0)).1 (wc.getD k (0,0)).2 (q.getD (p.getD (bs.getD k 0).toNat 0).toNat 0)):=rfl;have hn2:=hno k hlt;generalize bs.getD k 0=b at *;obtain ⟨p1,p2⟩:=hp.pr b.toNat (by omega)
    have qp2:=ints_gI (l:=p) (j:=b) (i:=b.toNat) 0 (by have:=hp.pl;omega) (by omega)
    generalize p.getD b.toNat 0=x at *;have qq:=ints_gI (l:=q) (j:=x) (i:=x.toNat) 0 (by have:=hp.ql;omega) (by omega)
    generalize q.getD x.toNat 0=y at *;generalize wp.getD k 0=v at *;generalize wc.getD k (0,0)=r at *;obtain ⟨r1,r2⟩:=r;dsimp only at *;have hh:=QK r1 r2 y;by_cases hv:v=x
    · rw [decide_eq_true hv,eM] at hok;generalize pT r1 r2 y=hb' at *;cases hb' with
      | true=>
        (repeat' (first|refine wS ?_|refine wB ?_|refine wK ?_|refine wU ?_|(refine wC rfl ?_ ?_<;>(intro hb;(try simp only [nm] at hb);try (exfalso;omega)))|(refine rg 2 (vV (aI rfl rfl) ?_))|(refine rg 3 (mW rfl (vV (ix T rfl (by omega) (ints_len _) qb) (lW T rfl (oM ?_)))))|(refine bQ (id:=4) 43 yP6 (rM 16 26) yP7 cF rfl (by decide +kernel) (dP T rfl (dO T rfl (dN rfl (dV rfl (ix T rfl (by omega) (ints_len _) qp) (dO T rfl (dO T rfl (dN rfl (dV rfl (ix T rfl (by omega) (ints_len _) qp2) (dL T ?_)))))))));refine dV rfl (eX rfl rfl) (dM ?_);refine uA rfl rfl rfl rfl ?_ ?_<;>(intro hb;rw [hb];(try simp only [nm] at hb);try (exfalso;omega))<;>(refine tF T ?_);(all_goals (refine tO T rfl (tN rfl (dT rfl (ix T rfl (by omega) (jV _) qc) (tO T rfl (tO T rfl (tO T rfl (tN rfl (dT rfl (ix T rfl (by omega) (ints_len _) qp2) (tO T rfl (dT rfl (ix T rfl (by omega) (ints_len _) qq) ?_)))))))));refine tO T rfl (dT rfl (kC (hh)) (dT rfl (cY rfl) (dV rfl (gQ rfl rfl) (dE ?_)))))))|(refine rg 6 (vV (bY rfl rfl (by omega) (by omega)) (mV ?_)))|refine nZ ?_));all_goals try (exfalso;omega)
        exact ⟨⟨k+1,hlt,fun i hi=>by
          rcases iM i k with h | h
          · exact hall i h
          · obtain rfl:i=k:=by omega
            exact hok⟩,by dsimp only;omega,[],rfl,⟨rfl,rfl,rfl,rfl,rfl,rfl,trivial⟩,trivial,cM,jJ _⟩
      | false=>
        have hR:=hn2 hok;subst hR
        (repeat' (first|refine wS ?_|refine wB ?_|refine wK ?_|refine wR ?_|refine wT ?_|(refine wC rfl ?_ ?_<;>(intro hb;(try simp only [nm] at hb);try (exfalso;omega)))|(refine rg 2 (vV (aI rfl rfl) ?_))|(refine rg 3 (mW rfl (vV (ix T rfl (by omega) (ints_len _) qb) (lW T rfl (oM ?_)))))|(refine bQ (id:=4) 43 yP6 (rM 16 26) yP7 cF rfl (by decide +kernel) (dP T rfl (dO T rfl (dN rfl (dV rfl (ix T rfl (by omega) (ints_len _) qp) (dO T rfl (dO T rfl (dN rfl (dV rfl (ix T rfl (by omega) (ints_len _) qp2) (dL T ?_)))))))));refine dV rfl (eX rfl rfl) (dM ?_);refine uA rfl rfl rfl rfl ?_ ?_<;>(intro hb;rw [hb];(try simp only [nm] at hb);try (exfalso;omega))<;>(refine tF T ?_);(all_goals (refine tO T rfl (tN rfl (dT rfl (ix T rfl (by omega) (jV _) qc) (tO T rfl (tO T rfl (tO T rfl (tN rfl (dT rfl (ix T rfl (by omega) (ints_len _) qp2) (tO T rfl (dT rfl (ix T rfl (by omega) (ints_len _) qq) ?_)))))))));refine tO T rfl (dT rfl (kC (hh)) (dT rfl (cY rfl) (dV rfl (gQ rfl rfl) (dE ?_)))))))|(refine rg 5 (aV ?_))|refine nZ ?_));all_goals try (exfalso;omega)
        all_goals exact rQ
    · rw [decide_eq_false hv,iR] at hok;have hR:=hn2 hok;subst hR
      (repeat' (first|refine wS ?_|refine wB ?_|refine wK ?_|refine wR ?_|refine wT ?_|(refine wC rfl ?_ ?_<;>(intro hb;(try simp only [nm] at hb);try (exfalso;omega)))|(refine rg 2 (vV (aI rfl rfl) ?_))|(refine rg 3 (mW rfl (vV (ix T rfl (by omega) (ints_len _) qb) (lW T rfl (oM ?_)))))|(refine bQ (id:=4) 43 yP6 (rM 16 26) yP7 cF rfl (by decide +kernel) (dP T rfl (dO T rfl (dN rfl (dV rfl (ix T rfl (by omega) (ints_len _) qp) (dO T rfl (dO T rfl (dN rfl (dV rfl (ix T rfl (by omega) (ints_len _) qp2) (dL T ?_)))))))));refine dV rfl (eX rfl rfl) (dM ?_);refine uA rfl rfl rfl rfl ?_ ?_<;>(intro hb;rw [hb];(try simp only [nm] at hb);try (exfalso;omega))<;>(refine dG ?_);(all_goals (refine tG rfl (tG rfl (tG rfl (tG rfl (tG rfl (tG rfl (tG rfl (tG rfl (tG rfl (dG ?_)))))))));refine tG rfl (tG rfl (tG rfl (dV rfl (iE rfl rfl) (dE ?_)))))))|(refine rg 5 (aV ?_))|refine nZ ?_));all_goals try (exfalso;omega)
      all_goals exact rQ
  · obtain rfl:k=bs.length:=by omega
    have hR:=hyes hall;subst hR
    (repeat' (first|refine wS ?_|refine wR ?_|refine wE ?_|(refine wC rfl ?_ ?_<;>(intro hb;(try simp only [nm] at hb);try (exfalso;omega)))|(refine rg 2 (vV (aI rfl rfl) ?_))|(refine rg 7 (aV ?_))|refine nZ ?_));all_goals try (exfalso;omega)
    all_goals exact rQ
end Go.Proofs.YtmmkhmilpeodnaaGreat
namespace Go.Ld
open Go.Ab Go.Proofs.YtmmkhmilpeodnaaGreat
def MG (g:G) (p q:List Int) (m:Int) (w:W):Int:=if xQ g p q w&&(decide (m<0)||decide (w.2.1<m)) then w.2.1 else m
def wL (g:G) (p q:List Int) (k:Nat):Int:=(g.2.take k).foldl (MG g p q) (-1)
def nO (g:G) (p q:List Int):Int:=wL g p q g.2.length
theorem I3 {g:G}{p q:List Int}{k:Nat}(h:k<g.2.length):wL g p q (k+1)=MG g p q (wL g p q k) g.2[k]:=by
  unfold wL;rw [aP h,V7];rfl
theorem R9 {g:G}{p q:List Int}(h:∀ w,w∈g.2→0≤w.2.1∧w.2.1≤4000000):∀ k,k≤g.2.length→-1≤wL g p q k∧wL g p q k≤4000000
  | 0,_=>by unfold wL;simp
  | k+1,hk=>by
    have ih:=R9 (p:=p) (q:=q) h k (by omega)
    have:=h g.2[k] (aH _);rw [I3 (by omega)]
    unfold MG;split <;> omega
def H6 (gs:List G) (p q:List Int) (k:Nat):Int:=((gs.take k).map fun g=>nO g p q).sum
theorem SX {gs:List G}{p q:List Int}{k:Nat}(h:k<gs.length):H6 gs p q (k+1)=H6 gs p q k+nO gs[k] p q:=by
  unfold H6;rw [aP h,dW,yA6];simp
def zR0 (c:Cx) (gs:List G) (p q:List Int):Bool:=
  decide (p.length=c.bs.length)&&decide (q.length=p.length)&&Go.Pm.permB p&&gs.all (fun g=>decide (0≤nO g p q))&&decide (H6 gs p q gs.length≤c.m)
theorem KG {n:Nat}{p q:List Int}(h:Go.Pm.permB p=true) (hp:p.length=n) (hq:q.length=p.length):yF6 n p q:=by
  refine ⟨hp,by omega,fun i hi=>?_⟩
  have e:jD p=nats (List.range p.length):=of_decide_eq_true h;have hm:p.getD i 0∈p:=by rw [aC,aA (by omega)];exact aH _
  have:=(Go.Pm.sorted_perm p).mem_iff.2 hm;rw [e,hp] at this;exact jE.1 this
end Go.Ld
namespace Go.Proofs.YtmmkhmilpeodnaaGreat
open Go Go.Ab Go.Ld Go.Pm
attribute [local irreducible] VC AW bX aT jU
set_option maxHeartbeats 4000000
theorem KF (p:List Int) (hl:p.length≤17592186043904):aT Tryz.prog 63 [.rowE (ints p) 1] [] (.b (permB p)) []:=by
  have h1:=zL p;have h2:=J5 p hl;have hlen:(ints (jD p)).length=p.length:=by simp [pF]
  have hsl:=pF p;have hB:permB p=decide (jD p=nats (List.range p.length)):=rfl;rw [hB];generalize jD p=B at *;have hrl:(nats (List.range p.length)).length=p.length:=by simp
  refine bK T Tryz.func63 rfl rfl rfl rfl ?_
  (repeat' (first|refine wS ?_|refine wB ?_|(refine rg 0 (aV ?_))|(refine rg 1 (mW rfl (vV (by exact eA rfl rfl h1 rfl rfl rfl) ?_));refine vV (by exact eA rfl rfl h2 rfl rfl rfl) ?_;refine qW T rfl (mV ?_))|refine nZ ?_));refine cO (X:={i:Nat // i≤p.length∧B.take i=(nats (List.range p.length)).take i}) (fun i=>[(7,.rowE (ints B) 1),(8,.i (ints B).length),(9,.i (i.1:Int))]) (fun _=>[]) (fun i=>p.length-i.1) ⟨0,bW _,rfl⟩ (fA []) ?_
  rintro ⟨i,hi,hg⟩;dsimp only;by_cases hlt:i<p.length
  · have q1:=ints_gI (l:=B) (j:=(i:Int)) (i:=i) 0 (by omega) rfl
    have hx:B.getD i 0=B[i]'(by omega):=by rw [aC,aA (by omega)];rfl
    by_cases e:(i:Int)=B.getD i 0
    · have hg2:B.take (i+1)=(nats (List.range p.length)).take (i+1):=by
        rw [aP (by omega),aP (by omega),hg,← hx,← e]
        simp
      generalize B.getD i 0=x at *
      (repeat' (first|refine wS ?_|refine wB ?_|refine wK ?_|refine wU ?_|(refine wC rfl ?_ ?_<;>(intro hb;(try simp only [nm] at hb);try (exfalso;omega)))|(refine rg 2 (vV (aI rfl rfl) ?_))|(refine rg 3 (mW rfl (vV (ix T rfl (by omega) (ints_len B) q1) (lW T rfl (oM ?_)))))|(refine rg 4 (dK rfl (vV (kZ rfl rfl (by omega)) ?_)))|(refine rg 6 (vV (bY rfl rfl (by omega) (by omega)) (mV ?_)))|refine nZ ?_));all_goals first | (exfalso;omega) | exact ⟨⟨i+1,hlt,hg2⟩,by dsimp only;omega,fA []⟩
    · rw [show decide (B=nats (List.range p.length))=false from decide_eq_false (fun h=>e (by rw [hx];simp [h]))]
      generalize B.getD i 0=x at *
      (repeat' (first|refine wS ?_|refine wB ?_|refine wK ?_|refine wR ?_|refine wT ?_|(refine wC rfl ?_ ?_<;>(intro hb;(try simp only [nm] at hb);try (exfalso;omega)))|(refine rg 2 (vV (aI rfl rfl) ?_))|(refine rg 3 (mW rfl (vV (ix T rfl (by omega) (ints_len B) q1) (lW T rfl (oM ?_)))))|(refine rg 4 (dK rfl (vV (sT rfl rfl (by omega)) ?_)))|(refine rg 5 (aV ?_))|refine nZ ?_));all_goals first | (exfalso;omega) | exact rQ
  · rw [bV (by omega),bV (by omega)] at hg
    rw [show decide (B=nats (List.range p.length))=true from decide_eq_true hg]
    (repeat' (first|refine wS ?_|refine wR ?_|refine wE ?_|(refine wC rfl ?_ ?_<;>(intro hb;(try simp only [nm] at hb);try (exfalso;omega)))|(refine rg 2 (vV (aI rfl rfl) ?_))|(refine rg 7 (aV ?_))|refine nZ ?_));all_goals first | (exfalso;omega) | exact rQ
theorem zM4 (n:Int) (h:n≤17592186043904):aT Tryz.prog 24 [.i n] [] (.sl 0 0 n.toNat 1) [.arr (ints (nats (List.range n.toNat))) 1]:=by
  refine bK T Tryz.func24 rfl rfl rfl rfl ?_
  (repeat' (first|refine wS ?_|refine wB ?_|(refine rg 0 (aV ?_))|(refine rg 1 (aV ?_))|(refine rg 2 (mW rfl (vV (sG rfl rfl) (mV ?_))))|refine nZ ?_));refine zC9 3 1 rfl (by decide) ?_
  refine cO (X:={i:Nat // i≤n.toNat}) (fun i=>[(3,.sl 0 0 i.1 1),(6,.i (max n 0)),(7,.i (i.1:Int))]) (fun i=>[.arr (ints (nats (List.range i.1))) 1]) (fun i=>n.toNat-i.1) ⟨0,bW _⟩ ⟨[0],rfl,⟨rfl,rfl,rfl,trivial⟩,⟨.inr rfl,trivial⟩,by decide,K3⟩ ?_
  rintro ⟨i,hi⟩;dsimp only;have hl:(ints (nats (List.range i))).length=i:=by simp
  by_cases hlt:i<n.toNat
  · have hs:ints (nats (List.range i))++[[AV.i (i:Int)]]=ints (nats (List.range (i+1))):=by rw [F4,EH]
    (repeat' (first|refine wS ?_|refine wB ?_|refine wK ?_|(refine wC rfl ?_ ?_<;>(intro hb;(try simp only [nm] at hb);try (exfalso;omega)))|(refine rg 3 (vV (aI rfl rfl) ?_))|(refine rg 4 (mW rfl (aV ?_)))|(refine rg 5 (dK rfl (bN (by exact bD T rfl rfl (by decide) (by decide) rfl rfl rfl) rfl ?_));refine fY T rfl rfl rfl rfl rfl rfl (by simp) (kP.whole rfl rfl) rfl (by simp;omega) (by simp;omega) rfl ?_;refine aV ?_)|(refine rg 6 (vV (bY rfl rfl (by omega) (by omega)) (mV ?_)))|refine nZ ?_));all_goals first | (exfalso;omega) | skip
    exact ⟨⟨i+1,hlt⟩,by dsimp only;omega,[2],rfl,⟨rfl,rfl,rfl,trivial⟩,⟨.inr (aD rfl ((mI hl.symm).trans hs) (ints_idf _)),trivial⟩,by decide,K3⟩
  · obtain rfl:i=n.toNat:=by omega
    (repeat' (first|refine wS ?_|refine wR ?_|refine wE ?_|(refine wC rfl ?_ ?_<;>(intro hb;(try simp only [nm] at hb);try (exfalso;omega)))|(refine rg 3 (vV (aI rfl rfl) ?_))|(refine rg 7 (mW rfl (aV ?_)))|refine nZ ?_));all_goals first | (exfalso;omega) | exact ⟨.inl rfl,[0],_,rfl,rfl,rfl,⟨.inr (aD rfl rfl (ints_idf _)),trivial⟩,by decide,K3⟩
theorem FI (c:Cx) (gs:List G) (p q:List Int) (h:kV c gs) (hm:c.m≤1048576) (hpl:p.length≤17592186043904) (hql:q.length≤17592186043904) :
    aT Tryz.prog 22 [.pr (gZ c gs) 0,.rowE (ints p) 1,.rowE (ints q) 1] [] (.b (zR0 c gs p q)) []:=by
  have hn12:=h.mid.n12;have hl12:gs.length≤12:=bP h.mid.out.len h.mid.out.ln;have hbl:(eB c.bs).length=c.bs.length:=aF _;have hlp:(ints p).length=p.length:=ints_length _;have hlq:(ints q).length=q.length:=ints_length _;have hgl:(kD gs).length=gs.length:=kB _;have hpr:=KF p hpl;have hpq:=fun hB h1 h2=>KG (n:=c.bs.length) (p:=p) (q:=q) hB h1 h2;have hbst:∀ g,g∈gs→-1≤nO g p q∧nO g p q≤4000000:=fun g hg=>R9 (fun w hw=>⟨((h.mid.out.ok g hg).ws w hw).m0,((h.mid.out.ok g hg).ws w hw).m1⟩) _ (bA _);unfold zR0;generalize hB:permB p=pb at *;by_cases h1:p.length=c.bs.length
  · rw [decide_eq_true h1,eM];by_cases h2:q.length=p.length
    · rw [decide_eq_true h2,eM];cases pb with
      | false=>
        rw [iR,iR];refine bK T Tryz.func22 rfl rfl rfl rfl ?_
        (repeat' (first|refine wS ?_|(refine rg 0 (bN (cC rfl rfl) rfl (bN (cC rfl rfl) rfl (aV ?_))))|refine nZ ?_));refine dU 4 rfl rfl rfl ?_
        refine dU 5 rfl rfl rfl ?_
        (repeat' (first|refine wS ?_|refine wR ?_|refine wT ?_|(refine bQ (id:=1) 80 yP8 (rM 14 20) yP9 cF rfl (by decide +kernel) (dO T rfl (dV rfl (iC T rfl rfl) (dN rfl (dV rfl (by exact cN rfl rfl) ?_))));refine dP T rfl (dO T rfl (dV rfl (iC T rfl rfl) (dV rfl (kZ rfl rfl (by omega)) (dN rfl (tO T rfl (dT rfl (iC T rfl rfl) (tO T rfl (dT rfl (iC T rfl rfl) (dT rfl (kZ rfl rfl (by omega)) ?_)))))))));refine dV rfl (gQ rfl rfl) (dN rfl (tO T rfl (dT rfl (kC (hpr)) (dT rfl (cY rfl) (dV rfl (gQ rfl rfl) (dE ?_)))))))|(refine rg 2 (aV ?_))|refine nZ ?_));all_goals try (exfalso;omega)
        all_goals exact rQ
      | true=>
        rw [eM];have hpq:=hpq rfl h1 h2;have hno:∀ k (hk:k<gs.length),nO gs[k] p q<0→(gs.all (fun g=>decide (0≤nO g p q))&&decide (H6 gs p q gs.length≤c.m))=false:=fun k hk hb=>by
          rw [show gs.all (fun g=>decide (0≤nO g p q))=false from qS.2 ⟨gs[k],aH hk,by simp;omega⟩];rfl
        have hyes:(∀ k (hk:k<gs.length),0≤nO gs[k] p q)→(gs.all (fun g=>decide (0≤nO g p q))&&decide (H6 gs p q gs.length≤c.m))=decide (H6 gs p q gs.length≤c.m):=fun hb=>by
          rw [show gs.all (fun g=>decide (0≤nO g p q))=true from bF.2 fun x hx=>by
            obtain ⟨k,hk,rfl⟩:=mR hx
            exact decide_eq_true (hb k hk)];rfl
        generalize (gs.all (fun g=>decide (0≤nO g p q))&&decide (H6 gs p q gs.length≤c.m))=R at *;refine bK T Tryz.func22 rfl rfl rfl rfl ?_
        (repeat' (first|refine wS ?_|(refine rg 0 (bN (cC rfl rfl) rfl (bN (cC rfl rfl) rfl (aV ?_))))|refine nZ ?_));refine dU 4 rfl rfl rfl ?_
        refine dU 5 rfl rfl rfl ?_
        (repeat' (first|refine wS ?_|refine wB ?_|refine wK ?_|refine wU ?_|(refine bQ (id:=1) 80 yP8 (rM 14 20) yP9 cF rfl (by decide +kernel) (dO T rfl (dV rfl (iC T rfl rfl) (dN rfl (dV rfl (by exact cN rfl rfl) ?_))));refine dP T rfl (dO T rfl (dV rfl (iC T rfl rfl) (dV rfl (kZ rfl rfl (by omega)) (dN rfl (tO T rfl (dT rfl (iC T rfl rfl) (tO T rfl (dT rfl (iC T rfl rfl) (dT rfl (kZ rfl rfl (by omega)) ?_)))))))));refine dV rfl (gQ rfl rfl) (dN rfl (tO T rfl (dT rfl (kC (hpr)) (dT rfl (cY rfl) (dV rfl (gQ rfl rfl) (dE ?_)))))))|(refine rg 3 (aV ?_))|(refine rg 4 (mW rfl (nV ?_));refine gB T rfl (qW T rfl (mV ?_)))|refine nZ ?_));all_goals try (exfalso;omega)
        refine cO (X:={k:Nat // k≤gs.length∧(∀ j (hj:j<gs.length),j<k→0≤nO gs[j] p q)∧0≤H6 gs p q k∧H6 gs p q k≤4000000*k}) (fun k=>[(0,.pr (gZ c gs) 0),(4,.pr [.rowE (ints p) 1] 0),(5,.pr [.rowE (ints q) 1] 0),(7,.i (H6 gs p q k.1)),(37,.rowE (kD gs) 2),(38,.i (kD gs).length),(39,.i k.1)]) (fun _=>[]) (fun k=>gs.length-k.1) ⟨0,bW _,fun j hj h=>absurd h (dA _),dC _,dC _⟩ (fA []) ?_;rintro ⟨k,hk,hall,hs0,hs1⟩;dsimp only;by_cases hlt:k<gs.length
        · have hgk:=Y4 hlt;have hgm:=aH hlt;have og:=h.mid.out.ok _ hgm;have hwl:=h.mid.wl _ hgm;have hno:=hno k hlt;have hsk:=SX (p:=p) (q:=q) hlt;have hbk:=hbst _ hgm;have hall2:0≤nO gs[k] p q→∀ j (hj:j<gs.length),j<k+1→0≤nO gs[j] p q:=fun hb j hj hjk=>by
            rcases iM j k with h' | h'
            · exact hall j hj h'
            · obtain rfl:j=k:=by omega
              exact hb
          clear hyes hall;generalize hg:gs[k]=g at *;have hcl:∀ w,w∈g.2→_:=fun w hw=>zE9 g p q w og (og.ws w hw) hpq (by omega)
          have hbs:∀ j (hj:j<g.2.length),_:=fun j hj=>I3 (g:=g) (p:=p) (q:=q) hj;have hbb:∀ j,j≤g.2.length→_:=fun j hj=>R9 (g:=g) (p:=p) (q:=q) (fun w hw=>⟨(og.ws w hw).m0,(og.ws w hw).m1⟩) j hj;have hmw:∀ w,w∈g.2→0≤w.2.1∧w.2.1≤4000000:=fun w hw=>⟨(og.ws w hw).m0,(og.ws w hw).m1⟩;unfold nO at hbk hsk hno hall2;generalize hS:H6 gs p q (k+1)=S1 at *;generalize H6 gs p q k=S at *;have hbs0:wL g p q 0 = -1:=rfl;unfold MG at hbs;obtain ⟨bs,ws⟩:=g;dsimp only at *;generalize wL (bs,ws) p q=B at *;generalize xQ (bs,ws) p q=FB at *;have hwsl:(fH ws).length=ws.length:=fJ _
          (repeat' (first|refine wS ?_|refine wB ?_|refine wK ?_|(refine wC rfl ?_ ?_<;>(intro hb;(try simp only [nm] at hb);try (exfalso;omega)))|(refine rg 5 (vV (aI rfl rfl) ?_))|(refine rg 6 (vV (ix T rfl (by omega) (qE _) hgk) (lW T rfl (bN (bI T rfl) rfl (aL T rfl rfl rfl rfl rfl rfl (by decide) rfl ?_)))))|refine nZ ?_));all_goals try (exfalso;omega)
          refine dU 9 (cs:=gA (bs,ws)) rfl rfl rfl ?_
          (repeat' (first|refine wS ?_|refine wB ?_|(refine rg 7 (vV (by exact jK rfl rfl) ?_);refine aV ?_)|(refine rg 8 (aV ?_))|(refine rg 9 (gB T rfl (qW T rfl (mV ?_))))|refine nZ ?_));all_goals try (exfalso;omega)
          refine cO (X:={j:Nat // j≤ws.length}) (fun j=>[(0,.pr (gZ c gs) 0),(4,.pr [.rowE (ints p) 1] 0),(5,.pr [.rowE (ints q) 1] 0),(7,.i S),(37,.rowE (kD gs) 2),(38,.i (kD gs).length),(39,.i k),(10,.clo (.func 64) [] [.pr (gA (bs,ws)) 0,.pr [.rowE (ints p) 1] 0,.pr [.rowE (ints q) 1] 0]),(11,.i (B j.1)),(45,.rowE (fH ws) 3),(46,.i (fH ws).length),(47,.i j.1)]) (fun _=>[]) (fun j=>ws.length-j.1) ⟨0,bW _⟩ ⟨[],rfl,⟨rfl,rfl,rfl,rfl,rfl,rfl,rfl,rfl,by dsimp only;rw [hbs0];rfl,rfl,rfl,rfl,trivial⟩,trivial,cM,jJ _⟩ ?_
          rintro ⟨j,hj⟩;dsimp only;by_cases hjl:j<ws.length
          · have hgj:=nN hjl;have hwm:=aH hjl;have hc1:=hcl _ hwm;have hb1:=hbs j hjl;have hb2:=hbb j hj;have hm1:=hmw _ hwm;generalize ws[j]=w at *;generalize FB w=fb at *;generalize hB1:B (j+1)=B1 at *;generalize B j=B0 at *;obtain ⟨wp,wm,wc⟩:=w;dsimp only at *;have hnx:B1=B (j+1):=hB1.symm;cases fb with
            | false=>
              rw [iR,if_neg (by simp)] at hb1
              (repeat' (first|refine wS ?_|refine wB ?_|refine wK ?_|refine wU ?_|(refine wC rfl ?_ ?_<;>(intro hb;(try simp only [nm] at hb);try (exfalso;omega)))|(refine rg 10 (vV (aI rfl rfl) ?_))|(refine rg 11 (vV (ix T rfl (by omega) (jX _) hgj) (lW T rfl (bN (bI T rfl) rfl (aL T rfl rfl rfl rfl rfl rfl (by decide) rfl ?_)))))|(refine rg 12 (mW rfl (lW T rfl (vV (by exact eA rfl rfl hc1 rfl rfl rfl) ?_)));refine mV ?_;(iterate 3 refine gF ?_);(iterate 4 refine gU ?_);refine gF (pV ?_))|(refine rg 14 (vV (bY rfl rfl (by omega) (by omega)) (mV ?_)))|refine nZ ?_));all_goals try (exfalso;omega)
              exact ⟨⟨j+1,hjl⟩,by dsimp only;omega,[],rfl,⟨rfl,rfl,rfl,rfl,rfl,rfl,rfl,rfl,by dsimp only;rw [hB1,hb1];rfl,rfl,rfl,rfl,trivial⟩,trivial,cM,jJ _⟩
            | true=>
              rw [eM] at hb1;by_cases hb0:B0<0
              · rw [decide_eq_true hb0,Bool.true_or,if_pos rfl] at hb1
                (repeat' (first|refine wS ?_|refine wB ?_|refine wK ?_|refine wT ?_|(refine rg 10 (vV (E3 rfl rfl (by omega)) ?_))|(refine rg 11 (vV (ix T rfl (by omega) (jX _) hgj) (lW T rfl (bN (bI T rfl) rfl (aL T rfl rfl rfl rfl rfl rfl (by decide) rfl ?_)))))|(refine rg 12 (mW rfl (lW T rfl (vV (by exact eA rfl rfl hc1 rfl rfl rfl) ?_)));refine mW rfl (yN rfl (yV (E3 rfl rfl (by omega)) (yM ?_)));(iterate 4 refine gF ?_);refine gT (pW rfl (pV ?_)))|(refine rg 13 (gB T rfl (aV ?_)))|(refine rg 14 (vV (bY rfl rfl (by omega) (by omega)) (mV ?_)))|refine nZ ?_));all_goals try (exfalso;omega)
                exact ⟨⟨j+1,hjl⟩,by dsimp only;omega,[],rfl,⟨rfl,rfl,rfl,rfl,rfl,rfl,rfl,rfl,by dsimp only;rw [hB1,hb1];rfl,rfl,rfl,rfl,trivial⟩,trivial,cM,jJ _⟩
              · rw [decide_eq_false hb0,SJ] at hb1;by_cases hwb:wm<B0
                · rw [if_pos (decide_eq_true hwb)] at hb1
                  (repeat' (first|refine wS ?_|refine wB ?_|refine wK ?_|refine wT ?_|(refine rg 10 (vV (E3 rfl rfl (by omega)) ?_))|(refine rg 11 (vV (ix T rfl (by omega) (jX _) hgj) (lW T rfl (bN (bI T rfl) rfl (aL T rfl rfl rfl rfl rfl rfl (by decide) rfl ?_)))))|(refine rg 12 (mW rfl (lW T rfl (vV (by exact eA rfl rfl hc1 rfl rfl rfl) ?_)));refine mW rfl (yN rfl (yV (Y6 rfl rfl (by omega)) (yN rfl (yP T rfl (yO T rfl (yN rfl (yV (E3 rfl rfl (by omega)) (gT (pV ?_)))))))));refine pV ?_)|(refine rg 13 (gB T rfl (aV ?_)))|(refine rg 14 (vV (bY rfl rfl (by omega) (by omega)) (mV ?_)))|refine nZ ?_));all_goals try (exfalso;omega)
                  exact ⟨⟨j+1,hjl⟩,by dsimp only;omega,[],rfl,⟨rfl,rfl,rfl,rfl,rfl,rfl,rfl,rfl,by dsimp only;rw [hB1,hb1];rfl,rfl,rfl,rfl,trivial⟩,trivial,cM,jJ _⟩
                · rw [if_neg (by simpa using hwb)] at hb1
                  (repeat' (first|refine wS ?_|refine wB ?_|refine wK ?_|refine wT ?_|refine wU ?_|(refine rg 10 (vV (E3 rfl rfl (by omega)) ?_))|(refine rg 11 (vV (ix T rfl (by omega) (jX _) hgj) (lW T rfl (bN (bI T rfl) rfl (aL T rfl rfl rfl rfl rfl rfl (by decide) rfl ?_)))))|(refine rg 12 (mW rfl (lW T rfl (vV (by exact eA rfl rfl hc1 rfl rfl rfl) ?_)));refine mW rfl (yN rfl (yV (Y6 rfl rfl (by omega)) (yN rfl (yP T rfl (yO T rfl (yN rfl (yV (Y6 rfl rfl (by omega)) (gT (pV ?_)))))))));refine pV ?_)|(refine rg 14 (vV (bY rfl rfl (by omega) (by omega)) (mV ?_)))|refine nZ ?_));all_goals try (exfalso;omega)
                  exact ⟨⟨j+1,hjl⟩,by dsimp only;omega,[],rfl,⟨rfl,rfl,rfl,rfl,rfl,rfl,rfl,rfl,by dsimp only;rw [hB1,hb1];rfl,rfl,rfl,rfl,trivial⟩,trivial,cM,jJ _⟩
          · obtain rfl:j=ws.length:=by omega
            by_cases hbn:B ws.length<0
            · have hR:=hno hbn;subst hR
              (repeat' (first|refine wS ?_|refine wR ?_|refine wE ?_|(refine wC rfl ?_ ?_<;>(intro hb;(try simp only [nm] at hb);try (exfalso;omega)))|(refine rg 10 (vV (aI rfl rfl) ?_))|(refine rg 15 (mW rfl (vV (aI rfl rfl) ?_)))|(refine rg 16 (aV ?_))|refine nZ ?_));all_goals try (exfalso;omega)
              all_goals exact rQ
            · (repeat' (first|refine wS ?_|refine wK ?_|refine wE ?_|(refine wC rfl (fun hb=>?_) (fun hb=>?_) <;> (((try simp only [nm] at hb);try (exfalso;omega))))|(refine rg 10 (vV (aI rfl rfl) ?_))|(refine rg 15 (mW rfl (vV (aI rfl rfl) ?_)))|(refine rg 17 (dK rfl (vV (bY rfl rfl (by omega) (by omega)) (aV ?_))))|(refine rg 18 (vV (bY rfl rfl (by omega) (by omega)) (mV ?_)))|(refine nZ ?_)));all_goals try (exfalso;omega)
              exact ⟨⟨k+1,hlt,hall2 (by omega),by rw [hS];omega,by rw [hS];omega⟩,by dsimp only;omega,[],rfl,⟨rfl,rfl,rfl,by dsimp only;rw [hS,hsk];rfl,rfl,rfl,rfl,trivial⟩,trivial,cM,jJ _⟩
        · obtain rfl:k=gs.length:=by omega
          have hR:=hyes fun j hj=>hall j hj hj
          subst hR
          (repeat' (first|refine wS ?_|refine wR ?_|refine wE ?_|(refine wC rfl ?_ ?_<;>(intro hb;(try simp only [nm] at hb);try (exfalso;omega)))|(refine rg 5 (vV (aI rfl rfl) ?_))|(refine rg 19 (dK rfl (nV ?_));refine fW T rfl (gB T rfl (vV (lA rfl rfl) (aV ?_))))|refine nZ ?_));all_goals try (exfalso;omega)
          all_goals exact rQ
    · rw [decide_eq_false h2,iR,iR,iR];refine bK T Tryz.func22 rfl rfl rfl rfl ?_
      (repeat' (first|refine wS ?_|(refine rg 0 (bN (cC rfl rfl) rfl (bN (cC rfl rfl) rfl (aV ?_))))|refine nZ ?_));refine dU 4 rfl rfl rfl ?_
      refine dU 5 rfl rfl rfl ?_
      (repeat' (first|refine wS ?_|refine wR ?_|refine wT ?_|(refine bQ (id:=1) 80 yP8 (rM 14 20) yP9 cF rfl (by decide +kernel) (dO T rfl (dV rfl (iC T rfl rfl) (dN rfl (dV rfl (by exact cN rfl rfl) ?_))));refine dP T rfl (dO T rfl (dV rfl (iC T rfl rfl) (dV rfl (kZ rfl rfl (by omega)) (dN rfl (tO T rfl (dT rfl (iC T rfl rfl) (tO T rfl (dT rfl (iC T rfl rfl) (dT rfl (sT rfl rfl (by omega)) ?_)))))))));refine dV rfl (gQ rfl rfl) (dN rfl (tG rfl (tG rfl (tG rfl (dV rfl (iE rfl rfl) (dE ?_)))))))|(refine rg 2 (aV ?_))|refine nZ ?_));all_goals try (exfalso;omega)
      all_goals exact rQ
  · rw [decide_eq_false h1,iR,iR,iR,iR];refine bK T Tryz.func22 rfl rfl rfl rfl ?_
    (repeat' (first|refine wS ?_|(refine rg 0 (bN (cC rfl rfl) rfl (bN (cC rfl rfl) rfl (aV ?_))))|refine nZ ?_));refine dU 4 rfl rfl rfl ?_
    refine dU 5 rfl rfl rfl ?_
    (repeat' (first|refine wS ?_|refine wR ?_|refine wT ?_|(refine bQ (id:=1) 80 yP8 (rM 14 20) yP9 cF rfl (by decide +kernel) (dO T rfl (dV rfl (iC T rfl rfl) (dN rfl (dV rfl (by exact cN rfl rfl) ?_))));refine dP T rfl (dO T rfl (dV rfl (iC T rfl rfl) (dV rfl (sT rfl rfl (by omega)) (dN rfl (tG rfl (tG rfl (tG rfl (tG rfl (dG ?_)))))))));refine dV rfl (iE rfl rfl) (dN rfl (tG rfl (tG rfl (tG rfl (dV rfl (iE rfl rfl) (dE ?_)))))))|(refine rg 2 (aV ?_))|refine nZ ?_));all_goals try (exfalso;omega)
    all_goals exact rQ
end Go.Proofs.YtmmkhmilpeodnaaGreat
namespace Go.Ab
open Go
theorem pZ.freezeEl {n:Nat × Nat}{c:oP}{ρ:Pl}{S:Nat→Prop}{env:eH}{h:Hp}{a:Act}{w:World}{j f k len sz sz2:Nat}{es es' es2:List (List AV)}(s:pZ n c ρ S env h a w) (hj:h[j]? = some (.arr es sz)) (hne:j≠k) (h0:es≠[]) (hf:es.flatten[f]? = some (.sl k 0 len sz2)) (hk:h[k]? = some (.arr es2 sz2)) (hn:len=es2.length) (hi:AV.idfL es2.flatten=true)
    (hl:∀ e,e∈es'→e.length=sz) (he:es'.flatten=es.flatten.set f (.rowE es2 sz2)) :
    pZ n c ρ (fun b=>S b∨∃ o,ρ k=some (b,o)) env ((h.set k .gone).set j (.arr es' sz)) a w:=by
  have h1:=s.hs.freeze hk;have hj':(h.set k .gone)[j]? = some (.arr es sz):=by rw [kN (Ne.symm hne)];exact hj
  refine ⟨s.size,s.defers.st (fun _ h=>.inl h),fun t' x hx=>zF3 (fun _ h=>.inl h) (s.env t' x hx),h1.alter hj' (fun _=>?_) (by simp),s.cm⟩
  have hb:=s.hs.blk j _ hj;simp only [RB] at hb ⊢;obtain ⟨b1,b2,b3⟩:=hb;refine ⟨hl,b2,?_⟩;rcases b3 with ⟨e,_⟩ | ⟨b,o,ys,e1,e2,e3⟩
  · exact absurd e h0
  · refine .inr ⟨b,o,ys,e1,e2,?_⟩;rw [he];refine HW (fun _ h=>.inl h) (fun y hy=>?_) hf e3;rw [hn] at hy;exact L6 hi (s.hs.blk k _ hk) hy
section
variable {P:Program}{n:Nat × Nat}{ops:Array Oper}{env:eH}{h:Hp}{K:eH→Hp→Prop}{rest:List Oper}{Q:Exit→eH→Hp→Prop}{code:Code}
theorem MJ (j f:Nat){k len sz sz2:Nat}{es:List (List AV)}(es':List (List AV)){es2:List (List AV)}(hj:h[j]? = some (.arr es sz)) (hne:j≠k) (h0:es≠[]) (hf:es.flatten[f]? = some (.sl k 0 len sz2)) (hk:h[k]? = some (.arr es2 sz2)) (hn:len=es2.length) (hi:AV.idfL es2.flatten=true)
    (hl:∀ e,e∈es'→e.length=sz) (he:es'.flatten=es.flatten.set f (.rowE es2 sz2)) (hv:AW P n code env ((h.set k .gone).set j (.arr es' sz)) Q):AW P n code env h Q:=
  fun c ρ S a w QQ s hQ=>hv c ρ _ a w QQ (s.freezeEl hj hne h0 hf hk hn hi hl he) hQ
end
end Go.Ab
namespace Go.Ld
open Go.Ab Go.Proofs.YtmmkhmilpeodnaaGreat
theorem zE8 {es:List (List AV)}(h:∀ e,e∈es→e.all AV.one=true):es.flatten.all AV.one=true:=by
  rw [bF];intro x hx;obtain ⟨e,he,hx⟩:=List.mem_flatten.1 hx;exact bF.1 (h e he) x hx
theorem sQ {α:Type}{f:α→List AV}(hf:∀ x,(f x).all AV.one=true) (l:List α):(l.map f).flatten.all AV.one=true:=zE8 fun e he=>by
  obtain ⟨x,_,rfl⟩:=bE.1 he;exact hf x
theorem GN {α:Type}{f:α→List AV}(hf:∀ x,AV.idfL (f x)=true) (l:List α):∀ e,e∈l.map f→AV.idfL e=true:=fun e he=>by
  obtain ⟨x,_,rfl⟩:=bE.1 he;exact hf x
def JH (n:Int):Bool:=decide (n<0∨1048576<n)
def qO (c:Cx):Bool:=[c.m,c.st,c.er,c.sl].any JH
theorem O9 {c:Cx}:qO c=false↔nX c.m c.st c.er c.sl:=by
  unfold qO nX JH;simp;omega
end Go.Ld
namespace Go.Proofs.YtmmkhmilpeodnaaGreat
open Go Go.Ab Go.Ld
attribute [local irreducible] VC AW bX aT jU
set_option maxHeartbeats 4000000
theorem MA (l:List KD) (hl:l.length≤1000000):aT Tryz.prog 37 [.rowE (fQ l) 2] [] (.rowE (fQ l) 2) []:=by
  have hll:(fQ l).length=l.length:=aF _;have hid:=GN (f:=fun b:KD=>[AV.v (.string b.1),AV.i b.2]) (fun _=>rfl) l;have hon:=sQ (f:=fun b:KD=>[AV.v (.string b.1),AV.i b.2]) (fun _=>rfl) l;refine oJ (len:=l.length) hll.symm (fO hid) ?_;refine bK T Tryz.func37 rfl rfl rfl rfl ?_
  repeat' (first|refine wS ?_|refine wK ?_|refine wT ?_|refine wU ?_|(refine rg 0 (aV ?_))|(refine rg 1 (mV ?_);refine tI T rfl rfl rfl rfl fun b hb=>?_;cases b)|refine nZ ?_)
  · (repeat' (first|refine wR ?_|(refine rg 3 (bN (by exact bD T rfl rfl (by decide) (by decide) rfl rfl rfl) rfl ?_);refine mW rfl (fY T rfl rfl rfl rfl rfl rfl (by decide) (.row (nK l)) hon (by simp;omega) (by simp;omega) rfl ?_);refine aV ?_)|(refine nZ ?_)));exact ⟨.inl rfl,[1],_,rfl,(by show AV.sl 1 0 (0+(fQ l).length) 2=AV.sl 1 0 l.length 2;simp),rfl,⟨.inr (aD rfl rfl hid),trivial⟩,by decide,K3⟩
  · have hl0:l=[]:=fE.1 (Classical.byContradiction fun h=>by have:=hb (by omega);cases this)
    subst hl0
    (repeat' (first|refine wR ?_|(refine rg 2 (vV (eL rfl) (sF 2 2 rfl (by decide) ?_)))|refine nZ ?_));exact ⟨.inl rfl,[0],_,rfl,rfl,rfl,⟨.inr (aD rfl rfl hid),trivial⟩,by decide,K3⟩
theorem LZ (l:List LT) (hl:l.length≤1000000):aT Tryz.prog 38 [.rowE (iS l) 3] [] (.rowE (iS l) 3) []:=by
  have hll:(iS l).length=l.length:=aF _;have hid:=GN (f:=fun b:LT=>[AV.i b.1,AV.i b.2.1,AV.b b.2.2]) (fun _=>rfl) l;have hon:=sQ (f:=fun b:LT=>[AV.i b.1,AV.i b.2.1,AV.b b.2.2]) (fun _=>rfl) l;refine oJ (len:=l.length) hll.symm (fO hid) ?_;refine bK T Tryz.func38 rfl rfl rfl rfl ?_
  repeat' (first|refine wS ?_|refine wK ?_|refine wT ?_|refine wU ?_|(refine rg 0 (aV ?_))|(refine rg 1 (mV ?_);refine tI T rfl rfl rfl rfl fun b hb=>?_;cases b)|refine nZ ?_)
  · (repeat' (first|refine wR ?_|(refine rg 3 (bN (by exact bD T rfl rfl (by decide) (by decide) rfl rfl rfl) rfl ?_);refine mW rfl (fY T rfl rfl rfl rfl rfl rfl (by decide) (.row (oU l)) hon (by simp;omega) (by simp;omega) rfl ?_);refine aV ?_)|(refine nZ ?_)));exact ⟨.inl rfl,[1],_,rfl,(by show AV.sl 1 0 (0+(iS l).length) 3=AV.sl 1 0 l.length 3;simp),rfl,⟨.inr (aD rfl rfl hid),trivial⟩,by decide,K3⟩
  · have hl0:l=[]:=fE.1 (Classical.byContradiction fun h=>by have:=hb (by omega);cases this)
    subst hl0
    (repeat' (first|refine wR ?_|(refine rg 2 (vV (eL rfl) (sF 2 3 rfl (by decide) ?_)))|refine nZ ?_));exact ⟨.inl rfl,[0],_,rfl,rfl,rfl,⟨.inr (aD rfl rfl hid),trivial⟩,by decide,K3⟩
theorem MC (l:List BX) (hl:l.length≤1000000):aT Tryz.prog 39 [.rowE (eB l) 3] [] (.rowE (eB l) 3) []:=by
  have hll:(eB l).length=l.length:=aF _;have hid:=GN (f:=fun b:BX=>[AV.i b.1,AV.i b.2.1,AV.i b.2.2]) (fun _=>rfl) l;have hon:=sQ (f:=fun b:BX=>[AV.i b.1,AV.i b.2.1,AV.i b.2.2]) (fun _=>rfl) l;refine oJ (len:=l.length) hll.symm (fO hid) ?_;refine bK T Tryz.func39 rfl rfl rfl rfl ?_
  repeat' (first|refine wS ?_|refine wK ?_|refine wT ?_|refine wU ?_|(refine rg 0 (aV ?_))|(refine rg 1 (mV ?_);refine tI T rfl rfl rfl rfl fun b hb=>?_;cases b)|refine nZ ?_)
  · (repeat' (first|refine wR ?_|(refine rg 3 (bN (by exact bD T rfl rfl (by decide) (by decide) rfl rfl rfl) rfl ?_);refine mW rfl (fY T rfl rfl rfl rfl rfl rfl (by decide) (.row (jM l)) hon (by simp;omega) (by simp;omega) rfl ?_);refine aV ?_)|(refine nZ ?_)));exact ⟨.inl rfl,[1],_,rfl,(by show AV.sl 1 0 (0+(eB l).length) 3=AV.sl 1 0 l.length 3;simp),rfl,⟨.inr (aD rfl rfl hid),trivial⟩,by decide,K3⟩
  · have hl0:l=[]:=fE.1 (Classical.byContradiction fun h=>by have:=hb (by omega);cases this)
    subst hl0
    (repeat' (first|refine wR ?_|(refine rg 2 (vV (eL rfl) (sF 2 3 rfl (by decide) ?_)))|refine nZ ?_));exact ⟨.inl rfl,[0],_,rfl,rfl,rfl,⟨.inr (aD rfl rfl hid),trivial⟩,by decide,K3⟩
theorem zI8 (n:Int):aT Tryz.prog 77 [.i n] [] (.b (JH n)) []:=by
  unfold JH;by_cases h:n<0
  · rw [decide_eq_true (.inl h)];refine bK T Tryz.func77 rfl rfl rfl rfl ?_
    (repeat' (first|refine wS ?_|refine wR ?_|(refine rg 0 (aV ?_))|(refine rg 1 (mW rfl (vV (E3 rfl rfl (by omega)) (mV ?_)));(iterate 2 refine gF ?_);refine pW rfl (aV ?_))|refine nZ ?_));all_goals first | (exfalso;omega) | exact rQ
  · refine bK T Tryz.func77 rfl rfl rfl rfl ?_
    (repeat' (first|refine wS ?_|refine wR ?_|(refine rg 0 (aV ?_))|(refine rg 1 (mW rfl (vV (Y6 rfl rfl (by omega)) (mW rfl (yN rfl (yV (eE rfl rfl) (pW rfl (aV ?_))))))))|refine nZ ?_));all_goals first | (exfalso;omega) | (refine cH (.inl rfl) rfl (mB ?_);simp;omega)
theorem uX (c:Cx):aT Tryz.prog 35 [.agg [.i c.m,.i c.st,.i c.er,.i c.sl]] [] (.b (!qO c)) []:=by
  have hh:=ZZ (l:=[c.m,c.st,c.er,c.sl]) (F:=77) (caps:=[]) (p:=JH) (by simp) rfl (fun x hx=>zI8 x)
  change aT _ _ _ _ (.b (qO c)) _ at hh;generalize qO c=v at *;refine bK T Tryz.func35 rfl rfl rfl rfl ?_
  (repeat' (first|refine wS ?_|refine wR ?_|(refine rg 0 (bN (cC rfl rfl) rfl (aV ?_)))|(refine rg 1 (gB T rfl (gB T rfl (gB T rfl (gB T rfl (bN (by exact bD T rfl rfl (by decide) (by decide) rfl rfl rfl) rfl ?_)))));refine mE 11 rfl rfl rfl rfl ?_;refine vV (kC (hh)) (vV (cY rfl) (aV ?_)))|refine nZ ?_));all_goals first | (exfalso;omega) | exact rQ
end Go.Proofs.YtmmkhmilpeodnaaGreat
namespace Go.Ld
open Go.Ab Go.Proofs.YtmmkhmilpeodnaaGreat
abbrev zL5 (c:Cx) (x:AV):List AV:=[.i c.m,.i c.st,.i c.er,.i c.sl,.rowE (fQ c.ks) 2,.rowE (iS c.ls) 3,.rowE (eB c.bs) 3,x]
theorem zB3 {h:Hp}{i sz:Nat}{θ:Nat→Nat}{A A':List (List AV)}{E E':List AV}(hk:h[i]? = some (.arr (A'++[E']) sz)) (hA:A'=A) (hE:E'=AV.mapL θ E) (hi:∀ e,e∈A→AV.idfL e=true):h[i]? = some ((AB.arr (A++[E]) sz).map θ):=by
  subst hA hE;rw [hk];simp only [AB.map,dW,cJ θ hi];rfl
theorem zO1 {A:List (List AV)}{x y:AV}:(A++[[x,y]]).flatten[A.flatten.length]? = some x:=by simp
theorem zO0 {A:List (List AV)}{x y:AV}:(A++[[x,y]]).flatten[A.flatten.length+1]? = some y:=by
  rw [iH,aG (by omega)];simp
theorem zN9 {A:List (List AV)}{x y z:AV}:(A++[[z,y]]).flatten=(A++[[x,y]]).flatten.set A.flatten.length z:=by
  rw [iH,iH,lJ _ _ (by omega)];simp
theorem zN8 {A:List (List AV)}{x y z:AV}:(A++[[x,z]]).flatten=(A++[[x,y]]).flatten.set (A.flatten.length+1) z:=by
  rw [iH,iH,lJ _ _ (by omega)];simp
theorem ZB (c:Cx):(qL c).length=c.bs.length:=by rw [xG];simp
theorem TX {c:Cx}{k:Nat}(h:k<c.bs.length):(qL c).take (k+1)=(qL c).take k++[W4 c k]:=by
  rw [xG,← lS,← lS,aP (by simpa using h),dW]
  simp
end Go.Ld
namespace Go.Proofs.YtmmkhmilpeodnaaGreat
open Go Go.Ab Go.Ld
attribute [local irreducible] VC AW bX aT jU
set_option maxHeartbeats 4000000
theorem yD5 (c:Cx) (hc:qN c) (hid:aT Tryz.prog 24 [.i (eB c.bs).length] [] (.rowE (ints (nats (List.range c.bs.length))) 1) []) (htr:aT Tryz.prog 36 [.rowE (fQ c.ks) 2,.rowE (iS c.ls) 3,.rowE (ints (nats (List.range c.bs.length))) 1,.rowE (eB c.bs) 3] [] (.b true) []) :
    aT Tryz.prog 9 [.agg [.i c.m,.i c.st,.i c.er,.i c.sl],.rowE (fQ c.ks) 2,.rowE (iS c.ls) 3,.rowE (eB c.bs) 3] [] (.tup [.ptr 0 0,.i 0]) [.cells (gZ c (qL c))]:=by
  have hn1:=hc.f.n1;have hn8:=hc.f.n8;have hk10:=hc.f.k10;have hl10:=hc.f.l10;have hnl:(nats (List.range c.bs.length)).length=c.bs.length:=by simp
  have hsn:=uX c;rw [O9.2 hc.s] at hsn;have h1:=MA c.ks (by omega)
  have h2:=LZ c.ls (by omega)
  have h3:=MC c.bs (by omega)
  have hbl:(eB c.bs).length=c.bs.length:=aF _;have hNl:=ZB c;refine bK T Tryz.func9 rfl rfl rfl rfl ?_
  (repeat' (first|refine wS ?_|(refine rg 0 (bN (cC rfl rfl) rfl (oM ?_)))|refine nZ ?_));refine dU 4 rfl rfl rfl ?_
  (repeat' (first|refine wS ?_|refine wK ?_|refine wU ?_|(refine rg 1 (lW T rfl (vV (kC (hsn)) (vV (cY rfl) (mW rfl (yN rfl (yN rfl (yN rfl (gT (qV T ?_)))))))));refine yV (kC (hid)) (yN rfl (yV (kC (htr)) (yV (cY rfl) (pV ?_)))))|(refine bQ (id:=3) 69 [[],[],[1],[],[1,2,3],[],rM 1 5,rN 7,rN 8] (rM 27 9) yQ0 cF rfl (by decide +kernel) (dO T rfl (dN rfl (dV rfl (kC (h1)) (dN rfl (dV rfl (kC (h2)) (dN rfl (dV rfl (kC (h3)) (dV rfl (by exact dY T rfl rfl rfl rfl) ?_))))))));refine pX rfl rfl rfl (by exact cC rfl rfl) rfl ?_;refine dE ?_;refine aV ?_)|refine nZ ?_));all_goals try (exfalso;omega)
  refine eI [(3,.rowE (eB c.bs) 3),(10,.ptr 0 0)] [.cells (zL5 c .nils)] ⟨[1],rfl,(by repeat first|exact trivial|refine ⟨rfl,?_⟩),⟨.inr rfl,trivial⟩,by decide,jJ _⟩ ?_
  refine uU 0 7 2 rfl rfl (by decide) ?_
  (repeat' (first|refine wB ?_|(refine rg 4 (mW rfl (qW T rfl (mV ?_))))|refine nZ ?_));all_goals try (exfalso;omega)
  refine cO (X:={k:Nat // k≤c.bs.length}) (fun k=>[(10,.ptr 0 0),(36,.rowE (eB c.bs) 3),(37,.i (eB c.bs).length),(38,.i k.1)]) (fun k=>[.cells (zL5 c (.sl 1 0 k.1 2)),.arr (kD ((qL c).take k.1)) 2]) (fun k=>c.bs.length-k.1) ⟨0,bW _⟩ ⟨[0,1],rfl,(by repeat first|exact trivial|refine ⟨rfl,?_⟩),⟨.inr rfl,.inr rfl,trivial⟩,by decide,jJ _⟩ ?_
  rintro ⟨k,hk⟩;dsimp only;by_cases hlt:k<c.bs.length
  · have hb:=hc.f.b k hlt;have hbx:c.bs[k]? = some (c.bs.getD k (0,0,0)):=by rw [aC,aA hlt];rfl
    have hge:c.bs[k]=c.bs.getD k (0,0,0):=by rw [aC,aA hlt];rfl
    rw [hge] at hb;have qb:(eB c.bs)[((k:Int)).toNat]? = some [.i (c.bs.getD k (0,0,0)).1,.i (c.bs.getD k (0,0,0)).2.1,.i (c.bs.getD k (0,0,0)).2.2]:=by rw [bH,bZ,hbx];rfl
    have hsu:=TX hlt;have hA:kD ((qL c).take (k+1))=kD ((qL c).take k)++[gA (W4 c k)]:=by rw [hsu,kD,dW];rfl
    have hAl:(kD ((qL c).take k)).length=k:=by rw [kB,bL];omega
    have hAi:=eP ((qL c).take k);have hA3:=qE ((qL c).take k);have hAi2:=eP ((qL c).take (k+1));unfold W4 at hA;generalize c.bs.getD k (0,0,0)=bx at *;obtain ⟨lot,cnt,ta⟩:=bx;dsimp only at *;generalize hG:kD ((qL c).take k)=A at *
    (repeat' (first|refine wS ?_|refine wB ?_|refine wK ?_|(refine wC rfl ?_ ?_<;>(intro hb;(try simp only [nm] at hb);try (exfalso;omega)))|(refine rg 5 (vV (aI rfl rfl) ?_))|(refine rg 6 (mW rfl (vV (ix T rfl (by omega) (jM _) qb) (lW T rfl (bN (bI T rfl) rfl (aW rfl (aL T rfl rfl rfl rfl rfl rfl (by decide) rfl ?_)))))))|refine nZ ?_));all_goals try (exfalso;omega)
    refine dU 12 (cs:=[.i lot,.i cnt,.i ta]) rfl rfl rfl ?_
    (repeat' (first|(refine rg 7 (mW rfl (bN (by exact bD T rfl rfl (by decide) (by decide) rfl rfl rfl) rfl ?_));refine mE 44 rfl rfl rfl rfl ?_;refine gB T rfl (gB T rfl (vV (bY rfl rfl (by omega) (by omega)) (vV (by exact dY T rfl rfl rfl rfl) ?_)));refine bN (by exact bD T rfl rfl (by decide) (by decide) rfl rfl rfl) rfl ?_;refine mE 51 rfl rfl rfl rfl ?_;refine vV (by exact dY T rfl rfl rfl rfl) ?_;refine bN (bI T rfl) rfl (aL T rfl rfl rfl rfl rfl rfl (by decide) rfl ?_))|refine nZ ?_));all_goals try (exfalso;omega)
    refine dU 13 (cs:=wA ([(k:Int)],0,[(cnt,cnt+1)])) rfl rfl rfl ?_;refine eI [(10,.ptr 0 0),(36,.rowE (eB c.bs) 3),(37,.i (eB c.bs).length),(38,.i k),(11,.i k),(13,.pr (wA ([(k:Int)],0,[(cnt,cnt+1)])) 0)] [.cells (zL5 c (.sl 1 0 k 2)),.arr A 2] ⟨[0,1],rfl,(by repeat first|exact trivial|refine ⟨rfl,?_⟩),⟨.inr rfl,.inr (aD rfl rfl hAi),trivial⟩,by decide,jJ _⟩ ?_
    (repeat' (first|(refine rB (id:=8) 69 [[],[],[1],[1,2],[1,2,3],[],[5],[],[7],rM 5 4,rM 5 5,rM 1 10,rN 12,rN 13,rN 14] (rM 53 14) [[],[53],[53],[53],[53],rM 53 5,rM 53 5,rM 53 7,rM 53 7,rM 53 5,rM 53 5,[53],[],[],[]] [(11,1),(14,0)] cF rfl (by decide +kernel) (eN rfl rfl rfl rfl (by exact bU rfl) ?_);refine eN rfl rfl rfl rfl (by exact bU rfl) ?_;refine eN rfl rfl rfl rfl (by exact cN rfl rfl) ?_;refine eN rfl rfl rfl rfl (by exact cD T rfl rfl rfl) ?_;refine eN rfl rfl rfl rfl (by exact aE T rfl rfl rfl rfl) ?_;refine eN rfl rfl rfl rfl (by exact bU rfl) ?_;refine M3 rfl rfl rfl rfl (by exact bD T rfl rfl (by decide) (by decide) rfl rfl rfl) rfl ?_;refine eN rfl rfl rfl rfl (by exact aE T rfl rfl rfl rfl) ?_;refine M3 rfl rfl rfl rfl (by exact bD T rfl rfl (by decide) (by decide) rfl rfl rfl) rfl ?_;refine eN rfl rfl rfl rfl (by exact dY T rfl rfl rfl rfl) ?_;refine M3 rfl rfl rfl rfl (by exact bD T rfl rfl (by decide) (by decide) rfl rfl rfl) rfl ?_;refine tZ rfl rfl rfl rfl (aY rfl) (by exact rC T rfl rfl rfl rfl rfl rfl (by omega) (kP.whole rfl rfl) rfl (by simp;omega) (by simp;omega)) ?_;refine eN rfl rfl rfl rfl (by exact cN rfl rfl) ?_;refine eN rfl rfl rfl rfl (by exact cD T rfl rfl rfl) ?_;refine HF rfl rfl rfl rfl (aY rfl) T rfl rfl rfl rfl rfl rfl (by decide) rfl ?_;refine yA rfl rfl rfl (by exact rfl) ?_)|refine nZ ?_));all_goals try (exfalso;omega)
    show AW _ _ _ _ _ _;refine eI [(10,.ptr 0 0),(36,.rowE (eB c.bs) 3),(37,.i (eB c.bs).length),(38,.i k)] [.cells (zL5 c (.sl 3 0 (k+1) 2)),.arr (ints [(k:Int)]) 1,.arr (fH [([(k:Int)],0,[(cnt,cnt+1)])]) 3,.arr (A++[[.sl 1 0 1 1,.sl 2 0 1 3]]) 2]
      ⟨[0,2,3,5],rfl,(by repeat first|exact trivial|refine ⟨rfl,?_⟩),⟨.inr rfl,.inr rfl,.inr rfl,.inr (zB3 rfl (by rw [nJ];exact bV (by omega)) rfl hAi),trivial⟩,by decide,jJ _⟩ ?_
    have hE:∀ (x y:AV) (e:List AV),e∈A++[[x,y]]→e.length=2:=fun x y e he=>by
      rcases bG.1 he with he | he
      · exact hA3 e he
      · rw [aQ.1 he];rfl
    refine MJ 3 A.flatten.length (A++[[.rowE (ints [(k:Int)]) 1,.sl 2 0 1 3]]) rfl (by decide) (by simp) zO1 rfl rfl rfl (hE _ _) zN9 ?_
    refine MJ 3 (A.flatten.length+1) (A++[[.rowE (ints [(k:Int)]) 1,.rowE (fH [([(k:Int)],0,[(cnt,cnt+1)])]) 3]]) rfl (by decide) (by simp) zO0 rfl rfl rfl (hE _ _) zN8 ?_
    (repeat' (first|(refine rg 9 (vV (bY rfl rfl (by omega) (by omega)) (mV ?_)))|refine nZ ?_));all_goals try (exfalso;omega)
    exact ⟨⟨k+1,hlt⟩,by dsimp only;omega,⟨[0,3],rfl,(by repeat first|exact trivial|refine ⟨rfl,?_⟩),⟨.inr rfl,.inr (aD rfl (by dsimp only;rw [hA]) hAi2),trivial⟩,by decide,jJ _⟩⟩
  · obtain rfl:k=c.bs.length:=by omega
    rw [← hNl,dI,hNl];refine iP 0 7 (es:=kD (qL c)) rfl rfl rfl (by rw [kB,hNl]) (fO (eP _)) ?_
    (repeat' (first|refine wS ?_|refine wR ?_|refine wE ?_|(refine wC rfl ?_ ?_<;>(intro hb;(try simp only [nm] at hb);try (exfalso;omega)))|(refine rg 5 (vV (aI rfl rfl) ?_))|(refine rg 10 (mW rfl (oM ?_)))|refine nZ ?_));all_goals try (exfalso;omega)
    all_goals exact ⟨.inl rfl,[0],_,rfl,rfl,rfl,⟨.inr rfl,trivial⟩,by decide,jJ _⟩
end Go.Proofs.YtmmkhmilpeodnaaGreat
namespace Go.Ld
open Go.Ab Go.Proofs.YtmmkhmilpeodnaaGreat
def SH (p q:List Int) (x:Int × SP) (b:Int):Prop:=x.1=p.getD b.toNat 0∧pT x.2.1 x.2.2 (q.getD (p.getD b.toNat 0).toNat 0)=true
theorem zO6 {g:G}{p q:List Int}{w:W}:xQ g p q w=true↔∀ i,i<g.1.length→SH p q (gP w i,gC w i) (g.1.getD i 0):=by
  unfold xQ zJ SH;rw [bF];constructor
  · intro h i hi;have:=h i (dD.2 hi);simp only [aN,decide_eq_true_eq] at this;exact this
  · intro h i hi;have:=h i (dD.1 hi);simp only [aN,decide_eq_true_eq];exact this
theorem CA {g:G}{p q:List Int}(h0:∀ w,w∈g.2→0≤w.2.1):∀ k,k≤g.2.length→(wL g p q k = -1∧∀ w,w∈g.2.take k→xQ g p q w=false)∨(∃ w,w∈g.2.take k∧xQ g p q w=true∧w.2.1=wL g p q k∧∀ v,v∈g.2.take k→xQ g p q v=true→wL g p q k≤v.2.1)
  | 0,_=>.inl ⟨rfl,fun w hw=>by simp at hw⟩
  | k+1,hk=>by
    have ih:=CA (p:=p) (q:=q) h0 k (by omega)
    have hx:=h0 g.2[k] (aH _);rw [I3 (by omega)]
    have ht:∀ w,w∈g.2.take (k+1)↔w∈g.2.take k∨w=g.2[k]:=fun w=>by
      rw [aP (by omega),bG,aQ]
    simp only [ht];unfold MG;generalize g.2[k]=x at *;generalize wL g p q k=m at *;cases hf:xQ g p q x with
    | false=>
      rw [iR,if_neg (by simp)]
      rcases ih with ⟨h1,h2⟩ | ⟨w,h1,h2,h3,h4⟩
      · refine .inl ⟨h1,fun w hw=>?_⟩
        rcases hw with hw | rfl
        · exact h2 w hw
        · exact hf
      · refine .inr ⟨w,.inl h1,h2,h3,fun v hv hvf=>?_⟩
        rcases hv with hv | rfl
        · exact h4 v hv hvf
        · rw [hf] at hvf;cases hvf
    | true=>
      rw [eM];rcases ih with ⟨h1,h2⟩ | ⟨w,h1,h2,h3,h4⟩
      · rw [decide_eq_true (show m<0 by omega),Bool.true_or,if_pos rfl]
        refine .inr ⟨x,.inr rfl,hf,rfl,fun v hv hvf=>?_⟩
        rcases hv with hv | rfl
        · rw [h2 v hv] at hvf;cases hvf
        · exact dC _
      · have hm0:0≤m:=by rw [← h3];exact h0 w (fC h1)
        rw [decide_eq_false (show ¬ m<0 by omega),SJ]
        by_cases hlt:x.2.1<m
        · rw [if_pos (decide_eq_true hlt)];refine .inr ⟨x,.inr rfl,hf,rfl,fun v hv hvf=>?_⟩
          rcases hv with hv | rfl
          · have:=h4 v hv hvf;omega
          · exact dC _
        · rw [if_neg (by simpa using hlt)]
          refine .inr ⟨w,.inl h1,h2,h3,fun v hv hvf=>?_⟩
          rcases hv with hv | rfl
          · exact h4 v hv hvf
          · omega
theorem FG {g:G}{p q:List Int}(h0:∀ w,w∈g.2→0≤w.2.1):(nO g p q = -1∧∀ w,w∈g.2→xQ g p q w=false)∨(∃ w,w∈g.2∧xQ g p q w=true∧w.2.1=nO g p q∧∀ v,v∈g.2→xQ g p q v=true→nO g p q≤v.2.1):=by
  have:=CA (p:=p) (q:=q) h0 g.2.length (bA _);rw [dI] at this;exact this
def U9 (g:G) (w:W):As:=fun b=>(gP w (g.1.idxOf b),gC w (g.1.idxOf b))
theorem uC {n:Nat}{g:G}{w:W}(ok:wY n g) (hw:CJ n g.1.length w):lP g.1 w (U9 g w):=by
  unfold lP U9 gP gC;constructor
  · refine gY (by rw [aF];exact hw.pl) fun i h1 h2=>?_
    rw [iV,ok.nd.idxOf_getElem];dsimp only;rw [aC,aA h1];rfl
  · refine gY (by rw [aF];exact hw.cl) fun i h1 h2=>?_
    rw [iV,ok.nd.idxOf_getElem];dsimp only;rw [aC,aA h1];rfl
theorem GZ {n:Nat}{g:G}{p q:List Int}{w:W}{f:As}(ok:wY n g) (hf:lP g.1 w f):xQ g p q w=true↔∀ b,b∈g.1→SH p q (f b) b:=by
  rw [zO6];have key:∀ i (hi:i<g.1.length),(gP w i,gC w i)=f g.1[i]∧g.1.getD i 0=g.1[i]:=fun i hi=>by
    rw [GS hf hi,GU hf hi];exact ⟨rfl,by rw [aC,aA hi];rfl⟩
  constructor
  · intro h b hb;obtain ⟨i,hi,rfl⟩:=mR hb;have:=h i hi;rw [(key i hi).1,(key i hi).2] at this;exact this
  · intro h i hi;rw [(key i hi).1,(key i hi).2];exact h _ (aH hi)
theorem zF0 {n:Nat}{p q:List Int}:∀ {gs:List G},(gs.flatMap (·.1)).Nodup→(∀ g,g∈gs→wY n g)→∀ {M:Int},
    ((∀ g,g∈gs→0≤nO g p q)∧(gs.map fun g=>nO g p q).sum≤M)↔∃ f:As,(∀ g,g∈gs→∀ b,b∈g.1→SH p q (f b) b)∧Sem gs f M
  | [],_,_,M=>by
    constructor
    · rintro ⟨_,h⟩;exact ⟨fun _=>(0,(0,0)),by simp,by simpa [Sem] using h⟩
    · rintro ⟨f,_,h⟩;exact ⟨by simp,by simpa [Sem] using h⟩
  | g::gs,hnd,hok,M=>by
    rw [bJ] at hnd;obtain ⟨_,n2,n3⟩:=cP.1 hnd;have og:=hok g aR;have h0:∀ w,w∈g.2→0≤w.2.1:=fun w hw=>(og.ws w hw).m0;have ih:=fun M=>zF0 (p:=p) (q:=q) (gs:=gs) n2 (fun x hx=>hok x (aM _ hx)) (M:=M);rw [List.map_cons,yJ0];constructor
    · rintro ⟨h1,h2⟩;rcases FG (p:=p) (q:=q) h0 with ⟨b1,_⟩ | ⟨w,b1,b2,b3,b4⟩
      · have:=h1 g aR;omega
      obtain ⟨f,f1,f2⟩:=(ih (M-nO g p q)).1 ⟨fun x hx=>h1 x (aM _ hx),by omega⟩
      have ow:=og.ws w b1;have hfi:=uC og ow
      let f':As:=fun b=>if b∈g.1 then U9 g w b else f b
      have e1:∀ b,b∈g.1→f' b=U9 g w b:=fun b hb=>if_pos hb
      have e2:∀ x,x∈gs→∀ b,b∈x.1→f' b=f b:=fun x hx b hb=>if_neg fun q=>n3 b q b (oX hx hb) rfl;have hfi':lP g.1 w f':=⟨hfi.1.trans (iG fun b hb=>by rw [e1 b hb]),hfi.2.trans (iG fun b hb=>by rw [e1 b hb])⟩
      refine ⟨f',fun x hx b hb=>?_,nO g p q,⟨w,b1,hfi',by omega⟩,(tC e2).2 f2⟩
      rcases bO.1 hx with rfl | hx
      · exact (GZ og hfi').1 b2 b hb
      · rw [e2 x hx b hb];exact f1 x hx b hb
    · rintro ⟨f,f1,m,⟨w,w1,w2,w3⟩,f2⟩;have hfw:=(GZ (p:=p) (q:=q) og w2).2 (f1 g aR);obtain ⟨i1,i2⟩:=(ih (M-m)).2 ⟨f,fun x hx=>f1 x (aM _ hx),f2⟩;rcases FG (p:=p) (q:=q) h0 with ⟨_,b2⟩ | ⟨v,b1,b2,b3,b4⟩
      · rw [b2 w w1] at hfw;cases hfw
      · have:=b4 w w1 hfw;have:=h0 v b1;refine ⟨fun x hx=>?_,by omega⟩
        rcases bO.1 hx with rfl | hx
        · omega
        · exact i1 x hx
theorem HU {c:Cx}{gs:List G}{p q:List Int}(h:kV c gs):zR0 c gs p q=true↔p.length=c.bs.length∧q.length=p.length∧Go.Pm.permB p=true∧∃ f:As,(∀ b:Int,0≤b→b<c.bs.length→SH p q (f b) b)∧Sem gs f c.m:=by
  have hs:=zF0 (p:=p) (q:=q) h.mid.out.nd h.mid.out.ok (M:=c.m);have e:H6 gs p q gs.length=(gs.map fun g=>nO g p q).sum:=by unfold H6;rw [dI]
  unfold zR0;simp only [aN,decide_eq_true_eq,bF,e,and_assoc];rw [hs];have hb:∀ f:As,(∀ g,g∈gs→∀ b,b∈g.1→SH p q (f b) b)↔∀ b:Int,0≤b→b<c.bs.length→SH p q (f b) b:=fun f=>by
    constructor
    · intro h1 b b0 b1;obtain ⟨g,hg,hbg⟩:=h.mid.find ⟨b0,b1⟩;exact h1 g hg b hbg
    · intro h1 g hg b hbg;have:=(h.mid.out.ok g hg).rg b hbg;exact h1 b this.1 this.2
  simp only [hb]
theorem RN {n:Nat}{g:G}{w:W}{f:As}(ok:wY n g) (ow:CJ n g.1.length w):lP g.1 w f↔∀ b,b∈g.1→U9 g w b=f b:=by
  have h:=uC ok ow;constructor
  · intro hf b hb;have e1:=h.1.symm.trans hf.1;have e2:=h.2.symm.trans hf.2;exact Prod.ext (V6.1 e1 b hb) (V6.1 e2 b hb)
  · intro hp;exact ⟨h.1.trans (iG fun b hb=>by rw [hp b hb]),h.2.trans (iG fun b hb=>by rw [hp b hb])⟩
theorem EB {n:Nat}{x y:G}(jo:vI n x y){u v:W}(hu:u∈x.2) (hv:v∈y.2){f:As}:lP (mU x y).1 (F9 x y u v (mU x y).1) f↔lP x.1 u f∧lP y.1 v f:=by
  rw [RN jo.gx (jo.gx.ws u hu),RN jo.gy (jo.gy.ws v hv)];have hm:∀ b,b∈(mU x y).1↔b∈x.1∨b∈y.1:=fun b=>(mZ x y).mem_iff.trans bG;generalize (mU x y).1=l at *;have e1:∀ b,(if b∈x.1 then gP u (x.1.idxOf b) else gP v (y.1.idxOf b))=(if b∈x.1 then U9 x u b else U9 y v b).1:=fun b=>by split <;> rfl
  have e2:∀ b,(if b∈x.1 then gC u (x.1.idxOf b) else gC v (y.1.idxOf b))=(if b∈x.1 then U9 x u b else U9 y v b).2:=fun b=>by split <;> rfl
  unfold lP F9;simp only [e1,e2];rw [V6,V6];constructor
  · rintro ⟨h1,h2⟩;have h:∀ b,b∈l→(if b∈x.1 then U9 x u b else U9 y v b)=f b:=fun b hb=>Prod.ext (h1 b hb) (h2 b hb)
    refine ⟨fun b hb=>?_,fun b hb=>?_⟩
    · have:=h b ((hm b).2 (.inl hb));rwa [if_pos hb] at this
    · have:=h b ((hm b).2 (.inr hb));rwa [if_neg (fun q=>jo.dj b q hb)] at this
  · rintro ⟨h1,h2⟩;have h:∀ b,b∈l→(if b∈x.1 then U9 x u b else U9 y v b)=f b:=fun b hb=>by
      by_cases hx:b∈x.1
      · rw [if_pos hx];exact h1 b hx
      · rw [if_neg hx];exact h2 b (((hm b).1 hb).resolve_left hx)
    exact ⟨fun b hb=>by rw [h b hb],fun b hb=>by rw [h b hb]⟩
theorem YU {n:Nat}{x y:G}(jo:vI n x y){f:As}{M:Int}:sE (mU x y) f M↔∃ m,sE x f m∧sE y f (M-m):=by
  constructor
  · rintro ⟨w,hw,hf,hm⟩;obtain ⟨u,v,hu,hv,rfl⟩:=D6 hw;obtain ⟨h1,h2⟩:=(EB jo hu hv).1 hf;change u.2.1+v.2.1≤M at hm;exact ⟨u.2.1,⟨u,hu,h1,dC _⟩,v,hv,h2,by omega⟩
  · rintro ⟨m,⟨u,hu,h1,h3⟩,v,hv,h2,h4⟩;refine ⟨F9 x y u v (mU x y).1,fI.2 ⟨u,hu,bE.2 ⟨v,hv,rfl⟩⟩,(EB jo hu hv).2 ⟨h1,h2⟩,?_⟩;show u.2.1+v.2.1≤M;omega
theorem QA {u v J:G}{L:List G}{f:As}(h:∀ M,sE J f M↔∃ m,sE u f m∧sE v f (M-m)){M:Int}:Sem (J::L) f M↔Sem (u::v::L) f M:=by
  simp only [Sem,h];constructor
  · rintro ⟨m,⟨m',h1,h2⟩,h3⟩;exact ⟨m',h1,m-m',h2,h3.mono (by omega)⟩
  · rintro ⟨m,h1,m',h2,h3⟩;exact ⟨m+m',⟨m,h1,by rw [show m+m'-m=m' by omega];exact h2⟩,h3.mono (by omega)⟩
theorem zT {P Q R:List G}{u v:G}:(P++u::(Q++v::R)).Perm (u::v::(P++(Q++R))):=by
  refine List.perm_middle.trans (List.Perm.cons _ ?_);rw [← bT,← bT];exact iU
theorem ZJ {c:Cx}{gs all:List G}{a b:Int}(h:mG c c.m gs) (ha:0≤a∧a<c.bs.length) (hb:0≤b∧b<c.bs.length) (e:join gs a b=some all){f:As}{M:Int}:Sem all f M↔Sem gs f M:=by
  obtain ⟨i,x,hi,hix,hax⟩:=jA (h.find ha);obtain ⟨k,y,hk,hky,hby⟩:=jA (h.find hb);have hx:=aS hix;have hy:=aS hky;unfold join at e;dsimp only at e;rw [hi,hk] at e;split at e
  · cases e;exact Iff.rfl
  · rename_i hik;have gi:lF gs ((i:Int)).toNat=x:=by unfold lF;rw [aC];show (gs[i]?).getD _=x;rw [hix];rfl
    have gk:lF gs ((k:Int)).toNat=y:=by unfold lF;rw [aC];show (gs[k]?).getD _=y;rw [hky];rfl
    rw [gi,gk] at e;split at e
    · cases e
    · rename_i hsz;cases e;have nd:=h.out.nd;have ndi:(gs.flatMap fun g=>(gS g).1).Nodup:=h.idn.nodup_iff.2 (uO _)
      have jo:vI c.bs.length x y:=by
        rcases jO (show i≠k by omega) with hlt | hlt
        · obtain ⟨P,Q,R,e1,-⟩:=mK x hlt hix hky;rw [e1] at ndi nd;simp only [fS,bJ] at ndi nd;exact ⟨h.out.ok x hx,h.out.ok y hy,h.ne x hx,h.ne y hy,fun b h1 h2=>(cP.1 (cP.1 nd).2.1).2.2 b h1 b (by simp [h2]) rfl,fun b h1 h2=>(cP.1 (cP.1 ndi).2.1).2.2 b h1 b (by simp [h2]) rfl,by omega⟩
        · obtain ⟨P,Q,R,e1,-⟩:=mK y hlt hky hix;rw [e1] at ndi nd;simp only [fS,bJ] at ndi nd;exact ⟨h.out.ok x hx,h.out.ok y hy,h.ne x hx,h.ne y hy,fun b h1 h2=>(cP.1 (cP.1 nd).2.1).2.2 b h2 b (by simp [h1]) rfl,fun b h1 h2=>(cP.1 (cP.1 ndi).2.1).2.2 b h2 b (by simp [h1]) rfl,by omega⟩
      have h1:=fun M=>YU jo (f:=f) (M:=M);have h2:∀ M,sE (mU x y) f M↔∃ m,sE y f m∧sE x f (M-m):=fun M=>by
        rw [h1];constructor
        · rintro ⟨m,a,b⟩;exact ⟨M-m,b,by rw [show M-(M-m)=m by omega];exact a⟩
        · rintro ⟨m,a,b⟩;exact ⟨M-m,b,by rw [show M-(M-m)=m by omega];exact a⟩
      generalize mU x y=J at *;rcases jO (show i≠k by omega) with hlt | hlt
      · obtain ⟨P,Q,R,e1,e2⟩:=mK J hlt hix hky;rw [show (min (i:Int) (k:Int)).toNat=i by omega,show (max (i:Int) (k:Int)).toNat=k by omega,e2,e1,oQ zT,oQ iU]
        exact QA h1
      · obtain ⟨P,Q,R,e1,e2⟩:=mK J hlt hky hix;rw [show (min (i:Int) (k:Int)).toNat=k by omega,show (max (i:Int) (k:Int)).toNat=i by omega,e2,e1,oQ zT,oQ iU]
        exact QA h2
theorem zJ7 {c:Cx}{M0:Int}{all:List G}{s:Ev}(h:zC c M0 all s){i:Nat}{g:G}(hi:all[i]? = some g) (ha:s.a∈g.1) (hb:s.k=4→s.b∈g.1∧s.a≠s.b){f':As}{M:Int} :
    Sem (all.set i (g.1,gN (lZ c s g))) f' M↔∃ f d,N2 c s f f' d∧Sem all f (M-d):=by
  have hg:=aS hi;have og:=h.mid.out.ok g hg;have nd:=h.mid.out.nd;obtain ⟨A,B,e1,e2⟩:=pN (y:=(g.1,gN (lZ c s g))) hi;have hon:=fun M=>KO (c:=c) og ha hb (f':=f') (M:=M);have hoff:∀ f d,N2 c s f f' d→∀ x,x∈A++B→∀ b,b∈x.1→f' b=f b:=fun f d st x hx b hbx=>by
    have hbg:b∉g.1:=fun q=>by
      rw [e1] at nd;simp only [fS,bJ] at nd;obtain ⟨_,n1,n2⟩:=cP.1 nd;obtain ⟨_,_,n3⟩:=cP.1 n1;rcases bG.1 hx with hx | hx
      · exact n2 b (oX hx hbx) b (bG.2 (.inl q)) rfl
      · exact n3 b q b (oX hx hbx) rfl
    rcases st with ⟨_,rfl,_⟩ | ⟨hk,rfl,_⟩
    · unfold upd;rw [if_neg (fun q:b=s.a=>hbg (q▸ha))]
    · unfold IW;rw [if_neg (fun q:b=s.a=>hbg (q▸ha)),if_neg (fun q:b=s.b=>hbg (q▸(hb hk).1))]
  rw [e2,oQ iU];have e1':∀ f M,Sem all f M↔Sem (g::(A++B)) f M:=fun f M=>by rw [e1];exact oQ iU
  simp only [e1',Sem,hon];constructor
  · rintro ⟨m,⟨f,d,st,h1⟩,h2⟩;exact ⟨f,d,st,m-d,h1,((tC (hoff f d st)).1 h2).mono (by omega)⟩
  · rintro ⟨f,d,st,m,h1,h2⟩;exact ⟨m+d,⟨f,d,st,h1.mono (by omega)⟩,((tC (hoff f d st)).2 h2).mono (by omega)⟩
theorem JN {c:Cx}{M0:Int}{l all:List G}{s:Ev}(h:zC c M0 all s) (hM:M0≤2200000) (hab:s.k=4→s.a≠s.b){f':As}{M:Int}(hm:M≤c.m) :
    ((rK c l all s).1=0→(Sem (rK c l all s).2 f' M↔∃ f d,N2 c s f f' d∧Sem all f (M-d)))∧((rK c l all s).1=26→¬ ∃ f d,N2 c s f f' d∧Sem all f (M-d)):=by
  obtain ⟨i,g,hi,hg,hgm,hat,ha,hb⟩:=h.at;have hp:=zJ7 (c:=c) h hg ha (fun hk=>⟨hb hk,hab hk⟩) (f':=f') (M:=M);have hnx:=h.next hM hg ha hb
  unfold rK;dsimp only;rw [hat,hi,bH];by_cases h0:gN (lZ c s g)=[]
  · rw [if_pos h0];refine ⟨fun q=>(by cases q),fun _ q=>?_⟩
    have hs:=hp.2 q;obtain ⟨A,B,e1,e2⟩:=pN (y:=(g.1,gN (lZ c s g))) hg;rw [e2,oQ iU] at hs;obtain ⟨m,⟨w,hw,_⟩,_⟩:=hs;rw [h0] at hw;cases hw
  · rw [if_neg h0];by_cases h1:1000<(gN (lZ c s g)).length
    · rw [if_pos h1];exact ⟨fun q=>(by cases q),fun q=>(by cases q)⟩
    · rw [if_neg h1];obtain ⟨hm1,hasc⟩:=hnx h0 (by omega)
      generalize all.set i (g.1,gN (lZ c s g))=N at *;have ht:Sem (uW c N) f' M↔Sem N f' M:=by
        unfold uW;rw [TB (hm1.out.paid c).ok,WT hm]
      by_cases hany:(uW c N).any (fun g=>g.2.isEmpty)=true
      · rw [if_pos hany];refine ⟨fun q=>(by cases q),fun _ q=>?_⟩
        have hs:=ht.2 (hp.2 q);obtain ⟨x,hx,hxe⟩:=gD.1 hany;obtain ⟨A,B,e⟩:=VK hx;rw [e,oQ iU] at hs;obtain ⟨m,⟨w,hw,_⟩,_⟩:=hs;rw [List.isEmpty_iff.1 hxe] at hw;cases hw
      · rw [if_neg hany];exact ⟨fun _=>ht.trans hp,fun q=>(by cases q)⟩
theorem FV {c:Cx}{gs:List G}{s:Ev}(h:kV c gs) (hm0:0≤c.m) (hm1:c.m≤1048576) (hr:gO c.bs.length s=true){f':As}{M:Int}(hm:M≤c.m) :
    ((lQ c gs s).1=0→(Sem (lQ c gs s).2 f' M↔∃ f d,N2 c s f f' d∧Sem gs f (M-d)))∧((lQ c gs s).1=26→¬ ∃ f d,N2 c s f f' d∧Sem gs f (M-d)):=by
  have hn:=h.mid.n12;obtain ⟨r1,r2,_⟩:=kK hr (by omega)
  have hab:s.k=4→s.a≠s.b:=fun hk=>by have:=r2 hk;omega
  unfold lQ;rw [if_pos hr];by_cases hk:s.k=4
  · rw [if_pos hk];cases hj:join gs s.a s.b with
    | none=>exact ⟨fun q=>(by cases q),fun q=>(by cases q)⟩
    | some all=>
      dsimp only;have:=JN (l:=gs) (tQ h (by omega) hm0 hm1 hr hk hj) (by omega) hab (f':=f') hm
      have hb:=r2 hk;have js:∀ f M,Sem all f M↔Sem gs f M:=fun f M=>ZJ h.mid r1 ⟨by omega,by omega⟩ hj
      simp only [js] at this;exact this
  · rw [if_neg hk];exact JN (l:=gs) (vP h (by omega) hm0 hr hk) (by omega) hab hm
def c0:Cx:=⟨1,1,0,0,[(⟨#[110,117,116]⟩,10)],[(0,0,false),(0,0,false),(0,0,false)],[(0,5,0),(1,3,0),(2,2,0)]⟩
theorem MF:qN c0:=⟨⟨by decide,by decide,by decide,by decide,by decide,by decide,by decide,by decide,by decide⟩,by unfold nX c0;decide⟩
theorem IR {c:Cx}(hc:qN c):yK c.ks c.ls (nats (List.range c.bs.length)) c.bs:=
  ⟨hc.f.len,fun i hi=>jE.2 ⟨by omega,by simp at hi;omega⟩,hc.f.k,hc.f.l,hc.f.b⟩
end Go.Ld
namespace Go.Proofs.YtmmkhmilpeodnaaGreat
open Go Go.Ab Go.Ld
attribute [local irreducible] VC AW bX aT jU
set_option maxHeartbeats 4000000
theorem ident_c (n:Nat) (h:n≤17592186043904):aT Tryz.prog 24 [.i (n:Int)] [] (.rowE (ints (nats (List.range n))) 1) []:=by
  have h1:=zM4 (n:Int) (by omega)
  rw [bH] at h1;exact oJ (by simp) (fO (ints_idf _)) h1
theorem ZC (c:Cx) (hc:qN c):aT Tryz.prog 9 [.agg [.i c.m,.i c.st,.i c.er,.i c.sl],.rowE (fQ c.ks) 2,.rowE (iS c.ls) 3,.rowE (eB c.bs) 3] [] (.tup [.ptr 0 0,.i 0]) [.cells (gZ c (qL c))]:=by
  have hbl:(eB c.bs).length=c.bs.length:=aF _;have h8:=hc.f.n8;have h9:=hc.f.k10;have h10:=hc.f.l10;have hnl:(nats (List.range c.bs.length)).length=c.bs.length:=by simp
  refine yD5 c hc ?_ (FS (IR hc) (by omega) (by omega) (by omega))
  rw [hbl];exact ident_c _ (by omega)
theorem zM9:aT Tryz.prog 34 [] [] (.ptr 0 0) [.cells (gZ c0 (qL c0))]:=by
  have hn:=ZC c0 MF;change aT _ _ [.agg [.i 1,.i 1,.i 0,.i 0],.rowE [[.v (.string ⟨#[110,117,116]⟩),.i 10]] 2,.rowE [[.i 0,.i 0,.b false],[.i 0,.i 0,.b false],[.i 0,.i 0,.b false]] 3,.rowE [[.i 0,.i 5,.i 0],[.i 1,.i 3,.i 0],[.i 2,.i 2,.i 0]] 3] _ _ _ at hn;generalize hL:gZ c0 (qL c0)=L at *;have hLi:AV.idfL L=true:=by rw [← hL];rfl
  refine bK T Tryz.func34 rfl rfl rfl rfl ?_
  (repeat' (first|refine wS ?_|(refine rg 0 (aV ?_))|(refine rg 1 (vV (by exact dY T rfl rfl rfl rfl) ?_);refine bN (by exact bD T rfl rfl (by decide) (by decide) rfl rfl rfl) rfl ?_;refine mE 7 rfl rfl rfl rfl ?_;refine aV ?_)|(refine rg 2 (vV (by exact dY T rfl rfl rfl rfl) ?_);refine vV (by exact dY T rfl rfl rfl rfl) ?_;refine vV (by exact dY T rfl rfl rfl rfl) ?_;refine bN (by exact bD T rfl rfl (by decide) (by decide) rfl rfl rfl) rfl ?_;refine mE 11 rfl rfl rfl rfl ?_;refine aV ?_)|(refine rg 3 (vV (by exact dY T rfl rfl rfl rfl) ?_);refine vV (by exact dY T rfl rfl rfl rfl) ?_;refine vV (by exact dY T rfl rfl rfl rfl) ?_;refine bN (by exact bD T rfl rfl (by decide) (by decide) rfl rfl rfl) rfl ?_;refine mE 15 rfl rfl rfl rfl ?_;refine aV ?_)|refine nZ ?_));all_goals try (exfalso;omega)
  (repeat' (first|refine wS ?_|refine wK ?_|refine wR ?_|refine wU ?_|(refine rg 4 (vV (by exact dY T rfl rfl rfl rfl) ?_);refine dK rfl (mW rfl (bN (by exact fX rfl rfl hn (.inr ⟨rfl,rfl,by simp⟩)) rfl ?_));refine mW rfl (xW rfl (xW rfl (oM ?_))))|(refine rg 5 (mW rfl (vV (eX rfl rfl) ?_)))|(refine rg 7 (mW rfl (aV ?_)))|refine nZ ?_));all_goals try (exfalso;omega)
  exact ⟨.inl rfl,[3],_,rfl,rfl,rfl,⟨.inr (by show some (AB.cells (AV.mapL _ L))=some (AB.cells (AV.mapL _ L));rw [oT _ L hLi,oT _ L hLi]),trivial⟩,by decide,jJ _⟩
end Go.Proofs.YtmmkhmilpeodnaaGreat
namespace Go.Ld
open Go.Ab Go.Proofs.YtmmkhmilpeodnaaGreat
def e1:Ev:=⟨4,0,1,0,[]⟩
def e2:Ev:=⟨0,0,0,0,[1]⟩
def zX8:List G:=qL c0
def U4:List G:=(lQ c0 zX8 e1).2
def VO:List G:=(lQ c0 U4 e2).2
def LG:List G:=(lQ c0 VO e2).2
theorem yJ8:kV c0 zX8:=OD MF (by decide) (by decide)
theorem zW1:kV c0 U4:=P4 yJ8 (by decide) (by decide)
theorem yH5:kV c0 VO:=P4 zW1 (by decide) (by decide)
theorem yG0:kV c0 LG:=P4 yH5 (by decide) (by decide)
theorem x0:(lQ c0 zX8 e1).1=0:=by decide +kernel
theorem x1:(lQ c0 U4 e2).1=0:=by decide +kernel
theorem x2:(lQ c0 VO e2).1=0:=by decide +kernel
theorem yG3:pU U4 0=some (lF U4 0,0):=by kernel_rfl
theorem yK6:pU U4 2=some (lF U4 1,0):=by kernel_rfl
theorem yK5:pU VO 0=some (lF VO 0,0):=by kernel_rfl
theorem yH9:pU LG 0=some (lF LG 0,0):=by kernel_rfl
theorem yK8:(lF U4 0).1=[0,1]:=by decide +kernel
theorem yK7:(lF LG 0).1=[0]:=by decide +kernel
theorem yF9:mM (lF U4 0) 0=[0,1]:=by unfold mM;rw [qY];decide +kernel
theorem yH4:mM (lF U4 1) 0=[2]:=by unfold mM;rw [qY];decide +kernel
theorem yK4:(zG6 (mM (lF VO 0) 0)).2=false:=by unfold mM;rw [qY];decide +kernel
theorem yF8:mM (lF LG 0) 0=[1]:=by unfold mM;rw [qY];decide +kernel
theorem yJ5:xC (lF U4 0) 0=(3,6):=by decide +kernel
theorem yK3:xC (lF U4 1) 0=(2,3):=by decide +kernel
theorem yK2:xC (lF LG 0) 0=(3,4):=by decide +kernel
theorem a3:zR0 c0 LG [1,0,2] [5,3,2]=true:=by unfold zR0 Go.Pm.permB;rw [qY];decide +kernel
end Go.Ld
namespace Go.Proofs.YtmmkhmilpeodnaaGreat
open Go Go.Ab Go.Ld
attribute [local irreducible] VC AW bX aT jU
set_option maxHeartbeats 4000000
theorem P6 (a b:List Int) (ha:a.length≤9223372036854775807):aT Tryz.prog 15 [.rowE (ints a) 1,.rowE (ints b) 1] [] (.b (decide (a=b))) []:=by
  have hal:(ints a).length=a.length:=by simp
  have hbl:(ints b).length=b.length:=by simp
  by_cases hl:a.length=b.length
  · refine bK T Tryz.func15 rfl rfl rfl rfl ?_
    (repeat' (first|refine wS ?_|refine wB ?_|refine wK ?_|(refine wC rfl ?_ ?_<;>(intro hb;(try simp only [nm] at hb);try (exfalso;omega)))|(refine rg 0 (aV ?_))|(refine rg 1 (mW rfl (qW T rfl (mW rfl (qW T rfl (vV (eX rfl rfl) ?_))))))|(refine rg 3 (aV ?_))|refine nZ ?_));all_goals try (exfalso;omega)
    refine cO (X:={i:Nat // i≤a.length∧a.take i=b.take i}) (fun i=>[(0,.rowE (ints a) 1),(1,.rowE (ints b) 1),(5,.i i.1)]) (fun _=>[]) (fun i=>a.length-i.1) ⟨0,by omega,rfl⟩ (fA []) ?_
    rintro ⟨i,hi,hg⟩;dsimp only;by_cases hlt:i<a.length
    · have q1:=mN (l:=a) (k:=i) hlt;have q2:=mN (l:=b) (k:=i) (by omega)
      by_cases e:a[i]=b[i]
      · (repeat' (first|refine wS ?_|refine wB ?_|refine wK ?_|(refine wC rfl (fun hb=>?_) (fun hb=>?_) <;> (((try simp only [nm] at hb);try (exfalso;omega))))|(refine rg 4 (dK rfl (qW T rfl (vV (aI rfl rfl) ?_))))|(refine bQ (id:=6) 26 yQ1 (rM 17 9) yQ2 cF rfl (by decide +kernel) (dN rfl (dN rfl (dV rfl (ix T rfl (by omega) (ints_len a) q1) (dO T rfl (dN rfl (dN rfl (dV rfl (ix T rfl (by omega) (ints_len b) q2) (dO T rfl (dV rfl (eX rfl rfl) ?_)))))))));refine dE ?_)|(refine iA 5 rfl rfl rfl (by omega) (by omega) ?_)|(refine nZ ?_)));all_goals try (exfalso;omega)
        refine ⟨⟨i+1,hlt,?_⟩,by dsimp only;omega,fA []⟩
        rw [aP hlt,aP (by omega),hg,e]
      · rw [show decide (a=b)=false from decide_eq_false (fun h=>e (by subst h;rfl))]
        (repeat' (first|refine wS ?_|refine wB ?_|refine wK ?_|refine wR ?_|(refine wC rfl ?_ ?_<;>(intro hb;(try simp only [nm] at hb);try (exfalso;omega)))|(refine rg 4 (dK rfl (qW T rfl (vV (aI rfl rfl) ?_))))|(refine bQ (id:=6) 26 yQ1 (rM 17 9) yQ2 cF rfl (by decide +kernel) (dN rfl (dN rfl (dV rfl (ix T rfl (by omega) (ints_len a) q1) (dO T rfl (dN rfl (dN rfl (dV rfl (ix T rfl (by omega) (ints_len b) q2) (dO T rfl (dV rfl (eX rfl rfl) ?_)))))))));refine dE ?_)|(refine rg 7 (aV ?_))|refine nZ ?_));all_goals first | (exfalso;omega) | exact rQ
    · rw [bV (by omega),bV (by omega)] at hg
      rw [show decide (a=b)=true from decide_eq_true hg]
      (repeat' (first|refine wS ?_|refine wR ?_|refine wE ?_|(refine wC rfl ?_ ?_<;>(intro hb;(try simp only [nm] at hb);try (exfalso;omega)))|(refine rg 4 (dK rfl (qW T rfl (vV (aI rfl rfl) ?_))))|(refine rg 8 (aV ?_))|refine nZ ?_));all_goals first | (exfalso;omega) | exact rQ
  · rw [show decide (a=b)=false from decide_eq_false (fun h=>hl (by rw [h]))]
    refine bK T Tryz.func15 rfl rfl rfl rfl ?_
    (repeat' (first|refine wS ?_|refine wR ?_|(refine wC rfl ?_ ?_<;>(intro hb;(try simp only [nm] at hb);try (exfalso;omega)))|(refine rg 0 (aV ?_))|(refine rg 1 (mW rfl (qW T rfl (mW rfl (qW T rfl (vV (eX rfl rfl) ?_))))))|(refine rg 2 (aV ?_))|refine nZ ?_));all_goals first | (exfalso;omega) | exact rQ
theorem zF4 {S:Nat→Prop}{w:World}{ρ:Pl}{a b d e:AV}{y:Value}(h:R S w (.agg [a,b,d,e,.nils]) ρ y):R S w (.agg [a,b,d,e,.rowE [] 1]) ρ y:=by
  simp only [R] at h ⊢;obtain ⟨ys,e1,h1⟩:=h;exact ⟨ys,e1,nB (fun _ h=>h) (fun _=>nB (fun _ h=>h) fun _=>nB (fun _ h=>h) fun _=>nB (fun _ h=>h) fun _=>nB (fun _ h=>PI h) fun _ h=>h) h1⟩
theorem zV0:aT Tryz.prog 11 [.ptr 0 0,.agg [.i 4,.i 0,.i 1,.i 0,.nils]] [.cells (gZ c0 zX8)] (.i 0) [.cells (gZ c0 U4)]:=by
  have h:=QC c0 zX8 e1 MF yJ8 (by decide)
  rw [x0] at h;exact VF h fun S w ρ ys=>nB (fun _ h=>h) fun ys=>nB (fun _ h=>zF4 h) fun _ h=>h
theorem zU9:aT Tryz.prog 11 [.ptr 0 0,.agg [.i 0,.i 0,.i 0,.i 0,.rowE [[.i 1]] 1]] [.cells (gZ c0 U4)] (.i 0) [.cells (gZ c0 VO)]:=by
  have h:=QC c0 U4 e2 MF zW1 (by decide)
  rw [x1] at h;exact h
theorem zU8:aT Tryz.prog 11 [.ptr 0 0,.agg [.i 0,.i 0,.i 0,.i 0,.rowE [[.i 1]] 1]] [.cells (gZ c0 VO)] (.i 0) [.cells (gZ c0 LG)]:=by
  have h:=QC c0 VO e2 MF yH5 (by decide)
  rw [x2] at h;exact h
theorem XU:aT Tryz.prog 27 [.pr (gZ c0 U4) 0,.i 0] [] (.sl 0 0 2 1) [.arr [[.i 0],[.i 1]] 1]:=by
  have h:=LK c0 U4 0 zW1 yG3;rw [yK8] at h;exact h
theorem XT:aT Tryz.prog 27 [.pr (gZ c0 LG) 0,.i 0] [] (.sl 0 0 1 1) [.arr [[.i 0]] 1]:=by
  have h:=LK c0 LG 0 yG0 yH9;rw [yK7] at h;exact h
theorem zJ5:aT Tryz.prog 16 [.pr (gZ c0 U4) 0,.i 0] [] (.sl 0 0 2 1) [.arr [[.i 0],[.i 1]] 1]:=by
  have h:=GA c0 U4 0 zW1 yG3;rw [yF9] at h;exact h
theorem XP:aT Tryz.prog 18 [.pr (gZ c0 U4) 0,.i 0] [] (jC 3 6) []:=by
  have h:=FY c0 U4 0 zW1 yG3;rw [yJ5] at h;exact h
theorem XS:aT Tryz.prog 20 [.pr (gZ c0 U4) 0,.i 0,.i 0] [] (.i 0) []:=by
  have h:=K8 c0 U4 0 0 zW1 yG3 (by rw [yF9];decide) (by rw [yF9];decide)
  rw [yF9,yJ5] at h;exact h
theorem XR:aT Tryz.prog 20 [.pr (gZ c0 U4) 0,.i 2,.i 2] [] (.i 2) []:=by
  have h:=K8 c0 U4 2 2 zW1 yK6 (by rw [yH4];decide) (by rw [yH4];decide)
  rw [yH4,yK3] at h;exact h
theorem XQ:aT Tryz.prog 20 [.pr (gZ c0 LG) 0,.i 0,.i 1] [] (.i 3) []:=by
  have h:=K8 c0 LG 0 1 yG0 yH9 (by rw [yF8];decide) (by rw [yF8];decide)
  rw [yF8,yK2] at h;exact h
theorem yC8:∃ v:Int,aT Tryz.prog 13 [.pr (gZ c0 VO) 0,.i 0] [] (.tup [.i v,.b false]) []:=by
  have h:=H8 c0 VO 0 yH5 yK5;rw [yK4] at h;exact ⟨_,h⟩
theorem yC7:aT Tryz.prog 13 [.pr (gZ c0 LG) 0,.i 0] [] (.tup [.i 1,.b true]) []:=by
  have h:=H8 c0 LG 0 yG0 yH9;rw [yF8] at h;exact h
theorem XV:aT Tryz.prog 22 [.pr (gZ c0 LG) 0,.rowE [[.i 1],[.i 0],[.i 2]] 1,.rowE [[.i 5],[.i 3],[.i 2]] 1] [] (.b true) []:=by
  have h:=FI c0 LG [1,0,2] [5,3,2] yG0 (by decide) (by decide) (by decide)
  rw [a3] at h;exact h
theorem yH3:Tryz.prog.underlying 33=some (.pointer 81):=by kernel_rfl
theorem C8:aT Tryz.prog 7 [] [] (.b true) []:=by
  have hgv:=zM9;change aT _ _ _ _ _ [.cells (gZ c0 zX8)] at hgv;have s1:=zV0;have s2:=zU9;have s3:=zU8;have k1:=XU;have k2:=zJ5;have k3:=XP;have k4:=XS;have k5:=XR;obtain ⟨v,k6⟩:=yC8;have k7:=yC7;have k8:=XQ;have k9:=XT;have k10:=XV;generalize zX8=G0 at *;generalize U4=G1 at *;generalize VO=G2 at *;generalize LG=G3 at *;have t1:=P6 [0,1] [0,1] (by decide)
  rw [show decide (([0,1]:List Int)=[0,1])=true from rfl] at t1
  have t2:=P6 [0] [0] (by decide)
  rw [show decide (([0]:List Int)=[0])=true from rfl] at t2
  refine bK T Tryz.func7 rfl rfl rfl rfl ?_
  (repeat' (first|refine wS ?_|(refine rg 0 (aV ?_))|(refine rg 1 (bN (by exact fX rfl rfl hgv (.inr ⟨rfl,rfl,by simp⟩)) rfl ?_);refine aV ?_)|refine nZ ?_));refine eI [(1,.ptr 0 0)] [.cells (gZ c0 G0)] ⟨[0],rfl,(by repeat first|exact trivial|refine ⟨rfl,?_⟩),⟨.inr rfl,trivial⟩,by decide,jJ _⟩ ?_
  (repeat' (first|refine wS ?_|refine wK ?_|refine wU ?_|(refine rg 2 (mW rfl (vV (by exact BJ yH3 rfl rfl rfl) ?_)))|(refine rg 4 (mW rfl (vV (by exact dY T rfl rfl rfl rfl) ?_));refine fP [0] rfl rfl (s1) rfl rfl (by decide) ⟨.inr rfl,trivial⟩ (by simp) rfl ?_;refine aV ?_)|refine nZ ?_));all_goals try (exfalso;omega)
  refine eI [(1,.ptr 0 0),(2,.i 0)] [.cells (gZ c0 G1)] ⟨[0],rfl,(by repeat first|exact trivial|refine ⟨rfl,?_⟩),⟨.inr rfl,trivial⟩,by decide,jJ _⟩ ?_
  (repeat' (first|refine wS ?_|(refine rg 5 (mW rfl (bN (by exact fX rfl rfl k1 (.inl ⟨.cons (.ptr rfl (eO _ rfl)) (.cons (.v _) .nil),rfl⟩)) rfl ?_));refine mE 17 rfl rfl rfl rfl ?_;refine bN (by exact bD T rfl rfl (by decide) (by decide) rfl rfl rfl) rfl ?_;refine mE 18 rfl rfl rfl rfl ?_;refine vV (kC (t1)) (mW rfl (yN rfl (gT (bN (by exact fX rfl rfl k2 (.inl ⟨.cons (.ptr rfl (eO _ rfl)) (.cons (.v _) .nil),rfl⟩)) rfl ?_))));refine mE 22 rfl rfl rfl rfl ?_;refine gT (bN (by exact bD T rfl rfl (by decide) (by decide) rfl rfl rfl) rfl ?_);refine mE 23 rfl rfl rfl rfl ?_;refine yV (kC (t1)) (pW rfl (mW rfl (yN rfl (yV (by exact eJ rfl rfl k3 (.cons (.ptr rfl (eO _ rfl)) (.cons (.v _) .nil)) rfl rfl) ?_))));refine yV (by exact dY T rfl rfl rfl rfl) ?_;refine yV (zN7 JC rfl rfl) (pW rfl (mW rfl (yN rfl (yV (by exact eJ rfl rfl k4 (.cons (.ptr rfl (eO _ rfl)) (.cons (.v _) (.cons (.v _) .nil))) rfl rfl) ?_))));refine yV (eQ rfl rfl) (pW rfl (mW rfl (yN rfl (yV (by exact eJ rfl rfl k5 (.cons (.ptr rfl (eO _ rfl)) (.cons (.v _) (.cons (.v _) .nil))) rfl rfl) ?_))));refine yV (eQ rfl rfl) (pW rfl (aV ?_)))|refine nZ ?_));all_goals try (exfalso;omega)
  refine eI [(1,.ptr 0 0),(2,.i 0),(3,.b true)] [.cells (gZ c0 G1)] ⟨[0],rfl,(by repeat first|exact trivial|refine ⟨rfl,?_⟩),⟨.inr rfl,trivial⟩,by decide,jJ _⟩ ?_
  (repeat' (first|refine wS ?_|(refine rg 6 (mW rfl (bN (by exact bD T rfl rfl (by decide) (by decide) rfl rfl rfl) rfl ?_));refine mE 43 rfl rfl rfl rfl ?_;refine vV (by exact dY T rfl rfl rfl rfl) ?_;refine fP [0] rfl rfl (s2) rfl rfl (by decide) ⟨.inr rfl,trivial⟩ (by simp) rfl ?_;refine aV ?_)|refine nZ ?_));all_goals try (exfalso;omega)
  refine eI [(1,.ptr 0 0),(2,.i 0),(3,.b true),(4,.i 0)] [.cells (gZ c0 G2)] ⟨[0],rfl,(by repeat first|exact trivial|refine ⟨rfl,?_⟩),⟨.inr rfl,trivial⟩,by decide,jJ _⟩ ?_
  (repeat' (first|refine wS ?_|(refine rg 7 (mW rfl (vV (by exact eJ rfl rfl k6 (.cons (.ptr rfl (eO _ rfl)) (.cons (.v _) .nil)) rfl rfl) ?_));refine mW rfl (xW rfl (xW rfl (oM ?_))))|refine nZ ?_));all_goals try (exfalso;omega)
  refine eI [(1,.ptr 0 0),(2,.i 0),(3,.b true),(4,.i 0),(6,.b false)] [.cells (gZ c0 G2)] ⟨[0],rfl,(by repeat first|exact trivial|refine ⟨rfl,?_⟩),⟨.inr rfl,trivial⟩,by decide,jJ _⟩ ?_
  (repeat' (first|refine wS ?_|(refine rg 8 (mW rfl (bN (by exact bD T rfl rfl (by decide) (by decide) rfl rfl rfl) rfl ?_));refine mE 52 rfl rfl rfl rfl ?_;refine vV (by exact dY T rfl rfl rfl rfl) ?_;refine fP [0] rfl rfl (s3) rfl rfl (by decide) ⟨.inr rfl,trivial⟩ (by simp) rfl ?_;refine aV ?_)|refine nZ ?_));all_goals try (exfalso;omega)
  refine eI [(1,.ptr 0 0),(2,.i 0),(3,.b true),(4,.i 0),(6,.b false),(7,.i 0)] [.cells (gZ c0 G3)] ⟨[0],rfl,(by repeat first|exact trivial|refine ⟨rfl,?_⟩),⟨.inr rfl,trivial⟩,by decide,jJ _⟩ ?_
  (repeat' (first|refine wS ?_|(refine rg 9 (mW rfl (vV (by exact eJ rfl rfl k7 (.cons (.ptr rfl (eO _ rfl)) (.cons (.v _) .nil)) rfl rfl) ?_));refine mW rfl (xW rfl (xW rfl (oM ?_))))|refine nZ ?_));all_goals try (exfalso;omega)
  refine eI [(1,.ptr 0 0),(2,.i 0),(3,.b true),(4,.i 0),(6,.b false),(7,.i 0),(8,.i 1),(9,.b true)] [.cells (gZ c0 G3)] ⟨[0],rfl,(by repeat first|exact trivial|refine ⟨rfl,?_⟩),⟨.inr rfl,trivial⟩,by decide,jJ _⟩ ?_
  (repeat' (first|refine wR ?_|(refine rg 10 (mW rfl (vV (eQ rfl rfl) (mW rfl (yN rfl (pW rfl (mW rfl (yN rfl (yV (eQ rfl rfl) (pV ?_)))))))));refine mW rfl (yN rfl (yV (cY rfl) (pW rfl (mW rfl (yN rfl (yV (eQ rfl rfl) (pW rfl (mW rfl (yM ?_)))))))));refine pW rfl (mW rfl (yN rfl (yV (eQ rfl rfl) (pW rfl (mW rfl (yN rfl (yV (by exact eJ rfl rfl k8 (.cons (.ptr rfl (eO _ rfl)) (.cons (.v _) (.cons (.v _) .nil))) rfl rfl) ?_)))))));refine yV (eQ rfl rfl) (pW rfl (mW rfl (yN rfl (gT (bN (by exact fX rfl rfl k9 (.inl ⟨.cons (.ptr rfl (eO _ rfl)) (.cons (.v _) .nil),rfl⟩)) rfl ?_)))));refine mE 91 rfl rfl rfl rfl ?_;refine gT (bN (by exact bD T rfl rfl (by decide) (by decide) rfl rfl rfl) rfl ?_);refine mE 92 rfl rfl rfl rfl ?_;refine yV (kC (t2)) (pW rfl (mW rfl (yN rfl (gT (bN (by exact bD T rfl rfl (by decide) (by decide) rfl rfl rfl) rfl ?_)))));refine mE 97 rfl rfl rfl rfl ?_;refine gT (bN (by exact bD T rfl rfl (by decide) (by decide) rfl rfl rfl) rfl ?_);refine mE 98 rfl rfl rfl rfl ?_;refine yV (by exact eJ rfl rfl k10 (.cons (.ptr rfl (eO _ rfl)) (.cons (.row _ _ _) (.cons (.row _ _ _) .nil))) rfl rfl) ?_;refine pW rfl (aV ?_))|refine nZ ?_));all_goals try (exfalso;omega)
  all_goals exact rQ
end Go.Proofs.YtmmkhmilpeodnaaGreat
namespace Go.Ld
open Go.Ab Go.Proofs.YtmmkhmilpeodnaaGreat Go.Pm
theorem AP {g:G}{i:Nat}{x:Int}:x∈mM g i↔∃ w,w∈g.2∧gP w i=x:=by
  unfold mM G7;rw [BU _ _ _ (bA _),dI];have:x∈jD (F0 g i)↔x∈F0 g i:=(sorted_perm _).mem_iff;rw [this];unfold F0;rw [bE]
theorem JU {g:G}{i:Nat}:∀ k,k≤g.2.length→∀ w,w∈g.2.take k→(zQ g i k).1≤(gC w i).1∧(gC w i).2≤(zQ g i k).2
  | 0,_,w,hw=>by simp at hw
  | k+1,hk,w,hw=>by
    rw [D2 (by omega)]
    rw [aP (by omega)] at hw
    unfold ER;dsimp only;rcases bG.1 hw with hw | hw
    · have:=JU (i:=i) k (by omega) w hw
      omega
    · obtain rfl:=aQ.1 hw;omega
theorem QI {g:G}{i:Nat}{w:W}(hw:w∈g.2):(xC g i).1≤(gC w i).1∧(gC w i).2≤(xC g i).2:=
  JU _ (bA _) w (by rw [dI];exact hw)
theorem D0:∀ {gs:List G}{f:As}{M:Int},Sem gs f M→∀ {g:G},g∈gs→∃ w,w∈g.2∧lP g.1 w f
  | [],_,_,_,_,hg=>by cases hg
  | x::gs,f,M,⟨m,⟨w,h1,h2,_⟩,h3⟩,g,hg=>by
    rcases bO.1 hg with rfl | hg
    · exact ⟨w,h1,h2⟩
    · exact D0 h3 hg
end Go.Ld
namespace Go.Ld
open Go.Ab Go.Proofs.YtmmkhmilpeodnaaGreat
abbrev L8 (l:List Ev):List (List AV):=l.map sX
def NA (l:List Ev):Nat:=l.countP fun s=>decide (s.k=4)
def F1 (l:List Ev) (m:Nat):Bool:=(l.take (m+1)).all (fun s=>decide (s.ids.length≤12))&&decide (l.length≤m)&&decide (NA (l.take (m+1))≤5)
theorem xT (l:List Ev):∀ e,e∈L8 l→e.length=5:=by intro e he;obtain ⟨n,_,rfl⟩:=bE.1 he;rfl
theorem LS {l:List Ev}{k:Nat}(h:k<l.length):(L8 l)[(k:Int).toNat]? = some (sX l[k]):=by simp [h]
end Go.Ld
namespace Go.Proofs.YtmmkhmilpeodnaaGreat
open Go Go.Ab Go.Ld
attribute [local irreducible] VC AW bX aT jU
set_option maxHeartbeats 4000000
theorem HC (l:List Ev) (m:Nat) (hm:m≤1000) (hids:∀ s,s∈l→s.ids.length≤9223372036854775807):aT Tryz.prog 8 [.rowE (L8 l) 5,.i m] [] (.b (F1 l m)) []:=by
  have hll:(L8 l).length=l.length:=aF _;have hbad:∀ k (hk:k<l.length),k≤m→¬ l[k].ids.length≤12→F1 l m=false:=fun k hk hkm hb=>by
    unfold F1;rw [show (l.take (m+1)).all (fun s=>decide (s.ids.length≤12))=false from qS.2 ⟨l[k],T1.2 ⟨k,by omega,rfl⟩,by simpa using hb⟩];rfl
  have hgood:(∀ s,s∈l.take (m+1)→s.ids.length≤12)→F1 l m=(decide (l.length≤m)&&decide (NA (l.take (m+1))≤5)):=fun h=>by
    unfold F1;rw [bF.2 fun s hs=>decide_eq_true (h s hs),eM]
  generalize F1 l m=R at *;refine bK T Tryz.func8 rfl rfl rfl rfl ?_
  (repeat' (first|refine wS ?_|refine wB ?_|(refine rg 0 (aV ?_))|(refine rg 1 (aV ?_))|(refine rg 2 (aV ?_))|refine nZ ?_));refine cO (X:={k:Nat // k≤l.length∧k≤m+1∧∀ s,s∈l.take k→s.ids.length≤12}) (fun k=>[(0,.rowE (L8 l) 5),(1,.i m),(5,.i (NA (l.take k.1))),(6,.i k.1)]) (fun _=>[]) (fun k=>l.length-k.1) ⟨0,bW _,bW _,fun s hs=>by simp at hs⟩ (fA []) ?_
  rintro ⟨k,hk,hkm,hall⟩;dsimp only;have hsw:NA (l.take k)≤k:=bP List.countP_le_length (by rw [bL];omega)
  by_cases hlt:k<l.length∧k≤m
  · obtain ⟨h1,h2⟩:=hlt;have hg:=LS h1;have hts:l.take (k+1)=l.take k++[l[k]]:=aP h1;have hs1:NA (l.take (k+1))=NA (l.take k)+(if l[k].k=4 then 1 else 0):=by rw [hts];unfold NA;rw [VJ];simp [CT]
    have hbk:=hbad k h1 h2;have hx:=hids l[k] (aH h1);have hil:(Go.Ab.ints l[k].ids).length=l[k].ids.length:=aF _;have hall2:l[k].ids.length≤12→∀ s,s∈l.take (k+1)→s.ids.length≤12:=fun hq s hs=>by
      rw [hts] at hs;rcases bG.1 hs with hs | hs
      · exact hall s hs
      · rw [aQ.1 hs];exact hq
    generalize l[k]=s at *;generalize hS1:NA (l.take (k+1))=S1 at *;generalize NA (l.take k)=S at *;by_cases hi:s.ids.length≤12
    · by_cases h4:s.k=4
      · rw [if_pos h4] at hs1
        (repeat' (first|refine wS ?_|refine wB ?_|refine wK ?_|refine wT ?_|(refine wC rfl ?_ ?_<;>(intro hb;(try simp only [nm] at hb);try (exfalso;omega)))|(refine rg 3 (dK rfl (qW T rfl (vV (aI rfl rfl) (mV ?_))));refine bC rfl rfl ?_ ?_<;>(intro hb;rw [hb];(try simp only [nm] at hb);try (exfalso;omega));(all_goals (refine yN rfl (yN rfl (yV (lA rfl rfl) (pV ?_))))))|(refine rg 5 (dK rfl (vV (ix T rfl (by omega) (xT _) hg) (gB T rfl (qW T rfl (vV (eE rfl rfl) ?_))))))|(refine rg 7 (dK rfl (vV (ix T rfl (by omega) (xT _) hg) (gB T rfl (vV (gX rfl rfl (by omega)) ?_)))))|(refine iA 8 rfl rfl rfl (by omega) (by omega) ?_)|(refine iA 4 rfl rfl rfl (by omega) (by omega) ?_)|refine nZ ?_));all_goals try (exfalso;omega)
        exact ⟨⟨k+1,h1,by omega,hall2 hi⟩,by dsimp only;omega,[],rfl,⟨rfl,rfl,by dsimp only;rw [hS1,hs1];rfl,rfl,trivial⟩,trivial,cM,jJ _⟩
      · rw [if_neg h4] at hs1
        (repeat' (first|refine wS ?_|refine wB ?_|refine wK ?_|refine wU ?_|(refine wC rfl ?_ ?_<;>(intro hb;(try simp only [nm] at hb);try (exfalso;omega)))|(refine rg 3 (dK rfl (qW T rfl (vV (aI rfl rfl) (mV ?_))));refine bC rfl rfl ?_ ?_<;>(intro hb;rw [hb];(try simp only [nm] at hb);try (exfalso;omega));(all_goals (refine yN rfl (yN rfl (yV (lA rfl rfl) (pV ?_))))))|(refine rg 5 (dK rfl (vV (ix T rfl (by omega) (xT _) hg) (gB T rfl (qW T rfl (vV (eE rfl rfl) ?_))))))|(refine rg 7 (dK rfl (vV (ix T rfl (by omega) (xT _) hg) (gB T rfl (vV (dQ rfl rfl (by omega)) ?_)))))|(refine iA 4 rfl rfl rfl (by omega) (by omega) ?_)|refine nZ ?_));all_goals try (exfalso;omega)
        exact ⟨⟨k+1,h1,by omega,hall2 hi⟩,by dsimp only;omega,[],rfl,⟨rfl,rfl,by dsimp only;rw [hS1,hs1];rfl,rfl,trivial⟩,trivial,cM,jJ _⟩
    · have hR:=hbk hi;subst hR
      (repeat' (first|refine wS ?_|refine wB ?_|refine wK ?_|refine wR ?_|(refine wC rfl ?_ ?_<;>(intro hb;(try simp only [nm] at hb);try (exfalso;omega)))|(refine rg 3 (dK rfl (qW T rfl (vV (aI rfl rfl) (mV ?_))));refine bC rfl rfl ?_ ?_<;>(intro hb;rw [hb];(try simp only [nm] at hb);try (exfalso;omega));(all_goals (refine yN rfl (yN rfl (yV (lA rfl rfl) (pV ?_))))))|(refine rg 5 (dK rfl (vV (ix T rfl (by omega) (xT _) hg) (gB T rfl (qW T rfl (vV (eE rfl rfl) ?_))))))|(refine rg 6 (aV ?_))|refine nZ ?_));all_goals try (exfalso;omega)
      all_goals exact rQ
  · have hke:l.take k=l.take (m+1):=by
      rcases iM k l.length with h | h
      · rw [show k=m+1 by omega]
      · rw [bV h,bV (by omega)]
    rw [hke] at hall hsw ⊢;have hR:=hgood hall;subst hR;generalize NA (l.take (m+1))=S at *
    (repeat' (first|refine wS ?_|refine wR ?_|refine wE ?_|refine wU ?_|(refine wC rfl ?_ ?_<;>(intro hb;(try simp only [nm] at hb);try (exfalso;omega)))|(refine rg 3 (dK rfl (qW T rfl (vV (aI rfl rfl) (mV ?_))));refine bC rfl rfl ?_ ?_<;>(intro hb;rw [hb];(try simp only [nm] at hb);try (exfalso;omega));(all_goals first|(refine gT (mW rfl (gT (mW rfl (gT (vV (lA rfl rfl) ?_))))))|(iterate 3 refine gF ?_));(all_goals (refine pV ?_)))|(refine rg 9 (mW rfl (qW T rfl (mW rfl (vV (lA rfl rfl) (mV ?_)))));refine bC rfl rfl ?_ ?_<;>(intro hb;rw [hb];(try simp only [nm] at hb);try (exfalso;omega));(all_goals first|(refine gT (mW rfl (gT (vV (lA rfl rfl) ?_))))|(iterate 2 refine gF ?_));(all_goals (refine pW rfl (aV ?_))))|refine nZ ?_));all_goals try (exfalso;omega)
    all_goals (refine cH (.inl rfl) rfl (mB ?_);first | rfl | (rw [jP];simp;omega) | (simp [*];omega) | skip)
end Go.Proofs.YtmmkhmilpeodnaaGreat
