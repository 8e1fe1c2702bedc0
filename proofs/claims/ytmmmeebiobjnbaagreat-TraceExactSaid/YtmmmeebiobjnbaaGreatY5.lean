/-
  Texts of the logic and of the layer,in one module (part 5).
-/
import Derived.Test.YtmmmeebiobjnbaaGreatY4
set_option linter.unusedVariables false
set_option linter.unusedSimpArgs false
set_option linter.unnecessarySimpa false
namespace Go.Ab
open Go
section
variable {P:Program}
theorem K7 {f:FuncId}{args:List AV}{e1 e2:List (List AV)}{l1 l2 s1 s2:Nat}{u:AV}(hn1:l1=e1.length) (hn2:l2=e2.length) (hi1:AV.idfL e1.flatten=true) (hi2:AV.idfL e2.flatten=true) (hu:u.idf=true)
    (h:aT P f args [] (.tup [.sl 0 0 l1 s1,.sl 1 0 l2 s2,u]) [.arr e1 s1,.arr e2 s2]):aT P f args [] (.tup [.rowE e1 s1,.rowE e2 s2,u]) []:=by
  refine ⟨h.1,fun ρ S w vs hs ha=>(h.2 ρ S w vs hs ha).mono ?_⟩;rintro e w' ⟨y,ρ',S',rfl,h2,h3⟩;rw [hn1,hn2] at h3;have f1:=h2.freeze (k:=0) rfl;have f2:=f1.freeze (k:=1) rfl;refine ⟨y,_,_,rfl,f2.none rfl,?_⟩;simp only [R] at h3 ⊢;obtain ⟨ys,rfl,h7⟩:=h3;refine ⟨ys,rfl,?_⟩;simp only [RL] at h7 ⊢;obtain ⟨z1,q1,h5,g1,z2,q2,rfl,g2,z3,q3,rfl,g3,rfl⟩:=h7;refine ⟨z1,_,h5,?_,z2,_,rfl,?_,z3,_,rfl,?_,rfl⟩
  · exact KF (fun _ h=>.inl h) (P4 ρ' _ _ _ rfl (vP hi1 (h2.blk 0 _ rfl) g1))
  · exact P4 ρ' _ _ _ rfl (vP hi2 (f1.blk 1 _ rfl) (KF (fun _ h=>.inl h) g2))
  · exact KF (fun _ h=>.inl (.inl h)) (P4 ρ' _ _ _ hu g3)
end
end Go.Ab
namespace Go.Proofs.YtmmmeebiobjnbaaGreat
open Go Go.Ab
attribute [local irreducible] VC AW cD aT
set_option maxHeartbeats 4000000
theorem lN {θ:Nat→Nat}{f:Fn}{caps:List AV}(hi:AV.idfL caps=true):(AV.clo f [] caps).map θ = .clo f [] caps:=by
  show AV.clo f (AV.mapL θ []) (AV.mapL θ caps)=_;rw [sW θ caps hi];rfl
theorem zD5 {w:List KD}{F:FuncId}{caps:List AV}(hl:w.length≤1000) (hi:AV.idfL caps=true) (hF:∀ x,x∈w→aT Tryz.prog F (.agg [AV.v (.string x.1),AV.i x.2]::caps) [] (.b false) []) :
    aT Tryz.prog 108 [.rowE (gE w) 2,.clo (.func F) [] caps] [] (.i (-1)) []:=by
  have hlen:(gE w).length=w.length:=by simp
  refine bU T Tryz.func108 rfl rfl rfl rfl ?_
  (repeat' (first|refine wS ?_|refine wB ?_|(refine rg 0 (aV ?_))|(refine rg 1 (mW rfl (qW T rfl (mV ?_))))|refine nZ ?_));refine dA (X:={k:Nat // k≤w.length}) (fun k=>[(0,.rowE (gE w) 2),(1,.clo (.func F) [] caps),(7,.i (gE w).length),(8,.i k.1)]) (fun _=>[]) (fun k=>w.length-k.1) ⟨0,by simp⟩ ⟨[],rfl,⟨rfl,by rw [lN hi];rfl,rfl,rfl,trivial⟩,trivial,eT,fun _ h=>absurd h (eG _)⟩ ?_
  rintro ⟨k,hk⟩;dsimp only;by_cases hlt:k<w.length
  · have hc:=hF w[k] (aM hlt);have hg:=F0 (l:=w) hlt;generalize w[k]=y at *
    (repeat' (first|refine wS ?_|refine wB ?_|refine wK ?_|refine wU ?_|(refine wC rfl ?_ ?_<;>(intro hb;(try simp only [nm] at hb);try (exfalso;omega)))|(refine rg 2 (vV (aL rfl rfl) ?_))|(refine rg 3 (mW rfl (aV ?_)))|(refine rg 4 (dI rfl (mW rfl (vV (ix T rfl (by omega) (xI w) hg) (lW T rfl (vV (by exact fQ rfl rfl hc rfl (by simp [AV.idfL,AV.idf,hi]) rfl) ?_))))))|(refine rg 6 (vV (cE rfl rfl (by omega) (by omega)) (mV ?_)))|refine nZ ?_));all_goals first | (exfalso;omega) | exact ⟨⟨k+1,hlt⟩,by dsimp only;omega,⟨[],rfl,⟨rfl,by rw [lN hi];rfl,rfl,rfl,trivial⟩,trivial,eT,fun _ h=>absurd h (eG _)⟩⟩
  · (repeat' (first|refine wS ?_|refine wR ?_|refine wE ?_|(refine wC rfl (fun hb=>?_) (fun hb=>?_) <;> (((try simp only [nm] at hb);try (exfalso;omega))))|(refine rg 2 (vV (aL rfl rfl) ?_))|(refine rg 7 (aV ?_))|(refine nZ ?_)));all_goals first | (exfalso;omega) | exact rQ
theorem yD2 {w:List KD}{F:FuncId}{caps:List AV}(hl:w.length≤1000) (hi:AV.idfL caps=true) (hF:∀ x,x∈w→aT Tryz.prog F (.agg [AV.v (.string x.1),AV.i x.2]::caps) [] (.b false) []) :
    aT Tryz.prog 72 [.rowE (gE w) 2,.clo (.func F) [] caps] [] (.b false) []:=by
  have hc:=zD5 hl hi hF;refine bU T Tryz.func72 rfl rfl rfl rfl ?_
  (repeat' (first|refine wS ?_|refine wR ?_|(refine rg 0 (aV ?_))|(refine rg 1 (dI rfl (vV (by exact fQ rfl rfl hc rfl (by simp [AV.idfL,AV.idf,hi]) rfl) ?_));refine vV (iC rfl rfl) (aV ?_))|refine nZ ?_));all_goals first | (exfalso;omega) | exact rQ
theorem zD4 {w:List LT}{F:FuncId}{caps:List AV}(hl:w.length≤1000) (hi:AV.idfL caps=true) (hF:∀ x,x∈w→aT Tryz.prog F (.agg [AV.i x.1,AV.i x.2.1,AV.b x.2.2]::caps) [] (.b false) []) :
    aT Tryz.prog 109 [.rowE (iI w) 3,.clo (.func F) [] caps] [] (.i (-1)) []:=by
  have hlen:(iI w).length=w.length:=by simp
  refine bU T Tryz.func109 rfl rfl rfl rfl ?_
  (repeat' (first|refine wS ?_|refine wB ?_|(refine rg 0 (aV ?_))|(refine rg 1 (mW rfl (qW T rfl (mV ?_))))|refine nZ ?_));refine dA (X:={k:Nat // k≤w.length}) (fun k=>[(0,.rowE (iI w) 3),(1,.clo (.func F) [] caps),(7,.i (iI w).length),(8,.i k.1)]) (fun _=>[]) (fun k=>w.length-k.1) ⟨0,by simp⟩ ⟨[],rfl,⟨rfl,by rw [lN hi];rfl,rfl,rfl,trivial⟩,trivial,eT,fun _ h=>absurd h (eG _)⟩ ?_
  rintro ⟨k,hk⟩;dsimp only;by_cases hlt:k<w.length
  · have hc:=hF w[k] (aM hlt);have hg:=M4 (l:=w) hlt;generalize w[k]=y at *
    (repeat' (first|refine wS ?_|refine wB ?_|refine wK ?_|refine wU ?_|(refine wC rfl ?_ ?_<;>(intro hb;(try simp only [nm] at hb);try (exfalso;omega)))|(refine rg 2 (vV (aL rfl rfl) ?_))|(refine rg 3 (mW rfl (aV ?_)))|(refine rg 4 (dI rfl (mW rfl (vV (ix T rfl (by omega) (B8 w) hg) (lW T rfl (vV (by exact fQ rfl rfl hc rfl (by simp [AV.idfL,AV.idf,hi]) rfl) ?_))))))|(refine rg 6 (vV (cE rfl rfl (by omega) (by omega)) (mV ?_)))|refine nZ ?_));all_goals first | (exfalso;omega) | exact ⟨⟨k+1,hlt⟩,by dsimp only;omega,⟨[],rfl,⟨rfl,by rw [lN hi];rfl,rfl,rfl,trivial⟩,trivial,eT,fun _ h=>absurd h (eG _)⟩⟩
  · (repeat' (first|refine wS ?_|refine wR ?_|refine wE ?_|(refine wC rfl (fun hb=>?_) (fun hb=>?_) <;> (((try simp only [nm] at hb);try (exfalso;omega))))|(refine rg 2 (vV (aL rfl rfl) ?_))|(refine rg 7 (aV ?_))|(refine nZ ?_)));all_goals first | (exfalso;omega) | exact rQ
theorem yD1 {w:List LT}{F:FuncId}{caps:List AV}(hl:w.length≤1000) (hi:AV.idfL caps=true) (hF:∀ x,x∈w→aT Tryz.prog F (.agg [AV.i x.1,AV.i x.2.1,AV.b x.2.2]::caps) [] (.b false) []) :
    aT Tryz.prog 74 [.rowE (iI w) 3,.clo (.func F) [] caps] [] (.b false) []:=by
  have hc:=zD4 hl hi hF;refine bU T Tryz.func74 rfl rfl rfl rfl ?_
  (repeat' (first|refine wS ?_|refine wR ?_|(refine rg 0 (aV ?_))|(refine rg 1 (dI rfl (vV (by exact fQ rfl rfl hc rfl (by simp [AV.idfL,AV.idf,hi]) rfl) ?_));refine vV (iC rfl rfl) (aV ?_))|refine nZ ?_));all_goals first | (exfalso;omega) | exact rQ
theorem zD6 {w:List BX}{F:FuncId}{caps:List AV}(hl:w.length≤1000) (hi:AV.idfL caps=true) (hF:∀ x,x∈w→aT Tryz.prog F (.agg [AV.i x.1,AV.i x.2.1,AV.i x.2.2]::caps) [] (.b false) []) :
    aT Tryz.prog 110 [.rowE (cW w) 3,.clo (.func F) [] caps] [] (.i (-1)) []:=by
  have hlen:(cW w).length=w.length:=by simp
  refine bU T Tryz.func110 rfl rfl rfl rfl ?_
  (repeat' (first|refine wS ?_|refine wB ?_|(refine rg 0 (aV ?_))|(refine rg 1 (mW rfl (qW T rfl (mV ?_))))|refine nZ ?_));refine dA (X:={k:Nat // k≤w.length}) (fun k=>[(0,.rowE (cW w) 3),(1,.clo (.func F) [] caps),(7,.i (cW w).length),(8,.i k.1)]) (fun _=>[]) (fun k=>w.length-k.1) ⟨0,by simp⟩ ⟨[],rfl,⟨rfl,by rw [lN hi];rfl,rfl,rfl,trivial⟩,trivial,eT,fun _ h=>absurd h (eG _)⟩ ?_
  rintro ⟨k,hk⟩;dsimp only;by_cases hlt:k<w.length
  · have hc:=hF w[k] (aM hlt);have hg:=xP (l:=w) hlt;generalize w[k]=y at *
    (repeat' (first|refine wS ?_|refine wB ?_|refine wK ?_|refine wU ?_|(refine wC rfl ?_ ?_<;>(intro hb;(try simp only [nm] at hb);try (exfalso;omega)))|(refine rg 2 (vV (aL rfl rfl) ?_))|(refine rg 3 (mW rfl (aV ?_)))|(refine rg 4 (dI rfl (mW rfl (vV (ix T rfl (by omega) (iS w) hg) (lW T rfl (vV (by exact fQ rfl rfl hc rfl (by simp [AV.idfL,AV.idf,hi]) rfl) ?_))))))|(refine rg 6 (vV (cE rfl rfl (by omega) (by omega)) (mV ?_)))|refine nZ ?_));all_goals first | (exfalso;omega) | exact ⟨⟨k+1,hlt⟩,by dsimp only;omega,⟨[],rfl,⟨rfl,by rw [lN hi];rfl,rfl,rfl,trivial⟩,trivial,eT,fun _ h=>absurd h (eG _)⟩⟩
  · (repeat' (first|refine wS ?_|refine wR ?_|refine wE ?_|(refine wC rfl (fun hb=>?_) (fun hb=>?_) <;> (((try simp only [nm] at hb);try (exfalso;omega))))|(refine rg 2 (vV (aL rfl rfl) ?_))|(refine rg 7 (aV ?_))|(refine nZ ?_)));all_goals first | (exfalso;omega) | exact rQ
theorem yD5 {w:List BX}{F:FuncId}{caps:List AV}(hl:w.length≤1000) (hi:AV.idfL caps=true) (hF:∀ x,x∈w→aT Tryz.prog F (.agg [AV.i x.1,AV.i x.2.1,AV.i x.2.2]::caps) [] (.b false) []) :
    aT Tryz.prog 76 [.rowE (cW w) 3,.clo (.func F) [] caps] [] (.b false) []:=by
  have hc:=zD6 hl hi hF;refine bU T Tryz.func76 rfl rfl rfl rfl ?_
  (repeat' (first|refine wS ?_|refine wR ?_|(refine rg 0 (aV ?_))|(refine rg 1 (dI rfl (vV (by exact fQ rfl rfl hc rfl (by simp [AV.idfL,AV.idf,hi]) rfl) ?_));refine vV (iC rfl rfl) (aV ?_))|refine nZ ?_));all_goals first | (exfalso;omega) | exact rQ
theorem YF (x:KD) (h:0≤x.2∧x.2≤1048576):aT Tryz.prog 73 [.agg [AV.v (.string x.1),AV.i x.2]] [] (.b false) []:=by
  have hw:=A9 (n:=x.2) (f:=0) (t:=1048576) h;refine bU T Tryz.func73 rfl rfl rfl rfl ?_
  (repeat' (first|refine wS ?_|refine wR ?_|(refine rg 0 (cC (cO rfl rfl) rfl (aV ?_)))|(refine rg 1 (gI T rfl (vV (kC (hw)) (vV (eH rfl) (aV ?_)))))|refine nZ ?_));all_goals first | (exfalso;omega) | exact rQ
theorem YE (ks:List KD) (x:LT) (h:0≤x.1∧x.1<ks.length) (hk:ks.length≤1000):aT Tryz.prog 75 [.agg [AV.i x.1,AV.i x.2.1,AV.b x.2.2],.pr [.rowE (gE ks) 2] 0] [] (.b false) []:=by
  have e1:(gE ks).length=ks.length:=by simp
  have hw:=A9 (n:=x.1) (f:=0) (t:=((gE ks).length:Int)-1) (by omega)
  refine bU T Tryz.func75 rfl rfl rfl rfl ?_
  (repeat' (first|refine wS ?_|refine wR ?_|(refine rg 0 (cC (cO rfl rfl) rfl (aV ?_)))|(refine rg 1 (gI T rfl (lW T rfl (qW T rfl (vV (cT rfl rfl (by omega) (by omega)) (vV (kC (hw)) (vV (eH rfl) (aV ?_))))))))|refine nZ ?_));all_goals first | (exfalso;omega) | exact rQ
theorem YG (ls:List LT) (x:BX) (h:-1≤x.1∧x.1<ls.length∧0≤x.2.1∧x.2.1≤20000∧(x.1 = -1→x.2.1=0)∧0≤x.2.2∧x.2.2≤1073741824) (hk:ls.length≤1000):aT Tryz.prog 77 [.agg [AV.i x.1,AV.i x.2.1,AV.i x.2.2],.pr [.rowE (iI ls) 3] 0] [] (.b false) []:=by
  have e1:(iI ls).length=ls.length:=by simp
  obtain ⟨lot,ct,ta⟩:=x;dsimp only at h ⊢;have h1:=A9 (n:=lot) (f:=-1) (t:=((iI ls).length:Int)-1) (by omega)
  have h2:=A9 (n:=ct) (f:=0) (t:=20000) (by omega)
  have h3:=A9 (n:=ta) (f:=0) (t:=1073741824) (by omega)
  refine bU T Tryz.func77 rfl rfl rfl rfl ?_
  (repeat' (first|refine wS ?_|refine wR ?_|(refine rg 0 (cC (cO rfl rfl) rfl (aV ?_)))|(refine rg 1 (gI T rfl (lW T rfl (qW T rfl (vV (cT rfl rfl (by omega) (by omega)) (vV (kC (h1)) (vV (eH rfl) (mW rfl (yP T rfl (yL T ?_)))))))));refine yV (kC (h2)) (yV (eH rfl) (pW rfl (mW rfl (yP T rfl (yO T rfl (yV (aL rfl rfl) (yM ?_)))))));refine bQ rfl rfl ?_ ?_<;>(intro hb;rw [hb];(try simp only [nm] at hb);try (exfalso;omega));(all_goals first|(refine gT (fW T rfl (gT (lW T rfl (gT (vV (fA rfl rfl) ?_))))))|(iterate 3 refine gF ?_));(all_goals (refine gT (pW rfl (pW rfl (mV ?_)))));(all_goals first|(refine gK ?_)|(refine bQ rfl rfl ?_ ?_<;>(intro hb;rw [hb];(try simp only [nm] at hb);try (exfalso;omega))));(all_goals (refine yP T rfl (yO T rfl (yV (kC (h3)) (yV (eH rfl) (pW rfl (aV ?_))))))))|refine nZ ?_));all_goals first | (exfalso;omega) | exact rQ
theorem CE:∀ (l m:List Int),l.Nodup→(∀ x,x∈l→x∈m)→m.length≤l.length→l.Perm m
  | [],m,_,_,hl=>by
    have:m=[]:=fI.1 (by simpa using hl)
    subst this;exact List.Perm.refl _
  | x::l,m,hn,hs,hl=>by
    have hx:=hs x (by simp)
    have h2:=List.perm_cons_erase hx
    have h3:=CE l (m.erase x) (fT.1 hn).2 (fun y hy=>by
      have hyx:y≠x:=fun e=>(fT.1 hn).1 (e▸hy);exact (mJ hyx).2 (hs y (aJ _ hy))) (by
        rw [lS hx];simp only [List.length_cons] at hl
        omega)
    exact (List.Perm.cons x h3).trans h2.symm
theorem IC {n:Nat}{ps:List Int}(hl:ps.length=n) (h:∀ i:Nat,i<n→(i:Int)∈ps):jD ps=Go.Ab.nats (List.range n):=by
  have hnd:(Go.Ab.nats (List.range n)).Nodup:=List.Pairwise.map _ (fun a b hab e=>hab (by omega)) zX3
  have hsub:∀ x,x∈Go.Ab.nats (List.range n)→x∈ps:=fun x hx=>by
    obtain ⟨i,hi,rfl⟩:=bA.1 hx;exact h i (eU.1 hi)
  have hp:(Go.Ab.nats (List.range n)).Perm ps:=CE (Go.Ab.nats (List.range n)) ps hnd hsub (by simp [hl])
  exact Go.Pm.sorted_eq hp.symm (Go.Pm.range_le n)
theorem VN (n:Nat):JZ (Go.Ab.nats (List.range n)) n=true:=by
  refine DS fun i hi=>?_
  have hi':i<n:=by simpa using hi
  have e:∀ k,k<n→(Go.Ab.nats (List.range n)).getD k 0=(k:Int):=fun k hk=>by
    rw [aD];simp [hk]
  unfold Z3;rw [e i hi'];refine ⟨by omega,by omega,fun h0=>?_⟩
  rw [e (i-1) (by omega)];omega
theorem ID {ks:List KD}{ls:List LT}{ps:List Int}{bs:List BX}(t:vU ks ls ps bs) (h1:ks.length≤1000) (h2:ls.length≤1000) (h3:ps.length≤1000) :
    aT Tryz.prog 49 [.rowE (gE ks) 2,.rowE (iI ls) 3,.rowE (ints ps) 1,.rowE (cW bs) 3] [] (.b true) []:=by
  have e3:(ints ps).length=ps.length:=by simp
  have e4:(cW bs).length=bs.length:=by simp
  have hlen:=t.len;have v1:=BB ps;have v2:=LM ps (by omega)
  rw [IC (n:=ps.length) rfl t.p] at v2;have v3:=HJ (Go.Ab.nats (List.range ps.length)) ps.length (by simp;omega) (by omega)
  rw [VN] at v3;rw [show (ps.length:Int)=((cW bs).length:Int) by omega] at v3
  have c1:=yD2 (w:=ks) (F:=73) (caps:=[]) h1 rfl (fun x hx=>by
    obtain ⟨i,hi,rfl⟩:=oJ.1 hx
    exact YF _ (t.k i hi))
  have c2:=yD1 (w:=ls) (F:=75) (caps:=[.pr [.rowE (gE ks) 2] 0]) h2 rfl (fun x hx=>by
    obtain ⟨i,hi,rfl⟩:=oJ.1 hx
    exact YE ks _ (t.l i hi) h1)
  have c3:=yD5 (w:=bs) (F:=77) (caps:=[.pr [.rowE (iI ls) 3] 0]) (by omega) rfl (fun x hx=>by
    obtain ⟨i,hi,rfl⟩:=oJ.1 hx
    exact YG ls _ (t.b i hi) h2)
  generalize Go.Ab.nats (List.range ps.length)=sr at *;refine bU T Tryz.func49 rfl rfl rfl rfl ?_
  (repeat' (first|refine wS ?_|refine wK ?_|refine wU ?_|(refine rg 0 (cC (cO rfl rfl) rfl (cC (cO rfl rfl) rfl (aV ?_))))|(refine rg 1 (mW rfl (vV (kC (v1)) (vV (by exact fQ rfl rfl v2 rfl rfl rfl) ?_)));refine aV ?_)|(refine rg 2 (mW rfl (qW T rfl (mW rfl (qW T rfl (vV (AM rfl rfl (by omega)) (mW rfl (yN rfl (yN rfl (gT ?_)))))))));refine qW T rfl (yV (kC (v3)) (yV (eH rfl) (pV ?_))))|refine nZ ?_));all_goals try (exfalso;omega)
  (repeat' (first|refine wS ?_|refine wR ?_|(refine rg 4 (lW T rfl (vV (by exact fQ rfl rfl c1 rfl rfl rfl) ?_));refine aV ?_)|(refine rg 5 (dI rfl (yO T rfl (yV (by exact lG rfl rfl) ?_)));refine yV (by exact fM rfl rfl c2 (.cons (.row _ _ _) (.cons (.clo .nil (.cons (.ptr rfl (.cons (.row _ _ _) .nil)) .nil)) .nil)) rfl rfl) ?_;refine pW rfl (aV ?_))|(refine rg 6 (mW rfl (vV (eH rfl) (mW rfl (yN rfl (yV (by exact lG rfl rfl) ?_)))));refine yV (by exact fM rfl rfl c3 (.cons (.row _ _ _) (.cons (.clo .nil (.cons (.ptr rfl (.cons (.row _ _ _) .nil)) .nil)) .nil)) rfl rfl) ?_;refine yV (eH rfl) (pW rfl (aV ?_)))|refine nZ ?_));all_goals first | (exfalso;omega) | exact rQ
end Go.Proofs.YtmmmeebiobjnbaaGreat
namespace Go.Ab
open Go
section
variable {P:Program}{env:eE}{h:Hp}{d:Option Nat}{ty:TypeId}{pos:String}{af:Array Edge}{g:Option (Nat × Bool)}
theorem yX {t t2:TypeId}{x y:Operand}{a b:Int}(hx:evu env x=some (.i a)) (hy:evu env y=some (.i b)) (e:a≤b):cD P ⟨d,.binOp .leq t x y t2,ty,pos,af,g⟩ env h 0 (fun _=>.b true) (fun _=>[]):=by
  have:=iB (P:=P) (d:=d) (ty:=ty) (pos:=pos) (af:=af) (g:=g) (h:=h) (t:=t) (t2:=t2) hx hy;simpa [e] using this
theorem TX {t t2:TypeId}{x y:Operand}{a b:Int}(hx:evu env x=some (.i a)) (hy:evu env y=some (.i b)) (e:¬ a≤b):cD P ⟨d,.binOp .leq t x y t2,ty,pos,af,g⟩ env h 0 (fun _=>.b false) (fun _=>[]):=by
  have:=iB (P:=P) (d:=d) (ty:=ty) (pos:=pos) (af:=af) (g:=g) (h:=h) (t:=t) (t2:=t2) hx hy;simpa [e] using this
theorem zE7 {t t2:TypeId}{x y:Operand}{a b c a' b' c':Int}(ht:mT P t 3) (hx:evu env x=some (.agg [.i a,.i b,.i c])) (hy:evu env y=some (.agg [.i a',.i b',.i c'])) (e1:a=a') (e2:b=b') (e3:c=c') :
    cD P ⟨d,.binOp .neq t x y t2,ty,pos,af,g⟩ env h 0 (fun _=>.b false) (fun _=>[]):=by
  subst e1 e2 e3;have:cD P ⟨d,.binOp .neq t x y t2,ty,pos,af,g⟩ env h 0 (fun _=>.b (!decide ([a,b,c]=[a,b,c]))) (fun _=>[]):=yT ht hx hy rfl rfl;simpa using this
end
end Go.Ab
namespace Go.Proofs.YtmmmeebiobjnbaaGreat
open Go Go.Ab
attribute [local irreducible] VC AW cD aT
set_option maxHeartbeats 4000000
theorem J3 (l:List Int):AV.idfL (ints l).flatten=true:=by
  induction l with
  | nil=>rfl
  | cons x l ih=>exact ih
theorem K2 (l:List BX):AV.idfL (cW l).flatten=true:=by
  induction l with
  | nil=>rfl
  | cons x l ih=>exact ih
end Go.Proofs.YtmmmeebiobjnbaaGreat
namespace Go.Proofs.YtmmmeebiobjnbaaGreat
open Go Go.Ab
section
variable {P:Program}{env:eE}{h:Hp}{d:Option Nat}{ty:TypeId}{pos:String}{af:Array Edge}{g:Option (Nat × Bool)}
theorem AO {t t2:TypeId}{x y:Operand}{a b:Int}(hx:evu env x=some (.i a)) (hy:evu env y=some (.i b)) (e:b<a):cD P ⟨d,.binOp .gtr t x y t2,ty,pos,af,g⟩ env h 0 (fun _=>.b true) (fun _=>[]):=by
  have:=fA (P:=P) (d:=d) (ty:=ty) (pos:=pos) (af:=af) (g:=g) (h:=h) (t:=t) (t2:=t2) hx hy;simpa [show decide (a > b)=true from decide_eq_true (by omega)] using this
theorem AP {t t2:TypeId}{x y:Operand}{a b:Int}(hx:evu env x=some (.i a)) (hy:evu env y=some (.i b)) (e:a≤b):cD P ⟨d,.binOp .gtr t x y t2,ty,pos,af,g⟩ env h 0 (fun _=>.b false) (fun _=>[]):=by
  have:=fA (P:=P) (d:=d) (ty:=ty) (pos:=pos) (af:=af) (g:=g) (h:=h) (t:=t) (t2:=t2) hx hy;simpa [show decide (a > b)=false from decide_eq_false (by omega)] using this
theorem AN {t t2:TypeId}{x y:Operand}{a b:Int}(hx:evu env x=some (.i a)) (hy:evu env y=some (.i b)) (e:a<b):cD P ⟨d,.binOp .lss t x y t2,ty,pos,af,g⟩ env h 0 (fun _=>.b true) (fun _=>[]):=by
  have:=aL (P:=P) (d:=d) (ty:=ty) (pos:=pos) (af:=af) (g:=g) (h:=h) (t:=t) (t2:=t2) hx hy;simpa [show decide (a<b)=true from decide_eq_true (by omega)] using this
theorem TW {t t2:TypeId}{x y:Operand}{a b:Int}(hx:evu env x=some (.i a)) (hy:evu env y=some (.i b)) (e:b≤a):cD P ⟨d,.binOp .lss t x y t2,ty,pos,af,g⟩ env h 0 (fun _=>.b false) (fun _=>[]):=by
  have:=aL (P:=P) (d:=d) (ty:=ty) (pos:=pos) (af:=af) (g:=g) (h:=h) (t:=t) (t2:=t2) hx hy;simpa [show decide (a<b)=false from decide_eq_false (by omega)] using this
end
end Go.Proofs.YtmmmeebiobjnbaaGreat
namespace Go.Proofs.YtmmmeebiobjnbaaGreat
open Go Go.Ab Go.Ld
attribute [local irreducible] VC AW cD aT
set_option maxHeartbeats 4000000
theorem GJ (x:Int):aT Tryz.prog 132 [.i x] [] (.b false) []:=by
  refine bU T Tryz.func132 rfl rfl rfl rfl ?_
  (repeat' (first|refine wS ?_|refine wR ?_|(refine rg 0 (aV ?_))|(refine rg 1 (dI rfl (vV (gB rfl rfl) (aV ?_))))|refine nZ ?_));all_goals first | (exfalso;omega) | exact dJ (.inl rfl) rfl (nM (by simp))
theorem HE (x y:Int):aT Tryz.prog 96 [.i x,.i y] [] (.i (cI x y)) []:=by
  by_cases h1:x<y
  · rw [show cI x y = -1 by unfold cI;rw [if_pos h1]]
    refine bU T Tryz.func96 rfl rfl rfl rfl ?_
    (repeat' (first|refine wS ?_|refine wK ?_|refine wR ?_|refine wU ?_|(refine wC rfl ?_ ?_<;>(intro hb;(try simp only [nm] at hb);try (exfalso;omega)))|(refine rg 0 (aV ?_))|(refine rg 1 (mW rfl (vV (kC (GJ x)) (aV ?_))))|(refine rg 2 (mW rfl (vV (kC (GJ y)) (aV ?_))))|(refine rg 3 (mV ?_))|(refine rg 7 (mV ?_))|(refine rg 9 (dI rfl (vV (aL rfl rfl) ?_)))|(refine rg 10 (aV ?_))|refine nZ ?_));all_goals first | (exfalso;omega) | exact rQ
  · by_cases h2:y<x
    · rw [show cI x y=1 by unfold cI;rw [if_neg h1,if_pos h2]]
      refine bU T Tryz.func96 rfl rfl rfl rfl ?_
      (repeat' (first|refine wS ?_|refine wK ?_|refine wR ?_|refine wU ?_|(refine wC rfl ?_ ?_<;>(intro hb;(try simp only [nm] at hb);try (exfalso;omega)))|(refine rg 0 (aV ?_))|(refine rg 1 (mW rfl (vV (kC (GJ x)) (aV ?_))))|(refine rg 2 (mW rfl (vV (kC (GJ y)) (aV ?_))))|(refine rg 3 (mV ?_))|(refine rg 7 (mV ?_))|(refine rg 9 (dI rfl (vV (aL rfl rfl) ?_)))|(refine rg 11 (dI rfl (vV (fA rfl rfl) ?_)))|(refine rg 12 (aV ?_))|refine nZ ?_));all_goals first | (exfalso;omega) | exact rQ
    · rw [show cI x y=0 by unfold cI;rw [if_neg h1,if_neg h2]]
      refine bU T Tryz.func96 rfl rfl rfl rfl ?_
      (repeat' (first|refine wS ?_|refine wK ?_|refine wR ?_|refine wU ?_|(refine wC rfl ?_ ?_<;>(intro hb;(try simp only [nm] at hb);try (exfalso;omega)))|(refine rg 0 (aV ?_))|(refine rg 1 (mW rfl (vV (kC (GJ x)) (aV ?_))))|(refine rg 2 (mW rfl (vV (kC (GJ y)) (aV ?_))))|(refine rg 3 (mV ?_))|(refine rg 7 (mV ?_))|(refine rg 9 (dI rfl (vV (aL rfl rfl) ?_)))|(refine rg 11 (dI rfl (vV (fA rfl rfl) ?_)))|(refine rg 13 (aV ?_))|refine nZ ?_));all_goals first | (exfalso;omega) | exact rQ
theorem yI9 (x y:Int):aT Tryz.prog 94 [.rowE (ints [x,y]) 1] [] (.i (W6 x y)) []:=by
  have hlen:(ints [x,y]).length=2:=rfl;refine bU T Tryz.func94 rfl rfl rfl rfl ?_
  (repeat' (first|refine wS ?_|refine wB ?_|(refine rg 0 (aV ?_))|(refine rg 1 (aV ?_))|(refine rg 2 (mW rfl (qW T rfl (mV ?_))))|refine nZ ?_));refine dA (X:={k:Nat // k≤2∧(1≤k→x=0)∧(2≤k→y=0)}) (fun k=>[(0,.rowE (ints [x,y]) 1),(3,.i 0),(6,.rowE (ints [x,y]) 1),(7,.i (ints [x,y]).length),(8,.i k.1)]) (fun _=>[]) (fun k=>2-k.1) ⟨0,by omega,by omega,by omega⟩ (gH []) ?_
  rintro ⟨k,hk,h1,h2⟩;dsimp only;by_cases hlt:k<2
  · have hg:∃ z,(ints [x,y])[k]? = some [AV.i z]∧(k=0→z=x)∧(k=1→z=y):=by
      rcases (by omega:k=0∨k=1) with rfl | rfl
      · exact ⟨x,rfl,fun _=>rfl,by omega⟩
      · exact ⟨y,rfl,by omega,fun _=>rfl⟩
    obtain ⟨z,hg,hz1,hz2⟩:=hg;by_cases h0:z=0
    · (repeat' (first|refine wS ?_|refine wB ?_|refine wK ?_|(refine wC rfl (fun hb=>?_) (fun hb=>?_) <;> (((try simp only [nm] at hb);try (exfalso;omega))))|(refine rg 3 (vV (aL rfl rfl) ?_))|(refine rg 4 (vV (ix T rfl (by omega) (dR [x,y]) hg) (lW T rfl (aV ?_))))|(refine rg 5 (dI rfl (vV (gB rfl rfl) ?_)))|(refine rg 7 (vV (cE rfl rfl (by omega) (by omega)) (mV ?_)))|(refine nZ ?_)));all_goals first | (exfalso;omega) | exact ⟨⟨k+1,by omega,by omega,by omega⟩,by dsimp only;omega,gH []⟩
    · (repeat' (first|refine wS ?_|refine wB ?_|refine wK ?_|refine wR ?_|(refine wC rfl (fun hb=>?_) (fun hb=>?_) <;> (((try simp only [nm] at hb);try (exfalso;omega))))|(refine rg 3 (vV (aL rfl rfl) ?_))|(refine rg 4 (vV (ix T rfl (by omega) (dR [x,y]) hg) (lW T rfl (aV ?_))))|(refine rg 5 (dI rfl (vV (gB rfl rfl) ?_)))|(refine rg 6 (mW rfl (aV ?_)))|(refine nZ ?_)));all_goals first | (exfalso;omega) | exact dJ (.inl rfl) rfl (by rw [show W6 x y=z by unfold W6;split <;> omega];rfl)
  · (repeat' (first|refine wS ?_|refine wR ?_|refine wE ?_|(refine wC rfl (fun hb=>?_) (fun hb=>?_) <;> (((try simp only [nm] at hb);try (exfalso;omega))))|(refine rg 3 (vV (aL rfl rfl) ?_))|(refine rg 8 (mW rfl (aV ?_)))|(refine nZ ?_)));all_goals first | (exfalso;omega) | exact dJ (.inl rfl) rfl (by rw [show W6 x y=0 by unfold W6;split <;> omega];rfl)
theorem yL2 {a b:List Int}{k:Nat}(h1:k<a.length) (h2:k<b.length):cL (a.drop k) (b.drop k)=W6 (cI a[k] b[k]) (cL (a.drop (k+1)) (b.drop (k+1))):=by
  rw [aY h1,aY h2];rfl
theorem zW2 {a b:List Int}{k:Nat}(h1:k<a.length) (h2:k=b.length):cL (a.drop k) (b.drop k)=1:=by
  rw [aY h1,dC (l:=b) (by omega)];rfl
theorem zW1 {a b:List Int}{k:Nat}(h1:k=a.length) (h2:k<b.length):cL (a.drop k) (b.drop k) = -1:=by
  rw [dC (l:=a) (by omega),aY h2];rfl
theorem zW0 {a b:List Int}{k:Nat}(h1:k=a.length) (h2:k=b.length):cL (a.drop k) (b.drop k)=0:=by
  rw [dC (l:=a) (by omega),dC (l:=b) (by omega)];rfl
theorem zA6 (b:Int):W6 0 b=b:=rfl
theorem QC {a b:Int}(h:¬ a=0):W6 a b=a:=by unfold W6;rw [if_neg h]
theorem XF (a b:List Int) (ha:a.length≤9223372036854775807) (hb:b.length≤9223372036854775807):aT Tryz.prog 129 [.rowE (ints a) 1,.rowE (ints b) 1] [] (.i (cL a b)) []:=by
  have hla:(ints a).length=a.length:=by simp
  have hlb:(ints b).length=b.length:=by simp
  refine bU T Tryz.func129 rfl rfl rfl rfl ?_
  (repeat' (first|refine wS ?_|refine wB ?_|(refine rg 0 (aV ?_))|(refine rg 1 (mW rfl (qW T rfl (mV ?_))))|refine nZ ?_));refine dA (X:={k:Nat // k≤a.length∧k≤b.length∧cL a b=cL (a.drop k) (b.drop k)}) (fun k=>[(0,.rowE (ints a) 1),(1,.rowE (ints b) 1),(9,.rowE (ints a) 1),(10,.i (ints a).length),(11,.i k.1)]) (fun _=>[]) (fun k=>a.length-k.1) ⟨0,by omega,by omega,rfl⟩ (gH []) ?_
  rintro ⟨k,hk,hkb,he⟩;dsimp only;by_cases h1:k<a.length
  · have g1:=mE h1;by_cases h2:k<b.length
    · have g2:=mE h2;have e1:=yL2 h1 h2;have hc:=HE a[k] b[k];generalize a[k]=x at *;generalize b[k]=y at *;by_cases h0:cI x y=0
      · rw [h0] at hc e1;rw [zA6] at e1
        (repeat' (first|refine wS ?_|refine wB ?_|refine wK ?_|refine wU ?_|(refine wC rfl ?_ ?_<;>(intro hb;(try simp only [nm] at hb);try (exfalso;omega)))|(refine rg 2 (vV (aL rfl rfl) ?_))|(refine rg 3 (mW rfl (vV (ix T rfl (by omega) (dR a) g1) (lW T rfl (sG ?_)))))|(refine rg 4 (dI rfl (qW T rfl (vV (iC rfl rfl) ?_))))|(refine rg 6 (dI rfl (vV (ix T rfl (by omega) (dR b) g2) (lW T rfl (aV ?_)))))|(refine rg 7 (dI rfl (vV (kC (hc)) (aV ?_))))|(refine rg 8 (mW rfl (vV (gB rfl rfl) ?_)))|(refine rg 10 (vV (cE rfl rfl (by omega) (by omega)) (mV ?_)))|refine nZ ?_));all_goals first | (exfalso;omega) | exact ⟨⟨k+1,by omega,by omega,he.trans e1⟩,by dsimp only;omega,gH []⟩
      · rw [QC h0] at e1;generalize cI x y=q at *
        (repeat' (first|refine wS ?_|refine wB ?_|refine wK ?_|refine wR ?_|(refine wC rfl ?_ ?_<;>(intro hb;(try simp only [nm] at hb);try (exfalso;omega)))|(refine rg 2 (vV (aL rfl rfl) ?_))|(refine rg 3 (mW rfl (vV (ix T rfl (by omega) (dR a) g1) (lW T rfl (sG ?_)))))|(refine rg 4 (dI rfl (qW T rfl (vV (iC rfl rfl) ?_))))|(refine rg 6 (dI rfl (vV (ix T rfl (by omega) (dR b) g2) (lW T rfl (aV ?_)))))|(refine rg 7 (dI rfl (vV (kC (hc)) (aV ?_))))|(refine rg 8 (mW rfl (vV (gB rfl rfl) ?_)))|(refine rg 9 (mW rfl (aV ?_)))|refine nZ ?_));all_goals first | (exfalso;omega) | exact dJ (.inl rfl) rfl (by rw [he,e1];rfl)
    · have e1:=zW2 h1 (show k=b.length by omega)
      (repeat' (first|refine wS ?_|refine wB ?_|refine wK ?_|refine wR ?_|(refine wC rfl ?_ ?_<;>(intro hb;(try simp only [nm] at hb);try (exfalso;omega)))|(refine rg 2 (vV (aL rfl rfl) ?_))|(refine rg 3 (mW rfl (vV (ix T rfl (by omega) (dR a) g1) (lW T rfl (sG ?_)))))|(refine rg 4 (dI rfl (qW T rfl (vV (iC rfl rfl) ?_))))|(refine rg 5 (aV ?_))|refine nZ ?_));all_goals first | (exfalso;omega) | exact dJ (.inl rfl) rfl (by rw [he,e1];rfl)
  · by_cases h2:k<b.length
    · have e1:=zW1 (show k=a.length by omega) h2
      (repeat' (first|refine wS ?_|refine wR ?_|refine wE ?_|(refine wC rfl ?_ ?_<;>(intro hb;(try simp only [nm] at hb);try (exfalso;omega)))|(refine rg 2 (vV (aL rfl rfl) ?_))|(refine rg 11 (mW rfl (qW T rfl (mW rfl (qW T rfl (vV (aL rfl rfl) ?_))))))|(refine rg 12 (aV ?_))|refine nZ ?_));all_goals first | (exfalso;omega) | exact dJ (.inl rfl) rfl (by rw [he,e1];rfl)
    · have e1:=zW0 (show k=a.length by omega) (show k=b.length by omega)
      (repeat' (first|refine wS ?_|refine wK ?_|refine wR ?_|refine wE ?_|(refine wC rfl ?_ ?_<;>(intro hb;(try simp only [nm] at hb);try (exfalso;omega)))|(refine rg 2 (vV (aL rfl rfl) ?_))|(refine rg 11 (mW rfl (qW T rfl (mW rfl (qW T rfl (vV (aL rfl rfl) ?_))))))|(refine rg 13 (aV ?_))|refine nZ ?_));all_goals first | (exfalso;omega) | exact dJ (.inl rfl) rfl (by rw [he,e1];rfl)
theorem lU (l:List SP):∀ e,e∈fY l→e.length=2:=by intro e he;obtain ⟨n,_,rfl⟩:=bA.1 he;rfl
theorem FJ {l:List SP}{k:Nat}(h:k<l.length):(fY l)[k]? = some [AV.i l[k].1,AV.i l[k].2]:=by simp [h]
theorem zA5 (x y:SP):aT Tryz.prog 131 [nH x.1 x.2,nH y.1 y.2] [] (.i (cS x y)) []:=by
  have h1:=HE x.1 y.1;have h2:=HE x.2 y.2;have h3:=yI9 (cI x.1 y.1) (cI x.2 y.2);refine bU T Tryz.func131 rfl rfl rfl rfl ?_
  (repeat' (first|refine wS ?_|refine wR ?_|(refine rg 0 (cC (cO rfl rfl) rfl (cC (cO rfl rfl) rfl (aV ?_))))|(refine bV (id:=1) 17 [[],[0],[],[2],rN 4,[],[5],[],[7],rN 9,rN 10,rN 11] (rM 5 12) [[],[],[5,6],[5,6],[],rM 5 5,rM 5 5,rM 5 7,rM 5 7,[],[],[]] cK rfl (by decide +kernel) (dP T rfl (dO T rfl (dP T rfl (dO T rfl (dV rfl (kC (h1)) (dP T rfl (dO T rfl (dP T rfl (dL T ?_)))))))));refine dV rfl (kC (h2)) (xO rfl rfl rfl (by exact bE T rfl rfl (by decide) (by decide) rfl rfl rfl) rfl ?_);refine dV rfl (by exact fM rfl rfl (h3) (by ((repeat (first|exact .nil|exact .v _|refine .cons ?_ ?_|refine .sl rfl (by simp) ?_));done)) rfl rfl) ?_;(all_goals (refine dE ?_;refine aV ?_)))|refine nZ ?_));all_goals first | (exfalso;omega) | exact rQ
theorem yL3 {a b:List SP}{k:Nat}(h1:k<a.length) (h2:k<b.length):cB (a.drop k) (b.drop k)=W6 (cS a[k] b[k]) (cB (a.drop (k+1)) (b.drop (k+1))):=by
  rw [aY h1,aY h2];rfl
theorem zW5 {a b:List SP}{k:Nat}(h1:k<a.length) (h2:k=b.length):cB (a.drop k) (b.drop k)=1:=by
  rw [aY h1,dC (l:=b) (by omega)];rfl
theorem zW4 {a b:List SP}{k:Nat}(h1:k=a.length) (h2:k<b.length):cB (a.drop k) (b.drop k) = -1:=by
  rw [dC (l:=a) (by omega),aY h2];rfl
theorem zW3 {a b:List SP}{k:Nat}(h1:k=a.length) (h2:k=b.length):cB (a.drop k) (b.drop k)=0:=by
  rw [dC (l:=a) (by omega),dC (l:=b) (by omega)];rfl
abbrev yJ2:AV:=.clo (.func 131) [] []
theorem QY (a b:List SP) (ha:a.length≤9223372036854775807) (hb:b.length≤9223372036854775807):aT Tryz.prog 130 [.rowE (fY a) 2,.rowE (fY b) 2,yJ2] [] (.i (cB a b)) []:=by
  have hla:(fY a).length=a.length:=by simp
  have hlb:(fY b).length=b.length:=by simp
  refine bU T Tryz.func130 rfl rfl rfl rfl ?_
  (repeat' (first|refine wS ?_|refine wB ?_|(refine rg 0 (aV ?_))|(refine rg 1 (mW rfl (qW T rfl (mV ?_))))|refine nZ ?_));refine dA (X:={k:Nat // k≤a.length∧k≤b.length∧cB a b=cB (a.drop k) (b.drop k)}) (fun k=>[(0,.rowE (fY a) 2),(1,.rowE (fY b) 2),(2,yJ2),(11,.rowE (fY a) 2),(12,.i (fY a).length),(13,.i k.1)]) (fun _=>[]) (fun k=>a.length-k.1) ⟨0,by omega,by omega,rfl⟩ (gH []) ?_
  rintro ⟨k,hk,hkb,he⟩;dsimp only;by_cases h1:k<a.length
  · have g1:=FJ h1;by_cases h2:k<b.length
    · have g2:=FJ h2;have e1:=yL3 h1 h2;have hc:=zA5 a[k] b[k];generalize a[k]=x at *;generalize b[k]=y at *;by_cases h0:cS x y=0
      · rw [h0] at hc e1;rw [zA6] at e1
        (repeat' (first|refine wS ?_|refine wB ?_|refine wK ?_|refine wU ?_|(refine wC rfl ?_ ?_<;>(intro hb;(try simp only [nm] at hb);try (exfalso;omega)))|(refine rg 2 (vV (aL rfl rfl) ?_))|(refine rg 3 (mW rfl (vV (ix T rfl (by omega) (lU a) g1) (lW T rfl (cC (cM T rfl) rfl (aW rfl (bD T rfl rfl rfl rfl rfl rfl (by decide) rfl ?_)))))))|(refine rg 4 (dI rfl (qW T rfl (vV (iC rfl rfl) ?_))))|(refine rg 6 (dI rfl (vV (ix T rfl (by omega) (lU b) g2) (lW T rfl (cC (cM T rfl) rfl (bD T rfl rfl rfl rfl rfl rfl (by decide) rfl ?_))))))|(refine rg 7 (mW rfl (lW T rfl (lW T rfl (vV (kC (hc)) (aV ?_))))))|(refine rg 8 (mW rfl (vV (gB rfl rfl) ?_)))|(refine rg 10 (vV (cE rfl rfl (by omega) (by omega)) (mV ?_)))|refine nZ ?_));all_goals first | (exfalso;omega) | exact ⟨⟨k+1,by omega,by omega,he.trans e1⟩,by dsimp only;omega,gH []⟩
      · rw [QC h0] at e1;generalize cS x y=q at *
        (repeat' (first|refine wS ?_|refine wB ?_|refine wK ?_|refine wR ?_|(refine wC rfl ?_ ?_<;>(intro hb;(try simp only [nm] at hb);try (exfalso;omega)))|(refine rg 2 (vV (aL rfl rfl) ?_))|(refine rg 3 (mW rfl (vV (ix T rfl (by omega) (lU a) g1) (lW T rfl (cC (cM T rfl) rfl (aW rfl (bD T rfl rfl rfl rfl rfl rfl (by decide) rfl ?_)))))))|(refine rg 4 (dI rfl (qW T rfl (vV (iC rfl rfl) ?_))))|(refine rg 6 (dI rfl (vV (ix T rfl (by omega) (lU b) g2) (lW T rfl (cC (cM T rfl) rfl (bD T rfl rfl rfl rfl rfl rfl (by decide) rfl ?_))))))|(refine rg 7 (mW rfl (lW T rfl (lW T rfl (vV (kC (hc)) (aV ?_))))))|(refine rg 8 (mW rfl (vV (gB rfl rfl) ?_)))|(refine rg 9 (mW rfl (aV ?_)))|refine nZ ?_));all_goals first | (exfalso;omega) | exact dJ (.inl rfl) rfl (by rw [he,e1];rfl)
    · have e1:=zW5 h1 (show k=b.length by omega)
      (repeat' (first|refine wS ?_|refine wB ?_|refine wK ?_|refine wR ?_|(refine wC rfl ?_ ?_<;>(intro hb;(try simp only [nm] at hb);try (exfalso;omega)))|(refine rg 2 (vV (aL rfl rfl) ?_))|(refine rg 3 (mW rfl (vV (ix T rfl (by omega) (lU a) g1) (lW T rfl (cC (cM T rfl) rfl (aW rfl (bD T rfl rfl rfl rfl rfl rfl (by decide) rfl ?_)))))))|(refine rg 4 (dI rfl (qW T rfl (vV (iC rfl rfl) ?_))))|(refine rg 5 (aV ?_))|refine nZ ?_));all_goals first | (exfalso;omega) | exact dJ (.inl rfl) rfl (by rw [he,e1];rfl)
  · by_cases h2:k<b.length
    · have e1:=zW4 (show k=a.length by omega) h2
      (repeat' (first|refine wS ?_|refine wR ?_|refine wE ?_|(refine wC rfl ?_ ?_<;>(intro hb;(try simp only [nm] at hb);try (exfalso;omega)))|(refine rg 2 (vV (aL rfl rfl) ?_))|(refine rg 11 (mW rfl (qW T rfl (mW rfl (qW T rfl (vV (aL rfl rfl) ?_))))))|(refine rg 12 (aV ?_))|refine nZ ?_));all_goals first | (exfalso;omega) | exact dJ (.inl rfl) rfl (by rw [he,e1];rfl)
    · have e1:=zW3 (show k=a.length by omega) (show k=b.length by omega)
      (repeat' (first|refine wS ?_|refine wK ?_|refine wR ?_|refine wE ?_|(refine wC rfl ?_ ?_<;>(intro hb;(try simp only [nm] at hb);try (exfalso;omega)))|(refine rg 2 (vV (aL rfl rfl) ?_))|(refine rg 11 (mW rfl (qW T rfl (mW rfl (qW T rfl (vV (aL rfl rfl) ?_))))))|(refine rg 13 (aV ?_))|refine nZ ?_));all_goals first | (exfalso;omega) | exact dJ (.inl rfl) rfl (by rw [he,e1];rfl)
abbrev OZ (w:W):AV:=.agg (wA w)
def Q3 (w:W):Prop:=w.1.length≤1000000∧w.2.2.length≤1000000
theorem TA (a b:W) (ha:Q3 a) (hb:Q3 b):aT Tryz.prog 95 [OZ a,OZ b] [] (.i (pH a b)) []:=by
  obtain ⟨p,m,c⟩:=a;obtain ⟨p',m',c'⟩:=b;unfold Q3 at ha hb;dsimp only at ha hb;have h1:=XF p p' (by omega) (by omega)
  have h2:=QY c c' (by omega) (by omega)
  have e:pH (p,m,c) (p',m',c')=W6 (cL p p') (cB c c'):=rfl;rw [e];generalize cL p p'=x at *;generalize cB c c'=y at *;by_cases h0:x=0
  · subst h0;rw [zA6];refine bU T Tryz.func95 rfl rfl rfl rfl ?_
    (repeat' (first|refine wS ?_|refine wK ?_|refine wR ?_|refine wU ?_|(refine rg 0 (cC (cO rfl rfl) rfl (cC (cO rfl rfl) rfl (aV ?_))))|(refine rg 1 (gI T rfl (gI T rfl (vV (kC (h1)) (aV ?_)))))|(refine rg 2 (mW rfl (vV (gB rfl rfl) ?_)))|(refine rg 4 (gI T rfl (gI T rfl (vV (kC (h2)) (aV ?_)))))|refine nZ ?_));all_goals first | (exfalso;omega) | exact rQ
  · rw [QC h0];refine bU T Tryz.func95 rfl rfl rfl rfl ?_
    (repeat' (first|refine wS ?_|refine wR ?_|(refine wC rfl ?_ ?_<;>(intro hb;(try simp only [nm] at hb);try (exfalso;omega)))|(refine rg 0 (cC (cO rfl rfl) rfl (cC (cO rfl rfl) rfl (aV ?_))))|(refine rg 1 (gI T rfl (gI T rfl (vV (kC (h1)) (aV ?_)))))|(refine rg 2 (mW rfl (vV (gB rfl rfl) ?_)))|(refine rg 3 (mW rfl (aV ?_)))|refine nZ ?_));all_goals first | (exfalso;omega) | exact rQ
theorem yE (a b:W) (ha:Q3 a) (hb:Q3 b):aT Tryz.prog 93 [OZ a,OZ b] [] (.i (eR a b)) []:=by
  have h1:=TA a b ha hb;have h2:=HE a.2.1 b.2.1;have h3:=yI9 (pH a b) (cI a.2.1 b.2.1);refine bU T Tryz.func93 rfl rfl rfl rfl ?_
  (repeat' (first|refine wS ?_|refine wR ?_|(refine rg 0 (cC (cO rfl rfl) rfl (cC (cO rfl rfl) rfl (aV ?_))))|(refine bV (id:=1) 15 [[],[],[0,1],[],[3],[],[5],rN 7,rN 8,rN 9] (rM 5 10) [[],[5],[],[5,6,7],[5,6,7],rM 5 5,rM 5 5,[],[],[]] cK rfl (by decide +kernel) (dO T rfl (dO T rfl (dV rfl (kC (h1)) (dP T rfl (dO T rfl (dP T rfl (dO T rfl (dV rfl (kC (h2)) (xO rfl rfl rfl (by exact bE T rfl rfl (by decide) (by decide) rfl rfl rfl) rfl ?_)))))))));refine dV rfl (by exact fM rfl rfl (h3) (by ((repeat (first|exact .nil|exact .v _|refine .cons ?_ ?_|refine .sl rfl (by simp) ?_));done)) rfl rfl) ?_;(all_goals (refine dE ?_;refine aV ?_)))|refine nZ ?_));all_goals first | (exfalso;omega) | exact rQ
theorem CK (a b:W) (ha:Q3 a) (hb:Q3 b):aT Tryz.prog 98 [OZ a,OZ b] [] (.b (H9 a b)) []:=by
  have h1:=TA a b ha hb;refine bU T Tryz.func98 rfl rfl rfl rfl ?_
  (repeat' (first|refine wS ?_|refine wR ?_|(refine rg 0 (cC (cO rfl rfl) rfl (cC (cO rfl rfl) rfl (aV ?_))))|(refine rg 1 (lW T rfl (lW T rfl (vV (kC (h1)) (vV (eD rfl rfl) (aV ?_))))))|refine nZ ?_));all_goals first | (exfalso;omega) | exact rQ
end Go.Proofs.YtmmmeebiobjnbaaGreat
namespace Go.Ld
open Go.Ab Go.Proofs.YtmmmeebiobjnbaaGreat
theorem pZ (l:List W):∀ e,e∈gM l→e.length=3:=by intro e he;obtain ⟨n,_,rfl⟩:=bA.1 he;rfl
theorem fR (l:List W):(gM l).length=l.length:=aX _
theorem qI {L:List W}{j:Int}{i:Nat}{x:W}(h:L[i]? = some x) (e:j=i):(gM L)[0+j.toNat]? = some (wA x):=by
  subst e;simp [h]
theorem xY {L:List W}{j:Int}{i:Nat}{x:W}(e:j=i):(gM L).set (0+j.toNat) (wA x)=gM (L.set i x):=by
  subst e;simp [gM,oK]
theorem oC {α:Type}(A B:List α) (x:α){n:Nat}(h:n=A.length):(A++x::B)[n]? = some x:=by subst h;simp
theorem oM {α:Type}(A B:List α) (x y:α){n:Nat}(h:n=A.length):(A++x::B).set n y=A++y::B:=by subst h;simp
abbrev Up (l:List W):Prop:=l.Pairwise (fun a b=>eR a b≤0)
theorem AD {l:List W}(h:Up l):eJ eR l=l:=(J0 jU (.refl _) h).symm
theorem L6 {l m:List W}(hp:m.Perm l) (h:Up m):eJ eR l=m:=(J0 jU hp h).symm
theorem G0 {a b:W}(h:eR a b<0):eR a b≤0:=by omega
theorem PH {S1 S2:List W}{x:W}(h:Up (S1++S2)) (h1:∀ y,y∈S1→eR y x≤0) (h2:∀ y,y∈S2→eR x y≤0):Up (S1++x::S2):=by
  obtain ⟨a,b,c⟩:=eX.1 h;refine eX.2 ⟨a,fB.2 ⟨h2,b⟩,fun p hp q hq=>?_⟩
  rcases bN.1 hq with rfl | hq
  · exact h1 p hp
  · exact c p hp q hq
theorem yA2 {A B:List W}(h1:Up A) (h2:Up B) (h3:∀ a b,a∈A→b∈B→eR a b≤0):Up (A++B):=eX.2 ⟨h1,h2,fun a ha b hb=>h3 a b ha hb⟩
theorem SG {A:List W}{y:W}(h:Up (A++[y])):∀ z,z∈A++[y]→eR z y≤0:=by
  intro z hz;obtain ⟨a,b,c⟩:=eX.1 h;rcases bL.1 hz with hz | hz
  · exact c z hz y (by simp)
  · rw [bC.1 hz,jU.rfl'];exact dX _
theorem zM6 {B:List W}{y:W}(h:Up (y::B)):∀ z,z∈y::B→eR y z≤0:=by
  intro z hz;rcases bN.1 hz with rfl | hz
  · rw [jU.rfl'];exact dX _
  · exact (fB.1 h).1 z hz
theorem yM1 {a b:W}(h:¬ eR a b<0):eR b a≤0:=by have:=jU.neg a b;omega
def XU (l:List W) (a b:Nat):List W:=l.take a++(eJ eR ((l.drop a).take (b-a))++l.drop b)
theorem jI {l:List W}:(eJ eR l).length=l.length:=(dU eR l).length_eq
theorem YV {l:List W}{a:Nat}(h:a≤l.length):XU l a a=l:=by unfold XU;simp [eJ]
theorem zN9 {l:List W}{a:Nat}(h:a<l.length):XU l a (a+1)=l:=by
  unfold XU;rw [show a+1-a=1 by omega,aY h]
  simp only [pB,jM,eJ,EM];rw [List.singleton_append,← aY h,bS]
structure zZ7 (l:List W) (a i:Nat) (x:W) (q:List W × List W):Prop where
  eq:q.1++q.2=eJ eR ((l.drop a).take (i-a))
  gt:∀ y,y∈q.2→eR x y<0
def xK (l:List W) (a i:Nat) (x:W) (q:List W × List W):List W:=(l.take a++q.1)++x::(q.2++l.drop (i+1))
theorem WM {l:List W}{a i:Nat}{x:W}(h1:a<i) (h2:i<l.length) (hx:l[i]? = some x):zZ7 l a i x (eJ eR ((l.drop a).take (i-a)),[])∧XU l a i=xK l a i x (eJ eR ((l.drop a).take (i-a)),[]):=by
  refine ⟨⟨by simp,fun y hy=>by cases hy⟩,?_⟩
  unfold XU xK;have:l.drop i=x::l.drop (i+1):=by
    rw [aA h2] at hx;rw [aY h2];cases hx;rfl
  simp [this]
theorem TN {l:List W}{a i:Nat}{x:W}{q:List W × List W}(h:zZ7 l a i x q) (h1:a<i) (h2:i<l.length):q.1.length+q.2.length=i-a:=by
  have:=congrArg List.length h.eq;simp only [aF,jI,bH,dQ] at this;omega
theorem zD3 {l:List W}{a i:Nat}{x:W}{q:List W × List W}(h:zZ7 l a i x q) (h1:a<i) (h2:i<l.length):(xK l a i x q).length=l.length:=by
  have:=TN h h1 h2;unfold xK;simp only [aF,List.length_cons,bH,dQ];omega
theorem zD0 {l:List W}{a i:Nat}{x:W}{q:List W × List W}(h:zZ7 l a i x q) (h1:a<i) (h2:i<l.length) (hx:l[i]? = some x) (hs:∀ y,y∈q.1→eR y x≤0):xK l a i x q=XU l a (i+1):=by
  unfold xK XU;have e:(l.drop a).take (i+1-a)=(l.drop a).take (i-a)++[x]:=by
    rw [show i+1-a=(i-a)+1 by omega,zL2]
    rw [eF,show a+(i-a)=i by omega,hx];rfl
  rw [e];have hp:(q.1++x::q.2).Perm ((l.drop a).take (i-a)++[x]):=by
    refine List.perm_middle.trans ?_;rw [h.eq];exact ((dU eR _).cons x).trans (P8 _ _).symm
  have hu:Up (q.1++x::q.2):=PH (by rw [h.eq];exact mB jU _) hs (fun y hy=>G0 (h.gt y hy))
  rw [L6 hp hu];simp
theorem zS4 {l:List W}{a i:Nat}{x y:W}{S:List W}{q:List W × List W}(h:zZ7 l a i x q) (e:q.1=S++[y]) (hc:¬ eR x y<0):∀ z,z∈q.1→eR z x≤0:=by
  have hu:Up (q.1++q.2):=by rw [h.eq];exact mB jU _
  have hu1:Up q.1:=(eX.1 hu).1;rw [e] at hu1;intro z hz;rw [e] at hz;exact jU.le_tr (SG hu1 z hz) (yM1 hc)
theorem zD1 {l:List W}{a i:Nat}{x y:W}{S:List W}{q:List W × List W}(h:zZ7 l a i x q) (e:q.1=S++[y]) (hc:eR x y<0):zZ7 l a i x (S,y::q.2):=by
  refine ⟨?_,fun z hz=>?_⟩
  · rw [← h.eq,e];simp
  · rcases bN.1 hz with rfl | hz
    · exact hc
    · exact h.gt z hz
end Go.Ld
namespace Go.Proofs.YtmmmeebiobjnbaaGreat
open Go Go.Ab Go.Ld
attribute [local irreducible] VC AW cD aT
set_option maxHeartbeats 4000000
theorem zZ8 (l:List W):(gM l).flatten.all AV.one=true:=by
  induction l with
  | nil=>rfl
  | cons x l ih=>simp only [List.map_cons,eQ,List.all_append,ih];rfl
theorem bX (l:List W):∀ e,e∈gM l→AV.idfL e=true:=by
  intro e he;obtain ⟨x,_,rfl⟩:=bA.1 he;rfl
theorem lY:∀ i:Nat,i<1→([0]:List Nat)[i]? = some i:=by decide
abbrev tA:AV:=.clo (.func 93) [] []
theorem NB (l:List W) (a b:Nat) (hab:a≤b) (hb:b≤l.length) (hl:l.length≤100000) (hw:∀ w,w∈l→Q3 w) :
    aT Tryz.prog 147 [.sl 0 0 l.length 3,.i a,.i b,tA] [.arr (gM l) 3] (.tup []) [.arr (gM (XU l a b)) 3]:=by
  rcases jO a b with hlt | hge
  · refine bU T Tryz.func147 rfl rfl rfl rfl ?_
    (repeat' (first|refine wS ?_|refine wB ?_|(refine iA 0 rfl rfl rfl (by omega) (by omega) ?_)|refine nZ ?_));refine dA (X:={i:Nat // a+1≤i∧i≤b}) (fun i=>[(0,.sl 0 0 l.length 3),(1,.i a),(2,.i b),(3,tA),(8,.i i.1)]) (fun i=>[.arr (gM (XU l a i.1)) 3]) (fun i=>b-i.1) ⟨a+1,by omega,by omega⟩ ⟨[0],rfl,by (repeat (first | exact trivial | refine ⟨rfl,?_⟩)),⟨.inr (aC rfl (by dsimp only;rw [zN9 (by omega)]) (bX _)),trivial⟩,by decide,lY⟩ ?_
    rintro ⟨i,h1,h2⟩;dsimp only;by_cases hi:i<b
    · (repeat' (first|refine wS ?_|refine wB ?_|refine wK ?_|(refine wC rfl (fun hb=>?_) (fun hb=>?_) <;> (((try simp only [nm] at hb);try (exfalso;omega))))|(refine rg 1 (dI rfl (vV (aL rfl rfl) ?_)))|(refine rg 3 (mW rfl (aV ?_)))|(refine nZ ?_)));all_goals try (exfalso;omega)
      have hil:i<l.length:=by omega
      obtain ⟨x,hx⟩:∃ x,l[i]? = some x:=⟨_,aA hil⟩;obtain ⟨s1,s2⟩:=WM (a:=a) (by omega) hil hx
      refine dA (X:={q:List W × List W // zZ7 l a i x q}) (fun q=>[(0,.sl 0 0 l.length 3),(1,.i a),(2,.i b),(3,tA),(8,.i i),(9,.i ((a+q.1.1.length:Nat):Int))]) (fun q=>[.arr (gM (xK l a i x q.1)) 3]) (fun q=>q.1.1.length) ⟨_,s1⟩ ⟨[0],rfl,⟨rfl,rfl,rfl,rfl,rfl,by dsimp only;rw [jI,bH,dQ,show a+min (i-a) (l.length-a)=i by omega];rfl,trivial⟩,⟨.inr (aC rfl (by dsimp only;rw [s2]) (bX _)),trivial⟩,by decide,lY⟩ ?_
      rintro ⟨⟨S1,S2⟩,hq⟩;dsimp only;have hln:=TN hq (by omega) hil
      dsimp only at hln;have hwx:Q3 x:=hw x (aO hx);have hal:(l.take a).length=a:=by rw [bH];omega
      rcases List.eq_nil_or_concat S1 with rfl | ⟨S,y,rfl⟩
      · have ee:=zD0 hq (by omega) hil hx (fun y hy=>by cases hy)
        have hJ:((a+([]:List W).length:Nat):Int)=a:=by simp
        generalize ((a+([]:List W).length:Nat):Int)=J at *;generalize xK l a i x ([],S2)=L at *
        (repeat' (first|refine wS ?_|refine wE ?_|refine wU ?_|(refine bV (id:=4) 53 yT8 (rM 18 17) yT9 cK rfl (by decide +kernel) (dN rfl (dN rfl (dV rfl (AP rfl rfl (by omega)) (dN rfl (tG rfl (tG rfl (tG rfl (tG rfl (dG ?_)))))))));refine tG rfl (tG rfl (tG rfl (tG rfl (tG rfl (tG rfl (tG rfl (dV rfl (gJ rfl rfl) (dE ?_)))))))))|(refine iA 2 rfl rfl rfl (by omega) (by omega) ?_)|refine nZ ?_));all_goals first | (exfalso;omega) | exact ⟨⟨i+1,by omega,by omega⟩,by dsimp only;omega,⟨[0],rfl,by (repeat (first | exact trivial | refine ⟨rfl,?_⟩)),⟨.inr (aC rfl (by dsimp only;rw [ee]) (bX _)),trivial⟩,by decide,lY⟩⟩
      · rw [List.concat_eq_append] at *;have hy:y∈l:=by
          have h3:y∈eJ eR ((l.drop a).take (i-a)):=by rw [← hq.eq];simp
          exact eA (dS ((dU _ _).mem_iff.1 h3))
        have hc:=yE x y hwx (hw y hy);have hL:xK l a i x (S++[y],S2)=(l.take a++S)++y::x::(S2++l.drop (i+1)):=by unfold xK;simp
        have hJ:((a+(S++[y]).length:Nat):Int)=((a+S.length+1:Nat):Int):=by simp;omega
        have hAl:a+S.length=(l.take a++S).length:=by rw [aF,hal]
        have hlen:=zD3 hq (by omega) hil
        by_cases h0:eR x y<0
        · have ee:=zD1 hq rfl h0;have q1:=qI (L:=xK l a i x (S++[y],S2)) (j:=((a+(S++[y]).length:Nat):Int)) (i:=a+S.length+1) (x:=x) (by rw [hL,show (l.take a++S)++y::x::(S2++l.drop (i+1))=((l.take a++S)++[y])++x::(S2++l.drop (i+1)) by simp];exact oC _ _ _ (by simp;omega)) hJ
          have q2:=qI (L:=xK l a i x (S++[y],S2)) (j:=((a+(S++[y]).length:Nat):Int)-1) (i:=a+S.length) (x:=y) (by rw [hL];exact oC _ _ _ hAl) (by omega)
          have t1:=xY (L:=xK l a i x (S++[y],S2)) (j:=((a+(S++[y]).length:Nat):Int)) (i:=a+S.length+1) (x:=y) hJ;have e1:(xK l a i x (S++[y],S2)).set (a+S.length+1) y=(l.take a++S)++y::y::(S2++l.drop (i+1)):=by
            rw [hL,show (l.take a++S)++y::x::(S2++l.drop (i+1))=((l.take a++S)++[y])++x::(S2++l.drop (i+1)) by simp,oM _ _ _ _ (by simp;omega)];simp
          rw [e1] at t1;have q3:=qI (L:=(l.take a++S)++y::y::(S2++l.drop (i+1))) (j:=((a+(S++[y]).length:Nat):Int)-1) (i:=a+S.length) (x:=y) (oC _ _ _ hAl) (by omega)
          have t2:=xY (L:=(l.take a++S)++y::y::(S2++l.drop (i+1))) (j:=((a+(S++[y]).length:Nat):Int)-1) (i:=a+S.length) (x:=x) (by omega)
          rw [oM _ _ _ _ hAl,show (l.take a++S)++x::y::(S2++l.drop (i+1))=xK l a i x (S,y::S2) by unfold xK;simp,← t1] at t2
          rw [← t1] at q3;have hJ2:((a+(S++[y]).length:Nat):Int)-1=((a+S.length:Nat):Int):=by omega
          have hJ3:((a+(S++[y]).length:Nat):Int)<l.length:=by omega
          have hJ4:(a:Int)<((a+(S++[y]).length:Nat):Int):=by omega
          clear hJ hL;generalize ((a+(S++[y]).length:Nat):Int)=J at *;generalize eR x y=z at *;generalize xK l a i x (S++[y],S2)=L at *
          (repeat' (first|refine wS ?_|refine wB ?_|refine wK ?_|(refine wC rfl ?_ ?_<;>(intro hb;(try simp only [nm] at hb);try (exfalso;omega)))|(refine bV (id:=4) 53 yT8 (rM 18 17) yT9 cK rfl (by decide +kernel) (dN rfl (dN rfl (dV rfl (fA rfl rfl) (dM ?_))));refine lL rfl rfl rfl rfl ?_ ?_<;>(intro hb;rw [hb];(try simp only [nm] at hb);try (exfalso;omega))<;>(refine tM ?_);(all_goals (refine tN rfl (tN rfl (dT rfl (by exact aI T rfl rfl rfl rfl rfl (by omega) (by omega)) ?_));refine dT rfl (by exact aK T rfl rfl (bF rfl q1) rfl) ?_;refine tN rfl (tN rfl (dT rfl (cT rfl rfl (by omega) (by omega)) (dT rfl (by exact aI T rfl rfl rfl rfl rfl (by omega) (by omega)) ?_)));refine dT rfl (by exact aK T rfl rfl (bF rfl q2) rfl) ?_;refine dT rfl (kC (hc)) (dT rfl (aL rfl rfl) (dV rfl (gG rfl rfl) (dE ?_))))))|(refine nQ (id:=6) 53 yU0 (rM 37 15) yU1 [(15,0)] cK rfl (by decide +kernel) (cP rfl rfl rfl rfl (by exact bR rfl) ?_);refine cP rfl rfl rfl rfl (by exact bR rfl) ?_;refine cP rfl rfl rfl rfl (by exact bR rfl) ?_;refine cP rfl rfl rfl rfl (by exact bR rfl) ?_;refine cP rfl rfl rfl rfl (by exact cT rfl rfl (by omega) (by omega)) ?_;refine cP rfl rfl rfl rfl (by exact bR rfl) ?_;refine cP rfl rfl rfl rfl (by exact bR rfl) ?_;refine cP rfl rfl rfl rfl (by exact cT rfl rfl (by omega) (by omega)) ?_;refine cP rfl rfl rfl rfl (by exact aI T rfl rfl rfl rfl rfl (by omega) (by omega)) ?_;refine cP rfl rfl rfl rfl (by exact aK T rfl rfl (bF rfl q2) rfl) ?_;refine cP rfl rfl rfl rfl (by exact bR rfl) ?_;refine cP rfl rfl rfl rfl (by exact bR rfl) ?_;refine cP rfl rfl rfl rfl (by exact aI T rfl rfl rfl rfl rfl (by omega) (by omega)) ?_;refine cP rfl rfl rfl rfl (by exact aK T rfl rfl (bF rfl q1) rfl) ?_;refine cP rfl rfl rfl rfl (by exact aI T rfl rfl rfl rfl rfl (by omega) (by omega)) ?_;refine wL rfl rfl rfl rfl (aH rfl) T rfl rfl rfl rfl rfl rfl (by decide) (vE rfl q1 rfl) ?_;refine sO rfl rfl rfl (by exact rfl) ?_;refine vV (by exact aI T rfl rfl rfl rfl rfl (by omega) (by omega)) ?_;refine bD T rfl rfl rfl rfl rfl rfl (by decide) (lR rfl q3 rfl) ?_)|(refine rg 5 (mW rfl (vV (cT rfl rfl (by omega) (by omega)) (aV ?_))))|refine nZ ?_));all_goals first | (exfalso;omega) | exact ⟨⟨_,ee⟩,by dsimp only;simp,⟨[0],rfl,⟨rfl,rfl,rfl,rfl,rfl,by dsimp only;rw [← hJ2];try rfl,trivial⟩,⟨.inr (aC rfl (by dsimp only;rw [← t2];try rfl) (bX _)),trivial⟩,by decide,lY⟩⟩
        · have ee:=zD0 hq (by omega) hil hx (zS4 hq rfl h0)
          have q1:=qI (L:=xK l a i x (S++[y],S2)) (j:=((a+(S++[y]).length:Nat):Int)) (i:=a+S.length+1) (x:=x) (by rw [hL,show (l.take a++S)++y::x::(S2++l.drop (i+1))=((l.take a++S)++[y])++x::(S2++l.drop (i+1)) by simp];exact oC _ _ _ (by simp;omega)) hJ
          have q2:=qI (L:=xK l a i x (S++[y],S2)) (j:=((a+(S++[y]).length:Nat):Int)-1) (i:=a+S.length) (x:=y) (by rw [hL];exact oC _ _ _ hAl) (by omega)
          have hJ3:((a+(S++[y]).length:Nat):Int)<l.length:=by omega
          have hJ4:(a:Int)<((a+(S++[y]).length:Nat):Int):=by omega
          clear hJ hL;generalize ((a+(S++[y]).length:Nat):Int)=J at *;generalize eR x y=z at *;generalize xK l a i x (S++[y],S2)=L at *
          (repeat' (first|refine wS ?_|refine wE ?_|(refine wC rfl ?_ ?_<;>(intro hb;(try simp only [nm] at hb);try (exfalso;omega)))|(refine bV (id:=4) 53 yT8 (rM 18 17) yT9 cK rfl (by decide +kernel) (dN rfl (dN rfl (dV rfl (fA rfl rfl) (dM ?_))));refine lL rfl rfl rfl rfl ?_ ?_<;>(intro hb;rw [hb];(try simp only [nm] at hb);try (exfalso;omega))<;>(refine tM ?_);(all_goals (refine tN rfl (tN rfl (dT rfl (by exact aI T rfl rfl rfl rfl rfl (by omega) (by omega)) ?_));refine dT rfl (by exact aK T rfl rfl (bF rfl q1) rfl) ?_;refine tN rfl (tN rfl (dT rfl (cT rfl rfl (by omega) (by omega)) (dT rfl (by exact aI T rfl rfl rfl rfl rfl (by omega) (by omega)) ?_)));refine dT rfl (by exact aK T rfl rfl (bF rfl q2) rfl) ?_;refine dT rfl (kC (hc)) (dT rfl (aL rfl rfl) (dV rfl (gG rfl rfl) (dE ?_))))))|(refine iA 2 rfl rfl rfl (by omega) (by omega) ?_)|refine nZ ?_));all_goals first | (exfalso;omega) | exact ⟨⟨i+1,by omega,by omega⟩,by dsimp only;omega,⟨[0],rfl,by (repeat (first | exact trivial | refine ⟨rfl,?_⟩)),⟨.inr (aC rfl (by dsimp only;rw [ee]) (bX _)),trivial⟩,by decide,lY⟩⟩
    · obtain rfl:i=b:=by omega
      (repeat' (first|refine wS ?_|refine wE ?_|(refine wC rfl ?_ ?_<;>(intro hb;(try simp only [nm] at hb);try (exfalso;omega)))|(refine rg 1 (dI rfl (vV (aL rfl rfl) ?_)))|refine nZ ?_));all_goals first | (exfalso;omega) | exact ⟨.inl rfl,[0],_,rfl,rfl,rfl,⟨.inr (aC rfl rfl (bX _)),trivial⟩,by decide,lY⟩ | exact ⟨.inr rfl,[0],_,rfl,rfl,rfl,⟨.inr (aC rfl rfl (bX _)),trivial⟩,by decide,lY⟩
  · obtain rfl:a=b:=by omega
    rw [YV hb];refine bU T Tryz.func147 rfl rfl rfl rfl ?_
    (repeat' (first|refine wS ?_|refine wB ?_|(refine iA 0 rfl rfl rfl (by omega) (by omega) ?_)|refine nZ ?_));refine dA (X:=Unit) (fun _=>[(0,.sl 0 0 l.length 3),(1,.i a),(2,.i a),(3,tA),(8,.i ((a:Int)+1))]) (fun _=>[.arr (gM l) 3]) (fun _=>0) () ⟨[0],rfl,by (repeat (first | exact trivial | refine ⟨rfl,?_⟩)),⟨.inr (aC rfl rfl (bX _)),trivial⟩,by decide,lY⟩ ?_
    intro _;dsimp only
    (repeat' (first|refine wS ?_|refine wE ?_|(refine wC rfl ?_ ?_<;>(intro hb;(try simp only [nm] at hb);try (exfalso;omega)))|(refine rg 1 (dI rfl (vV (aL rfl rfl) ?_)))|refine nZ ?_));all_goals first | (exfalso;omega) | exact ⟨.inl rfl,[0],_,rfl,rfl,rfl,⟨.inr (aC rfl rfl (bX _)),trivial⟩,by decide,lY⟩ | exact ⟨.inr rfl,[0],_,rfl,rfl,rfl,⟨.inr (aC rfl rfl (bX _)),trivial⟩,by decide,lY⟩
end Go.Proofs.YtmmmeebiobjnbaaGreat
namespace Go.Ld
open Go.Ab Go.Proofs.YtmmmeebiobjnbaaGreat
def LH (P X Q Y R:List W) (k:Nat):List W:=P++((Y.take k++X.drop k)++(Q++((X.take k++Y.drop k)++R)))
theorem yI1 (P X Q Y R:List W):LH P X Q Y R 0=P++(X++(Q++(Y++R))):=by simp [LH]
theorem yI0 {P X Q Y R:List W}{n:Nat}(h1:X.length=n) (h2:Y.length=n):LH P X Q Y R n=P++(Y++(Q++(X++R))):=by
  unfold LH;rw [bO (by omega),bO (by omega),dC (by omega),dC (by omega)];simp
theorem yM9 {X1 X2:List W}{x:W}{k:Nat}(h:X1.length=k):(X1++x::X2).take k=X1∧(X1++x::X2).drop k=x::X2∧(X1++x::X2).take (k+1)=X1++[x]∧(X1++x::X2).drop (k+1)=X2:=by
  subst h;refine ⟨xR,xT,?_,?_⟩
  · rw [show X1++x::X2=(X1++[x])++X2 by simp,show X1.length+1=(X1++[x]).length by simp,xR]
  · rw [show X1++x::X2=(X1++[x])++X2 by simp,show X1.length+1=(X1++[x]).length by simp,xT]
theorem PL {X:List W}{k:Nat}(h:k<X.length):∃ X1 x X2,X=X1++x::X2∧X1.length=k:=⟨X.take k,X[k],X.drop (k+1),by simp,by simp;omega⟩
theorem YN {P X Q Y R:List W}{n k:Nat}(h1:X.length=n) (h2:Y.length=n) (hk:k<n):∃ x y,x∈X∧y∈Y∧(LH P X Q Y R k)[P.length+k]? = some x∧(LH P X Q Y R k)[P.length+n+Q.length+k]? = some y ∧
    ((LH P X Q Y R k).set (P.length+k) y)[P.length+n+Q.length+k]? = some y∧((LH P X Q Y R k).set (P.length+k) y).set (P.length+n+Q.length+k) x=LH P X Q Y R (k+1):=by
  obtain ⟨X1,x,X2,rfl,hx⟩:=PL (show k<X.length by omega)
  obtain ⟨Y1,y,Y2,rfl,hy⟩:=PL (show k<Y.length by omega)
  obtain ⟨a1,a2,a3,a4⟩:=yM9 (x:=x) (X2:=X2) hx;obtain ⟨b1,b2,b3,b4⟩:=yM9 (x:=y) (X2:=Y2) hy;simp only [aF,List.length_cons] at h1 h2;have e:LH P (X1++x::X2) Q (Y1++y::Y2) R k=(P++Y1)++x::(X2++(Q++(X1++y::(Y2++R)))):=by
    unfold LH;rw [a1,a2,b1,b2];simp
  have e1:(LH P (X1++x::X2) Q (Y1++y::Y2) R k).set (P.length+k) y=((P++Y1)++y::(X2++(Q++X1)))++y::(Y2++R):=by
    rw [e,oM _ _ _ _ (by simp;omega)];simp
  have l1:P.length+n+Q.length+k=((P++Y1)++y::(X2++(Q++X1))).length:=by
    simp only [aF,List.length_cons];omega
  refine ⟨x,y,by simp,by simp,?_,?_,?_,?_⟩
  · rw [e];exact oC _ _ _ (by simp;omega)
  · rw [e,show (P++Y1)++x::(X2++(Q++(X1++y::(Y2++R))))=((P++Y1)++x::(X2++(Q++X1)))++y::(Y2++R) by simp]
    exact oC _ _ _ (by simp only [aF,List.length_cons];omega)
  · rw [e1];exact oC _ _ _ l1
  · rw [e1,oM _ _ _ _ l1];unfold LH;rw [a3,a4,b3,b4];simp
end Go.Ld
namespace Go.Proofs.YtmmmeebiobjnbaaGreat
open Go Go.Ab Go.Ld
attribute [local irreducible] VC AW cD aT
set_option maxHeartbeats 4000000
theorem HZ (P X Q Y R:List W){n a b N:Nat}(h1:X.length=n) (h2:Y.length=n) (ha:a=P.length) (hb:b=P.length+n+Q.length) (hN:N=P.length+(n+(Q.length+(n+R.length)))) (hl:N≤100000) :
    aT Tryz.prog 162 [.sl 0 0 N 3,.i a,.i b,.i n,tA] [.arr (gM (P++(X++(Q++(Y++R))))) 3] (.tup []) [.arr (gM (P++(Y++(Q++(X++R))))) 3]:=by
  refine bU T Tryz.func162 rfl rfl rfl rfl ?_
  (repeat' (first|refine wS ?_|refine wB ?_|(refine rg 0 (aV ?_))|refine nZ ?_));refine dA (X:={k:Nat // k≤n}) (fun k=>[(0,.sl 0 0 N 3),(1,.i a),(2,.i b),(3,.i n),(4,tA),(10,.i k.1)]) (fun k=>[.arr (gM (LH P X Q Y R k.1)) 3]) (fun k=>n-k.1) ⟨0,by omega⟩ ⟨[0],rfl,by (repeat (first | exact trivial | refine ⟨rfl,?_⟩)),⟨.inr (aC rfl (by dsimp only;rw [yI1]) (bX _)),trivial⟩,by decide,lY⟩ ?_
  rintro ⟨k,hk⟩;dsimp only;by_cases hlt:k<n
  · obtain ⟨x,y,_,_,p1,p2,p3,p4⟩:=YN (P:=P) (Q:=Q) (R:=R) h1 h2 hlt;have q1:=qI (j:=(a:Int)+(k:Int)) p1 (by omega)
    have q2:=qI (j:=(b:Int)+(k:Int)) p2 (by omega)
    have t1:=xY (L:=LH P X Q Y R k) (j:=(a:Int)+(k:Int)) (i:=P.length+k) (x:=y) (by omega)
    have q3:=qI (j:=(b:Int)+(k:Int)) p3 (by omega)
    have t2:=xY (L:=(LH P X Q Y R k).set (P.length+k) y) (j:=(b:Int)+(k:Int)) (i:=P.length+n+Q.length+k) (x:=x) (by omega)
    rw [← t1] at q3 t2;rw [p4] at t2;clear p1 p2 p3 p4 t1;generalize LH P X Q Y R k=L at *
    (repeat' (first|refine wS ?_|refine wB ?_|refine wK ?_|(refine wC rfl ?_ ?_<;>(intro hb;(try simp only [nm] at hb);try (exfalso;omega)))|(refine rg 1 (dI rfl (vV (aL rfl rfl) ?_)))|(refine nQ (id:=3) 38 [[],[],[],[1,2],[],[],[],[5,6],[],[],[],[9,10],rM 8 4,rM 8 5,[],[],[],[15,16],rM 14 4,rM 14 5,[0,1,2,3,8,9,10,11,12,13,14,15,16,17,18,19],[0,1,2,3,8,9,10,11,12,13,14,15,16,17,18,19,20]] (rM 16 21) [[],[16],[16,17],[16],rM 16 4,rM 16 5,rM 16 6,rM 16 5,rM 16 8,rM 16 9,rM 16 10,rM 16 9,rM 16 8,rM 16 8,rM 16 14,rM 16 15,rM 16 16,rM 16 15,rM 16 14,rM 16 14,rM 20 4,rM 20 4] [(21,0)] cK rfl (by decide +kernel) (cP rfl rfl rfl rfl (by exact bR rfl) ?_);refine cP rfl rfl rfl rfl (by exact bR rfl) ?_;refine cP rfl rfl rfl rfl (by exact bR rfl) ?_;refine cP rfl rfl rfl rfl (by exact cE rfl rfl (by omega) (by omega)) ?_;refine cP rfl rfl rfl rfl (by exact bR rfl) ?_;refine cP rfl rfl rfl rfl (by exact bR rfl) ?_;refine cP rfl rfl rfl rfl (by exact bR rfl) ?_;refine cP rfl rfl rfl rfl (by exact cE rfl rfl (by omega) (by omega)) ?_;refine cP rfl rfl rfl rfl (by exact bR rfl) ?_;refine cP rfl rfl rfl rfl (by exact bR rfl) ?_;refine cP rfl rfl rfl rfl (by exact bR rfl) ?_;refine cP rfl rfl rfl rfl (by exact cE rfl rfl (by omega) (by omega)) ?_;refine cP rfl rfl rfl rfl (by exact aI T rfl rfl rfl rfl rfl (by omega) (by omega)) ?_;refine cP rfl rfl rfl rfl (by exact aK T rfl rfl (bF rfl q2) rfl) ?_;refine cP rfl rfl rfl rfl (by exact bR rfl) ?_;refine cP rfl rfl rfl rfl (by exact bR rfl) ?_;refine cP rfl rfl rfl rfl (by exact bR rfl) ?_;refine cP rfl rfl rfl rfl (by exact cE rfl rfl (by omega) (by omega)) ?_;refine cP rfl rfl rfl rfl (by exact aI T rfl rfl rfl rfl rfl (by omega) (by omega)) ?_;refine cP rfl rfl rfl rfl (by exact aK T rfl rfl (bF rfl q1) rfl) ?_;refine cP rfl rfl rfl rfl (by exact aI T rfl rfl rfl rfl rfl (by omega) (by omega)) ?_;refine wL rfl rfl rfl rfl (aH rfl) T rfl rfl rfl rfl rfl rfl (by decide) (vE rfl q1 rfl) ?_;refine sO rfl rfl rfl (by exact rfl) ?_;refine vV (by exact aI T rfl rfl rfl rfl rfl (by omega) (by omega)) ?_;refine bD T rfl rfl rfl rfl rfl rfl (by decide) (lR rfl q3 rfl) ?_)|(refine iA 2 rfl rfl rfl (by omega) (by omega) ?_)|refine nZ ?_));all_goals first | (exfalso;omega) | exact ⟨⟨k+1,by omega⟩,by dsimp only;omega,⟨[0],rfl,by (repeat (first | exact trivial | refine ⟨rfl,?_⟩)),⟨.inr (aC rfl (by dsimp only;rw [← t2];try rfl) (bX _)),trivial⟩,by decide,lY⟩⟩
  · obtain rfl:k=n:=by omega
    have e:=yI0 (P:=P) (Q:=Q) (R:=R) h1 h2
    (repeat' (first|refine wS ?_|refine wE ?_|(refine wC rfl ?_ ?_<;>(intro hb;(try simp only [nm] at hb);try (exfalso;omega)))|(refine rg 1 (dI rfl (vV (aL rfl rfl) ?_)))|refine nZ ?_));all_goals first | (exfalso;omega) | exact ⟨.inl rfl,[0],_,rfl,rfl,rfl,⟨.inr (aC rfl (by rw [e]) (bX _)),trivial⟩,by decide,lY⟩ | exact ⟨.inr rfl,[0],_,rfl,rfl,rfl,⟨.inr (aC rfl (by rw [e]) (bX _)),trivial⟩,by decide,lY⟩
theorem ZI (P X Y R:List W){a m b N:Nat}(ha:a=P.length) (hm:m=P.length+X.length) (hb:b=P.length+X.length+Y.length) (hN:N=b+R.length) (hl:N≤100000) (hX:0<X.length) (hY:0<Y.length) :
    aT Tryz.prog 158 [.sl 0 0 N 3,.i a,.i m,.i b,tA] [.arr (gM (P++(X++(Y++R)))) 3] (.tup []) [.arr (gM (P++(Y++(X++R)))) 3]:=by
  refine bU T Tryz.func158 rfl rfl rfl rfl ?_
  (repeat' (first|refine wS ?_|refine wB ?_|(refine rg 0 (dI rfl (vV (cT rfl rfl (by omega) (by omega)) (aV ?_))))|(refine rg 1 (dI rfl (vV (cT rfl rfl (by omega) (by omega)) (aV ?_))))|refine nZ ?_));refine dA (X:={q:List W × List W × List W × List W // q.1++(q.2.2.1++(q.2.1++q.2.2.2))=P++(Y++(X++R))∧q.1.length+q.2.1.length=m∧m+q.2.2.1.length+q.2.2.2.length=N∧0<q.2.1.length∧0<q.2.2.1.length})
    (fun q=>[(0,.sl 0 0 N 3),(1,.i a),(2,.i m),(3,.i b),(4,tA),(10,.i q.1.2.1.length),(11,.i q.1.2.2.1.length)]) (fun q=>[.arr (gM (q.1.1++(q.1.2.1++(q.1.2.2.1++q.1.2.2.2)))) 3]) (fun q=>q.1.2.1.length+q.1.2.2.1.length) ⟨(P,X,Y,R),by dsimp only;exact ⟨rfl,by omega,by omega,hX,hY⟩⟩
    ⟨[0],rfl,⟨rfl,rfl,rfl,rfl,rfl,by dsimp only;rw [show (X.length:Int)=(m:Int)-(a:Int) by omega];rfl,by dsimp only;rw [show (Y.length:Int)=(b:Int)-(m:Int) by omega];rfl,trivial⟩,⟨.inr (aC rfl rfl (bX _)),trivial⟩,by decide,lY⟩ ?_
  rintro ⟨⟨P1,X1,Y1,R1⟩,h1,h2,h3,h4,h5⟩;dsimp only at h1 h2 h3 h4 h5 ⊢;have hsb:((P1.length:Nat):Int)=(m:Int)-(X1.length:Int):=by omega
  by_cases hij:X1.length=Y1.length
  · have hc:=HZ P1 X1 [] Y1 R1 (n:=X1.length) (a:=P1.length) (b:=m) (N:=N) rfl hij.symm rfl (by simp;omega) (by simp;omega) hl
    rw [List.nil_append,List.nil_append,hsb,h1] at hc
    (repeat' (first|refine wS ?_|refine wE ?_|refine wU ?_|(refine rg 2 (dI rfl (vV (AM rfl rfl (by omega)) ?_)))|(refine rg 8 (dI rfl (mW rfl (vV (cT rfl rfl (by omega) (by omega)) (dI rfl (mW rfl (eC [0] rfl rfl (hc) rfl rfl (by decide) ⟨.inr (aC rfl rfl (bX _)),trivial⟩ (by simp) rfl ?_)))))))|refine nZ ?_));all_goals first | (exfalso;omega) | exact ⟨.inl rfl,[0],_,rfl,rfl,rfl,⟨.inr (aC rfl (bB _ (bX _)) (bX _)),trivial⟩,by decide,lY⟩ | exact ⟨.inr rfl,[0],_,rfl,rfl,rfl,⟨.inr (aC rfl (bB _ (bX _)) (bX _)),trivial⟩,by decide,lY⟩
  · by_cases hgt:Y1.length<X1.length
    · -- a part of the left side goes to the end
      obtain ⟨A,B,rfl,hA⟩:∃ A B,X1=A++B∧A.length=Y1.length:=⟨X1.take Y1.length,X1.drop Y1.length,by simp,by simp;omega⟩
      rw [aF] at *;have hc:=HZ P1 A B Y1 R1 (n:=Y1.length) (a:=P1.length) (b:=m) (N:=N) hA rfl rfl (by omega) (by omega) hl
      rw [hsb] at hc;rw [bZ]
      (repeat' (first|refine wS ?_|refine wB ?_|refine wK ?_|refine wT ?_|(refine rg 2 (dI rfl (vV (N3 rfl rfl (by omega)) ?_)))|(refine rg 3 (dI rfl (vV (AO rfl rfl (by omega)) ?_)))|(refine rg 4 (dI rfl (mW rfl (vV (cT rfl rfl (by omega) (by omega)) (dI rfl (mW rfl (eC [0] rfl rfl (hc) rfl rfl (by decide) ⟨.inr (aC rfl rfl (bX _)),trivial⟩ (by simp) rfl ?_)))))))|(refine rg 5 (dI rfl (vV (cT rfl rfl (by omega) (by omega)) (aV ?_))))|refine nZ ?_));all_goals first | (exfalso;omega) | skip
      refine ⟨⟨(P1++Y1,B,A,R1),by dsimp only;refine ⟨by rw [← h1];simp,?_,?_,?_,?_⟩ <;> (try simp only [aF]) <;> omega⟩,by dsimp only;omega,⟨[0],rfl,⟨rfl,rfl,rfl,rfl,rfl,by dsimp only;rw [show (B.length:Int)=((A.length+B.length:Nat):Int)-(Y1.length:Int) by omega];rfl,by dsimp only;rw [hA];rfl,trivial⟩,⟨.inr (aC rfl (by rw [bB _ (bX _)];simp) (bX _)),trivial⟩,by decide,lY⟩⟩
    · -- a part of the right side goes to the front
      obtain ⟨A,B,rfl,hA⟩:∃ A B,Y1=A++B∧B.length=X1.length:=⟨Y1.take (Y1.length-X1.length),Y1.drop (Y1.length-X1.length),by simp,by simp;omega⟩
      rw [aF] at *;have hc:=HZ P1 X1 A B R1 (n:=X1.length) (a:=P1.length) (b:=m+A.length) (N:=N) rfl hA rfl (by omega) (by omega) hl
      rw [hsb,show ((m+A.length:Nat):Int)=(m:Int)+((A.length+B.length:Nat):Int)-(X1.length:Int) by omega] at hc
      rw [bZ]
      (repeat' (first|refine wS ?_|refine wB ?_|refine wK ?_|refine wT ?_|refine wU ?_|(refine rg 2 (dI rfl (vV (N3 rfl rfl (by omega)) ?_)))|(refine rg 3 (dI rfl (vV (AP rfl rfl (by omega)) ?_)))|(refine rg 6 (dI rfl (mW rfl (vV (cT rfl rfl (by omega) (by omega)) (dI rfl (vV (cE rfl rfl (by omega) (by omega)) (mW rfl (vV (cT rfl rfl (by omega) (by omega)) (dI rfl (eC [0] rfl rfl (hc) rfl rfl (by decide) ⟨.inr (aC rfl rfl (bX _)),trivial⟩ (by simp) rfl ?_))))))))))|(refine rg 7 (dI rfl (vV (cT rfl rfl (by omega) (by omega)) (aV ?_))))|refine nZ ?_));all_goals first | (exfalso;omega) | skip
      refine ⟨⟨(P1,B,A,X1++R1),by dsimp only;refine ⟨by rw [← h1];simp,?_,?_,?_,?_⟩ <;> (try simp only [aF]) <;> omega⟩,by dsimp only;omega,⟨[0],rfl,⟨rfl,rfl,rfl,rfl,rfl,by dsimp only;rw [hA];rfl,by dsimp only;rw [show (A.length:Int)=((A.length+B.length:Nat):Int)-(X1.length:Int) by omega];rfl,trivial⟩,⟨.inr (aC rfl (by rw [bB _ (bX _)]) (bX _)),trivial⟩,by decide,lY⟩⟩
end Go.Proofs.YtmmmeebiobjnbaaGreat
namespace Go.Ld
open Go.Ab Go.Proofs.YtmmmeebiobjnbaaGreat
theorem VB {V:List W}{i:Nat}{z:W}(h0:0<i) (h:V[i-1]? = some z):V.take i=V.take (i-1)++[z]:=by
  conv=>lhs;rw [show i=(i-1)+1 by omega]
  rw [zL2,h];rfl
theorem zV1 {V:List W}{i:Nat}{z:W}(h:V[i]? = some z):V.drop i=z::V.drop (i+1):=by
  obtain ⟨hi,e⟩:=aB.1 h;rw [aY hi,e]
theorem SF {V:List W}{i:Nat}(hu:Up V){x y z:W}(h0:0<i) (h:V[i-1]? = some z) (hy:y∈V.take i) (hz:eR z x≤0):eR y x≤0:=by
  have h1:Up (V.take i):=hu.sublist (List.take_sublist _ _);rw [VB h0 h] at h1 hy;exact jU.le_tr (SG h1 y hy) hz
theorem SH {V:List W}{i:Nat}(hu:Up V){x y z:W}(h:V[i]? = some z) (hy:y∈V.drop i) (hz:eR x z≤0):eR x y≤0:=by
  have h1:Up (V.drop i):=hu.sublist (List.drop_sublist _ _);rw [zV1 h] at h1 hy;exact jU.le_tr hz (zM6 h1 y hy)
theorem tU {V:List W}{i:Nat}{y:W}(h:y∈V.take i) (hi:i≤V.length):0<i∧∃ z,V[i-1]? = some z:=by
  have:0<i:=by
    rcases P7 i with rfl | h0
    · simp at h
    · exact h0
  exact ⟨this,_,aA (by omega)⟩
theorem vM {V:List W}{i:Nat}{y:W}(h:y∈V.drop i):∃ z,V[i]? = some z:=by
  have:i<V.length:=by
    rcases jO i V.length with h0 | h0
    · exact h0
    · rw [dC h0] at h;cases h
  exact ⟨_,aA this⟩
theorem yC5 {u:W}{V:List W}{i:Nat}(hi:i≤V.length) (hu:Up V) (h1:∀ z,0<i→V[i-1]? = some z→eR z u<0) (h2:∀ z,V[i]? = some z→¬ eR z u<0):eJ eR ([u]++V)=V.take i++u::V.drop i:=by
  refine L6 ?_ (PH (by rw [bS];exact hu) (fun y hy=>?_) (fun y hy=>?_))
  · refine List.perm_middle.trans ?_;rw [bS];exact .refl _
  · obtain ⟨h0,z,hz⟩:=tU hy hi;exact SF hu h0 hz hy (G0 (h1 z h0 hz))
  · obtain ⟨z,hz⟩:=vM hy;exact SH hu hz hy (yM1 (h2 z hz))
theorem yC4 {v:W}{U:List W}{i:Nat}(hi:i≤U.length) (hu:Up U) (h1:∀ z,0<i→U[i-1]? = some z→¬ eR v z<0) (h2:∀ z,U[i]? = some z→eR v z<0):eJ eR (U++[v])=U.take i++v::U.drop i:=by
  refine L6 ?_ (PH (by rw [bS];exact hu) (fun y hy=>?_) (fun y hy=>?_))
  · refine List.perm_middle.trans ?_;rw [bS];exact (P8 _ _).symm
  · obtain ⟨h0,z,hz⟩:=tU hy hi;exact SF hu h0 hz hy (yM1 (h1 z h0 hz))
  · obtain ⟨z,hz⟩:=vM hy;exact SH hu hz hy (G0 (h2 z hz))
theorem yL0 {U V:List W}{i e:Nat}(hU:Up U) (hV:Up V) (hi:i≤U.length) (he:e≤V.length) (h1:∀ x y,0<i→U[i-1]? = some x→V[e]? = some y→¬ eR y x<0) (h2:∀ x y,0<e→U[i]? = some x→V[e-1]? = some y→eR y x<0) :
    eJ eR (U++V)=eJ eR (U.take i++V.take e)++eJ eR (U.drop i++V.drop e):=by
  have hU1:Up (U.take i++U.drop i):=by rw [bS];exact hU
  have hV1:Up (V.take e++V.drop e):=by rw [bS];exact hV
  have cU:=(eX.1 hU1).2.2;have cV:=(eX.1 hV1).2.2;refine L6 ?_ (yA2 (mB jU _) (mB jU _) fun x y hx hy=>?_)
  · refine ((dU _ _).append (dU _ _)).trans ?_;have e1:(U.take i++V.take e++(U.drop i++V.drop e)).Perm (U.take i++U.drop i++(V.take e++V.drop e)):=by
      rw [bZ,bZ];refine List.Perm.append_left _ ?_;rw [← bZ,← bZ];exact List.perm_append_comm.append_right _
    rw [bS,bS] at e1;exact e1
  · have hx:=(dU _ _).mem_iff.1 hx;have hy:=(dU _ _).mem_iff.1 hy;rcases bL.1 hx with hx | hx <;> rcases bL.1 hy with hy | hy
    · exact cU x hx y hy
    · obtain ⟨h0,z,hz⟩:=tU hx hi;obtain ⟨q,hq⟩:=vM hy;exact SH hV hq hy (SF hU h0 hz hx (yM1 (h1 z q h0 hz hq)))
    · obtain ⟨h0,z,hz⟩:=tU hx he;obtain ⟨q,hq⟩:=vM hy;exact SH hU hq hy (SF hV h0 hz hx (G0 (h2 q z h0 hq hz)))
    · exact cV x hx y hy
def Q2 (P V:List W) (u:W) (R:List W) (k:Nat):List W:=(P++V.take k)++u::(V.drop k++R)
theorem LC {P V:List W}{u:W}{R:List W}{k:Nat}(h:k<V.length):∃ y,(Q2 P V u R k)[P.length+k]? = some u∧(Q2 P V u R k)[P.length+k+1]? = some y ∧
    ((Q2 P V u R k).set (P.length+k) y)[P.length+k+1]? = some y∧((Q2 P V u R k).set (P.length+k) y).set (P.length+k+1) u=Q2 P V u R (k+1) ∧
    (Q2 P V u R (k+1))[P.length+k+1]? = some u∧(Q2 P V u R (k+1))[P.length+k]? = some y∧((Q2 P V u R (k+1)).set (P.length+k+1) y)[P.length+k]? = some y∧((Q2 P V u R (k+1)).set (P.length+k+1) y).set (P.length+k) u=Q2 P V u R k:=by
  obtain ⟨V1,y,V2,rfl,hk⟩:=PL h;obtain ⟨a1,a2,a3,a4⟩:=yM9 (x:=y) (X2:=V2) hk;have e:Q2 P (V1++y::V2) u R k=(P++V1)++u::y::(V2++R):=by unfold Q2;rw [a1,a2];simp
  have e':Q2 P (V1++y::V2) u R (k+1)=(P++V1)++y::u::(V2++R):=by unfold Q2;rw [a3,a4];simp
  have l0:P.length+k=(P++V1).length:=by simp;omega
  have s1:∀ (p q:W),((P++V1)++p::q::(V2++R))[P.length+k+1]? = some q:=fun p q=>by
    rw [show (P++V1)++p::q::(V2++R)=((P++V1)++[p])++q::(V2++R) by simp];exact oC _ _ _ (by simp;omega)
  have s2:∀ (p q z:W),((P++V1)++p::q::(V2++R)).set (P.length+k+1) z=(P++V1)++p::z::(V2++R):=fun p q z=>by
    rw [show (P++V1)++p::q::(V2++R)=((P++V1)++[p])++q::(V2++R) by simp,oM _ _ _ _ (by simp;omega)];simp
  rw [e,e'];refine ⟨y,oC _ _ _ l0,s1 _ _,?_,?_,s1 _ _,oC _ _ _ l0,?_,?_⟩
  · rw [oM _ _ _ _ l0];exact s1 _ _
  · rw [oM _ _ _ _ l0,s2]
  · rw [s2];exact oC _ _ _ l0
  · rw [s2,oM _ _ _ _ l0]
theorem zI5 {P U V R:List W}{i k:Nat}(h:i=P.length+U.length+k) (hk:k<V.length):(P++(U++(V++R)))[i]? = V[k]?:=by
  subst h;rw [aE (by omega),aE (by omega),aG (by omega)]
  congr 1;omega
theorem zI6 {P U V R:List W}{i k:Nat}(h:i=P.length+k) (hk:k<U.length):(P++(U++(V++R)))[i]? = U[k]?:=by
  subst h;rw [aE (by omega),aG (by omega)]
  congr 1;omega
end Go.Ld
namespace Go.Proofs.YtmmmeebiobjnbaaGreat
open Go Go.Ab Go.Ld
attribute [local irreducible] VC AW cD aT
set_option maxHeartbeats 4000000
theorem A0:V5 Tryz.prog 3 .i64:=by unfold V5;kernel_rfl
theorem sQ:V5 Tryz.prog 139 .u64:=by unfold V5;kernel_rfl
attribute [local irreducible] V5
theorem yA7 (P:List W) (u:W) (V R:List W){a m b N:Nat}(ha:a=P.length) (hm:m=a+1) (hb:b=m+V.length) (hN:N=b+R.length) (hl:N≤100000) (hV:Up V) (hu:Q3 u) (hw:∀ w,w∈V→Q3 w) :
    aT Tryz.prog 148 [.sl 0 0 N 3,.i a,.i m,.i b,tA] [.arr (gM (P++([u]++(V++R)))) 3] (.tup []) [.arr (gM (P++(eJ eR ([u]++V)++R))) 3]:=by
  refine bU T Tryz.func148 rfl rfl rfl rfl ?_
  (repeat' (first|refine wS ?_|refine wB ?_|refine wT ?_|(refine rg 0 (dI rfl (vV (cT rfl rfl (by omega) (by omega)) (vV (lE rfl rfl (by omega)) ?_))))|(refine rg 1 (mW rfl (aV ?_)))|(refine rg 2 (mW rfl (aV ?_)))|refine nZ ?_));refine dA (X:={q:Nat × Nat // m≤q.1∧q.1≤q.2∧q.2≤b∧(∀ z,0<q.1-m→V[q.1-m-1]? = some z→eR z u<0)∧(∀ z,V[q.2-m]? = some z→¬ eR z u<0)})
    (fun q=>[(0,.sl 0 0 N 3),(1,.i a),(4,tA),(10,.i q.1.1),(11,.i q.1.2)]) (fun _=>[.arr (gM (P++([u]++(V++R)))) 3]) (fun q=>q.1.2-q.1.1) ⟨(m,b),by dsimp only;exact ⟨by omega,by omega,by omega,fun z h=>by omega,fun z h=>by rw [cX (by omega)] at h;cases h⟩⟩
    ⟨[0],rfl,by (repeat (first | exact trivial | refine ⟨rfl,?_⟩)),⟨.inr (aC rfl rfl (bX _)),trivial⟩,by decide,lY⟩ ?_
  rintro ⟨⟨i,j⟩,h1,h2,h3,h4,h5⟩;dsimp only at h1 h2 h3 h4 h5 ⊢;by_cases hij:i<j
  · have hP:((i:Int)+j) / 2 ^ (1:Int).toNat=(((i+j) / 2:Nat):Int):=by rw [show (2:Int) ^ (1:Int).toNat=2 from rfl];omega
    have hw1:IntKind.u64.wrap ((i:Int)+j)=(i:Int)+j:=KS (by omega) (by omega)
    have hw2:IntKind.i64.wrap (((i+j) / 2:Nat):Int)=(((i+j) / 2:Nat):Int):=IntWalk.i64_in _ (by omega)
    have hh:i≤(i+j) / 2∧(i+j) / 2<j:=by omega
    generalize hq:(i+j) / 2=q at *;obtain ⟨z,hz⟩:∃ z,V[q-m]? = some z:=⟨_,aA (by omega)⟩
    have q1:=qI (L:=P++([u]++(V++R))) (j:=(q:Int)) (i:=q) (x:=z) (by rw [zI5 (k:=q-m) (by simp;omega) (by omega)];exact hz) rfl
    have q2:=qI (L:=P++([u]++(V++R))) (j:=(a:Int)) (i:=a) (x:=u) (by rw [zI6 (k:=0) (by omega) (by simp)];rfl) rfl
    have hc:=yE z u (hw z (aO hz)) hu;by_cases h0:eR z u<0
    · generalize hx:eR z u=x at *
      (repeat' (first|refine wS ?_|refine wB ?_|refine wK ?_|(refine wC rfl ?_ ?_<;>(intro hb;(try simp only [nm] at hb);try (exfalso;omega)))|(refine rg 3 (dI rfl (vV (aL rfl rfl) ?_)))|(refine rg 4 (dI rfl (vV (cE rfl rfl (by omega) (by omega)) (vV (jR A0 sQ rfl hw1) (vV (by exact hP▸vO rfl rfl (by decide) (by decide)) ?_))));refine vV (jR sQ A0 rfl hw2) (aV ?_))|(refine bV (id:=5) 220 yU2 (rM 40 11) yU3 cK rfl (by decide +kernel) (dN rfl (dN rfl (dN rfl (dV rfl (by exact aI T rfl rfl rfl rfl rfl (by omega) (by omega)) ?_))));refine dV rfl (by exact aK T rfl rfl (bF rfl q1) rfl) ?_;refine dN rfl (dN rfl (dV rfl (by exact aI T rfl rfl rfl rfl rfl (by omega) (by omega)) ?_));refine dV rfl (by exact aK T rfl rfl (bF rfl q2) rfl) ?_;refine dV rfl (kC (hc)) (dV rfl (aL rfl rfl) (dE ?_)))|(refine iA 6 rfl rfl rfl (by omega) (by omega) ?_)|refine nZ ?_));all_goals first | (exfalso;omega) | skip
      exact ⟨⟨(q+1,j),by dsimp only;exact ⟨by omega,by omega,by omega,fun z' _ hz'=>by rw [show q+1-m-1=q-m by omega,hz] at hz';cases hz';omega,h5⟩⟩,by dsimp only;omega,⟨[0],rfl,by (repeat (first | exact trivial | refine ⟨rfl,?_⟩)),⟨.inr (aC rfl rfl (bX _)),trivial⟩,by decide,lY⟩⟩
    · generalize hx:eR z u=x at *
      (repeat' (first|refine wS ?_|refine wB ?_|refine wK ?_|(refine wC rfl ?_ ?_<;>(intro hb;(try simp only [nm] at hb);try (exfalso;omega)))|(refine rg 3 (dI rfl (vV (aL rfl rfl) ?_)))|(refine rg 4 (dI rfl (vV (cE rfl rfl (by omega) (by omega)) (vV (jR A0 sQ rfl hw1) (vV (by exact hP▸vO rfl rfl (by decide) (by decide)) ?_))));refine vV (jR sQ A0 rfl hw2) (aV ?_))|(refine bV (id:=5) 220 yU2 (rM 40 11) yU3 cK rfl (by decide +kernel) (dN rfl (dN rfl (dN rfl (dV rfl (by exact aI T rfl rfl rfl rfl rfl (by omega) (by omega)) ?_))));refine dV rfl (by exact aK T rfl rfl (bF rfl q1) rfl) ?_;refine dN rfl (dN rfl (dV rfl (by exact aI T rfl rfl rfl rfl rfl (by omega) (by omega)) ?_));refine dV rfl (by exact aK T rfl rfl (bF rfl q2) rfl) ?_;refine dV rfl (kC (hc)) (dV rfl (aL rfl rfl) (dE ?_)))|(refine rg 7 (mW rfl (aV ?_)))|refine nZ ?_));all_goals first | (exfalso;omega) | skip
      exact ⟨⟨(i,q),by dsimp only;exact ⟨by omega,by omega,by omega,h4,fun z' hz'=>by rw [hz] at hz';cases hz';omega⟩⟩,by dsimp only;omega,⟨[0],rfl,by (repeat (first | exact trivial | refine ⟨rfl,?_⟩)),⟨.inr (aC rfl rfl (bX _)),trivial⟩,by decide,lY⟩⟩
  · obtain rfl:i=j:=by omega
    have hmg:=yC5 (u:=u) (i:=i-m) (by omega) hV h4 h5
    (repeat' (first|refine wS ?_|refine wB ?_|refine wE ?_|(refine wC rfl ?_ ?_<;>(intro hb;(try simp only [nm] at hb);try (exfalso;omega)))|(refine rg 3 (dI rfl (vV (aL rfl rfl) ?_)))|(refine rg 8 (mW rfl (aV ?_)))|refine nZ ?_));all_goals first | (exfalso;omega) | skip
    refine dA (X:={t:Nat // t≤i-m}) (fun t=>[(0,.sl 0 0 N 3),(10,.i i),(13,.i ((a+t.1:Nat):Int))]) (fun t=>[.arr (gM (Q2 P V u R t.1)) 3]) (fun t=>i-m-t.1) ⟨0,by omega⟩ ⟨[0],rfl,⟨rfl,rfl,by dsimp only;rfl,trivial⟩,⟨.inr (aC rfl (by dsimp only;unfold Q2;simp) (bX _)),trivial⟩,by decide,lY⟩ ?_
    rintro ⟨t,ht⟩;dsimp only;by_cases hlt:t<i-m
    · obtain ⟨y,p1,p2,p3,p4,_⟩:=LC (P:=P) (u:=u) (R:=R) (show t<V.length by omega)
      have q1:=qI (j:=((a+t:Nat):Int)) p1 (by omega)
      have q2:=qI (j:=((a+t:Nat):Int)+1) p2 (by omega)
      have t1:=xY (L:=Q2 P V u R t) (j:=((a+t:Nat):Int)) (i:=P.length+t) (x:=y) (by omega)
      have q3:=qI (j:=((a+t:Nat):Int)+1) p3 (by omega)
      have t2:=xY (L:=(Q2 P V u R t).set (P.length+t) y) (j:=((a+t:Nat):Int)+1) (i:=P.length+t+1) (x:=u) (by omega)
      rw [← t1] at q3 t2;rw [p4] at t2;have hJ:((a+t:Nat):Int)+1=((a+(t+1):Nat):Int):=by omega
      have hJ1:((a+t:Nat):Int)<(i:Int)-1:=by omega
      have hJ2:0≤((a+t:Nat):Int):=by omega
      clear p1 p2 p3 p4 t1;generalize ((a+t:Nat):Int)=J at *;generalize Q2 P V u R t=L at *
      (repeat' (first|refine wS ?_|refine wB ?_|refine wK ?_|(refine wC rfl ?_ ?_<;>(intro hb;(try simp only [nm] at hb);try (exfalso;omega)))|(refine rg 9 (dI rfl (vV (cT rfl rfl (by omega) (by omega)) (vV (aL rfl rfl) ?_))))|(refine nQ (id:=11) 220 yU0 (rM 61 15) [[],[61],[61,62],[61,62,63],[61,62,63],rM 61 5,rM 61 6,rM 61 6,rM 61 5,rM 61 5,rM 61 10,rM 61 11,rM 61 10,rM 61 10,[63,64,65],[63,64,65]] [(15,0)] cK rfl (by decide +kernel) (cP rfl rfl rfl rfl (by exact bR rfl) ?_);refine cP rfl rfl rfl rfl (by exact bR rfl) ?_;refine cP rfl rfl rfl rfl (by exact bR rfl) ?_;refine cP rfl rfl rfl rfl (by exact bR rfl) ?_;refine cP rfl rfl rfl rfl (by exact cE rfl rfl (by omega) (by omega)) ?_;refine cP rfl rfl rfl rfl (by exact bR rfl) ?_;refine cP rfl rfl rfl rfl (by exact bR rfl) ?_;refine cP rfl rfl rfl rfl (by exact cE rfl rfl (by omega) (by omega)) ?_;refine cP rfl rfl rfl rfl (by exact aI T rfl rfl rfl rfl rfl (by omega) (by omega)) ?_;refine cP rfl rfl rfl rfl (by exact aK T rfl rfl (bF rfl q2) rfl) ?_;refine cP rfl rfl rfl rfl (by exact bR rfl) ?_;refine cP rfl rfl rfl rfl (by exact bR rfl) ?_;refine cP rfl rfl rfl rfl (by exact aI T rfl rfl rfl rfl rfl (by omega) (by omega)) ?_;refine cP rfl rfl rfl rfl (by exact aK T rfl rfl (bF rfl q1) rfl) ?_;refine cP rfl rfl rfl rfl (by exact aI T rfl rfl rfl rfl rfl (by omega) (by omega)) ?_;refine wL rfl rfl rfl rfl (aH rfl) T rfl rfl rfl rfl rfl rfl (by decide) (vE rfl q1 rfl) ?_;refine sO rfl rfl rfl (by exact rfl) ?_;refine vV (by exact aI T rfl rfl rfl rfl rfl (by omega) (by omega)) ?_;refine bD T rfl rfl rfl rfl rfl rfl (by decide) (lR rfl q3 rfl) ?_)|(refine iA 10 rfl rfl rfl (by omega) (by omega) ?_)|refine nZ ?_));all_goals first | (exfalso;omega) | skip
      exact ⟨⟨t+1,by omega⟩,by dsimp only;omega,⟨[0],rfl,⟨rfl,rfl,by dsimp only;rw [← hJ];try rfl,trivial⟩,⟨.inr (aC rfl (by dsimp only;rw [← t2];try rfl) (bX _)),trivial⟩,by decide,lY⟩⟩
    · obtain rfl:t=i-m:=by omega
      have ee:Q2 P V u R (i-m)=P++(eJ eR ([u]++V)++R):=by rw [hmg];unfold Q2;simp
      have hJ1:¬ ((a+(i-m):Nat):Int)<(i:Int)-1:=by omega
      generalize ((a+(i-m):Nat):Int)=J at *
      (repeat' (first|refine wS ?_|refine wR ?_|refine wE ?_|(refine wC rfl ?_ ?_<;>(intro hb;(try simp only [nm] at hb);try (exfalso;omega)))|(refine rg 9 (dI rfl (vV (cT rfl rfl (by omega) (by omega)) (vV (aL rfl rfl) ?_))))|refine nZ ?_));all_goals first | (exfalso;omega) | exact ⟨.inl rfl,[0],_,rfl,rfl,rfl,⟨.inr (aC rfl (by rw [ee]) (bX _)),trivial⟩,by decide,lY⟩ | exact ⟨.inr rfl,[0],_,rfl,rfl,rfl,⟨.inr (aC rfl (by rw [ee]) (bX _)),trivial⟩,by decide,lY⟩
theorem yA6 (P U:List W) (v:W) (R:List W){a m b N:Nat}(ha:a=P.length) (hm:m=a+U.length) (hb:b=m+1) (hN:N=b+R.length) (hl:N≤100000) (hU2:2≤U.length) (hU:Up U) (hv:Q3 v) (hw:∀ w,w∈U→Q3 w) :
    aT Tryz.prog 148 [.sl 0 0 N 3,.i a,.i m,.i b,tA] [.arr (gM (P++(U++([v]++R)))) 3] (.tup []) [.arr (gM (P++(eJ eR (U++[v])++R))) 3]:=by
  refine bU T Tryz.func148 rfl rfl rfl rfl ?_
  (repeat' (first|refine wS ?_|refine wB ?_|refine wK ?_|refine wT ?_|refine wU ?_|(refine rg 0 (dI rfl (vV (cT rfl rfl (by omega) (by omega)) (vV (iE rfl rfl (by omega)) ?_))))|(refine rg 12 (dI rfl (vV (cT rfl rfl (by omega) (by omega)) (vV (lE rfl rfl (by omega)) ?_))))|(refine rg 13 (mW rfl (aV ?_)))|(refine rg 14 (mW rfl (aV ?_)))|refine nZ ?_));refine dA (X:={q:Nat × Nat // a≤q.1∧q.1≤q.2∧q.2≤m∧(∀ z,0<q.1-a→U[q.1-a-1]? = some z→¬ eR v z<0)∧(∀ z,U[q.2-a]? = some z→eR v z<0)})
    (fun q=>[(0,.sl 0 0 N 3),(2,.i m),(4,tA),(14,.i q.1.1),(15,.i q.1.2)]) (fun _=>[.arr (gM (P++(U++([v]++R)))) 3]) (fun q=>q.1.2-q.1.1) ⟨(a,m),by dsimp only;exact ⟨by omega,by omega,by omega,fun z h=>by omega,fun z h=>by rw [cX (by omega)] at h;cases h⟩⟩
    ⟨[0],rfl,by (repeat (first | exact trivial | refine ⟨rfl,?_⟩)),⟨.inr (aC rfl rfl (bX _)),trivial⟩,by decide,lY⟩ ?_
  rintro ⟨⟨i,j⟩,h1,h2,h3,h4,h5⟩;dsimp only at h1 h2 h3 h4 h5 ⊢;by_cases hij:i<j
  · have hP:((i:Int)+j) / 2 ^ (1:Int).toNat=(((i+j) / 2:Nat):Int):=by rw [show (2:Int) ^ (1:Int).toNat=2 from rfl];omega
    have hw1:IntKind.u64.wrap ((i:Int)+j)=(i:Int)+j:=KS (by omega) (by omega)
    have hw2:IntKind.i64.wrap (((i+j) / 2:Nat):Int)=(((i+j) / 2:Nat):Int):=IntWalk.i64_in _ (by omega)
    have hh:i≤(i+j) / 2∧(i+j) / 2<j:=by omega
    generalize hq:(i+j) / 2=q at *;obtain ⟨z,hz⟩:∃ z,U[q-a]? = some z:=⟨_,aA (by omega)⟩
    have q1:=qI (L:=P++(U++([v]++R))) (j:=(m:Int)) (i:=m) (x:=v) (by rw [zI5 (k:=0) (by omega) (by simp)];rfl) rfl
    have q2:=qI (L:=P++(U++([v]++R))) (j:=(q:Int)) (i:=q) (x:=z) (by rw [zI6 (k:=q-a) (by omega) (by omega)];exact hz) rfl
    have hc:=yE v z hv (hw z (aO hz));by_cases h0:eR v z<0
    · generalize hx:eR v z=x at *
      (repeat' (first|refine wS ?_|refine wB ?_|refine wK ?_|(refine wC rfl ?_ ?_<;>(intro hb;(try simp only [nm] at hb);try (exfalso;omega)))|(refine rg 15 (dI rfl (vV (aL rfl rfl) ?_)))|(refine rg 16 (dI rfl (vV (cE rfl rfl (by omega) (by omega)) (vV (jR A0 sQ rfl hw1) (vV (by exact hP▸vO rfl rfl (by decide) (by decide)) ?_))));refine vV (jR sQ A0 rfl hw2) (aV ?_))|(refine bV (id:=17) 220 yU4 (rM 92 12) yU5 cK rfl (by decide +kernel) (dN rfl (dN rfl (dN rfl (dV rfl (by exact aI T rfl rfl rfl rfl rfl (by omega) (by omega)) ?_))));refine dV rfl (by exact aK T rfl rfl (bF rfl q1) rfl) ?_;refine dN rfl (dN rfl (dV rfl (by exact aI T rfl rfl rfl rfl rfl (by omega) (by omega)) ?_));refine dV rfl (by exact aK T rfl rfl (bF rfl q2) rfl) ?_;refine dV rfl (kC (hc)) (dV rfl (aL rfl rfl) (dV rfl (eH rfl) (dE ?_))))|(refine rg 19 (mW rfl (aV ?_)))|refine nZ ?_));all_goals first | (exfalso;omega) | skip
      exact ⟨⟨(i,q),by dsimp only;exact ⟨by omega,by omega,by omega,h4,fun z' hz'=>by rw [hz] at hz';cases hz';omega⟩⟩,by dsimp only;omega,⟨[0],rfl,by (repeat (first | exact trivial | refine ⟨rfl,?_⟩)),⟨.inr (aC rfl rfl (bX _)),trivial⟩,by decide,lY⟩⟩
    · generalize hx:eR v z=x at *
      (repeat' (first|refine wS ?_|refine wB ?_|refine wK ?_|(refine wC rfl ?_ ?_<;>(intro hb;(try simp only [nm] at hb);try (exfalso;omega)))|(refine rg 15 (dI rfl (vV (aL rfl rfl) ?_)))|(refine rg 16 (dI rfl (vV (cE rfl rfl (by omega) (by omega)) (vV (jR A0 sQ rfl hw1) (vV (by exact hP▸vO rfl rfl (by decide) (by decide)) ?_))));refine vV (jR sQ A0 rfl hw2) (aV ?_))|(refine bV (id:=17) 220 yU4 (rM 92 12) yU5 cK rfl (by decide +kernel) (dN rfl (dN rfl (dN rfl (dV rfl (by exact aI T rfl rfl rfl rfl rfl (by omega) (by omega)) ?_))));refine dV rfl (by exact aK T rfl rfl (bF rfl q1) rfl) ?_;refine dN rfl (dN rfl (dV rfl (by exact aI T rfl rfl rfl rfl rfl (by omega) (by omega)) ?_));refine dV rfl (by exact aK T rfl rfl (bF rfl q2) rfl) ?_;refine dV rfl (kC (hc)) (dV rfl (aL rfl rfl) (dV rfl (eH rfl) (dE ?_))))|(refine iA 18 rfl rfl rfl (by omega) (by omega) ?_)|refine nZ ?_));all_goals first | (exfalso;omega) | skip
      exact ⟨⟨(q+1,j),by dsimp only;exact ⟨by omega,by omega,by omega,fun z' _ hz'=>by rw [show q+1-a-1=q-a by omega,hz] at hz';cases hz';omega,h5⟩⟩,by dsimp only;omega,⟨[0],rfl,by (repeat (first | exact trivial | refine ⟨rfl,?_⟩)),⟨.inr (aC rfl rfl (bX _)),trivial⟩,by decide,lY⟩⟩
  · obtain rfl:i=j:=by omega
    have hmg:=yC4 (v:=v) (i:=i-a) (by omega) hU h4 h5
    (repeat' (first|refine wS ?_|refine wB ?_|refine wE ?_|(refine wC rfl ?_ ?_<;>(intro hb;(try simp only [nm] at hb);try (exfalso;omega)))|(refine rg 15 (dI rfl (vV (aL rfl rfl) ?_)))|(refine rg 20 (mW rfl (aV ?_)))|refine nZ ?_));all_goals first | (exfalso;omega) | skip
    refine dA (X:={t:Nat // i-a≤t∧t≤U.length}) (fun t=>[(0,.sl 0 0 N 3),(14,.i i),(17,.i ((a+t.1:Nat):Int))]) (fun t=>[.arr (gM (Q2 P U v R t.1)) 3]) (fun t=>t.1) ⟨U.length,by omega⟩ ⟨[0],rfl,⟨rfl,rfl,by dsimp only;rw [← hm];rfl,trivial⟩,⟨.inr (aC rfl (by dsimp only;unfold Q2;simp) (bX _)),trivial⟩,by decide,lY⟩ ?_
    rintro ⟨t,ht,ht2⟩;dsimp only;by_cases hlt:i-a<t
    · obtain ⟨t,rfl⟩:∃ t',t=t'+1:=⟨t-1,by omega⟩
      obtain ⟨y,_,_,_,_,p1,p2,p3,p4⟩:=LC (P:=P) (u:=v) (R:=R) (show t<U.length by omega)
      have q1:=qI (j:=((a+(t+1):Nat):Int)) p1 (by omega)
      have q2:=qI (j:=((a+(t+1):Nat):Int)-1) p2 (by omega)
      have t1:=xY (L:=Q2 P U v R (t+1)) (j:=((a+(t+1):Nat):Int)) (i:=P.length+t+1) (x:=y) (by omega)
      have q3:=qI (j:=((a+(t+1):Nat):Int)-1) p3 (by omega)
      have t2:=xY (L:=(Q2 P U v R (t+1)).set (P.length+t+1) y) (j:=((a+(t+1):Nat):Int)-1) (i:=P.length+t) (x:=v) (by omega)
      rw [← t1] at q3 t2;rw [p4] at t2;have hJ:((a+(t+1):Nat):Int)-1=((a+t:Nat):Int):=by omega
      have hJ1:((a+(t+1):Nat):Int) > (i:Int):=by omega
      have hJ2:1≤((a+(t+1):Nat):Int):=by omega
      have hJ3:((a+(t+1):Nat):Int)<N:=by omega
      clear p1 p2 p3 p4 t1;generalize ((a+(t+1):Nat):Int)=J at *;generalize Q2 P U v R (t+1)=L at *
      (repeat' (first|refine wS ?_|refine wB ?_|refine wK ?_|(refine wC rfl ?_ ?_<;>(intro hb;(try simp only [nm] at hb);try (exfalso;omega)))|(refine rg 21 (dI rfl (vV (fA rfl rfl) ?_)))|(refine nQ (id:=23) 220 yU0 (rM 113 15) [[],[113],[113,114],[113,114,115],[113,114,115],rM 113 5,rM 113 6,rM 113 6,rM 113 5,rM 113 5,rM 113 10,rM 113 11,rM 113 10,rM 113 10,[115,116,117],[115,116,117]] [(15,0)] cK rfl (by decide +kernel) (cP rfl rfl rfl rfl (by exact bR rfl) ?_);refine cP rfl rfl rfl rfl (by exact bR rfl) ?_;refine cP rfl rfl rfl rfl (by exact bR rfl) ?_;refine cP rfl rfl rfl rfl (by exact bR rfl) ?_;refine cP rfl rfl rfl rfl (by exact cT rfl rfl (by omega) (by omega)) ?_;refine cP rfl rfl rfl rfl (by exact bR rfl) ?_;refine cP rfl rfl rfl rfl (by exact bR rfl) ?_;refine cP rfl rfl rfl rfl (by exact cT rfl rfl (by omega) (by omega)) ?_;refine cP rfl rfl rfl rfl (by exact aI T rfl rfl rfl rfl rfl (by omega) (by omega)) ?_;refine cP rfl rfl rfl rfl (by exact aK T rfl rfl (bF rfl q2) rfl) ?_;refine cP rfl rfl rfl rfl (by exact bR rfl) ?_;refine cP rfl rfl rfl rfl (by exact bR rfl) ?_;refine cP rfl rfl rfl rfl (by exact aI T rfl rfl rfl rfl rfl (by omega) (by omega)) ?_;refine cP rfl rfl rfl rfl (by exact aK T rfl rfl (bF rfl q1) rfl) ?_;refine cP rfl rfl rfl rfl (by exact aI T rfl rfl rfl rfl rfl (by omega) (by omega)) ?_;refine wL rfl rfl rfl rfl (aH rfl) T rfl rfl rfl rfl rfl rfl (by decide) (vE rfl q1 rfl) ?_;refine sO rfl rfl rfl (by exact rfl) ?_;refine vV (by exact aI T rfl rfl rfl rfl rfl (by omega) (by omega)) ?_;refine bD T rfl rfl rfl rfl rfl rfl (by decide) (lR rfl q3 rfl) ?_)|(refine rg 22 (mW rfl (vV (cT rfl rfl (by omega) (by omega)) (aV ?_))))|refine nZ ?_));all_goals first | (exfalso;omega) | skip
      exact ⟨⟨t,by omega⟩,by dsimp only;omega,⟨[0],rfl,⟨rfl,rfl,by dsimp only;rw [← hJ];try rfl,trivial⟩,⟨.inr (aC rfl (by dsimp only;rw [← t2];try rfl) (bX _)),trivial⟩,by decide,lY⟩⟩
    · obtain rfl:t=i-a:=by omega
      have ee:Q2 P U v R (i-a)=P++(eJ eR (U++[v])++R):=by rw [hmg];unfold Q2;simp
      have hJ1:¬ ((a+(i-a):Nat):Int) > (i:Int):=by omega
      generalize ((a+(i-a):Nat):Int)=J at *
      (repeat' (first|refine wS ?_|refine wR ?_|refine wE ?_|(refine wC rfl ?_ ?_<;>(intro hb;(try simp only [nm] at hb);try (exfalso;omega)))|(refine rg 21 (dI rfl (vV (fA rfl rfl) ?_)))|refine nZ ?_));all_goals first | (exfalso;omega) | exact ⟨.inl rfl,[0],_,rfl,rfl,rfl,⟨.inr (aC rfl (by rw [ee]) (bX _)),trivial⟩,by decide,lY⟩ | exact ⟨.inr rfl,[0],_,rfl,rfl,rfl,⟨.inr (aC rfl (by rw [ee]) (bX _)),trivial⟩,by decide,lY⟩
end Go.Proofs.YtmmmeebiobjnbaaGreat
namespace Go.Ld
open Go.Ab Go.Proofs.YtmmmeebiobjnbaaGreat
theorem zN8 {P U V R:List W}{a m b mid n lo hi s:Nat}(ha:a=P.length) (hm:m=a+U.length) (hb:b=m+V.length) (hmid:mid=(a+b) / 2) (hn:n=mid+m) (hU:Up U) (hV:Up V)
    (hc:mid<m∧lo=n-b∧hi=mid∨m≤mid∧lo=a∧hi=m) (hs1:lo≤s) (hs2:s≤hi)
    (h1:∀ x y,lo<s→(P++(U++(V++R)))[s-1]? = some x→(P++(U++(V++R)))[n-s]? = some y→¬ eR y x<0)
    (h2:∀ x y,s<hi→(P++(U++(V++R)))[s]? = some x→(P++(U++(V++R)))[n-1-s]? = some y→eR y x<0) :
    ∃ X1 X2 Y1 Y2,U=X1++X2∧V=Y1++Y2∧s=a+X1.length∧n=(m+Y1.length)+s∧mid=a+X1.length+Y1.length∧eJ eR (U++V)=eJ eR (X1++Y1)++eJ eR (X2++Y2):=by
  have f1:a≤s∧s≤m∧m+s≤n∧n≤b+s:=by rcases hc with ⟨c1,c2,c3⟩ | ⟨c1,c2,c3⟩ <;> omega
  obtain ⟨f1,f2,f3,f4⟩:=f1;refine ⟨U.take (s-a),U.drop (s-a),V.take (n-s-m),V.drop (n-s-m),by simp,by simp,by rw [bH];omega,by rw [bH];omega,by rw [bH,bH];omega,?_⟩
  refine yL0 hU hV (by omega) (by omega) (fun x y h0 hx hy=>?_) (fun x y h0 hx hy=>?_)
  · have i1:=(aB.1 hy).1;refine h1 x y (by rcases hc with ⟨c1,c2,c3⟩ | ⟨c1,c2,c3⟩ <;> omega) ?_ ?_
    · rw [zI6 (k:=s-a-1) (by omega) (by omega)];exact hx
    · rw [zI5 (k:=n-s-m) (by omega) (by omega)];exact hy
  · have i1:=(aB.1 hx).1;refine h2 x y (by rcases hc with ⟨c1,c2,c3⟩ | ⟨c1,c2,c3⟩ <;> omega) ?_ ?_
    · rw [zI6 (k:=s-a) (by omega) (by omega)];exact hx
    · rw [zI5 (k:=n-s-m-1) (by omega) (by omega)];exact hy
theorem yH7 {A B:List W}(h:Up (A++B)):Up A:=(eX.1 h).1
theorem yH6 {A B:List W}(h:Up (A++B)):Up B:=(eX.1 h).2.1
def bs (k:Nat) (l:List W):List W:=if h:l.length≤k∨k=0 then eJ eR l else eJ eR (l.take k)++bs k (l.drop k)
  termination_by l.length
  decreasing_by simp only [dQ];omega
theorem Y0 {k:Nat}{l:List W}(h:l.length≤k):bs k l=eJ eR l:=by unfold bs;rw [dif_pos (.inl h)]
theorem yL4 {k:Nat}{l:List W}(h:k<l.length) (h0:0<k):bs k l=eJ eR (l.take k)++bs k (l.drop k):=by rw [bs,dif_neg (by omega)]
theorem DO {k:Nat}{a b:List W}(h:a.length=k) (h0:0<k):bs k (a++b)=eJ eR a++bs k b:=by
  subst h;cases b with
  | nil=>rw [List.append_nil,Y0 (aU _),Y0 (bW _)];simp [eJ]
  | cons x b=>rw [yL4 (by simp) h0,xR,xT]
theorem yF4 (k:Nat) (l:List W):(bs k l).length=l.length:=by
  induction hn:l.length using Nat.strongRecOn generalizing l with
  | _ n ih=>
    unfold bs;split
    · rw [jI,hn]
    · rw [aF,jI,bH,ih (l.drop k).length (by rw [dQ];omega) _ rfl,dQ];omega
theorem LN (a b:List W):eJ eR (eJ eR a++eJ eR b)=eJ eR (a++b):=
  L6 ((dU _ _).trans ((dU _ _).append (dU _ _)).symm) (mB jU _)
end Go.Ld
namespace Go.Proofs.YtmmmeebiobjnbaaGreat
open Go Go.Ab Go.Ld
attribute [local irreducible] VC AW cD aT V5
set_option maxHeartbeats 4000000
theorem zY2:∀ (k:Nat) (P U V R:List W){a m b N:Nat},b-a≤k→0<U.length→0<V.length→a=P.length→m=a+U.length→b=m+V.length→N=b+R.length→N≤100000→Up U→Up V→(∀ w,w∈U→Q3 w)→(∀ w,w∈V→Q3 w) →
    aT Tryz.prog 148 [.sl 0 0 N 3,.i a,.i m,.i b,tA] [.arr (gM (P++(U++(V++R)))) 3] (.tup []) [.arr (gM (P++(eJ eR (U++V)++R))) 3]:=by
  intro k
  induction k with
  | zero=>intros;exfalso;omega
  | succ k ih=>
    intro P U V R a m b N hk hU0 hV0 ha hm hb hN hl hU hV hwU hwV;by_cases hu1:U.length=1
    · obtain ⟨u,rfl⟩:=ET.1 hu1;exact yA7 P u V R ha hm hb hN hl hV (hwU u (by simp)) hwV
    by_cases hv1:V.length=1
    · obtain ⟨v,rfl⟩:=ET.1 hv1;exact yA6 P U v R ha hm hb hN hl (by omega) hU (hwV v (by simp)) hwU
    have hP:((a:Int)+b) / 2 ^ (1:Int).toNat=(((a+b) / 2:Nat):Int):=by rw [show (2:Int) ^ (1:Int).toNat=2 from rfl];omega
    have hw1:IntKind.u64.wrap ((a:Int)+b)=(a:Int)+b:=KS (by omega) (by omega)
    have hw2:IntKind.i64.wrap (((a+b) / 2:Nat):Int)=(((a+b) / 2:Nat):Int):=IntWalk.i64_in _ (by omega)
    obtain ⟨mid,hmid⟩:∃ mid,mid=(a+b) / 2:=⟨_,rfl⟩;rw [← hmid] at hP hw2;have hD1:∀ i,a≤i→i<m→(P++(U++(V++R)))[i]? = U[i-a]?:=fun i h1 h2=>zI6 (by omega) (by omega)
    have hD2:∀ i,m≤i→i<b→(P++(U++(V++R)))[i]? = V[i-m]?:=fun i h1 h2=>zI5 (by omega) (by omega)
    have hcut:∀ {lo hi s:Nat},_:=@zN8 P U V R a m b mid (mid+m);generalize hDe:P++(U++(V++R))=D at *;refine bU T Tryz.func148 rfl rfl rfl rfl ?_;apply Go.Ab.cutT (T:=∀ lo hi:Nat,(mid<m∧lo=mid+m-b∧hi=mid∨m≤mid∧lo=a∧hi=m)→_)
    · intro rest;by_cases h:mid<m
      · obtain ⟨lo,hlo⟩:∃ lo:Nat,lo=mid+m-b:=⟨_,rfl⟩;obtain ⟨hi,hhi⟩:∃ hi:Nat,hi=mid:=⟨_,rfl⟩
        (repeat' (first|refine wS ?_|refine wB ?_|refine wK ?_|refine wU ?_|(refine wC rfl ?_ ?_<;>(intro hb;(try simp only [nm] at hb);try (exfalso;omega)))|(refine rg 0 (dI rfl (vV (cT rfl rfl (by omega) (by omega)) (vV (iE rfl rfl (by omega)) ?_))))|(refine rg 12 (dI rfl (vV (cT rfl rfl (by omega) (by omega)) (vV (iE rfl rfl (by omega)) ?_))))|(refine rg 24 (dI rfl (vV (cE rfl rfl (by omega) (by omega)) (vV (jR A0 sQ rfl hw1) (vV (by exact hP▸vO rfl rfl (by decide) (by decide)) ?_))));refine vV (jR sQ A0 rfl hw2) (aV ?_))|(refine rg 25 (dI rfl (vV (cE rfl rfl (by omega) (by omega)) (aV ?_))))|(refine rg 26 (sG ?_))|(refine rg 27 (dI rfl (vV (fA rfl rfl) ?_)))|(refine rg 28 (dI rfl (vV (cT rfl rfl (by omega) (by omega)) (aV ?_))))|(refine rg 29 (mW rfl (aV ?_)))|(refine rg 32 (mW rfl (vV (cT rfl rfl (by omega) (by omega)) (aV ?_))))|refine nZ ?_));all_goals first | (exfalso;omega) | exact fO [(0,.sl 0 0 N 3),(1,.i a),(2,.i m),(3,.i b),(4,tA),(18,.i mid),(19,.i ((mid:Int)+m)),(20,.i lo),(21,.i hi),(22,.i ((mid:Int)+m-1))] [.arr (gM D) 3] ⟨[0],rfl,⟨rfl,rfl,rfl,rfl,rfl,rfl,rfl,by rw [show (lo:Int)=(mid:Int)+m-b by omega];rfl,by rw [hhi];rfl,rfl,trivial⟩,⟨.inr (aC rfl rfl (bX _)),trivial⟩,by decide,lY⟩ (rest.get lo hi (by omega))
      · obtain ⟨lo,hlo⟩:∃ lo:Nat,lo=a:=⟨_,rfl⟩;obtain ⟨hi,hhi⟩:∃ hi:Nat,hi=m:=⟨_,rfl⟩
        (repeat' (first|refine wS ?_|refine wB ?_|refine wK ?_|refine wU ?_|(refine wC rfl ?_ ?_<;>(intro hb;(try simp only [nm] at hb);try (exfalso;omega)))|(refine rg 0 (dI rfl (vV (cT rfl rfl (by omega) (by omega)) (vV (iE rfl rfl (by omega)) ?_))))|(refine rg 12 (dI rfl (vV (cT rfl rfl (by omega) (by omega)) (vV (iE rfl rfl (by omega)) ?_))))|(refine rg 24 (dI rfl (vV (cE rfl rfl (by omega) (by omega)) (vV (jR A0 sQ rfl hw1) (vV (by exact hP▸vO rfl rfl (by decide) (by decide)) ?_))));refine vV (jR sQ A0 rfl hw2) (aV ?_))|(refine rg 25 (dI rfl (vV (cE rfl rfl (by omega) (by omega)) (aV ?_))))|(refine rg 26 (sG ?_))|(refine rg 27 (dI rfl (vV (fA rfl rfl) ?_)))|(refine rg 30 (mW rfl (aV ?_)))|(refine rg 31 (mW rfl (aV ?_)))|(refine rg 32 (mW rfl (vV (cT rfl rfl (by omega) (by omega)) (aV ?_))))|refine nZ ?_));all_goals first | (exfalso;omega) | exact fO [(0,.sl 0 0 N 3),(1,.i a),(2,.i m),(3,.i b),(4,tA),(18,.i mid),(19,.i ((mid:Int)+m)),(20,.i lo),(21,.i hi),(22,.i ((mid:Int)+m-1))] [.arr (gM D) 3] ⟨[0],rfl,⟨rfl,rfl,rfl,rfl,rfl,rfl,rfl,by rw [hlo];rfl,by rw [hhi];rfl,rfl,trivial⟩,⟨.inr (aC rfl rfl (bX _)),trivial⟩,by decide,lY⟩ (rest.get lo hi (by omega))
    intro lo hi hc;have hcut:=fun s=>@hcut lo hi s ha hm hb hmid rfl hU hV hc
    refine dA (X:={q:Nat × Nat // lo≤q.1∧q.1≤q.2∧q.2≤hi∧(∀ x y,lo<q.1→D[q.1-1]? = some x→D[mid+m-q.1]? = some y→¬ eR y x<0)∧(∀ x y,q.2<hi→D[q.2]? = some x→D[mid+m-1-q.2]? = some y→eR y x<0)})
      (fun q=>[(0,.sl 0 0 N 3),(1,.i a),(2,.i m),(3,.i b),(4,tA),(18,.i mid),(19,.i ((mid:Int)+m)),(20,.i q.1.1),(21,.i q.1.2),(22,.i ((mid:Int)+m-1))]) (fun _=>[.arr (gM D) 3]) (fun q=>q.1.2-q.1.1) ⟨(lo,hi),by dsimp only;exact ⟨by omega,by omega,by omega,fun x y h=>by omega,fun x y h=>by omega⟩⟩
      ⟨[0],rfl,by (repeat (first | exact trivial | refine ⟨rfl,?_⟩)),⟨.inr (aC rfl rfl (bX _)),trivial⟩,by decide,lY⟩ ?_
    rintro ⟨⟨i,j⟩,h1,h2,h3,h4,h5⟩;dsimp only at h1 h2 h3 h4 h5 ⊢;have hlo:a≤lo∧hi≤m∧m≤mid+m-hi∧mid+m-lo≤b∧lo≤mid+m:=by omega
    by_cases hij:i<j
    · clear hP hw1 hw2;have hP:((i:Int)+j) / 2 ^ (1:Int).toNat=(((i+j) / 2:Nat):Int):=by rw [show (2:Int) ^ (1:Int).toNat=2 from rfl];omega
      have hw1:IntKind.u64.wrap ((i:Int)+j)=(i:Int)+j:=KS (by omega) (by omega)
      have hw2:IntKind.i64.wrap (((i+j) / 2:Nat):Int)=(((i+j) / 2:Nat):Int):=IntWalk.i64_in _ (by omega)
      have hh:i≤(i+j) / 2∧(i+j) / 2<j:=by omega
      generalize hq:(i+j) / 2=q at *;obtain ⟨x,hx⟩:∃ x,U[q-a]? = some x:=⟨_,aA (by omega)⟩
      obtain ⟨y,hy⟩:∃ y,V[mid+m-1-q-m]? = some y:=⟨_,aA (by omega)⟩
      have wx:=hwU x (aO hx);have wy:=hwV y (aO hy);rw [← hD1 q (by omega) (by omega)] at hx
      rw [← hD2 (mid+m-1-q) (by omega) (by omega)] at hy
      have q1:=qI (j:=(mid:Int)+m-1-q) hy (by omega)
      have q2:=qI (j:=(q:Int)) hx rfl;have hc':=yE y x wy wx;by_cases h0:eR y x<0
      · generalize hz:eR y x=z at *
        (repeat' (first|refine wS ?_|refine wB ?_|refine wK ?_|(refine wC rfl ?_ ?_<;>(intro hb;(try simp only [nm] at hb);try (exfalso;omega)))|(refine rg 33 (dI rfl (vV (aL rfl rfl) ?_)))|(refine rg 34 (dI rfl (vV (cE rfl rfl (by omega) (by omega)) (vV (jR A0 sQ rfl hw1) (vV (by exact hP▸vO rfl rfl (by decide) (by decide)) ?_))));refine vV (jR sQ A0 rfl hw2) (aV ?_))|(refine bV (id:=35) 220 yU6 (rM 158 14) yU7 cK rfl (by decide +kernel) (dN rfl (dN rfl (dN rfl (dN rfl (dV rfl (cT rfl rfl (by omega) (by omega)) (dV rfl (by exact aI T rfl rfl rfl rfl rfl (by omega) (by omega)) ?_))))));refine dV rfl (by exact aK T rfl rfl (bF rfl q1) rfl) ?_;refine dN rfl (dN rfl (dV rfl (by exact aI T rfl rfl rfl rfl rfl (by omega) (by omega)) ?_));refine dV rfl (by exact aK T rfl rfl (bF rfl q2) rfl) ?_;refine dV rfl (kC (hc')) (dV rfl (aL rfl rfl) (dV rfl (eH rfl) (dE ?_))))|(refine rg 37 (mW rfl (aV ?_)))|refine nZ ?_));all_goals first | (exfalso;omega) | skip
        exact ⟨⟨(i,q),by dsimp only;exact ⟨by omega,by omega,by omega,h4,fun x' y' _ hx' hy'=>by rw [hx] at hx';rw [hy] at hy';cases hx';cases hy';omega⟩⟩,by dsimp only;omega,⟨[0],rfl,by (repeat (first | exact trivial | refine ⟨rfl,?_⟩)),⟨.inr (aC rfl rfl (bX _)),trivial⟩,by decide,lY⟩⟩
      · generalize hz:eR y x=z at *
        (repeat' (first|refine wS ?_|refine wB ?_|refine wK ?_|(refine wC rfl ?_ ?_<;>(intro hb;(try simp only [nm] at hb);try (exfalso;omega)))|(refine rg 33 (dI rfl (vV (aL rfl rfl) ?_)))|(refine rg 34 (dI rfl (vV (cE rfl rfl (by omega) (by omega)) (vV (jR A0 sQ rfl hw1) (vV (by exact hP▸vO rfl rfl (by decide) (by decide)) ?_))));refine vV (jR sQ A0 rfl hw2) (aV ?_))|(refine bV (id:=35) 220 yU6 (rM 158 14) yU7 cK rfl (by decide +kernel) (dN rfl (dN rfl (dN rfl (dN rfl (dV rfl (cT rfl rfl (by omega) (by omega)) (dV rfl (by exact aI T rfl rfl rfl rfl rfl (by omega) (by omega)) ?_))))));refine dV rfl (by exact aK T rfl rfl (bF rfl q1) rfl) ?_;refine dN rfl (dN rfl (dV rfl (by exact aI T rfl rfl rfl rfl rfl (by omega) (by omega)) ?_));refine dV rfl (by exact aK T rfl rfl (bF rfl q2) rfl) ?_;refine dV rfl (kC (hc')) (dV rfl (aL rfl rfl) (dV rfl (eH rfl) (dE ?_))))|(refine iA 36 rfl rfl rfl (by omega) (by omega) ?_)|refine nZ ?_));all_goals first | (exfalso;omega) | skip
        exact ⟨⟨(q+1,j),by dsimp only;exact ⟨by omega,by omega,by omega,fun x' y' _ hx' hy'=>by rw [show q+1-1=q by omega,hx] at hx';rw [show mid+m-(q+1)=mid+m-1-q by omega,hy] at hy';cases hx';cases hy';omega,h5⟩⟩,by dsimp only;omega,⟨[0],rfl,by (repeat (first | exact trivial | refine ⟨rfl,?_⟩)),⟨.inr (aC rfl rfl (bX _)),trivial⟩,by decide,lY⟩⟩
    · obtain rfl:i=j:=by omega
      obtain ⟨X1,X2,Y1,Y2,rfl,rfl,e1,e2,e3,hsrt⟩:=hcut i (by omega) (by omega) h4 h5
      clear hcut h4 h5 hD1 hD2 hP hw1 hw2;rw [hsrt];obtain ⟨e,he⟩:∃ e,e=m+Y1.length:=⟨_,rfl⟩;simp only [aF] at hm hb hU0 hV0 hu1 hv1;have uX1:=yH7 hU;have uX2:=yH6 hU;have uY1:=yH7 hV;have uY2:=yH6 hV;have w1:=ih P X1 Y1 (X2++(Y2++R)) (a:=a) (m:=i) (b:=mid) (N:=N);have w2:=ih (P++eJ eR (X1++Y1)) X2 Y2 R (a:=mid) (m:=e) (b:=b) (N:=N);have hsl:(eJ eR (X1++Y1)).length=X1.length+Y1.length:=by rw [jI,aF]
      have w0:=ZI (P++X1) X2 Y1 (Y2++R) (a:=i) (m:=m) (b:=e) (N:=N);simp only [aF,hsl] at w0 w1 w2;have c0:i<m→m<e→_:=fun h h'=>w0 (by omega) (by omega) (by omega) (by omega) hl (by omega) (by omega)
      have c1:a<i→i<mid→_:=fun h h'=>w1 (by omega) (by omega) (by omega) ha (by omega) (by omega) (by omega) hl uX1 uY1 (fun w hw=>hwU w (by simp [hw])) (fun w hw=>hwV w (by simp [hw]))
      have c2:mid<e→e<b→_:=fun h h'=>w2 (by omega) (by omega) (by omega) (by omega) (by omega) (by omega) (by omega) hl uX2 uY2 (fun w hw=>hwU w (by simp [hw])) (fun w hw=>hwV w (by simp [hw]))
      have d0:¬ (i<m∧m<e)→D=P++(X1++(Y1++(X2++(Y2++R)))):=fun h=>by
        rw [← hDe];by_cases h':X2.length=0
        · rw [cF h'];simp
        · rw [cF (show Y1.length=0 by omega)];simp
      have d1:¬ (a<i∧i<mid)→P++(X1++(Y1++(X2++(Y2++R))))=P++(eJ eR (X1++Y1)++(X2++(Y2++R))):=fun h=>by
        by_cases h':X1.length=0
        · rw [cF h',List.nil_append,List.nil_append,AD uY1]
        · rw [cF (show Y1.length=0 by omega),List.nil_append,List.append_nil,AD uX1]
      have d2:¬ (mid<e∧e<b)→P++(eJ eR (X1++Y1)++(X2++(Y2++R)))=P++(eJ eR (X1++Y1)++eJ eR (X2++Y2)++R):=fun h=>by
        by_cases h':X2.length=0
        · rw [cF h',List.nil_append,List.nil_append,AD uY2];simp
        · rw [cF (show Y2.length=0 by omega),List.nil_append,List.append_nil,AD uX2];simp
      have g0:(P++X1)++(X2++(Y1++(Y2++R)))=D:=by rw [← hDe];simp
      have g1:(P++X1)++(Y1++(X2++(Y2++R)))=P++(X1++(Y1++(X2++(Y2++R)))):=by simp
      have g2:(P++eJ eR (X1++Y1))++(X2++(Y2++R))=P++(eJ eR (X1++Y1)++(X2++(Y2++R))):=by simp
      have g3:(P++eJ eR (X1++Y1))++(eJ eR (X2++Y2)++R)=P++(eJ eR (X1++Y1)++eJ eR (X2++Y2)++R):=by simp
      rw [g0,g1] at c0;rw [g2,g3] at c2;clear w0 w1 w2 ih g0 g1 g2 g3 hDe hwU hwV;generalize P++(eJ eR (X1++Y1)++eJ eR (X2++Y2)++R)=A3 at *;generalize P++(eJ eR (X1++Y1)++(X2++(Y2++R)))=A2 at *;generalize P++(X1++(Y1++(X2++(Y2++R))))=A1 at *;apply Go.Ab.cutT
      · intro rest;by_cases h:i<m∧m<e
        · have hc':=c0 h.1 h.2;rw [show (e:Int)=(mid:Int)+m-i by omega] at hc'
          (repeat' (first|refine wS ?_|refine wE ?_|(refine wC rfl ?_ ?_<;>(intro hb;(try simp only [nm] at hb);try (exfalso;omega)))|(refine rg 33 (dI rfl (vV (aL rfl rfl) ?_)))|(refine rg 38 (dI rfl (vV (cT rfl rfl (by omega) (by omega)) (aV ?_))))|(refine rg 39 (dI rfl (vV (aL rfl rfl) (mV ?_)));refine bQ rfl rfl ?_ ?_<;>(intro hb;rw [hb];(try simp only [nm] at hb);try (exfalso;omega));(all_goals (refine yN rfl (yN rfl (yV (aL rfl rfl) (pV ?_))))))|(refine rg 40 (dI rfl (dI rfl (mW rfl (eC [0] rfl rfl (hc') rfl rfl (by decide) ⟨.inr (aC rfl rfl (bX _)),trivial⟩ (by simp) rfl ?_)))))|refine nZ ?_));all_goals first | (exfalso;omega) | exact fO [(0,.sl 0 0 N 3),(1,.i a),(3,.i b),(4,tA),(18,.i mid),(20,.i i),(24,.i e)] [.arr (gM A1) 3] ⟨[0],rfl,⟨rfl,rfl,rfl,rfl,rfl,rfl,by rw [show (e:Int)=(mid:Int)+m-i by omega];rfl,trivial⟩,⟨.inr (aC rfl (bB _ (bX _)) (bX _)),trivial⟩,by decide,lY⟩ rest.get
        · obtain rfl:=d0 h
          (repeat' (first|refine wS ?_|refine wK ?_|refine wE ?_|refine wU ?_|(refine wC rfl ?_ ?_<;>(intro hb;(try simp only [nm] at hb);try (exfalso;omega)))|(refine rg 33 (dI rfl (vV (aL rfl rfl) ?_)))|(refine rg 38 (dI rfl (vV (cT rfl rfl (by omega) (by omega)) (aV ?_))))|(refine rg 39 (dI rfl (vV (aL rfl rfl) (mV ?_)));refine bQ rfl rfl ?_ ?_<;>(intro hb;rw [hb];(try simp only [nm] at hb);try (exfalso;omega));(all_goals first|(refine gT (mW rfl (gT (mW rfl (gT (vV (aL rfl rfl) ?_))))))|(iterate 3 refine gF ?_));(all_goals (refine pV ?_)))|refine nZ ?_));all_goals first | (exfalso;omega) | exact fO [(0,.sl 0 0 N 3),(1,.i a),(3,.i b),(4,tA),(18,.i mid),(20,.i i),(24,.i e)] [.arr (gM D) 3] ⟨[0],rfl,⟨rfl,rfl,rfl,rfl,rfl,rfl,by rw [show (e:Int)=(mid:Int)+m-i by omega];rfl,trivial⟩,⟨.inr (aC rfl rfl (bX _)),trivial⟩,by decide,lY⟩ rest.get
      clear c0 d0;apply Go.Ab.cutT
      · intro rest;by_cases h:a<i∧i<mid
        · have hc':=c1 h.1 h.2
          (repeat' (first|refine wS ?_|(refine wC rfl ?_ ?_<;>(intro hb;(try simp only [nm] at hb);try (exfalso;omega)))|(refine rg 41 (dI rfl (vV (aL rfl rfl) (mV ?_)));refine bQ rfl rfl ?_ ?_<;>(intro hb;rw [hb];(try simp only [nm] at hb);try (exfalso;omega));(all_goals (refine yN rfl (yN rfl (yV (aL rfl rfl) (pV ?_))))))|(refine rg 42 (dI rfl (dI rfl (mW rfl (eC [0] rfl rfl (hc') rfl rfl (by decide) ⟨.inr (aC rfl rfl (bX _)),trivial⟩ (by simp) rfl ?_)))))|refine nZ ?_));all_goals first | (exfalso;omega) | exact fO [(0,.sl 0 0 N 3),(1,.i a),(3,.i b),(4,tA),(18,.i mid),(24,.i e)] [.arr (gM A2) 3] ⟨[0],rfl,(by repeat first|exact trivial|refine ⟨rfl,?_⟩),⟨.inr (aC rfl (bB _ (bX _)) (bX _)),trivial⟩,by decide,lY⟩ rest.get
        · obtain rfl:=d1 h
          (repeat' (first|refine wS ?_|refine wK ?_|refine wU ?_|(refine wC rfl ?_ ?_<;>(intro hb;(try simp only [nm] at hb);try (exfalso;omega)))|(refine rg 41 (dI rfl (vV (aL rfl rfl) (mV ?_)));refine bQ rfl rfl ?_ ?_<;>(intro hb;rw [hb];(try simp only [nm] at hb);try (exfalso;omega));(all_goals first|(refine gT (mW rfl (gT (mW rfl (gT (vV (aL rfl rfl) ?_))))))|(iterate 3 refine gF ?_));(all_goals (refine pV ?_)))|refine nZ ?_));all_goals first | (exfalso;omega) | exact fO [(0,.sl 0 0 N 3),(1,.i a),(3,.i b),(4,tA),(18,.i mid),(24,.i e)] [.arr (gM A1) 3] ⟨[0],rfl,(by repeat first|exact trivial|refine ⟨rfl,?_⟩),⟨.inr (aC rfl rfl (bX _)),trivial⟩,by decide,lY⟩ rest.get
      clear c1 d1;by_cases h:mid<e∧e<b
      · have hc':=c2 h.1 h.2
        (repeat' (first|(refine wC rfl ?_ ?_<;>(intro hb;(try simp only [nm] at hb);try (exfalso;omega)))|(refine rg 43 (dI rfl (vV (aL rfl rfl) (mV ?_)));refine bQ rfl rfl ?_ ?_<;>(intro hb;rw [hb];(try simp only [nm] at hb);try (exfalso;omega));(all_goals (refine yN rfl (yN rfl (yV (aL rfl rfl) (pV ?_))))))|(refine rg 44 (dI rfl (dI rfl (mW rfl (eC [0] rfl rfl (hc') rfl rfl (by decide) ⟨.inr (aC rfl rfl (bX _)),trivial⟩ (by simp) rfl ?_)))))|refine nZ ?_));all_goals first | (exfalso;omega) | exact ⟨.inl rfl,[0],_,rfl,rfl,rfl,⟨.inr (aC rfl (bB _ (bX _)) (bX _)),trivial⟩,by decide,lY⟩ | exact ⟨.inr rfl,[0],_,rfl,rfl,rfl,⟨.inr (aC rfl (bB _ (bX _)) (bX _)),trivial⟩,by decide,lY⟩
      · obtain rfl:=d2 h
        (repeat' (first|refine wK ?_|refine wU ?_|(refine wC rfl ?_ ?_<;>(intro hb;(try simp only [nm] at hb);try (exfalso;omega)))|(refine rg 43 (dI rfl (vV (aL rfl rfl) (mV ?_)));refine bQ rfl rfl ?_ ?_<;>(intro hb;rw [hb];(try simp only [nm] at hb);try (exfalso;omega));(all_goals first|(refine gT (mW rfl (gT (mW rfl (gT (vV (aL rfl rfl) ?_))))))|(iterate 3 refine gF ?_));(all_goals (refine pV ?_)))|refine nZ ?_));all_goals first | (exfalso;omega) | exact ⟨.inl rfl,[0],_,rfl,rfl,rfl,⟨.inr (aC rfl rfl (bX _)),trivial⟩,by decide,lY⟩ | exact ⟨.inr rfl,[0],_,rfl,rfl,rfl,⟨.inr (aC rfl rfl (bX _)),trivial⟩,by decide,lY⟩
end Go.Proofs.YtmmmeebiobjnbaaGreat
namespace Go.Ld
open Go.Ab Go.Proofs.YtmmmeebiobjnbaaGreat
theorem SM {Q r1 r2:List W}{a b:Nat}(ha:a=Q.length) (hb:b=a+r1.length):XU (Q++(r1++r2)) a b=Q++(eJ eR r1++r2):=by
  subst ha hb;unfold XU;rw [xR,xT,show Q.length+r1.length-Q.length=r1.length by omega,xR,← OU,xT,xT]
theorem TG {Q r1 r2:List W}{w:W}(h:w∈(Q++eJ eR r1)++r2):w∈Q++(r1++r2):=by
  rw [bZ] at h;rcases bL.1 h with h | h
  · exact bL.2 (.inl h)
  · rcases bL.1 h with h | h
    · exact bL.2 (.inr (bL.2 (.inl ((dU _ _).mem_iff.1 h))))
    · exact bL.2 (.inr (bL.2 (.inr h)))
end Go.Ld
namespace Go.Proofs.YtmmmeebiobjnbaaGreat
open Go Go.Ab Go.Ld
attribute [local irreducible] VC AW cD aT
set_option maxHeartbeats 4000000
theorem YU (l:List W){N:Nat}(hN:N=l.length) (hl:N≤100000) (hw:∀ w,w∈l→Q3 w) :
    aT Tryz.prog 128 [.sl 0 0 N 3,.i N,tA] [.arr (gM l) 3] (.tup []) [.arr (gM (eJ eR l)) 3]:=by
  refine bU T Tryz.func128 rfl rfl rfl rfl ?_;apply Go.Ab.cutT
  · intro rest
    (repeat' (first|refine wS ?_|refine wB ?_|(refine rg 0 (aV ?_))|(refine rg 1 (mW rfl (sG ?_)))|refine nZ ?_));refine dA (X:={q:Nat × List W × List W // q.2.1.length=q.1∧q.1+q.2.2.length=N∧bs 20 l=q.2.1++bs 20 q.2.2∧∀ w,w∈q.2.1++q.2.2→w∈l})
      (fun q=>[(0,.sl 0 0 N 3),(1,.i N),(2,tA),(6,.i 20),(7,.i q.1.1),(8,.i ((q.1.1:Int)+20))]) (fun q=>[.arr (gM (q.1.2.1++q.1.2.2)) 3]) (fun q=>q.1.2.2.length) ⟨(0,[],l),by simp;omega⟩
      ⟨[0],rfl,by (repeat (first | exact trivial | refine ⟨rfl,?_⟩)),⟨.inr (aC rfl rfl (bX _)),trivial⟩,by decide,lY⟩ ?_
    rintro ⟨⟨a,Q,r⟩,h1,h2,h3,h4⟩;dsimp only at h1 h2 h3 h4 ⊢;by_cases hlt:a+20≤N
    · obtain ⟨r1,r2,rfl,hr⟩:∃ r1 r2,r=r1++r2∧r1.length=20:=⟨r.take 20,r.drop 20,by simp,by simp;omega⟩
      rw [aF] at h2;have hc:=NB (Q++(r1++r2)) a (a+20) (by omega) (by simp;omega) (by simp;omega) (fun w hw'=>hw w (h4 w hw'))
      rw [SM h1.symm (by omega),show (Q++(r1++r2)).length=N by simp;omega,show ((a+20:Nat):Int)=(a:Int)+20 by omega] at hc
      rw [DO hr (by omega)] at h3
      (repeat' (first|refine wS ?_|refine wB ?_|refine wK ?_|(refine wC rfl ?_ ?_<;>(intro hb;(try simp only [nm] at hb);try (exfalso;omega)))|(refine rg 2 (dI rfl (vV (iB rfl rfl) ?_)))|(refine rg 3 (dI rfl (dI rfl (eC [0] rfl rfl (hc) rfl rfl (by decide) ⟨.inr (aC rfl rfl (bX _)),trivial⟩ (by simp) rfl ?_))))|(refine rg 4 (mW rfl (aV ?_)))|(refine rg 5 (dI rfl (vV (cE rfl rfl (by omega) (by omega)) (aV ?_))))|refine nZ ?_));all_goals first | (exfalso;omega) | skip
      exact ⟨⟨(a+20,Q++eJ eR r1,r2),by dsimp only;exact ⟨by rw [aF,jI];omega,by omega,by rw [h3];simp,fun w hw'=>h4 w (TG hw')⟩⟩,by dsimp only;rw [aF];omega,⟨[0],rfl,by (repeat (first | exact trivial | refine ⟨rfl,?_⟩)),⟨.inr (aC rfl (by rw [bB _ (bX _),bZ]) (bX _)),trivial⟩,by decide,lY⟩⟩
    · have hc:=NB (Q++(r++[])) a N (by omega) (by simp;omega) (by simp;omega) (fun w hw'=>hw w (h4 w (by simpa using hw')))
      rw [SM h1.symm (by omega),List.append_nil,List.append_nil,show (Q++r).length=N by simp;omega,← Y0 (k:=20) (by omega),← h3] at hc
      (repeat' (first|refine wS ?_|refine wB ?_|refine wE ?_|(refine wC rfl ?_ ?_<;>(intro hb;(try simp only [nm] at hb);try (exfalso;omega)))|(refine rg 2 (dI rfl (vV (iB rfl rfl) ?_)))|(refine rg 6 (dI rfl (dI rfl (eC [0] rfl rfl (hc) rfl rfl (by decide) ⟨.inr (aC rfl rfl (bX _)),trivial⟩ (by simp) rfl ?_))))|refine nZ ?_));all_goals first | (exfalso;omega) | exact fO [(0,.sl 0 0 N 3),(1,.i N),(2,tA),(6,.i 20)] [.arr (gM (bs 20 l)) 3] ⟨[0],rfl,by (repeat (first | exact trivial | refine ⟨rfl,?_⟩)),⟨.inr (aC rfl (bB _ (bX _)) (bX _)),trivial⟩,by decide,lY⟩ rest.get
  refine dA (X:={k:Nat // 20≤k∧k≤200000}) (fun k=>[(0,.sl 0 0 N 3),(1,.i N),(2,tA),(6,.i k.1)]) (fun k=>[.arr (gM (bs k.1 l)) 3]) (fun k=>N-k.1) ⟨20,by omega,by omega⟩
    ⟨[0],rfl,by (repeat (first | exact trivial | refine ⟨rfl,?_⟩)),⟨.inr (aC rfl rfl (bX _)),trivial⟩,by decide,lY⟩ ?_
  rintro ⟨k,hk,hk2⟩;dsimp only;by_cases hkN:k<N
  · (repeat' (first|refine wS ?_|refine wB ?_|refine wK ?_|(refine wC rfl (fun hb=>?_) (fun hb=>?_) <;> (((try simp only [nm] at hb);try (exfalso;omega))))|(refine rg 7 (dI rfl (vV (aL rfl rfl) ?_)))|(refine rg 8 (mW rfl (vV (yU rfl rfl (by omega) (by omega)) (sG ?_))))|(refine nZ ?_)));all_goals try (exfalso;omega)
    refine dA (X:={q:Nat × List W × List W // q.2.1.length=q.1∧q.1+q.2.2.length=N∧bs (2*k) l=q.2.1++bs (2*k) q.2.2∧∀ w,w∈q.2.1++q.2.2→w∈l})
      (fun q=>[(0,.sl 0 0 N 3),(1,.i N),(2,tA),(6,.i k),(7,.i q.1.1),(8,.i ((q.1.1:Int)+2*k))]) (fun q=>[.arr (gM (q.1.2.1++bs k q.1.2.2)) 3]) (fun q=>q.1.2.2.length) ⟨(0,[],l),by simp;omega⟩
      ⟨[0],rfl,⟨rfl,rfl,rfl,rfl,rfl,by dsimp only;rw [show ((0:Nat):Int)+2*(k:Int)=2*k by omega];rfl,trivial⟩,⟨.inr (aC rfl rfl (bX _)),trivial⟩,by decide,lY⟩ ?_
    rintro ⟨⟨a,Q,r⟩,h1,h2,h3,h4⟩;dsimp only at h1 h2 h3 h4 ⊢;by_cases hlt:a+2*k≤N
    · obtain ⟨r1,r2,r3,rfl,hr1,hr2⟩:∃ r1 r2 r3,r=r1++(r2++r3)∧r1.length=k∧r2.length=k:=⟨r.take k,(r.drop k).take k,(r.drop k).drop k,by simp only [bS],by simp;omega,by simp;omega⟩
      simp only [aF] at h2;have hc:=zY2 (2*k) Q (eJ eR r1) (eJ eR r2) (bs k r3) (a:=a) (m:=a+k) (b:=a+2*k) (N:=N) (by omega) (by rw [jI]; omega) (by rw [jI]; omega) h1.symm (by rw [jI]; omega) (by rw [jI]; omega) (by rw [yF4]; omega) hl (mB jU _) (mB jU _)
        (fun w hw'=>hw w (h4 w (by have:=(dU eR _).mem_iff.1 hw';simp [this]))) (fun w hw'=>hw w (h4 w (by have:=(dU eR _).mem_iff.1 hw';simp [this])))
      rw [LN,← DO hr2 (by omega),← DO hr1 (by omega),show ((a+2*k:Nat):Int)=(a:Int)+2*k by omega,show ((a+k:Nat):Int)=(a:Int)+k by omega] at hc
      rw [← bZ r1,DO (k:=2*k) (by rw [aF];omega) (by omega)] at h3
      (repeat' (first|refine wS ?_|refine wB ?_|refine wK ?_|(refine wC rfl ?_ ?_<;>(intro hb;(try simp only [nm] at hb);try (exfalso;omega)))|(refine rg 9 (dI rfl (vV (iB rfl rfl) ?_)))|(refine rg 10 (dI rfl (dI rfl (vV (cE rfl rfl (by omega) (by omega)) (dI rfl (eC [0] rfl rfl (hc) rfl rfl (by decide) ⟨.inr (aC rfl rfl (bX _)),trivial⟩ (by simp) rfl ?_))))))|(refine rg 11 (mW rfl (aV ?_)))|(refine rg 12 (dI rfl (vV (yU rfl rfl (by omega) (by omega)) (vV (cE rfl rfl (by omega) (by omega)) (aV ?_)))))|refine nZ ?_));all_goals first | (exfalso;omega) | skip
      exact ⟨⟨(a+2*k,Q++eJ eR (r1++r2),r3),by dsimp only;exact ⟨by rw [aF,jI,aF];omega,by omega,by rw [h3];simp,fun w hw'=>h4 w (by have:=TG hw';rwa [bZ] at this)⟩⟩,by dsimp only;simp only [aF];omega,⟨[0],rfl,by (repeat (first | exact trivial | refine ⟨rfl,?_⟩)),⟨.inr (aC rfl (by rw [bB _ (bX _),bZ]) (bX _)),trivial⟩,by decide,lY⟩⟩
    · by_cases hm:a+k<N
      · obtain ⟨r1,r2,rfl,hr1⟩:∃ r1 r2,r=r1++r2∧r1.length=k:=⟨r.take k,r.drop k,by simp,by simp;omega⟩
        simp only [aF] at h2;have hc:=zY2 (2*k) Q (eJ eR r1) (eJ eR r2) [] (a:=a) (m:=a+k) (b:=N) (N:=N) (by omega) (by rw [jI]; omega) (by rw [jI]; omega) h1.symm (by rw [jI]; omega) (by rw [jI]; omega) (by simp) hl (mB jU _) (mB jU _)
          (fun w hw'=>hw w (h4 w (by have:=(dU eR _).mem_iff.1 hw';simp [this]))) (fun w hw'=>hw w (h4 w (by have:=(dU eR _).mem_iff.1 hw';simp [this])))
        rw [LN,List.append_nil,List.append_nil,← Y0 (k:=2*k) (l:=r1++r2) (by rw [aF];omega),← h3,← Y0 (k:=k) (l:=r2) (by omega),← DO hr1 (by omega),show ((a+k:Nat):Int)=(a:Int)+k by omega] at hc
        (repeat' (first|refine wS ?_|refine wE ?_|(refine wC rfl ?_ ?_<;>(intro hb;(try simp only [nm] at hb);try (exfalso;omega)))|(refine rg 9 (dI rfl (vV (iB rfl rfl) ?_)))|(refine rg 13 (dI rfl (vV (cE rfl rfl (by omega) (by omega)) (aV ?_))))|(refine rg 14 (dI rfl (vV (aL rfl rfl) ?_)))|(refine rg 15 (dI rfl (dI rfl (mW rfl (eC [0] rfl rfl (hc) rfl rfl (by decide) ⟨.inr (aC rfl rfl (bX _)),trivial⟩ (by simp) rfl ?_)))))|(refine rg 16 (mW rfl (vV (yU rfl rfl (by omega) (by omega)) (aV ?_))))|refine nZ ?_));all_goals first | (exfalso;omega) | skip
        exact ⟨⟨2*k,by omega,by omega⟩,by dsimp only;omega,⟨[0],rfl,⟨rfl,rfl,rfl,by dsimp only;rw [show ((2*k:Nat):Int)=(k:Int)*2 by omega];rfl,trivial⟩,⟨.inr (aC rfl (bB _ (bX _)) (bX _)),trivial⟩,by decide,lY⟩⟩
      · rw [Y0 (k:=2*k) (l:=r) (by omega),← Y0 (k:=k) (l:=r) (by omega)] at h3
        rw [← h3]
        (repeat' (first|refine wS ?_|refine wK ?_|refine wE ?_|(refine wC rfl ?_ ?_<;>(intro hb;(try simp only [nm] at hb);try (exfalso;omega)))|(refine rg 9 (dI rfl (vV (iB rfl rfl) ?_)))|(refine rg 13 (dI rfl (vV (cE rfl rfl (by omega) (by omega)) (aV ?_))))|(refine rg 14 (dI rfl (vV (aL rfl rfl) ?_)))|(refine rg 16 (mW rfl (vV (yU rfl rfl (by omega) (by omega)) (aV ?_))))|refine nZ ?_));all_goals first | (exfalso;omega) | skip
        exact ⟨⟨2*k,by omega,by omega⟩,by dsimp only;omega,⟨[0],rfl,⟨rfl,rfl,rfl,by dsimp only;rw [show ((2*k:Nat):Int)=(k:Int)*2 by omega];rfl,trivial⟩,⟨.inr (aC rfl rfl (bX _)),trivial⟩,by decide,lY⟩⟩
  · rw [Y0 (k:=k) (l:=l) (by omega)]
    (repeat' (first|refine wS ?_|refine wE ?_|(refine wC rfl ?_ ?_<;>(intro hb;(try simp only [nm] at hb);try (exfalso;omega)))|(refine rg 7 (dI rfl (vV (aL rfl rfl) ?_)))|refine nZ ?_));all_goals first | (exfalso;omega) | exact ⟨.inl rfl,[0],_,rfl,rfl,rfl,⟨.inr (aC rfl rfl (bX _)),trivial⟩,by decide,lY⟩ | exact ⟨.inr rfl,[0],_,rfl,rfl,rfl,⟨.inr (aC rfl rfl (bX _)),trivial⟩,by decide,lY⟩
theorem zO1 (l:List W){N:Nat}(hN:N=l.length) (hl:N≤100000) (hw:∀ w,w∈l→Q3 w) :
    aT Tryz.prog 92 [.sl 0 0 N 3,tA] [.arr (gM l) 3] (.tup []) [.arr (gM (eJ eR l)) 3]:=by
  have hc:=YU l hN hl hw;refine bU T Tryz.func92 rfl rfl rfl rfl ?_
  (repeat' (first|(refine rg 0 (dI rfl (qW T rfl (mW rfl (eC [0] rfl rfl (hc) rfl rfl (by decide) ⟨.inr (aC rfl rfl (bX _)),trivial⟩ (by simp) rfl ?_)))))|refine nZ ?_));all_goals first | (exfalso;omega) | exact ⟨.inl rfl,[0],_,rfl,rfl,rfl,⟨.inr (aC rfl (bB _ (bX _)) (bX _)),trivial⟩,by decide,lY⟩ | exact ⟨.inr rfl,[0],_,rfl,rfl,rfl,⟨.inr (aC rfl (bB _ (bX _)) (bX _)),trivial⟩,by decide,lY⟩
end Go.Proofs.YtmmmeebiobjnbaaGreat
namespace Go.Ld
open Go.Ab Go.Proofs.YtmmmeebiobjnbaaGreat
abbrev w0:W:=([],0,[])
def C8 (l:List W):Nat→List W
  | 0=>[]
  | m+1=>if 0<m∧H9 (l.getD m w0) (l.getD (m-1) w0)=true then C8 l m else C8 l m++[l.getD m w0]
theorem RE {l:List W}{m:Nat}(h:0<m) (e:H9 (l.getD m w0) (l.getD (m-1) w0)=true):C8 l (m+1)=C8 l m:=by
  rw [C8,if_pos ⟨h,e⟩]
theorem RD {l:List W}{m:Nat}(e:H9 (l.getD m w0) (l.getD (m-1) w0)=false):C8 l (m+1)=C8 l m++[l.getD m w0]:=by
  rw [C8,if_neg (fun q=>by rw [e] at q;cases q.2)]
theorem RC (l:List W):C8 l 1=[l.getD 0 w0]:=by
  rw [C8,if_neg (fun q=>Nat.lt_irrefl _ q.1)];rfl
theorem HF (y:W):∀ (A:List W) (p:W),lB H9 p (A++[y])=lB H9 p A++(if H9 y ((p::A).getLastD w0)=true then [] else [y])
  | [],p=>by
    show (if H9 y p=true then [] else [y])=_
    simp [lB]
  | x::A,p=>by
    rw [List.cons_append,lB,lB,HF y A x];have e:((p::x::A).getLastD w0)=((x::A).getLastD w0):=by simp [List.getLastD]
    rw [e];split <;> simp
theorem zG7 (y:W) (A:List W) (h:A≠[]):C7 H9 (A++[y])=C7 H9 A++(if H9 y (A.getLastD w0)=true then [] else [y]):=by
  cases A with
  | nil=>exact absurd rfl h
  | cons x A=>rw [List.cons_append];show x::lB H9 x (A++[y])=_;rw [HF];rfl
theorem pI {l:List W}{m:Nat}(h:m<l.length):l.getD m w0=l[m]:=by rw [aD,aA h];rfl
theorem UF (l:List W):∀ m,m≤l.length→C8 l m=C7 H9 (l.take m)
  | 0,_=>by rw [jM];rfl
  | m+1,h=>by
    have e:l.take (m+1)=l.take m++[l.getD m w0]:=by rw [pI (by omega),aP (by omega)]
    rcases P7 m with rfl | h0
    · rw [RC,e];rfl
    · have hne:l.take m≠[]:=fun q=>by have:=congrArg List.length q;rw [bH,List.length_nil] at this;omega
      rw [e,zG7 _ _ hne,← UF l m (by omega)]
      have hl:(l.take m).getLastD w0=l.getD (m-1) w0:=by
        rw [List.getLastD_eq_getLast?,List.getLast?_eq_getElem?,bH,yG4 (by omega),List.getElem?_take_of_lt (by omega),aD]
      rw [hl];cases hq:H9 (l.getD m w0) (l.getD (m-1) w0) with
      | true=>rw [RE h0 hq,if_pos rfl,List.append_nil]
      | false=>rw [RD hq,if_neg (by simp)]
theorem yF1 (l:List W):C8 l l.length=C7 H9 l:=by rw [UF l _ (aU _),cQ]
theorem yR3 {l:List W}{m i:Nat}(hm:m<l.length) (hi:i=m):(gM l)[i]? = some (wA (l.getD m w0)):=by
  subst hi;simp [hm]
theorem RM {G l:List W}{m:Nat}{i:Nat}(hg:G.length≤m) (hm:m<l.length) (hi:i=m):(gM (G++l.drop G.length))[i]? = some (wA (l.getD m w0)):=by
  subst hi;rw [bY,aE hg,eF,show G.length+(i-G.length)=i by omega,aA hm,pI hm];rfl
theorem yB0 {G l:List W}{x:W}{j:Int}(h:G.length<l.length) (hj:j=G.length):(gM (G++l.drop G.length)).set (0+j.toNat) (wA x)=gM ((G++[x])++l.drop (G++[x]).length):=by
  rw [xY (i:=G.length) hj,aY h,oM _ _ _ _ rfl];simp
theorem WH {G l:List W}(h:G.length≤l.length):(gM (G++l.drop G.length)).length=l.length:=by simp;omega
theorem YK {G:List W}{l:List W}:(gM (G++l.drop G.length)).take (0+(G.length:Int).toNat)=gM G:=by
  rw [Nat.zero_add,bP,← kY,xR]
end Go.Ld
namespace Go.Proofs.YtmmmeebiobjnbaaGreat
open Go Go.Ab Go.Ld
attribute [local irreducible] VC AW cD aT
set_option maxHeartbeats 4000000
abbrev yO3:AV:=.clo (.func 98) [] []
theorem QZ (l:List W) (hl:l.length≤1000000) (hw:∀ w,w∈l→Q3 w):aT Tryz.prog 97 [.sl 0 0 l.length 3,yO3] [.arr (gM l) 3] (.sl 0 0 (C7 H9 l).length 3) [.arr (gM (C7 H9 l)) 3]:=by
  rw [← yF1];have hll:(gM l).length=l.length:=fR l;refine bU T Tryz.func97 rfl rfl rfl rfl ?_;by_cases h2:l.length<2
  · have hk:C8 l l.length=l:=by
      match l,h2 with
      | [],_=>rfl
      | [a],_=>exact RC _
      | _::_::_,h=>exact absurd h (by simp)
    rw [hk]
    (repeat' (first|refine wS ?_|refine wR ?_|(refine wC rfl ?_ ?_<;>(intro hb;(try simp only [nm] at hb);try (exfalso;omega)))|(refine rg 0 (aV ?_))|(refine rg 1 (mW rfl (qW T rfl (vV (aL rfl rfl) ?_))))|(refine rg 2 (mW rfl (aV ?_)))|refine nZ ?_));all_goals first | (exfalso;omega) | exact ⟨.inl rfl,[0],_,rfl,rfl,rfl,⟨.inr (aC rfl rfl (bX _)),trivial⟩,by decide,lY⟩
  · (repeat' (first|refine wS ?_|refine wB ?_|refine wK ?_|(refine wC rfl (fun hb=>?_) (fun hb=>?_) <;> (((try simp only [nm] at hb);try (exfalso;omega))))|(refine rg 0 (aV ?_))|(refine rg 1 (mW rfl (qW T rfl (vV (aL rfl rfl) ?_))))|(refine rg 3 (aV ?_))|(refine nZ ?_)));all_goals try (exfalso;omega)
    refine dA (X:={k:Nat // 1≤k∧k≤l.length∧C8 l k=l.take k}) (fun k=>[(0,.sl 0 0 l.length 3),(1,yO3),(5,.i k.1)]) (fun _=>[.arr (gM l) 3]) (fun k=>l.length-k.1) ⟨1,by omega,by omega,by rw [RC,pI (by omega),aP (by omega)];rfl⟩ ⟨[0],rfl,by (repeat (first | exact trivial | refine ⟨rfl,?_⟩)),⟨.inr (aC rfl rfl (bX _)),trivial⟩,by decide,lY⟩ ?_
    rintro ⟨k,hk1,hk,hkc⟩;dsimp only;by_cases hlt:k<l.length
    · have e1:=yR3 (i:=0+(k:Int).toNat) hlt (by omega)
      have e2:=yR3 (l:=l) (m:=k-1) (i:=0+((k:Int)-1).toNat) (by omega) (by omega)
      have hc:=CK (l.getD k w0) (l.getD (k-1) w0) (hw _ (by rw [pI hlt];exact aM _)) (hw _ (by rw [pI (by omega)];exact aM _))
      cases hd:H9 (l.getD k w0) (l.getD (k-1) w0) with
      | true=>
        have hc1:=RE (l:=l) hk1 hd;rw [hkc] at hc1;rw [hd] at hc;clear hd;generalize l.getD k w0=a at *;generalize l.getD (k-1) w0=b at *
        (repeat' (first|refine wS ?_|refine wB ?_|refine wK ?_|refine wT ?_|(refine wC rfl ?_ ?_<;>(intro hb;(try simp only [nm] at hb);try (exfalso;omega)))|(refine rg 4 (dI rfl (qW T rfl (vV (aL rfl rfl) ?_))))|(refine rK (id:=6) 10 66 yU8 yU9 (rM 18 10) yV0 cK rfl (by decide +kernel) (by decide +kernel) ?_;(dsimp only [List.take,List.drop]);refine dN rfl (dN rfl (dN rfl (dV rfl (by exact aI T rfl rfl rfl rfl rfl (by omega) (by omega)) ?_)));refine dV rfl (by exact aK T rfl rfl (bF rfl e1) rfl) ?_;refine dN rfl (dN rfl (dV rfl (cT rfl rfl (by omega) (by omega)) (dV rfl (by exact aI T rfl rfl rfl rfl rfl (by omega) (by omega)) ?_)));refine dV rfl (by exact aK T rfl rfl (bF rfl e2) rfl) ?_;refine dE ?_;refine iM ?_;refine vV (kC (hc)) ?_)|(refine rg 7 (dI rfl (vV (by exact jZ T rfl rfl rfl rfl rfl rfl (by omega) (by omega) (by omega)) ?_));refine aV ?_)|(refine rg 8 (aV ?_))|refine nZ ?_));all_goals try (exfalso;omega)
        have hl1:(C8 l (k+1)).length=k:=by rw [hc1];simp;omega
        refine dA (X:={j:Nat // 1≤j∧k+j≤l.length∧(C8 l (k+j)).length+1≤k+j}) (fun j=>[(0,.sl 0 0 l.length 3),(1,yO3),(5,.i (C8 l (k+j.1)).length),(6,.sl 0 (0+(k:Int).toNat) ((l.length:Int)-(k:Int)).toNat 3),(7,.i j.1)]) (fun j=>[.arr (gM (C8 l (k+j.1)++l.drop (C8 l (k+j.1)).length)) 3]) (fun j=>l.length-(k+j.1)) ⟨1,by omega,by omega,by omega⟩ ⟨[0],rfl,⟨rfl,rfl,by dsimp only;rw [hl1];rfl,rfl,rfl,trivial⟩,⟨.inr (aC rfl (by dsimp only;rw [hl1,hc1,bS]) (bX _)),trivial⟩,by decide,lY⟩ ?_
        clear e1 e2 hl1 hc1 hc a b;rintro ⟨j,hj1,hj,hjc⟩;dsimp only;by_cases hjl:k+j<l.length
        · have e1:=RM (G:=C8 l (k+j)) (l:=l) (m:=k+j) (i:=0+(k:Int).toNat+(j:Int).toNat) (by omega) hjl (by omega)
          have e2:=RM (G:=C8 l (k+j)) (l:=l) (m:=k+j-1) (i:=0+(k:Int).toNat+((j:Int)-1).toNat) (by omega) (by omega) (by omega)
          have e3:=RM (G:=C8 l (k+j)) (l:=l) (m:=(C8 l (k+j)).length) (i:=0+(((C8 l (k+j)).length:Nat):Int).toNat) (aU _) (by omega) (by omega)
          have hset:=yB0 (G:=C8 l (k+j)) (l:=l) (x:=l.getD (k+j) w0) (j:=(((C8 l (k+j)).length:Nat):Int)) (by omega) rfl
          have hal:=WH (G:=C8 l (k+j)) (l:=l) (by omega)
          have hdup:=RE (l:=l) (m:=k+j) (by omega)
          have hnew:=RD (l:=l) (m:=k+j);have hc:=CK (l.getD (k+j) w0) (l.getD (k+j-1) w0) (hw _ (by rw [pI hjl];exact aM _)) (hw _ (by rw [pI (by omega)];exact aM _))
          have hnl:∀ G:List W,(G++[l.getD (k+j) w0]).length=G.length+1:=fun G=>by simp
          rw [show k+j+1=k+(j+1) by omega] at hdup hnew
          generalize l.getD (k+j) w0=a at *;generalize l.getD (k+j-1) w0=b at *;generalize l.getD (C8 l (k+j)).length w0=y at *;generalize C8 l (k+j)=G at *;cases hd:H9 a b with
          | true=>
            have hdup:=hdup hd;rw [hd] at hc;generalize hA:gM (G++l.drop G.length)=A at *
            (repeat' (first|refine wS ?_|refine wB ?_|refine wK ?_|refine wU ?_|(refine wC rfl ?_ ?_<;>(intro hb;(try simp only [nm] at hb);try (exfalso;omega)))|(refine rg 9 (dI rfl (qW T rfl (vV (aL rfl rfl) ?_))))|(refine bV (id:=11) 66 yV1 (rM 38 12) yV2 cK rfl (by decide +kernel) (dN rfl (dN rfl (dN rfl (dV rfl (by exact aI T rfl rfl rfl rfl rfl (by omega) (by omega)) ?_))));refine dV rfl (by exact aK T rfl rfl (bF rfl e1) rfl) ?_;refine dN rfl (dN rfl (dV rfl (cT rfl rfl (by omega) (by omega)) (dV rfl (by exact aI T rfl rfl rfl rfl rfl (by omega) (by omega)) ?_)));refine dV rfl (by exact aK T rfl rfl (bF rfl e2) rfl) ?_;refine dV rfl (kC (hc)) (dV rfl (eH rfl) (dE ?_)))|(refine iA 10 rfl rfl rfl (by omega) (by omega) ?_)|refine nZ ?_));all_goals try (exfalso;omega)
            all_goals exact ⟨⟨j+1,by omega,by omega,by rw [hdup];omega⟩,by dsimp only;omega,[0],rfl,⟨rfl,rfl,by dsimp only;rw [hdup];rfl,rfl,rfl,trivial⟩,⟨.inr (aC rfl (by dsimp only;rw [hdup];exact hA.symm) (bX _)),trivial⟩,by decide,lY⟩
          | false=>
            have hnew:=hnew hd;have hgl:=hnl G;rw [hd] at hc;generalize hA:gM (G++l.drop G.length)=A at *
            (repeat' (first|refine wS ?_|refine wB ?_|refine wK ?_|refine wT ?_|(refine wC rfl ?_ ?_<;>(intro hb;(try simp only [nm] at hb);try (exfalso;omega)))|(refine rg 9 (dI rfl (qW T rfl (vV (aL rfl rfl) ?_))))|(refine bV (id:=11) 66 yV1 (rM 38 12) yV2 cK rfl (by decide +kernel) (dN rfl (dN rfl (dN rfl (dV rfl (by exact aI T rfl rfl rfl rfl rfl (by omega) (by omega)) ?_))));refine dV rfl (by exact aK T rfl rfl (bF rfl e1) rfl) ?_;refine dN rfl (dN rfl (dV rfl (cT rfl rfl (by omega) (by omega)) (dV rfl (by exact aI T rfl rfl rfl rfl rfl (by omega) (by omega)) ?_)));refine dV rfl (by exact aK T rfl rfl (bF rfl e2) rfl) ?_;refine dV rfl (kC (hc)) (dV rfl (eH rfl) (dE ?_)))|(refine rg 12 (dI rfl (dI rfl (vV (by exact aI T rfl rfl rfl rfl rfl (by omega) (by omega)) ?_)));refine vV (by exact aK T rfl rfl (bF rfl e1) rfl) ?_;refine vV (by exact aI T rfl rfl rfl rfl rfl (by omega) (by omega)) ?_;refine bD T rfl rfl rfl rfl rfl rfl (by decide) (lR rfl e3 rfl) ?_)|(refine iA 13 rfl rfl rfl (by omega) (by omega) ?_)|(refine iA 10 rfl rfl rfl (by omega) (by omega) ?_)|refine nZ ?_));all_goals try (exfalso;omega)
            all_goals exact ⟨⟨j+1,by omega,by omega,by rw [hnew];omega⟩,by dsimp only;omega,[0],rfl,⟨rfl,rfl,by dsimp only;rw [hnew,hgl];rfl,rfl,rfl,trivial⟩,⟨.inr (aC rfl (by dsimp only;rw [hnew];exact hset) (bX _)),trivial⟩,by decide,lY⟩
        · have hkj:k+j=l.length:=by omega
          have hcm:C8 l l.length=C8 l (k+j):=by rw [hkj]
          have hal:=WH (G:=C8 l (k+j)) (l:=l) (by omega)
          have htk:=YK (G:=C8 l (k+j)) (l:=l);rw [hcm];generalize C8 l (k+j)=G at *
          (repeat' (first|refine wS ?_|refine wR ?_|refine wE ?_|(refine wC rfl ?_ ?_<;>(intro hb;(try simp only [nm] at hb);try (exfalso;omega)))|(refine rg 9 (dI rfl (qW T rfl (vV (aL rfl rfl) ?_))))|(refine rg 14 (dI rfl (vV (by exact jZ T rfl rfl rfl rfl rfl rfl (by omega) (by omega) (by omega)) ?_));refine Q4 T rfl rfl rfl ⟨rfl,rfl,by decide⟩ rfl (by rw [hal];omega) ?_)|(refine rg 15 (dI rfl (vV (by exact jZ T rfl rfl rfl rfl rfl rfl (by omega) (by omega) (by omega)) ?_));refine aV ?_)|refine nZ ?_));all_goals try (exfalso;omega)
          all_goals exact ⟨.inl rfl,[0],_,rfl,(by show AV.sl 0 0 ((G.length:Int)-0).toNat 3=AV.sl 0 0 G.length 3;rw [show ((G.length:Int)-0).toNat=G.length by omega]),rfl,⟨.inr (aC rfl htk (bX _)),trivial⟩,by decide,lY⟩
      | false=>
        have hnew:=RD (l:=l) hd;rw [hkc,pI hlt,← aP hlt] at hnew;rw [hd] at hc;clear hd;generalize l.getD k w0=a at *;generalize l.getD (k-1) w0=b at *
        (repeat' (first|refine wS ?_|refine wB ?_|refine wK ?_|refine wU ?_|(refine wC rfl ?_ ?_<;>(intro hb;(try simp only [nm] at hb);try (exfalso;omega)))|(refine rg 4 (dI rfl (qW T rfl (vV (aL rfl rfl) ?_))))|(refine rK (id:=6) 10 66 yU8 yU9 (rM 18 10) yV0 cK rfl (by decide +kernel) (by decide +kernel) ?_;(dsimp only [List.take,List.drop]);refine dN rfl (dN rfl (dN rfl (dV rfl (by exact aI T rfl rfl rfl rfl rfl (by omega) (by omega)) ?_)));refine dV rfl (by exact aK T rfl rfl (bF rfl e1) rfl) ?_;refine dN rfl (dN rfl (dV rfl (cT rfl rfl (by omega) (by omega)) (dV rfl (by exact aI T rfl rfl rfl rfl rfl (by omega) (by omega)) ?_)));refine dV rfl (by exact aK T rfl rfl (bF rfl e2) rfl) ?_;refine dE ?_;refine iM ?_;refine vV (kC (hc)) ?_)|(refine iA 5 rfl rfl rfl (by omega) (by omega) ?_)|refine nZ ?_));all_goals try (exfalso;omega)
        all_goals exact ⟨⟨k+1,by omega,hlt,hnew⟩,by dsimp only;omega,[0],rfl,by (repeat (first | exact trivial | refine ⟨rfl,?_⟩)),⟨.inr (aC rfl rfl (bX _)),trivial⟩,by decide,lY⟩
    · obtain rfl:k=l.length:=by omega
      have hcm:C8 l l.length=l:=by rw [hkc,cQ]
      rw [hcm]
      (repeat' (first|refine wS ?_|refine wR ?_|refine wE ?_|(refine wC rfl ?_ ?_<;>(intro hb;(try simp only [nm] at hb);try (exfalso;omega)))|(refine rg 4 (dI rfl (qW T rfl (vV (aL rfl rfl) ?_))))|(refine rg 16 (mW rfl (aV ?_)))|refine nZ ?_));all_goals first | (exfalso;omega) | exact ⟨.inl rfl,[0],_,rfl,rfl,rfl,⟨.inr (aC rfl rfl (bX _)),trivial⟩,by decide,lY⟩
theorem NX (l:List W) (hl:l.length≤1000000):aT Tryz.prog 91 [.rowE (gM l) 3] [] (.sl 0 0 l.length 3) [.arr (gM l) 3]:=by
  have hll:(gM l).length=l.length:=fR l;refine bU T Tryz.func91 rfl rfl rfl rfl ?_
  repeat' (first|refine wS ?_|refine wK ?_|refine wT ?_|refine wU ?_|(refine rg 0 (aV ?_))|(refine rg 1 (mV ?_);refine uG T rfl rfl rfl rfl fun b hb=>?_;cases b)|refine nZ ?_)
  · (repeat' (first|refine wR ?_|(refine rg 3 (cC (by exact bE T rfl rfl (by decide) (by decide) rfl rfl rfl) rfl ?_);refine mW rfl (fS T rfl rfl rfl rfl rfl rfl (by decide) (.row (pZ l)) (zZ8 l) (by simp;omega) (by simp;omega) rfl ?_);refine aV ?_)|(refine nZ ?_)));exact ⟨.inl rfl,[1],_,rfl,(by show AV.sl 1 0 (0+(gM l).length) 3=AV.sl 1 0 l.length 3;simp),rfl,⟨.inr (aC rfl rfl (bX _)),trivial⟩,by decide,R9⟩
  · have hl0:l=[]:=fI.1 (Classical.byContradiction fun h=>by have:=hb (by omega);cases this)
    subst hl0
    (repeat' (first|refine wR ?_|(refine rg 2 (vV (dK rfl) (nY 2 3 rfl (by decide) ?_)))|refine nZ ?_));exact ⟨.inl rfl,[0],_,rfl,rfl,rfl,⟨.inr (aC rfl rfl (bX _)),trivial⟩,by decide,R9⟩
theorem gV:∀ {es:List (List AV)},(∀ e,e∈es→AV.idfL e=true)→AV.idfL es.flatten=true
  | [],_=>rfl
  | e::es,h=>by
    have h1:=h e aQ;have h2:=gV (es:=es) fun q hq=>h q (aJ _ hq);rw [eQ];generalize es.flatten=F at *;clear h
    induction e with
    | nil=>exact h2
    | cons x e ih=>
      simp only [List.cons_append,AV.idfL,aN] at h1 ⊢;exact ⟨h1.1,ih h1.2⟩
theorem GC (l:List W) (hl:l.length≤100000) (hw:∀ w,w∈l→Q3 w):aT Tryz.prog 64 [.rowE (gM l) 3] [] (.rowE (gM (gS l)) 3) []:=by
  refine kL (by simp:(gS l).length=(gM (gS l)).length) (gV (bX _)) ?_
  have h1:=NX l (by omega)
  have h2:=zO1 l rfl hl hw;have h3:=QZ (eJ eR l) (by rw [jI];omega) (fun w h=>hw w ((dU _ _).mem_iff.1 h))
  rw [jI] at h3;show aT _ _ _ _ (.sl 0 0 (C7 H9 (eJ eR l)).length 3) [.arr (gM (C7 H9 (eJ eR l))) 3];generalize C7 H9 (eJ eR l)=R at *;refine bU T Tryz.func64 rfl rfl rfl rfl ?_
  (repeat' (first|refine wS ?_|refine wR ?_|(refine rg 0 (aV ?_))|(refine rg 1 (mW rfl (cC (by exact fN rfl rfl h1 (.inr ⟨rfl,rfl,by simp⟩)) rfl ?_));refine aV ?_)|(refine rg 2 (mW rfl (eC [0] rfl rfl (h2) rfl rfl (by decide) ⟨.inr (aC rfl (bB _ (bX _)) (bX _)),trivial⟩ (by simp) rfl ?_)))|(refine rg 3 (mW rfl (eC [0] rfl rfl (h3) rfl rfl (by decide) ⟨.inr (aC rfl (bB _ (bX _)) (bX _)),trivial⟩ (by simp) rfl ?_));refine aV ?_)|refine nZ ?_));all_goals exact ⟨.inl rfl,[0],_,rfl,rfl,rfl,⟨.inr (aC rfl (bB _ (bX _)) (bX _)),trivial⟩,by decide,fun i h=>absurd h (eG _)⟩
end Go.Proofs.YtmmmeebiobjnbaaGreat
namespace Go.Ab
open Go
mutual
def AV.pln:AV→Bool
  | .v _=>true
  | .any=>true
  | .row ..=>true
  | .mrow ..=>true
  | .pr ..=>true
  | .agg cs=>AV.plnL cs
  | _=>false
def AV.plnL:List AV→Bool
  | []=>true
  | x::l=>AV.pln x&&AV.plnL l
end
mutual
theorem UX {h:Hp}:∀ (x:AV),x.pln=true→oF h x x
  | .v x,_=>.v x
  | .any,_=>.any
  | .row cs l s,_=>.row cs l s
  | .mrow ks vs,_=>.mrow ks vs
  | .pr cs o,_=>.pr cs o
  | .agg cs,e=>.agg (lJ cs (by simpa [AV.pln] using e))
  | .ptr ..,e | .ep ..,e | .sl ..,e | .mp ..,e | .tup ..,e | .clo ..,e | .cond ..,e | .ifc ..,e=>by simp [AV.pln] at e
theorem lJ {h:Hp}:∀ (xs:List AV),AV.plnL xs=true→mM h xs xs
  | [],_=>.nil
  | x::l,e=>by
    simp only [AV.plnL,aN] at e;exact .cons (UX x e.1) (lJ l e.2)
end
theorem W2:∀ (a b:List AV),AV.plnL (a++b)=(AV.plnL a&&AV.plnL b)
  | [],b=>by simp [AV.plnL]
  | x::a,b=>by simp [AV.plnL,W2 a b,Bool.and_assoc]
theorem pG {α:Type}{g:α→List AV}(hg:∀ a,AV.plnL (g a)=true):∀ l:List α,AV.plnL (l.map g).flatten=true
  | []=>rfl
  | a::l=>by rw [List.map_cons,eQ,W2,hg a,pG hg l];rfl
theorem nP {h:Hp}{k n sz:Nat}{es:List (List AV)}(hk:h[k]? = some (.arr es sz)) (hn:n=es.length) (hp:AV.plnL es.flatten=true):oF h (.sl k 0 n sz) (.rowE es sz):=by
  subst hn;refine oF.sl hk (by omega) ?_
  rw [kG,cQ];exact lJ _ hp
end Go.Ab
namespace Go.Ld
open Go.Ab Go.Proofs.YtmmmeebiobjnbaaGreat
theorem iP (l:List SP):(fY l).length=l.length:=aX _
theorem fL (l:List SP):∀ e,e∈fY l→AV.idfL e=true:=by intro e he;obtain ⟨i,_,rfl⟩:=bA.1 he;rfl
theorem FI (l:List SP):(fY l).flatten.all AV.one=true:=by
  induction l with
  | nil=>rfl
  | cons x l ih=>exact ih
theorem wY {l:List SP}{j:Int}{i:Nat}(h:i<l.length) (e:j=i):(fY l)[j.toNat]? = some [AV.i (l.getD i (0,0)).1,AV.i (l.getD i (0,0)).2]:=by
  subst e;rw [bP,bY,aA h,aD,aA h];rfl
theorem L5 {l:List SP}{j:Int}{i:Nat}(h:i<l.length) (e:j=i):(fY l)[0+j.toNat]? = some [AV.i (l.getD i (0,0)).1,AV.i (l.getD i (0,0)).2]:=by
  rw [Nat.zero_add];exact wY h e
theorem BI {l:List SP}{j:Int}{i:Nat}{r:SP}(e:j=i):(fY l).set (0+j.toNat) [AV.i r.1,AV.i r.2]=fY (l.set i r):=by
  subst e;rw [Nat.zero_add,bP];show _=List.map (fun p:SP=>[AV.i p.1,AV.i p.2]) (l.set i r);rw [oK]
end Go.Ld
namespace Go.Proofs.YtmmmeebiobjnbaaGreat
open Go Go.Ab Go.Ld
attribute [local irreducible] VC AW cD aT
set_option maxHeartbeats 4000000
theorem jY (l:List Nat):∀ i:Nat,i<0→l[i]? = some i:=fun i h=>absurd h (eG _)
theorem zG8 (l:List SP) (hl:l.length≤1000000):aT Tryz.prog 124 [.rowE (fY l) 2] [] (.sl 0 0 l.length 2) [.arr (fY l) 2]:=by
  have hll:(fY l).length=l.length:=iP l;refine bU T Tryz.func124 rfl rfl rfl rfl ?_
  repeat' (first|refine wS ?_|refine wK ?_|refine wT ?_|refine wU ?_|(refine rg 0 (aV ?_))|(refine rg 1 (mV ?_);refine uG T rfl rfl rfl rfl fun b hb=>?_;cases b)|refine nZ ?_)
  · (repeat' (first|refine wR ?_|(refine rg 3 (cC (by exact bE T rfl rfl (by decide) (by decide) rfl rfl rfl) rfl ?_);refine mW rfl (fS T rfl rfl rfl rfl rfl rfl (by decide) (.row (lU l)) (FI l) (by simp;omega) (by simp;omega) rfl ?_);refine aV ?_)|(refine nZ ?_)));exact ⟨.inl rfl,[1],_,rfl,(by show AV.sl 1 0 (0+(fY l).length) 2=AV.sl 1 0 l.length 2;simp),rfl,⟨.inr (aC rfl rfl (fL _)),trivial⟩,by decide,jY _⟩
  · have hl0:l=[]:=fI.1 (Classical.byContradiction fun h=>by have:=hb (by omega);cases this)
    subst hl0
    (repeat' (first|refine wR ?_|(refine rg 2 (vV (dK rfl) (nY 2 2 rfl (by decide) ?_)))|refine nZ ?_));exact ⟨.inl rfl,[0],_,rfl,rfl,rfl,⟨.inr (aC rfl rfl (fL _)),trivial⟩,by decide,jY _⟩
theorem JM (w:W) (hw:Q3 w):aT Tryz.prog 86 [OZ w] [] (.agg [.sl 0 0 w.1.length 1,.i w.2.1,.sl 1 0 w.2.2.length 2]) [.arr (ints w.1) 1,.arr (fY w.2.2) 2]:=by
  obtain ⟨p,m,c⟩:=w;have h1:=JN p (by have:=hw.1;dsimp only at this;omega)
  have h2:=zG8 c hw.2;dsimp only;refine bU T Tryz.func86 rfl rfl rfl rfl ?_
  (repeat' (first|refine wS ?_|refine wR ?_|(refine rg 0 (cC (cO rfl rfl) rfl (cC (cM T rfl) rfl ?_)))|(refine bV (id:=1) 12 [[],[0],[0,1],[],[3],[],[5],[0,1,2,5,6],rN 8] (rM 3 9) [[],[],[],[3,4,5],[3,4,5],rM 3 5,rM 3 5,[6,7],[]] cK rfl (by decide +kernel) (dP T rfl (dO T rfl (xO rfl rfl rfl (by exact fN rfl rfl h1 (.inr ⟨rfl,rfl,by simp⟩)) rfl ?_)));refine dP T rfl (dO T rfl (dP T rfl (dO T rfl (xO rfl rfl rfl (by exact fN rfl rfl h2 (.inr ⟨rfl,rfl,by simp⟩)) rfl ?_))));refine dV rfl (by exact eO T rfl rfl rfl rfl) ?_;refine dE ?_;refine bD T rfl rfl rfl rfl rfl rfl (by decide) rfl ?_)|refine nZ ?_));all_goals exact ⟨.inl rfl,[2,3],_,rfl,rfl,rfl,⟨.inr (aC rfl (bB _ (bJ p)) (bJ p)),.inr (aC rfl (bB _ (fL c)) (fL c)),trivial⟩,by decide,jY _⟩
theorem AZ {h:Hp}{k n:Nat}{l:List SP}(hk:h[k]? = some (.arr (fY l) 2)) (hn:n=l.length):oF h (.sl k 0 n 2) (.rowE (fY l) 2):=nP hk (by rw [hn,iP]) (pG (fun _=>rfl) _)
theorem yE3 (w:W){i k:Nat}(hw:Q3 w) (hi:i<w.1.length) (hk:k<w.1.length) (hc:w.2.2.length=w.1.length) :
    aT Tryz.prog 63 [OZ w,.i i,.i k] [] (.agg [.sl 0 0 w.1.length 1,.i w.2.1,.sl 1 0 w.2.2.length 2]) [.arr (ints (pL w i k).1) 1,.arr (fY (pL w i k).2.2) 2]:=by
  have hcl:=JM w hw;obtain ⟨p,m,c⟩:=w;have hw1:=hw.1;have hw2:=hw.2;dsimp only at hi hk hc hcl hw1 hw2;have p1:=AK (l:=p) (j:=(i:Int)) (i:=i) 0 hi rfl;have p2:=AK (l:=p) (j:=(k:Int)) (i:=k) 0 hk rfl;have ps:=TK (l:=p) (j:=(i:Int)) (i:=i) (x:=p.getD k 0) rfl;have p3:=AK (l:=p.set i (p.getD k 0)) (j:=(k:Int)) (i:=k) 0 (by simpa using hk) rfl
  have pt:=TK (l:=p.set i (p.getD k 0)) (j:=(k:Int)) (i:=k) (x:=p.getD i 0) rfl;have c1:=L5 (l:=c) (j:=(i:Int)) (i:=i) (by omega) rfl
  have c2:=L5 (l:=c) (j:=(k:Int)) (i:=k) (by omega) rfl
  have cs:=BI (l:=c) (j:=(i:Int)) (i:=i) (r:=c.getD k (0,0)) rfl;have c3:=L5 (l:=c.set i (c.getD k (0,0))) (j:=(k:Int)) (i:=k) (by rw [gW];omega) rfl
  have ct:=BI (l:=c.set i (c.getD k (0,0))) (j:=(k:Int)) (i:=k) (r:=c.getD i (0,0)) rfl;show aT _ _ _ _ _ [.arr (ints ((p.set i (p.getD k 0)).set k (p.getD i 0))) 1,.arr (fY ((c.set i (c.getD k (0,0))).set k (c.getD i (0,0)))) 2];have hlp:(ints p).length=p.length:=cY _;have hlc:(fY c).length=c.length:=iP _;dsimp only;refine bU T Tryz.func63 rfl rfl rfl rfl ?_
  (repeat' (first|refine wS ?_|(refine rg 0 (cC (cO rfl rfl) rfl (cC (cM T rfl) rfl ?_)))|(refine rg 1 (lW T rfl (cC (by exact fN rfl rfl hcl (.inr ⟨rfl,rfl,by simp⟩)) rfl ?_));refine bD T rfl rfl rfl rfl rfl rfl (by decide) rfl ?_)|refine nZ ?_));refine fO [(1,.i i),(2,.i k),(3,.ptr 0 0),(6,.ptr 1 0)] [.cells [.sl 2 0 p.length 1,.i m,.sl 3 0 c.length 2],.cells [.nils,.i 0,.nils],.arr (ints p) 1,.arr (fY c) 2] ⟨[0,1,2,3],rfl,(by repeat first|exact trivial|refine ⟨rfl,?_⟩),⟨.inr rfl,.inr rfl,.inr (aC rfl (bB _ (bJ p)) (bJ p)),.inr (aC rfl (bB _ (fL c)) (fL c)),trivial⟩,by decide,jY _⟩ ?_
  rw [← ps] at p3 pt;rw [← cs] at c3 ct;generalize p.getD k 0=x at *;generalize p.getD i 0=y at *;generalize c.getD k (0,0)=r at *;generalize c.getD i (0,0)=q at *
  (repeat' (first|refine wS ?_|refine wR ?_|(refine nQ (id:=2) 46 yV3 (rM 9 17) [[],[],[9,10],[9,10,11],[9,10,11],rM 9 5,rM 9 6,rM 9 6,rM 9 8,rM 9 6,rM 9 6,rM 9 11,rM 9 11,rM 9 13,rM 9 11,rM 9 11,[12,13,14],[12,13,14]] [(17,2)] cK rfl (by decide +kernel) (cP rfl rfl rfl rfl (by exact bI T rfl rfl rfl) ?_);refine cP rfl rfl rfl rfl (by exact aK T rfl rfl rfl rfl) ?_;refine cP rfl rfl rfl rfl (by exact bR rfl) ?_;refine cP rfl rfl rfl rfl (by exact bI T rfl rfl rfl) ?_;refine cP rfl rfl rfl rfl (by exact aK T rfl rfl rfl rfl) ?_;refine cP rfl rfl rfl rfl (by exact bR rfl) ?_;refine cP rfl rfl rfl rfl (by exact bI T rfl rfl rfl) ?_;refine cP rfl rfl rfl rfl (by exact aK T rfl rfl rfl rfl) ?_;refine cP rfl rfl rfl rfl (by exact bR rfl) ?_;refine cP rfl rfl rfl rfl (by exact aI T rfl rfl rfl rfl rfl (by omega) (by omega)) ?_;refine cP rfl rfl rfl rfl (by exact aK T rfl rfl (bF rfl p2) rfl) ?_;refine cP rfl rfl rfl rfl (by exact bI T rfl rfl rfl) ?_;refine cP rfl rfl rfl rfl (by exact aK T rfl rfl rfl rfl) ?_;refine cP rfl rfl rfl rfl (by exact bR rfl) ?_;refine cP rfl rfl rfl rfl (by exact aI T rfl rfl rfl rfl rfl (by omega) (by omega)) ?_;refine cP rfl rfl rfl rfl (by exact aK T rfl rfl (bF rfl p1) rfl) ?_;refine cP rfl rfl rfl rfl (by exact aI T rfl rfl rfl rfl rfl (by omega) (by omega)) ?_;refine wL rfl rfl rfl rfl (aH rfl) T rfl rfl rfl rfl rfl rfl (by decide) (vE rfl p1 rfl) ?_;refine sO rfl rfl rfl (by exact rfl) ?_;refine vV (by exact aI T rfl rfl rfl rfl rfl (by omega) (by omega)) ?_;refine bD T rfl rfl rfl rfl rfl rfl (by decide) (lR rfl p3 rfl) ?_)|(refine nQ (id:=3) 46 yV3 (rM 27 17) [[],[],[27,28],[27,28,29],[27,28,29],rM 27 5,rM 27 6,rM 27 6,rM 27 8,rM 27 6,rM 27 6,rM 27 11,rM 27 11,rM 27 13,rM 27 11,rM 27 11,[30,31,32],[30,31,32]] [(17,3)] cK rfl (by decide +kernel) (cP rfl rfl rfl rfl (by exact bI T rfl rfl rfl) ?_);refine cP rfl rfl rfl rfl (by exact aK T rfl rfl rfl rfl) ?_;refine cP rfl rfl rfl rfl (by exact bR rfl) ?_;refine cP rfl rfl rfl rfl (by exact bI T rfl rfl rfl) ?_;refine cP rfl rfl rfl rfl (by exact aK T rfl rfl rfl rfl) ?_;refine cP rfl rfl rfl rfl (by exact bR rfl) ?_;refine cP rfl rfl rfl rfl (by exact bI T rfl rfl rfl) ?_;refine cP rfl rfl rfl rfl (by exact aK T rfl rfl rfl rfl) ?_;refine cP rfl rfl rfl rfl (by exact bR rfl) ?_;refine cP rfl rfl rfl rfl (by exact aI T rfl rfl rfl rfl rfl (by omega) (by omega)) ?_;refine cP rfl rfl rfl rfl (by exact aK T rfl rfl (bF rfl c2) rfl) ?_;refine cP rfl rfl rfl rfl (by exact bI T rfl rfl rfl) ?_;refine cP rfl rfl rfl rfl (by exact aK T rfl rfl rfl rfl) ?_;refine cP rfl rfl rfl rfl (by exact bR rfl) ?_;refine cP rfl rfl rfl rfl (by exact aI T rfl rfl rfl rfl rfl (by omega) (by omega)) ?_;refine cP rfl rfl rfl rfl (by exact aK T rfl rfl (bF rfl c1) rfl) ?_;refine cP rfl rfl rfl rfl (by exact aI T rfl rfl rfl rfl rfl (by omega) (by omega)) ?_;refine wL rfl rfl rfl rfl (aH rfl) T rfl rfl rfl rfl rfl rfl (by decide) (vE rfl c1 rfl) ?_;refine sO rfl rfl rfl (by exact rfl) ?_;refine vV (by exact aI T rfl rfl rfl rfl rfl (by omega) (by omega)) ?_;refine bD T rfl rfl rfl rfl rfl rfl (by decide) (lR rfl c3 rfl) ?_)|(refine rg 4 (vV (aK T rfl rfl rfl rfl) (bD T rfl rfl rfl rfl rfl rfl (by decide) rfl ?_)))|refine nZ ?_));all_goals exact ⟨.inl rfl,[2,3],_,rfl,rfl,rfl,⟨.inr (aC rfl pt (bJ _)),.inr (aC rfl ct (fL _)),trivial⟩,by decide,jY _⟩
theorem yE4 (w:W){i k:Nat}(hw:Q3 w) (hi:i<w.1.length) (hk:k<w.1.length) (hc:w.2.2.length=w.1.length):aT Tryz.prog 63 [OZ w,.i i,.i k] [] (OZ (pL w i k)) []:=
  K6 (yE3 w hw hi hk hc) (.agg (.cons (wW rfl (by simp [pL])) (.cons (.v _) (.cons (AZ rfl (by simp [pL])) .nil))))
theorem zC4 (a b:W):aT Tryz.prog 134 [OZ a,OZ b] [] (.i (cI a.2.1 b.2.1)) []:=by
  have h:=HE a.2.1 b.2.1;refine bU T Tryz.func134 rfl rfl rfl rfl ?_
  (repeat' (first|refine wS ?_|refine wR ?_|(refine rg 0 (cC (cO rfl rfl) rfl (cC (cO rfl rfl) rfl (aV ?_))))|(refine rg 1 (gI T rfl (gI T rfl (vV (kC (h)) (aV ?_)))))|refine nZ ?_));all_goals first | (exfalso;omega) | exact rQ
end Go.Proofs.YtmmmeebiobjnbaaGreat
