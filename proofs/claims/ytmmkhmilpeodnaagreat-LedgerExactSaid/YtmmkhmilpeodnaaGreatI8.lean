/-
  Texts of the logic and of the layer,in one module (part 8).
-/
import Derived.Test.YtmmkhmilpeodnaaGreatI7
set_option maxHeartbeats 4000000
set_option linter.unusedVariables false
set_option linter.unusedSimpArgs false
set_option linter.unnecessarySimpa false
namespace Go.Ld
open Go.Ab Go.Proofs.YtmmkhmilpeodnaaGreat
def QL (p q : List Int) (x : Int × SP) (b : Int) : Prop := x.1=p.getD b.toNat 0∧uZ x.2.1 x.2.2 (q.getD (p.getD b.toNat 0).toNat 0)=true
theorem zK4 {g : G} {p q : List Int} {w : W} : D8 g p q w=true↔∀ i,i<g.1.length→QL p q (gP w i,gC w i) (g.1.getD i 0) := by
  unfold D8 J1 QL;rw [bG];constructor
  · intro h i hi;have := h i (eF.2 hi);simp only [aM,decide_eq_true_eq] at this;exact this
  · intro h i hi;have := h i (eF.1 hi);simp only [aM,decide_eq_true_eq];exact this
theorem BE {g : G} {p q : List Int} (h0 : ∀ w,w∈g.2→0≤w.2.1) : ∀ k,k≤g.2.length→(wF g p q k = -1∧∀ w,w∈g.2.take k→D8 g p q w=false)∨(∃ w,w∈g.2.take k∧D8 g p q w=true∧w.2.1=wF g p q k∧∀ v,v∈g.2.take k→D8 g p q v=true→wF g p q k≤v.2.1)
  | 0,_ => .inl ⟨rfl,fun w hw => by simp at hw⟩
  | k+1,hk => by
    have ih := BE (p := p) (q := q) h0 k (by omega)
    have hx := h0 g.2[k] (aI _);rw [H0 (by omega)]
    have ht : ∀ w,w∈g.2.take (k+1)↔w∈g.2.take k∨w=g.2[k] := fun w => by
      rw [aT (by omega),bI,bK]
    simp only [ht];unfold KL;generalize g.2[k]=x at *;generalize wF g p q k=m at *;cases hf : D8 g p q x with
    | false =>
      rw [jS,if_neg (by simp)]
      rcases ih with ⟨h1,h2⟩ | ⟨w,h1,h2,h3,h4⟩
      · refine .inl ⟨h1,fun w hw => ?_⟩
        rcases hw with hw | rfl
        · exact h2 w hw
        · exact hf
      · refine .inr ⟨w,.inl h1,h2,h3,fun v hv hvf => ?_⟩
        rcases hv with hv | rfl
        · exact h4 v hv hvf
        · rw [hf] at hvf;cases hvf
    | true =>
      rw [iI];rcases ih with ⟨h1,h2⟩ | ⟨w,h1,h2,h3,h4⟩
      · rw [decide_eq_true (show m<0 by omega),Bool.true_or,if_pos rfl]
        refine .inr ⟨x,.inr rfl,hf,rfl,fun v hv hvf => ?_⟩
        rcases hv with hv | rfl
        · rw [h2 v hv] at hvf;cases hvf
        · exact eP _
      · have hm0 : 0≤m := by rw [← h3];exact h0 w (eJ h1)
        rw [decide_eq_false (show ¬ m<0 by omega),yD1]
        by_cases hlt : x.2.1<m
        · rw [if_pos (decide_eq_true hlt)];refine .inr ⟨x,.inr rfl,hf,rfl,fun v hv hvf => ?_⟩
          rcases hv with hv | rfl
          · have := h4 v hv hvf;omega
          · exact eP _
        · rw [if_neg (by simpa using hlt)]
          refine .inr ⟨w,.inl h1,h2,h3,fun v hv hvf => ?_⟩
          rcases hv with hv | rfl
          · exact h4 v hv hvf
          · omega
theorem EH {g : G} {p q : List Int} (h0 : ∀ w,w∈g.2→0≤w.2.1) : (nH g p q = -1∧∀ w,w∈g.2→D8 g p q w=false)∨(∃ w,w∈g.2∧D8 g p q w=true∧w.2.1=nH g p q∧∀ v,v∈g.2→D8 g p q v=true→nH g p q≤v.2.1) := by
  have := BE (p := p) (q := q) h0 g.2.length (aY _);rw [dS] at this;exact this
def EJ (g : G) (w : W) : As := fun b => (gP w (g.1.idxOf b),gC w (g.1.idxOf b))
theorem L4 {n : Nat} {g : G} {w : W} (ok : yW n g) (hw : CE n g.1.length w) : oH g.1 w (EJ g w) := by
  unfold oH EJ gP gC;constructor
  · refine kI (by rw [bB];exact hw.pl) fun i h1 h2 => ?_
    rw [mT,ok.nd.idxOf_getElem];dsimp only;rw [aC,aA h1];rfl
  · refine kI (by rw [bB];exact hw.cl) fun i h1 h2 => ?_
    rw [mT,ok.nd.idxOf_getElem];dsimp only;rw [aC,aA h1];rfl
theorem YS {n : Nat} {g : G} {p q : List Int} {w : W} {f : As} (ok : yW n g) (hf : oH g.1 w f) : D8 g p q w=true↔∀ b,b∈g.1→QL p q (f b) b := by
  rw [zK4];have key : ∀ i (hi : i<g.1.length),(gP w i,gC w i)=f g.1[i]∧g.1.getD i 0=g.1[i] := fun i hi => by
    rw [FT hf hi,FV hf hi];exact ⟨rfl,by rw [aC,aA hi];rfl⟩
  constructor
  · intro h b hb;obtain ⟨i,hi,rfl⟩ := oM hb;have := h i hi;rw [(key i hi).1,(key i hi).2] at this;exact this
  · intro h i hi;rw [(key i hi).1,(key i hi).2];exact h _ (aI hi)
theorem zA5 {n : Nat} {p q : List Int} : ∀ {gs : List G},(gs.flatMap (·.1)).Nodup→(∀ g,g∈gs→yW n g)→∀ {M : Int},
    ((∀ g,g∈gs→0≤nH g p q)∧(gs.map fun g => nH g p q).sum≤M)↔∃ f : As,(∀ g,g∈gs→∀ b,b∈g.1→QL p q (f b) b)∧Sem gs f M
  | [],_,_,M => by
    constructor
    · rintro ⟨_,h⟩;exact ⟨fun _ => (0,(0,0)),by simp,by simpa [Sem] using h⟩
    · rintro ⟨f,_,h⟩;exact ⟨by simp,by simpa [Sem] using h⟩
  | g :: gs,hnd,hok,M => by
    rw [bF] at hnd;obtain ⟨_,n2,n3⟩ := cO.1 hnd;have og := hok g aS;have h0 : ∀ w,w∈g.2→0≤w.2.1 := fun w hw => (og.ws w hw).m0;have ih := fun M => zA5 (p := p) (q := q) (gs := gs) n2 (fun x hx => hok x (aK _ hx)) (M := M);rw [List.map_cons,yC9];constructor
    · rintro ⟨h1,h2⟩;rcases EH (p := p) (q := q) h0 with ⟨b1,_⟩ | ⟨w,b1,b2,b3,b4⟩
      · have := h1 g aS;omega
      obtain ⟨f,f1,f2⟩ := (ih (M - nH g p q)).1 ⟨fun x hx => h1 x (aK _ hx),by omega⟩
      have ow := og.ws w b1;have hfi := L4 og ow
      let f' : As := fun b => if b∈g.1 then EJ g w b else f b
      have e1 : ∀ b,b∈g.1→f' b=EJ g w b := fun b hb => if_pos hb
      have e2 : ∀ x,x∈gs→∀ b,b∈x.1→f' b=f b := fun x hx b hb => if_neg fun q => n3 b q b (oU hx hb) rfl;have hfi' : oH g.1 w f' := ⟨hfi.1.trans (jJ fun b hb => by rw [e1 b hb]),hfi.2.trans (jJ fun b hb => by rw [e1 b hb])⟩
      refine ⟨f',fun x hx b hb => ?_,nH g p q,⟨w,b1,hfi',by omega⟩,(sK e2).2 f2⟩
      rcases bR.1 hx with rfl | hx
      · exact (YS og hfi').1 b2 b hb
      · rw [e2 x hx b hb];exact f1 x hx b hb
    · rintro ⟨f,f1,m,⟨w,w1,w2,w3⟩,f2⟩;have hfw := (YS (p := p) (q := q) og w2).2 (f1 g aS);obtain ⟨i1,i2⟩ := (ih (M - m)).2 ⟨f,fun x hx => f1 x (aK _ hx),f2⟩;rcases EH (p := p) (q := q) h0 with ⟨_,b2⟩ | ⟨v,b1,b2,b3,b4⟩
      · rw [b2 w w1] at hfw;cases hfw
      · have := b4 w w1 hfw;have := h0 v b1;refine ⟨fun x hx => ?_,by omega⟩
        rcases bR.1 hx with rfl | hx
        · omega
        · exact i1 x hx
theorem QF {c : Cx} {gs : List G} {p q : List Int} (h : nS c gs) : zO5 c gs p q=true↔p.length=c.bs.length∧q.length=p.length∧Go.Pm.permB p=true∧∃ f : As,(∀ b : Int,0≤b→b<c.bs.length→QL p q (f b) b)∧Sem gs f c.m := by
  have hs := zA5 (p := p) (q := q) h.mid.out.nd h.mid.out.ok (M := c.m);have e : F7 gs p q gs.length=(gs.map fun g => nH g p q).sum := by unfold F7;rw [dS]
  unfold zO5;simp only [aM,decide_eq_true_eq,bG,e,and_assoc];rw [hs];have hb : ∀ f : As,(∀ g,g∈gs→∀ b,b∈g.1→QL p q (f b) b)↔∀ b : Int,0≤b→b<c.bs.length→QL p q (f b) b := fun f => by
    constructor
    · intro h1 b b0 b1;obtain ⟨g,hg,hbg⟩ := h.mid.find ⟨b0,b1⟩;exact h1 g hg b hbg
    · intro h1 g hg b hbg;have := (h.mid.out.ok g hg).rg b hbg;exact h1 b this.1 this.2
  simp only [hb]
theorem PR {n : Nat} {g : G} {w : W} {f : As} (ok : yW n g) (ow : CE n g.1.length w) : oH g.1 w f↔∀ b,b∈g.1→EJ g w b=f b := by
  have h := L4 ok ow;constructor
  · intro hf b hb;have e1 := h.1.symm.trans hf.1;have e2 := h.2.symm.trans hf.2;exact Prod.ext (T2.1 e1 b hb) (T2.1 e2 b hb)
  · intro hp;exact ⟨h.1.trans (jJ fun b hb => by rw [hp b hb]),h.2.trans (jJ fun b hb => by rw [hp b hb])⟩
theorem DJ {n : Nat} {x y : G} (jo : vE n x y) {u v : W} (hu : u∈x.2) (hv : v∈y.2) {f : As} : oH (mP x y).1 (E9 x y u v (mP x y).1) f↔oH x.1 u f∧oH y.1 v f := by
  rw [PR jo.gx (jo.gx.ws u hu),PR jo.gy (jo.gy.ws v hv)];have hm : ∀ b,b∈(mP x y).1↔b∈x.1∨b∈y.1 := fun b => (mQ x y).mem_iff.trans bI;generalize (mP x y).1=l at *;have e1 : ∀ b,(if b∈x.1 then gP u (x.1.idxOf b) else gP v (y.1.idxOf b))=(if b∈x.1 then EJ x u b else EJ y v b).1 := fun b => by split <;> rfl
  have e2 : ∀ b,(if b∈x.1 then gC u (x.1.idxOf b) else gC v (y.1.idxOf b))=(if b∈x.1 then EJ x u b else EJ y v b).2 := fun b => by split <;> rfl
  unfold oH E9;simp only [e1,e2];rw [T2,T2];constructor
  · rintro ⟨h1,h2⟩;have h : ∀ b,b∈l→(if b∈x.1 then EJ x u b else EJ y v b)=f b := fun b hb => Prod.ext (h1 b hb) (h2 b hb)
    refine ⟨fun b hb => ?_,fun b hb => ?_⟩
    · have := h b ((hm b).2 (.inl hb));rwa [if_pos hb] at this
    · have := h b ((hm b).2 (.inr hb));rwa [if_neg (fun q => jo.dj b q hb)] at this
  · rintro ⟨h1,h2⟩;have h : ∀ b,b∈l→(if b∈x.1 then EJ x u b else EJ y v b)=f b := fun b hb => by
      by_cases hx : b∈x.1
      · rw [if_pos hx];exact h1 b hx
      · rw [if_neg hx];exact h2 b (((hm b).1 hb).resolve_left hx)
    exact ⟨fun b hb => by rw [h b hb],fun b hb => by rw [h b hb]⟩
theorem XF {n : Nat} {x y : G} (jo : vE n x y) {f : As} {M : Int} : H6 (mP x y) f M↔∃ m,H6 x f m∧H6 y f (M - m) := by
  constructor
  · rintro ⟨w,hw,hf,hm⟩;obtain ⟨u,v,hu,hv,rfl⟩ := B9 hw;obtain ⟨h1,h2⟩ := (DJ jo hu hv).1 hf;change u.2.1+v.2.1≤M at hm;exact ⟨u.2.1,⟨u,hu,h1,eP _⟩,v,hv,h2,by omega⟩
  · rintro ⟨m,⟨u,hu,h1,h3⟩,v,hv,h2,h4⟩;refine ⟨E9 x y u v (mP x y).1,fN.2 ⟨u,hu,bE.2 ⟨v,hv,rfl⟩⟩,(DJ jo hu hv).2 ⟨h1,h2⟩,?_⟩;show u.2.1+v.2.1≤M;omega
theorem OD {u v J : G} {L : List G} {f : As} (h : ∀ M,H6 J f M↔∃ m,H6 u f m∧H6 v f (M - m)) {M : Int} : Sem (J :: L) f M↔Sem (u :: v :: L) f M := by
  simp only [Sem,h];constructor
  · rintro ⟨m,⟨m',h1,h2⟩,h3⟩;exact ⟨m',h1,m - m',h2,h3.mono (by omega)⟩
  · rintro ⟨m,h1,m',h2,h3⟩;exact ⟨m+m',⟨m,h1,by rw [show m+m' - m=m' by omega];exact h2⟩,h3.mono (by omega)⟩
theorem zE {P Q R : List G} {u v : G} : (P ++ u :: (Q ++ v :: R)).Perm (u :: v :: (P ++ (Q ++ R))) := by
  refine List.perm_middle.trans (List.Perm.cons _ ?_);rw [← bP,← bP];exact gR
theorem XR {c : Cx} {gs all : List G} {a b : Int} (h : nQ c c.m gs) (ha : 0≤a∧a<c.bs.length) (hb : 0≤b∧b<c.bs.length) (e : join gs a b=some all) {f : As} {M : Int} : Sem all f M↔Sem gs f M := by
  obtain ⟨i,x,hi,hix,hax⟩ := iR (h.find ha);obtain ⟨k,y,hk,hky,hby⟩ := iR (h.find hb);have hx := aQ hix;have hy := aQ hky;unfold join at e;dsimp only at e;rw [hi,hk] at e;split at e
  · cases e;exact Iff.rfl
  · rename_i hik;have gi : lB gs ((i : Int)).toNat=x := by unfold lB;rw [aC];show (gs[i]?).getD _ = x;rw [hix];rfl
    have gk : lB gs ((k : Int)).toNat=y := by unfold lB;rw [aC];show (gs[k]?).getD _ = y;rw [hky];rfl
    rw [gi,gk] at e;split at e
    · cases e
    · rename_i hsz;cases e;have nd := h.out.nd;have ndi : (gs.flatMap fun g => (iG g).1).Nodup := h.idn.nodup_iff.2 (B7 _)
      have jo : vE c.bs.length x y := by
        rcases iS (show i≠k by omega) with hlt | hlt
        · obtain ⟨P,Q,R,e1,-⟩ := mD x hlt hix hky;rw [e1] at ndi nd;simp only [fI,bF] at ndi nd;exact ⟨h.out.ok x hx,h.out.ok y hy,h.ne x hx,h.ne y hy,fun b h1 h2 => (cO.1 (cO.1 nd).2.1).2.2 b h1 b (by simp [h2]) rfl,fun b h1 h2 => (cO.1 (cO.1 ndi).2.1).2.2 b h1 b (by simp [h2]) rfl,by omega⟩
        · obtain ⟨P,Q,R,e1,-⟩ := mD y hlt hky hix;rw [e1] at ndi nd;simp only [fI,bF] at ndi nd;exact ⟨h.out.ok x hx,h.out.ok y hy,h.ne x hx,h.ne y hy,fun b h1 h2 => (cO.1 (cO.1 nd).2.1).2.2 b h2 b (by simp [h1]) rfl,fun b h1 h2 => (cO.1 (cO.1 ndi).2.1).2.2 b h2 b (by simp [h1]) rfl,by omega⟩
      have h1 := fun M => XF jo (f := f) (M := M);have h2 : ∀ M,H6 (mP x y) f M↔∃ m,H6 y f m∧H6 x f (M - m) := fun M => by
        rw [h1];constructor
        · rintro ⟨m,a,b⟩;exact ⟨M - m,b,by rw [show M - (M - m)=m by omega];exact a⟩
        · rintro ⟨m,a,b⟩;exact ⟨M - m,b,by rw [show M - (M - m)=m by omega];exact a⟩
      generalize mP x y=J at *;rcases iS (show i≠k by omega) with hlt | hlt
      · obtain ⟨P,Q,R,e1,e2⟩ := mD J hlt hix hky;rw [show (min (i : Int) (k : Int)).toNat=i by omega,show (max (i : Int) (k : Int)).toNat=k by omega,e2,e1,oO zE,oO gR]
        exact OD h1
      · obtain ⟨P,Q,R,e1,e2⟩ := mD J hlt hky hix;rw [show (min (i : Int) (k : Int)).toNat=k by omega,show (max (i : Int) (k : Int)).toNat=i by omega,e2,e1,oO zE,oO gR]
        exact OD h2
theorem zG1 {c : Cx} {M0 : Int} {all : List G} {s : Ev} (h : yG c M0 all s) {i : Nat} {g : G} (hi : all[i]? = some g) (ha : s.a∈g.1) (hb : s.k=4→s.b∈g.1∧s.a≠s.b) {f' : As} {M : Int} :
    Sem (all.set i (g.1,fY (mF c s g))) f' M↔∃ f d,CF c s f f' d∧Sem all f (M - d) := by
  have hg := aQ hi;have og := h.mid.out.ok g hg;have nd := h.mid.out.nd;obtain ⟨A,B,e1,e2⟩ := pH (y := (g.1,fY (mF c s g))) hi;have hon := fun M => XE (c := c) og ha hb (f' := f') (M := M);have hoff : ∀ f d,CF c s f f' d→∀ x,x∈A ++ B→∀ b,b∈x.1→f' b=f b := fun f d st x hx b hbx => by
    have hbg : b ∉ g.1 := fun q => by
      rw [e1] at nd;simp only [fI,bF] at nd;obtain ⟨_,n1,n2⟩ := cO.1 nd;obtain ⟨_,_,n3⟩ := cO.1 n1;rcases bI.1 hx with hx | hx
      · exact n2 b (oU hx hbx) b (bI.2 (.inl q)) rfl
      · exact n3 b q b (oU hx hbx) rfl
    rcases st with ⟨_,rfl,_⟩ | ⟨hk,rfl,_⟩
    · unfold upd;rw [if_neg (fun q : b=s.a => hbg (q ▸ ha))]
    · unfold RC;rw [if_neg (fun q : b=s.a => hbg (q ▸ ha)),if_neg (fun q : b=s.b => hbg (q ▸ (hb hk).1))]
  rw [e2,oO gR];have e1' : ∀ f M,Sem all f M↔Sem (g :: (A ++ B)) f M := fun f M => by rw [e1];exact oO gR
  simp only [e1',Sem,hon];constructor
  · rintro ⟨m,⟨f,d,st,h1⟩,h2⟩;exact ⟨f,d,st,m - d,h1,((sK (hoff f d st)).1 h2).mono (by omega)⟩
  · rintro ⟨f,d,st,m,h1,h2⟩;exact ⟨m+d,⟨f,d,st,h1.mono (by omega)⟩,((sK (hoff f d st)).2 h2).mono (by omega)⟩
theorem IE {c : Cx} {M0 : Int} {l all : List G} {s : Ev} (h : yG c M0 all s) (hM : M0≤2200000) (hab : s.k=4→s.a≠s.b) {f' : As} {M : Int} (hm : M≤c.m) :
    ((rF c l all s).1=0→(Sem (rF c l all s).2 f' M↔∃ f d,CF c s f f' d∧Sem all f (M - d)))∧((rF c l all s).1=26→¬ ∃ f d,CF c s f f' d∧Sem all f (M - d)) := by
  obtain ⟨i,g,hi,hg,hgm,hat,ha,hb⟩ := h.at;have hp := zG1 (c := c) h hg ha (fun hk => ⟨hb hk,hab hk⟩) (f' := f') (M := M);have hnx := h.next hM hg ha hb
  unfold rF;dsimp only;rw [hat,hi,bJ];by_cases h0 : fY (mF c s g)=[]
  · rw [if_pos h0];refine ⟨fun q => (by cases q),fun _ q => ?_⟩
    have hs := hp.2 q;obtain ⟨A,B,e1,e2⟩ := pH (y := (g.1,fY (mF c s g))) hg;rw [e2,oO gR] at hs;obtain ⟨m,⟨w,hw,_⟩,_⟩ := hs;rw [h0] at hw;cases hw
  · rw [if_neg h0];by_cases h1 : 1000<(fY (mF c s g)).length
    · rw [if_pos h1];exact ⟨fun q => (by cases q),fun q => (by cases q)⟩
    · rw [if_neg h1];obtain ⟨hm1,hasc⟩ := hnx h0 (by omega)
      generalize all.set i (g.1,fY (mF c s g))=N at *;have ht : Sem (uV c N) f' M↔Sem N f' M := by
        unfold uV;rw [RM (hm1.out.paid c).ok,VQ hm]
      by_cases hany : (uV c N).any (fun g => g.2.isEmpty)=true
      · rw [if_pos hany];refine ⟨fun q => (by cases q),fun _ q => ?_⟩
        have hs := ht.2 (hp.2 q);obtain ⟨x,hx,hxe⟩ := iZ.1 hany;obtain ⟨A,B,e⟩ := UC hx;rw [e,oO gR] at hs;obtain ⟨m,⟨w,hw,_⟩,_⟩ := hs;rw [List.isEmpty_iff.1 hxe] at hw;cases hw
      · rw [if_neg hany];exact ⟨fun _ => ht.trans hp,fun q => (by cases q)⟩
theorem OF {c : Cx} {gs : List G} {s : Ev} (h : nS c gs) (hm0 : 0≤c.m) (hm1 : c.m≤1048576) (hr : iV c.bs.length s=true) {f' : As} {M : Int} (hm : M≤c.m) :
    ((kU c gs s).1=0→(Sem (kU c gs s).2 f' M↔∃ f d,CF c s f f' d∧Sem gs f (M - d)))∧((kU c gs s).1=26→¬ ∃ f d,CF c s f f' d∧Sem gs f (M - d)) := by
  have hn := h.mid.n12;obtain ⟨r1,r2,_⟩ := mN hr (by omega)
  have hab : s.k=4→s.a≠s.b := fun hk => by have := r2 hk;omega
  unfold kU;rw [if_pos hr];by_cases hk : s.k=4
  · rw [if_pos hk];cases hj : join gs s.a s.b with
    | none => exact ⟨fun q => (by cases q),fun q => (by cases q)⟩
    | some all =>
      dsimp only;have := IE (l := gs) (sV h (by omega) hm0 hm1 hr hk hj) (by omega) hab (f' := f') hm
      have hb := r2 hk;have js : ∀ f M,Sem all f M↔Sem gs f M := fun f M => XR h.mid r1 ⟨by omega,by omega⟩ hj
      simp only [js] at this;exact this
  · rw [if_neg hk];exact IE (l := gs) (vJ h (by omega) hm0 hr hk) (by omega) hab hm
def c0 : Cx := ⟨1,1,0,0,[(⟨#[110,117,116]⟩,10)],[(0,0,false),(0,0,false),(0,0,false)],[(0,5,0),(1,3,0),(2,2,0)]⟩
theorem KJ : qI c0 := ⟨⟨by decide,by decide,by decide,by decide,by decide,by decide,by decide,by decide,by decide⟩,by unfold lR c0;decide⟩
theorem HL {c : Cx} (hc : qI c) : uL c.ks c.ls (nats (List.range c.bs.length)) c.bs :=
  ⟨hc.f.len,fun i hi => tA.2 ⟨by omega,by simp at hi;omega⟩,hc.f.k,hc.f.l,hc.f.b⟩
end Go.Ld
namespace Go.Proofs.YtmmkhmilpeodnaaGreat
open Go Go.Ab Go.Ld
attribute [local irreducible] VC AW bX aR kY
theorem J7 (n : Nat) (h : n≤17592186043904) : aR Tryz.prog 24 [.i (n : Int)] [] (.rowE (ints (nats (List.range n))) 1) [] := by
  have h1 := FQ (n : Int) (by omega)
  rw [bJ] at h1;exact mH (by simp) (iJ (ints_idf _)) h1
theorem XL (c : Cx) (hc : qI c) : aR Tryz.prog 9 [.agg [.i c.m,.i c.st,.i c.er,.i c.sl],.rowE (gB c.ks) 2,.rowE (jU c.ls) 3,.rowE (cW c.bs) 3] [] (.tup [.ptr 0 0,.i 0]) [.cells (gN c (qT c))] := by
  have hbl : (cW c.bs).length=c.bs.length := bB _;have h8 := hc.f.n8;have h9 := hc.f.k10;have h10 := hc.f.l10;have hnl : (nats (List.range c.bs.length)).length=c.bs.length := by simp
  refine zX7 c hc ?_ (EX (HL hc) (by omega) (by omega) (by omega))
  rw [hbl];exact J7 _ (by omega)
theorem zI6 : aR Tryz.prog 34 [] [] (.ptr 0 0) [.cells (gN c0 (qT c0))] := by
  have hn := XL c0 KJ;change aR _ _ [.agg [.i 1,.i 1,.i 0,.i 0],.rowE [[.v (.string ⟨#[110,117,116]⟩),.i 10]] 2,.rowE [[.i 0,.i 0,.b false],[.i 0,.i 0,.b false],[.i 0,.i 0,.b false]] 3,.rowE [[.i 0,.i 5,.i 0],[.i 1,.i 3,.i 0],[.i 2,.i 2,.i 0]] 3] _ _ _ at hn;generalize hL : gN c0 (qT c0)=L at *;have hLi : AV.idfL L=true := by rw [← hL];rfl
  refine bO T Tryz.func34 rfl rfl rfl rfl ?_
  (repeat' (first|refine wS ?_|(refine rg 0 (aV ?_))|(refine rg 1 (vV (by exact eU T rfl rfl rfl rfl) ?_);refine bQ (by exact bC T rfl rfl (by decide) (by decide) rfl rfl rfl) rfl ?_;refine kR 7 rfl rfl rfl rfl ?_;refine aV ?_)|(refine rg 2 (vV (by exact eU T rfl rfl rfl rfl) ?_);refine vV (by exact eU T rfl rfl rfl rfl) ?_;refine vV (by exact eU T rfl rfl rfl rfl) ?_;refine bQ (by exact bC T rfl rfl (by decide) (by decide) rfl rfl rfl) rfl ?_;refine kR 11 rfl rfl rfl rfl ?_;refine aV ?_)|(refine rg 3 (vV (by exact eU T rfl rfl rfl rfl) ?_);refine vV (by exact eU T rfl rfl rfl rfl) ?_;refine vV (by exact eU T rfl rfl rfl rfl) ?_;refine bQ (by exact bC T rfl rfl (by decide) (by decide) rfl rfl rfl) rfl ?_;refine kR 15 rfl rfl rfl rfl ?_;refine aV ?_)|refine nZ ?_));all_goals try (exfalso;omega)
  (repeat' (first|refine wS ?_|refine wK ?_|refine wR ?_|refine wU ?_|(refine rg 4 (vV (by exact eU T rfl rfl rfl rfl) ?_);refine dK rfl (mW rfl (bQ (by exact fL rfl rfl hn (.inr ⟨rfl,rfl,by simp⟩)) rfl ?_));refine mW rfl (xW rfl (xW rfl (qJ ?_))))|(refine rg 5 (mW rfl (vV (fG rfl rfl) ?_)))|(refine rg 7 (mW rfl (aV ?_)))|refine nZ ?_));all_goals try (exfalso;omega)
  exact ⟨.inl rfl,[3],_,rfl,rfl,rfl,⟨.inr (by show some (AB.cells (AV.mapL _ L))=some (AB.cells (AV.mapL _ L));rw [oS _ L hLi,oS _ L hLi]),trivial⟩,by decide,kV _⟩
end Go.Proofs.YtmmkhmilpeodnaaGreat
namespace Go.Ld
open Go.Ab Go.Proofs.YtmmkhmilpeodnaaGreat
def e1 : Ev := ⟨4,0,1,0,[]⟩
def e2 : Ev := ⟨0,0,0,0,[1]⟩
def zS6 : List G := qT c0
def R8 : List G := (kU c0 zS6 e1).2
def UH : List G := (kU c0 R8 e2).2
def JL : List G := (kU c0 UH e2).2
theorem yD8 : nS c0 zS6 := MH KJ (by decide) (by decide)
theorem zR1 : nS c0 R8 := Y0 yD8 (by decide) (by decide)
theorem yB6 : nS c0 UH := Y0 zR1 (by decide) (by decide)
theorem yA0 : nS c0 JL := Y0 yB6 (by decide) (by decide)
theorem x0 : (kU c0 zS6 e1).1=0 := by decide +kernel
theorem x1 : (kU c0 R8 e2).1=0 := by decide +kernel
theorem x2 : (kU c0 UH e2).1=0 := by decide +kernel
theorem yA3 : U2 R8 0=some (lB R8 0,0) := by kernel_rfl
theorem yE6 : U2 R8 2=some (lB R8 1,0) := by kernel_rfl
theorem yE5 : U2 UH 0=some (lB UH 0,0) := by kernel_rfl
theorem yC0 : U2 JL 0=some (lB JL 0,0) := by kernel_rfl
theorem yE9 : (lB R8 0).1=[0,1] := by decide +kernel
theorem yE8 : (lB JL 0).1=[0] := by decide +kernel
theorem zZ9 : qL (lB R8 0) 0=[0,1] := by unfold qL;rw [qQ];decide +kernel
theorem yB5 : qL (lB R8 1) 0=[2] := by unfold qL;rw [qQ];decide +kernel
theorem yE4 : (yA2 (qL (lB UH 0) 0)).2=false := by unfold qL;rw [qQ];decide +kernel
theorem zZ8 : qL (lB JL 0) 0=[1] := by unfold qL;rw [qQ];decide +kernel
theorem yD4 : IG (lB R8 0) 0=(3,6) := by decide +kernel
theorem yE3 : IG (lB R8 1) 0=(2,3) := by decide +kernel
theorem yE2 : IG (lB JL 0) 0=(3,4) := by decide +kernel
theorem a3 : zO5 c0 JL [1,0,2] [5,3,2]=true := by unfold zO5 Go.Pm.permB;rw [qQ];decide +kernel
end Go.Ld
namespace Go.Proofs.YtmmkhmilpeodnaaGreat
open Go Go.Ab Go.Ld
attribute [local irreducible] VC AW bX aR kY
theorem N9 (a b : List Int) (ha : a.length≤9223372036854775807) : aR Tryz.prog 15 [.rowE (ints a) 1,.rowE (ints b) 1] [] (.b (decide (a=b))) [] := by
  have hal : (ints a).length=a.length := by simp
  have hbl : (ints b).length=b.length := by simp
  by_cases hl : a.length=b.length
  · refine bO T Tryz.func15 rfl rfl rfl rfl ?_
    (repeat' (first|refine wS ?_|refine wB ?_|refine wK ?_|(refine wC rfl ?_ ?_<;>(intro hb;(try simp only [nm] at hb);try (exfalso;omega)))|(refine rg 0 (aV ?_))|(refine rg 1 (mW rfl (qW T rfl (mW rfl (qW T rfl (vV (fG rfl rfl) ?_))))))|(refine rg 3 (aV ?_))|refine nZ ?_));all_goals try (exfalso;omega)
    refine cN (X := {i : Nat // i≤a.length∧a.take i=b.take i}) (fun i => [(0,.rowE (ints a) 1),(1,.rowE (ints b) 1),(5,.i i.1)]) (fun _ => []) (fun i => a.length - i.1) ⟨0,by omega,rfl⟩ (eA []) ?_
    rintro ⟨i,hi,hg⟩;dsimp only;by_cases hlt : i<a.length
    · have q1 := nA (l := a) (k := i) hlt;have q2 := nA (l := b) (k := i) (by omega)
      by_cases e : a[i]=b[i]
      · (repeat' (first|refine wS ?_|refine wB ?_|refine wK ?_|(refine wC rfl (fun hb => ?_) (fun hb => ?_) <;> (((try simp only [nm] at hb);try (exfalso;omega))))|(refine rg 4 (dK rfl (qW T rfl (vV (aL rfl rfl) ?_))))|(refine bN (id := 6) 26 yK0 (rM 17 9) yK1 cJ rfl (by decide +kernel) (dN rfl (dN rfl (dV rfl (ix T rfl (by omega) (ints_len a) q1) (dO T rfl (dN rfl (dN rfl (dV rfl (ix T rfl (by omega) (ints_len b) q2) (dO T rfl (dV rfl (fG rfl rfl) ?_)))))))));refine dE ?_)|(refine iA 5 rfl rfl rfl (by omega) (by omega) ?_)|(refine nZ ?_)));all_goals try (exfalso;omega)
        refine ⟨⟨i+1,hlt,?_⟩,by dsimp only;omega,eA []⟩
        rw [aT hlt,aT (by omega),hg,e]
      · rw [show decide (a=b)=false from decide_eq_false (fun h => e (by subst h;rfl))]
        (repeat' (first|refine wS ?_|refine wB ?_|refine wK ?_|refine wR ?_|(refine wC rfl ?_ ?_<;>(intro hb;(try simp only [nm] at hb);try (exfalso;omega)))|(refine rg 4 (dK rfl (qW T rfl (vV (aL rfl rfl) ?_))))|(refine bN (id := 6) 26 yK0 (rM 17 9) yK1 cJ rfl (by decide +kernel) (dN rfl (dN rfl (dV rfl (ix T rfl (by omega) (ints_len a) q1) (dO T rfl (dN rfl (dN rfl (dV rfl (ix T rfl (by omega) (ints_len b) q2) (dO T rfl (dV rfl (fG rfl rfl) ?_)))))))));refine dE ?_)|(refine rg 7 (aV ?_))|refine nZ ?_));all_goals first | (exfalso;omega) | exact rQ
    · rw [cF (by omega),cF (by omega)] at hg
      rw [show decide (a=b)=true from decide_eq_true hg]
      (repeat' (first|refine wS ?_|refine wR ?_|refine wE ?_|(refine wC rfl ?_ ?_<;>(intro hb;(try simp only [nm] at hb);try (exfalso;omega)))|(refine rg 4 (dK rfl (qW T rfl (vV (aL rfl rfl) ?_))))|(refine rg 8 (aV ?_))|refine nZ ?_));all_goals first | (exfalso;omega) | exact rQ
  · rw [show decide (a=b)=false from decide_eq_false (fun h => hl (by rw [h]))]
    refine bO T Tryz.func15 rfl rfl rfl rfl ?_
    (repeat' (first|refine wS ?_|refine wR ?_|(refine wC rfl ?_ ?_<;>(intro hb;(try simp only [nm] at hb);try (exfalso;omega)))|(refine rg 0 (aV ?_))|(refine rg 1 (mW rfl (qW T rfl (mW rfl (qW T rfl (vV (fG rfl rfl) ?_))))))|(refine rg 2 (aV ?_))|refine nZ ?_));all_goals first | (exfalso;omega) | exact rQ
theorem zB2 {S : Nat→Prop} {w : World} {ρ : Pl} {a b d e : AV} {y : Value} (h : R S w (.agg [a,b,d,e,.nils]) ρ y) : R S w (.agg [a,b,d,e,.rowE [] 1]) ρ y := by
  simp only [R] at h ⊢;obtain ⟨ys,e1,h1⟩ := h;exact ⟨ys,e1,mS (fun _ h => h) (fun _ => mS (fun _ h => h) fun _ => mS (fun _ h => h) fun _ => mS (fun _ h => h) fun _ => mS (fun _ h => BQ h) fun _ h => h) h1⟩
theorem zQ3 : aR Tryz.prog 11 [.ptr 0 0,.agg [.i 4,.i 0,.i 1,.i 0,.nils]] [.cells (gN c0 zS6)] (.i 0) [.cells (gN c0 R8)] := by
  have h := OG c0 zS6 e1 KJ yD8 (by decide)
  rw [x0] at h;exact TZ h fun S w ρ ys => mS (fun _ h => h) fun ys => mS (fun _ h => zB2 h) fun _ h => h
theorem zQ2 : aR Tryz.prog 11 [.ptr 0 0,.agg [.i 0,.i 0,.i 0,.i 0,.rowE [[.i 1]] 1]] [.cells (gN c0 R8)] (.i 0) [.cells (gN c0 UH)] := by
  have h := OG c0 R8 e2 KJ zR1 (by decide)
  rw [x1] at h;exact h
theorem zQ1 : aR Tryz.prog 11 [.ptr 0 0,.agg [.i 0,.i 0,.i 0,.i 0,.rowE [[.i 1]] 1]] [.cells (gN c0 UH)] (.i 0) [.cells (gN c0 JL)] := by
  have h := OG c0 UH e2 KJ yB6 (by decide)
  rw [x2] at h;exact h
theorem WJ : aR Tryz.prog 27 [.pr (gN c0 R8) 0,.i 0] [] (.sl 0 0 2 1) [.arr [[.i 0],[.i 1]] 1] := by
  have h := JM c0 R8 0 zR1 yA3;rw [yE9] at h;exact h
theorem WI : aR Tryz.prog 27 [.pr (gN c0 JL) 0,.i 0] [] (.sl 0 0 1 1) [.arr [[.i 0]] 1] := by
  have h := JM c0 JL 0 yA0 yC0;rw [yE8] at h;exact h
theorem zF9 : aR Tryz.prog 16 [.pr (gN c0 R8) 0,.i 0] [] (.sl 0 0 2 1) [.arr [[.i 0],[.i 1]] 1] := by
  have h := LY c0 R8 0 zR1 yA3;rw [zZ9] at h;exact h
theorem WE : aR Tryz.prog 18 [.pr (gN c0 R8) 0,.i 0] [] (lF 3 6) [] := by
  have h := OL c0 R8 0 zR1 yA3;rw [yD4] at h;exact h
theorem WH : aR Tryz.prog 20 [.pr (gN c0 R8) 0,.i 0,.i 0] [] (.i 0) [] := by
  have h := AI c0 R8 0 0 zR1 yA3 (by rw [zZ9];decide) (by rw [zZ9];decide)
  rw [zZ9,yD4] at h;exact h
theorem WG : aR Tryz.prog 20 [.pr (gN c0 R8) 0,.i 2,.i 2] [] (.i 2) [] := by
  have h := AI c0 R8 2 2 zR1 yE6 (by rw [yB5];decide) (by rw [yB5];decide)
  rw [yB5,yE3] at h;exact h
theorem WF : aR Tryz.prog 20 [.pr (gN c0 JL) 0,.i 0,.i 1] [] (.i 3) [] := by
  have h := AI c0 JL 0 1 yA0 yC0 (by rw [zZ8];decide) (by rw [zZ8];decide)
  rw [zZ8,yE2] at h;exact h
theorem zW8 : ∃ v : Int,aR Tryz.prog 13 [.pr (gN c0 UH) 0,.i 0] [] (.tup [.i v,.b false]) [] := by
  have h := AK c0 UH 0 yB6 yE5;rw [yE4] at h;exact ⟨_,h⟩
theorem zW7 : aR Tryz.prog 13 [.pr (gN c0 JL) 0,.i 0] [] (.tup [.i 1,.b true]) [] := by
  have h := AK c0 JL 0 yA0 yC0;rw [zZ8] at h;exact h
theorem WK : aR Tryz.prog 22 [.pr (gN c0 JL) 0,.rowE [[.i 1],[.i 0],[.i 2]] 1,.rowE [[.i 5],[.i 3],[.i 2]] 1] [] (.b true) [] := by
  have h := EK c0 JL [1,0,2] [5,3,2] yA0 (by decide) (by decide) (by decide)
  rw [a3] at h;exact h
theorem zW9 : Tryz.prog.underlying 33=some (.pointer 81) := by kernel_rfl
theorem CV : aR Tryz.prog 7 [] [] (.b true) [] := by
  have hgv := zI6;change aR _ _ _ _ _ [.cells (gN c0 zS6)] at hgv;have s1 := zQ3;have s2 := zQ2;have s3 := zQ1;have k1 := WJ;have k2 := zF9;have k3 := WE;have k4 := WH;have k5 := WG;obtain ⟨v,k6⟩ := zW8;have k7 := zW7;have k8 := WF;have k9 := WI;have k10 := WK;generalize zS6=G0 at *;generalize R8=G1 at *;generalize UH=G2 at *;generalize JL=G3 at *;have t1 := N9 [0,1] [0,1] (by decide)
  rw [show decide (([0,1] : List Int)=[0,1])=true from rfl] at t1
  have t2 := N9 [0] [0] (by decide)
  rw [show decide (([0] : List Int)=[0])=true from rfl] at t2
  refine bO T Tryz.func7 rfl rfl rfl rfl ?_
  (repeat' (first|refine wS ?_|(refine rg 0 (aV ?_))|(refine rg 1 (bQ (by exact fL rfl rfl hgv (.inr ⟨rfl,rfl,by simp⟩)) rfl ?_);refine aV ?_)|refine nZ ?_));refine fE [(1,.ptr 0 0)] [.cells (gN c0 G0)] ⟨[0],rfl,(by repeat first|exact trivial|refine ⟨rfl,?_⟩),⟨.inr rfl,trivial⟩,by decide,kV _⟩ ?_
  (repeat' (first|refine wS ?_|refine wK ?_|refine wU ?_|(refine rg 2 (mW rfl (vV (by exact AM zW9 rfl rfl rfl) ?_)))|(refine rg 4 (mW rfl (vV (by exact eU T rfl rfl rfl rfl) ?_));refine fF [0] rfl rfl (s1) rfl rfl (by decide) ⟨.inr rfl,trivial⟩ (by simp) rfl ?_;refine aV ?_)|refine nZ ?_));all_goals try (exfalso;omega)
  refine fE [(1,.ptr 0 0),(2,.i 0)] [.cells (gN c0 G1)] ⟨[0],rfl,(by repeat first|exact trivial|refine ⟨rfl,?_⟩),⟨.inr rfl,trivial⟩,by decide,kV _⟩ ?_
  (repeat' (first|refine wS ?_|(refine rg 5 (mW rfl (bQ (by exact fL rfl rfl k1 (.inl ⟨.cons (.ptr rfl (gM _ rfl)) (.cons (.v _) .nil),rfl⟩)) rfl ?_));refine kR 17 rfl rfl rfl rfl ?_;refine bQ (by exact bC T rfl rfl (by decide) (by decide) rfl rfl rfl) rfl ?_;refine kR 18 rfl rfl rfl rfl ?_;refine vV (kC (t1)) (mW rfl (yN rfl (gT (bQ (by exact fL rfl rfl k2 (.inl ⟨.cons (.ptr rfl (gM _ rfl)) (.cons (.v _) .nil),rfl⟩)) rfl ?_))));refine kR 22 rfl rfl rfl rfl ?_;refine gT (bQ (by exact bC T rfl rfl (by decide) (by decide) rfl rfl rfl) rfl ?_);refine kR 23 rfl rfl rfl rfl ?_;refine yV (kC (t1)) (pW rfl (mW rfl (yN rfl (yV (by exact fB rfl rfl k3 (.cons (.ptr rfl (gM _ rfl)) (.cons (.v _) .nil)) rfl rfl) ?_))));refine yV (by exact eU T rfl rfl rfl rfl) ?_;refine yV (zJ4 zN8 rfl rfl) (pW rfl (mW rfl (yN rfl (yV (by exact fB rfl rfl k4 (.cons (.ptr rfl (gM _ rfl)) (.cons (.v _) (.cons (.v _) .nil))) rfl rfl) ?_))));refine yV (dR rfl rfl) (pW rfl (mW rfl (yN rfl (yV (by exact fB rfl rfl k5 (.cons (.ptr rfl (gM _ rfl)) (.cons (.v _) (.cons (.v _) .nil))) rfl rfl) ?_))));refine yV (dR rfl rfl) (pW rfl (aV ?_)))|refine nZ ?_));all_goals try (exfalso;omega)
  refine fE [(1,.ptr 0 0),(2,.i 0),(3,.b true)] [.cells (gN c0 G1)] ⟨[0],rfl,(by repeat first|exact trivial|refine ⟨rfl,?_⟩),⟨.inr rfl,trivial⟩,by decide,kV _⟩ ?_
  (repeat' (first|refine wS ?_|(refine rg 6 (mW rfl (bQ (by exact bC T rfl rfl (by decide) (by decide) rfl rfl rfl) rfl ?_));refine kR 43 rfl rfl rfl rfl ?_;refine vV (by exact eU T rfl rfl rfl rfl) ?_;refine fF [0] rfl rfl (s2) rfl rfl (by decide) ⟨.inr rfl,trivial⟩ (by simp) rfl ?_;refine aV ?_)|refine nZ ?_));all_goals try (exfalso;omega)
  refine fE [(1,.ptr 0 0),(2,.i 0),(3,.b true),(4,.i 0)] [.cells (gN c0 G2)] ⟨[0],rfl,(by repeat first|exact trivial|refine ⟨rfl,?_⟩),⟨.inr rfl,trivial⟩,by decide,kV _⟩ ?_
  (repeat' (first|refine wS ?_|(refine rg 7 (mW rfl (vV (by exact fB rfl rfl k6 (.cons (.ptr rfl (gM _ rfl)) (.cons (.v _) .nil)) rfl rfl) ?_));refine mW rfl (xW rfl (xW rfl (qJ ?_))))|refine nZ ?_));all_goals try (exfalso;omega)
  refine fE [(1,.ptr 0 0),(2,.i 0),(3,.b true),(4,.i 0),(6,.b false)] [.cells (gN c0 G2)] ⟨[0],rfl,(by repeat first|exact trivial|refine ⟨rfl,?_⟩),⟨.inr rfl,trivial⟩,by decide,kV _⟩ ?_
  (repeat' (first|refine wS ?_|(refine rg 8 (mW rfl (bQ (by exact bC T rfl rfl (by decide) (by decide) rfl rfl rfl) rfl ?_));refine kR 52 rfl rfl rfl rfl ?_;refine vV (by exact eU T rfl rfl rfl rfl) ?_;refine fF [0] rfl rfl (s3) rfl rfl (by decide) ⟨.inr rfl,trivial⟩ (by simp) rfl ?_;refine aV ?_)|refine nZ ?_));all_goals try (exfalso;omega)
  refine fE [(1,.ptr 0 0),(2,.i 0),(3,.b true),(4,.i 0),(6,.b false),(7,.i 0)] [.cells (gN c0 G3)] ⟨[0],rfl,(by repeat first|exact trivial|refine ⟨rfl,?_⟩),⟨.inr rfl,trivial⟩,by decide,kV _⟩ ?_
  (repeat' (first|refine wS ?_|(refine rg 9 (mW rfl (vV (by exact fB rfl rfl k7 (.cons (.ptr rfl (gM _ rfl)) (.cons (.v _) .nil)) rfl rfl) ?_));refine mW rfl (xW rfl (xW rfl (qJ ?_))))|refine nZ ?_));all_goals try (exfalso;omega)
  refine fE [(1,.ptr 0 0),(2,.i 0),(3,.b true),(4,.i 0),(6,.b false),(7,.i 0),(8,.i 1),(9,.b true)] [.cells (gN c0 G3)] ⟨[0],rfl,(by repeat first|exact trivial|refine ⟨rfl,?_⟩),⟨.inr rfl,trivial⟩,by decide,kV _⟩ ?_
  (repeat' (first|refine wR ?_|(refine rg 10 (mW rfl (vV (dR rfl rfl) (mW rfl (yN rfl (pW rfl (mW rfl (yN rfl (yV (dR rfl rfl) (pV ?_)))))))));refine mW rfl (yN rfl (yV (dX rfl) (pW rfl (mW rfl (yN rfl (yV (dR rfl rfl) (pW rfl (mW rfl (yM ?_)))))))));refine pW rfl (mW rfl (yN rfl (yV (dR rfl rfl) (pW rfl (mW rfl (yN rfl (yV (by exact fB rfl rfl k8 (.cons (.ptr rfl (gM _ rfl)) (.cons (.v _) (.cons (.v _) .nil))) rfl rfl) ?_)))))));refine yV (dR rfl rfl) (pW rfl (mW rfl (yN rfl (gT (bQ (by exact fL rfl rfl k9 (.inl ⟨.cons (.ptr rfl (gM _ rfl)) (.cons (.v _) .nil),rfl⟩)) rfl ?_)))));refine kR 91 rfl rfl rfl rfl ?_;refine gT (bQ (by exact bC T rfl rfl (by decide) (by decide) rfl rfl rfl) rfl ?_);refine kR 92 rfl rfl rfl rfl ?_;refine yV (kC (t2)) (pW rfl (mW rfl (yN rfl (gT (bQ (by exact bC T rfl rfl (by decide) (by decide) rfl rfl rfl) rfl ?_)))));refine kR 97 rfl rfl rfl rfl ?_;refine gT (bQ (by exact bC T rfl rfl (by decide) (by decide) rfl rfl rfl) rfl ?_);refine kR 98 rfl rfl rfl rfl ?_;refine yV (by exact fB rfl rfl k10 (.cons (.ptr rfl (gM _ rfl)) (.cons (.row _ _ _) (.cons (.row _ _ _) .nil))) rfl rfl) ?_;refine pW rfl (aV ?_))|refine nZ ?_));all_goals try (exfalso;omega)
  all_goals exact rQ
end Go.Proofs.YtmmkhmilpeodnaaGreat
namespace Go.Ld
open Go.Ab Go.Proofs.YtmmkhmilpeodnaaGreat Go.Pm
theorem N6 : ∀ {gs : List G} {f : As} {M : Int},Sem gs f M→∀ {g : G},g∈gs→∃ w,w∈g.2∧oH g.1 w f
  | [],_,_,_,_,hg => by cases hg
  | x :: gs,f,M,⟨m,⟨w,h1,h2,_⟩,h3⟩,g,hg => by
    rcases bR.1 hg with rfl | hg
    · exact ⟨w,h1,h2⟩
    · exact N6 h3 hg
end Go.Ld
namespace Go.Ld
open Go.Ab Go.Proofs.YtmmkhmilpeodnaaGreat
abbrev U3 (l : List Ev) : List (List AV) := l.map yD
def zC8 (l : List Ev) : Nat := l.countP fun s => decide (s.k=4)
def P5 (l : List Ev) (m : Nat) : Bool := (l.take (m+1)).all (fun s => decide (s.ids.length≤12)) && decide (l.length≤m) && decide (zC8 (l.take (m+1))≤5)
theorem oA (l : List Ev) : ∀ e,e∈U3 l→e.length=5 := by intro e he;obtain ⟨n,_,rfl⟩ := bE.1 he;rfl
theorem JY {l : List Ev} {k : Nat} (h : k<l.length) : (U3 l)[(k : Int).toNat]? = some (yD l[k]) := by simp [h]
end Go.Ld
namespace Go.Proofs.YtmmkhmilpeodnaaGreat
open Go Go.Ab Go.Ld
attribute [local irreducible] VC AW bX aR kY
theorem YU (l : List Ev) (m : Nat) (hm : m≤1000) (hids : ∀ s,s∈l→s.ids.length≤9223372036854775807) : aR Tryz.prog 8 [.rowE (U3 l) 5,.i m] [] (.b (P5 l m)) [] := by
  have hll : (U3 l).length=l.length := bB _;have hbad : ∀ k (hk : k<l.length),k≤m→¬ l[k].ids.length≤12→P5 l m=false := fun k hk hkm hb => by
    unfold P5;rw [show (l.take (m+1)).all (fun s => decide (s.ids.length≤12))=false from T5.2 ⟨l[k],List.mem_take_iff_getElem.2 ⟨k,by omega,rfl⟩,by simpa using hb⟩];rfl
  have hgood : (∀ s,s∈l.take (m+1)→s.ids.length≤12)→P5 l m=(decide (l.length≤m) && decide (zC8 (l.take (m+1))≤5)) := fun h => by
    unfold P5;rw [bG.2 fun s hs => decide_eq_true (h s hs),iI]
  generalize P5 l m=R at *;refine bO T Tryz.func8 rfl rfl rfl rfl ?_
  (repeat' (first|refine wS ?_|refine wB ?_|(refine rg 0 (aV ?_))|(refine rg 1 (aV ?_))|(refine rg 2 (aV ?_))|refine nZ ?_));refine cN (X := {k : Nat // k≤l.length∧k≤m+1∧∀ s,s∈l.take k→s.ids.length≤12}) (fun k => [(0,.rowE (U3 l) 5),(1,.i m),(5,.i (zC8 (l.take k.1))),(6,.i k.1)]) (fun _ => []) (fun k => l.length - k.1) ⟨0,bU _,bU _,fun s hs => by simp at hs⟩ (eA []) ?_
  rintro ⟨k,hk,hkm,hall⟩;dsimp only;have hsw : zC8 (l.take k)≤k := bA List.countP_le_length (by rw [bD];omega)
  by_cases hlt : k<l.length∧k≤m
  · obtain ⟨h1,h2⟩ := hlt;have hg := JY h1;have hts : l.take (k+1)=l.take k ++ [l[k]] := aT h1;have hs1 : zC8 (l.take (k+1))=zC8 (l.take k)+(if l[k].k=4 then 1 else 0) := by rw [hts];unfold zC8;rw [List.countP_append];simp [List.countP_cons]
    have hbk := hbad k h1 h2;have hx := hids l[k] (aI h1);have hil : (Go.Ab.ints l[k].ids).length=l[k].ids.length := bB _;have hall2 : l[k].ids.length≤12→∀ s,s∈l.take (k+1)→s.ids.length≤12 := fun hq s hs => by
      rw [hts] at hs;rcases bI.1 hs with hs | hs
      · exact hall s hs
      · rw [bK.1 hs];exact hq
    generalize l[k]=s at *;generalize hS1 : zC8 (l.take (k+1))=S1 at *;generalize zC8 (l.take k)=S at *;by_cases hi : s.ids.length≤12
    · by_cases h4 : s.k=4
      · rw [if_pos h4] at hs1
        (repeat' (first|refine wS ?_|refine wB ?_|refine wK ?_|refine wT ?_|(refine wC rfl ?_ ?_<;>(intro hb;(try simp only [nm] at hb);try (exfalso;omega)))|(refine rg 3 (dK rfl (qW T rfl (vV (aL rfl rfl) (mV ?_))));refine cH rfl rfl ?_ ?_<;>(intro hb;rw [hb];(try simp only [nm] at hb);try (exfalso;omega));(all_goals (refine yN rfl (yN rfl (yV (iO rfl rfl) (pV ?_))))))|(refine rg 5 (dK rfl (vV (ix T rfl (by omega) (oA _) hg) (gH T rfl (qW T rfl (vV (fM rfl rfl) ?_))))))|(refine rg 7 (dK rfl (vV (ix T rfl (by omega) (oA _) hg) (gH T rfl (vV (lO rfl rfl (by omega)) ?_)))))|(refine iA 8 rfl rfl rfl (by omega) (by omega) ?_)|(refine iA 4 rfl rfl rfl (by omega) (by omega) ?_)|refine nZ ?_));all_goals try (exfalso;omega)
        exact ⟨⟨k+1,h1,by omega,hall2 hi⟩,by dsimp only;omega,[],rfl,⟨rfl,rfl,by dsimp only;rw [hS1,hs1];rfl,rfl,trivial⟩,trivial,cQ,kV _⟩
      · rw [if_neg h4] at hs1
        (repeat' (first|refine wS ?_|refine wB ?_|refine wK ?_|refine wU ?_|(refine wC rfl ?_ ?_<;>(intro hb;(try simp only [nm] at hb);try (exfalso;omega)))|(refine rg 3 (dK rfl (qW T rfl (vV (aL rfl rfl) (mV ?_))));refine cH rfl rfl ?_ ?_<;>(intro hb;rw [hb];(try simp only [nm] at hb);try (exfalso;omega));(all_goals (refine yN rfl (yN rfl (yV (iO rfl rfl) (pV ?_))))))|(refine rg 5 (dK rfl (vV (ix T rfl (by omega) (oA _) hg) (gH T rfl (qW T rfl (vV (fM rfl rfl) ?_))))))|(refine rg 7 (dK rfl (vV (ix T rfl (by omega) (oA _) hg) (gH T rfl (vV (gL rfl rfl (by omega)) ?_)))))|(refine iA 4 rfl rfl rfl (by omega) (by omega) ?_)|refine nZ ?_));all_goals try (exfalso;omega)
        exact ⟨⟨k+1,h1,by omega,hall2 hi⟩,by dsimp only;omega,[],rfl,⟨rfl,rfl,by dsimp only;rw [hS1,hs1];rfl,rfl,trivial⟩,trivial,cQ,kV _⟩
    · have hR := hbk hi;subst hR
      (repeat' (first|refine wS ?_|refine wB ?_|refine wK ?_|refine wR ?_|(refine wC rfl ?_ ?_<;>(intro hb;(try simp only [nm] at hb);try (exfalso;omega)))|(refine rg 3 (dK rfl (qW T rfl (vV (aL rfl rfl) (mV ?_))));refine cH rfl rfl ?_ ?_<;>(intro hb;rw [hb];(try simp only [nm] at hb);try (exfalso;omega));(all_goals (refine yN rfl (yN rfl (yV (iO rfl rfl) (pV ?_))))))|(refine rg 5 (dK rfl (vV (ix T rfl (by omega) (oA _) hg) (gH T rfl (qW T rfl (vV (fM rfl rfl) ?_))))))|(refine rg 6 (aV ?_))|refine nZ ?_));all_goals try (exfalso;omega)
      all_goals exact rQ
  · have hke : l.take k=l.take (m+1) := by
      rcases hC k l.length with h | h
      · rw [show k=m+1 by omega]
      · rw [cF h,cF (by omega)]
    rw [hke] at hall hsw ⊢;have hR := hgood hall;subst hR;generalize zC8 (l.take (m+1))=S at *
    (repeat' (first|refine wS ?_|refine wR ?_|refine wE ?_|refine wU ?_|(refine wC rfl ?_ ?_<;>(intro hb;(try simp only [nm] at hb);try (exfalso;omega)))|(refine rg 3 (dK rfl (qW T rfl (vV (aL rfl rfl) (mV ?_))));refine cH rfl rfl ?_ ?_<;>(intro hb;rw [hb];(try simp only [nm] at hb);try (exfalso;omega));(all_goals first|(refine gT (mW rfl (gT (mW rfl (gT (vV (iO rfl rfl) ?_))))))|(iterate 3 refine gF ?_));(all_goals (refine pV ?_)))|(refine rg 9 (mW rfl (qW T rfl (mW rfl (vV (iO rfl rfl) (mV ?_)))));refine cH rfl rfl ?_ ?_<;>(intro hb;rw [hb];(try simp only [nm] at hb);try (exfalso;omega));(all_goals first|(refine gT (mW rfl (gT (vV (iO rfl rfl) ?_))))|(iterate 2 refine gF ?_));(all_goals (refine pW rfl (aV ?_))))|refine nZ ?_));all_goals try (exfalso;omega)
    all_goals (refine cX (.inl rfl) rfl (nC ?_);first | rfl | (rw [ER];simp;omega) | (simp [*];omega) | skip)
end Go.Proofs.YtmmkhmilpeodnaaGreat
namespace Go.Proofs.YtmmkhmilpeodnaaGreat
open Go Go.Ab
attribute [local irreducible] VC AW bX aR
def zC7 (N : Nat) (ks : List KD) (ls : List LT) (ps : List Int) (bs : List BX) : Prop := 1≤ps.length∧ps.length≤N∧bs.length≤N∧ks.length≤10∧ls.length≤10
theorem YN (N : Nat) (hN : N≤8) (ks : List KD) (ls : List LT) (ps : List Int) (bs : List BX) (m st er sl : Int) (h : ¬ zC7 N ks ls ps bs) :
    aR Tryz.prog 25 [uW ks ls ps bs,gY m st er sl,.i N] [] (.b false) [] := by
  unfold zC7 at h;have e1 : (gB ks).length=ks.length := by simp
  have e2 : (jU ls).length=ls.length := by simp
  have e3 : (ints ps).length=ps.length := by simp
  have e4 : (cW bs).length=bs.length := by simp
  refine bO T Tryz.func25 rfl rfl rfl rfl ?_
  (repeat' (first|refine wS ?_|refine wR ?_|(refine rg 0 (bQ (cD rfl rfl) rfl (bQ (cD rfl rfl) rfl (aV ?_))))|(refine rg 1 (gH T rfl (qW T rfl (vV (jX rfl rfl) (mV ?_))));refine cH rfl rfl ?_ ?_<;>(intro hb;rw [hb];(try simp only [nm] at hb);try (exfalso;omega));(all_goals first|(refine gT (fW T rfl (gT (lW T rfl (gT (qW T rfl (gT (mW rfl (gT (vV (iO rfl rfl) ?_))))))))))|(iterate 5 refine gF ?_));(all_goals (refine pW rfl (mV ?_)));(all_goals first|(refine gK ?_)|(refine cH rfl rfl ?_ ?_<;>(intro hb;rw [hb];(try simp only [nm] at hb);try (exfalso;omega))));(all_goals first|(refine gT (fW T rfl (gT (lW T rfl (gT (qW T rfl (gT (mW rfl (gT (vV (iO rfl rfl) ?_))))))))))|(iterate 5 refine gF ?_));(all_goals (refine pW rfl (mV ?_)));(all_goals first|(refine gK ?_)|(refine cH rfl rfl ?_ ?_<;>(intro hb;rw [hb];(try simp only [nm] at hb);try (exfalso;omega))));(all_goals first|(refine gT (fW T rfl (gT (lW T rfl (gT (qW T rfl (gT (vV (iO rfl rfl) ?_))))))))|(iterate 4 refine gF ?_));(all_goals (refine pW rfl (mV ?_)));(all_goals first|(refine gK ?_)|(refine cH rfl rfl ?_ ?_<;>(intro hb;rw [hb];(try simp only [nm] at hb);try (exfalso;omega))));(all_goals first|(refine gT (fW T rfl (gT (lW T rfl (gT (qW T rfl (gT (vV (iO rfl rfl) ?_))))))))|(iterate 4 refine gF ?_));(all_goals (refine pW rfl (mV ?_)));(all_goals first|(refine gK ?_)|(refine cH rfl rfl ?_ ?_<;>(intro hb;rw [hb];(try simp only [nm] at hb);try (exfalso;omega))));(all_goals ((iterate 2 refine gF ?_);refine pW rfl (mV ?_);(iterate 9 refine gF ?_);refine pW rfl (aV ?_))))|refine nZ ?_));all_goals first | exact rQ | (exfalso;omega) | (refine cX (.inl rfl) rfl (nC ?_);simp;omega)
theorem K5 (N : Nat) (hN : N≤8) (ks : List KD) (ls : List LT) (ps : List Int) (bs : List BX) (m st er sl : Int) (h : zC7 N ks ls ps bs) {v w : Bool} (hs : B2 m st er sl=v) (ht : sT ks ls ps bs=w) :
    aR Tryz.prog 25 [uW ks ls ps bs,gY m st er sl,.i N] [] (.b (v && w)) [] := by
  unfold zC7 at h;have e1 : (gB ks).length=ks.length := by simp
  have e2 : (jU ls).length=ls.length := by simp
  have e3 : (ints ps).length=ps.length := by simp
  have e4 : (cW bs).length=bs.length := by simp
  have c1 := hs ▸ VP m st er sl;have c2 := ht ▸ zE0 ks ls ps bs (by omega) (by omega) (by omega) (by omega)
  cases v <;> cases w
  all_goals
    refine bO T Tryz.func25 rfl rfl rfl rfl ?_
    repeat' (first|refine wS ?_|refine wR ?_|(refine rg 0 (bQ (cD rfl rfl) rfl (bQ (cD rfl rfl) rfl (aV ?_))))|(refine rg 1 (gH T rfl (qW T rfl (vV (jX rfl rfl) (mV ?_))));refine cH rfl rfl ?_ ?_<;>(intro hb;rw [hb];(try simp only [nm] at hb);try (exfalso;omega));(all_goals (refine yP T rfl (yO T rfl (gT (qW T rfl (yN rfl (yV (iO rfl rfl) (pW rfl (mV ?_)))))));refine cH rfl rfl ?_ ?_<;>(intro hb;rw [hb];(try simp only [nm] at hb);try (exfalso;omega))));(all_goals (refine yP T rfl (yO T rfl (gT (qW T rfl (yN rfl (yV (iO rfl rfl) (pW rfl (mV ?_)))))));refine cH rfl rfl ?_ ?_<;>(intro hb;rw [hb];(try simp only [nm] at hb);try (exfalso;omega))));(all_goals (refine yP T rfl (yO T rfl (gT (qW T rfl (yV (iO rfl rfl) (pW rfl (mV ?_))))));refine cH rfl rfl ?_ ?_<;>(intro hb;rw [hb];(try simp only [nm] at hb);try (exfalso;omega))));(all_goals (refine yP T rfl (yO T rfl (gT (qW T rfl (yV (iO rfl rfl) (pW rfl (mV ?_))))));refine cH rfl rfl ?_ ?_<;>(intro hb;rw [hb];(try simp only [nm] at hb);try (exfalso;omega))));(all_goals (refine yO T rfl (yV (kC (c1)) (pW rfl (mV ?_)))));(all_goals first|(refine gT (fW T rfl (gT (lW T rfl (gT (fW T rfl (gT (lW T rfl (gT (fV T ?_)))))))));refine gT (lW T rfl (gT (fW T rfl (gT (lW T rfl (gT (vV (kC (c2)) ?_))))))))|(iterate 9 refine gF ?_));(all_goals (refine pW rfl (aV ?_))))|refine nZ ?_)
  all_goals first | exact rQ | (exfalso;omega)
theorem zK2 (N : Nat) (hN : N≤8) (ks : List KD) (ls : List LT) (ps : List Int) (bs : List BX) (m st er sl : Int) :
    aR Tryz.prog 25 [uW ks ls ps bs,gY m st er sl,.i N] [] (.b false) [] ∨
    (aR Tryz.prog 25 [uW ks ls ps bs,gY m st er sl,.i N] [] (.b true) []∧zC6 ks ls ps bs∧lR m st er sl∧uL ks ls ps bs∧ps.length≤N) := by
  by_cases h : zC7 N ks ls ps bs
  · cases hs : B2 m st er sl
    · cases ht : sT ks ls ps bs
      · exact .inl (K5 N hN ks ls ps bs m st er sl h hs ht)
      · exact .inl (K5 N hN ks ls ps bs m st er sl h hs ht)
    · cases ht : sT ks ls ps bs
      · exact .inl (K5 N hN ks ls ps bs m st er sl h hs ht)
      · exact .inr ⟨K5 N hN ks ls ps bs m st er sl h hs ht,zT1 ⟨h.1,by have := h.2.1;omega,by have := h.2.2.1;omega,h.2.2.2.1,h.2.2.2.2⟩ ht,RJ hs,by unfold sT at ht;simpa using ht,h.2.1⟩
  · exact .inl (YN N hN ks ls ps bs m st er sl h)
end Go.Proofs.YtmmkhmilpeodnaaGreat
namespace Go.Ld
open Go.Ab Go.Proofs.YtmmkhmilpeodnaaGreat
theorem zP0 {l u n : Int} (hu : 0<u) : (l+u - 1) / u≤n↔l≤n * u := by
  have h : (l+u - 1) / u<n+1↔l+u - 1<(n+1) * u := Int.ediv_lt_iff_lt_mul hu;rw [Int.add_mul] at h;omega
theorem zO9 {l u n : Int} (hu : 0<u) : n<l / u+1↔n * u≤l := by
  have h : n≤l / u↔n * u≤l := Int.le_ediv_iff_mul_le hu;omega
theorem nB {f t n : Int} : uZ f t n=true↔f≤n∧n<t := by unfold uZ;simp
theorem BA {f t v : Int} (h0 : 0≤v) (h1 : v≤20000) : ((L0 f t).2=true∧uZ (L0 f t).1.1 (L0 f t).1.2 v=true)↔f≤v∧v<t := by
  unfold L0;dsimp only;rw [nB];rcases AZ f t with ⟨a,b,d,e⟩ | ⟨a,b,d,e⟩
  · rw [a,b,d];constructor
    · rintro ⟨_,_⟩;omega
    · intro _;exact ⟨rfl,by omega⟩
  · rw [a];constructor
    · rintro ⟨h,_⟩;cases h
    · intro _;omega
theorem zD2 {t u w e v : Int} (hf : 0≤t∧t≤1099511627776∧0≤u∧u≤1099511627776∧0≤w∧w≤1099511627776∧0≤e∧e≤1099511627776) (h0 : 0≤v) (h1 : v≤20000) :
    ((UM t u w e).2=true∧uZ (UM t u w e).1.1 (UM t u w e).1.2 v=true)↔w - e≤t+v * u∧t+v * u≤w+e := by
  have b1 : 0≤v * u := Int.mul_nonneg h0 hf.2.2.1;unfold UM;rw [if_pos (show EA t u w e=true by unfold EA;rw [decide_eq_true_eq];exact hf)]
  by_cases c1 : w+e - t<0∨u=0∧0<w - e - t
  · rw [if_pos c1];constructor
    · rintro ⟨h,_⟩;cases h
    · rintro ⟨a,b⟩;rcases c1 with c1 | ⟨rfl,c1⟩ <;> omega
  · rw [if_neg c1];by_cases c2 : u=0
    · rw [if_pos c2];dsimp only;rw [nB];subst c2;constructor
      · rintro ⟨_,_⟩;omega
      · rintro _;exact ⟨rfl,by omega⟩
    · rw [if_neg c2,BA h0 h1];have hu : 0<u := by omega
      have g1 : zV8 t u w e≤v↔max (w - e - t) 0≤v * u := zP0 hu;have g2 : v<zV7 t u w e↔v * u≤w+e - t := zO9 hu;omega
theorem QP {t u w e v : Int} {r : SP} (hf : 0≤t∧t≤1099511627776∧0≤u∧u≤1099511627776∧0≤w∧w≤1099511627776∧0≤e∧e≤1099511627776) (h0 : 0≤v) (h1 : v≤20000) :
    ((uP t u w e r).2=true∧uZ (uP t u w e r).1.1 (uP t u w e r).1.2 v=true)↔uZ r.1 r.2 v=true∧w - e≤t+v * u∧t+v * u≤w+e := by
  have hw := zD2 hf h0 h1;unfold uP;generalize UM t u w e=q at *;dsimp only;by_cases hq : q.2=true
  · rw [if_pos hq,BA h0 h1,← hw,nB,nB];constructor
    · intro h;exact ⟨by omega,hq,by omega⟩
    · rintro ⟨a,_,b⟩;omega
  · rw [if_neg hq,← hw];constructor
    · rintro ⟨a,_⟩;exact absurd a hq
    · rintro ⟨_,a,_⟩;exact absurd a hq
theorem PY {c : Cx} {s : Ev} {x : Int × SP} {v : Int} (hb : 0≤(c.bs.getD x.1.toNat (0,0,0)).2.2∧(c.bs.getD x.1.toNat (0,0,0)).2.2≤1073741824)
    (hu : 0≤nJ c.ks c.ls (c.bs.getD x.1.toNat (0,0,0)).1∧nJ c.ks c.ls (c.bs.getD x.1.toNat (0,0,0)).1≤1048576) (hs : lR c.m c.st c.er c.sl) (hn : s.k=1→0≤s.n∧s.n≤1099511627776) (h0 : 0≤v) (h1 : v≤20000) (h2 : s.k≠2) :
    ((L2 c s x).2.2=true∧uZ (L2 c s x).1.2.1 (L2 c s x).1.2.2 v=true)↔uZ x.2.1 x.2.2 v=true∧GS c.st c.er c.sl x.1 v ((c.bs.getD x.1.toNat (0,0,0)).2.2+v * nJ c.ks c.ls (c.bs.getD x.1.toNat (0,0,0)).1) s.k s.n s.ids=true := by
  unfold lR at hs;unfold L2 GS;by_cases k0 : s.k=0
  · rw [if_pos k0,if_pos k0];by_cases hm : x.1∈s.ids
    · rw [if_pos hm,if_pos hm];dsimp only;exact And.comm
    · rw [if_neg hm,if_neg hm];dsimp only;rw [Int.sub_zero];exact And.comm
  rw [if_neg k0,if_neg k0];by_cases k1 : s.k=1
  · rw [if_pos k1,if_pos k1];dsimp only;have hn := hn k1;rw [QP (by omega) h0 h1]
    unfold iU;simp
  rw [if_neg k1,if_neg k1,if_neg h2,if_neg h2];by_cases k3 : s.k=3
  · rw [if_pos k3,if_pos k3];dsimp only;rw [nB,nB,nB,decide_eq_true_eq];omega
  rw [if_neg k3,if_neg k3];by_cases k5 : s.k=5
  · rw [if_pos k5,if_pos k5];dsimp only;rw [decide_eq_true_eq,decide_eq_true_eq];constructor
    · rintro ⟨a,b⟩;exact ⟨b,a.symm⟩
    · rintro ⟨a,b⟩;exact ⟨b.symm,a⟩
  · rw [if_neg k5,if_neg k5];exact And.comm
theorem KM {c : Cx} {s : Ev} {x : Int × SP} {v : Int} (hx : 0≤x.2.1∧x.2.1<x.2.2∧x.2.2≤20001) (hs : lR c.m c.st c.er c.sl) (hn : 0≤s.n∧s.n≤1099511627776) (h0 : 0≤v) (h1 : v≤20000) (h2 : s.k=2) :
    ((L2 c s x).2.2=true∧uZ (L2 c s x).1.2.1 (L2 c s x).1.2.2 v=true)↔∃ u d : Int,uZ x.2.1 x.2.2 u=true∧s.n - c.sl≤u∧0≤d∧d≤u∧s.n - c.sl≤d∧d≤s.n+c.sl∧v=u - d := by
  unfold lR at hs;unfold L2;rw [if_neg (by omega),if_neg (by omega),if_pos h2]
  dsimp only;unfold zD;rw [if_pos (by omega),BA h0 h1]
  simp only [nB];constructor
  · intro h;by_cases hc : v+max (s.n - c.sl) 0≤x.2.1
    · exact ⟨x.2.1,x.2.1 - v,by omega,by omega,by omega,by omega,by omega,by omega,by omega⟩
    · exact ⟨v+max (s.n - c.sl) 0,max (s.n - c.sl) 0,by omega,by omega,by omega,by omega,by omega,by omega,by omega⟩
  · rintro ⟨u,d,a1,a2,a3,a4,a5,a6,rfl⟩;omega
theorem KN {c : Cx} {s : Ev} {x : Int × SP} (h : (L2 c s x).2.2=true) : (L2 c s x).2.1=zC9 c.st x.1 s.k s.ids := by
  unfold L2 zC9 at *;by_cases k0 : s.k=0
  · rw [if_pos k0] at h ⊢;rw [if_pos k0];by_cases hm : x.1∈s.ids
    · rw [if_pos hm] at h ⊢;simp only [if_pos hm];simp only [decide_eq_true_eq] at h;rw [if_neg (by omega)]
    · rw [if_neg hm] at h ⊢;simp only [if_neg hm];simp only [decide_eq_true_eq] at h;rw [if_neg (by omega)]
  · rw [if_neg k0,if_neg k0]
    repeat' split
    all_goals rfl
def qD (p : List Int) (s : Ev) (done : Int) : List Int := if s.k=4∧done=1 then (p.set s.a.toNat (p.getD s.b.toNat 0)).set s.b.toNat (p.getD s.a.toNat 0) else p
def tX (p q : List Int) (s : Ev) (done : Int) : List Int := if s.k=2 then q.set (p.getD s.a.toNat 0).toNat (q.getD (p.getD s.a.toNat 0).toNat 0 - done) else q
def KU (c : Cx) (p q : List Int) (s : Ev) : Bool :=
  GS c.st c.er c.sl (p.getD s.a.toNat 0) (q.getD (p.getD s.a.toNat 0).toNat 0) ((c.bs.getD (p.getD s.a.toNat 0).toNat (0,0,0)).2.2+q.getD (p.getD s.a.toNat 0).toNat 0 * nJ c.ks c.ls (c.bs.getD (p.getD s.a.toNat 0).toNat (0,0,0)).1) s.k s.n s.ids
def sH (c : Cx) (p q : List Int) (s : Ev) (done : Int) : Bool := GJ c.sl (q.getD (p.getD s.a.toNat 0).toNat 0) s.k s.n done
def rZ (c : Cx) (p : List Int) (s : Ev) : Int := zC9 c.st (p.getD s.a.toNat 0) s.k s.ids
def yH (c : Cx) (p q : List Int) (f : As) : Prop := ∀ b : Int,0≤b→b<c.bs.length→QL p q (f b) b
structure PQ (c : Cx) (p q : List Int) : Prop where
  pl : p.length=c.bs.length
  ql : q.length=c.bs.length
  pp : p.Perm (nats (List.range c.bs.length))
  q0 : ∀ x,x∈q→0≤x∧x≤20000
theorem IN {p : List Int} {n : Nat} (hl : p.length=n) : Go.Pm.permB p=true↔p.Perm (nats (List.range n)) := by
  unfold Go.Pm.permB;rw [decide_eq_true_eq,hl];constructor
  · intro h;rw [← h];exact (Go.Pm.sorted_perm p).symm
  · intro h;refine List.Perm.eq_of_pairwise (le := fun a b => a≤b) (fun a b _ _ h1 h2 => Int.le_antisymm h1 h2) ?_ ?_ ((Go.Pm.sorted_perm p).trans h)
    · have := List.pairwise_mergeSort (le := fun x y : Int => decide (x≤y)) (fun a b d h1 h2 => decide_eq_true (H8 (of_decide_eq_true h1) (of_decide_eq_true h2))) (fun a b => by rw [E1,decide_eq_true_eq,decide_eq_true_eq];omega) p
      exact this.imp (fun h => of_decide_eq_true h)
    · exact (wJ (n := n)).imp (fun h => h) |>.map _ (fun a b h => by omega)
theorem PQ.at {c : Cx} {p q : List Int} (h : PQ c p q) {b : Int} (h0 : 0≤b) (h1 : b<c.bs.length) : 0≤p.getD b.toNat 0∧p.getD b.toNat 0<c.bs.length := by
  have hl := h.pl;have hm : p.getD b.toNat 0∈p := by rw [aC,aA (by omega)];exact aI _
  exact tA.1 (h.pp.mem_iff.1 hm)
theorem PQ.inj {c : Cx} {p q : List Int} (h : PQ c p q) {a b : Int} (h0 : 0≤a) (h1 : a<c.bs.length) (h2 : 0≤b) (h3 : b<c.bs.length) (e : p.getD a.toNat 0=p.getD b.toNat 0) : a=b := by
  have hl := h.pl;have nd : p.Nodup := h.pp.nodup_iff.2 (B7 _);rw [aC,aA (by omega),aC,aA (by omega)] at e
  have := (zN3 nd).1 e;omega
theorem PQ.ct {c : Cx} {p q : List Int} (h : PQ c p q) {x : Int} (h0 : 0≤x) (h1 : x<c.bs.length) : 0≤q.getD x.toNat 0∧q.getD x.toNat 0≤20000 := by
  have hl := h.ql;refine h.q0 _ ?_;rw [aC,aA (by omega)];exact aI _
theorem wD {c : Cx} {p q : List Int} {s : Ev} {done : Int} (hk : s.k=2) (h : sH c p q s done=true) : 0≤done∧done≤q.getD (p.getD s.a.toNat 0).toNat 0∧s.n - c.sl≤done∧done≤s.n+c.sl := by
  unfold sH GJ iU at h;rw [if_pos hk] at h;simp only [aM,decide_eq_true_eq] at h;omega
theorem L6 {p : List Int} {s : Ev} {done : Int} : (qD p s done).length=p.length := by unfold qD;split <;> simp
theorem zA9 {p q : List Int} {s : Ev} {done : Int} : (tX p q s done).length=q.length := by unfold tX;split <;> simp
theorem CW {l : List Int} {i j : Nat} (hi : i<l.length) (hj : j<l.length) (hne : i≠j) : ((l.set i (l.getD j 0)).set j (l.getD i 0)).Perm l := by
  have h : ((l.set i (l.getD j 0)).set j (l.getD i 0)).Perm l := List.perm_iff_count.2 fun x => by
    have e1 : l.getD i 0=l[i] := by simp [List.getD,hi]
    have e2 : l.getD j 0=l[j] := by simp [List.getD,hj]
    rw [e1,e2,List.count_set (by simpa using hj),List.count_set hi,List.getElem_set_ne hne]
    have c1 : l[i]∈l := aI _;have c2 : l[j]∈l := aI _;have p1 := List.count_pos_iff.2 c1;have p2 := List.count_pos_iff.2 c2;by_cases a1 : l[i]=x
    · by_cases a2 : l[j]=x
      · rw [a1] at p1;simp [a1,a2];omega
      · rw [a1] at p1;simp [a1,a2];omega
    · by_cases a2 : l[j]=x
      · simp [a1,a2]
      · simp [a1,a2]
  exact h
theorem PQ.aft {c : Cx} {p q : List Int} {s : Ev} {done : Int} (h : PQ c p q) (ha : 0≤s.a∧s.a<c.bs.length) (hb : s.k=4→s.a<s.b∧s.b<c.bs.length) (hc : sH c p q s done=true) : PQ c (qD p s done) (tX p q s done) where
  pl := by rw [L6];exact h.pl
  ql := by rw [zA9];exact h.ql
  pp := by
    refine List.Perm.trans ?_ h.pp;have hl := h.pl;unfold qD;split
    · rename_i hk;have := hb hk.1;exact CW (by omega) (by omega) (by omega)
    · exact .refl _
  q0 := fun x hx => by
    unfold tX at hx;split at hx
    · rename_i hk;rcases fO hx with hx | rfl
      · exact h.q0 x hx
      · have := wD hk hc;obtain ⟨i0,i1⟩ := h.at ha.1 ha.2;have := h.ct i0 i1;omega
    · exact h.q0 x hx
theorem zO {l : List Int} {i j : Nat} {x : Int} (hj : i<l.length) : (l.set i x).getD j 0=if j=i then x else l.getD j 0 := fK hj
theorem qI.box {c : Cx} (h : qI c) {x : Int} (h0 : 0≤x) (h1 : x<c.bs.length) : (0≤(c.bs.getD x.toNat (0,0,0)).2.2∧(c.bs.getD x.toNat (0,0,0)).2.2≤1073741824)∧(0≤nJ c.ks c.ls (c.bs.getD x.toNat (0,0,0)).1∧nJ c.ks c.ls (c.bs.getD x.toNat (0,0,0)).1≤1048576) := by
  have hx : x.toNat<c.bs.length := by omega
  have hb := h.f.b _ hx;have e : c.bs.getD x.toNat (0,0,0)=c.bs[x.toNat] := by rw [aC,aA hx];rfl
  rw [e];exact ⟨by omega,NY h.f hb.2.1⟩
theorem RQ {c : Cx} {p q : List Int} {f : As} {s : Ev} {done : Int} (hc : qI c) (h : PQ c p q) (hf : yH c p q f) (hS : ∀ b : Int,0≤b→b<c.bs.length→LL (f b).2)
    (ha : 0≤s.a∧s.a<c.bs.length) (hb : s.k=4→s.a<s.b∧s.b<c.bs.length) (hn : s.k=1∨s.k=2→0≤s.n∧s.n≤1099511627776) (hag : KU c p q s=true) (hcan : sH c p q s done=true) :
    ∃ f',CF c s f f' (rZ c p s)∧yH c (qD p s done) (tX p q s done) f' := by
  have hpl := h.pl;have hql := h.ql;by_cases hsw : s.k=4∧done=1
  · refine ⟨RC f s.a s.b,.inr ⟨hsw.1,rfl,by unfold rZ zC9;rw [if_neg (by omega)]⟩,fun b b0 b1 => ?_⟩
    have hb := hb hsw.1;have eq : tX p q s done=q := by unfold tX;rw [if_neg (by omega)]
    rw [eq];have ep : (qD p s done).getD b.toNat 0=if b=s.a then p.getD s.b.toNat 0 else if b=s.b then p.getD s.a.toNat 0 else p.getD b.toNat 0 := by
      unfold qD;rw [if_pos hsw,zO (by simp;omega),zO (by omega)]
      by_cases e1 : b=s.a
      · rw [if_pos e1,if_neg (by omega),if_pos (by omega)]
      · rw [if_neg e1];by_cases e2 : b=s.b
        · rw [if_pos e2,if_pos (by omega)]
        · rw [if_neg e2,if_neg (by omega),if_neg (by omega)]
    have h1 := hf s.a ha.1 ha.2;have h2 := hf s.b (by omega) hb.2
    have h3 := hf b b0 b1;unfold QL RC at *;rw [ep];by_cases e1 : b=s.a
    · rw [if_pos e1,if_pos e1];exact h2
    · rw [if_neg e1,if_neg e1];by_cases e2 : b=s.b
      · rw [if_pos e2,if_pos e2];exact h1
      · rw [if_neg e2,if_neg e2];exact h3
  · have ep : qD p s done=p := by unfold qD;rw [if_neg hsw]
    rw [ep];obtain ⟨i0,i1⟩ := h.at ha.1 ha.2;obtain ⟨q0,q1⟩ := h.ct i0 i1;obtain ⟨o1,o2⟩ := hf s.a ha.1 ha.2;obtain ⟨hbx,hu⟩ := hc.box i0 i1;have hsa := hS s.a ha.1 ha.2;have key : (L2 c s (f s.a)).2.2=true∧uZ (L2 c s (f s.a)).1.2.1 (L2 c s (f s.a)).1.2.2 ((tX p q s done).getD (p.getD s.a.toNat 0).toNat 0)=true := by
      by_cases k2 : s.k=2
      · have hr := wD k2 hcan;have e : (tX p q s done).getD (p.getD s.a.toNat 0).toNat 0=q.getD (p.getD s.a.toNat 0).toNat 0 - done := by
          unfold tX;rw [if_pos k2,zO (by omega),if_pos rfl]
        rw [e];refine (KM ⟨hsa.1,hsa.2.1,hsa.2.2⟩ hc.s (hn (.inr k2)) (by omega) (by omega) k2).2 ⟨_,done,o2,?_,by omega,by omega,by omega,by omega,rfl⟩
        unfold KU GS at hag;rw [if_neg (by omega),if_neg (by omega),if_pos k2,decide_eq_true_eq] at hag
        exact hag
      · have e : tX p q s done=q := by unfold tX;rw [if_neg k2]
        rw [e];have o1' : (f s.a).1=p.getD s.a.toNat 0 := o1;refine (PY (by rw [o1'];exact hbx) (by rw [o1'];exact hu) hc.s (fun k => hn (.inl k)) q0 q1 k2).2 ⟨o2,?_⟩
        rw [o1'];exact hag
    refine ⟨upd f s.a (L2 c s (f s.a)).1,.inl ⟨key.1,rfl,?_⟩,fun b b0 b1 => ?_⟩
    · rw [KN key.1,show (f s.a).1=p.getD s.a.toNat 0 from o1];rfl
    · have h3 := hf b b0 b1;unfold QL upd at *;by_cases e1 : b=s.a
      · rw [if_pos e1,GN,e1];exact ⟨o1,key.2⟩
      · rw [if_neg e1];refine ⟨h3.1,?_⟩;have hne : (p.getD b.toNat 0).toNat≠(p.getD s.a.toNat 0).toNat := fun e => by
          obtain ⟨j0,j1⟩ := h.at b0 b1;exact e1 (h.inj b0 b1 ha.1 ha.2 (by omega))
        have e : (tX p q s done).getD (p.getD b.toNat 0).toNat 0=q.getD (p.getD b.toNat 0).toNat 0 := by
          unfold tX;split
          · rw [zO (by omega),if_neg hne]
          · rfl
        rw [e];exact h3.2
theorem RS {c : Cx} {p' q' : List Int} {f f' : As} {s : Ev} {d : Int} (hc : qI c) (h : PQ c p' q') (hst : CF c s f f' d) (hf : yH c p' q' f') (hS : ∀ b : Int,0≤b→b<c.bs.length→LL (f b).2)
    (ha : 0≤s.a∧s.a<c.bs.length) (hb : s.k=4→s.a<s.b∧s.b<c.bs.length) (hn : s.k=1∨s.k=2→0≤s.n∧s.n≤1099511627776) :
    ∃ p q done,PQ c p q∧yH c p q f∧KU c p q s=true∧sH c p q s done=true∧d=rZ c p s∧p'=qD p s done∧q'=tX p q s done := by
  have hpl := h.pl;have hql := h.ql;rcases hst with ⟨hok,rfl,rfl⟩ | ⟨hk,rfl,rfl⟩
  · obtain ⟨i0,i1⟩ := h.at ha.1 ha.2;obtain ⟨q0,q1⟩ := h.ct i0 i1;obtain ⟨hbx,hu⟩ := hc.box i0 i1;obtain ⟨o1,o2⟩ := hf s.a ha.1 ha.2;have hsa := hS s.a ha.1 ha.2;unfold upd at o1 o2;rw [if_pos rfl] at o1 o2;rw [GN] at o1;have hm : (L2 c s (f s.a)).2.1=rZ c p' s := by rw [KN hok,o1];rfl
    by_cases k2 : s.k=2
    · obtain ⟨u,dn,a1,a2,a3,a4,a5,a6,a7⟩ := (KM ⟨hsa.1,hsa.2.1,hsa.2.2⟩ hc.s (hn (.inr k2)) q0 q1 k2).1 ⟨hok,o2⟩;have hu2 := nB.1 a1;have hgx : (q'.set (p'.getD s.a.toNat 0).toNat u).getD (p'.getD s.a.toNat 0).toNat 0=u := by rw [zO (by omega),if_pos rfl]
      refine ⟨p',q'.set (p'.getD s.a.toNat 0).toNat u,dn,⟨hpl,by simpa using hql,h.pp,fun x hx => ?_⟩,fun b b0 b1 => ?_,?_,?_,hm,?_,?_⟩
      · rcases fO hx with hx | rfl
        · exact h.q0 x hx
        · have := hsa.2.2;have := hsa.1;omega
      · have h3 := hf b b0 b1;unfold QL upd at *;by_cases e1 : b=s.a
        · subst e1;rw [hgx];exact ⟨o1,a1⟩
        · rw [if_neg e1] at h3;refine ⟨h3.1,?_⟩;rw [zO (by omega),if_neg]
          · exact h3.2
          · intro e;obtain ⟨j0,j1⟩ := h.at b0 b1;exact e1 (h.inj b0 b1 ha.1 ha.2 (by omega))
      · unfold KU GS;rw [if_neg (by omega),if_neg (by omega),if_pos k2,hgx,decide_eq_true_eq];exact a2
      · unfold sH GJ iU;rw [if_pos k2,hgx];simp only [aM,decide_eq_true_eq];omega
      · unfold qD;rw [if_neg (by omega)]
      · unfold tX;rw [if_pos k2,hgx,List.set_set,← a7];exact (HY _ (by omega)).symm
    · have hx := (PY (c := c) (s := s) (x := f s.a) (by rw [o1];exact hbx) (by rw [o1];exact hu) hc.s (fun k => hn (.inl k)) q0 q1 k2).1 ⟨hok,o2⟩
      refine ⟨p',q',0,h,fun b b0 b1 => ?_,?_,?_,hm,?_,?_⟩
      · have h3 := hf b b0 b1;unfold QL upd at *;by_cases e1 : b=s.a
        · subst e1;exact ⟨o1,hx.1⟩
        · rw [if_neg e1] at h3;exact h3
      · have := hx.2;rw [o1] at this;exact this
      · unfold sH GJ;rw [if_neg k2];split <;> rfl
      · unfold qD;rw [if_neg (by omega)]
      · unfold tX;rw [if_neg k2]
  · have hb := hb hk;have hag : ∀ p q,KU c p q s=true := fun p q => by unfold KU GS;rw [if_neg (by omega),if_neg (by omega),if_neg (by omega),if_neg (by omega),if_neg (by omega)]
    have hp1 : ((p'.set s.a.toNat (p'.getD s.b.toNat 0)).set s.b.toNat (p'.getD s.a.toNat 0)).Perm p' := CW (by omega) (by omega) (by omega)
    have g : ∀ b : Int,0≤b→b<c.bs.length→((p'.set s.a.toNat (p'.getD s.b.toNat 0)).set s.b.toNat (p'.getD s.a.toNat 0)).getD b.toNat 0=if b=s.a then p'.getD s.b.toNat 0 else if b=s.b then p'.getD s.a.toNat 0 else p'.getD b.toNat 0 := fun b b0 b1 => by
      rw [zO (by simp;omega),zO (by omega)]
      by_cases e1 : b=s.a
      · rw [if_pos e1,if_neg (by omega),if_pos (by omega)]
      · rw [if_neg e1];by_cases e2 : b=s.b
        · rw [if_pos e2,if_pos (by omega)]
        · rw [if_neg e2,if_neg (by omega),if_neg (by omega)]
    refine ⟨(p'.set s.a.toNat (p'.getD s.b.toNat 0)).set s.b.toNat (p'.getD s.a.toNat 0),q',1,⟨by simpa using hpl,hql,hp1.trans h.pp,h.q0⟩,fun b b0 b1 => ?_,hag _ _,?_,?_,?_,?_⟩
    · have h1 := hf s.a ha.1 ha.2;have h2 := hf s.b (by omega) hb.2
      have h3 := hf b b0 b1;unfold QL RC at *;rw [g b b0 b1];rw [if_pos rfl] at h1;rw [if_neg (by omega),if_pos rfl] at h2
      by_cases e1 : b=s.a
      · subst e1;rw [if_pos rfl];exact h2
      · rw [if_neg e1] at h3 ⊢;by_cases e2 : b=s.b
        · subst e2;rw [if_pos rfl];exact h1
        · rw [if_neg e2] at h3 ⊢;exact h3
    · unfold sH GJ;rw [if_neg (by omega),if_pos hk];rfl
    · unfold rZ zC9;rw [if_neg (by omega)]
    · unfold qD;rw [if_pos ⟨hk,rfl⟩,g s.a ha.1 ha.2,g s.b (by omega) hb.2,if_pos rfl,if_neg (by omega),if_pos rfl]
      refine kI (by simp) fun i h1 h2 => ?_
      simp only [List.getElem_set];have ea : p'.getD s.a.toNat 0=p'[s.a.toNat]'(by omega) := by simp [List.getD,show s.a.toNat<p'.length by omega]
      have eb : p'.getD s.b.toNat 0=p'[s.b.toNat]'(by omega) := by simp [List.getD,show s.b.toNat<p'.length by omega]
      split
      · rename_i h;subst h;exact eb.symm ▸ rfl
      · split
        · rename_i h;subst h;exact ea.symm ▸ rfl
        · rfl
    · unfold tX;rw [if_neg (by omega)]
theorem YM {bs : List Int} {w : W} {f : As} (h : oH bs w f) {b : Int} (hb : b∈bs) : gP w (bs.idxOf b)=(f b).1∧gC w (bs.idxOf b)=(f b).2 := by
  obtain ⟨hx,e⟩ := zK hb;have e1 := FT h hx;have e2 := FV h hx;rw [e] at e1 e2;exact ⟨e1,e2⟩
theorem EY {c : Cx} {M0 : Int} {gs : List G} (h : nQ c M0 gs) {f : As} {M : Int} (hs : Sem gs f M) {b : Int} (h0 : 0≤b) (h1 : b<c.bs.length) : LL (f b).2∧0≤(f b).1∧(f b).1<c.bs.length := by
  obtain ⟨g,hg,hb⟩ := h.find ⟨h0,h1⟩;obtain ⟨w,hw,hf⟩ := N6 hs hg;obtain ⟨e1,e2⟩ := YM hf hb;have hi := iN hb;obtain ⟨a,d,e⟩ := ((h.out.ok g hg).ws w hw).at hi;rw [e1] at a d;rw [e2] at e;exact ⟨e,a,d⟩
theorem OU {c : Cx} {f : As} {M : Int} : ∀ {l : List Nat},Sem (l.map (U1 c)) f M↔0≤M∧∀ i,i∈l→f (i : Int)=((i : Int),((c.bs.getD i (0,0,0)).2.1,(c.bs.getD i (0,0,0)).2.1+1))
  | [] => by simp [Sem]
  | i :: l => by
    have ih := fun M => OU (c := c) (f := f) (M := M) (l := l);simp only [List.map_cons,Sem,ih];constructor
    · rintro ⟨m,⟨w,hw,hf,hm⟩,h0,h1⟩;obtain rfl := bK.1 hw;obtain ⟨f1,f2⟩ := hf;have f1 : [(i : Int)]=[(f i).1] := f1;have f2 : [((c.bs.getD i (0,0,0)).2.1,(c.bs.getD i (0,0,0)).2.1+1)]=[(f i).2] := f2;have hm : (0 : Int)≤m := hm;refine ⟨by omega,fun k hk => ?_⟩
      rcases bR.1 hk with rfl | hk
      · exact Prod.ext (List.cons.inj f1).1.symm (List.cons.inj f2).1.symm
      · exact h1 k hk
    · rintro ⟨h0,h1⟩;have hi := h1 i aS;refine ⟨0,⟨_,bK.2 rfl,⟨?_,?_⟩,eP _⟩,by omega,fun k hk => h1 k (aK _ hk)⟩
      · show [(i : Int)]=[(f i).1];rw [hi]
      · show [_]=[(f i).2];rw [hi]
theorem OT {c : Cx} {f : As} {M : Int} : Sem (qT c) f M↔0≤M∧∀ b : Int,0≤b→b<c.bs.length→f b=(b,((c.bs.getD b.toNat (0,0,0)).2.1,(c.bs.getD b.toNat (0,0,0)).2.1+1)) := by
  rw [wY,OU];constructor
  · rintro ⟨h0,h⟩;refine ⟨h0,fun b b0 b1 => ?_⟩
    have := h b.toNat (eF.2 (by omega))
    rwa [show ((b.toNat : Nat) : Int)=b by omega] at this
  · rintro ⟨h0,h⟩;refine ⟨h0,fun i hi => ?_⟩
    have := h i (by omega) (by have := eF.1 hi;omega)
    rwa [bJ] at this
theorem YV {n : Nat} : ∀ {gs : List G},(gs.flatMap (·.1)).Nodup→(∀ g,g∈gs→yW n g)→(∀ g,g∈gs→g.2≠[])→∃ f,Sem gs f (jT gs)
  | [],_,_,_ => ⟨fun _ => (0,(0,0)),by simp [Sem,jT]⟩
  | g :: gs,nd,ok,ne => by
    obtain ⟨f0,h0⟩ := YV (gs := gs) (by rw [bF] at nd;exact (cO.1 nd).2.1) (fun x hx => ok x (aK _ hx)) (fun x hx => ne x (aK _ hx))
    obtain ⟨w,hw,hm⟩ := sN (ne g aS);have og := ok g aS;refine ⟨fun b => if b∈g.1 then EJ g w b else f0 b,fX g,?_,?_⟩
    · refine (O3 (f := EJ g w) (fun b hb => (if_pos hb).symm)).1 ⟨w,hw,L4 og (og.ws w hw),by omega⟩
    · refine (sK (f := f0) (fun x hx b hb => ?_)).1 (h0.mono (by simp [jT];omega))
      rw [bF] at nd;rw [if_neg (fun q => (cO.1 nd).2.2 b q b (oU hx hb) rfl)]
theorem zK9 {n : Nat} {gs : List G} (nd : (gs.flatMap (·.1)).Nodup) (ok : ∀ g,g∈gs→yW n g) (ne : ∀ g,g∈gs→g.2≠[]) {g : G} (hg : g∈gs) {w : W} (hw : w∈g.2) : ∃ f,oH g.1 w f∧Sem gs f (w.2.1+(jT gs - fX g)) := by
  obtain ⟨A,B,rfl⟩ := UC hg;have hp : (A ++ g :: B).Perm (g :: (A ++ B)) := gR;have nd' : ((g :: (A ++ B)).flatMap (·.1)).Nodup := (hp.flatMap_right _).nodup_iff.1 nd;have hs : jT (A ++ g :: B)=fX g+jT (A ++ B) := by simp [jT];omega
  rw [bF] at nd';obtain ⟨f0,h0⟩ := YV (gs := A ++ B) (cO.1 nd').2.1 (fun x hx => ok x (hp.mem_iff.2 (aK _ hx))) (fun x hx => ne x (hp.mem_iff.2 (aK _ hx)));have og := ok g hg;have hF := L4 og (og.ws w hw);have hc : ∀ b,b∈g.1→EJ g w b=(fun b => if b∈g.1 then EJ g w b else f0 b) b := fun b hb => (if_pos hb).symm
  refine ⟨fun b => if b∈g.1 then EJ g w b else f0 b,?_,(oO hp).2 ⟨w.2.1,?_,?_⟩⟩
  · unfold oH at hF ⊢;rw [← jJ (f := fun b => (EJ g w b).1) (fun b hb => by rw [hc b hb]),← jJ (f := fun b => (EJ g w b).2) (fun b hb => by rw [hc b hb])]
    exact hF
  · exact (O3 hc).1 ⟨w,hw,hF,eP _⟩
  · refine (sK (f := f0) (fun x hx b hb => ?_)).1 (h0.mono (by omega))
    rw [if_neg (fun q => (cO.1 nd').2.2 b q b (oU hx hb) rfl)]
theorem F1 {α β : Type} (f g : α→List β) : ∀ l : List α,(∀ x,x∈l→(f x).Perm (g x))→(l.flatMap f).Perm (l.flatMap g)
  | [],_ => .refl _
  | x :: l,h => by
    rw [bF,bF];exact (h x aS).append (F1 f g l (fun y hy => h y (aK _ hy)))
theorem JC {α β γ : Type} (f : β→γ) (g : α→List β) : ∀ l : List α,(l.flatMap g).map f=l.flatMap fun x => (g x).map f
  | [] => rfl
  | x :: l => by rw [bF,bF,dB,JC f g l]
theorem zF4 {c : Cx} {M0 : Int} {gs : List G} (h : nQ c M0 gs) {f : As} {M : Int} (hs : Sem gs f M) : ((nats (List.range c.bs.length)).map fun b => (f b).1).Perm (nats (List.range c.bs.length)) := by
  refine ((h.cov.symm.map _).trans ?_).trans h.idn;rw [JC];refine F1 _ _ _ fun g hg => ?_
  obtain ⟨w,hw,hf⟩ := N6 hs hg;rw [← hf.1];exact (h.out.ok g hg).same w (iG g) hw (jF (h.ne g hg))
theorem FK {n : Nat} {α : Type} (F : Int→α) (d : α) {b : Int} (h0 : 0≤b) (h1 : b<n) : ((nats (List.range n)).map F).getD b.toNat d=F b := by
  rw [aC,aA (by simp;omega)]
  simp only [mT,List.getElem_range,lC];rw [show ((b.toNat : Nat) : Int)=b by omega]
theorem IJ {c : Cx} {M0 : Int} {gs : List G} (h : nQ c M0 gs) {f : As} {M : Int} (hs : Sem gs f M) : ∃ p q,PQ c p q∧yH c p q f := by
  have hi := zF4 h hs;have hnl : (nats (List.range c.bs.length)).length=c.bs.length := by simp
  generalize hp : ((nats (List.range c.bs.length)).map fun b => (f b).1)=p at *;have hpl : p.length=c.bs.length := by rw [hi.length_eq,hnl]
  have nd : p.Nodup := hi.nodup_iff.2 (B7 _);have hpg : ∀ b : Int,0≤b→b<c.bs.length→p.getD b.toNat 0=(f b).1 := fun b h0 h1 => by rw [← hp];exact FK _ _ h0 h1
  refine ⟨p,(nats (List.range c.bs.length)).map fun x => if x∈p then (f (p.idxOf x)).2.1 else 0,⟨hpl,by simp,hi,fun y hy => ?_⟩,fun b h0 h1 => ⟨(hpg b h0 h1).symm,?_⟩⟩
  · obtain ⟨x,hx,rfl⟩ := bE.1 hy;have hxm := hi.mem_iff.2 hx;rw [if_pos hxm];have hlt := iN hxm;have := (EY h hs (b := (p.idxOf x : Nat)) (by omega) (by omega)).1
    unfold LL at this;omega
  · have hr := EY h hs h0 h1;rw [hpg b h0 h1,FK _ _ hr.2.1 hr.2.2];have hb : b.toNat<p.length := by omega
    have e : (f b).1=p[b.toNat] := by rw [← hpg b h0 h1,aC,aA hb];rfl
    rw [if_pos (by rw [e];exact aI _),e,nd.idxOf_getElem,show ((b.toNat : Nat) : Int)=b by omega,nB]
    have := hr.1;unfold LL at this;omega
def qZ (c : Cx) (gs : List G) : Prop := ∀ g,g∈gs→∀ w,w∈g.2→w.2.1+(jT gs - fX g)≤c.m
theorem JE {g g' : G} (h : g.2≠[]) (h1 : ∀ w,w∈g'.2→∃ v,v∈g.2∧v.2.1≤w.2.1) (h2 : ∀ w,w∈g.2→∃ v,v∈g'.2∧v.2.1≤w.2.1) : fX g'=fX g := by
  obtain ⟨w,hw,e⟩ := sN h;obtain ⟨v,hv,hvw⟩ := h2 w hw;have hne : g'.2≠[] := fun q => by rw [q] at hv;cases hv
  obtain ⟨w',hw',e'⟩ := sN hne;obtain ⟨v',hv',hvw'⟩ := h1 w' hw';have a := tC hv;have b := tC hv';omega
theorem MD {c : Cx} {N : List G} (hne : ∀ g,g∈paid c N→g.2≠[]) : jT (paid c N)=jT N∧∀ g,g∈N→fX (g.1,g.2.filter fun w => decide (w.2.1+(jT N - fX g)≤c.m))=fX g := by
  have key : ∀ g,g∈N→fX (g.1,g.2.filter fun w => decide (w.2.1+(jT N - fX g)≤c.m))=fX g := fun g hg => by
    have hn := hne _ (bE.2 ⟨g,hg,rfl⟩);obtain ⟨w,hw⟩ := List.exists_mem_of_ne_nil _ hn;obtain ⟨hwg,hwm⟩ := kA.1 hw;simp only [decide_eq_true_eq] at hwm;have hgn : g.2≠[] := fun q => by rw [q] at hwg;cases hwg
    have := tC hwg;refine JE hgn (fun v hv => ⟨v,(kA.1 hv).1,eP _⟩) fun v hv => ?_
    obtain ⟨u,hu,eu⟩ := sN hgn;exact ⟨u,kA.2 ⟨hu,by simp only [decide_eq_true_eq];omega⟩,by have := tC hv;omega⟩
  refine ⟨?_,key⟩;unfold jT;congr 1;unfold paid;rw [CG];exact jJ fun g hg => key g hg
theorem SC {c : Cx} {N : List G} (hne : ∀ g,g∈paid c N→g.2≠[]) : qZ c (paid c N) := by
  obtain ⟨e,k⟩ := MD hne;intro g hg w hw;rw [e];obtain ⟨x,hx,rfl⟩ := bE.1 hg;rw [k x hx];have := (kA.1 hw).2;simp only [decide_eq_true_eq] at this;exact this
theorem DR (g : G) (k : Nat) : fX (nE g k)=0 := rfl
theorem MM {g : G} {k : Nat} (h : g.2≠[]) : fX (jN g k)=fX g := by
  refine JE h (fun w hw => ?_) fun w hw => ?_
  · obtain ⟨v,hv,rfl⟩ := bE.1 (pI hw);exact ⟨v,hv,eP _⟩
  · obtain ⟨v,hv,_,_,h3⟩ := wV (bE.2 ⟨w,hw,rfl⟩ : (w.1.eraseIdx k,w.2.1,w.2.2.eraseIdx k)∈g.2.map fun w => (w.1.eraseIdx k,w.2.1,w.2.2.eraseIdx k));exact ⟨v,hv,h3⟩
theorem rX (l : List G) (g : G) : jT (g :: l)=fX g+jT l := by simp [jT]
theorem Z7 : ∀ (m : Nat) {g : G},g.2≠[]→jT (lN m g)=fX g∧∀ x,x∈lN m g→∀ w,w∈x.2→∃ v,v∈g.2∧w.2.1 - fX x≤v.2.1 - fX g
  | 0,g,h => ⟨by simp [lN,jT],fun x hx w hw => by obtain rfl := bK.1 hx;exact ⟨w,hw,eP _⟩⟩
  | m+1,g,h => by
    unfold lN;split
    · exact ⟨by simp [jT],fun x hx w hw => by obtain rfl := bK.1 hx;exact ⟨w,hw,eP _⟩⟩
    · rename_i k hk;obtain ⟨i1,i2⟩ := Z7 m (OK (k := k) h);have hl := MM (k := k) h;refine ⟨by rw [rX,i1,DR,hl];omega,fun x hx w hw => ?_⟩
      rcases bR.1 hx with rfl | hx
      · obtain rfl := bK.1 hw;obtain ⟨u,hu,e⟩ := sN h;exact ⟨u,hu,by rw [DR];show (0 : Int) - 0≤_;omega⟩
      · obtain ⟨v,hv,h3⟩ := i2 x hx w hw;obtain ⟨v',hv',rfl⟩ := bE.1 (pI hv);refine ⟨v',hv',?_⟩;rw [hl] at h3;exact h3
theorem RD {a b : List G} (h : a.Perm b) : jT a=jT b := by
  induction h with
  | nil => rfl
  | cons x _ ih => rw [rX,rX,ih]
  | swap x y l => rw [rX,rX,rX,rX];omega
  | trans _ _ h1 h2 => rw [h1,h2]
theorem HT {F : G→List G} : ∀ {l : List G},(∀ g,g∈l→jT (F g)=fX g)→jT (l.flatMap F)=jT l
  | [],_ => rfl
  | g :: l,h => by
    have a := HT (l := l) fun x hx => h x (aK _ hx);have b := h g aS;rw [bF,rX,← b,← a];simp [jT]
theorem MC {c : Cx} {P : List G} (hp : qZ c P) (hne : ∀ g,g∈P→g.2≠[]) : qZ c (qM P) := by
  have hs : jT (qM P)=jT P := by
    unfold qM;rw [RD (dD cG _)];exact HT fun g hg => (Z7 _ (hne g hg)).1
  intro x hx w hw;rw [hs];unfold qM at hx;obtain ⟨g,hg,hxg⟩ := fN.1 ((dD cG _).mem_iff.1 hx);obtain ⟨v,hv,h3⟩ := (Z7 _ (hne g hg)).2 x hxg w hw;have := hp g hg v hv;omega
theorem QZ {c : Cx} {N : List G} (h : (uV c N).any (fun g => g.2.isEmpty)=false) : qZ c (uV c N) := by
  have hne : ∀ g,g∈paid c N→g.2≠[] := fun g hg q => by
    have : g∈uV c N := by
      unfold uV qM;refine (dD cG _).mem_iff.2 (fN.2 ⟨g,hg,?_⟩);rw [IP q];exact bK.2 rfl
    rw [zC4] at h;have := h g this;rw [List.isEmpty_iff.2 q] at this;exact this rfl
  unfold uV;exact MC (SC hne) hne
theorem DA {c : Cx} {l all : List G} {s : Ev} (hl : qZ c l) : qZ c (rF c l all s).2 := by
  unfold rF;dsimp only;split
  · exact hl
  · split
    · exact hl
    · split
      · exact hl
      · rename_i h;exact QZ (T6.2 h)
theorem VU {c : Cx} {l : List G} {s : Ev} (hl : qZ c l) : qZ c (kU c l s).2 := by
  unfold kU;split
  · split
    · split
      · exact hl
      · exact DA hl
    · exact DA hl
  · exact hl
theorem XJ {c : Cx} (hm : 0≤c.m) : qZ c (qT c) := by
  have h0 : ∀ l : List Nat,jT (l.map (U1 c))=0 := fun l => by
    induction l with
    | nil => rfl
    | cons i l ih => rw [List.map_cons,rX,ih];rfl
  intro g hg w hw;rw [wY,h0];rw [wY] at hg;obtain ⟨i,_,rfl⟩ := bE.1 hg;obtain rfl := bK.1 hw;show (0 : Int)+(0 - 0)≤c.m;omega
theorem SB {c : Cx} {gs : List G} (h : nS c gs) (hp : qZ c gs) {g : G} (hg : g∈gs) {w : W} (hw : w∈g.2) : ∃ f,oH g.1 w f∧Sem gs f c.m := by
  obtain ⟨f,h1,h2⟩ := zK9 h.mid.out.nd h.mid.out.ok h.mid.ne hg hw;exact ⟨f,h1,h2.mono (hp g hg w hw)⟩
theorem RN {c : Cx} {gs : List G} (h : nS c gs) (hp : qZ c gs) (hn : 0<c.bs.length) : ∃ f,Sem gs f c.m := by
  obtain ⟨g,hg,_⟩ := h.mid.find (b := 0) ⟨by omega,by omega⟩
  obtain ⟨w,hw⟩ := List.exists_mem_of_ne_nil _ (h.mid.ne g hg);obtain ⟨f,_,h2⟩ := SB h hp hg hw;exact ⟨f,h2⟩
def gE : List G→Nat
  | [] => 1
  | g :: l => g.2.length * gE l
theorem B4 : ∀ a b : List G,gE (a ++ b)=gE a * gE b
  | [],b => by simp [gE]
  | g :: a,b => by simp only [List.cons_append,gE,B4 a b,tV]
theorem oZ {a b : List G} (h : a.Perm b) : gE a=gE b := by
  induction h with
  | nil => rfl
  | cons x _ ih => simp only [gE,ih]
  | swap x y l => simp only [gE];rw [Nat.mul_left_comm]
  | trans _ _ h1 h2 => rw [h1,h2]
theorem O1 : ∀ {l : List G},(∀ g,g∈l→g.2≠[])→0<gE l
  | [],_ => T0
  | g :: l,h => zO6 (dZ.2 (h g aS)) (O1 fun x hx => h x (aK _ hx))
theorem Z1 {F : G→List G} : ∀ {l : List G},(∀ g,g∈l→gE (F g)≤g.2.length)→gE (l.flatMap F)≤gE l
  | [],_ => aY _
  | g :: l,h => by
    rw [bF,B4];exact L9 (h g aS) (Z1 fun x hx => h x (aK _ hx))
theorem DD {F : G→G} : ∀ {l : List G},(∀ g,g∈l→(F g).2.length≤g.2.length)→gE (l.map F)≤gE l
  | [],_ => aY _
  | g :: l,h => L9 (h g aS) (DD fun x hx => h x (aK _ hx))
theorem WA (g : G) (k : Nat) : (jN g k).2.length≤g.2.length := by
  show (fY _).length≤_;refine bA (rG _) ?_;rw [bB];exact aY _
theorem DF : ∀ (m : Nat) {g : G},gE (lN m g)≤g.2.length
  | 0,g => by simp [lN,gE]
  | m+1,g => by
    unfold lN;split
    · simp [gE]
    · rename_i k _;show 1 * gE (lN m (jN g k))≤_;rw [T1];exact bA (DF m) (WA g k)
theorem QY (c : Cx) (N : List G) : gE (uV c N)≤gE N := by
  unfold uV qM;rw [oZ (dD cG _)];refine bA (Z1 fun g _ => DF _) (DD fun g _ => ?_);exact qK _ _
def VD (s : Ev) : Nat := if s.k=4 then 2 else 1
theorem W2 {α β : Type} (F : α→List β) (n : Nat) : ∀ l : List α,(∀ x,x∈l→(F x).length≤n)→(l.flatMap F).length≤l.length * n
  | [],_ => by simp
  | x :: l,h => by
    have a := W2 F n l fun y hy => h y (aK _ hy);have b := h x aS;rw [bF,aF,List.length_cons,eC];omega
theorem IX (c : Cx) (s : Ev) (g : G) : (fY (mF c s g)).length≤g.2.length * VD s := by
  refine bA (rG _) ?_;unfold mF;refine W2 _ _ _ fun w _ => ?_
  unfold VD;rw [aF];split <;> split <;> simp
theorem VM {all : List G} {i : Nat} {g y : G} {k : Nat} (h : all[i]? = some g) (hy : y.2.length≤g.2.length * k) : gE (all.set i y)≤gE all * k := by
  obtain ⟨A,B,e1,e2⟩ := pH (y := y) h;rw [e2,e1,B4,B4];simp only [gE];have := eW (gE B) hy;have := NQ (gE A) this;rw [show gE A * (g.2.length * gE B) * k=gE A * (g.2.length * k * gE B) by rw [tV,tV,pO (gE B) k,tV]]
  exact this
theorem CZ {c : Cx} {M0 : Int} {l all : List G} {s : Ev} (h : yG c M0 all s) (hl : gE l≤gE all * VD s) : gE (rF c l all s).2≤gE all * VD s := by
  obtain ⟨i,g,hi,hg,hgm,hat,ha,hb⟩ := h.at;unfold rF;dsimp only;rw [hat,hi,bJ];split
  · exact hl
  · split
    · exact hl
    · split
      · exact hl
      · exact bA (QY c _) (VM hg (IX c s g))
theorem DT {gs all : List G} {a b : Int} {c : Cx} {M : Int} (h : nQ c M gs) (ha : 0≤a∧a<c.bs.length) (hb : 0≤b∧b<c.bs.length) (e : join gs a b=some all) : gE all=gE gs := by
  obtain ⟨i,x,hi,hix,hax⟩ := iR (h.find ha);obtain ⟨k,y,hk,hky,hby⟩ := iR (h.find hb);unfold join at e;dsimp only at e;rw [hi,hk] at e;split at e
  · cases e;rfl
  · rename_i hik;have gi : lB gs ((i : Int)).toNat=x := by unfold lB;rw [aC];show (gs[i]?).getD _ = x;rw [hix];rfl
    have gk : lB gs ((k : Int)).toNat=y := by unfold lB;rw [aC];show (gs[k]?).getD _ = y;rw [hky];rfl
    rw [gi,gk] at e;split at e
    · cases e
    · cases e;have hj := DU x y;generalize mP x y=J at *;rcases iS (show i≠k by omega) with hlt | hlt
      · obtain ⟨P,Q,R,e1,e2⟩ := mD J hlt hix hky;rw [show (min (i : Int) (k : Int)).toNat=i by omega,show (max (i : Int) (k : Int)).toNat=k by omega,e2,e1,oZ zE,oZ gR]
        simp only [gE,hj,tV]
      · obtain ⟨P,Q,R,e1,e2⟩ := mD J hlt hky hix;rw [show (min (i : Int) (k : Int)).toNat=k by omega,show (max (i : Int) (k : Int)).toNat=i by omega,e2,e1,oZ zE,oZ gR]
        simp only [gE,hj,tV,Nat.mul_left_comm]
theorem VT {c : Cx} {gs : List G} {s : Ev} (h : nS c gs) (hm0 : 0≤c.m) (hm1 : c.m≤1048576) : gE (kU c gs s).2≤gE gs * VD s := by
  have hn := h.mid.n12;have hself : gE gs≤gE gs * VD s := by unfold VD;split <;> omega
  unfold kU;by_cases hr : iV c.bs.length s=true
  · rw [if_pos hr];obtain ⟨r1,r2,_⟩ := mN hr (by omega)
    by_cases hk : s.k=4
    · rw [if_pos hk];cases hj : join gs s.a s.b with
      | none => exact hself
      | some all =>
        dsimp only;have hb := r2 hk;have he := DT h.mid r1 ⟨by omega,by omega⟩ hj
        have := CZ (l := gs) (sV h (by omega) hm0 hm1 hr hk hj) (by rw [he];exact hself)
        rwa [he] at this
    · rw [if_neg hk];exact CZ (vJ h (by omega) hm0 hr hk) hself
  · rw [if_neg hr];exact hself
theorem zP3 {l : List G} (ne : ∀ g,g∈l→g.2≠[]) {i k : Nat} {x y : G} (hik : i≠k) (hi : l[i]? = some x) (hk : l[k]? = some y) : x.2.length * y.2.length≤gE l∧x.1.length+y.1.length≤(l.flatMap (·.1)).length := by
  have key : ∀ {i k : Nat} {x y : G},i<k→l[i]? = some x→l[k]? = some y→x.2.length * y.2.length≤gE l∧x.1.length+y.1.length≤(l.flatMap (·.1)).length := fun {i k x y} hlt hi hk => by
    obtain ⟨P,Q,R,e1,-⟩ := mD x hlt hi hk;have hp : l.Perm (x :: y :: (P ++ (Q ++ R))) := by rw [e1];exact zE
    have h0 := O1 (l := P ++ (Q ++ R)) fun g hg => ne g (hp.mem_iff.2 (aK _ (aK _ hg)));rw [oZ hp,(hp.flatMap_right _).length_eq];constructor
    · simp only [gE];rw [← tV];exact uO _ h0
    · simp only [bF,aF];omega
  rcases iS hik with hlt | hlt
  · exact key hlt hi hk
  · have := key hlt hk hi;rw [pO];omega
theorem zR0 {l : List G} (ne : ∀ g,g∈l→g.2≠[]) {g : G} (hg : g∈l) : g.2.length≤gE l := by
  obtain ⟨A,B,rfl⟩ := UC hg;have h0 := O1 (l := A ++ B) fun x hx => ne x ((gR (a := g)).mem_iff.2 (aK _ hx));rw [oZ gR];exact uO _ h0
theorem CY {c : Cx} {M0 : Int} {l all : List G} {s : Ev} (h : yG c M0 all s) (ne : ∀ g,g∈all→g.2≠[]) (hr : 2 * gE all≤1000) : (rF c l all s).1≠6 := by
  obtain ⟨i,g,hi,hg,hgm,hat,ha,hb⟩ := h.at;unfold rF;dsimp only;rw [hat,hi,bJ];have h1 := IX c s g;have h2 := zR0 ne hgm;have h3 : g.2.length * VD s≤2 * g.2.length := by unfold VD;split <;> omega
  split
  · simp
  · split
    · omega
    · split <;> simp
theorem VS {c : Cx} {gs : List G} {s : Ev} (h : nS c gs) (hm0 : 0≤c.m) (hm1 : c.m≤1048576) (hn6 : c.bs.length≤6) (hr : 2 * gE gs≤1000) : (kU c gs s).1≠6 := by
  have hn := h.mid.n12;unfold kU;by_cases hri : iV c.bs.length s=true
  · rw [if_pos hri];obtain ⟨r1,r2,_⟩ := mN hri (by omega)
    by_cases hk : s.k=4
    · rw [if_pos hk];have hb := r2 hk;cases hj : join gs s.a s.b with
      | none =>
        exfalso;obtain ⟨i,x,hi,hix,hax⟩ := iR (h.mid.find r1);obtain ⟨k,y,hk,hky,hby⟩ := iR (h.mid.find (b := s.b) ⟨by omega,by omega⟩)
        unfold join at hj;dsimp only at hj;rw [hi,hk] at hj;split at hj
        · cases hj
        · rename_i hik;have gi : lB gs ((i : Int)).toNat=x := by unfold lB;rw [aC];show (gs[i]?).getD _ = x;rw [hix];rfl
          have gk : lB gs ((k : Int)).toNat=y := by unfold lB;rw [aC];show (gs[k]?).getD _ = y;rw [hky];rfl
          rw [gi,gk] at hj;obtain ⟨t1,t2⟩ := zP3 h.mid.ne (show i≠k by omega) hix hky
          have hc := h.mid.cov.length_eq;simp only [bB,T4] at hc;split at hj
          · rename_i hbad;rcases hbad with hbad | hbad <;> omega
          · cases hj
      | some all =>
        dsimp only;have he := DT h.mid r1 ⟨by omega,by omega⟩ hj
        have so := sV h (by omega) hm0 hm1 hri hk hj
        exact CY so so.mid.ne (by omega)
    · rw [if_neg hk];have so := vJ h (by omega) hm0 hri hk
      exact CY so so.mid.ne hr
  · rw [if_neg hri];simp
theorem XI (c : Cx) : gE (qT c)=1 := by
  rw [wY];generalize List.range c.bs.length=l
  induction l with
  | nil => rfl
  | cons i l ih => rw [List.map_cons];simp only [gE,ih];rfl
theorem ID (c : Cx) (gs : List G) (s : Ev) : (kU c gs s).1=0∨(kU c gs s).1=1∧iV c.bs.length s=false∨(kU c gs s).1=6∨(kU c gs s).1=26 := by
  have h2 : ∀ all,(rF c gs all s).1=0∨(rF c gs all s).1=6∨(rF c gs all s).1=26 := fun all => by
    unfold rF;dsimp only;split
    · simp
    · split
      · simp
      · split <;> simp
  unfold kU;split
  · split
    · split
      · simp
      · rename_i all _;have := h2 all;omega
    · have := h2 gs;omega
  · rename_i h;exact .inr (.inl ⟨rfl,T6.2 h⟩)
theorem VR {c : Cx} {gs : List G} {s : Ev} (h : (kU c gs s).1≠0) : (kU c gs s).2=gs := by
  have h2 : ∀ all,(rF c gs all s).1≠0→(rF c gs all s).2=gs := fun all h => by
    unfold rF at h ⊢;dsimp only at h ⊢;split
    · rfl
    · rename_i h1;rw [if_neg h1] at h;split
      · rfl
      · rename_i h2;rw [if_neg h2] at h;split
        · rfl
        · rename_i h3;rw [if_neg h3] at h;exact absurd rfl h
  unfold kU at h ⊢;split
  · rename_i h1;rw [if_pos h1] at h;split
    · rename_i h3;rw [if_pos h3] at h;cases hj : join gs s.a s.b with
      | none => rfl
      | some all => rw [hj] at h;exact h2 all h
    · rename_i h3;rw [if_neg h3] at h;exact h2 gs h
  · rfl
abbrev TR := List Int × List BX × Int
def iX (bs : List BX) : List Int := bs.map (·.2.1)
theorem zW (bs : List BX) : (iX bs).length=bs.length := bB _
theorem xO (bs : List BX) (i : Nat) : (iX bs).getD i 0=(bs.getD i (0,0,0)).2.1 := by
  unfold iX;rw [aC,aC,bS];cases bs[i]? <;> rfl
structure qE (c : Cx) (ps : List Int) (bs : List BX) : Prop where
  t : uL c.ks c.ls ps bs
  len : ps.length=c.bs.length
  same : ∀ i,(bs.getD i (0,0,0)).1=(c.bs.getD i (0,0,0)).1∧(bs.getD i (0,0,0)).2.2=(c.bs.getD i (0,0,0)).2.2
theorem qE.pq {c : Cx} {ps : List Int} {bs : List BX} (h : qE c ps bs) : PQ c ps (iX bs) where
  pl := h.len
  ql := by rw [zW,← h.t.len,h.len]
  pp := by
    refine (Z5 (nats (List.range c.bs.length)) ps (B7 _) (fun x hx => ?_) (by simp [h.len])).symm
    obtain ⟨h0,h1⟩ := tA.1 hx;have := h.t.p x.toNat (by rw [h.len];omega)
    rwa [show ((x.toNat : Nat) : Int)=x by omega] at this
  q0 := fun x hx => by
    obtain ⟨b,hb,rfl⟩ := bE.1 hx;obtain ⟨i,hi,rfl⟩ := oM hb;have := h.t.b i hi;omega
theorem qE.fit {c : Cx} {ps : List Int} {bs : List BX} (hc : qI c) (h : qE c ps bs) : zC6 c.ks c.ls ps bs where
  n1 := by have := hc.f.n1;simp at this;rw [h.len];omega
  n8 := by have := hc.f.n8;simp at this;rw [h.len];omega
  len := h.t.len
  k10 := hc.f.k10
  l10 := hc.f.l10
  k := hc.f.k
  l := hc.f.l
  p := fun i hi => by
    have := h.pq.pp.mem_iff.1 (aI hi);rw [h.len];exact tA.1 this
  b := h.t.b
def vD (ps : List Int) (bs : List BX) (s : Ev) (done : Int) : List BX :=
  if s.k=2 then bs.set (ps.getD s.a.toNat 0).toNat ((bs.getD (ps.getD s.a.toNat 0).toNat (0,0,0)).1,(bs.getD (ps.getD s.a.toNat 0).toNat (0,0,0)).2.1 - done,(bs.getD (ps.getD s.a.toNat 0).toNat (0,0,0)).2.2) else bs
theorem D7 (ps : List Int) (bs : List BX) (s : Ev) (done : Int) : iX (vD ps bs s done)=tX ps (iX bs) s done := by
  unfold vD tX;split
  · rw [xO];unfold iX;rw [pP]
  · rfl
theorem KW (ps : List Int) (bs : List BX) (s : Ev) (done : Int) : (vD ps bs s done).length=bs.length := by
  unfold vD;split <;> simp
theorem qE.aft {c : Cx} {ps : List Int} {bs : List BX} {s : Ev} {done : Int} (h : qE c ps bs) (ha : 0≤s.a∧s.a<c.bs.length) (hb : s.k=4→s.a<s.b∧s.b<c.bs.length) (hc : sH c ps (iX bs) s done=true) : qE c (qD ps s done) (vD ps bs s done) where
  len := by rw [L6];exact h.len
  same := fun i => by
    unfold vD;split
    · by_cases e : i=(ps.getD s.a.toNat 0).toNat
      · by_cases hl : (ps.getD s.a.toNat 0).toNat<bs.length
        · rw [fK hl,if_pos e,e];exact h.same _
        · rw [List.set_eq_of_length_le (by omega)];exact h.same i
      · by_cases hl : (ps.getD s.a.toNat 0).toNat<bs.length
        · rw [fK hl,if_neg e];exact h.same _
        · rw [List.set_eq_of_length_le (by omega)];exact h.same i
    · exact h.same i
  t := by
    have hp := (h.pq.aft ha hb hc).pp;refine ⟨by rw [L6,KW];exact h.t.len,fun i hi => ?_,h.t.k,h.t.l,fun i hi => ?_⟩
    · rw [L6,h.len] at hi;exact hp.mem_iff.2 (tA.2 ⟨by omega,by omega⟩)
    · rw [KW] at hi;have h0 := h.t.b i hi;by_cases hk : s.k=2
      · have hr := wD hk hc;rw [xO] at hr;have e : vD ps bs s done=bs.set (ps.getD s.a.toNat 0).toNat ((bs.getD (ps.getD s.a.toNat 0).toNat (0,0,0)).1,(bs.getD (ps.getD s.a.toNat 0).toNat (0,0,0)).2.1 - done,(bs.getD (ps.getD s.a.toNat 0).toNat (0,0,0)).2.2) := if_pos hk;simp only [e];rw [List.getElem_set];split
        · rename_i hx;rw [hx] at hr ⊢;have eb : bs.getD i (0,0,0)=bs[i] := by rw [aC,aA hi];rfl
          rw [eb] at hr ⊢;dsimp only;refine ⟨h0.1,h0.2.1,by omega,by omega,fun q => ?_,h0.2.2.2.2.2⟩
          have := h0.2.2.2.2.1 q;omega
        · exact h0
      · have e : vD ps bs s done=bs := if_neg hk;simp only [e];exact h0
def jC : List TR→TR→List TR
  | [],x => [x]
  | t :: l,x => if t.1=x.1∧t.2.1=x.2.1 then (if x.2.2<t.2.2 then x :: l else t :: l) else t :: jC l x
theorem CL : ∀ {l : List TR} {x t : TR},t∈jC l x→t∈l∨t=x
  | [],x,t,h => .inr (bK.1 h)
  | y :: l,x,t,h => by
    unfold jC at h;split at h
    · split at h
      · rcases bR.1 h with rfl | h
        · exact .inr rfl
        · exact .inl (aK _ h)
      · exact .inl h
    · rcases bR.1 h with rfl | h
      · exact .inl aS
      · rcases CL h with h | h
        · exact .inl (aK _ h)
        · exact .inr h
def QN (l : List TR) (p : List Int) (bs : List BX) (M : Int) : Prop := ∃ t,t∈l∧t.1=p∧t.2.1=bs∧t.2.2≤M
theorem CN : ∀ {l : List TR} {x : TR} {p : List Int} {bs : List BX} {M : Int},QN (jC l x) p bs M↔QN l p bs M∨(x.1=p∧x.2.1=bs∧x.2.2≤M)
  | [],x,p,bs,M => by simp [jC,QN]
  | y :: l,x,p,bs,M => by
    have hc : ∀ (z : TR) (l : List TR),QN (z :: l) p bs M↔(z.1=p∧z.2.1=bs∧z.2.2≤M)∨QN l p bs M := fun z l => by unfold QN;simp
    unfold jC;split
    · rename_i he;split
      · rename_i hlt;rw [hc,hc];constructor
        · rintro (h | h)
          · exact .inr h
          · exact .inl (.inr h)
        · rintro ((⟨a,b,d⟩ | h) | h)
          · exact .inl ⟨he.1.symm.trans a,he.2.symm.trans b,by omega⟩
          · exact .inr h
          · exact .inl h
      · rename_i hlt;rw [hc];constructor
        · exact .inl
        · rintro (h | ⟨a,b,d⟩)
          · exact h
          · exact .inl ⟨he.1.trans a,he.2.trans b,by omega⟩
    · rw [hc,hc,CN];constructor
      · rintro (h | h | h)
        · exact .inl (.inl h)
        · exact .inl (.inr h)
        · exact .inr h
      · rintro ((h | h) | h)
        · exact .inl h
        · exact .inr (.inl h)
        · exact .inr (.inr h)
theorem C7 : ∀ {L l : List TR} {t : TR},t∈L.foldl jC l→t∈l∨t∈L
  | [],l,t,h => .inl h
  | x :: L,l,t,h => by
    rcases C7 (L := L) h with h | h
    · rcases CL h with h | h
      · exact .inl h
      · exact .inr (by rw [h];exact aS)
    · exact .inr (aK _ h)
theorem DZ : ∀ {L l : List TR} {p : List Int} {bs : List BX} {M : Int},QN (L.foldl jC l) p bs M↔QN l p bs M∨QN L p bs M
  | [],l,p,bs,M => by simp [QN]
  | x :: L,l,p,bs,M => by
    rw [tW,DZ,CN];have hc : QN (x :: L) p bs M↔(x.1=p∧x.2.1=bs∧x.2.2≤M)∨QN L p bs M := by unfold QN;simp
    rw [hc,or_assoc]
theorem CM : ∀ (l : List TR) (x : TR),(jC l x).length≤l.length+1
  | [],x => aY _
  | t :: l,x => by
    have := CM l x;unfold jC;split
    · split <;> simp
    · simp;omega
theorem C8 : ∀ (L l : List TR),(L.foldl jC l).length≤l.length+L.length
  | [],l => aY _
  | x :: L,l => by
    have := C8 L (jC l x);have := CM l x;rw [tW,List.length_cons];omega
def NJ (c : Cx) (s : Ev) (t : TR) (done : Int) : TR := (qD t.1 s done,vD t.1 t.2.1 s done,t.2.2+rZ c t.1 s)
def K1 (c : Cx) (s : Ev) (t : TR) : Bool := KU c t.1 (iX t.2.1) s && decide (t.2.2+rZ c t.1 s≤c.m)
def pU (c : Cx) (s : Ev) (t : TR) (k : Nat) : List TR := if K1 c s t then ((List.range k).filter fun d => sH c t.1 (iX t.2.1) s (d : Nat)).map fun d => NJ c s t (d : Nat) else []
def oJ (c : Cx) (s : Ev) (all : List TR) : List TR := (all.flatMap fun t => pU c s t 4).foldl jC []
structure CJ (c : Cx) (gs : List G) (all : List TR) : Prop where
  ok : ∀ t,t∈all→qE c t.1 t.2.1∧0≤t.2.2∧t.2.2≤c.m∧∀ x,x∈iX t.2.1→x≤3
  iff : ∀ p q,PQ c p q→∀ M,M≤c.m→((∃ f,yH c p q f∧Sem gs f M)↔∃ t,t∈all∧t.1=p∧iX t.2.1=q∧t.2.2≤M)
theorem QE (st id k : Int) (ids : List Int) : 0≤zC9 st id k ids∧zC9 st id k ids≤1 := by
  unfold zC9;repeat' split
  all_goals omega
theorem YW {c : Cx} {gs : List G} (h : nS c gs) {f : As} {M : Int} (hs : Sem gs f M) : ∀ b : Int,0≤b→b<c.bs.length→LL (f b).2 := fun b h0 h1 => (EY h.mid hs h0 h1).1
theorem Y6 {c : Cx} {gs : List G} (h : nS c gs) {s : Ev} (hr : iV c.bs.length s=true) : (0≤s.a∧s.a<c.bs.length)∧(s.k=4→s.a<s.b∧s.b<c.bs.length)∧(s.k=1∨s.k=2∨s.k=3→0≤s.n∧s.n≤1099511627776) := by
  have hn := h.mid.n12;obtain ⟨r1,r2,r3⟩ := mN hr (by omega)
  refine ⟨r1,fun k => ?_,fun k => ?_⟩
  · have := r2 k;omega
  · unfold iV at hr;rw [aM] at hr;have hr := hr.2;rw [if_neg (by omega),if_pos k,decide_eq_true_eq] at hr
    exact hr
theorem N2 {c : Cx} {gs : List G} {p q : List Int} {f : As} {s : Ev} {M done : Int} (hc : qI c) (h : nS c gs) (hr : iV c.bs.length s=true) (hp : PQ c p q) (hf : yH c p q f) (hs : Sem gs f M)
    (hag : KU c p q s=true) (hcan : sH c p q s done=true) (hM : M+rZ c p s≤c.m) :
    (kU c gs s).1≠26∧((kU c gs s).1=0→∃ f',yH c (qD p s done) (tX p q s done) f'∧Sem (kU c gs s).2 f' (M+rZ c p s)) := by
  obtain ⟨r1,r2,r3⟩ := Y6 h hr;obtain ⟨m0,m1,_⟩ := hc.s;obtain ⟨f',st,ok⟩ := RQ hc hp hf (YW h hs) r1 r2 (fun k => r3 (by omega)) hag hcan
  have hse := OF h m0 m1 hr (f' := f') hM;have hex : ∃ f d,CF c s f f' d∧Sem gs f (M+rZ c p s - d) := ⟨f,_,st,hs.mono (by omega)⟩
  exact ⟨fun q => hse.2 q hex,fun q => ⟨f',ok,(hse.1 q).2 hex⟩⟩
theorem C6 {c : Cx} {s : Ev} {t x : TR} {k : Nat} : x∈pU c s t k↔K1 c s t=true∧∃ d : Nat,d<k∧sH c t.1 (iX t.2.1) s d=true∧x=NJ c s t d := by
  unfold pU;split
  · rename_i h;rw [bE];constructor
    · rintro ⟨d,hd,rfl⟩;obtain ⟨h1,h2⟩ := kA.1 hd;exact ⟨h,d,eF.1 h1,h2,rfl⟩
    · rintro ⟨_,d,h1,h2,rfl⟩;exact ⟨d,kA.2 ⟨eF.2 h1,h2⟩,rfl⟩
  · rename_i h;constructor
    · intro q;cases q
    · rintro ⟨q,_⟩;exact absurd q h
theorem Q2 {c : Cx} {s : Ev} {all : List TR} {x : TR} (h : x∈oJ c s all) : ∃ t,t∈all∧K1 c s t=true∧∃ d : Nat,d<4∧sH c t.1 (iX t.2.1) s d=true∧x=NJ c s t d := by
  rcases C7 h with h | h
  · cases h
  · obtain ⟨t,ht,hx⟩ := fN.1 h;exact ⟨t,ht,C6.1 hx⟩
theorem zN {c : Cx} {s : Ev} {t : TR} : K1 c s t=true↔KU c t.1 (iX t.2.1) s=true∧t.2.2+rZ c t.1 s≤c.m := by
  unfold K1;rw [aM,decide_eq_true_eq]
theorem CJ.step {c : Cx} {gs : List G} {all : List TR} {s : Ev} (hc : qI c) (h : nS c gs) (hr : iV c.bs.length s=true) (e : CJ c gs all) :
    ((kU c gs s).1=0→CJ c (kU c gs s).2 (oJ c s all))∧((kU c gs s).1=26→oJ c s all=[]) := by
  obtain ⟨r1,r2,r3⟩ := Y6 h hr;obtain ⟨m0,m1,_⟩ := hc.s;have key : ∀ t,t∈all→K1 c s t=true→∀ d : Nat,sH c t.1 (iX t.2.1) s d=true→∃ f,yH c t.1 (iX t.2.1) f∧Sem gs f t.2.2 := fun t ht hg d hd => by
    obtain ⟨a,b,b',_⟩ := e.ok t ht;exact (e.iff t.1 (iX t.2.1) a.pq t.2.2 b').2 ⟨t,ht,rfl,rfl,eP _⟩
  constructor
  · intro h0;refine ⟨fun x hx => ?_,fun p q hpq M hM => ⟨?_,?_⟩⟩
    · obtain ⟨t,ht,hg,d,hd,hcan,rfl⟩ := Q2 hx;obtain ⟨a,b,b',b3⟩ := e.ok t ht;obtain ⟨g1,g2⟩ := zN.1 hg;have := (QE c.st (t.1.getD s.a.toNat 0) s.k s.ids).1;refine ⟨a.aft r1 r2 hcan,?_,g2,fun y hy => ?_⟩
      · show 0≤t.2.2+rZ c t.1 s;unfold rZ;omega
      · change y∈iX (vD t.1 t.2.1 s d) at hy;rw [D7] at hy;unfold tX at hy;split at hy
        · rename_i hk;have hrg := wD hk hcan;rcases fO hy with hy | rfl
          · exact b3 y hy
          · obtain ⟨i0,i1⟩ := a.pq.at r1.1 r1.2;have : (iX t.2.1).getD (t.1.getD s.a.toNat 0).toNat 0∈iX t.2.1 := by
              have := a.pq.ql;rw [aC,aA (by omega)];exact aI _
            have := b3 _ this;omega
        · exact b3 y hy
    · rintro ⟨f',hf',hs'⟩;obtain ⟨f,d,st,hs⟩ := ((OF h m0 m1 hr (f' := f') hM).1 h0).1 hs';obtain ⟨p0,q0,done,hpq0,hf0,hag,hcan,rfl,e1,e2⟩ := RS hc hpq st hf' (YW h hs) r1 r2 (fun k => r3 (by omega))
      have hm := (QE c.st (p0.getD s.a.toNat 0) s.k s.ids).1;obtain ⟨t,ht,rfl,rfl,htm⟩ := (e.iff p0 q0 hpq0 (M - rZ c p0 s) (by unfold rZ;omega)).1 ⟨f,hf0,hs⟩
      obtain ⟨a,b,b',b3⟩ := e.ok t ht;have hd : 0≤done∧done<4 := by
        by_cases hk : s.k=2
        · have hrg := wD hk hcan;obtain ⟨i0,i1⟩ := a.pq.at r1.1 r1.2;have : (iX t.2.1).getD (t.1.getD s.a.toNat 0).toNat 0∈iX t.2.1 := by
            have := a.pq.ql;rw [aC,aA (by omega)];exact aI _
          have := b3 _ this;omega
        · unfold sH GJ at hcan;rw [if_neg hk] at hcan;split at hcan
          · rw [E1,decide_eq_true_eq,decide_eq_true_eq] at hcan;omega
          · rw [decide_eq_true_eq] at hcan;omega
      have hdn : ((done.toNat : Nat) : Int)=done := by omega
      have hx : QN (oJ c s all) (qD t.1 s done) (vD t.1 t.2.1 s done) M := by
        refine DZ.2 (.inr ⟨NJ c s t (done.toNat : Nat),fN.2 ⟨t,ht,C6.2 ⟨zN.2 ⟨hag,by omega⟩,done.toNat,by omega,by rw [hdn];exact hcan,rfl⟩⟩,?_,?_,?_⟩)
        · rw [hdn];rfl
        · rw [hdn];rfl
        · show t.2.2+rZ c t.1 s≤M;omega
      obtain ⟨x,hx1,hx2,hx3,hx4⟩ := hx;exact ⟨x,hx1,hx2.trans e1.symm,by rw [hx3,D7];exact e2.symm,hx4⟩
    · rintro ⟨x,hx,rfl,rfl,hxm⟩;obtain ⟨t,ht,hg,d,hd,hcan,rfl⟩ := Q2 hx;obtain ⟨f,hf,hs⟩ := key t ht hg d hcan;obtain ⟨a,b,b',b3⟩ := e.ok t ht;obtain ⟨g1,g2⟩ := zN.1 hg;obtain ⟨f',ok,hs'⟩ := (N2 hc h hr a.pq hf hs g1 hcan g2).2 h0;refine ⟨f',?_,hs'.mono hxm⟩;show yH c (qD t.1 s d) (iX (vD t.1 t.2.1 s d)) f';rw [D7];exact ok
  · intro h26;cases hn : oJ c s all with
    | nil => rfl
    | cons x l =>
      exfalso;have hx : x∈oJ c s all := by rw [hn];exact aS
      obtain ⟨t,ht,hg,d,hd,hcan,rfl⟩ := Q2 hx;obtain ⟨f,hf,hs⟩ := key t ht hg d hcan;obtain ⟨a,b,b',b3⟩ := e.ok t ht;obtain ⟨g1,g2⟩ := zN.1 hg;exact (N2 hc h hr a.pq hf hs g1 hcan g2).1 h26
theorem CJ.some {c : Cx} {gs : List G} {all : List TR} (hc : qI c) (h : nS c gs) (hp : qZ c gs) (e : CJ c gs all) : all≠[] := by
  have hn := hc.f.n1;simp at hn;obtain ⟨f,hs⟩ := RN h hp (by omega)
  obtain ⟨p,q,hpq,hf⟩ := IJ h.mid hs;obtain ⟨t,ht,_⟩ := (e.iff p q hpq c.m (eP _)).1 ⟨f,hf,hs⟩;exact fun q => by rw [q] at ht;cases ht
def H2 (all : List TR) (p q : List Int) : Bool := all.any fun t => decide (t.1=p) && decide (iX t.2.1=q)
theorem CJ.among {c : Cx} {gs : List G} {all : List TR} {p q : List Int} (h : nS c gs) (e : CJ c gs all) (hp : PQ c p q) : zO5 c gs p q=H2 all p q := by
  rw [ER,QF h];unfold H2;rw [iZ];have hi := e.iff p q hp c.m (eP _);constructor
  · rintro ⟨_,_,_,f,hf,hs⟩;obtain ⟨t,ht,e1,e2,_⟩ := hi.1 ⟨f,hf,hs⟩;exact ⟨t,ht,by rw [e1,e2];simp⟩
  · rintro ⟨t,ht,hx⟩;rw [aM,decide_eq_true_eq,decide_eq_true_eq] at hx;obtain ⟨f,hf,hs⟩ := hi.2 ⟨t,ht,hx.1,hx.2,(e.ok t ht).2.2.1⟩;exact ⟨hp.pl,by rw [hp.ql,hp.pl],(IN hp.pl).2 hp.pp,f,hf,hs⟩
theorem JA {c : Cx} (hc : qI c) : qE c (nats (List.range c.bs.length)) c.bs := ⟨HL hc,by simp,fun i => ⟨rfl,rfl⟩⟩
theorem OW {n : Nat} {b : Int} (h0 : 0≤b) (h1 : b<n) : (nats (List.range n)).getD b.toNat 0=b := by
  have := FK (n := n) (fun x => x) 0 h0 h1
  rwa [List.map_id'] at this
theorem OV {c : Cx} : ∃ f,yH c (nats (List.range c.bs.length)) (iX c.bs) f∧Sem (qT c) f 0 := by
  refine ⟨fun b => (b,((c.bs.getD b.toNat (0,0,0)).2.1,(c.bs.getD b.toNat (0,0,0)).2.1+1)),fun b h0 h1 => ?_,OT.2 ⟨eP _,fun b h0 h1 => rfl⟩⟩
  unfold QL;rw [OW h0 h1,xO];exact ⟨rfl,nB.2 ⟨eP _,by dsimp only;omega⟩⟩
theorem zH2 {c : Cx} (hc : qI c) (h3 : ∀ i,i<c.bs.length→(c.bs.getD i (0,0,0)).2.1≤3) : CJ c (qT c) [(nats (List.range c.bs.length),c.bs,0)] := by
  obtain ⟨m0,m1,_⟩ := hc.s;refine ⟨fun t ht => ?_,fun p q hpq M hM => ⟨?_,?_⟩⟩
  · obtain rfl := bK.1 ht;refine ⟨JA hc,eP _,m0,fun x hx => ?_⟩
    obtain ⟨b,hb,rfl⟩ := bE.1 hx;obtain ⟨i,hi,rfl⟩ := oM hb;have := h3 i hi;rw [aC,aA hi] at this;exact this
  · rintro ⟨f,hf,hs⟩;obtain ⟨h0,h1⟩ := OT.1 hs;have hpl := hpq.pl;have hql := hpq.ql;have ep : p=nats (List.range c.bs.length) := by
      refine kI (by simp [hpl]) fun i i1 i2 => ?_
      have a := (hf (i : Int) (by omega) (by omega)).1
      rw [h1 _ (by omega) (by omega)] at a
      change (i : Int)=p.getD i 0 at a;rw [aC,aA i1] at a;change (i : Int)=p[i] at a;rw [← a];simp
    refine ⟨_,bK.2 rfl,ep.symm,?_,h0⟩;refine kI (by rw [zW,hql]) fun i i1 i2 => ?_
    have a := (hf (i : Int) (by omega) (by omega)).2
    rw [h1 _ (by omega) (by omega),ep,OW (by omega) (by omega),nB,bJ] at a
    dsimp only at a;rw [← xO,aC,aA i1,aC,aA i2] at a;simp only [lC] at a;change (iX c.bs)[i]=q[i];omega
  · rintro ⟨t,ht,rfl,rfl,hm⟩;obtain rfl := bK.1 ht;obtain ⟨f,hf,hs⟩ := OV (c := c);exact ⟨f,hf,hs.mono hm⟩
end Go.Ld
namespace Go.Proofs.YtmmkhmilpeodnaaGreat
open Go Go.Ab Go.Ld
attribute [local irreducible] VC AW bX aR kY
theorem FU {l : List Int} {i : Nat} (h : i<l.length) : l[i]? = some (l.getD i 0) := by
  rw [aC,aA h];rfl
theorem PL {l : List BX} {i : Nat} (h : i<l.length) : l[i]? = some ((l.getD i (0,0,0)).1,(l.getD i (0,0,0)).2.1,(l.getD i (0,0,0)).2.2) := by
  rw [aC,aA h];rfl
theorem zA6 {c : Cx} {ps : List Int} {bs : List BX} (s : Ev) (h : qE c ps bs) :
    GS c.st c.er c.sl (ps.getD s.a.toNat 0) (bs.getD (ps.getD s.a.toNat 0).toNat (0,0,0)).2.1 ((bs.getD (ps.getD s.a.toNat 0).toNat (0,0,0)).2.2+(bs.getD (ps.getD s.a.toNat 0).toNat (0,0,0)).2.1 * nJ c.ks c.ls (bs.getD (ps.getD s.a.toNat 0).toNat (0,0,0)).1) s.k s.n s.ids=KU c ps (iX bs) s := by
  unfold KU;have hs := h.same (ps.getD s.a.toNat 0).toNat;rw [xO,← hs.1,← hs.2]
theorem TY {c : Cx} (hc : qI c) {ps : List Int} {bs : List BX} (h : qE c ps bs) {s : Ev} (ha : 0≤s.a∧s.a<c.bs.length) (hn : 0≤s.n∧s.n≤1099511627776) (hids : s.ids.length≤9223372036854775807) :
    aR Tryz.prog 29 [gY c.m c.st c.er c.sl,.rowE (gB c.ks) 2,.rowE (jU c.ls) 3,.rowE (ints ps) 1,.rowE (cW bs) 3,zV4 s] [] (.tup [.i (rZ c ps s),.b (KU c ps (iX bs) s)]) [] := by
  have hf := h.fit hc;have hpl := h.len;have hbl := h.t.len;obtain ⟨i0,i1⟩ := h.pq.at ha.1 ha.2;have h1 := FU (l := ps) (i := s.a.toNat) (by omega)
  have h2 := PL (l := bs) (i := (ps.getD s.a.toNat 0).toNat) (by omega)
  have := KT (k := s.k) (b := s.b) (n := s.n) (ids := s.ids) hf hc.s ha.1 hn hids h1 h2;rw [zA6 s h] at this;exact this
theorem zA7 {c : Cx} (hc : qI c) {ps : List Int} {bs : List BX} (h : qE c ps bs) {s : Ev} (ha : 0≤s.a∧s.a<c.bs.length) (hb : s.k=4→s.a<s.b∧s.b<c.bs.length) (hn : 0≤s.n∧s.n≤1099511627776) (hids : s.ids.length≤9223372036854775807) (done : Int) :
    ((KU c ps (iX bs) s && sH c ps (iX bs) s done)=true∧aR Tryz.prog 30 [gY c.m c.st c.er c.sl,.rowE (gB c.ks) 2,.rowE (jU c.ls) 3,.rowE (ints ps) 1,.rowE (cW bs) 3,zV4 s,.i done] [] (.tup [.rowE (ints (qD ps s done)) 1,.rowE (cW (vD ps bs s done)) 3,.b true]) []) ∨
    ((KU c ps (iX bs) s && sH c ps (iX bs) s done)=false∧aR Tryz.prog 30 [gY c.m c.st c.er c.sl,.rowE (gB c.ks) 2,.rowE (jU c.ls) 3,.rowE (ints ps) 1,.rowE (cW bs) 3,zV4 s,.i done] [] (.tup [.nils,.nils,.b false]) []) := by
  have hf := h.fit hc;have hpl := h.len;have hbl := h.t.len;have hs' := hc.s;unfold lR at hs';obtain ⟨i0,i1⟩ := h.pq.at ha.1 ha.2;have h1 := FU (l := ps) (i := s.a.toNat) (by omega)
  have h2 := PL (l := bs) (i := (ps.getD s.a.toNat 0).toNat) (by omega)
  have hag := KT (k := s.k) (b := s.b) (n := s.n) (ids := s.ids) hf hc.s ha.1 hn hids h1 h2;rw [zA6 s h] at hag;have hcan := zZ0 c.m c.st c.er c.sl (bs.getD (ps.getD s.a.toNat 0).toNat (0,0,0)).1 (bs.getD (ps.getD s.a.toNat 0).toNat (0,0,0)).2.1 (bs.getD (ps.getD s.a.toNat 0).toNat (0,0,0)).2.2 s.k s.a s.b s.n s.ids done hn (by omega)
  have hcT : GJ c.sl (bs.getD (ps.getD s.a.toNat 0).toNat (0,0,0)).2.1 s.k s.n done=sH c ps (iX bs) s done := by unfold sH;rw [xO]
  rw [hcT] at hcan;cases e1 : KU c ps (iX bs) s
  · rw [e1] at hag;exact .inr ⟨rfl,KV hf ha.1 h1 h2 i0 (.inl rfl) hag hcan⟩
  · rw [e1] at hag;cases e2 : sH c ps (iX bs) s done
    · rw [e2] at hcan;exact .inr ⟨rfl,KV hf ha.1 h1 h2 i0 (.inr ⟨rfl,rfl⟩) hag hcan⟩
    · have hrg := fun hk => wD (c := c) (p := ps) (q := iX bs) (s := s) (done := done) hk e2;rw [e2] at hcan;refine .inl ⟨rfl,?_⟩;by_cases hk2 : s.k=2
      · have hrg := hrg hk2;rw [xO] at hrg;have := NI hf ha.1 h1 h2 i0 hk2 ⟨hrg.1,hrg.2.1⟩ hag hcan;have ep : qD ps s done=ps := by unfold qD;rw [if_neg (by omega)]
        have eb : vD ps bs s done=bs.set (ps.getD s.a.toNat 0).toNat ((bs.getD (ps.getD s.a.toNat 0).toNat (0,0,0)).1,(bs.getD (ps.getD s.a.toNat 0).toNat (0,0,0)).2.1 - done,(bs.getD (ps.getD s.a.toNat 0).toNat (0,0,0)).2.2) := if_pos hk2;rw [ep,eb];exact H5 (by simp) (by simp) (F9 _) (G9 _) rfl this
      · have eb : vD ps bs s done=bs := if_neg hk2;rw [eb];by_cases hk4 : s.k=4∧done=1
        · have hb := hb hk4.1;have h3 := FU (l := ps) (i := s.b.toNat) (by omega)
          have := NG hf ha.1 h1 h2 i0 hk4.1 hk4.2 (by omega) (by omega) h3 hag hcan
          have ep : qD ps s done=(ps.set s.a.toNat (ps.getD s.b.toNat 0)).set s.b.toNat (ps.getD s.a.toNat 0) := if_pos hk4;rw [ep];exact H5 (by simp) (by simp) (F9 _) (G9 _) rfl this
        · have := NH hf ha.1 h1 h2 i0 hk2 hk4 hag hcan;have ep : qD ps s done=ps := if_neg hk4;rw [ep];exact H5 (by simp) (by simp) (F9 _) (G9 _) rfl this
theorem zD7 (bs : List BX) (hl : bs.length≤1000000) : aR Tryz.prog 31 [.rowE (cW bs) 3] [] (.sl 0 0 bs.length 1) [.arr (ints (iX bs)) 1] := by
  have hbl : (cW bs).length=bs.length := bB _;have hcl := zW bs;refine bO T Tryz.func31 rfl rfl rfl rfl ?_
  repeat' (first|refine wS ?_|(refine rg 0 (aV ?_))|refine nZ ?_)
  repeat' (first|refine wS ?_|(refine rg 1 (vV (eI rfl) (rP 3 1 rfl (by decide) ?_)))|refine nZ ?_)
  (repeat' (first|refine wB ?_|(refine rg 2 (aV ?_))|refine nZ ?_));refine cN (X := {k : Nat // k≤bs.length}) (fun k => [(0,.rowE (cW bs) 3),(3,.sl 0 0 k.1 1),(4,.i (k.1 : Int))]) (fun k => [.arr (ints ((iX bs).take k.1)) 1]) (fun k => bs.length - k.1) ⟨0,bU _⟩ ⟨[0],rfl,(by repeat first|exact trivial|refine ⟨rfl,?_⟩),⟨.inr rfl,trivial⟩,by decide,kV _⟩ ?_
  rintro ⟨k,hk⟩;dsimp only;by_cases hlt : k<bs.length
  · have q1 : (cW bs)[(k : Int).toNat]? = some [AV.i bs[k].1,AV.i bs[k].2.1,AV.i bs[k].2.2] := by rw [bJ];exact sO hlt
    have q4 : (ints ((iX bs).take k)).length=k := by rw [dC,bD];omega
    have q5 : ints ((iX bs).take (k+1))=ints ((iX bs).take k) ++ [[.i bs[k].2.1]] := by
      rw [aT (show k<(iX bs).length by omega),show (iX bs)[k]'(by omega)=bs[k].2.1 from mT _];exact (C1 _ _).symm
    generalize ints ((iX bs).take k)=A at *;generalize bs[k]=x at *;obtain ⟨x1,x2,x3⟩ := x;dsimp only at *
    (repeat' (first|refine wS ?_|refine wB ?_|refine wK ?_|(refine wC rfl ?_ ?_<;>(intro hb;(try simp only [nm] at hb);try (exfalso;omega)))|(refine rg 3 (dK rfl (qW T rfl (vV (aL rfl rfl) ?_))))|(refine rg 5 (dK rfl (mW rfl (vV (ix T rfl (by omega) (gV _) q1) (gH T rfl (bQ (by exact bC T rfl rfl (by decide) (by decide) rfl rfl rfl) rfl ?_)))));refine fR T rfl rfl rfl rfl rfl rfl (by omega) (kJ.whole rfl rfl) rfl (by simp;omega) (by simp;omega) rfl ?_;refine aV ?_)|(refine iA 4 rfl rfl rfl (by omega) (by omega) ?_)|refine nZ ?_));all_goals try (exfalso;omega)
    exact ⟨⟨k+1,hlt⟩,by dsimp only;omega,⟨[2],rfl,(by repeat first|exact trivial|refine ⟨rfl,?_⟩),⟨.inr (aD rfl (by dsimp only;rw [q5];exact lQ q4.symm) (ints_idf _)),trivial⟩,by decide,kV _⟩⟩
  · obtain rfl : k=bs.length := by omega
    rw [show (iX bs).take bs.length=iX bs by rw [← hcl,dS]]
    (repeat' (first|refine wS ?_|refine wR ?_|refine wE ?_|(refine wC rfl ?_ ?_<;>(intro hb;(try simp only [nm] at hb);try (exfalso;omega)))|(refine rg 3 (dK rfl (qW T rfl (vV (aL rfl rfl) ?_))))|(refine rg 6 (mW rfl (aV ?_)))|refine nZ ?_));all_goals try (exfalso;omega)
    exact ⟨.inl rfl,[0],_,rfl,rfl,rfl,⟨.inr (aD rfl rfl (ints_idf _)),trivial⟩,by decide,kV _⟩
theorem zD8 (bs : List BX) (hl : bs.length≤1000000) : aR Tryz.prog 31 [.rowE (cW bs) 3] [] (.rowE (ints (iX bs)) 1) [] :=
  mH (by rw [dC,zW]) (ints_idfF _) (zD7 bs hl)
end Go.Proofs.YtmmkhmilpeodnaaGreat
namespace Go.Ld
open Go.Ab Go.Proofs.YtmmkhmilpeodnaaGreat
structure BP (c : Cx) (gs : List G) (ps : List Int) (bs : List BX) (M : Int) : Prop where
  gk : nS c gs
  re : qE c ps bs
  m0 : 0≤M
  m1 : M≤c.m
  f : ∃ f,yH c ps (iX bs) f∧Sem gs f M
theorem BP.new {c : Cx} (hc : qI c) (hn : c.bs.length≤12) : BP c (qT c) (nats (List.range c.bs.length)) c.bs 0 :=
  ⟨MH hc hn hc.s.1,JA hc,eP _,hc.s.1,OV⟩
theorem BP.step {c : Cx} {gs : List G} {ps : List Int} {bs : List BX} {M done : Int} {s : Ev} (hc : qI c) (h : BP c gs ps bs M) (hr : iV c.bs.length s=true) (hag : KU c ps (iX bs) s=true) (hcan : sH c ps (iX bs) s done=true) (hM : M+rZ c ps s≤c.m) :
    (kU c gs s).1=6∨(kU c gs s).1=0∧BP c (kU c gs s).2 (qD ps s done) (vD ps bs s done) (M+rZ c ps s)∧zO5 c (kU c gs s).2 (qD ps s done) (iX (vD ps bs s done))=true := by
  obtain ⟨r1,r2,r3⟩ := Y6 h.gk hr;obtain ⟨m0,m1,_⟩ := hc.s;obtain ⟨f,hf,hs⟩ := h.f;obtain ⟨t1,t2⟩ := N2 hc h.gk hr h.re.pq hf hs hag hcan hM;have hmis := (QE c.st (ps.getD s.a.toNat 0) s.k s.ids).1;have hm0 := h.m0;have hre := h.re.aft r1 r2 hcan;rcases ID c gs s with h0 | ⟨_,h0⟩ | h0 | h0
  · refine .inr ⟨h0,?_⟩;obtain ⟨f',ok,hs'⟩ := t2 h0;rw [← D7] at ok;have hg := Y0 (s := s) h.gk m0 m1;refine ⟨⟨hg,hre,by unfold rZ;omega,hM,f',ok,hs'⟩,?_⟩
    exact (QF hg).2 ⟨hre.pq.pl,by rw [hre.pq.ql,hre.pq.pl],(IN hre.pq.pl).2 hre.pq.pp,f',ok,hs'.mono hM⟩
  · rw [h0] at hr;cases hr
  · exact .inl h0
  · exact absurd h0 t1
end Go.Ld
namespace Go.Proofs.YtmmkhmilpeodnaaGreat
open Go Go.Ab Go.Ld
attribute [local irreducible] VC AW bX aR kY
end Go.Proofs.YtmmkhmilpeodnaaGreat
namespace Go.Ab
open Go
def X9 (P : Program) (t : TypeId) (i o : Nat) (e : TypeId) : Bool := match P.underlying t with
  | some (.struct fs) => (match fs[i]? with
    | some f => f.offset == o && P.cellsOf f.type == 1 && (match P.underlying f.type with
      | some (.slice e') => e' == e
      | _ => false)
    | none => false)
  | _ => false
theorem GW {S : Nat→Prop} {w : World} {ρ : Pl} {x : AV} : ∀ {k : Nat} {us : List AV} {ys : List Value},RL S w us ρ ys→us[k]? = some x→∃ y,ys[k]? = some y∧R S w x ρ y
  | _,[],_,_,h => by simp at h
  | 0,u :: us,ys,hr,h => by
    simp only [RL] at hr;obtain ⟨y,zs,h1,h2,h3⟩ := hr;obtain rfl : u=x := by simpa using h
    first
      | (subst h1;exact ⟨y,rfl,h2⟩)
      | (subst h2;exact ⟨y,rfl,h1⟩)
      | (subst h3;exact ⟨y,rfl,h1⟩)
  | k+1,u :: us,ys,hr,h => by
    simp only [RL] at hr;obtain ⟨y,zs,h1,h2,h3⟩ := hr;have h' : us[k]? = some x := by simpa using h
    first
      | (subst h1;exact GW (k := k) h3 h')
      | (subst h3;exact GW (k := k) h2 h')
theorem ML {P : Program} {H : Type} {enc : TypeId × Value→H} {ts : List TypeId} {ds : List (DataW H)} {j : Nat} {t e : TypeId} {d : DataW H} {W : World} {v : Value} {p : List MemPlace} {S : Nat→Prop} {ρ : Pl} {us : List AV} {cs : List AV} {len sz i o : Nat}
    (hw : (DataW.weightsEach P ts ds).all (·≤reachBytes)=true) (hts : ts[j]? = some t) (hds : ds[j]? = some d) (hf : X9 P t i o e=true) (hv : DataW.Trod enc P W 0 (fun _ => true) true t v d p) (hr : R S W (.agg us) ρ v) (hu : us[o]? = some (.row cs len sz)) : len * P.bytesOf e≤140737488351232 := by
  simp only [R] at hr;obtain ⟨ys,rfl,hl⟩ := hr;obtain ⟨y,hy,hry⟩ := GW hl hu;simp only [R] at hry;obtain ⟨a,cap,rfl,_⟩ := hry;unfold X9 at hf;split at hf
  · rename_i fs ht;split at hf
    · rename_i f hfi;simp only [aM,beq_iff_eq] at hf;obtain ⟨⟨h1,h2⟩,h3⟩ := hf;split at h3
      · rename_i e' hs;have h3 : e'=e := by simpa using h3
        subst h3;obtain ⟨fuel,hft⟩ := hv;have hc : (Value.agg ys).cells.toList=ys.toList := rfl;rw [hc] at hft;obtain ⟨xs,n,rfl,hx,_,hxl,hx2⟩ := DataW.trod_struct ht hft;have hx3 := hx2 i f hfi
        rw [h1,h2,show (ys.toList.drop o).take 1=[.slice a len cap] by
          rw [List.take_one,List.head?_drop,hy];rfl] at hx3
        have hil : i<xs.length := by rw [hxl];exact (aG.1 hfi).1
        rw [aA hil] at hx3;simp only [Prod.mk.injEq] at hx;rcases DataW.trod_slice hs hx3 with ⟨q1,_⟩ | ⟨a',len',cap',elems,rest,n',_,q2,q3,_,_,_,q4,_⟩
        · simp only [List.cons.injEq,Value.slice.injEq] at q1;rw [q1.1.2.1];simp
        · simp only [List.cons.injEq,Value.slice.injEq] at q2;rw [q2.1.2.1];have hmem : (elems.length+rest.length) * P.bytesOf e'∈d.weights P t := by
            rw [hx.1];unfold DataW.weights;rw [ht];refine DataW.weights_mem_each (j := i) (t := f.type) (d := xs[i].1) ?_ ?_ _ ?_
            · rw [bS,jM,hfi];rfl
            · rw [bS,aA hil];rfl
            · rw [q3];simp only [DataW.weights,hs,bB];exact aS
          have h5 := bG.1 hw _ (DataW.weights_mem_each hts hds _ hmem);have hrb : reachBytes=140737488351232 := by decide
          simp only [decide_eq_true_eq,hrb,eC] at h5;rw [← q4];omega
      · cases h3
    · cases hf
  · cases hf
end Go.Ab
namespace Go.Proofs.YtmmkhmilpeodnaaGreat
open Go Go.Ab Go.Ld
attribute [local irreducible] VC AW bX aR
def J1 (n : Int) : Prop := (Lit.int .i64 n).wf=true
theorem sX : gZ Tryz.prog 3 J1 (fun n => [AV.i n]) := gZ.int Tryz.underlying3 (by kernel_rfl)
theorem zQ9 : gZ Tryz.prog 4 (fun _ => True) (fun b => [AV.b b]) := gZ.bool Tryz.underlying4 (by kernel_rfl)
theorem XA : gZ Tryz.prog 9 (fun s => s.size≤maxLen) (fun s => [.v (.string s)]) := gZ.string Tryz.underlying9 (by kernel_rfl)
theorem XD : gZ Tryz.prog 24 (fun l : List Int => l.length≤maxLen∧∀ a,a∈l→J1 a) (fun l => [.rowE (ints l) 1]) :=
  gZ.slice Tryz.underlying24 (by kernel_rfl) (by kernel_rfl) (by decide) sX
theorem zQ8 : gZ Tryz.prog 74 (fun p : KD => p.1.size≤maxLen∧J1 p.2) (fun p => [AV.v (.string p.1),AV.i p.2]) :=
  gZ.struct (fs := [(9,0),(3,1)]) (by kernel_rfl) (by kernel_rfl)
    (fun e W fuel css hl hx => by
      obtain ⟨a,h1,h2,h3⟩ := iH.cons XA (iH.cons sX iH.nil) e W fuel css hl hx
      exact ⟨(a.1,a.2.1),⟨h1.1,h1.2.1⟩,by simpa using h2,by simpa using h3⟩)
    (fun _ => by kernel_rfl)
theorem zX3 : gZ Tryz.prog 77 (fun p : LT => J1 p.1∧J1 p.2.1) (fun p => [AV.i p.1,AV.i p.2.1,AV.b p.2.2]) :=
  gZ.struct (fs := [(3,0),(3,1),(4,2)]) (by kernel_rfl) (by kernel_rfl)
    (fun e W fuel css hl hx => by
      obtain ⟨a,h1,h2,h3⟩ := iH.cons sX (iH.cons sX (iH.cons zQ9 iH.nil)) e W fuel css hl hx
      exact ⟨(a.1,a.2.1,a.2.2.1),⟨h1.1,h1.2.1⟩,by simpa using h2,by simpa using h3⟩)
    (fun _ => by kernel_rfl)
theorem zX4 : gZ Tryz.prog 54 (fun p : BX => J1 p.1∧J1 p.2.1∧J1 p.2.2) (fun p => [AV.i p.1,AV.i p.2.1,AV.i p.2.2]) :=
  gZ.struct (fs := [(3,0),(3,1),(3,2)]) (by kernel_rfl) (by kernel_rfl)
    (fun e W fuel css hl hx => by
      obtain ⟨a,h1,h2,h3⟩ := iH.cons sX (iH.cons sX (iH.cons sX iH.nil)) e W fuel css hl hx
      exact ⟨(a.1,a.2.1,a.2.2.1),⟨h1.1,h1.2.1,h1.2.2.1⟩,by simpa using h2,by simpa using h3⟩)
    (fun _ => by kernel_rfl)
theorem zG9 : gZ Tryz.prog 22 (fun l : List KD => l.length≤maxLen∧∀ a,a∈l→a.1.size≤maxLen∧J1 a.2) (fun l => [.rowE (gB l) 2]) :=
  gZ.slice Tryz.underlying22 (by kernel_rfl) (by kernel_rfl) (by decide) zQ8
theorem zQ7 : gZ Tryz.prog 23 (fun l : List LT => l.length≤maxLen∧∀ a,a∈l→J1 a.1∧J1 a.2.1) (fun l => [.rowE (jU l) 3]) :=
  gZ.slice Tryz.underlying23 (by kernel_rfl) (by kernel_rfl) (by decide) zX3
theorem zH0 : gZ Tryz.prog 25 (fun l : List BX => l.length≤maxLen∧∀ a,a∈l→J1 a.1∧J1 a.2.1∧J1 a.2.2) (fun l => [.rowE (cW l) 3]) :=
  gZ.slice Tryz.underlying25 (by kernel_rfl) (by kernel_rfl) (by decide) zX4
theorem zG7 : gZ Tryz.prog 27 (fun _ : List KD × List LT × List Int × List BX => True) (fun x => [.rowE (gB x.1) 2,.rowE (jU x.2.1) 3,.rowE (ints x.2.2.1) 1,.rowE (cW x.2.2.2) 3]) :=
  gZ.struct (fs := [(22,0),(23,1),(24,2),(25,3)]) (by kernel_rfl) (by kernel_rfl)
    (fun e W fuel css hl hx => by
      obtain ⟨a,h1,h2,h3⟩ := iH.cons zG9 (iH.cons zQ7 (iH.cons XD (iH.cons zH0 iH.nil))) e W fuel css hl hx
      exact ⟨(a.1,a.2.1,a.2.2.1,a.2.2.2.1),trivial,by simpa using h2,by simpa using h3⟩)
    (fun _ => by kernel_rfl)
theorem XC : gZ Tryz.prog 29 (fun p : Int × Int × Int × Int => J1 p.1∧J1 p.2.1∧J1 p.2.2.1∧J1 p.2.2.2) (fun p => [AV.i p.1,AV.i p.2.1,AV.i p.2.2.1,AV.i p.2.2.2]) :=
  gZ.struct (fs := [(3,0),(3,1),(3,2),(3,3)]) (by kernel_rfl) (by kernel_rfl)
    (fun e W fuel css hl hx => by
      obtain ⟨a,h1,h2,h3⟩ := iH.cons sX (iH.cons sX (iH.cons sX (iH.cons sX iH.nil))) e W fuel css hl hx
      exact ⟨(a.1,a.2.1,a.2.2.1,a.2.2.2.1),⟨h1.1,h1.2.1,h1.2.2.1,h1.2.2.2.1⟩,by simpa using h2,by simpa using h3⟩)
    (fun _ => by kernel_rfl)
theorem zG8 : gZ Tryz.prog 42 (fun p : Int × Int × Int × Int × List Int => p.2.2.2.2.length≤maxLen) (fun p => [AV.i p.1,AV.i p.2.1,AV.i p.2.2.1,AV.i p.2.2.2.1,.rowE (ints p.2.2.2.2) 1]) :=
  gZ.struct (fs := [(3,0),(3,1),(3,2),(3,3),(24,4)]) (by kernel_rfl) (by kernel_rfl)
    (fun e W fuel css hl hx => by
      obtain ⟨a,h1,h2,h3⟩ := iH.cons sX (iH.cons sX (iH.cons sX (iH.cons sX (iH.cons XD iH.nil)))) e W fuel css hl hx
      exact ⟨(a.1,a.2.1,a.2.2.1,a.2.2.2.1,a.2.2.2.2.1),h1.2.2.2.2.1.1,by simpa using h2,by simpa using h3⟩)
    (fun _ => by kernel_rfl)
theorem XB : gZ Tryz.prog 30 (fun l : List (Int × Int × Int × Int × List Int) => l.length≤maxLen∧∀ p,p∈l→p.2.2.2.2.length≤maxLen) (fun l => [.rowE (l.map fun p => [AV.i p.1,AV.i p.2.1,AV.i p.2.2.1,AV.i p.2.2.2.1,.rowE (ints p.2.2.2.2) 1]) 5]) :=
  gZ.slice Tryz.underlying30 (by kernel_rfl) (by kernel_rfl) (by decide) zG8
abbrev yC1 (p : Int × Int × Int × Int × List Int) : Ev := ⟨p.1,p.2.1,p.2.2.1,p.2.2.2.1,p.2.2.2.2⟩
theorem zT5 (l : List (Int × Int × Int × Int × List Int)) : (l.map fun p => [AV.i p.1,AV.i p.2.1,AV.i p.2.2.1,AV.i p.2.2.2.1,.rowE (ints p.2.2.2.2) 1])=U3 (l.map yC1) := by
  unfold U3;rw [CG];rfl
theorem zL0 {l : List (Int × Int × Int × Int × List Int)} (h : ∀ p,p∈l→p.2.2.2.2.length≤maxLen) : ∀ s,s∈l.map yC1→s.ids.length≤9223372036854775807 := by
  intro s hs;obtain ⟨p,hp,rfl⟩ := bE.1 hs;exact bA (h p hp) (by decide)
abbrev yE7 (x : List KD × List LT × List Int × List BX) (c : Int × Int × Int × Int) : Cx := ⟨c.1,c.2.1,c.2.2.1,c.2.2.2,x.1,x.2.1,x.2.2.2⟩
end Go.Proofs.YtmmkhmilpeodnaaGreat
namespace Go.Ld
open Go.Ab Go.Proofs.YtmmkhmilpeodnaaGreat
abbrev zP4 (t : TR) : List AV := [.rowE (Go.Ab.ints t.1) 1,.rowE (cW t.2.1) 3,.i t.2.2]
abbrev mL (l : List TR) : List (List AV) := l.map zP4
theorem uA (l : List TR) : ∀ e,e∈mL l→e.length=3 := by intro e he;obtain ⟨n,_,rfl⟩ := bE.1 he;rfl
theorem jD (l : List TR) : ∀ e,e∈mL l→AV.idfL e=true := by intro e he;obtain ⟨n,_,rfl⟩ := bE.1 he;rfl
theorem HM : ∀ l : List TR,AV.idfL (mL l).flatten=true
  | [] => rfl
  | _ :: l => HM l
theorem HO {l : List TR} {k : Nat} (h : k<l.length) : (mL l)[(k : Int).toNat]? = some (zP4 l[k]) := by simp [h]
theorem HN {l : List TR} {k : Nat} (h : k<l.length) : (mL l)[0+(k : Int).toNat]? = some (zP4 l[k]) := by simp [h]
theorem UX {l : List TR} {k : Nat} (x : TR) : (mL l).set (0+(k : Int).toNat) (zP4 x)=mL (l.set k x) := by simp [pP]
theorem qO (l : List TR) : (mL l).length=l.length := bB _
theorem UW (l : List TR) (x : TR) : mL l ++ [zP4 x]=mL (l ++ [x]) := by simp
def xY (t x : TR) : Bool := decide (t.1=x.1) && decide (t.2.1=x.2.1)
theorem O0 {t x : TR} : xY t x=true↔t.1=x.1∧t.2.1=x.2.1 := by unfold xY;simp
theorem HE : ∀ {l : List TR} {x : TR} {k : Nat} (hk : k<l.length),(∀ i (h : i<k),xY (l[i]'(by omega)) x=false)→xY l[k] x=true→jC l x=if x.2.2<l[k].2.2 then l.set k x else l
  | [],_,_,hk,_,_ => by simp at hk
  | t :: l,x,0,_,_,h => by
    have h : t.1=x.1∧t.2.1=x.2.1 := O0.1 h;unfold jC;rw [if_pos h];rfl
  | t :: l,x,k+1,hk,h0,h => by
    have hn : ¬ (t.1=x.1∧t.2.1=x.2.1) := fun q => by
      have := h0 0 (by omega)
      rw [show (t :: l)[0]=t from rfl,O0.2 q] at this;cases this
    have ih := HE (l := l) (x := x) (k := k) (by simpa using hk) (fun i hi => h0 (i+1) (by omega)) h
    unfold jC;rw [if_neg hn,ih];have hk' : k<l.length := by simpa using hk
    rw [show (t :: l)[k+1]=l[k] from rfl]
    split <;> rfl
theorem CO : ∀ {l : List TR} {x : TR},(∀ i (h : i<l.length),xY l[i] x=false)→jC l x=l ++ [x]
  | [],_,_ => rfl
  | t :: l,x,h0 => by
    have hn : ¬ (t.1=x.1∧t.2.1=x.2.1) := fun q => by
      have := h0 0 (by simp)
      rw [show (t :: l)[0]=t from rfl,O0.2 q] at this;cases this
    unfold jC;rw [if_neg hn,CO fun i hi => h0 (i+1) (by simpa using hi)];rfl
def zS1 (l : List TR) (x : TR) : Bool := l.any fun t => xY t x
theorem MP (c : Cx) (s : Ev) (t : TR) (k : Nat) (hg : K1 c s t=true) : pU c s t (k+1)=pU c s t k ++ (if sH c t.1 (iX t.2.1) s (k : Nat) then [NJ c s t (k : Nat)] else []) := by
  unfold pU;rw [if_pos hg,if_pos hg,E0,List.filter_append,dB];congr 1;rw [zN4];split <;> rfl
theorem YL (c : Cx) (s : Ev) (t : TR) (k : Nat) (hg : K1 c s t=false) : pU c s t k=[] := by
  unfold pU;rw [if_neg (by rw [hg];simp)]
theorem P3 (c : Cx) (s : Ev) (t : TR) (k : Nat) : (pU c s t k).length≤k := by
  unfold pU;split
  · rw [bB];exact bA (qK _ _) (by rw [T4];exact aY _)
  · exact bU _
theorem TE (c : Cx) (s : Ev) {all : List TR} {k : Nat} (h : k<all.length) : (((all.take (k+1)).flatMap fun t => pU c s t 4).foldl jC [])=(pU c s all[k] 4).foldl jC (((all.take k).flatMap fun t => pU c s t 4).foldl jC []) := by
  rw [aT h,fI,wL,bF,BU,List.append_nil]
end Go.Ld
namespace Go.Ab
open Go
section
variable {P : Program} {env : dW} {h : Hp} {d : Option Nat} {ty : TypeId} {pos : String} {af : Array Edge} {g : Option (Nat × Bool)}
theorem SY {t t2 : TypeId} {x y : Operand} {a b c a' b' c' : Int} (ht : lL P t 3) (hx : evu env x=some (.agg [.i a,.i b,.i c])) (hy : evu env y=some (.agg [.i a',.i b',.i c'])) (e : (decide (a=a') && decide (b=b') && decide (c=c'))=false) :
    bX P ⟨d,.binOp .neq t x y t2,ty,pos,af,g⟩ env h 0 (fun _ => .b true) (fun _ => []) := by
  have : bX P ⟨d,.binOp .neq t x y t2,ty,pos,af,g⟩ env h 0 (fun _ => .b (!decide ([a,b,c]=[a',b',c']))) (fun _ => []) := xE ht hx hy rfl rfl;have hn : ([a,b,c]=[a',b',c'])↔False := by
    constructor
    · intro q;simp only [List.cons.injEq] at q;rw [decide_eq_true q.1,decide_eq_true q.2.1,decide_eq_true q.2.2.1] at e;cases e
    · exact False.elim
  rw [decide_eq_false (fun q => hn.1 q)] at this;exact this
end
end Go.Ab
namespace Go.Proofs.YtmmkhmilpeodnaaGreat
open Go Go.Ab Go.Ld
attribute [local irreducible] VC AW bX aR kY lL
theorem zZ4 : lL Tryz.prog 54 3 := by unfold lL;kernel_rfl
theorem Q6 (a b : List BX) (ha : a.length≤9223372036854775807) : aR Tryz.prog 118 [.rowE (cW a) 3,.rowE (cW b) 3] [] (.b (decide (a=b))) [] := by
  have hal : (cW a).length=a.length := bB _;have hbl : (cW b).length=b.length := bB _;by_cases hl : a.length=b.length
  · refine bO T Tryz.func118 rfl rfl rfl rfl ?_
    (repeat' (first|refine wS ?_|refine wB ?_|refine wK ?_|(refine wC rfl ?_ ?_<;>(intro hb;(try simp only [nm] at hb);try (exfalso;omega)))|(refine rg 0 (aV ?_))|(refine rg 1 (mW rfl (qW T rfl (mW rfl (qW T rfl (vV (fG rfl rfl) ?_))))))|(refine rg 3 (aV ?_))|refine nZ ?_));all_goals try (exfalso;omega)
    refine cN (X := {i : Nat // i≤a.length∧a.take i=b.take i}) (fun i => [(0,.rowE (cW a) 3),(1,.rowE (cW b) 3),(5,.i i.1)]) (fun _ => []) (fun i => a.length - i.1) ⟨0,by omega,rfl⟩ (eA []) ?_
    rintro ⟨i,hi,hg⟩;dsimp only;by_cases hlt : i<a.length
    · have q1 := sO (l := a) (k := i) hlt;have q2 := sO (l := b) (k := i) (by omega)
      have hne : a[i]≠b[i]→decide (a=b)=false := fun e => decide_eq_false (fun h => e (by subst h;rfl))
      have hta : a.take (i+1)=a.take i ++ [a[i]] := aT hlt;have htb : b.take (i+1)=b.take i ++ [b[i]] := aT (by omega)
      generalize a[i]=x at *;generalize b[i]=y at *;obtain ⟨x1,x2,x3⟩ := x;obtain ⟨y1,y2,y3⟩ := y;dsimp only at *;by_cases e : (x1,x2,x3)=(y1,y2,y3)
      · simp only [Prod.mk.injEq] at e;obtain ⟨rfl,rfl,rfl⟩ := e
        (repeat' (first|refine wS ?_|refine wB ?_|refine wK ?_|refine wU ?_|(refine wC rfl ?_ ?_<;>(intro hb;(try simp only [nm] at hb);try (exfalso;omega)))|(refine rg 4 (dK rfl (qW T rfl (vV (aL rfl rfl) ?_))))|(refine bN (id := 6) 26 yK0 (rM 17 9) yK1 cJ rfl (by decide +kernel) (dN rfl (dN rfl (dV rfl (ix T rfl (by omega) (gV a) q1) (dO T rfl (dN rfl (dN rfl (dV rfl (ix T rfl (by omega) (gV b) q2) (dO T rfl (dV rfl (YI zZ4 rfl rfl rfl rfl rfl) ?_)))))))));refine dE ?_)|(refine iA 5 rfl rfl rfl (by omega) (by omega) ?_)|refine nZ ?_));all_goals try (exfalso;omega)
        refine ⟨⟨i+1,hlt,?_⟩,by dsimp only;omega,eA []⟩
        rw [hta,htb,hg]
      · rw [hne e];have hb3 : (decide (x1=y1) && decide (x2=y2) && decide (x3=y3))=false := by
          rw [T6];intro h;simp only [aM,decide_eq_true_eq] at h;exact e (by rw [h.1.1,h.1.2,h.2])
        (repeat' (first|refine wS ?_|refine wB ?_|refine wK ?_|refine wR ?_|refine wT ?_|(refine wC rfl ?_ ?_<;>(intro hb;(try simp only [nm] at hb);try (exfalso;omega)))|(refine rg 4 (dK rfl (qW T rfl (vV (aL rfl rfl) ?_))))|(refine bN (id := 6) 26 yK0 (rM 17 9) yK1 cJ rfl (by decide +kernel) (dN rfl (dN rfl (dV rfl (ix T rfl (by omega) (gV a) q1) (dO T rfl (dN rfl (dN rfl (dV rfl (ix T rfl (by omega) (gV b) q2) (dO T rfl (dV rfl (SY zZ4 rfl rfl hb3) ?_)))))))));refine dE ?_)|(refine rg 7 (aV ?_))|refine nZ ?_));all_goals first | (exfalso;omega) | exact rQ
    · rw [cF (by omega),cF (by omega)] at hg
      rw [show decide (a=b)=true from decide_eq_true hg]
      (repeat' (first|refine wS ?_|refine wR ?_|refine wE ?_|(refine wC rfl ?_ ?_<;>(intro hb;(try simp only [nm] at hb);try (exfalso;omega)))|(refine rg 4 (dK rfl (qW T rfl (vV (aL rfl rfl) ?_))))|(refine rg 8 (aV ?_))|refine nZ ?_));all_goals first | (exfalso;omega) | exact rQ
  · rw [show decide (a=b)=false from decide_eq_false (fun h => hl (by rw [h]))]
    refine bO T Tryz.func118 rfl rfl rfl rfl ?_
    (repeat' (first|refine wS ?_|refine wR ?_|(refine wC rfl ?_ ?_<;>(intro hb;(try simp only [nm] at hb);try (exfalso;omega)))|(refine rg 0 (aV ?_))|(refine rg 1 (mW rfl (qW T rfl (mW rfl (qW T rfl (vV (fG rfl rfl) ?_))))))|(refine rg 2 (aV ?_))|refine nZ ?_));all_goals first | (exfalso;omega) | exact rQ
theorem zD1 (l : List TR) (x : TR) (hl : l.length≤1000000) (hb : ∀ t,t∈l→t.1.length≤1000∧t.2.1.length≤1000) (hx : zS1 l x=true) :
    aR Tryz.prog 74 [.sl 0 0 l.length 3,.agg (zP4 x)] [.arr (mL l) 3] (.sl 0 0 (jC l x).length 3) [.arr (mL (jC l x)) 3] := by
  have hll : (mL l).length=l.length := qO l;have hat := fun k hk h0 h => HE (l := l) (x := x) (k := k) hk h0 h;obtain ⟨px,bx,mx⟩ := x;refine bO T Tryz.func74 rfl rfl rfl rfl ?_
  (repeat' (first|refine wS ?_|(refine rg 0 (bQ (cD rfl rfl) rfl (aV ?_)))|refine nZ ?_));refine fC 3 (cs := [.rowE (Go.Ab.ints px) 1,.rowE (cW bx) 3,.i mx]) rfl rfl rfl ?_
  (repeat' (first|refine wB ?_|(refine rg 1 (aV ?_))|refine nZ ?_));refine cN (X := {k : Nat // k≤l.length∧∀ i (h : i<l.length),i<k→xY l[i] (px,bx,mx)=false}) (fun k => [(0,.sl 0 0 l.length 3),(3,.pr [.rowE (Go.Ab.ints px) 1,.rowE (cW bx) 3,.i mx] 0),(5,.i (k.1 : Int))]) (fun _ => [.arr (mL l) 3]) (fun k => l.length - k.1) ⟨0,bU _,fun i _ h => absurd h (dH _)⟩ ⟨[0],rfl,(by repeat first|exact trivial|refine ⟨rfl,?_⟩),⟨.inr (aD rfl rfl (jD _)),trivial⟩,by decide,yA _⟩ ?_
  rintro ⟨k,hk,hno⟩;dsimp only at hk hno ⊢;by_cases hlt : k<l.length
  · have hat := hat k hlt (fun i hi => hno i (by omega) hi)
    obtain ⟨b1,b2⟩ := hb _ (aI hlt);have q1 := HN hlt;have hst := UX (l := l) (k := k) (px,bx,mx);have hnx : xY l[k] (px,bx,mx)=false→∀ i (h : i<l.length),i<k+1→xY l[i] (px,bx,mx)=false := fun hs i h hi => by
      by_cases e : i=k
      · subst e;exact hs
      · exact hno i h (by omega)
    have hsT : xY l[k] (px,bx,mx)=(decide (l[k].1=px) && decide (l[k].2.1=bx)) := rfl;have s1 := N9 l[k].1 px (by omega)
    have s2 := Q6 l[k].2.1 bx (by omega)
    generalize hS : jC l (px,bx,mx)=S at *;generalize l[k]=t at *;obtain ⟨pt,bt,mt⟩ := t;dsimp only at *
    replace q1 : (mL l)[0+(k : Int).toNat]? = some [.rowE (Go.Ab.ints pt) 1,.rowE (cW bt) 3,.i mt] := q1
    cases e1 : decide (pt=px) with
    | false =>
      rw [e1] at s1 hsT;have hnx := hnx hsT
      (repeat' (first|refine wS ?_|refine wB ?_|refine wK ?_|refine wU ?_|(refine wC rfl ?_ ?_<;>(intro hb;(try simp only [nm] at hb);try (exfalso;omega)))|(refine rg 2 (dK rfl (qW T rfl (vV (aL rfl rfl) ?_))))|(refine bN (id := 4) 47 yK2 (rM 12 18) yK3 cJ rfl (by decide +kernel) (dN rfl (dN rfl (dV rfl (by exact aJ T rfl rfl rfl rfl rfl (by omega) (by omega)) ?_)));refine dP T rfl (dV rfl (by exact aP T rfl rfl (bH rfl q1) rfl) ?_);refine dP T rfl (dO T rfl (dV rfl (kC (s1)) (dN rfl (tG rfl (tG rfl (tG rfl (tG rfl (tG rfl (dG ?_)))))))));refine tG rfl (tG rfl (dV rfl (iE rfl rfl) (dE ?_))))|(refine iA 3 rfl rfl rfl (by omega) (by omega) ?_)|refine nZ ?_));all_goals try (exfalso;omega)
      all_goals exact ⟨⟨k+1,hlt,hnx⟩,by dsimp only;omega,⟨[0],rfl,(by repeat first|exact trivial|refine ⟨rfl,?_⟩),⟨.inr (aD rfl rfl (jD _)),trivial⟩,by decide,yA _⟩⟩
    | true =>
      rw [e1] at s1 hsT;cases e2 : decide (bt=bx) with
      | false =>
        rw [e2] at s2 hsT;have hnx := hnx hsT
        (repeat' (first|refine wS ?_|refine wB ?_|refine wK ?_|refine wU ?_|(refine wC rfl ?_ ?_<;>(intro hb;(try simp only [nm] at hb);try (exfalso;omega)))|(refine rg 2 (dK rfl (qW T rfl (vV (aL rfl rfl) ?_))))|(refine bN (id := 4) 47 yK2 (rM 12 18) yK3 cJ rfl (by decide +kernel) (dN rfl (dN rfl (dV rfl (by exact aJ T rfl rfl rfl rfl rfl (by omega) (by omega)) ?_)));refine dP T rfl (dV rfl (by exact aP T rfl rfl (bH rfl q1) rfl) ?_);refine dP T rfl (dO T rfl (dV rfl (kC (s1)) (dN rfl (tN rfl (tN rfl (dT rfl (by exact aJ T rfl rfl rfl rfl rfl (by omega) (by omega)) ?_))))));refine tP T rfl (dT rfl (by exact aP T rfl rfl (bH rfl q1) rfl) ?_);refine tP T rfl (tO T rfl (dT rfl (kC (s2)) (dV rfl (iQ rfl rfl) (dE ?_)))))|(refine iA 3 rfl rfl rfl (by omega) (by omega) ?_)|refine nZ ?_));all_goals try (exfalso;omega)
        all_goals exact ⟨⟨k+1,hlt,hnx⟩,by dsimp only;omega,⟨[0],rfl,(by repeat first|exact trivial|refine ⟨rfl,?_⟩),⟨.inr (aD rfl rfl (jD _)),trivial⟩,by decide,yA _⟩⟩
      | true =>
        rw [e2] at s2 hsT;have hat := hat hsT;by_cases hm : mx<mt
        · rw [if_pos hm] at hat;subst hat;rw [gG]
          (repeat' (first|refine wS ?_|refine wB ?_|refine wK ?_|refine wR ?_|refine wT ?_|(refine rg 2 (dK rfl (qW T rfl (vV (sF rfl rfl (by omega)) ?_))))|(refine bN (id := 4) 47 yK2 (rM 12 18) yK3 cJ rfl (by decide +kernel) (dN rfl (dN rfl (dV rfl (by exact aJ T rfl rfl rfl rfl rfl (by omega) (by omega)) ?_)));refine dP T rfl (dV rfl (by exact aP T rfl rfl (bH rfl q1) rfl) ?_);refine dP T rfl (dO T rfl (dV rfl (kC (s1)) (dN rfl (tN rfl (tN rfl (dT rfl (by exact aJ T rfl rfl rfl rfl rfl (by omega) (by omega)) ?_))))));refine tP T rfl (dT rfl (by exact aP T rfl rfl (bH rfl q1) rfl) ?_);refine tP T rfl (tO T rfl (dT rfl (kC (s2)) (dV rfl (iQ rfl rfl) (dE ?_)))))|(refine bN (id := 5) 47 [[],[0],[],[],[2,3],[2,3,4],rM 2 4,rN 7] (rM 30 8) yK4 cJ rfl (by decide +kernel) (dP T rfl (dO T rfl (dN rfl (dN rfl (dV rfl (by exact aJ T rfl rfl rfl rfl rfl (by omega) (by omega)) ?_)))));refine dP T rfl (dV rfl (by exact aP T rfl rfl (bH rfl q1) rfl) ?_);refine dV rfl (sF rfl rfl (by omega)) (dE ?_))|(refine rg 6 (dK rfl (vV (aP T rfl rfl rfl rfl) (vV (by exact aJ T rfl rfl rfl rfl rfl (by omega) (by omega)) ?_)));refine aU T rfl rfl rfl rfl rfl rfl (by decide) (lX rfl q1 rfl) ?_)|(refine rg 7 (mW rfl (aV ?_)))|refine nZ ?_));all_goals try (exfalso;omega)
          all_goals exact ⟨.inl rfl,[0],_,rfl,rfl,rfl,⟨.inr (aD rfl hst (jD _)),trivial⟩,by decide,yA _⟩
        · rw [if_neg hm] at hat;rw [hat];clear hat hS
          (repeat' (first|refine wS ?_|refine wB ?_|refine wK ?_|refine wR ?_|refine wT ?_|refine wU ?_|(refine rg 2 (dK rfl (qW T rfl (vV (sF rfl rfl (by omega)) ?_))))|(refine bN (id := 4) 47 yK2 (rM 12 18) yK3 cJ rfl (by decide +kernel) (dN rfl (dN rfl (dV rfl (by exact aJ T rfl rfl rfl rfl rfl (by omega) (by omega)) ?_)));refine dP T rfl (dV rfl (by exact aP T rfl rfl (bH rfl q1) rfl) ?_);refine dP T rfl (dO T rfl (dV rfl (kC (s1)) (dN rfl (tN rfl (tN rfl (dT rfl (by exact aJ T rfl rfl rfl rfl rfl (by omega) (by omega)) ?_))))));refine tP T rfl (dT rfl (by exact aP T rfl rfl (bH rfl q1) rfl) ?_);refine tP T rfl (tO T rfl (dT rfl (kC (s2)) (dV rfl (iQ rfl rfl) (dE ?_)))))|(refine bN (id := 5) 47 [[],[0],[],[],[2,3],[2,3,4],rM 2 4,rN 7] (rM 30 8) yK4 cJ rfl (by decide +kernel) (dP T rfl (dO T rfl (dN rfl (dN rfl (dV rfl (by exact aJ T rfl rfl rfl rfl rfl (by omega) (by omega)) ?_)))));refine dP T rfl (dV rfl (by exact aP T rfl rfl (bH rfl q1) rfl) ?_);refine dV rfl (K2 rfl rfl (by omega)) (dE ?_))|(refine rg 7 (mW rfl (aV ?_)))|refine nZ ?_));all_goals try (exfalso;omega)
          all_goals exact ⟨.inl rfl,[0],_,rfl,rfl,rfl,⟨.inr (aD rfl rfl (jD _)),trivial⟩,by decide,yA _⟩
  · exfalso;obtain ⟨t,ht,hs⟩ := iZ.1 hx;obtain ⟨i,hi,rfl⟩ := oM ht;rw [hno i hi (by omega)] at hs;cases hs
theorem UK (l : List TR) (x : TR) (hl : l.length≤1000000) (hb : ∀ t,t∈l→t.1.length≤1000∧t.2.1.length≤1000) (hx : zS1 l x=false) :
    aR Tryz.prog 74 [.sl 0 0 l.length 3,.agg (zP4 x)] [.arr (mL l) 3] (.sl 1 0 (jC l x).length 3) [.gone,.arr (mL (jC l x)) 3] := by
  have hll : (mL l).length=l.length := qO l;have hno : ∀ i (h : i<l.length),xY l[i] x=false := fun i h => by
    have := zC4.1 hx l[i] (aI h);exact T6.2 this
  rw [CO hno];have hsn := UW l x;have hl1 : (l ++ [x]).length=l.length+1 := by simp
  obtain ⟨px,bx,mx⟩ := x;refine bO T Tryz.func74 rfl rfl rfl rfl ?_
  (repeat' (first|refine wS ?_|(refine rg 0 (bQ (cD rfl rfl) rfl (aV ?_)))|refine nZ ?_));refine fC 3 (cs := [.rowE (Go.Ab.ints px) 1,.rowE (cW bx) 3,.i mx]) rfl rfl rfl ?_
  (repeat' (first|refine wB ?_|(refine rg 1 (aV ?_))|refine nZ ?_));refine cN (X := {k : Nat // k≤l.length}) (fun k => [(0,.sl 0 0 l.length 3),(3,.pr [.rowE (Go.Ab.ints px) 1,.rowE (cW bx) 3,.i mx] 0),(5,.i (k.1 : Int))]) (fun _ => [.arr (mL l) 3]) (fun k => l.length - k.1) ⟨0,bU _⟩ ⟨[0],rfl,(by repeat first|exact trivial|refine ⟨rfl,?_⟩),⟨.inr (aD rfl rfl (jD _)),trivial⟩,by decide,yA _⟩ ?_
  rintro ⟨k,hk⟩;dsimp only at hk ⊢;by_cases hlt : k<l.length
  · obtain ⟨b1,b2⟩ := hb _ (aI hlt);have q1 := HN hlt;have hno := hno k hlt;have hsT : xY l[k] (px,bx,mx)=(decide (l[k].1=px) && decide (l[k].2.1=bx)) := rfl;have s1 := N9 l[k].1 px (by omega)
    have s2 := Q6 l[k].2.1 bx (by omega)
    generalize l[k]=t at *;obtain ⟨pt,bt,mt⟩ := t;dsimp only at *
    replace q1 : (mL l)[0+(k : Int).toNat]? = some [.rowE (Go.Ab.ints pt) 1,.rowE (cW bt) 3,.i mt] := q1
    rw [hsT] at hno;cases e1 : decide (pt=px) with
    | false =>
      rw [e1] at s1
      (repeat' (first|refine wS ?_|refine wB ?_|refine wK ?_|refine wU ?_|(refine wC rfl ?_ ?_<;>(intro hb;(try simp only [nm] at hb);try (exfalso;omega)))|(refine rg 2 (dK rfl (qW T rfl (vV (aL rfl rfl) ?_))))|(refine bN (id := 4) 47 yK2 (rM 12 18) yK3 cJ rfl (by decide +kernel) (dN rfl (dN rfl (dV rfl (by exact aJ T rfl rfl rfl rfl rfl (by omega) (by omega)) ?_)));refine dP T rfl (dV rfl (by exact aP T rfl rfl (bH rfl q1) rfl) ?_);refine dP T rfl (dO T rfl (dV rfl (kC (s1)) (dN rfl (tG rfl (tG rfl (tG rfl (tG rfl (tG rfl (dG ?_)))))))));refine tG rfl (tG rfl (dV rfl (iE rfl rfl) (dE ?_))))|(refine iA 3 rfl rfl rfl (by omega) (by omega) ?_)|refine nZ ?_));all_goals try (exfalso;omega)
      all_goals exact ⟨⟨k+1,hlt⟩,by dsimp only;omega,⟨[0],rfl,(by repeat first|exact trivial|refine ⟨rfl,?_⟩),⟨.inr (aD rfl rfl (jD _)),trivial⟩,by decide,yA _⟩⟩
    | true =>
      rw [e1] at s1 hno;rw [show decide (bt=bx)=false from hno] at s2
      (repeat' (first|refine wS ?_|refine wB ?_|refine wK ?_|refine wU ?_|(refine wC rfl ?_ ?_<;>(intro hb;(try simp only [nm] at hb);try (exfalso;omega)))|(refine rg 2 (dK rfl (qW T rfl (vV (aL rfl rfl) ?_))))|(refine bN (id := 4) 47 yK2 (rM 12 18) yK3 cJ rfl (by decide +kernel) (dN rfl (dN rfl (dV rfl (by exact aJ T rfl rfl rfl rfl rfl (by omega) (by omega)) ?_)));refine dP T rfl (dV rfl (by exact aP T rfl rfl (bH rfl q1) rfl) ?_);refine dP T rfl (dO T rfl (dV rfl (kC (s1)) (dN rfl (tN rfl (tN rfl (dT rfl (by exact aJ T rfl rfl rfl rfl rfl (by omega) (by omega)) ?_))))));refine tP T rfl (dT rfl (by exact aP T rfl rfl (bH rfl q1) rfl) ?_);refine tP T rfl (tO T rfl (dT rfl (kC (s2)) (dV rfl (iQ rfl rfl) (dE ?_)))))|(refine iA 3 rfl rfl rfl (by omega) (by omega) ?_)|refine nZ ?_));all_goals try (exfalso;omega)
      all_goals exact ⟨⟨k+1,hlt⟩,by dsimp only;omega,⟨[0],rfl,(by repeat first|exact trivial|refine ⟨rfl,?_⟩),⟨.inr (aD rfl rfl (jD _)),trivial⟩,by decide,yA _⟩⟩
  · obtain rfl : k=l.length := by omega
    (repeat' (first|refine wS ?_|refine wR ?_|refine wE ?_|(refine wC rfl ?_ ?_<;>(intro hb;(try simp only [nm] at hb);try (exfalso;omega)))|(refine rg 2 (dK rfl (qW T rfl (vV (aL rfl rfl) ?_))))|(refine rg 8 (mW rfl (lW T rfl (bQ (by exact bC T rfl rfl (by decide) (by decide) rfl rfl rfl) rfl ?_)));refine fR T rfl rfl rfl rfl rfl rfl (by omega) (kJ.whole rfl rfl) rfl (by simp;omega) (by simp;omega) rfl ?_;refine aV ?_)|refine nZ ?_));all_goals try (exfalso;omega)
    rw [hl1];exact ⟨.inl rfl,[0,2],_,rfl,rfl,rfl,⟨.inl rfl,.inr (aD rfl (by rw [← hsn];exact lQ hll.symm) (jD _)),trivial⟩,by decide,yA _⟩
theorem zM8 (l : List TR) (p q : List Int) (hl : l.length≤1000000) (hb : ∀ t,t∈l→t.1.length≤1000∧t.2.1.length≤1000) :
    aR Tryz.prog 76 [.rowE (mL l) 3,.rowE (ints p) 1,.rowE (ints q) 1] [] (.b (H2 l p q)) [] := by
  have hll : (mL l).length=l.length := qO l;have hyes : ∀ k (h : k<l.length),(decide (l[k].1=p) && decide (iX l[k].2.1=q))=true→H2 l p q=true := fun k h e => iZ.2 ⟨_,aI h,e⟩
  have hno : (∀ k (h : k<l.length),k<l.length→(decide (l[k].1=p) && decide (iX l[k].2.1=q))=false)→H2 l p q=false := fun h => zC4.2 fun t ht => by
    obtain ⟨i,hi,rfl⟩ := oM ht;rw [h i hi hi];simp
  generalize H2 l p q=R at *;refine bO T Tryz.func76 rfl rfl rfl rfl ?_
  (repeat' (first|refine wS ?_|refine wB ?_|(refine rg 0 (aV ?_))|(refine rg 1 (aV ?_))|refine nZ ?_));refine cN (X := {k : Nat // k≤l.length∧∀ i (h : i<l.length),i<k→(decide (l[i].1=p) && decide (iX l[i].2.1=q))=false}) (fun k => [(0,.rowE (mL l) 3),(1,.rowE (ints p) 1),(2,.rowE (ints q) 1),(7,.i (k.1 : Int))]) (fun _ => []) (fun k => l.length - k.1) ⟨0,bU _,fun i _ h => absurd h (dH _)⟩ (eA []) ?_
  rintro ⟨k,hk,hn⟩;dsimp only at hk hn ⊢;by_cases hlt : k<l.length
  · have hyes := hyes k hlt;obtain ⟨b1,b2⟩ := hb _ (aI hlt);have q1 := HO hlt;have hnx : (decide (l[k].1=p) && decide (iX l[k].2.1=q))=false→∀ i (h : i<l.length),i<k+1→(decide (l[i].1=p) && decide (iX l[i].2.1=q))=false := fun hs i h hi => by
      by_cases e : i=k
      · subst e;exact hs
      · exact hn i h (by omega)
    have s1 := N9 l[k].1 p (by omega)
    have s2 := N9 (iX l[k].2.1) q (by rw [zW];omega)
    have hu := zD8 l[k].2.1 (by omega)
    generalize l[k]=t at *;obtain ⟨pt,bt,mt⟩ := t;dsimp only at *;generalize iX bt=ct at *;cases e1 : decide (pt=p) with
    | false =>
      rw [e1] at s1 hnx;have hnx := hnx rfl
      (repeat' (first|refine wS ?_|refine wB ?_|refine wK ?_|refine wU ?_|(refine wC rfl ?_ ?_<;>(intro hb;(try simp only [nm] at hb);try (exfalso;omega)))|(refine rg 2 (dK rfl (qW T rfl (vV (aL rfl rfl) ?_))))|(refine rg 4 (dK rfl (vV (ix T rfl (by omega) (uA _) q1) (gH T rfl (mW rfl (vV (kC (s1)) (mV ?_))))));(iterate 8 refine gF ?_);refine pV ?_)|(refine iA 3 rfl rfl rfl (by omega) (by omega) ?_)|refine nZ ?_));all_goals try (exfalso;omega)
      all_goals exact ⟨⟨k+1,hlt,hnx⟩,by dsimp only;omega,eA []⟩
    | true =>
      rw [e1] at s1 hnx hyes;cases e2 : decide (ct=q) with
      | false =>
        rw [e2] at s2 hnx;have hnx := hnx rfl
        (repeat' (first|refine wS ?_|refine wB ?_|refine wK ?_|refine wU ?_|(refine wC rfl ?_ ?_<;>(intro hb;(try simp only [nm] at hb);try (exfalso;omega)))|(refine rg 2 (dK rfl (qW T rfl (vV (aL rfl rfl) ?_))))|(refine rg 4 (dK rfl (vV (ix T rfl (by omega) (uA _) q1) (gH T rfl (mW rfl (vV (kC (s1)) (mW rfl (yN rfl (yN rfl (yV (ix T rfl (by omega) (uA _) q1) ?_)))))))));refine yP T rfl (yO T rfl (yV (kC (hu)) (yN rfl (yV (kC (s2)) (pV ?_))))))|(refine iA 3 rfl rfl rfl (by omega) (by omega) ?_)|refine nZ ?_));all_goals try (exfalso;omega)
        all_goals exact ⟨⟨k+1,hlt,hnx⟩,by dsimp only;omega,eA []⟩
      | true =>
        rw [e2] at s2 hyes;have hR := hyes rfl;subst hR
        (repeat' (first|refine wS ?_|refine wB ?_|refine wK ?_|refine wR ?_|refine wT ?_|(refine wC rfl ?_ ?_<;>(intro hb;(try simp only [nm] at hb);try (exfalso;omega)))|(refine rg 2 (dK rfl (qW T rfl (vV (aL rfl rfl) ?_))))|(refine rg 4 (dK rfl (vV (ix T rfl (by omega) (uA _) q1) (gH T rfl (mW rfl (vV (kC (s1)) (mW rfl (yN rfl (yN rfl (yV (ix T rfl (by omega) (uA _) q1) ?_)))))))));refine yP T rfl (yO T rfl (yV (kC (hu)) (yN rfl (yV (kC (s2)) (pV ?_))))))|(refine rg 5 (aV ?_))|refine nZ ?_));all_goals first | (exfalso;omega) | exact rQ
  · have hR := hno (fun i h _ => hn i h (by omega))
    subst hR
    (repeat' (first|refine wS ?_|refine wR ?_|refine wE ?_|(refine wC rfl ?_ ?_<;>(intro hb;(try simp only [nm] at hb);try (exfalso;omega)))|(refine rg 2 (dK rfl (qW T rfl (vV (aL rfl rfl) ?_))))|(refine rg 6 (aV ?_))|refine nZ ?_));all_goals first | (exfalso;omega) | exact rQ
end Go.Proofs.YtmmkhmilpeodnaaGreat
namespace Go.Proofs.YtmmkhmilpeodnaaGreat.PA
open Go Go.Ab Go.Pm Go.Proofs.YtmmkhmilpeodnaaGreat
attribute [local irreducible] VC AW bX aR AY VY F6 DW EQ
set_option maxHeartbeats 8000000
theorem L1 (l : List Int) (hl : l.length≤17592186043904) : aR Tryz.prog 68 [.rowE (Go.Ab.ints l) 1] [] (.sl 0 0 l.length 1) [.arr (Go.Ab.ints l) 1] := by
  have hll : (Go.Ab.ints l).length=l.length := by simp
  refine bO T Tryz.func68 rfl rfl rfl rfl ?_
  repeat' (first|refine wS ?_|refine wK ?_|refine wT ?_|refine wU ?_|(refine rg 0 (aV ?_))|(refine rg 1 (mV ?_);refine rC T rfl rfl rfl rfl fun b hb=>?_;cases b)|refine nZ ?_)
  · (repeat' (first|refine wR ?_|(refine rg 3 (bQ (by exact bC T rfl rfl (by decide) (by decide) rfl rfl rfl) rfl ?_);refine mW rfl (fR T rfl rfl rfl rfl rfl rfl (by decide) (.row (Go.Ab.ints_len l)) (Go.Ab.ints_one l) (by simp;omega) (by simp;omega) rfl ?_);refine aV ?_)|(refine nZ ?_)));exact ⟨.inl rfl,[1],_,rfl,(by show AV.sl 1 0 (0+(Go.Ab.ints l).length) 1=AV.sl 1 0 l.length 1;simp),rfl,⟨.inr (aD rfl rfl (Go.Ab.ints_idf _)),trivial⟩,by decide,wX⟩
  · have hl0 : l=[] := eT.1 (Classical.byContradiction fun h => by have := hb (by omega);cases this)
    subst hl0
    (repeat' (first|refine wR ?_|(refine rg 2 (vV (eI rfl) (rP 2 1 rfl (by decide) ?_)))|refine nZ ?_));exact ⟨.inl rfl,[0],_,rfl,rfl,rfl,⟨.inr (aD rfl rfl (Go.Ab.ints_idf _)),trivial⟩,by decide,wX⟩
theorem zR4 : ∀ i : Nat,i<1→([0,3] : List Nat)[i]? = some i := by decide
theorem FQ (n : Int) (h : n≤1000000) : aR Tryz.prog 24 [.i n] [] (.sl 0 0 n.toNat 1) [.arr (Go.Ab.ints (nats (List.range n.toNat))) 1] := by
  refine bO T Tryz.func24 rfl rfl rfl rfl ?_
  (repeat' (first|refine wS ?_|refine wB ?_|(refine rg 0 (aV ?_))|(refine rg 1 (aV ?_))|(refine rg 2 (mW rfl (vV (xF rfl rfl) (mV ?_))))|refine nZ ?_));refine ZN 3 1 rfl (by decide) ?_
  refine cN (X := {i : Nat // i≤n.toNat}) (fun i => [(3,.sl 0 0 i.1 1),(6,.i (max n 0)),(7,.i (i.1 : Int))]) (fun i => [.arr (Go.Ab.ints (nats (List.range i.1))) 1]) (fun i => n.toNat - i.1) ⟨0,bU _⟩ ⟨[0],rfl,⟨rfl,rfl,rfl,trivial⟩,⟨.inr rfl,trivial⟩,by decide,wX⟩ ?_
  rintro ⟨i,hi⟩;dsimp only;have hl : (Go.Ab.ints (nats (List.range i))).length=i := by simp
  by_cases hlt : i<n.toNat
  · have hs : Go.Ab.ints (nats (List.range i)) ++ [[AV.i (i : Int)]]=Go.Ab.ints (nats (List.range (i+1))) := by rw [E0,DN]
    (repeat' (first|refine wS ?_|refine wB ?_|refine wK ?_|(refine wC rfl ?_ ?_<;>(intro hb;(try simp only [nm] at hb);try (exfalso;omega)))|(refine rg 3 (vV (aL rfl rfl) ?_))|(refine rg 4 (mW rfl (aV ?_)))|(refine rg 5 (dK rfl (bQ (by exact bC T rfl rfl (by decide) (by decide) rfl rfl rfl) rfl ?_));refine fR T rfl rfl rfl rfl rfl rfl (by simp) (kJ.whole rfl rfl) rfl (by simp;omega) (by simp;omega) rfl ?_;refine aV ?_)|(refine rg 6 (vV (bV rfl rfl (by omega) (by omega)) (mV ?_)))|refine nZ ?_));all_goals first | (exfalso;omega) | skip
    exact ⟨⟨i+1,hlt⟩,by dsimp only;omega,[2],rfl,⟨rfl,rfl,rfl,trivial⟩,⟨.inr (aD rfl ((lQ hl.symm).trans hs) (Go.Ab.ints_idf _)),trivial⟩,by decide,wX⟩
  · obtain rfl : i=n.toNat := by omega
    (repeat' (first|refine wS ?_|refine wR ?_|refine wE ?_|(refine wC rfl ?_ ?_<;>(intro hb;(try simp only [nm] at hb);try (exfalso;omega)))|(refine rg 3 (vV (aL rfl rfl) ?_))|(refine rg 7 (mW rfl (aV ?_)))|refine nZ ?_));all_goals first | (exfalso;omega) | exact ⟨.inl rfl,[0],_,rfl,rfl,rfl,⟨.inr (aD rfl rfl (Go.Ab.ints_idf _)),trivial⟩,by decide,wX⟩
theorem J7 (n : Int) (h : n≤1000000) : aR Tryz.prog 24 [.i n] [] (.rowE (Go.Ab.ints (nats (List.range n.toNat))) 1) [] :=
  mH (by simp : n.toNat=(Go.Ab.ints (nats (List.range n.toNat))).length) (Go.Ab.ints_idfF _) (FQ n h)
abbrev lls (w : List (List Nat)) : List (List AV) := w.map fun c => [AV.rowE (Go.Ab.ints (nats c)) 1]
theorem lls_len (w : List (List Nat)) : ∀ e,e∈lls w→e.length=1 := by intro e he;obtain ⟨n,_,rfl⟩ := bE.1 he;rfl
theorem OY (w : List (List Nat)) : ∀ e,e∈lls w→AV.idfL e=true := by intro e he;obtain ⟨n,_,rfl⟩ := bE.1 he;rfl
theorem XN (w : List (List Nat)) : AV.idfL (lls w).flatten=true := by
  induction w with
  | nil => rfl
  | cons c w ih => exact ih
theorem lls_length (w : List (List Nat)) : (lls w).length=w.length := bB _
theorem XM (w : List (List Nat)) (c : List Nat) : lls w ++ [[AV.rowE (Go.Ab.ints (nats c)) 1]]=lls (w ++ [c]) := by simp
theorem NX : ∀ (m : Nat) (l : List Nat) (k : Nat),(U9 m l k).length=m
  | 0,_,_ => rfl
  | m+1,l,k => by show (U9 m _ _).length+1 = _;rw [NX m]
theorem UR (m : Nat) (l : List Nat) (k : Nat) : U9 (m+1) l k=lB l (k / iW m) :: U9 m (l.eraseIdx (k / iW m)) (k % iW m) := rfl
abbrev zQ0 (l : List Nat) : AV := .clo (.func 159) [] [.pr [.rowE (Go.Ab.ints (nats l)) 1] 0]
theorem VN (l : List Nat) : aR Tryz.prog 120 [.rowE (Go.Ab.ints (nats l)) 1] [] (zQ0 l) [] := by
  refine BO rfl ?_;refine bO T Tryz.func120 rfl rfl rfl rfl ?_
  (repeat' (first|refine wS ?_|refine wR ?_|(refine rg 0 (bQ (cD rfl rfl) rfl (aV ?_)))|(refine rg 1 (vV (by exact jK rfl rfl) ?_);refine aV ?_)|refine nZ ?_));exact ⟨.inl rfl,[0],_,rfl,rfl,rfl,⟨.inr rfl,trivial⟩,by decide,wX⟩
def VO (m : Nat) (l : List Nat) (k : Nat) : List AV := [.rowE (Go.Ab.ints (nats (U9 m l k))) 1]
theorem RI {m : Nat} {l : List Nat} {i k : Nat} (hk : k<iW m) : VO (m+1) l (i * iW m+k)=[.rowE ([[AV.i (lB l i : Nat)]] ++ Go.Ab.ints (nats (U9 m (l.eraseIdx i) k))) 1] := by
  unfold VO;rw [UR];have h1 : (i * iW m+k) / iW m=i := by
    rw [pO,Nat.mul_add_div (zR m),Nat.div_eq_of_lt hk];omega
  have h2 : (i * iW m+k) % iW m=k := by
    rw [pO,Nat.mul_add_mod,zN0 hk]
  rw [h1,h2];rfl
theorem zH1 {sz : Nat} : ∀ (S : Nat→Prop) w ρ ys,RL S w [AV.nils] ρ ys→RL S w [AV.rowE [] sz] ρ ys := fun S w ρ ys h => by
  simp only [RL] at h;obtain ⟨y,zs,rfl,h1,h2⟩ := h;unfold RL;refine ⟨y,zs,rfl,BQ h1,?_⟩;simp only [RL];exact h2
theorem zH6 : ∀ i : Nat,i<2→([0,1] : List Nat)[i]? = some i := by decide
theorem zP9 : ∀ (m : Nat) (l : List Nat),l.length=m→m≤1000→F6 Tryz.prog 159 [] [.pr [.rowE (Go.Ab.ints (nats l)) 1] 0] [] (VO m l) (iW m) := by
  intro m
  induction m with
  | zero =>
    intro l hl hm;have e1 := uE l;refine QD T Tryz.func159 rfl rfl rfl rfl ?_;intro J A y hJ hy
    (repeat' (first|((refine qB ?_))|((refine oC rfl (fun hb=>?_) (fun hb=>?_)<;>(((try simp only [nm] at hb);try ((exfalso;omega);done)))))|(((refine lG hJ (dA (id := 0) ?_)));(all_goals (refine bQ (cD rfl rfl) rfl ?_)))|(((refine lG hJ (dA (id := 1) ?_)));(all_goals (refine lV T ?_;(refine qV T ?_);refine vV (dR rfl rfl) ?_)))|refine nZ ?_));all_goals first | (exfalso;omega) | skip
    refine (P9 (id := 2) ?_);refine LP 1 hJ ?_;dsimp only [List.take,List.drop];refine lV T ?_;refine fU ?_;refine QT hJ hy rfl rfl rfl (zR 0) rfl (zH1 (sz := 1)) rfl ?_;intro yes;refine HH hJ ?_;refine fU ?_;refine BG ?_;exact ⟨.inl rfl,fun _ => rfl,[],rfl⟩
  | succ m ih =>
    intro l hl hm;have e1 := uE l;have hF : iW (m+1)=iW m * (m+1) := rfl;refine QD T Tryz.func159 rfl rfl rfl rfl ?_;intro J A y hJ hy
    (repeat' (first|(first|(refine qB ?_)|(refine rK ?_)|(refine uI ?_))|((refine oC rfl (fun hb=>?_) (fun hb=>?_)<;>(((try simp only [nm] at hb);try ((exfalso;omega);done)))))|(((refine lG hJ (dA (id := 0) ?_)));(all_goals (refine bQ (cD rfl rfl) rfl ?_)))|(((refine lG hJ (dA (id := 1) ?_)));(all_goals (refine lV T ?_;(refine qV T ?_);refine vV (dR rfl rfl) ?_)))|(((refine lG hJ (dA (id := 3) ?_)));(all_goals (refine lV T ?_;(refine qV T ?_);refine mV ?_)))|refine nZ ?_));all_goals first | (exfalso;omega) | skip
    refine W6 (X := {i : Nat // i≤m+1}) (fun i => [(1,.pr [.rowE (Go.Ab.ints (nats l)) 1] 0),(2,.ptr 0 0),(12,.rowE (Go.Ab.ints (nats l)) 1),(13,.i (Go.Ab.ints (nats l)).length),(14,.i (i.1 : Int))]) (fun _ => [.cells [.clo (.yield y) [] []]]) (fun i => (i.1 * iW m,false)) (fun i => m+1 - i.1) ⟨0,bU _⟩ (by rw [H7]) ⟨[0],rfl,⟨rfl,rfl,rfl,rfl,rfl,trivial⟩,⟨.inr rfl,trivial⟩,by decide,wX⟩ ?_
    rintro ⟨i,hi⟩;dsimp only;by_cases hlt : i<m+1
    · have q1 := zX6 (l := l) (j := (i : Int)) (i := i) (by omega) rfl
      have hcl := L1 (nats l) (by rw [zG];omega)
      rw [zG] at hcl;have hd := MS (nats l) i (i+1) (by omega) (by rw [zG];omega) (fun e => by have := congrArg List.length e;rw [zG,hl] at this;simp at this)
      rw [zG,SJ,SK,← dB,GD,show ((i+1 : Nat) : Int)=(i : Int)+1 from rfl] at hd
      have hel : (l.eraseIdx i).length=m := by rw [M3 (by omega)];omega
      have hlen2 : l.length - (i+1 - i)=m := by omega
      rw [hlen2] at hd;have hel2 := uE (l.eraseIdx i);rw [hel] at hel2;have hsq := VN (l.eraseIdx i);have hI := ih (l.eraseIdx i) hel (by omega)
      have hst := fun k (hk : k<iW m) => RI (l := l) (i := i) hk;generalize lB l i=x at *;generalize hE : l.eraseIdx i=l' at *;have hrf := Go.Ab.ints_rf (nats l);have hfz : ∀ θ : Nat→Nat,(Go.Ab.ints (nats l')).map (AV.mapL θ)=Go.Ab.ints (nats l') := fun θ => Go.Ab.ints_map θ _
      (repeat' (first|(first|(refine qB ?_)|(refine rK ?_)|(refine uI ?_))|((refine oC rfl (fun hb=>?_) (fun hb=>?_)<;>(((try simp only [nm] at hb);try ((exfalso;omega);done)))))|(((refine lG hJ (dA (id := 4) ?_)));(all_goals (refine vV (aL rfl rfl) ?_)))|(((refine lG hJ (dA (id := 5) ?_)));(all_goals (refine mV ?_;refine vV (ix T rfl (by omega) (Go.Ab.ints_len _) q1) ?_;refine lV T ?_;refine bQ (bT T rfl) rfl ?_;refine aV ?_;refine aU T rfl rfl rfl rfl rfl rfl (by decide) rfl ?_)))|(((refine lG hJ (dA (id := 6) ?_)));(all_goals (refine lV T ?_));(all_goals (refine bQ (by exact fL rfl rfl hcl (.inr ⟨rfl,rfl,by simp [Go.Ab.ints_rf]⟩)) rfl ?_));(all_goals (refine yB8 ?_;refine vV (bV rfl rfl (by omega) (by omega)) ?_));(all_goals (refine fF [2] rfl rfl hd rfl rfl (by decide) ⟨.inr (aD rfl (Go.Ab.ints_map _ _) (Go.Ab.ints_idf _)),trivial⟩ (by simp) rfl ?_;refine kR 24 (k := 2) (es := Go.Ab.ints (nats l')) rfl (by show some (AB.arr ((Go.Ab.ints (nats l')).map (AV.mapL _)) 1) = _;rw [hfz]) hel2.symm (Go.Ab.ints_idfF _) ?_));(all_goals (refine aV ?_)))|(((refine lG hJ (dA (id := 7) ?_)));(all_goals (refine mV ?_;refine vV (by exact eQ rfl rfl hsq rfl rfl rfl) ?_)))|refine nZ ?_));all_goals first | (exfalso;omega) | skip
      have hFi : i * iW m+iW m≤iW (m+1) := by
        have h1 := eW (iW m) (Nat.succ_le_of_lt hlt);rw [yF0] at h1;rw [hF,pO (iW m)];exact h1
      refine ZL hJ [0,1] [(1,.pr [.rowE (Go.Ab.ints (nats l)) 1] 0),(2,.ptr 0 0),(4,.ptr 1 0),(12,.rowE (Go.Ab.ints (nats l)) 1),(13,.i (Go.Ab.ints (nats l)).length),(14,.i (i : Int))] (fun _ => [.cells [.clo (.yield y) [] []],.cells [.i (x : Int)]]) (fun k => (i * iW m+k,false)) 2 rfl hI rfl rfl (by rw [Nat.add_zero]) rfl ⟨rfl,rfl,rfl,rfl,rfl,rfl,trivial⟩ ⟨.inr rfl,.inr rfl,trivial⟩ (by decide) (wX) (bU _) (aN rfl) rfl (by decide) (fun k hk => ⟨rfl,rfl⟩) ?_ ?_
      · intro k hk;have hit := hst k hk;have hul : (U9 m l' k).length=m := NX m _ _;have hsi : VO m l' k=[.rowE (Go.Ab.ints (nats (U9 m l' k))) 1] := rfl;rw [hsi];generalize U9 m l' k=tl at *;have htl := uE tl;refine lG hJ (dA (id := 8) ?_);refine vV (by exact eI rfl) ?_
        refine fU ?_;refine ⟨rfl,?_⟩;refine rK ?_;refine qB ?_;refine ZM hJ 5 36 [[],[],[1],[],[1,2,3],[0,1,2,3,4],[0,1,2,3,4,5]] [[],[],[1],[],[1,2,3]] [28,29,30,31,32] [[],[28],[28],[28,29,30],[28]] cJ rfl (by decide +kernel) (by decide +kernel) ?_
        dsimp only [List.take,List.drop];refine dV rfl (by exact aP T rfl rfl rfl rfl) ?_
        refine dV rfl (by exact aP T rfl rfl rfl rfl) ?_
        refine zT rfl rfl rfl (by exact JQ T rfl rfl (by decide) (by decide) rfl rfl rfl) rfl ?_
        refine dV rfl (by exact cC rfl) ?_
        cases tl with
        | nil =>
          refine dV rfl (by exact CD T rfl rfl rfl rfl rfl rfl rfl (by simp) (.row (Go.Ab.ints_len _))) ?_
          refine P7 rfl rfl (by (first | (dsimp only [List.nil_append,List.cons_append,List.append_nil,List.length_cons,List.length_nil,List.set_cons_zero,List.set_cons_succ,List.map_cons,List.map_nil,jO,lY,lA,pE,BY,uS,E5,E3,E2,E4,uR,uU,uQ,uT,Nat.zero_add,Nat.add_zero,Nat.reduceAdd,Bool.not_true,Bool.not_false];first | done | exact rfl) | exact rfl)) ?_
          refine QV 2 rfl ?_;refine kR 32 rfl rfl rfl rfl ?_;refine fU ?_;refine yY hJ hy rfl rfl rfl (by omega) hit rfl ?_
          intro yes;refine HH hJ ?_;refine vV (by exact dX rfl) ?_
          refine fU ?_;refine oC rfl (fun hb => ?_) (fun hb => ?_)
          · refine BG ?_;refine ⟨⟨_,rfl⟩,[.cells [.clo (.yield y) [] []],.cells [.i (x : Int)]],⟨[0,1],rfl,trivial,⟨.inr rfl,.inr rfl,trivial⟩,by decide,zH6⟩,?_⟩
            exact ⟨.inl rfl,fun h => (by rw [hb] at h;cases h),[],rfl⟩
          · refine uI ?_;have : (!yes)=false := hb;refine ⟨by rw [this];rfl,[0,1],rfl,trivial,⟨.inr rfl,.inr rfl,trivial⟩,by decide,zH6⟩
        | cons z tl =>
          refine zT rfl rfl rfl (by exact FY T rfl rfl rfl rfl rfl rfl rfl (by simp) (by simp) (.row (Go.Ab.ints_len _)) (by simp at hul ⊢;omega) (by simp at hul ⊢;omega)) rfl ?_
          refine P7 rfl rfl (by (first | (dsimp only [List.nil_append,List.cons_append,List.append_nil,List.length_cons,List.length_nil,List.set_cons_zero,List.set_cons_succ,List.map_cons,List.map_nil,jO,lY,lA,pE,BY,uS,E5,E3,E2,E4,uR,uU,uQ,uT,Nat.zero_add,Nat.add_zero,Nat.reduceAdd,Bool.not_true,Bool.not_false];first | done | exact rfl) | exact rfl)) ?_
          refine kR 32 (es := [[AV.i (x : Int)]] ++ Go.Ab.ints (nats (z :: tl))) rfl rfl (by simp;omega) (Go.Ab.ints_idfF (nats (x :: z :: tl))) ?_
          refine fU ?_;refine yY hJ hy rfl rfl rfl (by omega) hit rfl ?_
          intro yes;refine HH hJ ?_;refine vV (by exact dX rfl) ?_
          refine fU ?_;refine oC rfl (fun hb => ?_) (fun hb => ?_)
          · refine BG ?_;refine ⟨⟨_,rfl⟩,[.cells [.clo (.yield y) [] []],.cells [.i (x : Int)]],⟨[0,1],rfl,trivial,⟨.inr rfl,.inr rfl,trivial⟩,by decide,zH6⟩,?_⟩
            exact ⟨.inl rfl,fun h => (by rw [hb] at h;cases h),[],rfl⟩
          · refine uI ?_;have : (!yes)=false := hb;refine ⟨by rw [this];rfl,[0,1],rfl,trivial,⟨.inr rfl,.inr rfl,trivial⟩,by decide,zH6⟩
      · (repeat' (first|(((refine lG hJ (dA (id := 10) ?_)));(all_goals (refine vV (bV rfl rfl (by omega) (by omega)) ?_;refine mV ?_)))|(refine I2 (by ((dsimp only [List.nil_append,List.cons_append,List.append_nil,List.length_cons,List.length_nil,List.set_cons_zero,List.set_cons_succ,List.map_cons,List.map_nil,jO,lY,lA,pE,BY,uS,E5,E3,E2,E4,uR,uU,uQ,uT,Nat.zero_add,Nat.add_zero,Nat.reduceAdd,Bool.not_true,Bool.not_false];done))) ?_)));all_goals first | (exfalso;omega) | skip
        exact ⟨⟨i+1,hlt⟩,by dsimp only;omega,by dsimp only;rw [yF0],[0],rfl,⟨rfl,rfl,rfl,rfl,rfl,trivial⟩,⟨.inr rfl,trivial⟩,by decide,wX⟩
    · obtain rfl : i=m+1 := by omega
      (repeat' (first|(first|(refine qB ?_)|(refine W7 ?_))|((refine oC rfl (fun hb=>?_) (fun hb=>?_)<;>(((try simp only [nm] at hb);try ((exfalso;omega);done)))))|(((refine lG hJ (dA (id := 4) ?_)));(all_goals (refine vV (aL rfl rfl) ?_)))|refine nZ ?_));all_goals first | (exfalso;omega) | skip
      exact ⟨.inr rfl,fun _ => by show (m+1) * iW m = _;rw [hF,pO],[],rfl⟩
def allK (m : Nat) (l : List Nat) (k : Nat) : List (List Nat) := (List.range k).map (U9 m l)
theorem TX (m : Nat) (l : List Nat) (k : Nat) : allK m l (k+1)=allK m l k ++ [U9 m l k] := by
  unfold allK;rw [E0,dB];rfl
theorem allK_len (m : Nat) (l : List Nat) (k : Nat) : (allK m l k).length=k := by simp [allK]
abbrev yD6 (w : List (List Nat)) : Hp := [.cells [.sl 1 0 w.length 1],.arr (lls w) 1]
theorem GR {m : Nat} (l : List Nat) (hl : l.length=m) (hm : m≤10) : aR Tryz.prog 158 [.nils,zQ0 l] [] (.sl 0 0 (iW m) 1) [.arr (lls (allK m l (iW m))) 1] := by
  have hit := zP9 m l hl (by omega)
  have hF : iW m≤2432902008176640000 := zK6 (by omega)
  have hF2 : iW m≤3628800 := bA (fact_mono hm) (by decide)
  have hal := allK_len m l;refine bO T Tryz.func158 rfl rfl rfl rfl ?_
  (repeat' (first|refine wS ?_|refine wB ?_|(refine rg 0 (bQ (cD rfl rfl) rfl (aV ?_)))|(refine rg 1 (mV ?_))|refine nZ ?_));refine uK 0 0 1 rfl rfl (by decide) ?_
  refine BH [] [0,1] [(2,.ptr 0 0)] (fun k => yD6 (allK m l k)) 1 rfl hit rfl rfl rfl trivial cQ rfl ⟨rfl,trivial⟩ ⟨.inr rfl,.inr rfl,trivial⟩ (by decide) (wX) (by simp) (bU _) (aN rfl) rfl (by decide) (fun k hk => ⟨rfl,rfl⟩) ?_ ?_
  · intro k hk;have hsi : VO m l k=[.rowE (Go.Ab.ints (nats (U9 m l k))) 1] := rfl;rw [hsi];have hks := TX m l k;have hkl := hal k;generalize allK m l k=K at hks hkl ⊢;generalize U9 m l k=x at *;have hll := lls_length K;refine dA (id := 2) ?_;refine vV (by exact eI rfl) ?_
    refine fU ?_;refine ⟨rfl,?_⟩
    repeat' (first|refine wB ?_|(refine rg 3 (lW T rfl (mW rfl (bQ (by exact bC T rfl rfl (by decide) (by decide) rfl rfl rfl) rfl ?_)));refine fR T rfl rfl rfl rfl rfl rfl (by simp) (kJ.whole rfl rfl) rfl (by simp;omega) (by simp;omega) rfl ?_;refine aU T rfl rfl rfl rfl rfl rfl (by decide) rfl ?_)|refine nZ ?_)
    show BW _ _ _ _ (yD6 (allK m l (k+1)));rw [hks];exact ⟨[0,3],rfl,trivial,⟨.inr (by simp;rfl),.inr (aD rfl ((lQ hll.symm).trans (XM _ _)) (OY _)),trivial⟩,by decide,zR4⟩
  · have e := hal (iW m)
    (repeat' (first|refine wS ?_|refine wR ?_|(refine rg 4 (lW T rfl (aV ?_)))|refine nZ ?_));exact ⟨.inl rfl,[1],_,rfl,by show AV.sl 1 0 (allK m l (iW m)).length 1=AV.sl 1 0 (iW m) 1;rw [e],rfl,⟨.inr (aD rfl rfl (OY _)),trivial⟩,by decide,wX⟩
theorem MV {m : Nat} (l : List Nat) (hl : l.length=m) (hm : m≤10) : aR Tryz.prog 119 [zQ0 l] [] (.rowE (lls (allK m l (iW m))) 1) [] := by
  have h1 := mH (by simp [allK_len] : iW m=(lls (allK m l (iW m))).length) (XN _) (GR l hl hm)
  refine bO T Tryz.func119 rfl rfl rfl rfl ?_
  (repeat' (first|refine wS ?_|refine wR ?_|(refine rg 0 (aV ?_))|(refine rg 1 (mW rfl (vV (by exact eQ rfl rfl h1 rfl rfl rfl) ?_));refine aV ?_)|refine nZ ?_));exact rQ
def allM (n : Int) : List (List Nat) := if 0≤n∧n≤7 then allK n.toNat (List.range n.toNat) (iW n.toNat) else []
theorem all_c (n : Int) : aR Tryz.prog 75 [.i n] [] (.rowE (lls (allM n)) 1) [] := by
  unfold allM;by_cases h : 0≤n∧n≤7
  · rw [if_pos h];have h1 := J7 n (by omega)
    have h2 := VN (List.range n.toNat);have h3 := MV (m := n.toNat) (List.range n.toNat) T4 (by omega)
    generalize allK n.toNat (List.range n.toNat) (iW n.toNat)=A at *;generalize List.range n.toNat=I at *;refine bO T Tryz.func75 rfl rfl rfl rfl ?_
    (repeat' (first|refine wS ?_|refine wK ?_|refine wR ?_|(refine wC rfl ?_ ?_<;>(intro hb;(try simp only [nm] at hb);try (exfalso;omega)))|(refine rg 0 (aV ?_))|(refine rg 1 (mW rfl (vV (aL rfl rfl) (mV ?_)));refine cH rfl rfl ?_ ?_<;>(intro hb;rw [hb];(try simp only [nm] at hb);try (exfalso;omega));(all_goals (refine yN rfl (yV (fM rfl rfl) (pV ?_)))))|(refine rg 3 (mW rfl (vV (kC (h1)) (vV (kC (h2)) (vV (kC (h3)) (aV ?_))))))|refine nZ ?_));all_goals first | (exfalso;omega) | exact rQ
  · rw [if_neg h];refine NL ?_;refine bO T Tryz.func75 rfl rfl rfl rfl ?_
    (repeat' (first|refine wS ?_|refine wR ?_|refine wT ?_|(refine wC rfl ?_ ?_<;>(intro hb;(try simp only [nm] at hb);try (exfalso;omega)))|(refine rg 0 (aV ?_))|(refine rg 1 (mW rfl (vV (aL rfl rfl) (mV ?_)));refine cH rfl rfl ?_ ?_<;>(intro hb;rw [hb];(try simp only [nm] at hb);try (exfalso;omega));(all_goals first|(refine gT (mW rfl (gT (vV (fM rfl rfl) ?_))))|(iterate 2 refine gF ?_));(all_goals (refine pV ?_)))|(refine rg 2 (aV ?_))|refine nZ ?_));all_goals first | (exfalso;omega) | exact rQ
end Go.Proofs.YtmmkhmilpeodnaaGreat.PA
